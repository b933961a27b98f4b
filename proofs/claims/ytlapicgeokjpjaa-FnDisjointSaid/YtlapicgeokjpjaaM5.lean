/- Texts of mine laid together (KLt, Km). -/
import Derived.Test.YtlapicgeokjpjaaM2
/- One light as an argument: weighed, copied, compared, marked. -/
namespace Go.Proofs.Ytlapicgeokjpjaa
open Go.RowKit Go.PlainAid

def LgRaw (w : World) (v : Value) (X : LtV) : Prop := ∃ x : LL, v = llV x ∧ Ints w x.r.q x.r.fibs ∧ x.r.fibs.length ≤ 9223372036854775807 ∧ X = x.val
def LgSmall (X : LtV) : Prop := X.2.1.2.length ≤ 1048576
def LgIn (w : World) (v : Value) (X : LtV) : Prop := ∃ x : LL, v = llV x ∧ Ints w x.r.q x.r.fibs ∧ x.r.fibs.length ≤ 1048576 ∧ X = x.val
theorem LgRaw.keep {w w' : World} {v : Value} {X : LtV} (h : LgRaw w v X) (hb : Fresh w w') : LgRaw w' v X := by
  obtain ⟨x, h1, h2, r⟩ := h
  exact ⟨x, h1, h2.keep hb, r⟩
theorem LgIn.keep {w w' : World} {v : Value} {X : LtV} (h : LgIn w v X) (hb : Fresh w w') : LgIn w' v X := by
  obtain ⟨x, h1, h2, r⟩ := h
  exact ⟨x, h1, h2.keep hb, r⟩
theorem LgRaw.small {w : World} {v : Value} {X : LtV} (h : LgRaw w v X) (hs : LgSmall X) : LgIn w v X := by
  obtain ⟨x, h1, h2, h3, rfl⟩ := h
  exact ⟨x, h1, h2, hs, rfl⟩
theorem LgRaw.shape {w : World} {v : Value} {X : LtV} (h : LgRaw w v X) : ∃ i s q m c b d, v = .agg #[.int .i64 i, .int .i64 s, .slice q m c, .int .i64 b, .int .i64 d] := by
  obtain ⟨x, h1, _⟩ := h
  exact ⟨_, _, _, _, _, _, _, h1⟩
theorem LgIn.shape {w : World} {v : Value} {X : LtV} (h : LgIn w v X) : ∃ i s q m c b d, v = .agg #[.int .i64 i, .int .i64 s, .slice q m c, .int .i64 b, .int .i64 d] := by
  obtain ⟨x, h1, _⟩ := h
  exact ⟨_, _, _, _, _, _, _, h1⟩
/-- One light of the argument's own. -/
def LgMine (w : World) (lo hi : Nat) (v : Value) : Prop := ∃ x : LL, v = llV x ∧ OwnIn w lo hi 3 x.r.q x.r.fibs.length ∧ x.r.fibs.length ≤ 1048576
theorem LgMine.keep {w w' : World} {lo hi : Nat} {v : Value} (h : LgMine w lo hi v) (hb : Fresh w w') : LgMine w' lo hi v := by
  obtain ⟨x, h1, h2, r⟩ := h
  exact ⟨x, h1, h2.keep hb, r⟩
theorem LgMine.mk {T : TypeId → Prop} {lo' hi' : Nat} {w w' : World} {lo hi : Nat} {v : Value} (_ : True) (h : LgMine w lo hi v) (hb : Mk T lo' hi' w w') : LgMine w' lo hi v := by
  obtain ⟨x, h1, h2, r⟩ := h
  exact ⟨x, h1, h2.mk hb, r⟩
section
open Go.ChangeShapes Go.WideShapes Go.ChangeAt Go.Joins
variable {H : Type} {enc : TypeId × Value → H}
end
end Go.Proofs.Ytlapicgeokjpjaa

/- Contracts: a result that is a route (or two of them), compared, marked, asked again. -/
namespace Go.Proofs.Ytlapicgeokjpjaa
open Go.RowKit Go.PlainAid

def SmRt (R : Int × List Int) : Prop := R.2.length ≤ 1048576
def RtOwn (w : World) (base : Nat) (v : Value) (R : Int × List Int) : Prop := ∃ q c, v = .agg #[.int .i64 R.1, .slice q R.2.length c] ∧ Own w base 3 q (R.2.map iv)
def RtHeld (w : World) (lo hi : Nat) (v : Value) (R : Int × List Int) : Prop := ∃ q c, v = .agg #[.int .i64 R.1, .slice q R.2.length c] ∧ Held w lo hi 3 q (R.2.map iv)
theorem RtOwn.shape {w : World} {base : Nat} {v : Value} {R : Int × List Int} (h : RtOwn w base v R) : ∃ s q m c, v = .agg #[.int .i64 s, .slice q m c] := by
  obtain ⟨q, c, rfl, _⟩ := h
  exact ⟨_, _, _, _, rfl⟩
theorem RtOwn.keep {w w' : World} {base : Nat} {v : Value} {R : Int × List Int} (h : RtOwn w base v R) (hb : Fresh w w') : RtOwn w' base v R := by
  obtain ⟨q, c, h1, h2⟩ := h
  exact ⟨q, c, h1, h2.keep hb⟩
theorem RtOwn.mono {w : World} {base base' : Nat} {v : Value} {R : Int × List Int} (h : RtOwn w base v R) (hb : base' ≤ base) : RtOwn w base' v R := by
  obtain ⟨q, c, h1, h2⟩ := h
  exact ⟨q, c, h1, h2.mono hb⟩
theorem RtOwn.held {w : World} {lo : Nat} {v : Value} {R : Int × List Int} (h : RtOwn w lo v R) : RtHeld w lo w.heap.size v R := by
  obtain ⟨q, c, h1, h2⟩ := h
  exact ⟨q, c, h1, h2.held⟩
theorem RtHeld.own {w : World} {lo hi : Nat} {v : Value} {R : Int × List Int} (h : RtHeld w lo hi v R) : RtOwn w lo v R := by
  obtain ⟨q, c, h1, h2⟩ := h
  exact ⟨q, c, h1, h2.1⟩
theorem RtHeld.keep {w w' : World} {lo hi : Nat} {v : Value} {R : Int × List Int} (h : RtHeld w lo hi v R) (hb : Fresh w w') : RtHeld w' lo hi v R := by
  obtain ⟨q, c, h1, h2⟩ := h
  exact ⟨q, c, h1, h2.keep hb⟩
theorem RtHeld.wide {w : World} {lo hi lo' hi' : Nat} {v : Value} {R : Int × List Int} (h : RtHeld w lo hi v R) (hl : lo' ≤ lo) (hh : hi ≤ hi') : RtHeld w lo' hi' v R := by
  obtain ⟨q, c, h1, h2⟩ := h
  exact ⟨q, c, h1, h2.wide hl hh⟩
theorem RtHeld.mk {T : TypeId → Prop} {lo hi lo' hi' : Nat} {w w' : World} {v : Value} {R : Int × List Int} (h : RtHeld w lo hi v R) (hb : Mk T lo' hi' w w') (hd : hi ≤ lo' ∨ hi' ≤ lo) : RtHeld w' lo hi v R := by
  obtain ⟨q, c, h1, h2⟩ := h
  exact ⟨q, c, h1, h2.mk hb hd⟩
theorem RtHeld.below {lo hi base : Nat} {w w' : World} {v : Value} {R : Int × List Int} (h : RtHeld w lo hi v R) (hb : Below base w w') (hd : hi ≤ base) : RtHeld w' lo hi v R := by
  obtain ⟨q, c, h1, h2⟩ := h
  exact ⟨q, c, h1, h2.below hb hd⟩
theorem RtOwn.rtIn {w : World} {base : Nat} {v : Value} {R : Int × List Int} (h : RtOwn w base v R) (hs : SmRt R) : RtIn w v R := by
  obtain ⟨q, c, h1, h2⟩ := h
  exact ⟨R.1, q, c, R.2, h1, h2.ints, hs, rfl⟩
def RtMk (w : World) (base : Nat) (k0 : Int) (v : Value) (n : Nat) : Prop := ∃ s q c, v = .agg #[.int .i64 s, .slice q n c] ∧ MkRow w base 3 q n (fun t => iv (k0 + (t : Int)))
theorem RtMk.keep {w w' : World} {base : Nat} {k0 : Int} {v : Value} {n : Nat} (h : RtMk w base k0 v n) (hb : Fresh w w') : RtMk w' base k0 v n := by
  obtain ⟨s, q, c, h1, h2⟩ := h
  exact ⟨s, q, c, h1, h2.keep hb⟩
theorem QMk.own {base base' : Nat} {q q' : Option Addr} {cs : List Value} {w w' : World} (h : QMk base q w w') (hr : Own w base' 3 q' cs) (hd : ∀ g o h o', q = some ⟨g, o, none⟩ → q' = some ⟨h, o', none⟩ → g ≠ h) : Own w' base' 3 q' cs := by
  rcases h with rfl | ⟨b, hq, _, hb⟩
  · exact hr
  · rcases hr with hr | ⟨g, sp, h1, h2, h3⟩
    · exact Or.inl hr
    · exact Or.inr ⟨g, sp, h1, h2, hb.other h3 (fun e => (hd b 0 g 0 hq h1) e.symm)⟩
/-- Two routes whose fibers lie in rows of their own. -/
def RtApart (v u : Value) : Prop := ∀ a q n c a' q' n' c', v = .agg #[a, .slice q n c] → u = .agg #[a', .slice q' n' c'] → ∀ g o h o', q = some ⟨g, o, none⟩ → q' = some ⟨h, o', none⟩ → g ≠ h
/-- A route of the call's own, as an argument. -/
def RtMine (w : World) (lo hi : Nat) (v : Value) : Prop := ∃ s q n c, v = .agg #[.int .i64 s, .slice q n c] ∧ OwnIn w lo hi 3 q n ∧ n ≤ 1048576
theorem RtMine.keep {w w' : World} {lo hi : Nat} {v : Value} (h : RtMine w lo hi v) (hb : Fresh w w') : RtMine w' lo hi v := by
  obtain ⟨s, q, n, c, h1, h2, h3⟩ := h
  exact ⟨s, q, n, c, h1, h2.keep hb, h3⟩
theorem RtMine.mk {T : TypeId → Prop} {lo' hi' : Nat} {w w' : World} {lo hi : Nat} {v : Value} (_ : True) (h : RtMine w lo hi v) (hb : Mk T lo' hi' w w') : RtMine w' lo hi v := by
  obtain ⟨s, q, n, c, h1, h2, h3⟩ := h
  exact ⟨s, q, n, c, h1, h2.mk hb, h3⟩
end Go.Proofs.Ytlapicgeokjpjaa

