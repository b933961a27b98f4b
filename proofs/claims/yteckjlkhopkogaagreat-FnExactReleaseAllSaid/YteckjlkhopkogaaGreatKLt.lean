/- One light as an argument: weighed, copied, compared, marked. -/
import Derived.Test.YteckjlkhopkogaaGreatMl
namespace Go.Proofs.YteckjlkhopkogaaGreat
open Go.RowKit Go.PlainAid

def LgRaw (w : World) (v : Value) (X : LtV) : Prop := ∃ x : LL, v = llV x ∧ Ints w x.r.q x.r.fibs ∧ x.r.fibs.length ≤ 9223372036854775807 ∧ X = x.val
def LgSmall (X : LtV) : Prop := X.2.1.2.length ≤ 1048576
def LgIn (w : World) (v : Value) (X : LtV) : Prop := ∃ x : LL, v = llV x ∧ Ints w x.r.q x.r.fibs ∧ x.r.fibs.length ≤ 1048576 ∧ X = x.val
theorem LgRaw.keep {w w' : World} {v : Value} {X : LtV} (h : LgRaw w v X) (hb : Fresh w w') : LgRaw w' v X := by
  obtain ⟨x, h1, h2, r⟩ := h
  exact ⟨x, h1, h2.keep hb, r⟩
theorem LgIn.keep {w w' : World} {v : Value} {X : LtV} (h : LgIn w v X) (hb : Fresh w w') : LgIn w' v X := by
  obtain ⟨x, h1, h2, r⟩ := h
  exact ⟨x, h1, h2.keep hb, r⟩
theorem LgRaw.small {w : World} {v : Value} {X : LtV} (h : LgRaw w v X) (hs : LgSmall X) : LgIn w v X := by
  obtain ⟨x, h1, h2, h3, rfl⟩ := h
  exact ⟨x, h1, h2, hs, rfl⟩
theorem LgRaw.shape {w : World} {v : Value} {X : LtV} (h : LgRaw w v X) : ∃ i s q m c b d, v = .agg #[.int .i64 i, .int .i64 s, .slice q m c, .int .i64 b, .int .i64 d] := by
  obtain ⟨x, h1, _⟩ := h
  exact ⟨_, _, _, _, _, _, _, h1⟩
theorem LgIn.shape {w : World} {v : Value} {X : LtV} (h : LgIn w v X) : ∃ i s q m c b d, v = .agg #[.int .i64 i, .int .i64 s, .slice q m c, .int .i64 b, .int .i64 d] := by
  obtain ⟨x, h1, _⟩ := h
  exact ⟨_, _, _, _, _, _, _, h1⟩
theorem szLight_k (v : Value) (X : LtV) (left : Int) (w : World) (h : LgRaw w v X) (h0 : 0 ≤ left) (h1 : left ≤ 1048576) : Calls Tryz.prog 106 #[v, .int .i64 left] w (SzOut w left (LgSmall X)) := by
  obtain ⟨x, rfl, h2, h3, rfl⟩ := h
  exact szLight_any x left w h3 h0 h1
/-- One light of the argument's own. -/
def LgMine (w : World) (lo hi : Nat) (v : Value) : Prop := ∃ x : LL, v = llV x ∧ OwnIn w lo hi 3 x.r.q x.r.fibs.length ∧ x.r.fibs.length ≤ 1048576
theorem LgMine.keep {w w' : World} {lo hi : Nat} {v : Value} (h : LgMine w lo hi v) (hb : Fresh w w') : LgMine w' lo hi v := by
  obtain ⟨x, h1, h2, r⟩ := h
  exact ⟨x, h1, h2.keep hb, r⟩
theorem LgMine.mk {T : TypeId → Prop} {lo' hi' : Nat} {w w' : World} {lo hi : Nat} {v : Value} (_ : True) (h : LgMine w lo hi v) (hb : Mk T lo' hi' w w') : LgMine w' lo hi v := by
  obtain ⟨x, h1, h2, r⟩ := h
  exact ⟨x, h1, h2.mk hb, r⟩
theorem toLight_o (v : Value) (X : LtV) (w : World) (h : LgIn w v X) : Calls Tryz.prog 116 #[v] w fun e w' => ∃ v', e = .returned v' ∧ LgIn w' v' X ∧ LgMine w' w.heap.size w'.heap.size v' ∧ Fresh w w' := by
  obtain ⟨x, rfl, h2, h3, rfl⟩ := h
  refine (toLight_any x w h2 h3).mono ?_
  rintro e w' ⟨y, he, hv, ho, hf⟩
  have hl : y.r.fibs.length = x.r.fibs.length := congrArg (fun z : LtV => z.2.1.2.length) hv
  have h4 := ho.ownIn
  rw [List.length_map] at h4
  exact ⟨_, he, ⟨y, rfl, ho.cells, by omega, hv.symm⟩, ⟨y, rfl, h4, by omega⟩, hf⟩
theorem toLight_k (v : Value) (X : LtV) (w : World) (h : LgIn w v X) : Calls Tryz.prog 116 #[v] w fun e w' => ∃ v', e = .returned v' ∧ LgIn w' v' X ∧ Fresh w w' :=
  (toLight_o v X w h).mono (fun _ _ ⟨v', h1, h2, _, h4⟩ => ⟨v', h1, h2, h4⟩)
theorem eqLight_k (v v' : Value) (X : LtV) (w : World) (h : LgIn w v X) (h' : LgIn w v' X) : Calls Tryz.prog 70 #[v, v'] w fun e w' => e = .returned (.bool true) ∧ Fresh w w' := by
  obtain ⟨x, rfl, h2, h3, rfl⟩ := h
  obtain ⟨y, rfl, h2', h3', he⟩ := h'
  exact eqLight_same x y w he h2 h2' h3
section
open Go.ChangeShapes Go.WideShapes Go.ChangeAt Go.Joins
variable {H : Type} {enc : TypeId × Value → H}
set_option maxRecDepth 100000 in
theorem lg_of_trod {W : World} {r : Reach} {b : Nat} {v : Value} {d : DataW H} {p : List MemPlace} (hok : Value.okWide Tryz.prog W r b 133 v)
    (h : DataW.Trod enc Tryz.prog W 0 (fun _ => true) true 133 v d p) : ∃ X, LgRaw W v X := by
  obtain ⟨cs, rfl, _⟩ := okWide_struct Tryz.underlying133 hok
  obtain ⟨fuel, hfu⟩ := h
  obtain ⟨a, e, hI, hn⟩ := light_of_cells (x := (d, p)) (by simpa [Value.cells] using hfu)
  refine ⟨_, a, ?_, hI, hn, rfl⟩
  rw [← Array.toArray_toList (xs := cs), e]; try rfl
end
end Go.Proofs.YteckjlkhopkogaaGreat
