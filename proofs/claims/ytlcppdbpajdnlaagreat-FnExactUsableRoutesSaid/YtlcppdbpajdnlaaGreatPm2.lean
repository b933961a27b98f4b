/- Contracts: the exact marks of a plan's lights, and of a plan. -/
import Derived.Test.YtlcppdbpajdnlaaGreatPm
namespace Go.Proofs.YtlcppdbpajdnlaaGreat
open Go.RowKit Go.PlainAid

abbrev inT : TypeId → Prop := fun t => t = 3
def QMk (base : Nat) (q : Option Addr) (w w' : World) : Prop := w' = w ∨ ∃ g, q = some ⟨g, 0, none⟩ ∧ base ≤ g ∧ Mk inT g (g + 1) w w'
theorem QMk.row {base : Nat} {q : Option Addr} {w w' : World} (h : QMk base q w w') {g : Nat} {t : TypeId} {cs : List Value} (hr : RowAt w g t cs) (ht : t ≠ 3) : RowAt w' g t cs := by
  rcases h with rfl | ⟨b, _, _, hb⟩
  · exact hr
  · exact hb.row _ _ _ hr ht
theorem QMk.below {base : Nat} {q : Option Addr} {w w' : World} (h : QMk base q w w') : Below base w w' := by
  rcases h with rfl | ⟨b, _, hg, hb⟩
  · exact Below.refl _ _
  · exact hb.low.mono hg
theorem QMk.rowN {base base' : Nat} {q q' : Option Addr} {n : Nat} {w w' : World} (h : QMk base q w w') (hr : RowN w base' 3 q' n) (hd : ∀ g o h o', q = some ⟨g, o, none⟩ → q' = some ⟨h, o', none⟩ → g ≠ h) : RowN w' base' 3 q' n := by
  rcases h with rfl | ⟨b, hq, _, hb⟩
  · exact hr
  · exact hr.other hb fun h o e => (hd b 0 h o hq e).symm
theorem QMk.mkRow {base base' : Nat} {q q' : Option Addr} {n : Nat} {mc : Nat → Value} {w w' : World} (h : QMk base q w w') (hr : MkRow w base' 3 q' n mc) (hd : ∀ g o h o', q = some ⟨g, o, none⟩ → q' = some ⟨h, o', none⟩ → g ≠ h) : MkRow w' base' 3 q' n mc := by
  rcases h with rfl | ⟨b, hq, _, hb⟩
  · exact hr
  · exact hr.other hb fun h o e => (hd b 0 h o hq e).symm
theorem markIntS_q (q : Option Addr) (cap n base : Nat) (k0 : Int) (w : World) (h : RowN w base 3 q n) (hn : n ≤ 1099511627776) (h0 : 0 ≤ k0) (h1 : k0 ≤ 281474976710656) :
    Calls Tryz.prog 21 #[.slice q n cap, .int .i64 k0] w fun e w' => e = .returned (.int .i64 (k0 + n)) ∧ MkRow w' base 3 q n (fun t => iv (k0 + (t : Int))) ∧ QMk base q w w' := by
  rcases h with rfl | ⟨g, cs, rfl, hg, hr, hl⟩
  · refine (markIntS_z q cap k0 w).mono ?_
    rintro e w' ⟨rfl, rfl⟩
    exact ⟨by simp, Or.inl rfl, Or.inl rfl⟩
  · refine (markIntS_p g cap n base cs k0 w hr hg hl hn h0 h1).mono ?_
    rintro e w' ⟨rfl, h2, h3⟩
    exact ⟨rfl, h2, Or.inr ⟨g, rfl, hg, h3⟩⟩
theorem RowN.setO {w : World} {base g : Nat} {t T : TypeId} {cs : List Value} {q : Option Addr} {n : Nat} (h : RowN w base t q n) (hr : RowAt w g T cs) (hT : t ≠ T) (i : Nat) (v : Value) : RowN (w.setCell ⟨g, i, none⟩ v) base t q n := by
  rcases h with h | ⟨b, cs', h1, h2, h3, h4⟩
  · exact Or.inl h
  · exact Or.inr ⟨b, cs', h1, h2, h3.setOther (fun e => by subst e; exact hT (h3.inj hr).1) _, h4⟩
theorem MkRow.setO {w : World} {base g : Nat} {t T : TypeId} {cs : List Value} {q : Option Addr} {n : Nat} {mc : Nat → Value} (h : MkRow w base t q n mc) (hr : RowAt w g T cs) (hT : t ≠ T) (i : Nat) (v : Value) : MkRow (w.setCell ⟨g, i, none⟩ v) base t q n mc := by
  rcases h with h | ⟨b, cs', h1, h2, h3, h4⟩
  · exact Or.inl h
  · exact Or.inr ⟨b, cs', h1, h2, h3.setOther (fun e => by subst e; exact hT (h3.inj hr).1) _, h4⟩
/-- Lights whose fibers lie in rows of their own. -/
def DistL (l : List LL) : Prop := ∀ (i j : Nat) (x y : LL), i ≠ j → l[i]? = some x → l[j]? = some y → ∀ g o h o', x.r.q = some ⟨g, o, none⟩ → y.r.q = some ⟨h, o', none⟩ → g ≠ h
def ltN (l : List LL) : Nat → Nat
  | 0 => 0
  | k + 1 => match l[k]? with | some x => ltN l k + (4 + x.r.fibs.length) | none => ltN l k
theorem ltN_step {l : List LL} {k : Nat} {x : LL} (h : l[k]? = some x) : ltN l (k + 1) = ltN l k + (4 + x.r.fibs.length) := by
  show (match l[k]? with | some x => ltN l k + (4 + x.r.fibs.length) | none => ltN l k) = _
  rw [h]
theorem ltN_le {l : List LL} (h : LtsSmall l) (k : Nat) : ltN l k ≤ 1048580 * k := by
  induction k with
  | zero => exact Nat.le_refl _
  | succ k ih =>
    cases hk : l[k]? with
    | none =>
      have e : ltN l (k + 1) = ltN l k := by
        show (match l[k]? with | some x => ltN l k + (4 + x.r.fibs.length) | none => ltN l k) = _
        rw [hk]
      rw [e]; omega
    | some x =>
      have := h.2 x (List.mem_of_getElem? hk)
      rw [ltN_step hk]; omega
def LtMk1 (w : World) (base : Nat) (k0 : Int) (cs : List Value) (i : Nat) (x : LL) (k : Nat) : Prop :=
  cs[i * 5]? = some (iv (k0 + k)) ∧ cs[i * 5 + 1]? = some (iv (k0 + k + 1)) ∧ cs[i * 5 + 3]? = some (iv (k0 + k + 1 + 1 + x.r.fibs.length)) ∧ cs[i * 5 + 4]? = some (iv (k0 + k + 1 + 1 + x.r.fibs.length + 1)) ∧
    MkRow w base 3 x.r.q x.r.fibs.length fun t => iv (k0 + k + 1 + 1 + (t : Int))
theorem set_ne {cs : List Value} {i t : Nat} {v u : Value} (h : cs[t]? = some u) (hne : i ≠ t) : (cs.set i v)[t]? = some u := by rw [List.getElem?_set_ne hne]; exact h
end Go.Proofs.YtlcppdbpajdnlaaGreat
