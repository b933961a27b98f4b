/- A longer route never needs fewer slots, and a higher rate never fewer: the plain law (no program in sight). -/
import Derived.Test.YtnhjacaiggghnaaFmt3
namespace Go.Proofs.Ytnhjacaiggghnaa
open Go.RowKit

theorem rate_step {l : List (Int × Int)} (h : fmtsB l = true) {k : Nat} (hk : k + 1 < l.length) : rateAt l (k : Int) < rateAt l ((k + 1 : Nat) : Int) := by
  unfold fmtsB at h
  rw [Bool.and_eq_true, List.all_eq_true] at h
  have ho := h.1 (k + 1) (List.mem_range.2 hk)
  have hx : l[k + 1]? = some l[k + 1] := List.getElem?_eq_getElem hk
  have hy : l[k]? = some l[k] := List.getElem?_eq_getElem (by omega)
  have h0 : decide (k + 1 = 0) = false := decide_eq_false (by omega)
  unfold okAt at ho
  simp only [hx, Nat.add_sub_cancel, hy, h0, Bool.false_or, Bool.and_eq_true, decide_eq_true_eq] at ho
  unfold rateAt
  simp only [List.getD, Int.toNat_natCast, hx, hy, Option.getD_some]
  exact ho.2.2
theorem rate_mono {l : List (Int × Int)} (h : fmtsB l = true) {i : Nat} : ∀ {j : Nat}, i ≤ j → j < l.length → rateAt l (i : Int) ≤ rateAt l (j : Int) := by
  intro j
  induction j with
  | zero =>
    intro hi _
    have : i = 0 := by omega
    subst this; exact Int.le_refl _
  | succ j ih =>
    intro hi hj
    rcases Nat.eq_or_lt_of_le hi with e | e
    · subst e; exact Int.le_refl _
    · have h1 := ih (by omega) (by omega)
      have h2 := rate_step h hj
      omega
theorem best_anti (l : List (Int × Int)) {n d : Int} (hd : 0 ≤ d) : ∀ k, bestTo l (n + d) k ≤ bestTo l n k := by
  intro k
  induction k with
  | zero => exact Int.le_refl _
  | succ k ih =>
    unfold bestTo
    have hb := bestTo_bound l (n + d) k
    split
    · rename_i h1
      rw [if_pos (by omega)]; exact Int.le_refl _
    · split
      · omega
      · exact ih
theorem quo_anti {r q q' : Int} (hr : 1 ≤ r) (hq' : 1 ≤ q') (h : q' ≤ q) : (r + q - 1) / q ≤ (r + q' - 1) / q' := by
  obtain ⟨a, ha⟩ : ∃ a, a = (r + q' - 1) / q' := ⟨_, rfl⟩
  have h1 : r + q' - 1 < ((r + q' - 1) / q' + 1) * q' := Int.lt_ediv_add_one_mul_self _ (by omega)
  have h2 : 1 ≤ (r + q' - 1) / q' := quo_pos hr hq'
  rw [← ha] at h1 h2 ⊢
  have h3 : (a + 1) * q' = a * q' + q' := by rw [Int.add_mul, Int.one_mul]
  have h4 : a * q' ≤ a * q := Int.mul_le_mul_of_nonneg_left h (by omega)
  have h5 : (a + 1) * q = a * q + q := by rw [Int.add_mul, Int.one_mul]
  have h6 : (r + q - 1) / q < a + 1 := Int.ediv_lt_of_lt_mul (by omega) (by rw [h5]; omega)
  omega
theorem quo_mono {r e q : Int} (he : 0 ≤ e) (hq : 1 ≤ q) : (r + q - 1) / q ≤ (r + e + q - 1) / q := Int.ediv_le_ediv (by omega) (by omega)
theorem slots_val {l : List (Int × Int)} {n r k : Int} (h : slotsF l n r = (k, true)) : fmtsB l = true ∧ 1 ≤ r ∧ 0 ≤ bestI l n ∧ k = (r + rateAt l (bestI l n) - 1) / rateAt l (bestI l n) := by
  unfold slotsF at h
  split at h
  · rename_i hc
    simp only [Bool.and_eq_true, Bool.not_eq_true', beq_eq_false_iff_ne, ne_eq] at hc
    obtain ⟨⟨⟨h1, h2⟩, h3⟩, h4⟩ := hc
    have hr := inB_iff.1 h3
    have hk : slotsN l n r = k := (Prod.mk.inj h).1
    have hb : ¬ bestI l n < 0 := fun hb => h4 (slotsN_none hb)
    have hm : ¬ 24 < (r + rateAt l (bestI l n) - 1) / rateAt l (bestI l n) := fun hm => h4 (slotsN_many hm)
    exact ⟨h1, hr.1, by omega, by rw [← hk]; exact slotsN_some hb hm⟩
  · cases h
theorem slots_longer {l : List (Int × Int)} {n d r k k' : Int} (hd : 0 ≤ d) (h : slotsF l n r = (k, true)) (h2 : slotsF l (n + d) r = (k', true)) : k ≤ k' := by
  obtain ⟨h1, hr, hb, rfl⟩ := slots_val h
  obtain ⟨_, _, hb2, rfl⟩ := slots_val h2
  have ha : bestI l (n + d) ≤ bestI l n := best_anti l hd l.length
  have hl := bestI_bound l n
  have hm := rate_mono h1 (i := (bestI l (n + d)).toNat) (j := (bestI l n).toNat) (by omega) (by omega)
  rw [Int.toNat_of_nonneg hb, Int.toNat_of_nonneg hb2] at hm
  exact quo_anti hr (rateAt_range h1 hb2 (by omega)).1 hm
theorem slots_higher {l : List (Int × Int)} {n e r k k' : Int} (he : 0 ≤ e) (h : slotsF l n r = (k, true)) (h2 : slotsF l n (r + e) = (k', true)) : k ≤ k' := by
  obtain ⟨h1, hr, hb, rfl⟩ := slots_val h
  obtain ⟨_, _, _, rfl⟩ := slots_val h2
  exact quo_mono he (rateAt_range h1 hb (bestI_bound l n).2).1
end Go.Proofs.Ytnhjacaiggghnaa
