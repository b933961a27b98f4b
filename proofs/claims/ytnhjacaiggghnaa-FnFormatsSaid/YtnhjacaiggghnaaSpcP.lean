/- Free runs and occupied slots are all slots, and every rule finds a block where there is one: the plain law (no program in sight). -/
import Derived.Test.YtnhjacaiggghnaaBest2
import Derived.Test.YtnhjacaiggghnaaFit3
namespace Go.Proofs.Ytnhjacaiggghnaa
open Go.RowKit

/-- Slot s of a mask is free. -/
def Fr (M s : Nat) : Prop := s < 24 ∧ M.testBit s = false
theorem mkN_eq {f c : Nat} (h1 : 1 ≤ c) (h2 : f + c ≤ 24) : mkN ((f : Int), (c : Int)) = (2 ^ c - 1) <<< f := by
  have h := (mkF_val (f := (f : Int)) (c := (c : Int)) (by omega) (by omega) (by omega)).1
  unfold mkN
  simp only
  rw [h, Int.toNat_natCast, Int.toNat_natCast, Nat.shiftLeft_eq]
  have e : ((2 : Int) ^ c - 1) * 2 ^ f = (((2 ^ c - 1) * 2 ^ f : Nat) : Int) := by
    have h1 : 1 ≤ 2 ^ c := Nat.one_le_two_pow
    rw [Int.natCast_mul, Int.natCast_sub h1, Int.natCast_pow, Int.natCast_pow]
    rfl
  rw [e, Int.toNat_natCast]
theorem mkN_bit {f c s : Nat} (h1 : 1 ≤ c) (h2 : f + c ≤ 24) : (mkN ((f : Int), (c : Int))).testBit s = decide (f ≤ s ∧ s < f + c) := by
  rw [mkN_eq h1 h2, Nat.testBit_shiftLeft, Nat.testBit_two_pow_sub_one]
  by_cases hf : f ≤ s
  · rw [decide_eq_true hf, Bool.true_and]
    by_cases hs : s < f + c
    · rw [decide_eq_true (show s - f < c by omega), decide_eq_true ⟨hf, hs⟩]
    · rw [decide_eq_false (show ¬ s - f < c by omega), decide_eq_false (fun h => hs h.2)]
  · rw [decide_eq_false hf, Bool.false_and, decide_eq_false (fun h => hf h.1)]
theorem freeS_iff {M k : Nat} (hM : M < 16777216) : freeS (M : Int) k = true ↔ Fr M k := by
  unfold freeS Fr
  rw [Bool.and_eq_true, decide_eq_true_eq, and_one M k (lt63 hM), beq_iff_eq, Nat.testBit_eq_decide_div_mod_eq, decide_eq_false_iff_not]
  constructor
  · rintro ⟨h1, h2⟩; exact ⟨h1, by omega⟩
  · rintro ⟨h1, h2⟩; exact ⟨h1, by omega⟩
theorem freeAt_iff {M f c : Nat} (hM : M < 16777216) (h1 : 1 ≤ c) (h2 : f + c ≤ 24) : freeAt (M : Int) (c : Int) (f : Int) = true ↔ ∀ s, f ≤ s → s < f + c → Fr M s := by
  have hg : goodB (f : Int) (c : Int) = true := goodB_iff.2 ⟨by omega, by omega, by omega⟩
  obtain ⟨e, _, e2⟩ := mkN_ok hg
  unfold freeAt
  rw [e, and_i64 M _ (lt63 hM) (lt63 e2), beq_iff_eq]
  constructor
  · intro h s hs1 hs2
    have h0 : M &&& mkN ((f : Int), (c : Int)) = 0 := by omega
    have hb := congrArg (fun n => Nat.testBit n s) h0
    simp only [Nat.testBit_and, Nat.zero_testBit, mkN_bit h1 h2, decide_eq_true (show f ≤ s ∧ s < f + c from ⟨hs1, hs2⟩), Bool.and_true] at hb
    exact ⟨by omega, hb⟩
  · intro h
    have h0 : M &&& mkN ((f : Int), (c : Int)) = 0 := by
      apply Nat.eq_of_testBit_eq
      intro s
      rw [Nat.testBit_and, Nat.zero_testBit, mkN_bit h1 h2]
      by_cases hs : f ≤ s ∧ s < f + c
      · rw [(h s hs.1 hs.2).2, Bool.false_and]
      · rw [decide_eq_false hs, Bool.and_false]
    rw [h0]; rfl
/-- A run of free slots that ends at slot e at the latest, and could not be longer. -/
def RunOk (M e : Nat) (r : Int × Int) : Prop := ∃ f c : Nat, r = ((f : Int), (c : Int)) ∧ 1 ≤ c ∧ f + c ≤ e ∧ (∀ s, f ≤ s → s < f + c → Fr M s) ∧ ¬ Fr M (f + c) ∧ (f = 0 ∨ ¬ Fr M (f - 1))
def sumC (l : List (Int × Int)) : Int := l.foldl (fun a r => a + r.2) 0
theorem sumC_snoc (l : List (Int × Int)) (r : Int × Int) : sumC (l ++ [r]) = sumC l + r.2 := by unfold sumC; rw [List.foldl_append]; rfl
def popTo (M : Nat) : Nat → Nat
  | 0 => 0
  | k + 1 => popTo M k + if freeS (M : Int) k = true then 0 else 1
theorem popTo_succ (M k : Nat) : popTo M (k + 1) = popTo M k + if freeS (M : Int) k = true then 0 else 1 := rfl
theorem runs_inv {M : Nat} (hM : M < 16777216) : ∀ {k : Nat} {l : List (Int × Int)} {c : Nat}, runsTo (M : Int) k = (l, c) →
    c ≤ k ∧ (∀ r ∈ l, RunOk M (k - c) r) ∧ (∀ s, k - c ≤ s → s < k → Fr M s) ∧ (k - c = 0 ∨ ¬ Fr M (k - c - 1)) ∧ (∀ s, s < k - c → Fr M s → ∃ r ∈ l, r.1 ≤ (s : Int) ∧ (s : Int) < r.1 + r.2) ∧ sumC l + (c : Int) + (popTo M k : Int) = (k : Int) := by
  intro k
  induction k with
  | zero =>
    intro l c h
    simp [runsTo] at h
    obtain ⟨rfl, rfl⟩ := h
    exact ⟨Nat.le_refl _, fun r hr => (by cases hr), fun s _ h => by omega, Or.inl rfl, fun s h => by omega, rfl⟩
  | succ k ih =>
    intro l c h
    rcases hr : runsTo (M : Int) k with ⟨l', c'⟩
    obtain ⟨i1, i2, i3, i4, i5, i6⟩ := ih hr
    cases hf : freeS (M : Int) k
    · have hnf : ¬ Fr M k := fun hF => by rw [(freeS_iff hM).2 hF] at hf; cases hf
      have hp : popTo M (k + 1) = popTo M k + 1 := by rw [popTo_succ, hf]; rfl
      rcases Nat.eq_zero_or_pos c' with rfl | hc
      · rw [runsTo_same hr hf] at h
        simp only [Prod.mk.injEq] at h
        obtain ⟨rfl, rfl⟩ := h
        refine ⟨by omega, fun r hm => ?_, fun s h1 h2 => by omega, Or.inr (by simpa using hnf), fun s h1 h2 => ?_, by rw [hp]; omega⟩
        · obtain ⟨f, c, e, a1, a2, a3⟩ := i2 r hm
          exact ⟨f, c, e, a1, by omega, a3⟩
        · rcases Nat.eq_or_lt_of_le (show s ≤ k by omega) with e | e
          · subst e; exact absurd h2 hnf
          · exact i5 s (by omega) h2
      · rw [runsTo_run hr hf hc] at h
        simp only [Prod.mk.injEq] at h
        obtain ⟨rfl, rfl⟩ := h
        have e1 : ((k : Int) - (c' : Int), (c' : Int)) = (((k - c' : Nat) : Int), (c' : Int)) := by rw [Int.natCast_sub i1]
        refine ⟨by omega, fun r hm => ?_, fun s h1 h2 => by omega, Or.inr (by simpa using hnf), fun s h1 h2 => ?_, ?_⟩
        · rcases List.mem_append.1 hm with hm | hm
          · obtain ⟨f, c, e, a1, a2, a3⟩ := i2 r hm
            exact ⟨f, c, e, a1, by omega, a3⟩
          · simp only [List.mem_singleton] at hm
            subst hm
            refine ⟨k - c', c', e1, hc, by omega, fun s h1 h2 => i3 s h1 (by omega), ?_, i4⟩
            rw [Nat.sub_add_cancel i1]; exact hnf
        · rcases Nat.lt_or_ge s (k - c') with h3 | h3
          · obtain ⟨r, hr1, hr2⟩ := i5 s h3 h2
            exact ⟨r, List.mem_append_left _ hr1, hr2⟩
          · refine ⟨_, List.mem_append_right _ (List.mem_singleton.2 rfl), ?_⟩
            rcases Nat.eq_or_lt_of_le (show s ≤ k by omega) with e | e
            · subst e; exact absurd h2 hnf
            · simp only; omega
        · rw [sumC_snoc, hp]
          simp only
          omega
    · have hF : Fr M k := (freeS_iff hM).1 hf
      have hp : popTo M (k + 1) = popTo M k := by rw [popTo_succ, hf]; rfl
      rw [runsTo_free hr hf] at h
      simp only [Prod.mk.injEq] at h
      obtain ⟨rfl, rfl⟩ := h
      have e1 : k + 1 - (c' + 1) = k - c' := by omega
      rw [e1]
      refine ⟨by omega, i2, fun s h1 h2 => ?_, i4, i5, by rw [hp]; omega⟩
      rcases Nat.eq_or_lt_of_le (show s ≤ k by omega) with e | e
      · subst e; exact hF
      · exact i3 s h1 e
theorem runs_ok {M : Nat} (hM : M < 16777216) : (∀ r ∈ runs (M : Int), RunOk M 24 r) ∧ (∀ s, Fr M s → ∃ r ∈ runs (M : Int), r.1 ≤ (s : Int) ∧ (s : Int) < r.1 + r.2) ∧ sumC (runs (M : Int)) + (popTo M 24 : Int) = 24 := by
  rcases h24 : runsTo (M : Int) 24 with ⟨l, c⟩
  obtain ⟨i1, i2, i3, i4, i5, i6⟩ := runs_inv hM h24
  have hnf : freeS (M : Int) 24 = false := freeS_end (by omega)
  have hn24 : ¬ Fr M 24 := fun h => by have := h.1; omega
  rcases Nat.eq_zero_or_pos c with rfl | hc
  · have hr : runs (M : Int) = l := runs_end h24 (by omega) (by omega)
    rw [hr]
    exact ⟨i2, fun s hs => i5 s hs.1 hs, by omega⟩
  · have hr : runs (M : Int) = l ++ [(((24 : Nat) : Int) - (c : Int), (c : Int))] := by
      have := runsTo_run h24 hnf hc
      exact runs_end this (by omega) (by omega)
    have e1 : (((24 : Nat) : Int) - (c : Int), (c : Int)) = (((24 - c : Nat) : Int), (c : Int)) := by rw [Int.natCast_sub i1]
    rw [hr]
    refine ⟨fun r hm => ?_, fun s hs => ?_, ?_⟩
    · rcases List.mem_append.1 hm with hm | hm
      · obtain ⟨f, c2, e, a1, a2, a3⟩ := i2 r hm
        exact ⟨f, c2, e, a1, by omega, a3⟩
      · simp only [List.mem_singleton] at hm
        subst hm
        refine ⟨24 - c, c, e1, hc, by omega, fun s h1 h2 => i3 s h1 (by omega), ?_, i4⟩
        rw [Nat.sub_add_cancel i1]; exact hn24
    · rcases Nat.lt_or_ge s (24 - c) with h3 | h3
      · obtain ⟨r, hr1, hr2⟩ := i5 s h3 hs
        exact ⟨r, List.mem_append_left _ hr1, hr2⟩
      · refine ⟨_, List.mem_append_right _ (List.mem_singleton.2 rfl), ?_⟩
        have := hs.1
        simp only; omega
    · rw [sumC_snoc]
      simp only
      omega
/-- The slots of a mask and of runs together. -/
def allM (M : Nat) (l : List (Int × Int)) : Nat := l.foldl (fun a r => a ||| mkN r) M
theorem allM_snoc (M : Nat) (l : List (Int × Int)) (r : Int × Int) : allM M (l ++ [r]) = allM M l ||| mkN r := by unfold allM; rw [List.foldl_append]; rfl
theorem allM_bit {M e : Nat} (he : e ≤ 24) : ∀ {l : List (Int × Int)}, (∀ r ∈ l, RunOk M e r) → ∀ {A : Nat}, A < 16777216 → allM A l < 16777216 ∧ ∀ s, (allM A l).testBit s = true ↔ A.testBit s = true ∨ ∃ r ∈ l, r.1 ≤ (s : Int) ∧ (s : Int) < r.1 + r.2 := by
  intro l
  induction l with
  | nil => intro _ A hA; exact ⟨hA, fun s => by simp [allM]⟩
  | cons r l ih =>
    intro hl A hA
    obtain ⟨f, c, e, a1, a2, a3⟩ := hl r (List.mem_cons_self ..)
    subst e
    have hg : goodB (f : Int) (c : Int) = true := goodB_iff.2 ⟨by omega, by omega, by omega⟩
    have hk := (mkN_ok hg).2.2
    obtain ⟨h1, h2⟩ := ih (fun r hr => hl r (List.mem_cons_of_mem _ hr)) (or24 hA hk)
    refine ⟨h1, fun s => ?_⟩
    have := h2 s
    show (allM (A ||| mkN ((f : Int), (c : Int))) l).testBit s = true ↔ _
    rw [this, Nat.testBit_or, Bool.or_eq_true, mkN_bit a1 (by omega), decide_eq_true_eq]
    constructor
    · rintro ((h | h) | ⟨r, hr, h⟩)
      · exact Or.inl h
      · exact Or.inr ⟨_, List.mem_cons_self .., by simp only; omega⟩
      · exact Or.inr ⟨r, List.mem_cons_of_mem _ hr, h⟩
    · rintro (h | ⟨r, hr, h⟩)
      · exact Or.inl (Or.inl h)
      · rcases List.mem_cons.1 hr with rfl | hr
        · left; right; simp only at h; omega
        · exact Or.inr ⟨r, hr, h⟩
theorem allM_full {M : Nat} (hM : M < 16777216) : allM M (runs (M : Int)) = 16777215 := by
  obtain ⟨h1, h2, _⟩ := runs_ok hM
  obtain ⟨a1, a2⟩ := allM_bit (Nat.le_refl 24) h1 hM
  apply Nat.eq_of_testBit_eq
  intro s
  have e : (16777215 : Nat) = 2 ^ 24 - 1 := by decide
  rw [e, Nat.testBit_two_pow_sub_one]
  by_cases hs : s < 24
  · rw [decide_eq_true hs, a2 s]
    cases hb : M.testBit s
    · exact Or.inr (h2 s ⟨hs, hb⟩)
    · exact Or.inl rfl
  · rw [decide_eq_false hs]
    exact Nat.testBit_lt_two_pow (Nat.lt_of_lt_of_le a1 (by rw [show (16777216 : Nat) = 2 ^ 24 by decide]; exact Nat.pow_le_pow_right (by omega) (by omega)))
theorem run_apart {M : Nat} (_hM : M < 16777216) {r : Int × Int} (h : RunOk M 24 r) : goodB r.1 r.2 = true ∧ M &&& mkN r = 0 := by
  obtain ⟨f, c, rfl, a1, a2, a3, _⟩ := h
  refine ⟨goodB_iff.2 ⟨by simp only; omega, by simp only; omega, by simp only; omega⟩, ?_⟩
  apply Nat.eq_of_testBit_eq
  intro s
  rw [Nat.testBit_and, Nat.zero_testBit, mkN_bit a1 a2]
  by_cases hs : f ≤ s ∧ s < f + c
  · rw [(a3 s hs.1 hs.2).2, Bool.false_and]
  · rw [decide_eq_false hs, Bool.and_false]
theorem bestR_mem (c : Int) (l : List (Int × Int)) : bestR c l = (0, 0) ∨ bestR c l ∈ l := by
  suffices h : ∀ (l : List (Int × Int)) (b : Int × Int), l.foldl (bstep c) b = b ∨ l.foldl (bstep c) b ∈ l from h l (0, 0)
  intro l
  induction l with
  | nil => intro b; exact Or.inl rfl
  | cons r l ih =>
    intro b
    rw [List.foldl_cons]
    rcases ih (bstep c b r) with h | h
    · rw [h]
      unfold bstep
      split
      · exact Or.inr (List.mem_cons_self ..)
      · exact Or.inl rfl
    · exact Or.inr (List.mem_cons_of_mem _ h)
theorem bestR_none {c : Int} (_hc : 1 ≤ c) : ∀ {l : List (Int × Int)}, (∀ r ∈ l, 1 ≤ r.2) → (bestR c l).2 = 0 → ∀ r ∈ l, r.2 < c := by
  suffices h : ∀ (l : List (Int × Int)) (b : Int × Int), (∀ r ∈ l, 1 ≤ r.2) → 0 ≤ b.2 → (l.foldl (bstep c) b).2 = 0 → b.2 = 0 ∧ ∀ r ∈ l, r.2 < c from fun {l} hl h0 => (h l (0, 0) hl (Int.le_refl _) h0).2
  intro l
  induction l with
  | nil => intro b _ _ h; exact ⟨h, fun r hr => (by cases hr)⟩
  | cons r l ih =>
    intro b hl hb h
    rw [List.foldl_cons] at h
    have hr1 := hl r (List.mem_cons_self ..)
    obtain ⟨h1, h2⟩ := ih (bstep c b r) (fun r hr => hl r (List.mem_cons_of_mem _ hr)) (by unfold bstep; split <;> omega) h
    unfold bstep at h1
    split at h1
    · omega
    · rename_i hn
      refine ⟨h1, fun x hx => ?_⟩
      rcases List.mem_cons.1 hx with rfl | hx
      · have : ¬ c ≤ x.2 := fun hcx => hn ⟨hcx, Or.inl h1⟩
        omega
      · exact h2 x hx
theorem mem_fits {m c x : Int} : x ∈ fits m c ↔ ∃ f : Nat, x = (f : Int) ∧ f < (25 - c).toNat ∧ freeAt m c (f : Int) = true := by
  unfold fits fitsTo
  rw [List.mem_filter, List.mem_map]
  constructor
  · rintro ⟨⟨f, hf, rfl⟩, h⟩
    exact ⟨f, rfl, List.mem_range.1 hf, h⟩
  · rintro ⟨f, rfl, hf, h⟩
    exact ⟨⟨f, List.mem_range.2 hf, rfl⟩, h⟩
theorem grow_run {M f c x d : Nat} (h1 : ¬ Fr M (f + c)) (_h2 : f = 0 ∨ ¬ Fr M (f - 1)) (_hx1 : f ≤ x) (hx2 : x < f + c) (hd : ∀ s, x ≤ s → s < x + d → Fr M s) : x + d ≤ f + c := by
  rcases Nat.lt_or_ge (f + c) (x + d) with h | h
  · exact absurd (hd (f + c) (by omega) h) h1
  · exact h
theorem best_fits {M : Nat} (hM : M < 16777216) {c : Int} (h1 : 1 ≤ c) (h2 : c ≤ 24) : ((bestR c (runs (M : Int))).2 ≠ 0 ↔ fits (M : Int) c ≠ []) ∧ ((bestR c (runs (M : Int))).2 ≠ 0 → (bestR c (runs (M : Int))).1 ∈ fits (M : Int) c) := by
  obtain ⟨r1, r2, _⟩ := runs_ok hM
  obtain ⟨d, rfl⟩ : ∃ d : Nat, c = (d : Int) := ⟨c.toNat, by omega⟩
  have hpos : ∀ r ∈ runs (M : Int), 1 ≤ r.2 := fun r hr => by
    obtain ⟨f, c, rfl, a1, _⟩ := r1 r hr
    simp only; omega
  have hin : (bestR (d : Int) (runs (M : Int))).2 ≠ 0 → (bestR (d : Int) (runs (M : Int))).1 ∈ fits (M : Int) (d : Int) := by
    intro h0
    rcases bestR_mem (d : Int) (runs (M : Int)) with hb | hb
    · rw [hb] at h0; exact absurd rfl h0
    · obtain ⟨f, c, e, a1, a2, a3, _⟩ := r1 _ hb
      have hle : (d : Int) ≤ (bestR (d : Int) (runs (M : Int))).2 := by
        rcases bestR_or (d : Int) (runs (M : Int)) with h | h
        · rw [h] at h0; exact absurd rfl h0
        · exact h
      rw [e] at hle ⊢
      simp only at hle ⊢
      refine mem_fits.2 ⟨f, rfl, by omega, (freeAt_iff hM (by omega) (by omega)).2 fun s hs1 hs2 => a3 s hs1 (by omega)⟩
  refine ⟨⟨fun h => List.ne_nil_of_mem (hin h), fun h h0 => ?_⟩, hin⟩
  obtain ⟨x, hx⟩ := List.exists_mem_of_ne_nil _ h
  obtain ⟨y, rfl, hy, hf⟩ := mem_fits.1 hx
  have hfree := (freeAt_iff hM (by omega) (by omega)).1 hf
  obtain ⟨r, hr, hr1, hr2⟩ := r2 y (hfree y (Nat.le_refl _) (by omega))
  have hlt := bestR_none (by omega) hpos h0 r hr
  obtain ⟨f, c, rfl, a1, a2, a3, a4, a5⟩ := r1 r hr
  simp only at hr1 hr2 hlt
  have := grow_run a4 a5 (show f ≤ y by omega) (show y < f + c by omega) hfree
  have h6 : f ≤ y := by omega
  rcases Nat.eq_or_lt_of_le h6 with e | e
  · omega
  · omega
end Go.Proofs.Ytnhjacaiggghnaa
