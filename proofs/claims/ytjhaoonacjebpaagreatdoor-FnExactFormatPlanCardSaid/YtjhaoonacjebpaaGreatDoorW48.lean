/- The walk of FnExactFormatPlan. -/
import Derived.Test.YtjhaoonacjebpaaGreatDoorPx2
import Derived.Deep.RegionHeld3
import Derived.Deep.DeepCutAuto
namespace Go.Proofs.YtjhaoonacjebpaaGreatDoor
open Go.RowKit Go.PlainAid

set_option maxHeartbeats 4000000 in
set_option maxRecDepth 100000 in
theorem law_FormatPlan (v0 : Value) (x0 : PlanV) (w : World) (h0 : PlRaw w v0 x0) (hT : TabE w) :
    Calls Tryz.prog 3 #[v0] w fun e w' => e = .returned (.bool true) ∧ Fresh w w' := by
  obtain ⟨q0a, m0a, c0a, p0a, k0a, d0a, r0a, i0a, e0a, hv0⟩ := h0.shape
  subst hv0
  have HI0 := Lib.hid h0
  clear h0
  obtain ⟨s, hs⟩ : ∃ s, s = (if planB x0 then ba (planX x0) else ⟨#[]⟩) := ⟨_, rfl⟩
  obtain ⟨k, hk⟩ : ∃ k, k = planB x0 := ⟨_, rfl⟩
  have HT := Lib.hid hT
  have HI : Hid (∀ v W, PlIn W v x0 → TabE W → Calls Tryz.prog 8 #[v] W fun e w' => e = .returned (.tuple #[.string s, .bool k]) ∧ Fresh W w') := fun v W hW ht => by
    rw [hs, hk]
    have := implFormatPlan_any v x0 W hW ht
    unfold OutFp at this
    exact this.mono fun e w' ⟨he, hf⟩ => ⟨by rw [he], hf⟩
  have HS : Hid (∀ v W, PlIn W v x0 → Calls Tryz.prog 6 #[v] W fun e w' => e = .returned (.tuple #[.string s, .bool k]) ∧ Fresh W w') := fun v W hW => by
    rw [hs, hk]
    have := specFormatPlan_any v x0 W hW
    unfold OutFp at this
    exact this.mono fun e w' ⟨he, hf⟩ => ⟨by rw [he], hf⟩
  clear hs hk hT
  obtain ⟨B0, hB0⟩ : ∃ B, B = w.alloc (.cells #[.slice q0a m0a c0a, .slice p0a k0a d0a, .slice r0a i0a e0a] 28) := ⟨_, rfl⟩
  have hz0 : B0.heap.size = w.heap.size + 1 := by rw [hB0]; simp
  have hf0 : Fresh w B0 := by rw [hB0]; exact fnew (frefl _) _
  have hrow0 : RowAt B0 w.heap.size 28 [.slice q0a m0a c0a, .slice p0a k0a d0a, .slice r0a i0a e0a] := by rw [hB0]; exact RowAt.new _ _ _
  have HF := Lib.hid (fstep (frefl w) hf0)
  have a0_0 := hrow0.cell (i := 0) rfl
  have a0_1 := hrow0.cell (i := 1) rfl
  have a0_2 := hrow0.cell (i := 2) rfl
  have HB := Lib.hid (And.intro hB0 trivial)
  clear hB0 hz0 hf0 hrow0
  go_enter Tryz.func3, Tryz.ntmps3
  go_wp2_with fail
  rw [← HB.out.1]
  clear HB
  refine (szPlan_k _ x0 1048576 _ (PlRaw.keep HI0.out HF.out) (by omega) (by omega)).mono ?_
  rintro e w1 ⟨l0, rfl, l00, l01, hsm, hb⟩
  have HS0 := Lib.hid hsm
  clear hsm
  replace a0_0 := fkeep hb a0_0
  replace a0_1 := fkeep hb a0_1
  replace a0_2 := fkeep hb a0_2
  have HF := Lib.hid (fstep HF.out hb)
  clear hb
  by_cases hneg0 : l0 < 0
  · go_wp2
    go_ret
    exact ⟨rfl, HF.out⟩
  replace HI0 := Lib.hid (PlRaw.small HI0.out (HS0.out (by omega)))
  clear HS0
  go_wp2_with fail
  refine (toPlan_k _ x0 _ (HI0.out.keep HF.out)).mono ?_
  rintro e w2 ⟨y0, rfl, hy, hb⟩
  have HY0 := Lib.hid hy
  clear hy
  replace a0_0 := fkeep hb a0_0
  replace a0_1 := fkeep hb a0_1
  replace a0_2 := fkeep hb a0_2
  have HF := Lib.hid (fstep HF.out hb)
  clear hb
  go_wp2_with fail
  refine (HS.out _ _ HY0.out).mono ?_
  rintro e w3 ⟨rfl, hb⟩
  replace a0_0 := fkeep hb a0_0
  replace a0_1 := fkeep hb a0_1
  replace a0_2 := fkeep hb a0_2
  have HF := Lib.hid (fstep HF.out hb)
  clear hb
  clear HY0
  go_wp2_with fail
  refine (toPlan_k _ x0 _ (HI0.out.keep HF.out)).mono ?_
  rintro e w4 ⟨z0, rfl, hy, hb⟩
  have HZ0 := Lib.hid hy
  clear hy
  replace a0_0 := fkeep hb a0_0
  replace a0_1 := fkeep hb a0_1
  replace a0_2 := fkeep hb a0_2
  have HF := Lib.hid (fstep HF.out hb)
  clear hb
  obtain ⟨q0x, m0x, c0x, p0x, k0x, d0x, r0x, i0x, e0x, hv⟩ := HZ0.out.shape
  subst hv
  obtain ⟨X0, hX⟩ : ∃ X, X = w4.alloc (.cells #[.slice q0x m0x c0x, .slice p0x k0x d0x, .slice r0x i0x e0x] 37) := ⟨_, rfl⟩
  have hb : Fresh w4 X0 := by rw [hX]; exact fnew (frefl _) _
  have c0_0 : X0.cell? ⟨w4.heap.size, 0, none⟩ = some (.slice q0x m0x c0x) := by rw [hX]; exact (RowAt.new w4 37 [.slice q0x m0x c0x, .slice p0x k0x d0x, .slice r0x i0x e0x]).cell (i := 0) rfl
  have c0_1 : X0.cell? ⟨w4.heap.size, 1, none⟩ = some (.slice p0x k0x d0x) := by rw [hX]; exact (RowAt.new w4 37 [.slice q0x m0x c0x, .slice p0x k0x d0x, .slice r0x i0x e0x]).cell (i := 1) rfl
  have c0_2 : X0.cell? ⟨w4.heap.size, 2, none⟩ = some (.slice r0x i0x e0x) := by rw [hX]; exact (RowAt.new w4 37 [.slice q0x m0x c0x, .slice p0x k0x d0x, .slice r0x i0x e0x]).cell (i := 2) rfl
  replace a0_0 := fkeep hb a0_0
  replace a0_1 := fkeep hb a0_1
  replace a0_2 := fkeep hb a0_2
  have HF := Lib.hid (fstep HF.out hb)
  replace HZ0 := Lib.hid (HZ0.out.keep hb)
  clear hb
  have Ha0_0 := Lib.hid a0_0
  have Ha0_1 := Lib.hid a0_1
  have Ha0_2 := Lib.hid a0_2
  have Hc0_0 := Lib.hid c0_0
  have Hc0_1 := Lib.hid c0_1
  have Hc0_2 := Lib.hid c0_2
  clear a0_0 a0_1 a0_2 c0_0 c0_1 c0_2
  have HX0 := Lib.hid hX
  clear hX
  go_wp2_with fail
  rw [← HX0.out]
  clear HX0
  have a0_0 := Ha0_0.out
  have a0_1 := Ha0_1.out
  have a0_2 := Ha0_2.out
  have c0_0 := Hc0_0.out
  have c0_1 := Hc0_1.out
  have c0_2 := Hc0_2.out
  clear Ha0_0 Ha0_1 Ha0_2 Hc0_0 Hc0_1 Hc0_2
  go_wp2_with fail
  refine (HI.out _ _ HZ0.out (HT.out.keep HF.out)).mono ?_
  rintro e w5 ⟨rfl, hb⟩
  replace a0_0 := fkeep hb a0_0
  replace a0_1 := fkeep hb a0_1
  replace a0_2 := fkeep hb a0_2
  replace c0_0 := fkeep hb c0_0
  replace c0_1 := fkeep hb c0_1
  replace c0_2 := fkeep hb c0_2
  have HF := Lib.hid (fstep HF.out hb)
  replace HZ0 := Lib.hid (HZ0.out.keep hb)
  clear hb
  have hd : (s.toList == s.toList) = true := by simp
  cases k with
  | true =>
    go_wp2
    have HSS : Fresh w5 w5 ∧ w5.cell? ⟨w4.heap.size, 0, none⟩ = some (.slice q0x m0x c0x) ∧ w5.cell? ⟨w4.heap.size, 1, none⟩ = some (.slice p0x k0x d0x) ∧ w5.cell? ⟨w4.heap.size, 2, none⟩ = some (.slice r0x i0x e0x) ∧ w5.cell? ⟨w.heap.size, 0, none⟩ = some (.slice q0a m0a c0a) ∧ w5.cell? ⟨w.heap.size, 1, none⟩ = some (.slice p0a k0a d0a) ∧ w5.cell? ⟨w.heap.size, 2, none⟩ = some (.slice r0a i0a e0a) := ⟨frefl _, c0_0, c0_1, c0_2, a0_0, a0_1, a0_2⟩
    go_region_held3 (fun w' => Fresh w5 w' ∧ w'.cell? ⟨w4.heap.size, 0, none⟩ = some (.slice q0x m0x c0x) ∧ w'.cell? ⟨w4.heap.size, 1, none⟩ = some (.slice p0x k0x d0x) ∧ w'.cell? ⟨w4.heap.size, 2, none⟩ = some (.slice r0x i0x e0x) ∧ w'.cell? ⟨w.heap.size, 0, none⟩ = some (.slice q0a m0a c0a) ∧ w'.cell? ⟨w.heap.size, 1, none⟩ = some (.slice p0a k0a d0a) ∧ w'.cell? ⟨w.heap.size, 2, none⟩ = some (.slice r0a i0a e0a))
      (first | assumption | exact keepc6 (by assumption) (by assumption) | exact keepc6 (by assumption) (fdrew (frefl _)) | exact keepc6 (by assumption) (frefl _))
      (first | (go_at_call 7; refine (toPlan_k _ x0 _ (HI0.out.keep (fstep HF.out (And.left (by assumption))))).mono ?_; rintro e w6 ⟨t0, rfl, hy, hb10⟩; have HT0 := Lib.hid hy; clear hy) | (go_at_call 9; refine (eqPlan_k _ _ x0 _ (HZ0.out.keep (And.left (by assumption))) HT0.out).mono ?_; rintro e w7 ⟨rfl, hb11⟩))
    have hb : Fresh w5 w7 := fstep (fstep (fdrew (frefl _)) hb10) hb11
    clear hb10 hb11 HSS HT0 c0_0 c0_1 c0_2
    clear HZ0
    replace a0_0 := fkeep hb a0_0
    replace a0_1 := fkeep hb a0_1
    replace a0_2 := fkeep hb a0_2
    have HF := Lib.hid (fstep HF.out hb)
    clear hb
    go_wp2
    go_ret
    exact ⟨rfl, HF.out⟩
  | false =>
    go_wp2
    have HSS : Fresh w5 w5 ∧ w5.cell? ⟨w4.heap.size, 0, none⟩ = some (.slice q0x m0x c0x) ∧ w5.cell? ⟨w4.heap.size, 1, none⟩ = some (.slice p0x k0x d0x) ∧ w5.cell? ⟨w4.heap.size, 2, none⟩ = some (.slice r0x i0x e0x) ∧ w5.cell? ⟨w.heap.size, 0, none⟩ = some (.slice q0a m0a c0a) ∧ w5.cell? ⟨w.heap.size, 1, none⟩ = some (.slice p0a k0a d0a) ∧ w5.cell? ⟨w.heap.size, 2, none⟩ = some (.slice r0a i0a e0a) := ⟨frefl _, c0_0, c0_1, c0_2, a0_0, a0_1, a0_2⟩
    go_region_held3 (fun w' => Fresh w5 w' ∧ w'.cell? ⟨w4.heap.size, 0, none⟩ = some (.slice q0x m0x c0x) ∧ w'.cell? ⟨w4.heap.size, 1, none⟩ = some (.slice p0x k0x d0x) ∧ w'.cell? ⟨w4.heap.size, 2, none⟩ = some (.slice r0x i0x e0x) ∧ w'.cell? ⟨w.heap.size, 0, none⟩ = some (.slice q0a m0a c0a) ∧ w'.cell? ⟨w.heap.size, 1, none⟩ = some (.slice p0a k0a d0a) ∧ w'.cell? ⟨w.heap.size, 2, none⟩ = some (.slice r0a i0a e0a))
      (first | assumption | exact keepc6 (by assumption) (by assumption) | exact keepc6 (by assumption) (fdrew (frefl _)) | exact keepc6 (by assumption) (frefl _))
      (first | (go_at_call 7; refine (toPlan_k _ x0 _ (HI0.out.keep (fstep HF.out (And.left (by assumption))))).mono ?_; rintro e w6 ⟨t0, rfl, hy, hb10⟩; have HT0 := Lib.hid hy; clear hy) | (go_at_call 9; refine (eqPlan_k _ _ x0 _ (HZ0.out.keep (And.left (by assumption))) HT0.out).mono ?_; rintro e w7 ⟨rfl, hb11⟩))
    have hb : Fresh w5 w7 := fstep (fstep (fdrew (frefl _)) hb10) hb11
    clear hb10 hb11 HSS HT0 c0_0 c0_1 c0_2
    clear HZ0
    replace a0_0 := fkeep hb a0_0
    replace a0_1 := fkeep hb a0_1
    replace a0_2 := fkeep hb a0_2
    have HF := Lib.hid (fstep HF.out hb)
    clear hb
    go_wp2
    go_ret
    exact ⟨rfl, HF.out⟩
end Go.Proofs.YtjhaoonacjebpaaGreatDoor
