/- The walk of FnExactCollidingLights. -/
import Derived.Test.YtjaacinngfblkaaCl2
import Derived.Test.YtjaacinngfblkaaKLt
import Derived.Test.YtjaacinngfblkaaU1
import Derived.Deep.RegionHeld3
import Derived.Deep.DeepCutAuto
namespace Go.Proofs.Ytjaacinngfblkaa
open Go.RowKit Go.PlainAid

set_option maxHeartbeats 4000000 in
set_option maxRecDepth 100000 in
theorem law_CollidingLights (v0 : Value) (x0 : PlanV) (v1 : Value) (x1 : LtV) (w : World) (h0 : PlRaw w v0 x0) (h1 : LgRaw w v1 x1) :
    Calls Try.prog 5 #[v0, v1] w fun e w' => e = .returned (.bool true) ∧ Fresh w w' := by
  obtain ⟨q0a, m0a, c0a, p0a, k0a, d0a, r0a, i0a, e0a, hv0⟩ := h0.shape
  subst hv0
  obtain ⟨i1a, s1a, q1a, m1a, c1a, b1a, d1a, hv1⟩ := h1.shape
  subst hv1
  have HI0 := Lib.hid h0
  clear h0
  have HI1 := Lib.hid h1
  clear h1
  have hlen := clF_len x0 x1
  obtain ⟨r0, hr0⟩ : ∃ r0, r0 = (clF x0 x1).1 := ⟨_, rfl⟩
  rw [← hr0] at hlen
  have HR0 := Lib.hid hr0
  clear hr0
  obtain ⟨r1, hr1⟩ : ∃ r1, r1 = (clF x0 x1).2 := ⟨_, rfl⟩
  have HR1 := Lib.hid hr1
  clear hr1
  obtain ⟨B0, hB0⟩ : ∃ B, B = w.alloc (.cells #[.slice q0a m0a c0a, .slice p0a k0a d0a, .slice r0a i0a e0a] 54) := ⟨_, rfl⟩
  have hz0 : B0.heap.size = w.heap.size + 1 := by rw [hB0]; simp
  have hf0 : Fresh w B0 := by rw [hB0]; exact fnew (frefl _) _
  have hrow0 : RowAt B0 w.heap.size 54 [.slice q0a m0a c0a, .slice p0a k0a d0a, .slice r0a i0a e0a] := by rw [hB0]; exact RowAt.new _ _ _
  obtain ⟨B1, hB1⟩ : ∃ B, B = B0.alloc (.cells #[.int .i64 i1a, .int .i64 s1a, .slice q1a m1a c1a, .int .i64 b1a, .int .i64 d1a] 61) := ⟨_, rfl⟩
  have hz1 : B1.heap.size = B0.heap.size + 1 := by rw [hB1]; simp
  have hf1 : Fresh B0 B1 := by rw [hB1]; exact fnew (frefl _) _
  have hrow1 : RowAt B1 B0.heap.size 61 [.int .i64 i1a, .int .i64 s1a, .slice q1a m1a c1a, .int .i64 b1a, .int .i64 d1a] := by rw [hB1]; exact RowAt.new _ _ _
  replace hrow0 := hrow0.keep hf1
  have HF := Lib.hid (fstep (fstep (frefl w) hf0) hf1)
  have a0_0 := hrow0.cell (i := 0) rfl
  have a0_1 := hrow0.cell (i := 1) rfl
  have a0_2 := hrow0.cell (i := 2) rfl
  have a1_0 := hrow1.cell (i := 0) rfl
  have a1_1 := hrow1.cell (i := 1) rfl
  have a1_2 := hrow1.cell (i := 2) rfl
  have a1_3 := hrow1.cell (i := 3) rfl
  have a1_4 := hrow1.cell (i := 4) rfl
  rw [hz0] at a1_0 a1_1 a1_2 a1_3 a1_4
  have HB := Lib.hid (And.intro hB0 hB1)
  clear hB0 hz0 hf0 hrow0 hB1 hz1 hf1 hrow1
  go_enter Try.func5, Try.ntmps5
  go_wp2_with fail
  rw [← HB.out.1, ← HB.out.2]
  clear HB
  refine (szPlan_k _ x0 1048576 _ (PlRaw.keep HI0.out HF.out) (by omega) (by omega)).mono ?_
  rintro e w1 ⟨l0, rfl, l00, l01, hsm, hb⟩
  have HS0 := Lib.hid hsm
  clear hsm
  replace a0_0 := fkeep hb a0_0
  replace a0_1 := fkeep hb a0_1
  replace a0_2 := fkeep hb a0_2
  replace a1_0 := fkeep hb a1_0
  replace a1_1 := fkeep hb a1_1
  replace a1_2 := fkeep hb a1_2
  replace a1_3 := fkeep hb a1_3
  replace a1_4 := fkeep hb a1_4
  have HF := Lib.hid (fstep HF.out hb)
  clear hb
  by_cases hneg0 : l0 < 0
  · go_wp2
    go_ret
    exact ⟨rfl, HF.out⟩
  go_wp2_with fail
  refine (szLight_k _ x1 l0 _ (LgRaw.keep HI1.out HF.out) (by omega) (by omega)).mono ?_
  rintro e w2 ⟨l1, rfl, l10, l11, hsm, hb⟩
  have HS1 := Lib.hid hsm
  clear hsm
  replace a0_0 := fkeep hb a0_0
  replace a0_1 := fkeep hb a0_1
  replace a0_2 := fkeep hb a0_2
  replace a1_0 := fkeep hb a1_0
  replace a1_1 := fkeep hb a1_1
  replace a1_2 := fkeep hb a1_2
  replace a1_3 := fkeep hb a1_3
  replace a1_4 := fkeep hb a1_4
  have HF := Lib.hid (fstep HF.out hb)
  clear hb
  by_cases hneg1 : l1 < 0
  · go_wp2
    go_ret
    exact ⟨rfl, HF.out⟩
  replace HI0 := Lib.hid (PlRaw.small HI0.out (HS0.out (by omega)))
  clear HS0
  replace HI1 := Lib.hid (LgRaw.small HI1.out (HS1.out (by omega)))
  clear HS1
  have HSZ0 := Lib.hid HF.out.size
  have HSZ1 := Lib.hid (World.block_lt_of_cell? _ _ a1_0)
  go_wp2
  have HSS : Fresh w2 w2 ∧ w2.cell? ⟨w.heap.size, 0, none⟩ = some (.slice q0a m0a c0a) ∧ w2.cell? ⟨w.heap.size, 1, none⟩ = some (.slice p0a k0a d0a) ∧ w2.cell? ⟨w.heap.size, 2, none⟩ = some (.slice r0a i0a e0a) ∧ w2.cell? ⟨w.heap.size + 1, 0, none⟩ = some (.int .i64 i1a) ∧ w2.cell? ⟨w.heap.size + 1, 1, none⟩ = some (.int .i64 s1a) ∧ w2.cell? ⟨w.heap.size + 1, 2, none⟩ = some (.slice q1a m1a c1a) ∧ w2.cell? ⟨w.heap.size + 1, 3, none⟩ = some (.int .i64 b1a) ∧ w2.cell? ⟨w.heap.size + 1, 4, none⟩ = some (.int .i64 d1a) := ⟨frefl _, a0_0, a0_1, a0_2, a1_0, a1_1, a1_2, a1_3, a1_4⟩
  go_region_held3 (fun w' => Fresh w2 w' ∧ w'.cell? ⟨w.heap.size, 0, none⟩ = some (.slice q0a m0a c0a) ∧ w'.cell? ⟨w.heap.size, 1, none⟩ = some (.slice p0a k0a d0a) ∧ w'.cell? ⟨w.heap.size, 2, none⟩ = some (.slice r0a i0a e0a) ∧ w'.cell? ⟨w.heap.size + 1, 0, none⟩ = some (.int .i64 i1a) ∧ w'.cell? ⟨w.heap.size + 1, 1, none⟩ = some (.int .i64 s1a) ∧ w'.cell? ⟨w.heap.size + 1, 2, none⟩ = some (.slice q1a m1a c1a) ∧ w'.cell? ⟨w.heap.size + 1, 3, none⟩ = some (.int .i64 b1a) ∧ w'.cell? ⟨w.heap.size + 1, 4, none⟩ = some (.int .i64 d1a))
    (first | assumption | exact keepc8 (by assumption) (by assumption) | exact keepc8 (by assumption) (fdrew (frefl _)) | exact keepc8 (by assumption) (frefl _))
    (first | (go_at_call 26; refine (toPlan_k _ x0 _ (HI0.out.keep (fstep HF.out (And.left (by assumption))))).mono ?_; rintro e w3 ⟨y0, rfl, hy, hbb0⟩; have HY0 := Lib.hid hy; clear hy) | (go_at_call 27; refine (toLight_k _ x1 _ (HI1.out.keep (fstep HF.out (And.left (by assumption))))).mono ?_; rintro e w4 ⟨y1, rfl, hy, hbb1⟩; have HY1 := Lib.hid hy; clear hy) | (go_at_call 25; have hcc := specCollidingLights_any _ x0 _ x1 _ (HY0.out.keep hbb1) HY1.out; rw [← HR0.out, ← HR1.out] at hcc; refine hcc.mono ?_; clear hcc; rintro e w5 ⟨pW, cW, rfl, how, hb⟩))
  replace hb : Fresh w2 w5 := fstep (fstep (fstep (fdrew (frefl _)) hbb0) hbb1) hb
  clear hbb0 hbb1 HSS HY0 HY1
  have HRW := Lib.hid (how.held.wide (Nat.zero_le _) (Nat.le_refl _))
  clear how
  have HSZ2 := Lib.hid (hb.size)
  replace a0_0 := fkeep hb a0_0
  replace a0_1 := fkeep hb a0_1
  replace a0_2 := fkeep hb a0_2
  replace a1_0 := fkeep hb a1_0
  replace a1_1 := fkeep hb a1_1
  replace a1_2 := fkeep hb a1_2
  replace a1_3 := fkeep hb a1_3
  replace a1_4 := fkeep hb a1_4
  have HF := Lib.hid (fstep HF.out hb)
  clear hb
  go_wp2_with fail
  refine (toPlan_o _ x0 _ (HI0.out.keep HF.out)).mono ?_
  rintro e w6 ⟨z0, rfl, hy, hm, hb⟩
  have HZ0 := Lib.hid hy
  have HM0 := Lib.hid hm
  clear hy hm
  have HSZ3 := Lib.hid (hb.size)
  replace a0_0 := fkeep hb a0_0
  replace a0_1 := fkeep hb a0_1
  replace a0_2 := fkeep hb a0_2
  replace a1_0 := fkeep hb a1_0
  replace a1_1 := fkeep hb a1_1
  replace a1_2 := fkeep hb a1_2
  replace a1_3 := fkeep hb a1_3
  replace a1_4 := fkeep hb a1_4
  have HF := Lib.hid (fstep HF.out hb)
  replace HRW := Lib.hid (HRW.out.keep hb)
  clear hb
  obtain ⟨q0x, m0x, c0x, p0x, k0x, d0x, r0x, i0x, e0x, hv⟩ := HZ0.out.shape
  subst hv
  obtain ⟨X0, hX⟩ : ∃ X, X = w6.alloc (.cells #[.slice q0x m0x c0x, .slice p0x k0x d0x, .slice r0x i0x e0x] 68) := ⟨_, rfl⟩
  have hb : Fresh w6 X0 := by rw [hX]; exact fnew (frefl _) _
  have HSZ4 := Lib.hid (show X0.heap.size = w6.heap.size + 1 by rw [hX]; simp)
  have La0_0 := fkeep (fnew (frefl w6) (.cells #[.slice q0x m0x c0x, .slice p0x k0x d0x, .slice r0x i0x e0x] 68)) a0_0
  have La0_1 := fkeep (fnew (frefl w6) (.cells #[.slice q0x m0x c0x, .slice p0x k0x d0x, .slice r0x i0x e0x] 68)) a0_1
  have La0_2 := fkeep (fnew (frefl w6) (.cells #[.slice q0x m0x c0x, .slice p0x k0x d0x, .slice r0x i0x e0x] 68)) a0_2
  have La1_0 := fkeep (fnew (frefl w6) (.cells #[.slice q0x m0x c0x, .slice p0x k0x d0x, .slice r0x i0x e0x] 68)) a1_0
  have La1_1 := fkeep (fnew (frefl w6) (.cells #[.slice q0x m0x c0x, .slice p0x k0x d0x, .slice r0x i0x e0x] 68)) a1_1
  have La1_2 := fkeep (fnew (frefl w6) (.cells #[.slice q0x m0x c0x, .slice p0x k0x d0x, .slice r0x i0x e0x] 68)) a1_2
  have La1_3 := fkeep (fnew (frefl w6) (.cells #[.slice q0x m0x c0x, .slice p0x k0x d0x, .slice r0x i0x e0x] 68)) a1_3
  have La1_4 := fkeep (fnew (frefl w6) (.cells #[.slice q0x m0x c0x, .slice p0x k0x d0x, .slice r0x i0x e0x] 68)) a1_4
  have c0_0 : X0.cell? ⟨w6.heap.size, 0, none⟩ = some (.slice q0x m0x c0x) := by rw [hX]; exact (RowAt.new w6 68 [.slice q0x m0x c0x, .slice p0x k0x d0x, .slice r0x i0x e0x]).cell (i := 0) rfl
  have c0_1 : X0.cell? ⟨w6.heap.size, 1, none⟩ = some (.slice p0x k0x d0x) := by rw [hX]; exact (RowAt.new w6 68 [.slice q0x m0x c0x, .slice p0x k0x d0x, .slice r0x i0x e0x]).cell (i := 1) rfl
  have c0_2 : X0.cell? ⟨w6.heap.size, 2, none⟩ = some (.slice r0x i0x e0x) := by rw [hX]; exact (RowAt.new w6 68 [.slice q0x m0x c0x, .slice p0x k0x d0x, .slice r0x i0x e0x]).cell (i := 2) rfl
  replace a0_0 := fkeep hb a0_0
  replace a0_1 := fkeep hb a0_1
  replace a0_2 := fkeep hb a0_2
  replace a1_0 := fkeep hb a1_0
  replace a1_1 := fkeep hb a1_1
  replace a1_2 := fkeep hb a1_2
  replace a1_3 := fkeep hb a1_3
  replace a1_4 := fkeep hb a1_4
  have HF := Lib.hid (fstep HF.out hb)
  replace HRW := Lib.hid (HRW.out.keep hb)
  replace HZ0 := Lib.hid (HZ0.out.keep hb)
  replace HM0 := Lib.hid (HM0.out.keep hb)
  clear hb
  have Ha0_0 := Lib.hid a0_0
  have Ha0_1 := Lib.hid a0_1
  have Ha0_2 := Lib.hid a0_2
  have Ha1_0 := Lib.hid a1_0
  have Ha1_1 := Lib.hid a1_1
  have Ha1_2 := Lib.hid a1_2
  have Ha1_3 := Lib.hid a1_3
  have Ha1_4 := Lib.hid a1_4
  have Hc0_0 := Lib.hid c0_0
  have Hc0_1 := Lib.hid c0_1
  have Hc0_2 := Lib.hid c0_2
  clear a0_0 a0_1 a0_2 a1_0 a1_1 a1_2 a1_3 a1_4 c0_0 c0_1 c0_2
  have HX0 := Lib.hid hX
  clear hX
  go_wp2_with fail
  rw [← HX0.out]
  clear HX0
  clear La0_0 La0_1 La0_2 La1_0 La1_1 La1_2 La1_3 La1_4
  have a0_0 := Ha0_0.out
  have a0_1 := Ha0_1.out
  have a0_2 := Ha0_2.out
  have a1_0 := Ha1_0.out
  have a1_1 := Ha1_1.out
  have a1_2 := Ha1_2.out
  have a1_3 := Ha1_3.out
  have a1_4 := Ha1_4.out
  have c0_0 := Hc0_0.out
  have c0_1 := Hc0_1.out
  have c0_2 := Hc0_2.out
  clear Ha0_0 Ha0_1 Ha0_2 Ha1_0 Ha1_1 Ha1_2 Ha1_3 Ha1_4 Hc0_0 Hc0_1 Hc0_2
  go_wp2_with fail
  refine (toLight_o _ x1 _ (HI1.out.keep HF.out)).mono ?_
  rintro e w7 ⟨z1, rfl, hy, hm, hb⟩
  have HZ1 := Lib.hid hy
  have HM1 := Lib.hid hm
  clear hy hm
  have HSZ5 := Lib.hid (hb.size)
  replace a0_0 := fkeep hb a0_0
  replace a0_1 := fkeep hb a0_1
  replace a0_2 := fkeep hb a0_2
  replace a1_0 := fkeep hb a1_0
  replace a1_1 := fkeep hb a1_1
  replace a1_2 := fkeep hb a1_2
  replace a1_3 := fkeep hb a1_3
  replace a1_4 := fkeep hb a1_4
  replace c0_0 := fkeep hb c0_0
  replace c0_1 := fkeep hb c0_1
  replace c0_2 := fkeep hb c0_2
  have HF := Lib.hid (fstep HF.out hb)
  replace HRW := Lib.hid (HRW.out.keep hb)
  replace HZ0 := Lib.hid (HZ0.out.keep hb)
  replace HM0 := Lib.hid (HM0.out.keep hb)
  clear hb
  obtain ⟨i1x, s1x, q1x, m1x, c1x, b1x, d1x, hv⟩ := HZ1.out.shape
  subst hv
  obtain ⟨X1, hX⟩ : ∃ X, X = w7.alloc (.cells #[.int .i64 i1x, .int .i64 s1x, .slice q1x m1x c1x, .int .i64 b1x, .int .i64 d1x] 73) := ⟨_, rfl⟩
  have hb : Fresh w7 X1 := by rw [hX]; exact fnew (frefl _) _
  have HSZ6 := Lib.hid (show X1.heap.size = w7.heap.size + 1 by rw [hX]; simp)
  have La0_0 := fkeep (fnew (frefl w7) (.cells #[.int .i64 i1x, .int .i64 s1x, .slice q1x m1x c1x, .int .i64 b1x, .int .i64 d1x] 73)) a0_0
  have La0_1 := fkeep (fnew (frefl w7) (.cells #[.int .i64 i1x, .int .i64 s1x, .slice q1x m1x c1x, .int .i64 b1x, .int .i64 d1x] 73)) a0_1
  have La0_2 := fkeep (fnew (frefl w7) (.cells #[.int .i64 i1x, .int .i64 s1x, .slice q1x m1x c1x, .int .i64 b1x, .int .i64 d1x] 73)) a0_2
  have La1_0 := fkeep (fnew (frefl w7) (.cells #[.int .i64 i1x, .int .i64 s1x, .slice q1x m1x c1x, .int .i64 b1x, .int .i64 d1x] 73)) a1_0
  have La1_1 := fkeep (fnew (frefl w7) (.cells #[.int .i64 i1x, .int .i64 s1x, .slice q1x m1x c1x, .int .i64 b1x, .int .i64 d1x] 73)) a1_1
  have La1_2 := fkeep (fnew (frefl w7) (.cells #[.int .i64 i1x, .int .i64 s1x, .slice q1x m1x c1x, .int .i64 b1x, .int .i64 d1x] 73)) a1_2
  have La1_3 := fkeep (fnew (frefl w7) (.cells #[.int .i64 i1x, .int .i64 s1x, .slice q1x m1x c1x, .int .i64 b1x, .int .i64 d1x] 73)) a1_3
  have La1_4 := fkeep (fnew (frefl w7) (.cells #[.int .i64 i1x, .int .i64 s1x, .slice q1x m1x c1x, .int .i64 b1x, .int .i64 d1x] 73)) a1_4
  have Lc0_0 := fkeep (fnew (frefl w7) (.cells #[.int .i64 i1x, .int .i64 s1x, .slice q1x m1x c1x, .int .i64 b1x, .int .i64 d1x] 73)) c0_0
  have Lc0_1 := fkeep (fnew (frefl w7) (.cells #[.int .i64 i1x, .int .i64 s1x, .slice q1x m1x c1x, .int .i64 b1x, .int .i64 d1x] 73)) c0_1
  have Lc0_2 := fkeep (fnew (frefl w7) (.cells #[.int .i64 i1x, .int .i64 s1x, .slice q1x m1x c1x, .int .i64 b1x, .int .i64 d1x] 73)) c0_2
  have c1_0 : X1.cell? ⟨w7.heap.size, 0, none⟩ = some (.int .i64 i1x) := by rw [hX]; exact (RowAt.new w7 73 [.int .i64 i1x, .int .i64 s1x, .slice q1x m1x c1x, .int .i64 b1x, .int .i64 d1x]).cell (i := 0) rfl
  have c1_1 : X1.cell? ⟨w7.heap.size, 1, none⟩ = some (.int .i64 s1x) := by rw [hX]; exact (RowAt.new w7 73 [.int .i64 i1x, .int .i64 s1x, .slice q1x m1x c1x, .int .i64 b1x, .int .i64 d1x]).cell (i := 1) rfl
  have c1_2 : X1.cell? ⟨w7.heap.size, 2, none⟩ = some (.slice q1x m1x c1x) := by rw [hX]; exact (RowAt.new w7 73 [.int .i64 i1x, .int .i64 s1x, .slice q1x m1x c1x, .int .i64 b1x, .int .i64 d1x]).cell (i := 2) rfl
  have c1_3 : X1.cell? ⟨w7.heap.size, 3, none⟩ = some (.int .i64 b1x) := by rw [hX]; exact (RowAt.new w7 73 [.int .i64 i1x, .int .i64 s1x, .slice q1x m1x c1x, .int .i64 b1x, .int .i64 d1x]).cell (i := 3) rfl
  have c1_4 : X1.cell? ⟨w7.heap.size, 4, none⟩ = some (.int .i64 d1x) := by rw [hX]; exact (RowAt.new w7 73 [.int .i64 i1x, .int .i64 s1x, .slice q1x m1x c1x, .int .i64 b1x, .int .i64 d1x]).cell (i := 4) rfl
  replace a0_0 := fkeep hb a0_0
  replace a0_1 := fkeep hb a0_1
  replace a0_2 := fkeep hb a0_2
  replace a1_0 := fkeep hb a1_0
  replace a1_1 := fkeep hb a1_1
  replace a1_2 := fkeep hb a1_2
  replace a1_3 := fkeep hb a1_3
  replace a1_4 := fkeep hb a1_4
  replace c0_0 := fkeep hb c0_0
  replace c0_1 := fkeep hb c0_1
  replace c0_2 := fkeep hb c0_2
  have HF := Lib.hid (fstep HF.out hb)
  replace HRW := Lib.hid (HRW.out.keep hb)
  replace HZ0 := Lib.hid (HZ0.out.keep hb)
  replace HM0 := Lib.hid (HM0.out.keep hb)
  replace HZ1 := Lib.hid (HZ1.out.keep hb)
  replace HM1 := Lib.hid (HM1.out.keep hb)
  clear hb
  have Ha0_0 := Lib.hid a0_0
  have Ha0_1 := Lib.hid a0_1
  have Ha0_2 := Lib.hid a0_2
  have Ha1_0 := Lib.hid a1_0
  have Ha1_1 := Lib.hid a1_1
  have Ha1_2 := Lib.hid a1_2
  have Ha1_3 := Lib.hid a1_3
  have Ha1_4 := Lib.hid a1_4
  have Hc0_0 := Lib.hid c0_0
  have Hc0_1 := Lib.hid c0_1
  have Hc0_2 := Lib.hid c0_2
  have Hc1_0 := Lib.hid c1_0
  have Hc1_1 := Lib.hid c1_1
  have Hc1_2 := Lib.hid c1_2
  have Hc1_3 := Lib.hid c1_3
  have Hc1_4 := Lib.hid c1_4
  clear a0_0 a0_1 a0_2 a1_0 a1_1 a1_2 a1_3 a1_4 c0_0 c0_1 c0_2 c1_0 c1_1 c1_2 c1_3 c1_4
  have HX1 := Lib.hid hX
  clear hX
  go_wp2_with fail
  rw [← HX1.out]
  clear HX1
  clear La0_0 La0_1 La0_2 La1_0 La1_1 La1_2 La1_3 La1_4 Lc0_0 Lc0_1 Lc0_2
  have a0_0 := Ha0_0.out
  have a0_1 := Ha0_1.out
  have a0_2 := Ha0_2.out
  have a1_0 := Ha1_0.out
  have a1_1 := Ha1_1.out
  have a1_2 := Ha1_2.out
  have a1_3 := Ha1_3.out
  have a1_4 := Ha1_4.out
  have c0_0 := Hc0_0.out
  have c0_1 := Hc0_1.out
  have c0_2 := Hc0_2.out
  have c1_0 := Hc1_0.out
  have c1_1 := Hc1_1.out
  have c1_2 := Hc1_2.out
  have c1_3 := Hc1_3.out
  have c1_4 := Hc1_4.out
  clear Ha0_0 Ha0_1 Ha0_2 Ha1_0 Ha1_1 Ha1_2 Ha1_3 Ha1_4 Hc0_0 Hc0_1 Hc0_2 Hc1_0 Hc1_1 Hc1_2 Hc1_3 Hc1_4
  go_wp2_with fail
  have hcc := implCollidingLights_any _ x0 _ x1 _ HZ0.out HZ1.out
  rw [← HR0.out, ← HR1.out] at hcc
  refine (hcc).mono ?_
  clear hcc
  rintro e w8 ⟨pG, cG, rfl, how, hb⟩
  have HRG := Lib.hid how.held
  clear how
  have HSZ7 := Lib.hid (hb.size)
  replace a0_0 := fkeep hb a0_0
  replace a0_1 := fkeep hb a0_1
  replace a0_2 := fkeep hb a0_2
  replace a1_0 := fkeep hb a1_0
  replace a1_1 := fkeep hb a1_1
  replace a1_2 := fkeep hb a1_2
  replace a1_3 := fkeep hb a1_3
  replace a1_4 := fkeep hb a1_4
  replace c0_0 := fkeep hb c0_0
  replace c0_1 := fkeep hb c0_1
  replace c0_2 := fkeep hb c0_2
  replace c1_0 := fkeep hb c1_0
  replace c1_1 := fkeep hb c1_1
  replace c1_2 := fkeep hb c1_2
  replace c1_3 := fkeep hb c1_3
  replace c1_4 := fkeep hb c1_4
  have HF := Lib.hid (fstep HF.out hb)
  replace HRW := Lib.hid (HRW.out.keep hb)
  replace HZ0 := Lib.hid (HZ0.out.keep hb)
  replace HM0 := Lib.hid (HM0.out.keep hb)
  replace HZ1 := Lib.hid (HZ1.out.keep hb)
  replace HM1 := Lib.hid (HM1.out.keep hb)
  clear hb
  go_wp2_with fail
  refine (eqIntS_r pG pW _ _ r0 _ (HRG.out.1.cells) (HRW.out.1.cells) (by omega)).mono ?_
  rintro e w9 ⟨rfl, hb⟩
  have HSZ8 := Lib.hid (hb.size)
  replace a0_0 := fkeep hb a0_0
  replace a0_1 := fkeep hb a0_1
  replace a0_2 := fkeep hb a0_2
  replace a1_0 := fkeep hb a1_0
  replace a1_1 := fkeep hb a1_1
  replace a1_2 := fkeep hb a1_2
  replace a1_3 := fkeep hb a1_3
  replace a1_4 := fkeep hb a1_4
  replace c0_0 := fkeep hb c0_0
  replace c0_1 := fkeep hb c0_1
  replace c0_2 := fkeep hb c0_2
  replace c1_0 := fkeep hb c1_0
  replace c1_1 := fkeep hb c1_1
  replace c1_2 := fkeep hb c1_2
  replace c1_3 := fkeep hb c1_3
  replace c1_4 := fkeep hb c1_4
  have HF := Lib.hid (fstep HF.out hb)
  replace HRW := Lib.hid (HRW.out.keep hb)
  replace HZ0 := Lib.hid (HZ0.out.keep hb)
  replace HM0 := Lib.hid (HM0.out.keep hb)
  replace HZ1 := Lib.hid (HZ1.out.keep hb)
  replace HM1 := Lib.hid (HM1.out.keep hb)
  replace HRG := Lib.hid (HRG.out.keep hb)
  clear hb
  go_wp2
  have HSS : Fresh w9 w9 ∧ w9.cell? ⟨w6.heap.size, 0, none⟩ = some (.slice q0x m0x c0x) ∧ w9.cell? ⟨w6.heap.size, 1, none⟩ = some (.slice p0x k0x d0x) ∧ w9.cell? ⟨w6.heap.size, 2, none⟩ = some (.slice r0x i0x e0x) ∧ w9.cell? ⟨w.heap.size, 0, none⟩ = some (.slice q0a m0a c0a) ∧ w9.cell? ⟨w.heap.size, 1, none⟩ = some (.slice p0a k0a d0a) ∧ w9.cell? ⟨w.heap.size, 2, none⟩ = some (.slice r0a i0a e0a) := ⟨frefl _, c0_0, c0_1, c0_2, a0_0, a0_1, a0_2⟩
  go_region_held3 (fun w' => Fresh w9 w' ∧ w'.cell? ⟨w6.heap.size, 0, none⟩ = some (.slice q0x m0x c0x) ∧ w'.cell? ⟨w6.heap.size, 1, none⟩ = some (.slice p0x k0x d0x) ∧ w'.cell? ⟨w6.heap.size, 2, none⟩ = some (.slice r0x i0x e0x) ∧ w'.cell? ⟨w.heap.size, 0, none⟩ = some (.slice q0a m0a c0a) ∧ w'.cell? ⟨w.heap.size, 1, none⟩ = some (.slice p0a k0a d0a) ∧ w'.cell? ⟨w.heap.size, 2, none⟩ = some (.slice r0a i0a e0a))
    (first | assumption | exact keepc6 (by assumption) (by assumption) | exact keepc6 (by assumption) (fdrew (frefl _)) | exact keepc6 (by assumption) (frefl _))
    (first | (go_at_call 26; refine (toPlan_k _ x0 _ (HI0.out.keep (fstep HF.out (And.left (by assumption))))).mono ?_; rintro e w10 ⟨t0, rfl, hy, hb10⟩; have HT0 := Lib.hid hy; clear hy) | (go_at_call 30; refine (eqPlan_k _ _ x0 _ (HZ0.out.keep (And.left (by assumption))) HT0.out).mono ?_; rintro e w11 ⟨rfl, hb11⟩))
  have hb : Fresh w9 w11 := fstep (fstep (fdrew (frefl _)) hb10) hb11
  clear hb10 hb11 HSS HT0
  have HSZ9 := Lib.hid (hb.size)
  replace a0_0 := fkeep hb a0_0
  replace a0_1 := fkeep hb a0_1
  replace a0_2 := fkeep hb a0_2
  replace a1_0 := fkeep hb a1_0
  replace a1_1 := fkeep hb a1_1
  replace a1_2 := fkeep hb a1_2
  replace a1_3 := fkeep hb a1_3
  replace a1_4 := fkeep hb a1_4
  replace c0_0 := fkeep hb c0_0
  replace c0_1 := fkeep hb c0_1
  replace c0_2 := fkeep hb c0_2
  replace c1_0 := fkeep hb c1_0
  replace c1_1 := fkeep hb c1_1
  replace c1_2 := fkeep hb c1_2
  replace c1_3 := fkeep hb c1_3
  replace c1_4 := fkeep hb c1_4
  have HF := Lib.hid (fstep HF.out hb)
  replace HRW := Lib.hid (HRW.out.keep hb)
  replace HZ0 := Lib.hid (HZ0.out.keep hb)
  replace HM0 := Lib.hid (HM0.out.keep hb)
  replace HZ1 := Lib.hid (HZ1.out.keep hb)
  replace HM1 := Lib.hid (HM1.out.keep hb)
  replace HRG := Lib.hid (HRG.out.keep hb)
  clear hb
  go_wp2
  have HSS : Fresh w11 w11 ∧ w11.cell? ⟨w7.heap.size, 0, none⟩ = some (.int .i64 i1x) ∧ w11.cell? ⟨w7.heap.size, 1, none⟩ = some (.int .i64 s1x) ∧ w11.cell? ⟨w7.heap.size, 2, none⟩ = some (.slice q1x m1x c1x) ∧ w11.cell? ⟨w7.heap.size, 3, none⟩ = some (.int .i64 b1x) ∧ w11.cell? ⟨w7.heap.size, 4, none⟩ = some (.int .i64 d1x) ∧ w11.cell? ⟨w.heap.size + 1, 0, none⟩ = some (.int .i64 i1a) ∧ w11.cell? ⟨w.heap.size + 1, 1, none⟩ = some (.int .i64 s1a) ∧ w11.cell? ⟨w.heap.size + 1, 2, none⟩ = some (.slice q1a m1a c1a) ∧ w11.cell? ⟨w.heap.size + 1, 3, none⟩ = some (.int .i64 b1a) ∧ w11.cell? ⟨w.heap.size + 1, 4, none⟩ = some (.int .i64 d1a) := ⟨frefl _, c1_0, c1_1, c1_2, c1_3, c1_4, a1_0, a1_1, a1_2, a1_3, a1_4⟩
  go_region_held3 (fun w' => Fresh w11 w' ∧ w'.cell? ⟨w7.heap.size, 0, none⟩ = some (.int .i64 i1x) ∧ w'.cell? ⟨w7.heap.size, 1, none⟩ = some (.int .i64 s1x) ∧ w'.cell? ⟨w7.heap.size, 2, none⟩ = some (.slice q1x m1x c1x) ∧ w'.cell? ⟨w7.heap.size, 3, none⟩ = some (.int .i64 b1x) ∧ w'.cell? ⟨w7.heap.size, 4, none⟩ = some (.int .i64 d1x) ∧ w'.cell? ⟨w.heap.size + 1, 0, none⟩ = some (.int .i64 i1a) ∧ w'.cell? ⟨w.heap.size + 1, 1, none⟩ = some (.int .i64 s1a) ∧ w'.cell? ⟨w.heap.size + 1, 2, none⟩ = some (.slice q1a m1a c1a) ∧ w'.cell? ⟨w.heap.size + 1, 3, none⟩ = some (.int .i64 b1a) ∧ w'.cell? ⟨w.heap.size + 1, 4, none⟩ = some (.int .i64 d1a))
    (first | assumption | exact keepc10 (by assumption) (by assumption) | exact keepc10 (by assumption) (fdrew (frefl _)) | exact keepc10 (by assumption) (frefl _))
    (first | (go_at_call 27; refine (toLight_k _ x1 _ (HI1.out.keep (fstep HF.out (And.left (by assumption))))).mono ?_; rintro e w12 ⟨t1, rfl, hy, hb10⟩; have HT1 := Lib.hid hy; clear hy) | (go_at_call 31; refine (eqLight_k _ _ x1 _ (HZ1.out.keep (And.left (by assumption))) HT1.out).mono ?_; rintro e w13 ⟨rfl, hb11⟩))
  have hb : Fresh w11 w13 := fstep (fstep (fdrew (frefl _)) hb10) hb11
  clear hb10 hb11 HSS HT1
  have HSZ10 := Lib.hid (hb.size)
  replace a0_0 := fkeep hb a0_0
  replace a0_1 := fkeep hb a0_1
  replace a0_2 := fkeep hb a0_2
  replace a1_0 := fkeep hb a1_0
  replace a1_1 := fkeep hb a1_1
  replace a1_2 := fkeep hb a1_2
  replace a1_3 := fkeep hb a1_3
  replace a1_4 := fkeep hb a1_4
  replace c0_0 := fkeep hb c0_0
  replace c0_1 := fkeep hb c0_1
  replace c0_2 := fkeep hb c0_2
  replace c1_0 := fkeep hb c1_0
  replace c1_1 := fkeep hb c1_1
  replace c1_2 := fkeep hb c1_2
  replace c1_3 := fkeep hb c1_3
  replace c1_4 := fkeep hb c1_4
  have HF := Lib.hid (fstep HF.out hb)
  replace HRW := Lib.hid (HRW.out.keep hb)
  replace HZ0 := Lib.hid (HZ0.out.keep hb)
  replace HM0 := Lib.hid (HM0.out.keep hb)
  replace HZ1 := Lib.hid (HZ1.out.keep hb)
  replace HM1 := Lib.hid (HM1.out.keep hb)
  replace HRG := Lib.hid (HRG.out.keep hb)
  clear hb
  clear HZ0 HZ1
  go_wp2_with fail
  refine (markPlan_m _ (w5.heap.size) (w6.heap.size) 1 _ HM0.out (by have s0 := HSZ0.out; have s1 := HSZ1.out; have s2 := HSZ2.out; have s3 := HSZ3.out; have s4 := HSZ4.out; have s5 := HSZ5.out; have s6 := HSZ6.out; have s7 := HSZ7.out; have s8 := HSZ8.out; have s9 := HSZ9.out; have s10 := HSZ10.out; omega) (by have s0 := HSZ0.out; have s1 := HSZ1.out; have s2 := HSZ2.out; have s3 := HSZ3.out; have s4 := HSZ4.out; have s5 := HSZ5.out; have s6 := HSZ6.out; have s7 := HSZ7.out; have s8 := HSZ8.out; have s9 := HSZ9.out; have s10 := HSZ10.out; omega) (by omega) (by omega)).mono ?_
  rintro e w14 ⟨k0, rfl, hka0, hkb0, hb⟩
  clear HM0
  replace hkb0 : k0 ≤ 1 + 17592186044416 := hkb0
  have HSZ11 := Lib.hid (hb.low.size)
  replace a0_0 := Mk.cell hb (by first | exact Or.inl (by have s0 := HSZ0.out; have s1 := HSZ1.out; have s2 := HSZ2.out; have s3 := HSZ3.out; have s4 := HSZ4.out; have s5 := HSZ5.out; have s6 := HSZ6.out; have s7 := HSZ7.out; have s8 := HSZ8.out; have s9 := HSZ9.out; have s10 := HSZ10.out; have s11 := HSZ11.out; omega) | exact Or.inr (by have s0 := HSZ0.out; have s1 := HSZ1.out; have s2 := HSZ2.out; have s3 := HSZ3.out; have s4 := HSZ4.out; have s5 := HSZ5.out; have s6 := HSZ6.out; have s7 := HSZ7.out; have s8 := HSZ8.out; have s9 := HSZ9.out; have s10 := HSZ10.out; have s11 := HSZ11.out; omega)) a0_0
  replace a0_1 := Mk.cell hb (by first | exact Or.inl (by have s0 := HSZ0.out; have s1 := HSZ1.out; have s2 := HSZ2.out; have s3 := HSZ3.out; have s4 := HSZ4.out; have s5 := HSZ5.out; have s6 := HSZ6.out; have s7 := HSZ7.out; have s8 := HSZ8.out; have s9 := HSZ9.out; have s10 := HSZ10.out; have s11 := HSZ11.out; omega) | exact Or.inr (by have s0 := HSZ0.out; have s1 := HSZ1.out; have s2 := HSZ2.out; have s3 := HSZ3.out; have s4 := HSZ4.out; have s5 := HSZ5.out; have s6 := HSZ6.out; have s7 := HSZ7.out; have s8 := HSZ8.out; have s9 := HSZ9.out; have s10 := HSZ10.out; have s11 := HSZ11.out; omega)) a0_1
  replace a0_2 := Mk.cell hb (by first | exact Or.inl (by have s0 := HSZ0.out; have s1 := HSZ1.out; have s2 := HSZ2.out; have s3 := HSZ3.out; have s4 := HSZ4.out; have s5 := HSZ5.out; have s6 := HSZ6.out; have s7 := HSZ7.out; have s8 := HSZ8.out; have s9 := HSZ9.out; have s10 := HSZ10.out; have s11 := HSZ11.out; omega) | exact Or.inr (by have s0 := HSZ0.out; have s1 := HSZ1.out; have s2 := HSZ2.out; have s3 := HSZ3.out; have s4 := HSZ4.out; have s5 := HSZ5.out; have s6 := HSZ6.out; have s7 := HSZ7.out; have s8 := HSZ8.out; have s9 := HSZ9.out; have s10 := HSZ10.out; have s11 := HSZ11.out; omega)) a0_2
  replace a1_0 := Mk.cell hb (by first | exact Or.inl (by have s0 := HSZ0.out; have s1 := HSZ1.out; have s2 := HSZ2.out; have s3 := HSZ3.out; have s4 := HSZ4.out; have s5 := HSZ5.out; have s6 := HSZ6.out; have s7 := HSZ7.out; have s8 := HSZ8.out; have s9 := HSZ9.out; have s10 := HSZ10.out; have s11 := HSZ11.out; omega) | exact Or.inr (by have s0 := HSZ0.out; have s1 := HSZ1.out; have s2 := HSZ2.out; have s3 := HSZ3.out; have s4 := HSZ4.out; have s5 := HSZ5.out; have s6 := HSZ6.out; have s7 := HSZ7.out; have s8 := HSZ8.out; have s9 := HSZ9.out; have s10 := HSZ10.out; have s11 := HSZ11.out; omega)) a1_0
  replace a1_1 := Mk.cell hb (by first | exact Or.inl (by have s0 := HSZ0.out; have s1 := HSZ1.out; have s2 := HSZ2.out; have s3 := HSZ3.out; have s4 := HSZ4.out; have s5 := HSZ5.out; have s6 := HSZ6.out; have s7 := HSZ7.out; have s8 := HSZ8.out; have s9 := HSZ9.out; have s10 := HSZ10.out; have s11 := HSZ11.out; omega) | exact Or.inr (by have s0 := HSZ0.out; have s1 := HSZ1.out; have s2 := HSZ2.out; have s3 := HSZ3.out; have s4 := HSZ4.out; have s5 := HSZ5.out; have s6 := HSZ6.out; have s7 := HSZ7.out; have s8 := HSZ8.out; have s9 := HSZ9.out; have s10 := HSZ10.out; have s11 := HSZ11.out; omega)) a1_1
  replace a1_2 := Mk.cell hb (by first | exact Or.inl (by have s0 := HSZ0.out; have s1 := HSZ1.out; have s2 := HSZ2.out; have s3 := HSZ3.out; have s4 := HSZ4.out; have s5 := HSZ5.out; have s6 := HSZ6.out; have s7 := HSZ7.out; have s8 := HSZ8.out; have s9 := HSZ9.out; have s10 := HSZ10.out; have s11 := HSZ11.out; omega) | exact Or.inr (by have s0 := HSZ0.out; have s1 := HSZ1.out; have s2 := HSZ2.out; have s3 := HSZ3.out; have s4 := HSZ4.out; have s5 := HSZ5.out; have s6 := HSZ6.out; have s7 := HSZ7.out; have s8 := HSZ8.out; have s9 := HSZ9.out; have s10 := HSZ10.out; have s11 := HSZ11.out; omega)) a1_2
  replace a1_3 := Mk.cell hb (by first | exact Or.inl (by have s0 := HSZ0.out; have s1 := HSZ1.out; have s2 := HSZ2.out; have s3 := HSZ3.out; have s4 := HSZ4.out; have s5 := HSZ5.out; have s6 := HSZ6.out; have s7 := HSZ7.out; have s8 := HSZ8.out; have s9 := HSZ9.out; have s10 := HSZ10.out; have s11 := HSZ11.out; omega) | exact Or.inr (by have s0 := HSZ0.out; have s1 := HSZ1.out; have s2 := HSZ2.out; have s3 := HSZ3.out; have s4 := HSZ4.out; have s5 := HSZ5.out; have s6 := HSZ6.out; have s7 := HSZ7.out; have s8 := HSZ8.out; have s9 := HSZ9.out; have s10 := HSZ10.out; have s11 := HSZ11.out; omega)) a1_3
  replace a1_4 := Mk.cell hb (by first | exact Or.inl (by have s0 := HSZ0.out; have s1 := HSZ1.out; have s2 := HSZ2.out; have s3 := HSZ3.out; have s4 := HSZ4.out; have s5 := HSZ5.out; have s6 := HSZ6.out; have s7 := HSZ7.out; have s8 := HSZ8.out; have s9 := HSZ9.out; have s10 := HSZ10.out; have s11 := HSZ11.out; omega) | exact Or.inr (by have s0 := HSZ0.out; have s1 := HSZ1.out; have s2 := HSZ2.out; have s3 := HSZ3.out; have s4 := HSZ4.out; have s5 := HSZ5.out; have s6 := HSZ6.out; have s7 := HSZ7.out; have s8 := HSZ8.out; have s9 := HSZ9.out; have s10 := HSZ10.out; have s11 := HSZ11.out; omega)) a1_4
  replace c0_0 := Mk.cell hb (by first | exact Or.inl (by have s0 := HSZ0.out; have s1 := HSZ1.out; have s2 := HSZ2.out; have s3 := HSZ3.out; have s4 := HSZ4.out; have s5 := HSZ5.out; have s6 := HSZ6.out; have s7 := HSZ7.out; have s8 := HSZ8.out; have s9 := HSZ9.out; have s10 := HSZ10.out; have s11 := HSZ11.out; omega) | exact Or.inr (by have s0 := HSZ0.out; have s1 := HSZ1.out; have s2 := HSZ2.out; have s3 := HSZ3.out; have s4 := HSZ4.out; have s5 := HSZ5.out; have s6 := HSZ6.out; have s7 := HSZ7.out; have s8 := HSZ8.out; have s9 := HSZ9.out; have s10 := HSZ10.out; have s11 := HSZ11.out; omega)) c0_0
  replace c0_1 := Mk.cell hb (by first | exact Or.inl (by have s0 := HSZ0.out; have s1 := HSZ1.out; have s2 := HSZ2.out; have s3 := HSZ3.out; have s4 := HSZ4.out; have s5 := HSZ5.out; have s6 := HSZ6.out; have s7 := HSZ7.out; have s8 := HSZ8.out; have s9 := HSZ9.out; have s10 := HSZ10.out; have s11 := HSZ11.out; omega) | exact Or.inr (by have s0 := HSZ0.out; have s1 := HSZ1.out; have s2 := HSZ2.out; have s3 := HSZ3.out; have s4 := HSZ4.out; have s5 := HSZ5.out; have s6 := HSZ6.out; have s7 := HSZ7.out; have s8 := HSZ8.out; have s9 := HSZ9.out; have s10 := HSZ10.out; have s11 := HSZ11.out; omega)) c0_1
  replace c0_2 := Mk.cell hb (by first | exact Or.inl (by have s0 := HSZ0.out; have s1 := HSZ1.out; have s2 := HSZ2.out; have s3 := HSZ3.out; have s4 := HSZ4.out; have s5 := HSZ5.out; have s6 := HSZ6.out; have s7 := HSZ7.out; have s8 := HSZ8.out; have s9 := HSZ9.out; have s10 := HSZ10.out; have s11 := HSZ11.out; omega) | exact Or.inr (by have s0 := HSZ0.out; have s1 := HSZ1.out; have s2 := HSZ2.out; have s3 := HSZ3.out; have s4 := HSZ4.out; have s5 := HSZ5.out; have s6 := HSZ6.out; have s7 := HSZ7.out; have s8 := HSZ8.out; have s9 := HSZ9.out; have s10 := HSZ10.out; have s11 := HSZ11.out; omega)) c0_2
  replace c1_0 := Mk.cell hb (by first | exact Or.inl (by have s0 := HSZ0.out; have s1 := HSZ1.out; have s2 := HSZ2.out; have s3 := HSZ3.out; have s4 := HSZ4.out; have s5 := HSZ5.out; have s6 := HSZ6.out; have s7 := HSZ7.out; have s8 := HSZ8.out; have s9 := HSZ9.out; have s10 := HSZ10.out; have s11 := HSZ11.out; omega) | exact Or.inr (by have s0 := HSZ0.out; have s1 := HSZ1.out; have s2 := HSZ2.out; have s3 := HSZ3.out; have s4 := HSZ4.out; have s5 := HSZ5.out; have s6 := HSZ6.out; have s7 := HSZ7.out; have s8 := HSZ8.out; have s9 := HSZ9.out; have s10 := HSZ10.out; have s11 := HSZ11.out; omega)) c1_0
  replace c1_1 := Mk.cell hb (by first | exact Or.inl (by have s0 := HSZ0.out; have s1 := HSZ1.out; have s2 := HSZ2.out; have s3 := HSZ3.out; have s4 := HSZ4.out; have s5 := HSZ5.out; have s6 := HSZ6.out; have s7 := HSZ7.out; have s8 := HSZ8.out; have s9 := HSZ9.out; have s10 := HSZ10.out; have s11 := HSZ11.out; omega) | exact Or.inr (by have s0 := HSZ0.out; have s1 := HSZ1.out; have s2 := HSZ2.out; have s3 := HSZ3.out; have s4 := HSZ4.out; have s5 := HSZ5.out; have s6 := HSZ6.out; have s7 := HSZ7.out; have s8 := HSZ8.out; have s9 := HSZ9.out; have s10 := HSZ10.out; have s11 := HSZ11.out; omega)) c1_1
  replace c1_2 := Mk.cell hb (by first | exact Or.inl (by have s0 := HSZ0.out; have s1 := HSZ1.out; have s2 := HSZ2.out; have s3 := HSZ3.out; have s4 := HSZ4.out; have s5 := HSZ5.out; have s6 := HSZ6.out; have s7 := HSZ7.out; have s8 := HSZ8.out; have s9 := HSZ9.out; have s10 := HSZ10.out; have s11 := HSZ11.out; omega) | exact Or.inr (by have s0 := HSZ0.out; have s1 := HSZ1.out; have s2 := HSZ2.out; have s3 := HSZ3.out; have s4 := HSZ4.out; have s5 := HSZ5.out; have s6 := HSZ6.out; have s7 := HSZ7.out; have s8 := HSZ8.out; have s9 := HSZ9.out; have s10 := HSZ10.out; have s11 := HSZ11.out; omega)) c1_2
  replace c1_3 := Mk.cell hb (by first | exact Or.inl (by have s0 := HSZ0.out; have s1 := HSZ1.out; have s2 := HSZ2.out; have s3 := HSZ3.out; have s4 := HSZ4.out; have s5 := HSZ5.out; have s6 := HSZ6.out; have s7 := HSZ7.out; have s8 := HSZ8.out; have s9 := HSZ9.out; have s10 := HSZ10.out; have s11 := HSZ11.out; omega) | exact Or.inr (by have s0 := HSZ0.out; have s1 := HSZ1.out; have s2 := HSZ2.out; have s3 := HSZ3.out; have s4 := HSZ4.out; have s5 := HSZ5.out; have s6 := HSZ6.out; have s7 := HSZ7.out; have s8 := HSZ8.out; have s9 := HSZ9.out; have s10 := HSZ10.out; have s11 := HSZ11.out; omega)) c1_3
  replace c1_4 := Mk.cell hb (by first | exact Or.inl (by have s0 := HSZ0.out; have s1 := HSZ1.out; have s2 := HSZ2.out; have s3 := HSZ3.out; have s4 := HSZ4.out; have s5 := HSZ5.out; have s6 := HSZ6.out; have s7 := HSZ7.out; have s8 := HSZ8.out; have s9 := HSZ9.out; have s10 := HSZ10.out; have s11 := HSZ11.out; omega) | exact Or.inr (by have s0 := HSZ0.out; have s1 := HSZ1.out; have s2 := HSZ2.out; have s3 := HSZ3.out; have s4 := HSZ4.out; have s5 := HSZ5.out; have s6 := HSZ6.out; have s7 := HSZ7.out; have s8 := HSZ8.out; have s9 := HSZ9.out; have s10 := HSZ10.out; have s11 := HSZ11.out; omega)) c1_4
  have HF := Lib.hid (Mk.fresh_of HF.out hb (by have s0 := HSZ0.out; have s1 := HSZ1.out; have s2 := HSZ2.out; have s3 := HSZ3.out; have s4 := HSZ4.out; have s5 := HSZ5.out; have s6 := HSZ6.out; have s7 := HSZ7.out; have s8 := HSZ8.out; have s9 := HSZ9.out; have s10 := HSZ10.out; have s11 := HSZ11.out; omega))
  replace HRW := Lib.hid (HRW.out.mk hb (by first | exact Or.inl (by have s0 := HSZ0.out; have s1 := HSZ1.out; have s2 := HSZ2.out; have s3 := HSZ3.out; have s4 := HSZ4.out; have s5 := HSZ5.out; have s6 := HSZ6.out; have s7 := HSZ7.out; have s8 := HSZ8.out; have s9 := HSZ9.out; have s10 := HSZ10.out; have s11 := HSZ11.out; omega) | exact Or.inr (by have s0 := HSZ0.out; have s1 := HSZ1.out; have s2 := HSZ2.out; have s3 := HSZ3.out; have s4 := HSZ4.out; have s5 := HSZ5.out; have s6 := HSZ6.out; have s7 := HSZ7.out; have s8 := HSZ8.out; have s9 := HSZ9.out; have s10 := HSZ10.out; have s11 := HSZ11.out; omega)))
  replace HM1 := Lib.hid (HM1.out.mk (by decide) hb)
  replace HRG := Lib.hid (HRG.out.mk hb (by first | exact Or.inl (by have s0 := HSZ0.out; have s1 := HSZ1.out; have s2 := HSZ2.out; have s3 := HSZ3.out; have s4 := HSZ4.out; have s5 := HSZ5.out; have s6 := HSZ6.out; have s7 := HSZ7.out; have s8 := HSZ8.out; have s9 := HSZ9.out; have s10 := HSZ10.out; have s11 := HSZ11.out; omega) | exact Or.inr (by have s0 := HSZ0.out; have s1 := HSZ1.out; have s2 := HSZ2.out; have s3 := HSZ3.out; have s4 := HSZ4.out; have s5 := HSZ5.out; have s6 := HSZ6.out; have s7 := HSZ7.out; have s8 := HSZ8.out; have s9 := HSZ9.out; have s10 := HSZ10.out; have s11 := HSZ11.out; omega)))
  clear hb
  go_wp2_with fail
  refine (markLight_m _ (X0.heap.size) (w7.heap.size) k0 _ HM1.out (by have s0 := HSZ0.out; have s1 := HSZ1.out; have s2 := HSZ2.out; have s3 := HSZ3.out; have s4 := HSZ4.out; have s5 := HSZ5.out; have s6 := HSZ6.out; have s7 := HSZ7.out; have s8 := HSZ8.out; have s9 := HSZ9.out; have s10 := HSZ10.out; have s11 := HSZ11.out; omega) (by have s0 := HSZ0.out; have s1 := HSZ1.out; have s2 := HSZ2.out; have s3 := HSZ3.out; have s4 := HSZ4.out; have s5 := HSZ5.out; have s6 := HSZ6.out; have s7 := HSZ7.out; have s8 := HSZ8.out; have s9 := HSZ9.out; have s10 := HSZ10.out; have s11 := HSZ11.out; omega) (by omega) (by omega)).mono ?_
  rintro e w15 ⟨k1, rfl, hka1, hkb1, hb⟩
  clear HM1
  replace hkb1 : k1 ≤ k0 + 17592186044416 := hkb1
  have HSZ12 := Lib.hid (hb.low.size)
  replace a0_0 := Mk.cell hb (by first | exact Or.inl (by have s0 := HSZ0.out; have s1 := HSZ1.out; have s2 := HSZ2.out; have s3 := HSZ3.out; have s4 := HSZ4.out; have s5 := HSZ5.out; have s6 := HSZ6.out; have s7 := HSZ7.out; have s8 := HSZ8.out; have s9 := HSZ9.out; have s10 := HSZ10.out; have s11 := HSZ11.out; have s12 := HSZ12.out; omega) | exact Or.inr (by have s0 := HSZ0.out; have s1 := HSZ1.out; have s2 := HSZ2.out; have s3 := HSZ3.out; have s4 := HSZ4.out; have s5 := HSZ5.out; have s6 := HSZ6.out; have s7 := HSZ7.out; have s8 := HSZ8.out; have s9 := HSZ9.out; have s10 := HSZ10.out; have s11 := HSZ11.out; have s12 := HSZ12.out; omega)) a0_0
  replace a0_1 := Mk.cell hb (by first | exact Or.inl (by have s0 := HSZ0.out; have s1 := HSZ1.out; have s2 := HSZ2.out; have s3 := HSZ3.out; have s4 := HSZ4.out; have s5 := HSZ5.out; have s6 := HSZ6.out; have s7 := HSZ7.out; have s8 := HSZ8.out; have s9 := HSZ9.out; have s10 := HSZ10.out; have s11 := HSZ11.out; have s12 := HSZ12.out; omega) | exact Or.inr (by have s0 := HSZ0.out; have s1 := HSZ1.out; have s2 := HSZ2.out; have s3 := HSZ3.out; have s4 := HSZ4.out; have s5 := HSZ5.out; have s6 := HSZ6.out; have s7 := HSZ7.out; have s8 := HSZ8.out; have s9 := HSZ9.out; have s10 := HSZ10.out; have s11 := HSZ11.out; have s12 := HSZ12.out; omega)) a0_1
  replace a0_2 := Mk.cell hb (by first | exact Or.inl (by have s0 := HSZ0.out; have s1 := HSZ1.out; have s2 := HSZ2.out; have s3 := HSZ3.out; have s4 := HSZ4.out; have s5 := HSZ5.out; have s6 := HSZ6.out; have s7 := HSZ7.out; have s8 := HSZ8.out; have s9 := HSZ9.out; have s10 := HSZ10.out; have s11 := HSZ11.out; have s12 := HSZ12.out; omega) | exact Or.inr (by have s0 := HSZ0.out; have s1 := HSZ1.out; have s2 := HSZ2.out; have s3 := HSZ3.out; have s4 := HSZ4.out; have s5 := HSZ5.out; have s6 := HSZ6.out; have s7 := HSZ7.out; have s8 := HSZ8.out; have s9 := HSZ9.out; have s10 := HSZ10.out; have s11 := HSZ11.out; have s12 := HSZ12.out; omega)) a0_2
  replace a1_0 := Mk.cell hb (by first | exact Or.inl (by have s0 := HSZ0.out; have s1 := HSZ1.out; have s2 := HSZ2.out; have s3 := HSZ3.out; have s4 := HSZ4.out; have s5 := HSZ5.out; have s6 := HSZ6.out; have s7 := HSZ7.out; have s8 := HSZ8.out; have s9 := HSZ9.out; have s10 := HSZ10.out; have s11 := HSZ11.out; have s12 := HSZ12.out; omega) | exact Or.inr (by have s0 := HSZ0.out; have s1 := HSZ1.out; have s2 := HSZ2.out; have s3 := HSZ3.out; have s4 := HSZ4.out; have s5 := HSZ5.out; have s6 := HSZ6.out; have s7 := HSZ7.out; have s8 := HSZ8.out; have s9 := HSZ9.out; have s10 := HSZ10.out; have s11 := HSZ11.out; have s12 := HSZ12.out; omega)) a1_0
  replace a1_1 := Mk.cell hb (by first | exact Or.inl (by have s0 := HSZ0.out; have s1 := HSZ1.out; have s2 := HSZ2.out; have s3 := HSZ3.out; have s4 := HSZ4.out; have s5 := HSZ5.out; have s6 := HSZ6.out; have s7 := HSZ7.out; have s8 := HSZ8.out; have s9 := HSZ9.out; have s10 := HSZ10.out; have s11 := HSZ11.out; have s12 := HSZ12.out; omega) | exact Or.inr (by have s0 := HSZ0.out; have s1 := HSZ1.out; have s2 := HSZ2.out; have s3 := HSZ3.out; have s4 := HSZ4.out; have s5 := HSZ5.out; have s6 := HSZ6.out; have s7 := HSZ7.out; have s8 := HSZ8.out; have s9 := HSZ9.out; have s10 := HSZ10.out; have s11 := HSZ11.out; have s12 := HSZ12.out; omega)) a1_1
  replace a1_2 := Mk.cell hb (by first | exact Or.inl (by have s0 := HSZ0.out; have s1 := HSZ1.out; have s2 := HSZ2.out; have s3 := HSZ3.out; have s4 := HSZ4.out; have s5 := HSZ5.out; have s6 := HSZ6.out; have s7 := HSZ7.out; have s8 := HSZ8.out; have s9 := HSZ9.out; have s10 := HSZ10.out; have s11 := HSZ11.out; have s12 := HSZ12.out; omega) | exact Or.inr (by have s0 := HSZ0.out; have s1 := HSZ1.out; have s2 := HSZ2.out; have s3 := HSZ3.out; have s4 := HSZ4.out; have s5 := HSZ5.out; have s6 := HSZ6.out; have s7 := HSZ7.out; have s8 := HSZ8.out; have s9 := HSZ9.out; have s10 := HSZ10.out; have s11 := HSZ11.out; have s12 := HSZ12.out; omega)) a1_2
  replace a1_3 := Mk.cell hb (by first | exact Or.inl (by have s0 := HSZ0.out; have s1 := HSZ1.out; have s2 := HSZ2.out; have s3 := HSZ3.out; have s4 := HSZ4.out; have s5 := HSZ5.out; have s6 := HSZ6.out; have s7 := HSZ7.out; have s8 := HSZ8.out; have s9 := HSZ9.out; have s10 := HSZ10.out; have s11 := HSZ11.out; have s12 := HSZ12.out; omega) | exact Or.inr (by have s0 := HSZ0.out; have s1 := HSZ1.out; have s2 := HSZ2.out; have s3 := HSZ3.out; have s4 := HSZ4.out; have s5 := HSZ5.out; have s6 := HSZ6.out; have s7 := HSZ7.out; have s8 := HSZ8.out; have s9 := HSZ9.out; have s10 := HSZ10.out; have s11 := HSZ11.out; have s12 := HSZ12.out; omega)) a1_3
  replace a1_4 := Mk.cell hb (by first | exact Or.inl (by have s0 := HSZ0.out; have s1 := HSZ1.out; have s2 := HSZ2.out; have s3 := HSZ3.out; have s4 := HSZ4.out; have s5 := HSZ5.out; have s6 := HSZ6.out; have s7 := HSZ7.out; have s8 := HSZ8.out; have s9 := HSZ9.out; have s10 := HSZ10.out; have s11 := HSZ11.out; have s12 := HSZ12.out; omega) | exact Or.inr (by have s0 := HSZ0.out; have s1 := HSZ1.out; have s2 := HSZ2.out; have s3 := HSZ3.out; have s4 := HSZ4.out; have s5 := HSZ5.out; have s6 := HSZ6.out; have s7 := HSZ7.out; have s8 := HSZ8.out; have s9 := HSZ9.out; have s10 := HSZ10.out; have s11 := HSZ11.out; have s12 := HSZ12.out; omega)) a1_4
  replace c0_0 := Mk.cell hb (by first | exact Or.inl (by have s0 := HSZ0.out; have s1 := HSZ1.out; have s2 := HSZ2.out; have s3 := HSZ3.out; have s4 := HSZ4.out; have s5 := HSZ5.out; have s6 := HSZ6.out; have s7 := HSZ7.out; have s8 := HSZ8.out; have s9 := HSZ9.out; have s10 := HSZ10.out; have s11 := HSZ11.out; have s12 := HSZ12.out; omega) | exact Or.inr (by have s0 := HSZ0.out; have s1 := HSZ1.out; have s2 := HSZ2.out; have s3 := HSZ3.out; have s4 := HSZ4.out; have s5 := HSZ5.out; have s6 := HSZ6.out; have s7 := HSZ7.out; have s8 := HSZ8.out; have s9 := HSZ9.out; have s10 := HSZ10.out; have s11 := HSZ11.out; have s12 := HSZ12.out; omega)) c0_0
  replace c0_1 := Mk.cell hb (by first | exact Or.inl (by have s0 := HSZ0.out; have s1 := HSZ1.out; have s2 := HSZ2.out; have s3 := HSZ3.out; have s4 := HSZ4.out; have s5 := HSZ5.out; have s6 := HSZ6.out; have s7 := HSZ7.out; have s8 := HSZ8.out; have s9 := HSZ9.out; have s10 := HSZ10.out; have s11 := HSZ11.out; have s12 := HSZ12.out; omega) | exact Or.inr (by have s0 := HSZ0.out; have s1 := HSZ1.out; have s2 := HSZ2.out; have s3 := HSZ3.out; have s4 := HSZ4.out; have s5 := HSZ5.out; have s6 := HSZ6.out; have s7 := HSZ7.out; have s8 := HSZ8.out; have s9 := HSZ9.out; have s10 := HSZ10.out; have s11 := HSZ11.out; have s12 := HSZ12.out; omega)) c0_1
  replace c0_2 := Mk.cell hb (by first | exact Or.inl (by have s0 := HSZ0.out; have s1 := HSZ1.out; have s2 := HSZ2.out; have s3 := HSZ3.out; have s4 := HSZ4.out; have s5 := HSZ5.out; have s6 := HSZ6.out; have s7 := HSZ7.out; have s8 := HSZ8.out; have s9 := HSZ9.out; have s10 := HSZ10.out; have s11 := HSZ11.out; have s12 := HSZ12.out; omega) | exact Or.inr (by have s0 := HSZ0.out; have s1 := HSZ1.out; have s2 := HSZ2.out; have s3 := HSZ3.out; have s4 := HSZ4.out; have s5 := HSZ5.out; have s6 := HSZ6.out; have s7 := HSZ7.out; have s8 := HSZ8.out; have s9 := HSZ9.out; have s10 := HSZ10.out; have s11 := HSZ11.out; have s12 := HSZ12.out; omega)) c0_2
  replace c1_0 := Mk.cell hb (by first | exact Or.inl (by have s0 := HSZ0.out; have s1 := HSZ1.out; have s2 := HSZ2.out; have s3 := HSZ3.out; have s4 := HSZ4.out; have s5 := HSZ5.out; have s6 := HSZ6.out; have s7 := HSZ7.out; have s8 := HSZ8.out; have s9 := HSZ9.out; have s10 := HSZ10.out; have s11 := HSZ11.out; have s12 := HSZ12.out; omega) | exact Or.inr (by have s0 := HSZ0.out; have s1 := HSZ1.out; have s2 := HSZ2.out; have s3 := HSZ3.out; have s4 := HSZ4.out; have s5 := HSZ5.out; have s6 := HSZ6.out; have s7 := HSZ7.out; have s8 := HSZ8.out; have s9 := HSZ9.out; have s10 := HSZ10.out; have s11 := HSZ11.out; have s12 := HSZ12.out; omega)) c1_0
  replace c1_1 := Mk.cell hb (by first | exact Or.inl (by have s0 := HSZ0.out; have s1 := HSZ1.out; have s2 := HSZ2.out; have s3 := HSZ3.out; have s4 := HSZ4.out; have s5 := HSZ5.out; have s6 := HSZ6.out; have s7 := HSZ7.out; have s8 := HSZ8.out; have s9 := HSZ9.out; have s10 := HSZ10.out; have s11 := HSZ11.out; have s12 := HSZ12.out; omega) | exact Or.inr (by have s0 := HSZ0.out; have s1 := HSZ1.out; have s2 := HSZ2.out; have s3 := HSZ3.out; have s4 := HSZ4.out; have s5 := HSZ5.out; have s6 := HSZ6.out; have s7 := HSZ7.out; have s8 := HSZ8.out; have s9 := HSZ9.out; have s10 := HSZ10.out; have s11 := HSZ11.out; have s12 := HSZ12.out; omega)) c1_1
  replace c1_2 := Mk.cell hb (by first | exact Or.inl (by have s0 := HSZ0.out; have s1 := HSZ1.out; have s2 := HSZ2.out; have s3 := HSZ3.out; have s4 := HSZ4.out; have s5 := HSZ5.out; have s6 := HSZ6.out; have s7 := HSZ7.out; have s8 := HSZ8.out; have s9 := HSZ9.out; have s10 := HSZ10.out; have s11 := HSZ11.out; have s12 := HSZ12.out; omega) | exact Or.inr (by have s0 := HSZ0.out; have s1 := HSZ1.out; have s2 := HSZ2.out; have s3 := HSZ3.out; have s4 := HSZ4.out; have s5 := HSZ5.out; have s6 := HSZ6.out; have s7 := HSZ7.out; have s8 := HSZ8.out; have s9 := HSZ9.out; have s10 := HSZ10.out; have s11 := HSZ11.out; have s12 := HSZ12.out; omega)) c1_2
  replace c1_3 := Mk.cell hb (by first | exact Or.inl (by have s0 := HSZ0.out; have s1 := HSZ1.out; have s2 := HSZ2.out; have s3 := HSZ3.out; have s4 := HSZ4.out; have s5 := HSZ5.out; have s6 := HSZ6.out; have s7 := HSZ7.out; have s8 := HSZ8.out; have s9 := HSZ9.out; have s10 := HSZ10.out; have s11 := HSZ11.out; have s12 := HSZ12.out; omega) | exact Or.inr (by have s0 := HSZ0.out; have s1 := HSZ1.out; have s2 := HSZ2.out; have s3 := HSZ3.out; have s4 := HSZ4.out; have s5 := HSZ5.out; have s6 := HSZ6.out; have s7 := HSZ7.out; have s8 := HSZ8.out; have s9 := HSZ9.out; have s10 := HSZ10.out; have s11 := HSZ11.out; have s12 := HSZ12.out; omega)) c1_3
  replace c1_4 := Mk.cell hb (by first | exact Or.inl (by have s0 := HSZ0.out; have s1 := HSZ1.out; have s2 := HSZ2.out; have s3 := HSZ3.out; have s4 := HSZ4.out; have s5 := HSZ5.out; have s6 := HSZ6.out; have s7 := HSZ7.out; have s8 := HSZ8.out; have s9 := HSZ9.out; have s10 := HSZ10.out; have s11 := HSZ11.out; have s12 := HSZ12.out; omega) | exact Or.inr (by have s0 := HSZ0.out; have s1 := HSZ1.out; have s2 := HSZ2.out; have s3 := HSZ3.out; have s4 := HSZ4.out; have s5 := HSZ5.out; have s6 := HSZ6.out; have s7 := HSZ7.out; have s8 := HSZ8.out; have s9 := HSZ9.out; have s10 := HSZ10.out; have s11 := HSZ11.out; have s12 := HSZ12.out; omega)) c1_4
  have HF := Lib.hid (Mk.fresh_of HF.out hb (by have s0 := HSZ0.out; have s1 := HSZ1.out; have s2 := HSZ2.out; have s3 := HSZ3.out; have s4 := HSZ4.out; have s5 := HSZ5.out; have s6 := HSZ6.out; have s7 := HSZ7.out; have s8 := HSZ8.out; have s9 := HSZ9.out; have s10 := HSZ10.out; have s11 := HSZ11.out; have s12 := HSZ12.out; omega))
  replace HRW := Lib.hid (HRW.out.mk hb (by first | exact Or.inl (by have s0 := HSZ0.out; have s1 := HSZ1.out; have s2 := HSZ2.out; have s3 := HSZ3.out; have s4 := HSZ4.out; have s5 := HSZ5.out; have s6 := HSZ6.out; have s7 := HSZ7.out; have s8 := HSZ8.out; have s9 := HSZ9.out; have s10 := HSZ10.out; have s11 := HSZ11.out; have s12 := HSZ12.out; omega) | exact Or.inr (by have s0 := HSZ0.out; have s1 := HSZ1.out; have s2 := HSZ2.out; have s3 := HSZ3.out; have s4 := HSZ4.out; have s5 := HSZ5.out; have s6 := HSZ6.out; have s7 := HSZ7.out; have s8 := HSZ8.out; have s9 := HSZ9.out; have s10 := HSZ10.out; have s11 := HSZ11.out; have s12 := HSZ12.out; omega)))
  replace HRG := Lib.hid (HRG.out.mk hb (by first | exact Or.inl (by have s0 := HSZ0.out; have s1 := HSZ1.out; have s2 := HSZ2.out; have s3 := HSZ3.out; have s4 := HSZ4.out; have s5 := HSZ5.out; have s6 := HSZ6.out; have s7 := HSZ7.out; have s8 := HSZ8.out; have s9 := HSZ9.out; have s10 := HSZ10.out; have s11 := HSZ11.out; have s12 := HSZ12.out; omega) | exact Or.inr (by have s0 := HSZ0.out; have s1 := HSZ1.out; have s2 := HSZ2.out; have s3 := HSZ3.out; have s4 := HSZ4.out; have s5 := HSZ5.out; have s6 := HSZ6.out; have s7 := HSZ7.out; have s8 := HSZ8.out; have s9 := HSZ9.out; have s10 := HSZ10.out; have s11 := HSZ11.out; have s12 := HSZ12.out; omega)))
  clear hb
  clear c0_0 c0_1 c0_2 c1_0 c1_1 c1_2 c1_3 c1_4
  have hkn : (k1 < 0) = False := eq_false (by omega)
  go_wp2_with fail
  refine (eqIntS_r pG pW _ _ r0 _ (HRG.out.1.cells) (HRW.out.1.cells) (by omega)).mono ?_
  rintro e w16 ⟨rfl, hb⟩
  have HSZ13 := Lib.hid (hb.size)
  replace a0_0 := fkeep hb a0_0
  replace a0_1 := fkeep hb a0_1
  replace a0_2 := fkeep hb a0_2
  replace a1_0 := fkeep hb a1_0
  replace a1_1 := fkeep hb a1_1
  replace a1_2 := fkeep hb a1_2
  replace a1_3 := fkeep hb a1_3
  replace a1_4 := fkeep hb a1_4
  have HF := Lib.hid (fstep HF.out hb)
  replace HRW := Lib.hid (HRW.out.keep hb)
  replace HRG := Lib.hid (HRG.out.keep hb)
  clear hb
  clear hkn hka0 hkb0 hka1 hkb1
  go_wp2_with fail
  refine (markIntS_any pG _ (X1.heap.size) r0 1 _ HRG.out.1 (by omega) (by omega) (by omega)).mono ?_
  rintro e w17 ⟨rfl, ho, hb⟩
  have HG := Lib.hid ho
  clear ho HRG
  have HSZ14 := Lib.hid (hb.size)
  replace a0_0 := bkeep hb (by have s0 := HSZ0.out; have s1 := HSZ1.out; have s2 := HSZ2.out; have s3 := HSZ3.out; have s4 := HSZ4.out; have s5 := HSZ5.out; have s6 := HSZ6.out; have s7 := HSZ7.out; have s8 := HSZ8.out; have s9 := HSZ9.out; have s10 := HSZ10.out; have s11 := HSZ11.out; have s12 := HSZ12.out; have s13 := HSZ13.out; have s14 := HSZ14.out; omega) a0_0
  replace a0_1 := bkeep hb (by have s0 := HSZ0.out; have s1 := HSZ1.out; have s2 := HSZ2.out; have s3 := HSZ3.out; have s4 := HSZ4.out; have s5 := HSZ5.out; have s6 := HSZ6.out; have s7 := HSZ7.out; have s8 := HSZ8.out; have s9 := HSZ9.out; have s10 := HSZ10.out; have s11 := HSZ11.out; have s12 := HSZ12.out; have s13 := HSZ13.out; have s14 := HSZ14.out; omega) a0_1
  replace a0_2 := bkeep hb (by have s0 := HSZ0.out; have s1 := HSZ1.out; have s2 := HSZ2.out; have s3 := HSZ3.out; have s4 := HSZ4.out; have s5 := HSZ5.out; have s6 := HSZ6.out; have s7 := HSZ7.out; have s8 := HSZ8.out; have s9 := HSZ9.out; have s10 := HSZ10.out; have s11 := HSZ11.out; have s12 := HSZ12.out; have s13 := HSZ13.out; have s14 := HSZ14.out; omega) a0_2
  replace a1_0 := bkeep hb (by have s0 := HSZ0.out; have s1 := HSZ1.out; have s2 := HSZ2.out; have s3 := HSZ3.out; have s4 := HSZ4.out; have s5 := HSZ5.out; have s6 := HSZ6.out; have s7 := HSZ7.out; have s8 := HSZ8.out; have s9 := HSZ9.out; have s10 := HSZ10.out; have s11 := HSZ11.out; have s12 := HSZ12.out; have s13 := HSZ13.out; have s14 := HSZ14.out; omega) a1_0
  replace a1_1 := bkeep hb (by have s0 := HSZ0.out; have s1 := HSZ1.out; have s2 := HSZ2.out; have s3 := HSZ3.out; have s4 := HSZ4.out; have s5 := HSZ5.out; have s6 := HSZ6.out; have s7 := HSZ7.out; have s8 := HSZ8.out; have s9 := HSZ9.out; have s10 := HSZ10.out; have s11 := HSZ11.out; have s12 := HSZ12.out; have s13 := HSZ13.out; have s14 := HSZ14.out; omega) a1_1
  replace a1_2 := bkeep hb (by have s0 := HSZ0.out; have s1 := HSZ1.out; have s2 := HSZ2.out; have s3 := HSZ3.out; have s4 := HSZ4.out; have s5 := HSZ5.out; have s6 := HSZ6.out; have s7 := HSZ7.out; have s8 := HSZ8.out; have s9 := HSZ9.out; have s10 := HSZ10.out; have s11 := HSZ11.out; have s12 := HSZ12.out; have s13 := HSZ13.out; have s14 := HSZ14.out; omega) a1_2
  replace a1_3 := bkeep hb (by have s0 := HSZ0.out; have s1 := HSZ1.out; have s2 := HSZ2.out; have s3 := HSZ3.out; have s4 := HSZ4.out; have s5 := HSZ5.out; have s6 := HSZ6.out; have s7 := HSZ7.out; have s8 := HSZ8.out; have s9 := HSZ9.out; have s10 := HSZ10.out; have s11 := HSZ11.out; have s12 := HSZ12.out; have s13 := HSZ13.out; have s14 := HSZ14.out; omega) a1_3
  replace a1_4 := bkeep hb (by have s0 := HSZ0.out; have s1 := HSZ1.out; have s2 := HSZ2.out; have s3 := HSZ3.out; have s4 := HSZ4.out; have s5 := HSZ5.out; have s6 := HSZ6.out; have s7 := HSZ7.out; have s8 := HSZ8.out; have s9 := HSZ9.out; have s10 := HSZ10.out; have s11 := HSZ11.out; have s12 := HSZ12.out; have s13 := HSZ13.out; have s14 := HSZ14.out; omega) a1_4
  have HF := Lib.hid (HF.out.trans (hb.mono (by have s0 := HSZ0.out; have s1 := HSZ1.out; have s2 := HSZ2.out; have s3 := HSZ3.out; have s4 := HSZ4.out; have s5 := HSZ5.out; have s6 := HSZ6.out; have s7 := HSZ7.out; have s8 := HSZ8.out; have s9 := HSZ9.out; have s10 := HSZ10.out; have s11 := HSZ11.out; have s12 := HSZ12.out; have s13 := HSZ13.out; have s14 := HSZ14.out; omega)))
  replace HRW := Lib.hid (HRW.out.below hb (by have s0 := HSZ0.out; have s1 := HSZ1.out; have s2 := HSZ2.out; have s3 := HSZ3.out; have s4 := HSZ4.out; have s5 := HSZ5.out; have s6 := HSZ6.out; have s7 := HSZ7.out; have s8 := HSZ8.out; have s9 := HSZ9.out; have s10 := HSZ10.out; have s11 := HSZ11.out; have s12 := HSZ12.out; have s13 := HSZ13.out; have s14 := HSZ14.out; omega))
  clear hb
  go_wp2_with fail
  refine (heldIntS_o pG _ _ r0.length 1 _ HG.out (by omega) (by omega) (by omega)).mono ?_
  rintro e w18 ⟨rfl, hb⟩
  have HSZ15 := Lib.hid (hb.size)
  replace a0_0 := fkeep hb a0_0
  replace a0_1 := fkeep hb a0_1
  replace a0_2 := fkeep hb a0_2
  replace a1_0 := fkeep hb a1_0
  replace a1_1 := fkeep hb a1_1
  replace a1_2 := fkeep hb a1_2
  replace a1_3 := fkeep hb a1_3
  replace a1_4 := fkeep hb a1_4
  have HF := Lib.hid (fstep HF.out hb)
  replace HRW := Lib.hid (HRW.out.keep hb)
  replace HG := Lib.hid (HG.out.keep hb)
  clear hb
  go_wp2
  have HSS : Fresh w18 w18 ∧ w18.cell? ⟨w.heap.size, 0, none⟩ = some (.slice q0a m0a c0a) ∧ w18.cell? ⟨w.heap.size, 1, none⟩ = some (.slice p0a k0a d0a) ∧ w18.cell? ⟨w.heap.size, 2, none⟩ = some (.slice r0a i0a e0a) ∧ w18.cell? ⟨w.heap.size + 1, 0, none⟩ = some (.int .i64 i1a) ∧ w18.cell? ⟨w.heap.size + 1, 1, none⟩ = some (.int .i64 s1a) ∧ w18.cell? ⟨w.heap.size + 1, 2, none⟩ = some (.slice q1a m1a c1a) ∧ w18.cell? ⟨w.heap.size + 1, 3, none⟩ = some (.int .i64 b1a) ∧ w18.cell? ⟨w.heap.size + 1, 4, none⟩ = some (.int .i64 d1a) := ⟨frefl _, a0_0, a0_1, a0_2, a1_0, a1_1, a1_2, a1_3, a1_4⟩
  go_region_held3 (fun w' => Fresh w18 w' ∧ w'.cell? ⟨w.heap.size, 0, none⟩ = some (.slice q0a m0a c0a) ∧ w'.cell? ⟨w.heap.size, 1, none⟩ = some (.slice p0a k0a d0a) ∧ w'.cell? ⟨w.heap.size, 2, none⟩ = some (.slice r0a i0a e0a) ∧ w'.cell? ⟨w.heap.size + 1, 0, none⟩ = some (.int .i64 i1a) ∧ w'.cell? ⟨w.heap.size + 1, 1, none⟩ = some (.int .i64 s1a) ∧ w'.cell? ⟨w.heap.size + 1, 2, none⟩ = some (.slice q1a m1a c1a) ∧ w'.cell? ⟨w.heap.size + 1, 3, none⟩ = some (.int .i64 b1a) ∧ w'.cell? ⟨w.heap.size + 1, 4, none⟩ = some (.int .i64 d1a))
    (first | assumption | exact keepc8 (by assumption) (by assumption) | exact keepc8 (by assumption) (fdrew (frefl _)) | exact keepc8 (by assumption) (frefl _))
    (first | (go_at_call 26; refine (toPlan_k _ x0 _ (HI0.out.keep (fstep HF.out (And.left (by assumption))))).mono ?_; rintro e w19 ⟨u0, rfl, hy, hbb0⟩; have HY0 := Lib.hid hy; clear hy) | (go_at_call 27; refine (toLight_k _ x1 _ (HI1.out.keep (fstep HF.out (And.left (by assumption))))).mono ?_; rintro e w20 ⟨u1, rfl, hy, hbb1⟩; have HY1 := Lib.hid hy; clear hy) | (go_at_call 28; have hcc := implCollidingLights_any _ x0 _ x1 _ (HY0.out.keep hbb1) HY1.out; rw [← HR0.out, ← HR1.out] at hcc; refine hcc.mono ?_; clear hcc; rintro e w21 ⟨pH, cH, rfl, how, hb⟩))
  replace hb : Fresh w18 w21 := fstep (fstep (fstep (fdrew (frefl _)) hbb0) hbb1) hb
  clear hbb0 hbb1 HSS HY0 HY1
  have HRH := Lib.hid (how.held.wide (Nat.zero_le _) (Nat.le_refl _))
  clear how
  have HSZ16 := Lib.hid (hb.size)
  replace a0_0 := fkeep hb a0_0
  replace a0_1 := fkeep hb a0_1
  replace a0_2 := fkeep hb a0_2
  replace a1_0 := fkeep hb a1_0
  replace a1_1 := fkeep hb a1_1
  replace a1_2 := fkeep hb a1_2
  replace a1_3 := fkeep hb a1_3
  replace a1_4 := fkeep hb a1_4
  have HF := Lib.hid (fstep HF.out hb)
  replace HRW := Lib.hid (HRW.out.keep hb)
  replace HG := Lib.hid (HG.out.keep hb)
  clear hb
  go_wp2_with fail
  refine (eqIntS_r pH pW _ _ r0 _ (HRH.out.1.cells) (HRW.out.1.cells) (by omega)).mono ?_
  rintro e w22 ⟨rfl, hb⟩
  have HSZ17 := Lib.hid (hb.size)
  replace a0_0 := fkeep hb a0_0
  replace a0_1 := fkeep hb a0_1
  replace a0_2 := fkeep hb a0_2
  replace a1_0 := fkeep hb a1_0
  replace a1_1 := fkeep hb a1_1
  replace a1_2 := fkeep hb a1_2
  replace a1_3 := fkeep hb a1_3
  replace a1_4 := fkeep hb a1_4
  have HF := Lib.hid (fstep HF.out hb)
  replace HRW := Lib.hid (HRW.out.keep hb)
  replace HG := Lib.hid (HG.out.keep hb)
  replace HRH := Lib.hid (HRH.out.keep hb)
  clear hb
  go_wp2_with fail
  refine (heldIntS_o pG _ _ r0.length 1 _ HG.out (by omega) (by omega) (by omega)).mono ?_
  rintro e w23 ⟨rfl, hb⟩
  have HSZ18 := Lib.hid (hb.size)
  replace a0_0 := fkeep hb a0_0
  replace a0_1 := fkeep hb a0_1
  replace a0_2 := fkeep hb a0_2
  replace a1_0 := fkeep hb a1_0
  replace a1_1 := fkeep hb a1_1
  replace a1_2 := fkeep hb a1_2
  replace a1_3 := fkeep hb a1_3
  replace a1_4 := fkeep hb a1_4
  have HF := Lib.hid (fstep HF.out hb)
  replace HRW := Lib.hid (HRW.out.keep hb)
  replace HG := Lib.hid (HG.out.keep hb)
  replace HRH := Lib.hid (HRH.out.keep hb)
  clear hb
  go_wp2
  go_ret
  exact ⟨rfl, HF.out⟩
end Go.Proofs.Ytjaacinngfblkaa
