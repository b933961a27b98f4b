/- The walk of FnExactAreCompatible. -/
import Derived.Test.YtipbbfeimdobeaaKSv1
import Derived.Test.YtipbbfeimdobeaaU2
import Derived.Deep.RegionHeld3
import Derived.Deep.DeepCutAuto
namespace Go.Proofs.Ytipbbfeimdobeaa
open Go.RowKit Go.PlainAid

set_option maxHeartbeats 16000000 in
set_option maxRecDepth 100000 in
theorem law_AreCompatible (v0 : Value) (x0 : Net) (v1 : Value) (x1 : SvV) (v2 : Value) (x2 : SvV) (w : World) (h0 : NetRaw w v0 x0) (h1 : S1Raw w v1 x1) (h2 : S1Raw w v2 x2) :
    Calls Try.prog 4 #[v0, v1, v2] w fun e w' => e = .returned (.bool true) ∧ Fresh w w' := by
  obtain ⟨q0a, m0a, c0a, p0a, k0a, d0a, hv0⟩ := h0.shape
  subst hv0
  obtain ⟨i1a, l1a, s1a, q1a, m1a, c1a, f1a, e1a, t1a, r1a, k1a, d1a, g1a, h1a, hv1⟩ := h1.shape
  subst hv1
  obtain ⟨i2a, l2a, s2a, q2a, m2a, c2a, f2a, e2a, t2a, r2a, k2a, d2a, g2a, h2a, hv2⟩ := h2.shape
  subst hv2
  have HI0 := Lib.hid h0
  clear h0
  have HI1 := Lib.hid h1
  clear h1
  have HI2 := Lib.hid h2
  clear h2
  obtain ⟨r0, hr0⟩ : ∃ r0, r0 = (compF x0 x1 x2).1 := ⟨_, rfl⟩
  have HR0 := Lib.hid hr0
  clear hr0
  obtain ⟨r1, hr1⟩ : ∃ r1, r1 = (compF x0 x1 x2).2 := ⟨_, rfl⟩
  have HR1 := Lib.hid hr1
  clear hr1
  obtain ⟨B0, hB0⟩ : ∃ B, B = w.alloc (.cells #[.slice q0a m0a c0a, .slice p0a k0a d0a] 25) := ⟨_, rfl⟩
  have hz0 : B0.heap.size = w.heap.size + 1 := by rw [hB0]; simp
  have hf0 : Fresh w B0 := by rw [hB0]; exact fnew (frefl _) _
  have hrow0 : RowAt B0 w.heap.size 25 [.slice q0a m0a c0a, .slice p0a k0a d0a] := by rw [hB0]; exact RowAt.new _ _ _
  obtain ⟨B1, hB1⟩ : ∃ B, B = B0.alloc (.cells #[.int .i64 i1a, .int .i64 l1a, .int .i64 s1a, .slice q1a m1a c1a, .int .i64 f1a, .int .i64 e1a, .int .i64 t1a, .slice r1a k1a d1a, .int .i64 g1a, .int .i64 h1a] 51) := ⟨_, rfl⟩
  have hz1 : B1.heap.size = B0.heap.size + 1 := by rw [hB1]; simp
  have hf1 : Fresh B0 B1 := by rw [hB1]; exact fnew (frefl _) _
  have hrow1 : RowAt B1 B0.heap.size 51 [.int .i64 i1a, .int .i64 l1a, .int .i64 s1a, .slice q1a m1a c1a, .int .i64 f1a, .int .i64 e1a, .int .i64 t1a, .slice r1a k1a d1a, .int .i64 g1a, .int .i64 h1a] := by rw [hB1]; exact RowAt.new _ _ _
  obtain ⟨B2, hB2⟩ : ∃ B, B = B1.alloc (.cells #[.int .i64 i2a, .int .i64 l2a, .int .i64 s2a, .slice q2a m2a c2a, .int .i64 f2a, .int .i64 e2a, .int .i64 t2a, .slice r2a k2a d2a, .int .i64 g2a, .int .i64 h2a] 51) := ⟨_, rfl⟩
  have hz2 : B2.heap.size = B1.heap.size + 1 := by rw [hB2]; simp
  have hf2 : Fresh B1 B2 := by rw [hB2]; exact fnew (frefl _) _
  have hrow2 : RowAt B2 B1.heap.size 51 [.int .i64 i2a, .int .i64 l2a, .int .i64 s2a, .slice q2a m2a c2a, .int .i64 f2a, .int .i64 e2a, .int .i64 t2a, .slice r2a k2a d2a, .int .i64 g2a, .int .i64 h2a] := by rw [hB2]; exact RowAt.new _ _ _
  replace hrow0 := hrow0.keep hf1
  replace hrow0 := hrow0.keep hf2
  replace hrow1 := hrow1.keep hf2
  have HF := Lib.hid (fstep (fstep (fstep (frefl w) hf0) hf1) hf2)
  have a0_0 := hrow0.cell (i := 0) rfl
  have a0_1 := hrow0.cell (i := 1) rfl
  have a1_0 := hrow1.cell (i := 0) rfl
  have a1_1 := hrow1.cell (i := 1) rfl
  have a1_2 := hrow1.cell (i := 2) rfl
  have a1_3 := hrow1.cell (i := 3) rfl
  have a1_4 := hrow1.cell (i := 4) rfl
  have a1_5 := hrow1.cell (i := 5) rfl
  have a1_6 := hrow1.cell (i := 6) rfl
  have a1_7 := hrow1.cell (i := 7) rfl
  have a1_8 := hrow1.cell (i := 8) rfl
  have a1_9 := hrow1.cell (i := 9) rfl
  have a2_0 := hrow2.cell (i := 0) rfl
  have a2_1 := hrow2.cell (i := 1) rfl
  have a2_2 := hrow2.cell (i := 2) rfl
  have a2_3 := hrow2.cell (i := 3) rfl
  have a2_4 := hrow2.cell (i := 4) rfl
  have a2_5 := hrow2.cell (i := 5) rfl
  have a2_6 := hrow2.cell (i := 6) rfl
  have a2_7 := hrow2.cell (i := 7) rfl
  have a2_8 := hrow2.cell (i := 8) rfl
  have a2_9 := hrow2.cell (i := 9) rfl
  rw [hz0] at a1_0 a1_1 a1_2 a1_3 a1_4 a1_5 a1_6 a1_7 a1_8 a1_9
  rw [hz1, hz0] at a2_0 a2_1 a2_2 a2_3 a2_4 a2_5 a2_6 a2_7 a2_8 a2_9
  have HB := Lib.hid (And.intro hB0 (And.intro hB1 hB2))
  clear hB0 hz0 hf0 hrow0 hB1 hz1 hf1 hrow1 hB2 hz2 hf2 hrow2
  go_enter Try.func4, Try.ntmps4
  go_wp2_with fail
  rw [← HB.out.1, ← HB.out.2.1, ← HB.out.2.2]
  clear HB
  refine (szNetwork_any _ x0 1048576 _ (NetRaw.keep HI0.out HF.out) (by omega) (by omega)).mono ?_
  rintro e w1 ⟨l0, rfl, l00, l01, hsm, hb⟩
  have HS0 := Lib.hid hsm
  clear hsm
  replace a0_0 := fkeep hb a0_0
  replace a0_1 := fkeep hb a0_1
  replace a1_0 := fkeep hb a1_0
  replace a1_1 := fkeep hb a1_1
  replace a1_2 := fkeep hb a1_2
  replace a1_3 := fkeep hb a1_3
  replace a1_4 := fkeep hb a1_4
  replace a1_5 := fkeep hb a1_5
  replace a1_6 := fkeep hb a1_6
  replace a1_7 := fkeep hb a1_7
  replace a1_8 := fkeep hb a1_8
  replace a1_9 := fkeep hb a1_9
  replace a2_0 := fkeep hb a2_0
  replace a2_1 := fkeep hb a2_1
  replace a2_2 := fkeep hb a2_2
  replace a2_3 := fkeep hb a2_3
  replace a2_4 := fkeep hb a2_4
  replace a2_5 := fkeep hb a2_5
  replace a2_6 := fkeep hb a2_6
  replace a2_7 := fkeep hb a2_7
  replace a2_8 := fkeep hb a2_8
  replace a2_9 := fkeep hb a2_9
  have HF := Lib.hid (fstep HF.out hb)
  clear hb
  by_cases hneg0 : l0 < 0
  · go_wp2
    go_ret
    exact ⟨rfl, HF.out⟩
  go_wp2_with fail
  refine (szSv_k _ x1 l0 _ (S1Raw.keep HI1.out HF.out) (by omega) (by omega)).mono ?_
  rintro e w2 ⟨l1, rfl, l10, l11, hsm, hb⟩
  have HS1 := Lib.hid hsm
  clear hsm
  replace a0_0 := fkeep hb a0_0
  replace a0_1 := fkeep hb a0_1
  replace a1_0 := fkeep hb a1_0
  replace a1_1 := fkeep hb a1_1
  replace a1_2 := fkeep hb a1_2
  replace a1_3 := fkeep hb a1_3
  replace a1_4 := fkeep hb a1_4
  replace a1_5 := fkeep hb a1_5
  replace a1_6 := fkeep hb a1_6
  replace a1_7 := fkeep hb a1_7
  replace a1_8 := fkeep hb a1_8
  replace a1_9 := fkeep hb a1_9
  replace a2_0 := fkeep hb a2_0
  replace a2_1 := fkeep hb a2_1
  replace a2_2 := fkeep hb a2_2
  replace a2_3 := fkeep hb a2_3
  replace a2_4 := fkeep hb a2_4
  replace a2_5 := fkeep hb a2_5
  replace a2_6 := fkeep hb a2_6
  replace a2_7 := fkeep hb a2_7
  replace a2_8 := fkeep hb a2_8
  replace a2_9 := fkeep hb a2_9
  have HF := Lib.hid (fstep HF.out hb)
  clear hb
  by_cases hneg1 : l1 < 0
  · go_wp2
    go_ret
    exact ⟨rfl, HF.out⟩
  go_wp2_with fail
  refine (szSv_k _ x2 l1 _ (S1Raw.keep HI2.out HF.out) (by omega) (by omega)).mono ?_
  rintro e w3 ⟨l2, rfl, l20, l21, hsm, hb⟩
  have HS2 := Lib.hid hsm
  clear hsm
  replace a0_0 := fkeep hb a0_0
  replace a0_1 := fkeep hb a0_1
  replace a1_0 := fkeep hb a1_0
  replace a1_1 := fkeep hb a1_1
  replace a1_2 := fkeep hb a1_2
  replace a1_3 := fkeep hb a1_3
  replace a1_4 := fkeep hb a1_4
  replace a1_5 := fkeep hb a1_5
  replace a1_6 := fkeep hb a1_6
  replace a1_7 := fkeep hb a1_7
  replace a1_8 := fkeep hb a1_8
  replace a1_9 := fkeep hb a1_9
  replace a2_0 := fkeep hb a2_0
  replace a2_1 := fkeep hb a2_1
  replace a2_2 := fkeep hb a2_2
  replace a2_3 := fkeep hb a2_3
  replace a2_4 := fkeep hb a2_4
  replace a2_5 := fkeep hb a2_5
  replace a2_6 := fkeep hb a2_6
  replace a2_7 := fkeep hb a2_7
  replace a2_8 := fkeep hb a2_8
  replace a2_9 := fkeep hb a2_9
  have HF := Lib.hid (fstep HF.out hb)
  clear hb
  by_cases hneg2 : l2 < 0
  · go_wp2
    go_ret
    exact ⟨rfl, HF.out⟩
  replace HI0 := Lib.hid (NetRaw.small HI0.out (HS0.out (by omega)))
  clear HS0
  replace HI1 := Lib.hid (S1Raw.small HI1.out (HS1.out (by omega)))
  clear HS1
  replace HI2 := Lib.hid (S1Raw.small HI2.out (HS2.out (by omega)))
  clear HS2
  go_wp2
  have HSS : Fresh w3 w3 ∧ w3.cell? ⟨w.heap.size, 0, none⟩ = some (.slice q0a m0a c0a) ∧ w3.cell? ⟨w.heap.size, 1, none⟩ = some (.slice p0a k0a d0a) ∧ w3.cell? ⟨w.heap.size + 1, 0, none⟩ = some (.int .i64 i1a) ∧ w3.cell? ⟨w.heap.size + 1, 1, none⟩ = some (.int .i64 l1a) ∧ w3.cell? ⟨w.heap.size + 1, 2, none⟩ = some (.int .i64 s1a) ∧ w3.cell? ⟨w.heap.size + 1, 3, none⟩ = some (.slice q1a m1a c1a) ∧ w3.cell? ⟨w.heap.size + 1, 4, none⟩ = some (.int .i64 f1a) ∧ w3.cell? ⟨w.heap.size + 1, 5, none⟩ = some (.int .i64 e1a) ∧ w3.cell? ⟨w.heap.size + 1, 6, none⟩ = some (.int .i64 t1a) ∧ w3.cell? ⟨w.heap.size + 1, 7, none⟩ = some (.slice r1a k1a d1a) ∧ w3.cell? ⟨w.heap.size + 1, 8, none⟩ = some (.int .i64 g1a) ∧ w3.cell? ⟨w.heap.size + 1, 9, none⟩ = some (.int .i64 h1a) ∧ w3.cell? ⟨w.heap.size + 1 + 1, 0, none⟩ = some (.int .i64 i2a) ∧ w3.cell? ⟨w.heap.size + 1 + 1, 1, none⟩ = some (.int .i64 l2a) ∧ w3.cell? ⟨w.heap.size + 1 + 1, 2, none⟩ = some (.int .i64 s2a) ∧ w3.cell? ⟨w.heap.size + 1 + 1, 3, none⟩ = some (.slice q2a m2a c2a) ∧ w3.cell? ⟨w.heap.size + 1 + 1, 4, none⟩ = some (.int .i64 f2a) ∧ w3.cell? ⟨w.heap.size + 1 + 1, 5, none⟩ = some (.int .i64 e2a) ∧ w3.cell? ⟨w.heap.size + 1 + 1, 6, none⟩ = some (.int .i64 t2a) ∧ w3.cell? ⟨w.heap.size + 1 + 1, 7, none⟩ = some (.slice r2a k2a d2a) ∧ w3.cell? ⟨w.heap.size + 1 + 1, 8, none⟩ = some (.int .i64 g2a) ∧ w3.cell? ⟨w.heap.size + 1 + 1, 9, none⟩ = some (.int .i64 h2a) := ⟨frefl _, a0_0, a0_1, a1_0, a1_1, a1_2, a1_3, a1_4, a1_5, a1_6, a1_7, a1_8, a1_9, a2_0, a2_1, a2_2, a2_3, a2_4, a2_5, a2_6, a2_7, a2_8, a2_9⟩
  go_region_held3 (fun w' => Fresh w3 w' ∧ w'.cell? ⟨w.heap.size, 0, none⟩ = some (.slice q0a m0a c0a) ∧ w'.cell? ⟨w.heap.size, 1, none⟩ = some (.slice p0a k0a d0a) ∧ w'.cell? ⟨w.heap.size + 1, 0, none⟩ = some (.int .i64 i1a) ∧ w'.cell? ⟨w.heap.size + 1, 1, none⟩ = some (.int .i64 l1a) ∧ w'.cell? ⟨w.heap.size + 1, 2, none⟩ = some (.int .i64 s1a) ∧ w'.cell? ⟨w.heap.size + 1, 3, none⟩ = some (.slice q1a m1a c1a) ∧ w'.cell? ⟨w.heap.size + 1, 4, none⟩ = some (.int .i64 f1a) ∧ w'.cell? ⟨w.heap.size + 1, 5, none⟩ = some (.int .i64 e1a) ∧ w'.cell? ⟨w.heap.size + 1, 6, none⟩ = some (.int .i64 t1a) ∧ w'.cell? ⟨w.heap.size + 1, 7, none⟩ = some (.slice r1a k1a d1a) ∧ w'.cell? ⟨w.heap.size + 1, 8, none⟩ = some (.int .i64 g1a) ∧ w'.cell? ⟨w.heap.size + 1, 9, none⟩ = some (.int .i64 h1a) ∧ w'.cell? ⟨w.heap.size + 1 + 1, 0, none⟩ = some (.int .i64 i2a) ∧ w'.cell? ⟨w.heap.size + 1 + 1, 1, none⟩ = some (.int .i64 l2a) ∧ w'.cell? ⟨w.heap.size + 1 + 1, 2, none⟩ = some (.int .i64 s2a) ∧ w'.cell? ⟨w.heap.size + 1 + 1, 3, none⟩ = some (.slice q2a m2a c2a) ∧ w'.cell? ⟨w.heap.size + 1 + 1, 4, none⟩ = some (.int .i64 f2a) ∧ w'.cell? ⟨w.heap.size + 1 + 1, 5, none⟩ = some (.int .i64 e2a) ∧ w'.cell? ⟨w.heap.size + 1 + 1, 6, none⟩ = some (.int .i64 t2a) ∧ w'.cell? ⟨w.heap.size + 1 + 1, 7, none⟩ = some (.slice r2a k2a d2a) ∧ w'.cell? ⟨w.heap.size + 1 + 1, 8, none⟩ = some (.int .i64 g2a) ∧ w'.cell? ⟨w.heap.size + 1 + 1, 9, none⟩ = some (.int .i64 h2a))
    (first | assumption | exact keepc22 (by assumption) (by assumption) | exact keepc22 (by assumption) (fdrew (frefl _)) | exact keepc22 (by assumption) (frefl _))
    (first | (go_at_call 8; refine (toNet_k _ x0 _ (HI0.out.keep (fstep HF.out (And.left (by assumption))))).mono ?_; rintro e w4 ⟨y0, rfl, hy, hbb0⟩; have HY0 := Lib.hid hy; clear hy) | (go_at_call 20; with_reducible refine (toSv_k _ x1 _ (HI1.out.keep (fstep HF.out (And.left (by assumption))))).mono ?_; rintro e w5 ⟨y1, rfl, hy, hbb1⟩; have HY1 := Lib.hid hy; clear hy) | (go_at_call 20; refine (toSv_k _ x2 _ (HI2.out.keep (fstep HF.out (And.left (by assumption))))).mono ?_; rintro e w6 ⟨y2, rfl, hy, hbb2⟩; have HY2 := Lib.hid hy; clear hy) | (go_at_call 19; have hcc := specAreCompatible_any _ x0 _ x1 _ x2 _ ((HY0.out.keep hbb1).keep hbb2) (HY1.out.keep hbb2) HY2.out; rw [← HR0.out, ← HR1.out] at hcc; refine hcc.mono ?_; clear hcc; rintro e w7 ⟨rfl, hbbs⟩))
  have hb : Fresh w3 w7 := fstep (fstep (fstep (fstep (fdrew (frefl _)) hbb0) hbb1) hbb2) hbbs
  clear hbb0 hbb1 hbb2 hbbs HSS HY0 HY1 HY2
  replace a0_0 := fkeep hb a0_0
  replace a0_1 := fkeep hb a0_1
  replace a1_0 := fkeep hb a1_0
  replace a1_1 := fkeep hb a1_1
  replace a1_2 := fkeep hb a1_2
  replace a1_3 := fkeep hb a1_3
  replace a1_4 := fkeep hb a1_4
  replace a1_5 := fkeep hb a1_5
  replace a1_6 := fkeep hb a1_6
  replace a1_7 := fkeep hb a1_7
  replace a1_8 := fkeep hb a1_8
  replace a1_9 := fkeep hb a1_9
  replace a2_0 := fkeep hb a2_0
  replace a2_1 := fkeep hb a2_1
  replace a2_2 := fkeep hb a2_2
  replace a2_3 := fkeep hb a2_3
  replace a2_4 := fkeep hb a2_4
  replace a2_5 := fkeep hb a2_5
  replace a2_6 := fkeep hb a2_6
  replace a2_7 := fkeep hb a2_7
  replace a2_8 := fkeep hb a2_8
  replace a2_9 := fkeep hb a2_9
  have HF := Lib.hid (fstep HF.out hb)
  clear hb
  go_wp2_with fail
  refine (toNet_k _ x0 _ (HI0.out.keep HF.out)).mono ?_
  rintro e w8 ⟨z0, rfl, hy, hb⟩
  have HZ0 := Lib.hid hy
  clear hy
  replace a0_0 := fkeep hb a0_0
  replace a0_1 := fkeep hb a0_1
  replace a1_0 := fkeep hb a1_0
  replace a1_1 := fkeep hb a1_1
  replace a1_2 := fkeep hb a1_2
  replace a1_3 := fkeep hb a1_3
  replace a1_4 := fkeep hb a1_4
  replace a1_5 := fkeep hb a1_5
  replace a1_6 := fkeep hb a1_6
  replace a1_7 := fkeep hb a1_7
  replace a1_8 := fkeep hb a1_8
  replace a1_9 := fkeep hb a1_9
  replace a2_0 := fkeep hb a2_0
  replace a2_1 := fkeep hb a2_1
  replace a2_2 := fkeep hb a2_2
  replace a2_3 := fkeep hb a2_3
  replace a2_4 := fkeep hb a2_4
  replace a2_5 := fkeep hb a2_5
  replace a2_6 := fkeep hb a2_6
  replace a2_7 := fkeep hb a2_7
  replace a2_8 := fkeep hb a2_8
  replace a2_9 := fkeep hb a2_9
  have HF := Lib.hid (fstep HF.out hb)
  clear hb
  obtain ⟨q0x, m0x, c0x, p0x, k0x, d0x, hv⟩ := HZ0.out.shape
  subst hv
  obtain ⟨X0, hX⟩ : ∃ X, X = w8.alloc (.cells #[.slice q0x m0x c0x, .slice p0x k0x d0x] 34) := ⟨_, rfl⟩
  have hb : Fresh w8 X0 := by rw [hX]; exact fnew (frefl _) _
  have La0_0 := fkeep (fnew (frefl w8) (.cells #[.slice q0x m0x c0x, .slice p0x k0x d0x] 34)) a0_0
  have La0_1 := fkeep (fnew (frefl w8) (.cells #[.slice q0x m0x c0x, .slice p0x k0x d0x] 34)) a0_1
  have La1_0 := fkeep (fnew (frefl w8) (.cells #[.slice q0x m0x c0x, .slice p0x k0x d0x] 34)) a1_0
  have La1_1 := fkeep (fnew (frefl w8) (.cells #[.slice q0x m0x c0x, .slice p0x k0x d0x] 34)) a1_1
  have La1_2 := fkeep (fnew (frefl w8) (.cells #[.slice q0x m0x c0x, .slice p0x k0x d0x] 34)) a1_2
  have La1_3 := fkeep (fnew (frefl w8) (.cells #[.slice q0x m0x c0x, .slice p0x k0x d0x] 34)) a1_3
  have La1_4 := fkeep (fnew (frefl w8) (.cells #[.slice q0x m0x c0x, .slice p0x k0x d0x] 34)) a1_4
  have La1_5 := fkeep (fnew (frefl w8) (.cells #[.slice q0x m0x c0x, .slice p0x k0x d0x] 34)) a1_5
  have La1_6 := fkeep (fnew (frefl w8) (.cells #[.slice q0x m0x c0x, .slice p0x k0x d0x] 34)) a1_6
  have La1_7 := fkeep (fnew (frefl w8) (.cells #[.slice q0x m0x c0x, .slice p0x k0x d0x] 34)) a1_7
  have La1_8 := fkeep (fnew (frefl w8) (.cells #[.slice q0x m0x c0x, .slice p0x k0x d0x] 34)) a1_8
  have La1_9 := fkeep (fnew (frefl w8) (.cells #[.slice q0x m0x c0x, .slice p0x k0x d0x] 34)) a1_9
  have La2_0 := fkeep (fnew (frefl w8) (.cells #[.slice q0x m0x c0x, .slice p0x k0x d0x] 34)) a2_0
  have La2_1 := fkeep (fnew (frefl w8) (.cells #[.slice q0x m0x c0x, .slice p0x k0x d0x] 34)) a2_1
  have La2_2 := fkeep (fnew (frefl w8) (.cells #[.slice q0x m0x c0x, .slice p0x k0x d0x] 34)) a2_2
  have La2_3 := fkeep (fnew (frefl w8) (.cells #[.slice q0x m0x c0x, .slice p0x k0x d0x] 34)) a2_3
  have La2_4 := fkeep (fnew (frefl w8) (.cells #[.slice q0x m0x c0x, .slice p0x k0x d0x] 34)) a2_4
  have La2_5 := fkeep (fnew (frefl w8) (.cells #[.slice q0x m0x c0x, .slice p0x k0x d0x] 34)) a2_5
  have La2_6 := fkeep (fnew (frefl w8) (.cells #[.slice q0x m0x c0x, .slice p0x k0x d0x] 34)) a2_6
  have La2_7 := fkeep (fnew (frefl w8) (.cells #[.slice q0x m0x c0x, .slice p0x k0x d0x] 34)) a2_7
  have La2_8 := fkeep (fnew (frefl w8) (.cells #[.slice q0x m0x c0x, .slice p0x k0x d0x] 34)) a2_8
  have La2_9 := fkeep (fnew (frefl w8) (.cells #[.slice q0x m0x c0x, .slice p0x k0x d0x] 34)) a2_9
  have c0_0 : X0.cell? ⟨w8.heap.size, 0, none⟩ = some (.slice q0x m0x c0x) := by rw [hX]; exact (RowAt.new w8 34 [.slice q0x m0x c0x, .slice p0x k0x d0x]).cell (i := 0) rfl
  have c0_1 : X0.cell? ⟨w8.heap.size, 1, none⟩ = some (.slice p0x k0x d0x) := by rw [hX]; exact (RowAt.new w8 34 [.slice q0x m0x c0x, .slice p0x k0x d0x]).cell (i := 1) rfl
  replace a0_0 := fkeep hb a0_0
  replace a0_1 := fkeep hb a0_1
  replace a1_0 := fkeep hb a1_0
  replace a1_1 := fkeep hb a1_1
  replace a1_2 := fkeep hb a1_2
  replace a1_3 := fkeep hb a1_3
  replace a1_4 := fkeep hb a1_4
  replace a1_5 := fkeep hb a1_5
  replace a1_6 := fkeep hb a1_6
  replace a1_7 := fkeep hb a1_7
  replace a1_8 := fkeep hb a1_8
  replace a1_9 := fkeep hb a1_9
  replace a2_0 := fkeep hb a2_0
  replace a2_1 := fkeep hb a2_1
  replace a2_2 := fkeep hb a2_2
  replace a2_3 := fkeep hb a2_3
  replace a2_4 := fkeep hb a2_4
  replace a2_5 := fkeep hb a2_5
  replace a2_6 := fkeep hb a2_6
  replace a2_7 := fkeep hb a2_7
  replace a2_8 := fkeep hb a2_8
  replace a2_9 := fkeep hb a2_9
  have HF := Lib.hid (fstep HF.out hb)
  replace HZ0 := Lib.hid (HZ0.out.keep hb)
  clear hb
  have Ha0_0 := Lib.hid a0_0
  have Ha0_1 := Lib.hid a0_1
  have Ha1_0 := Lib.hid a1_0
  have Ha1_1 := Lib.hid a1_1
  have Ha1_2 := Lib.hid a1_2
  have Ha1_3 := Lib.hid a1_3
  have Ha1_4 := Lib.hid a1_4
  have Ha1_5 := Lib.hid a1_5
  have Ha1_6 := Lib.hid a1_6
  have Ha1_7 := Lib.hid a1_7
  have Ha1_8 := Lib.hid a1_8
  have Ha1_9 := Lib.hid a1_9
  have Ha2_0 := Lib.hid a2_0
  have Ha2_1 := Lib.hid a2_1
  have Ha2_2 := Lib.hid a2_2
  have Ha2_3 := Lib.hid a2_3
  have Ha2_4 := Lib.hid a2_4
  have Ha2_5 := Lib.hid a2_5
  have Ha2_6 := Lib.hid a2_6
  have Ha2_7 := Lib.hid a2_7
  have Ha2_8 := Lib.hid a2_8
  have Ha2_9 := Lib.hid a2_9
  have Hc0_0 := Lib.hid c0_0
  have Hc0_1 := Lib.hid c0_1
  clear a0_0 a0_1 a1_0 a1_1 a1_2 a1_3 a1_4 a1_5 a1_6 a1_7 a1_8 a1_9 a2_0 a2_1 a2_2 a2_3 a2_4 a2_5 a2_6 a2_7 a2_8 a2_9 c0_0 c0_1
  have HX0 := Lib.hid hX
  clear hX
  go_wp2_with fail
  rw [← HX0.out]
  clear HX0
  clear La0_0 La0_1 La1_0 La1_1 La1_2 La1_3 La1_4 La1_5 La1_6 La1_7 La1_8 La1_9 La2_0 La2_1 La2_2 La2_3 La2_4 La2_5 La2_6 La2_7 La2_8 La2_9
  have a0_0 := Ha0_0.out
  have a0_1 := Ha0_1.out
  have a1_0 := Ha1_0.out
  have a1_1 := Ha1_1.out
  have a1_2 := Ha1_2.out
  have a1_3 := Ha1_3.out
  have a1_4 := Ha1_4.out
  have a1_5 := Ha1_5.out
  have a1_6 := Ha1_6.out
  have a1_7 := Ha1_7.out
  have a1_8 := Ha1_8.out
  have a1_9 := Ha1_9.out
  have a2_0 := Ha2_0.out
  have a2_1 := Ha2_1.out
  have a2_2 := Ha2_2.out
  have a2_3 := Ha2_3.out
  have a2_4 := Ha2_4.out
  have a2_5 := Ha2_5.out
  have a2_6 := Ha2_6.out
  have a2_7 := Ha2_7.out
  have a2_8 := Ha2_8.out
  have a2_9 := Ha2_9.out
  have c0_0 := Hc0_0.out
  have c0_1 := Hc0_1.out
  clear Ha0_0 Ha0_1 Ha1_0 Ha1_1 Ha1_2 Ha1_3 Ha1_4 Ha1_5 Ha1_6 Ha1_7 Ha1_8 Ha1_9 Ha2_0 Ha2_1 Ha2_2 Ha2_3 Ha2_4 Ha2_5 Ha2_6 Ha2_7 Ha2_8 Ha2_9 Hc0_0 Hc0_1
  go_wp2_with fail
  refine (toSv_k _ x1 _ (HI1.out.keep HF.out)).mono ?_
  rintro e w9 ⟨z1, rfl, hy, hb⟩
  have HZ1 := Lib.hid hy
  clear hy
  replace a0_0 := fkeep hb a0_0
  replace a0_1 := fkeep hb a0_1
  replace a1_0 := fkeep hb a1_0
  replace a1_1 := fkeep hb a1_1
  replace a1_2 := fkeep hb a1_2
  replace a1_3 := fkeep hb a1_3
  replace a1_4 := fkeep hb a1_4
  replace a1_5 := fkeep hb a1_5
  replace a1_6 := fkeep hb a1_6
  replace a1_7 := fkeep hb a1_7
  replace a1_8 := fkeep hb a1_8
  replace a1_9 := fkeep hb a1_9
  replace a2_0 := fkeep hb a2_0
  replace a2_1 := fkeep hb a2_1
  replace a2_2 := fkeep hb a2_2
  replace a2_3 := fkeep hb a2_3
  replace a2_4 := fkeep hb a2_4
  replace a2_5 := fkeep hb a2_5
  replace a2_6 := fkeep hb a2_6
  replace a2_7 := fkeep hb a2_7
  replace a2_8 := fkeep hb a2_8
  replace a2_9 := fkeep hb a2_9
  replace c0_0 := fkeep hb c0_0
  replace c0_1 := fkeep hb c0_1
  have HF := Lib.hid (fstep HF.out hb)
  replace HZ0 := Lib.hid (HZ0.out.keep hb)
  clear hb
  obtain ⟨i1x, l1x, s1x, q1x, m1x, c1x, f1x, e1x, t1x, r1x, k1x, d1x, g1x, h1x, hv⟩ := HZ1.out.shape
  subst hv
  obtain ⟨X1, hX⟩ : ∃ X, X = w9.alloc (.cells #[.int .i64 i1x, .int .i64 l1x, .int .i64 s1x, .slice q1x m1x c1x, .int .i64 f1x, .int .i64 e1x, .int .i64 t1x, .slice r1x k1x d1x, .int .i64 g1x, .int .i64 h1x] 58) := ⟨_, rfl⟩
  have hb : Fresh w9 X1 := by rw [hX]; exact fnew (frefl _) _
  have La0_0 := fkeep (fnew (frefl w9) (.cells #[.int .i64 i1x, .int .i64 l1x, .int .i64 s1x, .slice q1x m1x c1x, .int .i64 f1x, .int .i64 e1x, .int .i64 t1x, .slice r1x k1x d1x, .int .i64 g1x, .int .i64 h1x] 58)) a0_0
  have La0_1 := fkeep (fnew (frefl w9) (.cells #[.int .i64 i1x, .int .i64 l1x, .int .i64 s1x, .slice q1x m1x c1x, .int .i64 f1x, .int .i64 e1x, .int .i64 t1x, .slice r1x k1x d1x, .int .i64 g1x, .int .i64 h1x] 58)) a0_1
  have La1_0 := fkeep (fnew (frefl w9) (.cells #[.int .i64 i1x, .int .i64 l1x, .int .i64 s1x, .slice q1x m1x c1x, .int .i64 f1x, .int .i64 e1x, .int .i64 t1x, .slice r1x k1x d1x, .int .i64 g1x, .int .i64 h1x] 58)) a1_0
  have La1_1 := fkeep (fnew (frefl w9) (.cells #[.int .i64 i1x, .int .i64 l1x, .int .i64 s1x, .slice q1x m1x c1x, .int .i64 f1x, .int .i64 e1x, .int .i64 t1x, .slice r1x k1x d1x, .int .i64 g1x, .int .i64 h1x] 58)) a1_1
  have La1_2 := fkeep (fnew (frefl w9) (.cells #[.int .i64 i1x, .int .i64 l1x, .int .i64 s1x, .slice q1x m1x c1x, .int .i64 f1x, .int .i64 e1x, .int .i64 t1x, .slice r1x k1x d1x, .int .i64 g1x, .int .i64 h1x] 58)) a1_2
  have La1_3 := fkeep (fnew (frefl w9) (.cells #[.int .i64 i1x, .int .i64 l1x, .int .i64 s1x, .slice q1x m1x c1x, .int .i64 f1x, .int .i64 e1x, .int .i64 t1x, .slice r1x k1x d1x, .int .i64 g1x, .int .i64 h1x] 58)) a1_3
  have La1_4 := fkeep (fnew (frefl w9) (.cells #[.int .i64 i1x, .int .i64 l1x, .int .i64 s1x, .slice q1x m1x c1x, .int .i64 f1x, .int .i64 e1x, .int .i64 t1x, .slice r1x k1x d1x, .int .i64 g1x, .int .i64 h1x] 58)) a1_4
  have La1_5 := fkeep (fnew (frefl w9) (.cells #[.int .i64 i1x, .int .i64 l1x, .int .i64 s1x, .slice q1x m1x c1x, .int .i64 f1x, .int .i64 e1x, .int .i64 t1x, .slice r1x k1x d1x, .int .i64 g1x, .int .i64 h1x] 58)) a1_5
  have La1_6 := fkeep (fnew (frefl w9) (.cells #[.int .i64 i1x, .int .i64 l1x, .int .i64 s1x, .slice q1x m1x c1x, .int .i64 f1x, .int .i64 e1x, .int .i64 t1x, .slice r1x k1x d1x, .int .i64 g1x, .int .i64 h1x] 58)) a1_6
  have La1_7 := fkeep (fnew (frefl w9) (.cells #[.int .i64 i1x, .int .i64 l1x, .int .i64 s1x, .slice q1x m1x c1x, .int .i64 f1x, .int .i64 e1x, .int .i64 t1x, .slice r1x k1x d1x, .int .i64 g1x, .int .i64 h1x] 58)) a1_7
  have La1_8 := fkeep (fnew (frefl w9) (.cells #[.int .i64 i1x, .int .i64 l1x, .int .i64 s1x, .slice q1x m1x c1x, .int .i64 f1x, .int .i64 e1x, .int .i64 t1x, .slice r1x k1x d1x, .int .i64 g1x, .int .i64 h1x] 58)) a1_8
  have La1_9 := fkeep (fnew (frefl w9) (.cells #[.int .i64 i1x, .int .i64 l1x, .int .i64 s1x, .slice q1x m1x c1x, .int .i64 f1x, .int .i64 e1x, .int .i64 t1x, .slice r1x k1x d1x, .int .i64 g1x, .int .i64 h1x] 58)) a1_9
  have La2_0 := fkeep (fnew (frefl w9) (.cells #[.int .i64 i1x, .int .i64 l1x, .int .i64 s1x, .slice q1x m1x c1x, .int .i64 f1x, .int .i64 e1x, .int .i64 t1x, .slice r1x k1x d1x, .int .i64 g1x, .int .i64 h1x] 58)) a2_0
  have La2_1 := fkeep (fnew (frefl w9) (.cells #[.int .i64 i1x, .int .i64 l1x, .int .i64 s1x, .slice q1x m1x c1x, .int .i64 f1x, .int .i64 e1x, .int .i64 t1x, .slice r1x k1x d1x, .int .i64 g1x, .int .i64 h1x] 58)) a2_1
  have La2_2 := fkeep (fnew (frefl w9) (.cells #[.int .i64 i1x, .int .i64 l1x, .int .i64 s1x, .slice q1x m1x c1x, .int .i64 f1x, .int .i64 e1x, .int .i64 t1x, .slice r1x k1x d1x, .int .i64 g1x, .int .i64 h1x] 58)) a2_2
  have La2_3 := fkeep (fnew (frefl w9) (.cells #[.int .i64 i1x, .int .i64 l1x, .int .i64 s1x, .slice q1x m1x c1x, .int .i64 f1x, .int .i64 e1x, .int .i64 t1x, .slice r1x k1x d1x, .int .i64 g1x, .int .i64 h1x] 58)) a2_3
  have La2_4 := fkeep (fnew (frefl w9) (.cells #[.int .i64 i1x, .int .i64 l1x, .int .i64 s1x, .slice q1x m1x c1x, .int .i64 f1x, .int .i64 e1x, .int .i64 t1x, .slice r1x k1x d1x, .int .i64 g1x, .int .i64 h1x] 58)) a2_4
  have La2_5 := fkeep (fnew (frefl w9) (.cells #[.int .i64 i1x, .int .i64 l1x, .int .i64 s1x, .slice q1x m1x c1x, .int .i64 f1x, .int .i64 e1x, .int .i64 t1x, .slice r1x k1x d1x, .int .i64 g1x, .int .i64 h1x] 58)) a2_5
  have La2_6 := fkeep (fnew (frefl w9) (.cells #[.int .i64 i1x, .int .i64 l1x, .int .i64 s1x, .slice q1x m1x c1x, .int .i64 f1x, .int .i64 e1x, .int .i64 t1x, .slice r1x k1x d1x, .int .i64 g1x, .int .i64 h1x] 58)) a2_6
  have La2_7 := fkeep (fnew (frefl w9) (.cells #[.int .i64 i1x, .int .i64 l1x, .int .i64 s1x, .slice q1x m1x c1x, .int .i64 f1x, .int .i64 e1x, .int .i64 t1x, .slice r1x k1x d1x, .int .i64 g1x, .int .i64 h1x] 58)) a2_7
  have La2_8 := fkeep (fnew (frefl w9) (.cells #[.int .i64 i1x, .int .i64 l1x, .int .i64 s1x, .slice q1x m1x c1x, .int .i64 f1x, .int .i64 e1x, .int .i64 t1x, .slice r1x k1x d1x, .int .i64 g1x, .int .i64 h1x] 58)) a2_8
  have La2_9 := fkeep (fnew (frefl w9) (.cells #[.int .i64 i1x, .int .i64 l1x, .int .i64 s1x, .slice q1x m1x c1x, .int .i64 f1x, .int .i64 e1x, .int .i64 t1x, .slice r1x k1x d1x, .int .i64 g1x, .int .i64 h1x] 58)) a2_9
  have Lc0_0 := fkeep (fnew (frefl w9) (.cells #[.int .i64 i1x, .int .i64 l1x, .int .i64 s1x, .slice q1x m1x c1x, .int .i64 f1x, .int .i64 e1x, .int .i64 t1x, .slice r1x k1x d1x, .int .i64 g1x, .int .i64 h1x] 58)) c0_0
  have Lc0_1 := fkeep (fnew (frefl w9) (.cells #[.int .i64 i1x, .int .i64 l1x, .int .i64 s1x, .slice q1x m1x c1x, .int .i64 f1x, .int .i64 e1x, .int .i64 t1x, .slice r1x k1x d1x, .int .i64 g1x, .int .i64 h1x] 58)) c0_1
  have c1_0 : X1.cell? ⟨w9.heap.size, 0, none⟩ = some (.int .i64 i1x) := by rw [hX]; exact (RowAt.new w9 58 [.int .i64 i1x, .int .i64 l1x, .int .i64 s1x, .slice q1x m1x c1x, .int .i64 f1x, .int .i64 e1x, .int .i64 t1x, .slice r1x k1x d1x, .int .i64 g1x, .int .i64 h1x]).cell (i := 0) rfl
  have c1_1 : X1.cell? ⟨w9.heap.size, 1, none⟩ = some (.int .i64 l1x) := by rw [hX]; exact (RowAt.new w9 58 [.int .i64 i1x, .int .i64 l1x, .int .i64 s1x, .slice q1x m1x c1x, .int .i64 f1x, .int .i64 e1x, .int .i64 t1x, .slice r1x k1x d1x, .int .i64 g1x, .int .i64 h1x]).cell (i := 1) rfl
  have c1_2 : X1.cell? ⟨w9.heap.size, 2, none⟩ = some (.int .i64 s1x) := by rw [hX]; exact (RowAt.new w9 58 [.int .i64 i1x, .int .i64 l1x, .int .i64 s1x, .slice q1x m1x c1x, .int .i64 f1x, .int .i64 e1x, .int .i64 t1x, .slice r1x k1x d1x, .int .i64 g1x, .int .i64 h1x]).cell (i := 2) rfl
  have c1_3 : X1.cell? ⟨w9.heap.size, 3, none⟩ = some (.slice q1x m1x c1x) := by rw [hX]; exact (RowAt.new w9 58 [.int .i64 i1x, .int .i64 l1x, .int .i64 s1x, .slice q1x m1x c1x, .int .i64 f1x, .int .i64 e1x, .int .i64 t1x, .slice r1x k1x d1x, .int .i64 g1x, .int .i64 h1x]).cell (i := 3) rfl
  have c1_4 : X1.cell? ⟨w9.heap.size, 4, none⟩ = some (.int .i64 f1x) := by rw [hX]; exact (RowAt.new w9 58 [.int .i64 i1x, .int .i64 l1x, .int .i64 s1x, .slice q1x m1x c1x, .int .i64 f1x, .int .i64 e1x, .int .i64 t1x, .slice r1x k1x d1x, .int .i64 g1x, .int .i64 h1x]).cell (i := 4) rfl
  have c1_5 : X1.cell? ⟨w9.heap.size, 5, none⟩ = some (.int .i64 e1x) := by rw [hX]; exact (RowAt.new w9 58 [.int .i64 i1x, .int .i64 l1x, .int .i64 s1x, .slice q1x m1x c1x, .int .i64 f1x, .int .i64 e1x, .int .i64 t1x, .slice r1x k1x d1x, .int .i64 g1x, .int .i64 h1x]).cell (i := 5) rfl
  have c1_6 : X1.cell? ⟨w9.heap.size, 6, none⟩ = some (.int .i64 t1x) := by rw [hX]; exact (RowAt.new w9 58 [.int .i64 i1x, .int .i64 l1x, .int .i64 s1x, .slice q1x m1x c1x, .int .i64 f1x, .int .i64 e1x, .int .i64 t1x, .slice r1x k1x d1x, .int .i64 g1x, .int .i64 h1x]).cell (i := 6) rfl
  have c1_7 : X1.cell? ⟨w9.heap.size, 7, none⟩ = some (.slice r1x k1x d1x) := by rw [hX]; exact (RowAt.new w9 58 [.int .i64 i1x, .int .i64 l1x, .int .i64 s1x, .slice q1x m1x c1x, .int .i64 f1x, .int .i64 e1x, .int .i64 t1x, .slice r1x k1x d1x, .int .i64 g1x, .int .i64 h1x]).cell (i := 7) rfl
  have c1_8 : X1.cell? ⟨w9.heap.size, 8, none⟩ = some (.int .i64 g1x) := by rw [hX]; exact (RowAt.new w9 58 [.int .i64 i1x, .int .i64 l1x, .int .i64 s1x, .slice q1x m1x c1x, .int .i64 f1x, .int .i64 e1x, .int .i64 t1x, .slice r1x k1x d1x, .int .i64 g1x, .int .i64 h1x]).cell (i := 8) rfl
  have c1_9 : X1.cell? ⟨w9.heap.size, 9, none⟩ = some (.int .i64 h1x) := by rw [hX]; exact (RowAt.new w9 58 [.int .i64 i1x, .int .i64 l1x, .int .i64 s1x, .slice q1x m1x c1x, .int .i64 f1x, .int .i64 e1x, .int .i64 t1x, .slice r1x k1x d1x, .int .i64 g1x, .int .i64 h1x]).cell (i := 9) rfl
  replace a0_0 := fkeep hb a0_0
  replace a0_1 := fkeep hb a0_1
  replace a1_0 := fkeep hb a1_0
  replace a1_1 := fkeep hb a1_1
  replace a1_2 := fkeep hb a1_2
  replace a1_3 := fkeep hb a1_3
  replace a1_4 := fkeep hb a1_4
  replace a1_5 := fkeep hb a1_5
  replace a1_6 := fkeep hb a1_6
  replace a1_7 := fkeep hb a1_7
  replace a1_8 := fkeep hb a1_8
  replace a1_9 := fkeep hb a1_9
  replace a2_0 := fkeep hb a2_0
  replace a2_1 := fkeep hb a2_1
  replace a2_2 := fkeep hb a2_2
  replace a2_3 := fkeep hb a2_3
  replace a2_4 := fkeep hb a2_4
  replace a2_5 := fkeep hb a2_5
  replace a2_6 := fkeep hb a2_6
  replace a2_7 := fkeep hb a2_7
  replace a2_8 := fkeep hb a2_8
  replace a2_9 := fkeep hb a2_9
  replace c0_0 := fkeep hb c0_0
  replace c0_1 := fkeep hb c0_1
  have HF := Lib.hid (fstep HF.out hb)
  replace HZ0 := Lib.hid (HZ0.out.keep hb)
  replace HZ1 := Lib.hid (HZ1.out.keep hb)
  clear hb
  have Ha0_0 := Lib.hid a0_0
  have Ha0_1 := Lib.hid a0_1
  have Ha1_0 := Lib.hid a1_0
  have Ha1_1 := Lib.hid a1_1
  have Ha1_2 := Lib.hid a1_2
  have Ha1_3 := Lib.hid a1_3
  have Ha1_4 := Lib.hid a1_4
  have Ha1_5 := Lib.hid a1_5
  have Ha1_6 := Lib.hid a1_6
  have Ha1_7 := Lib.hid a1_7
  have Ha1_8 := Lib.hid a1_8
  have Ha1_9 := Lib.hid a1_9
  have Ha2_0 := Lib.hid a2_0
  have Ha2_1 := Lib.hid a2_1
  have Ha2_2 := Lib.hid a2_2
  have Ha2_3 := Lib.hid a2_3
  have Ha2_4 := Lib.hid a2_4
  have Ha2_5 := Lib.hid a2_5
  have Ha2_6 := Lib.hid a2_6
  have Ha2_7 := Lib.hid a2_7
  have Ha2_8 := Lib.hid a2_8
  have Ha2_9 := Lib.hid a2_9
  have Hc0_0 := Lib.hid c0_0
  have Hc0_1 := Lib.hid c0_1
  have Hc1_0 := Lib.hid c1_0
  have Hc1_1 := Lib.hid c1_1
  have Hc1_2 := Lib.hid c1_2
  have Hc1_3 := Lib.hid c1_3
  have Hc1_4 := Lib.hid c1_4
  have Hc1_5 := Lib.hid c1_5
  have Hc1_6 := Lib.hid c1_6
  have Hc1_7 := Lib.hid c1_7
  have Hc1_8 := Lib.hid c1_8
  have Hc1_9 := Lib.hid c1_9
  clear a0_0 a0_1 a1_0 a1_1 a1_2 a1_3 a1_4 a1_5 a1_6 a1_7 a1_8 a1_9 a2_0 a2_1 a2_2 a2_3 a2_4 a2_5 a2_6 a2_7 a2_8 a2_9 c0_0 c0_1 c1_0 c1_1 c1_2 c1_3 c1_4 c1_5 c1_6 c1_7 c1_8 c1_9
  have HX1 := Lib.hid hX
  clear hX
  go_wp2_with fail
  rw [← HX1.out]
  clear HX1
  clear La0_0 La0_1 La1_0 La1_1 La1_2 La1_3 La1_4 La1_5 La1_6 La1_7 La1_8 La1_9 La2_0 La2_1 La2_2 La2_3 La2_4 La2_5 La2_6 La2_7 La2_8 La2_9 Lc0_0 Lc0_1
  have a0_0 := Ha0_0.out
  have a0_1 := Ha0_1.out
  have a1_0 := Ha1_0.out
  have a1_1 := Ha1_1.out
  have a1_2 := Ha1_2.out
  have a1_3 := Ha1_3.out
  have a1_4 := Ha1_4.out
  have a1_5 := Ha1_5.out
  have a1_6 := Ha1_6.out
  have a1_7 := Ha1_7.out
  have a1_8 := Ha1_8.out
  have a1_9 := Ha1_9.out
  have a2_0 := Ha2_0.out
  have a2_1 := Ha2_1.out
  have a2_2 := Ha2_2.out
  have a2_3 := Ha2_3.out
  have a2_4 := Ha2_4.out
  have a2_5 := Ha2_5.out
  have a2_6 := Ha2_6.out
  have a2_7 := Ha2_7.out
  have a2_8 := Ha2_8.out
  have a2_9 := Ha2_9.out
  have c0_0 := Hc0_0.out
  have c0_1 := Hc0_1.out
  have c1_0 := Hc1_0.out
  have c1_1 := Hc1_1.out
  have c1_2 := Hc1_2.out
  have c1_3 := Hc1_3.out
  have c1_4 := Hc1_4.out
  have c1_5 := Hc1_5.out
  have c1_6 := Hc1_6.out
  have c1_7 := Hc1_7.out
  have c1_8 := Hc1_8.out
  have c1_9 := Hc1_9.out
  clear Ha0_0 Ha0_1 Ha1_0 Ha1_1 Ha1_2 Ha1_3 Ha1_4 Ha1_5 Ha1_6 Ha1_7 Ha1_8 Ha1_9 Ha2_0 Ha2_1 Ha2_2 Ha2_3 Ha2_4 Ha2_5 Ha2_6 Ha2_7 Ha2_8 Ha2_9 Hc0_0 Hc0_1 Hc1_0 Hc1_1 Hc1_2 Hc1_3 Hc1_4 Hc1_5 Hc1_6 Hc1_7 Hc1_8 Hc1_9
  go_wp2_with fail
  refine (toSv_k _ x2 _ (HI2.out.keep HF.out)).mono ?_
  rintro e w10 ⟨z2, rfl, hy, hb⟩
  have HZ2 := Lib.hid hy
  clear hy
  replace a0_0 := fkeep hb a0_0
  replace a0_1 := fkeep hb a0_1
  replace a1_0 := fkeep hb a1_0
  replace a1_1 := fkeep hb a1_1
  replace a1_2 := fkeep hb a1_2
  replace a1_3 := fkeep hb a1_3
  replace a1_4 := fkeep hb a1_4
  replace a1_5 := fkeep hb a1_5
  replace a1_6 := fkeep hb a1_6
  replace a1_7 := fkeep hb a1_7
  replace a1_8 := fkeep hb a1_8
  replace a1_9 := fkeep hb a1_9
  replace a2_0 := fkeep hb a2_0
  replace a2_1 := fkeep hb a2_1
  replace a2_2 := fkeep hb a2_2
  replace a2_3 := fkeep hb a2_3
  replace a2_4 := fkeep hb a2_4
  replace a2_5 := fkeep hb a2_5
  replace a2_6 := fkeep hb a2_6
  replace a2_7 := fkeep hb a2_7
  replace a2_8 := fkeep hb a2_8
  replace a2_9 := fkeep hb a2_9
  replace c0_0 := fkeep hb c0_0
  replace c0_1 := fkeep hb c0_1
  replace c1_0 := fkeep hb c1_0
  replace c1_1 := fkeep hb c1_1
  replace c1_2 := fkeep hb c1_2
  replace c1_3 := fkeep hb c1_3
  replace c1_4 := fkeep hb c1_4
  replace c1_5 := fkeep hb c1_5
  replace c1_6 := fkeep hb c1_6
  replace c1_7 := fkeep hb c1_7
  replace c1_8 := fkeep hb c1_8
  replace c1_9 := fkeep hb c1_9
  have HF := Lib.hid (fstep HF.out hb)
  replace HZ0 := Lib.hid (HZ0.out.keep hb)
  replace HZ1 := Lib.hid (HZ1.out.keep hb)
  clear hb
  obtain ⟨i2x, l2x, s2x, q2x, m2x, c2x, f2x, e2x, t2x, r2x, k2x, d2x, g2x, h2x, hv⟩ := HZ2.out.shape
  subst hv
  obtain ⟨X2, hX⟩ : ∃ X, X = w10.alloc (.cells #[.int .i64 i2x, .int .i64 l2x, .int .i64 s2x, .slice q2x m2x c2x, .int .i64 f2x, .int .i64 e2x, .int .i64 t2x, .slice r2x k2x d2x, .int .i64 g2x, .int .i64 h2x] 58) := ⟨_, rfl⟩
  have hb : Fresh w10 X2 := by rw [hX]; exact fnew (frefl _) _
  have La0_0 := fkeep (fnew (frefl w10) (.cells #[.int .i64 i2x, .int .i64 l2x, .int .i64 s2x, .slice q2x m2x c2x, .int .i64 f2x, .int .i64 e2x, .int .i64 t2x, .slice r2x k2x d2x, .int .i64 g2x, .int .i64 h2x] 58)) a0_0
  have La0_1 := fkeep (fnew (frefl w10) (.cells #[.int .i64 i2x, .int .i64 l2x, .int .i64 s2x, .slice q2x m2x c2x, .int .i64 f2x, .int .i64 e2x, .int .i64 t2x, .slice r2x k2x d2x, .int .i64 g2x, .int .i64 h2x] 58)) a0_1
  have La1_0 := fkeep (fnew (frefl w10) (.cells #[.int .i64 i2x, .int .i64 l2x, .int .i64 s2x, .slice q2x m2x c2x, .int .i64 f2x, .int .i64 e2x, .int .i64 t2x, .slice r2x k2x d2x, .int .i64 g2x, .int .i64 h2x] 58)) a1_0
  have La1_1 := fkeep (fnew (frefl w10) (.cells #[.int .i64 i2x, .int .i64 l2x, .int .i64 s2x, .slice q2x m2x c2x, .int .i64 f2x, .int .i64 e2x, .int .i64 t2x, .slice r2x k2x d2x, .int .i64 g2x, .int .i64 h2x] 58)) a1_1
  have La1_2 := fkeep (fnew (frefl w10) (.cells #[.int .i64 i2x, .int .i64 l2x, .int .i64 s2x, .slice q2x m2x c2x, .int .i64 f2x, .int .i64 e2x, .int .i64 t2x, .slice r2x k2x d2x, .int .i64 g2x, .int .i64 h2x] 58)) a1_2
  have La1_3 := fkeep (fnew (frefl w10) (.cells #[.int .i64 i2x, .int .i64 l2x, .int .i64 s2x, .slice q2x m2x c2x, .int .i64 f2x, .int .i64 e2x, .int .i64 t2x, .slice r2x k2x d2x, .int .i64 g2x, .int .i64 h2x] 58)) a1_3
  have La1_4 := fkeep (fnew (frefl w10) (.cells #[.int .i64 i2x, .int .i64 l2x, .int .i64 s2x, .slice q2x m2x c2x, .int .i64 f2x, .int .i64 e2x, .int .i64 t2x, .slice r2x k2x d2x, .int .i64 g2x, .int .i64 h2x] 58)) a1_4
  have La1_5 := fkeep (fnew (frefl w10) (.cells #[.int .i64 i2x, .int .i64 l2x, .int .i64 s2x, .slice q2x m2x c2x, .int .i64 f2x, .int .i64 e2x, .int .i64 t2x, .slice r2x k2x d2x, .int .i64 g2x, .int .i64 h2x] 58)) a1_5
  have La1_6 := fkeep (fnew (frefl w10) (.cells #[.int .i64 i2x, .int .i64 l2x, .int .i64 s2x, .slice q2x m2x c2x, .int .i64 f2x, .int .i64 e2x, .int .i64 t2x, .slice r2x k2x d2x, .int .i64 g2x, .int .i64 h2x] 58)) a1_6
  have La1_7 := fkeep (fnew (frefl w10) (.cells #[.int .i64 i2x, .int .i64 l2x, .int .i64 s2x, .slice q2x m2x c2x, .int .i64 f2x, .int .i64 e2x, .int .i64 t2x, .slice r2x k2x d2x, .int .i64 g2x, .int .i64 h2x] 58)) a1_7
  have La1_8 := fkeep (fnew (frefl w10) (.cells #[.int .i64 i2x, .int .i64 l2x, .int .i64 s2x, .slice q2x m2x c2x, .int .i64 f2x, .int .i64 e2x, .int .i64 t2x, .slice r2x k2x d2x, .int .i64 g2x, .int .i64 h2x] 58)) a1_8
  have La1_9 := fkeep (fnew (frefl w10) (.cells #[.int .i64 i2x, .int .i64 l2x, .int .i64 s2x, .slice q2x m2x c2x, .int .i64 f2x, .int .i64 e2x, .int .i64 t2x, .slice r2x k2x d2x, .int .i64 g2x, .int .i64 h2x] 58)) a1_9
  have La2_0 := fkeep (fnew (frefl w10) (.cells #[.int .i64 i2x, .int .i64 l2x, .int .i64 s2x, .slice q2x m2x c2x, .int .i64 f2x, .int .i64 e2x, .int .i64 t2x, .slice r2x k2x d2x, .int .i64 g2x, .int .i64 h2x] 58)) a2_0
  have La2_1 := fkeep (fnew (frefl w10) (.cells #[.int .i64 i2x, .int .i64 l2x, .int .i64 s2x, .slice q2x m2x c2x, .int .i64 f2x, .int .i64 e2x, .int .i64 t2x, .slice r2x k2x d2x, .int .i64 g2x, .int .i64 h2x] 58)) a2_1
  have La2_2 := fkeep (fnew (frefl w10) (.cells #[.int .i64 i2x, .int .i64 l2x, .int .i64 s2x, .slice q2x m2x c2x, .int .i64 f2x, .int .i64 e2x, .int .i64 t2x, .slice r2x k2x d2x, .int .i64 g2x, .int .i64 h2x] 58)) a2_2
  have La2_3 := fkeep (fnew (frefl w10) (.cells #[.int .i64 i2x, .int .i64 l2x, .int .i64 s2x, .slice q2x m2x c2x, .int .i64 f2x, .int .i64 e2x, .int .i64 t2x, .slice r2x k2x d2x, .int .i64 g2x, .int .i64 h2x] 58)) a2_3
  have La2_4 := fkeep (fnew (frefl w10) (.cells #[.int .i64 i2x, .int .i64 l2x, .int .i64 s2x, .slice q2x m2x c2x, .int .i64 f2x, .int .i64 e2x, .int .i64 t2x, .slice r2x k2x d2x, .int .i64 g2x, .int .i64 h2x] 58)) a2_4
  have La2_5 := fkeep (fnew (frefl w10) (.cells #[.int .i64 i2x, .int .i64 l2x, .int .i64 s2x, .slice q2x m2x c2x, .int .i64 f2x, .int .i64 e2x, .int .i64 t2x, .slice r2x k2x d2x, .int .i64 g2x, .int .i64 h2x] 58)) a2_5
  have La2_6 := fkeep (fnew (frefl w10) (.cells #[.int .i64 i2x, .int .i64 l2x, .int .i64 s2x, .slice q2x m2x c2x, .int .i64 f2x, .int .i64 e2x, .int .i64 t2x, .slice r2x k2x d2x, .int .i64 g2x, .int .i64 h2x] 58)) a2_6
  have La2_7 := fkeep (fnew (frefl w10) (.cells #[.int .i64 i2x, .int .i64 l2x, .int .i64 s2x, .slice q2x m2x c2x, .int .i64 f2x, .int .i64 e2x, .int .i64 t2x, .slice r2x k2x d2x, .int .i64 g2x, .int .i64 h2x] 58)) a2_7
  have La2_8 := fkeep (fnew (frefl w10) (.cells #[.int .i64 i2x, .int .i64 l2x, .int .i64 s2x, .slice q2x m2x c2x, .int .i64 f2x, .int .i64 e2x, .int .i64 t2x, .slice r2x k2x d2x, .int .i64 g2x, .int .i64 h2x] 58)) a2_8
  have La2_9 := fkeep (fnew (frefl w10) (.cells #[.int .i64 i2x, .int .i64 l2x, .int .i64 s2x, .slice q2x m2x c2x, .int .i64 f2x, .int .i64 e2x, .int .i64 t2x, .slice r2x k2x d2x, .int .i64 g2x, .int .i64 h2x] 58)) a2_9
  have Lc0_0 := fkeep (fnew (frefl w10) (.cells #[.int .i64 i2x, .int .i64 l2x, .int .i64 s2x, .slice q2x m2x c2x, .int .i64 f2x, .int .i64 e2x, .int .i64 t2x, .slice r2x k2x d2x, .int .i64 g2x, .int .i64 h2x] 58)) c0_0
  have Lc0_1 := fkeep (fnew (frefl w10) (.cells #[.int .i64 i2x, .int .i64 l2x, .int .i64 s2x, .slice q2x m2x c2x, .int .i64 f2x, .int .i64 e2x, .int .i64 t2x, .slice r2x k2x d2x, .int .i64 g2x, .int .i64 h2x] 58)) c0_1
  have Lc1_0 := fkeep (fnew (frefl w10) (.cells #[.int .i64 i2x, .int .i64 l2x, .int .i64 s2x, .slice q2x m2x c2x, .int .i64 f2x, .int .i64 e2x, .int .i64 t2x, .slice r2x k2x d2x, .int .i64 g2x, .int .i64 h2x] 58)) c1_0
  have Lc1_1 := fkeep (fnew (frefl w10) (.cells #[.int .i64 i2x, .int .i64 l2x, .int .i64 s2x, .slice q2x m2x c2x, .int .i64 f2x, .int .i64 e2x, .int .i64 t2x, .slice r2x k2x d2x, .int .i64 g2x, .int .i64 h2x] 58)) c1_1
  have Lc1_2 := fkeep (fnew (frefl w10) (.cells #[.int .i64 i2x, .int .i64 l2x, .int .i64 s2x, .slice q2x m2x c2x, .int .i64 f2x, .int .i64 e2x, .int .i64 t2x, .slice r2x k2x d2x, .int .i64 g2x, .int .i64 h2x] 58)) c1_2
  have Lc1_3 := fkeep (fnew (frefl w10) (.cells #[.int .i64 i2x, .int .i64 l2x, .int .i64 s2x, .slice q2x m2x c2x, .int .i64 f2x, .int .i64 e2x, .int .i64 t2x, .slice r2x k2x d2x, .int .i64 g2x, .int .i64 h2x] 58)) c1_3
  have Lc1_4 := fkeep (fnew (frefl w10) (.cells #[.int .i64 i2x, .int .i64 l2x, .int .i64 s2x, .slice q2x m2x c2x, .int .i64 f2x, .int .i64 e2x, .int .i64 t2x, .slice r2x k2x d2x, .int .i64 g2x, .int .i64 h2x] 58)) c1_4
  have Lc1_5 := fkeep (fnew (frefl w10) (.cells #[.int .i64 i2x, .int .i64 l2x, .int .i64 s2x, .slice q2x m2x c2x, .int .i64 f2x, .int .i64 e2x, .int .i64 t2x, .slice r2x k2x d2x, .int .i64 g2x, .int .i64 h2x] 58)) c1_5
  have Lc1_6 := fkeep (fnew (frefl w10) (.cells #[.int .i64 i2x, .int .i64 l2x, .int .i64 s2x, .slice q2x m2x c2x, .int .i64 f2x, .int .i64 e2x, .int .i64 t2x, .slice r2x k2x d2x, .int .i64 g2x, .int .i64 h2x] 58)) c1_6
  have Lc1_7 := fkeep (fnew (frefl w10) (.cells #[.int .i64 i2x, .int .i64 l2x, .int .i64 s2x, .slice q2x m2x c2x, .int .i64 f2x, .int .i64 e2x, .int .i64 t2x, .slice r2x k2x d2x, .int .i64 g2x, .int .i64 h2x] 58)) c1_7
  have Lc1_8 := fkeep (fnew (frefl w10) (.cells #[.int .i64 i2x, .int .i64 l2x, .int .i64 s2x, .slice q2x m2x c2x, .int .i64 f2x, .int .i64 e2x, .int .i64 t2x, .slice r2x k2x d2x, .int .i64 g2x, .int .i64 h2x] 58)) c1_8
  have Lc1_9 := fkeep (fnew (frefl w10) (.cells #[.int .i64 i2x, .int .i64 l2x, .int .i64 s2x, .slice q2x m2x c2x, .int .i64 f2x, .int .i64 e2x, .int .i64 t2x, .slice r2x k2x d2x, .int .i64 g2x, .int .i64 h2x] 58)) c1_9
  have c2_0 : X2.cell? ⟨w10.heap.size, 0, none⟩ = some (.int .i64 i2x) := by rw [hX]; exact (RowAt.new w10 58 [.int .i64 i2x, .int .i64 l2x, .int .i64 s2x, .slice q2x m2x c2x, .int .i64 f2x, .int .i64 e2x, .int .i64 t2x, .slice r2x k2x d2x, .int .i64 g2x, .int .i64 h2x]).cell (i := 0) rfl
  have c2_1 : X2.cell? ⟨w10.heap.size, 1, none⟩ = some (.int .i64 l2x) := by rw [hX]; exact (RowAt.new w10 58 [.int .i64 i2x, .int .i64 l2x, .int .i64 s2x, .slice q2x m2x c2x, .int .i64 f2x, .int .i64 e2x, .int .i64 t2x, .slice r2x k2x d2x, .int .i64 g2x, .int .i64 h2x]).cell (i := 1) rfl
  have c2_2 : X2.cell? ⟨w10.heap.size, 2, none⟩ = some (.int .i64 s2x) := by rw [hX]; exact (RowAt.new w10 58 [.int .i64 i2x, .int .i64 l2x, .int .i64 s2x, .slice q2x m2x c2x, .int .i64 f2x, .int .i64 e2x, .int .i64 t2x, .slice r2x k2x d2x, .int .i64 g2x, .int .i64 h2x]).cell (i := 2) rfl
  have c2_3 : X2.cell? ⟨w10.heap.size, 3, none⟩ = some (.slice q2x m2x c2x) := by rw [hX]; exact (RowAt.new w10 58 [.int .i64 i2x, .int .i64 l2x, .int .i64 s2x, .slice q2x m2x c2x, .int .i64 f2x, .int .i64 e2x, .int .i64 t2x, .slice r2x k2x d2x, .int .i64 g2x, .int .i64 h2x]).cell (i := 3) rfl
  have c2_4 : X2.cell? ⟨w10.heap.size, 4, none⟩ = some (.int .i64 f2x) := by rw [hX]; exact (RowAt.new w10 58 [.int .i64 i2x, .int .i64 l2x, .int .i64 s2x, .slice q2x m2x c2x, .int .i64 f2x, .int .i64 e2x, .int .i64 t2x, .slice r2x k2x d2x, .int .i64 g2x, .int .i64 h2x]).cell (i := 4) rfl
  have c2_5 : X2.cell? ⟨w10.heap.size, 5, none⟩ = some (.int .i64 e2x) := by rw [hX]; exact (RowAt.new w10 58 [.int .i64 i2x, .int .i64 l2x, .int .i64 s2x, .slice q2x m2x c2x, .int .i64 f2x, .int .i64 e2x, .int .i64 t2x, .slice r2x k2x d2x, .int .i64 g2x, .int .i64 h2x]).cell (i := 5) rfl
  have c2_6 : X2.cell? ⟨w10.heap.size, 6, none⟩ = some (.int .i64 t2x) := by rw [hX]; exact (RowAt.new w10 58 [.int .i64 i2x, .int .i64 l2x, .int .i64 s2x, .slice q2x m2x c2x, .int .i64 f2x, .int .i64 e2x, .int .i64 t2x, .slice r2x k2x d2x, .int .i64 g2x, .int .i64 h2x]).cell (i := 6) rfl
  have c2_7 : X2.cell? ⟨w10.heap.size, 7, none⟩ = some (.slice r2x k2x d2x) := by rw [hX]; exact (RowAt.new w10 58 [.int .i64 i2x, .int .i64 l2x, .int .i64 s2x, .slice q2x m2x c2x, .int .i64 f2x, .int .i64 e2x, .int .i64 t2x, .slice r2x k2x d2x, .int .i64 g2x, .int .i64 h2x]).cell (i := 7) rfl
  have c2_8 : X2.cell? ⟨w10.heap.size, 8, none⟩ = some (.int .i64 g2x) := by rw [hX]; exact (RowAt.new w10 58 [.int .i64 i2x, .int .i64 l2x, .int .i64 s2x, .slice q2x m2x c2x, .int .i64 f2x, .int .i64 e2x, .int .i64 t2x, .slice r2x k2x d2x, .int .i64 g2x, .int .i64 h2x]).cell (i := 8) rfl
  have c2_9 : X2.cell? ⟨w10.heap.size, 9, none⟩ = some (.int .i64 h2x) := by rw [hX]; exact (RowAt.new w10 58 [.int .i64 i2x, .int .i64 l2x, .int .i64 s2x, .slice q2x m2x c2x, .int .i64 f2x, .int .i64 e2x, .int .i64 t2x, .slice r2x k2x d2x, .int .i64 g2x, .int .i64 h2x]).cell (i := 9) rfl
  replace a0_0 := fkeep hb a0_0
  replace a0_1 := fkeep hb a0_1
  replace a1_0 := fkeep hb a1_0
  replace a1_1 := fkeep hb a1_1
  replace a1_2 := fkeep hb a1_2
  replace a1_3 := fkeep hb a1_3
  replace a1_4 := fkeep hb a1_4
  replace a1_5 := fkeep hb a1_5
  replace a1_6 := fkeep hb a1_6
  replace a1_7 := fkeep hb a1_7
  replace a1_8 := fkeep hb a1_8
  replace a1_9 := fkeep hb a1_9
  replace a2_0 := fkeep hb a2_0
  replace a2_1 := fkeep hb a2_1
  replace a2_2 := fkeep hb a2_2
  replace a2_3 := fkeep hb a2_3
  replace a2_4 := fkeep hb a2_4
  replace a2_5 := fkeep hb a2_5
  replace a2_6 := fkeep hb a2_6
  replace a2_7 := fkeep hb a2_7
  replace a2_8 := fkeep hb a2_8
  replace a2_9 := fkeep hb a2_9
  replace c0_0 := fkeep hb c0_0
  replace c0_1 := fkeep hb c0_1
  replace c1_0 := fkeep hb c1_0
  replace c1_1 := fkeep hb c1_1
  replace c1_2 := fkeep hb c1_2
  replace c1_3 := fkeep hb c1_3
  replace c1_4 := fkeep hb c1_4
  replace c1_5 := fkeep hb c1_5
  replace c1_6 := fkeep hb c1_6
  replace c1_7 := fkeep hb c1_7
  replace c1_8 := fkeep hb c1_8
  replace c1_9 := fkeep hb c1_9
  have HF := Lib.hid (fstep HF.out hb)
  replace HZ0 := Lib.hid (HZ0.out.keep hb)
  replace HZ1 := Lib.hid (HZ1.out.keep hb)
  replace HZ2 := Lib.hid (HZ2.out.keep hb)
  clear hb
  have Ha0_0 := Lib.hid a0_0
  have Ha0_1 := Lib.hid a0_1
  have Ha1_0 := Lib.hid a1_0
  have Ha1_1 := Lib.hid a1_1
  have Ha1_2 := Lib.hid a1_2
  have Ha1_3 := Lib.hid a1_3
  have Ha1_4 := Lib.hid a1_4
  have Ha1_5 := Lib.hid a1_5
  have Ha1_6 := Lib.hid a1_6
  have Ha1_7 := Lib.hid a1_7
  have Ha1_8 := Lib.hid a1_8
  have Ha1_9 := Lib.hid a1_9
  have Ha2_0 := Lib.hid a2_0
  have Ha2_1 := Lib.hid a2_1
  have Ha2_2 := Lib.hid a2_2
  have Ha2_3 := Lib.hid a2_3
  have Ha2_4 := Lib.hid a2_4
  have Ha2_5 := Lib.hid a2_5
  have Ha2_6 := Lib.hid a2_6
  have Ha2_7 := Lib.hid a2_7
  have Ha2_8 := Lib.hid a2_8
  have Ha2_9 := Lib.hid a2_9
  have Hc0_0 := Lib.hid c0_0
  have Hc0_1 := Lib.hid c0_1
  have Hc1_0 := Lib.hid c1_0
  have Hc1_1 := Lib.hid c1_1
  have Hc1_2 := Lib.hid c1_2
  have Hc1_3 := Lib.hid c1_3
  have Hc1_4 := Lib.hid c1_4
  have Hc1_5 := Lib.hid c1_5
  have Hc1_6 := Lib.hid c1_6
  have Hc1_7 := Lib.hid c1_7
  have Hc1_8 := Lib.hid c1_8
  have Hc1_9 := Lib.hid c1_9
  have Hc2_0 := Lib.hid c2_0
  have Hc2_1 := Lib.hid c2_1
  have Hc2_2 := Lib.hid c2_2
  have Hc2_3 := Lib.hid c2_3
  have Hc2_4 := Lib.hid c2_4
  have Hc2_5 := Lib.hid c2_5
  have Hc2_6 := Lib.hid c2_6
  have Hc2_7 := Lib.hid c2_7
  have Hc2_8 := Lib.hid c2_8
  have Hc2_9 := Lib.hid c2_9
  clear a0_0 a0_1 a1_0 a1_1 a1_2 a1_3 a1_4 a1_5 a1_6 a1_7 a1_8 a1_9 a2_0 a2_1 a2_2 a2_3 a2_4 a2_5 a2_6 a2_7 a2_8 a2_9 c0_0 c0_1 c1_0 c1_1 c1_2 c1_3 c1_4 c1_5 c1_6 c1_7 c1_8 c1_9 c2_0 c2_1 c2_2 c2_3 c2_4 c2_5 c2_6 c2_7 c2_8 c2_9
  have HX2 := Lib.hid hX
  clear hX
  go_wp2_with fail
  rw [← HX2.out]
  clear HX2
  clear La0_0 La0_1 La1_0 La1_1 La1_2 La1_3 La1_4 La1_5 La1_6 La1_7 La1_8 La1_9 La2_0 La2_1 La2_2 La2_3 La2_4 La2_5 La2_6 La2_7 La2_8 La2_9 Lc0_0 Lc0_1 Lc1_0 Lc1_1 Lc1_2 Lc1_3 Lc1_4 Lc1_5 Lc1_6 Lc1_7 Lc1_8 Lc1_9
  have a0_0 := Ha0_0.out
  have a0_1 := Ha0_1.out
  have a1_0 := Ha1_0.out
  have a1_1 := Ha1_1.out
  have a1_2 := Ha1_2.out
  have a1_3 := Ha1_3.out
  have a1_4 := Ha1_4.out
  have a1_5 := Ha1_5.out
  have a1_6 := Ha1_6.out
  have a1_7 := Ha1_7.out
  have a1_8 := Ha1_8.out
  have a1_9 := Ha1_9.out
  have a2_0 := Ha2_0.out
  have a2_1 := Ha2_1.out
  have a2_2 := Ha2_2.out
  have a2_3 := Ha2_3.out
  have a2_4 := Ha2_4.out
  have a2_5 := Ha2_5.out
  have a2_6 := Ha2_6.out
  have a2_7 := Ha2_7.out
  have a2_8 := Ha2_8.out
  have a2_9 := Ha2_9.out
  have c0_0 := Hc0_0.out
  have c0_1 := Hc0_1.out
  have c1_0 := Hc1_0.out
  have c1_1 := Hc1_1.out
  have c1_2 := Hc1_2.out
  have c1_3 := Hc1_3.out
  have c1_4 := Hc1_4.out
  have c1_5 := Hc1_5.out
  have c1_6 := Hc1_6.out
  have c1_7 := Hc1_7.out
  have c1_8 := Hc1_8.out
  have c1_9 := Hc1_9.out
  have c2_0 := Hc2_0.out
  have c2_1 := Hc2_1.out
  have c2_2 := Hc2_2.out
  have c2_3 := Hc2_3.out
  have c2_4 := Hc2_4.out
  have c2_5 := Hc2_5.out
  have c2_6 := Hc2_6.out
  have c2_7 := Hc2_7.out
  have c2_8 := Hc2_8.out
  have c2_9 := Hc2_9.out
  clear Ha0_0 Ha0_1 Ha1_0 Ha1_1 Ha1_2 Ha1_3 Ha1_4 Ha1_5 Ha1_6 Ha1_7 Ha1_8 Ha1_9 Ha2_0 Ha2_1 Ha2_2 Ha2_3 Ha2_4 Ha2_5 Ha2_6 Ha2_7 Ha2_8 Ha2_9 Hc0_0 Hc0_1 Hc1_0 Hc1_1 Hc1_2 Hc1_3 Hc1_4 Hc1_5 Hc1_6 Hc1_7 Hc1_8 Hc1_9 Hc2_0 Hc2_1 Hc2_2 Hc2_3 Hc2_4 Hc2_5 Hc2_6 Hc2_7 Hc2_8 Hc2_9
  go_wp2_with fail
  have hcc := implAreCompatible_any _ x0 _ x1 _ x2 _ (HZ0.out) (HZ1.out) (HZ2.out)
  rw [← HR0.out, ← HR1.out] at hcc
  refine (hcc).mono ?_
  clear hcc
  rintro e w11 ⟨rfl, hb⟩
  replace a0_0 := fkeep hb a0_0
  replace a0_1 := fkeep hb a0_1
  replace a1_0 := fkeep hb a1_0
  replace a1_1 := fkeep hb a1_1
  replace a1_2 := fkeep hb a1_2
  replace a1_3 := fkeep hb a1_3
  replace a1_4 := fkeep hb a1_4
  replace a1_5 := fkeep hb a1_5
  replace a1_6 := fkeep hb a1_6
  replace a1_7 := fkeep hb a1_7
  replace a1_8 := fkeep hb a1_8
  replace a1_9 := fkeep hb a1_9
  replace a2_0 := fkeep hb a2_0
  replace a2_1 := fkeep hb a2_1
  replace a2_2 := fkeep hb a2_2
  replace a2_3 := fkeep hb a2_3
  replace a2_4 := fkeep hb a2_4
  replace a2_5 := fkeep hb a2_5
  replace a2_6 := fkeep hb a2_6
  replace a2_7 := fkeep hb a2_7
  replace a2_8 := fkeep hb a2_8
  replace a2_9 := fkeep hb a2_9
  replace c0_0 := fkeep hb c0_0
  replace c0_1 := fkeep hb c0_1
  replace c1_0 := fkeep hb c1_0
  replace c1_1 := fkeep hb c1_1
  replace c1_2 := fkeep hb c1_2
  replace c1_3 := fkeep hb c1_3
  replace c1_4 := fkeep hb c1_4
  replace c1_5 := fkeep hb c1_5
  replace c1_6 := fkeep hb c1_6
  replace c1_7 := fkeep hb c1_7
  replace c1_8 := fkeep hb c1_8
  replace c1_9 := fkeep hb c1_9
  replace c2_0 := fkeep hb c2_0
  replace c2_1 := fkeep hb c2_1
  replace c2_2 := fkeep hb c2_2
  replace c2_3 := fkeep hb c2_3
  replace c2_4 := fkeep hb c2_4
  replace c2_5 := fkeep hb c2_5
  replace c2_6 := fkeep hb c2_6
  replace c2_7 := fkeep hb c2_7
  replace c2_8 := fkeep hb c2_8
  replace c2_9 := fkeep hb c2_9
  have HF := Lib.hid (fstep HF.out hb)
  replace HZ0 := Lib.hid (HZ0.out.keep hb)
  replace HZ1 := Lib.hid (HZ1.out.keep hb)
  replace HZ2 := Lib.hid (HZ2.out.keep hb)
  clear hb
  go_wp2
  have HSS : Fresh w11 w11 ∧ w11.cell? ⟨w8.heap.size, 0, none⟩ = some (.slice q0x m0x c0x) ∧ w11.cell? ⟨w8.heap.size, 1, none⟩ = some (.slice p0x k0x d0x) ∧ w11.cell? ⟨w.heap.size, 0, none⟩ = some (.slice q0a m0a c0a) ∧ w11.cell? ⟨w.heap.size, 1, none⟩ = some (.slice p0a k0a d0a) := ⟨frefl _, c0_0, c0_1, a0_0, a0_1⟩
  go_region_held3 (fun w' => Fresh w11 w' ∧ w'.cell? ⟨w8.heap.size, 0, none⟩ = some (.slice q0x m0x c0x) ∧ w'.cell? ⟨w8.heap.size, 1, none⟩ = some (.slice p0x k0x d0x) ∧ w'.cell? ⟨w.heap.size, 0, none⟩ = some (.slice q0a m0a c0a) ∧ w'.cell? ⟨w.heap.size, 1, none⟩ = some (.slice p0a k0a d0a))
    (first | assumption | exact keepc4 (by assumption) (by assumption) | exact keepc4 (by assumption) (fdrew (frefl _)) | exact keepc4 (by assumption) (frefl _))
    (first | (go_at_call 8; refine (toNet_k _ x0 _ (HI0.out.keep (fstep HF.out (And.left (by assumption))))).mono ?_; rintro e w12 ⟨t0, rfl, hy, hb10⟩; have HT0 := Lib.hid hy; clear hy) | (go_at_call 12; refine (eqNetwork_same _ _ x0 _ (HZ0.out.keep (And.left (by assumption))) HT0.out).mono ?_; rintro e w13 ⟨rfl, hb11⟩))
  have hb : Fresh w11 w13 := fstep (fstep (fdrew (frefl _)) hb10) hb11
  clear hb10 hb11 HSS HT0 c0_0 c0_1
  clear HZ0
  replace a0_0 := fkeep hb a0_0
  replace a0_1 := fkeep hb a0_1
  replace a1_0 := fkeep hb a1_0
  replace a1_1 := fkeep hb a1_1
  replace a1_2 := fkeep hb a1_2
  replace a1_3 := fkeep hb a1_3
  replace a1_4 := fkeep hb a1_4
  replace a1_5 := fkeep hb a1_5
  replace a1_6 := fkeep hb a1_6
  replace a1_7 := fkeep hb a1_7
  replace a1_8 := fkeep hb a1_8
  replace a1_9 := fkeep hb a1_9
  replace a2_0 := fkeep hb a2_0
  replace a2_1 := fkeep hb a2_1
  replace a2_2 := fkeep hb a2_2
  replace a2_3 := fkeep hb a2_3
  replace a2_4 := fkeep hb a2_4
  replace a2_5 := fkeep hb a2_5
  replace a2_6 := fkeep hb a2_6
  replace a2_7 := fkeep hb a2_7
  replace a2_8 := fkeep hb a2_8
  replace a2_9 := fkeep hb a2_9
  replace c1_0 := fkeep hb c1_0
  replace c1_1 := fkeep hb c1_1
  replace c1_2 := fkeep hb c1_2
  replace c1_3 := fkeep hb c1_3
  replace c1_4 := fkeep hb c1_4
  replace c1_5 := fkeep hb c1_5
  replace c1_6 := fkeep hb c1_6
  replace c1_7 := fkeep hb c1_7
  replace c1_8 := fkeep hb c1_8
  replace c1_9 := fkeep hb c1_9
  replace c2_0 := fkeep hb c2_0
  replace c2_1 := fkeep hb c2_1
  replace c2_2 := fkeep hb c2_2
  replace c2_3 := fkeep hb c2_3
  replace c2_4 := fkeep hb c2_4
  replace c2_5 := fkeep hb c2_5
  replace c2_6 := fkeep hb c2_6
  replace c2_7 := fkeep hb c2_7
  replace c2_8 := fkeep hb c2_8
  replace c2_9 := fkeep hb c2_9
  have HF := Lib.hid (fstep HF.out hb)
  replace HZ1 := Lib.hid (HZ1.out.keep hb)
  replace HZ2 := Lib.hid (HZ2.out.keep hb)
  clear hb
  go_wp2
  have HSS : Fresh w13 w13 ∧ w13.cell? ⟨w9.heap.size, 0, none⟩ = some (.int .i64 i1x) ∧ w13.cell? ⟨w9.heap.size, 1, none⟩ = some (.int .i64 l1x) ∧ w13.cell? ⟨w9.heap.size, 2, none⟩ = some (.int .i64 s1x) ∧ w13.cell? ⟨w9.heap.size, 3, none⟩ = some (.slice q1x m1x c1x) ∧ w13.cell? ⟨w9.heap.size, 4, none⟩ = some (.int .i64 f1x) ∧ w13.cell? ⟨w9.heap.size, 5, none⟩ = some (.int .i64 e1x) ∧ w13.cell? ⟨w9.heap.size, 6, none⟩ = some (.int .i64 t1x) ∧ w13.cell? ⟨w9.heap.size, 7, none⟩ = some (.slice r1x k1x d1x) ∧ w13.cell? ⟨w9.heap.size, 8, none⟩ = some (.int .i64 g1x) ∧ w13.cell? ⟨w9.heap.size, 9, none⟩ = some (.int .i64 h1x) ∧ w13.cell? ⟨w.heap.size + 1, 0, none⟩ = some (.int .i64 i1a) ∧ w13.cell? ⟨w.heap.size + 1, 1, none⟩ = some (.int .i64 l1a) ∧ w13.cell? ⟨w.heap.size + 1, 2, none⟩ = some (.int .i64 s1a) ∧ w13.cell? ⟨w.heap.size + 1, 3, none⟩ = some (.slice q1a m1a c1a) ∧ w13.cell? ⟨w.heap.size + 1, 4, none⟩ = some (.int .i64 f1a) ∧ w13.cell? ⟨w.heap.size + 1, 5, none⟩ = some (.int .i64 e1a) ∧ w13.cell? ⟨w.heap.size + 1, 6, none⟩ = some (.int .i64 t1a) ∧ w13.cell? ⟨w.heap.size + 1, 7, none⟩ = some (.slice r1a k1a d1a) ∧ w13.cell? ⟨w.heap.size + 1, 8, none⟩ = some (.int .i64 g1a) ∧ w13.cell? ⟨w.heap.size + 1, 9, none⟩ = some (.int .i64 h1a) := ⟨frefl _, c1_0, c1_1, c1_2, c1_3, c1_4, c1_5, c1_6, c1_7, c1_8, c1_9, a1_0, a1_1, a1_2, a1_3, a1_4, a1_5, a1_6, a1_7, a1_8, a1_9⟩
  go_region_held3 (fun w' => Fresh w13 w' ∧ w'.cell? ⟨w9.heap.size, 0, none⟩ = some (.int .i64 i1x) ∧ w'.cell? ⟨w9.heap.size, 1, none⟩ = some (.int .i64 l1x) ∧ w'.cell? ⟨w9.heap.size, 2, none⟩ = some (.int .i64 s1x) ∧ w'.cell? ⟨w9.heap.size, 3, none⟩ = some (.slice q1x m1x c1x) ∧ w'.cell? ⟨w9.heap.size, 4, none⟩ = some (.int .i64 f1x) ∧ w'.cell? ⟨w9.heap.size, 5, none⟩ = some (.int .i64 e1x) ∧ w'.cell? ⟨w9.heap.size, 6, none⟩ = some (.int .i64 t1x) ∧ w'.cell? ⟨w9.heap.size, 7, none⟩ = some (.slice r1x k1x d1x) ∧ w'.cell? ⟨w9.heap.size, 8, none⟩ = some (.int .i64 g1x) ∧ w'.cell? ⟨w9.heap.size, 9, none⟩ = some (.int .i64 h1x) ∧ w'.cell? ⟨w.heap.size + 1, 0, none⟩ = some (.int .i64 i1a) ∧ w'.cell? ⟨w.heap.size + 1, 1, none⟩ = some (.int .i64 l1a) ∧ w'.cell? ⟨w.heap.size + 1, 2, none⟩ = some (.int .i64 s1a) ∧ w'.cell? ⟨w.heap.size + 1, 3, none⟩ = some (.slice q1a m1a c1a) ∧ w'.cell? ⟨w.heap.size + 1, 4, none⟩ = some (.int .i64 f1a) ∧ w'.cell? ⟨w.heap.size + 1, 5, none⟩ = some (.int .i64 e1a) ∧ w'.cell? ⟨w.heap.size + 1, 6, none⟩ = some (.int .i64 t1a) ∧ w'.cell? ⟨w.heap.size + 1, 7, none⟩ = some (.slice r1a k1a d1a) ∧ w'.cell? ⟨w.heap.size + 1, 8, none⟩ = some (.int .i64 g1a) ∧ w'.cell? ⟨w.heap.size + 1, 9, none⟩ = some (.int .i64 h1a))
    (first | assumption | exact keepc20 (by assumption) (by assumption) | exact keepc20 (by assumption) (fdrew (frefl _)) | exact keepc20 (by assumption) (frefl _))
    (first | (go_at_call 20; with_reducible refine (toSv_k _ x1 _ (HI1.out.keep (fstep HF.out (And.left (by assumption))))).mono ?_; rintro e w14 ⟨t1, rfl, hy, hb10⟩; have HT1 := Lib.hid hy; clear hy) | (go_at_call 22; refine (eqSv_k _ _ x1 _ (HZ1.out.keep (And.left (by assumption))) HT1.out).mono ?_; rintro e w15 ⟨rfl, hb11⟩))
  have hb : Fresh w13 w15 := fstep (fstep (fdrew (frefl _)) hb10) hb11
  clear hb10 hb11 HSS HT1 c1_0 c1_1 c1_2 c1_3 c1_4 c1_5 c1_6 c1_7 c1_8 c1_9
  clear HZ1
  replace a0_0 := fkeep hb a0_0
  replace a0_1 := fkeep hb a0_1
  replace a1_0 := fkeep hb a1_0
  replace a1_1 := fkeep hb a1_1
  replace a1_2 := fkeep hb a1_2
  replace a1_3 := fkeep hb a1_3
  replace a1_4 := fkeep hb a1_4
  replace a1_5 := fkeep hb a1_5
  replace a1_6 := fkeep hb a1_6
  replace a1_7 := fkeep hb a1_7
  replace a1_8 := fkeep hb a1_8
  replace a1_9 := fkeep hb a1_9
  replace a2_0 := fkeep hb a2_0
  replace a2_1 := fkeep hb a2_1
  replace a2_2 := fkeep hb a2_2
  replace a2_3 := fkeep hb a2_3
  replace a2_4 := fkeep hb a2_4
  replace a2_5 := fkeep hb a2_5
  replace a2_6 := fkeep hb a2_6
  replace a2_7 := fkeep hb a2_7
  replace a2_8 := fkeep hb a2_8
  replace a2_9 := fkeep hb a2_9
  replace c2_0 := fkeep hb c2_0
  replace c2_1 := fkeep hb c2_1
  replace c2_2 := fkeep hb c2_2
  replace c2_3 := fkeep hb c2_3
  replace c2_4 := fkeep hb c2_4
  replace c2_5 := fkeep hb c2_5
  replace c2_6 := fkeep hb c2_6
  replace c2_7 := fkeep hb c2_7
  replace c2_8 := fkeep hb c2_8
  replace c2_9 := fkeep hb c2_9
  have HF := Lib.hid (fstep HF.out hb)
  replace HZ2 := Lib.hid (HZ2.out.keep hb)
  clear hb
  go_wp2
  have HSS : Fresh w15 w15 ∧ w15.cell? ⟨w10.heap.size, 0, none⟩ = some (.int .i64 i2x) ∧ w15.cell? ⟨w10.heap.size, 1, none⟩ = some (.int .i64 l2x) ∧ w15.cell? ⟨w10.heap.size, 2, none⟩ = some (.int .i64 s2x) ∧ w15.cell? ⟨w10.heap.size, 3, none⟩ = some (.slice q2x m2x c2x) ∧ w15.cell? ⟨w10.heap.size, 4, none⟩ = some (.int .i64 f2x) ∧ w15.cell? ⟨w10.heap.size, 5, none⟩ = some (.int .i64 e2x) ∧ w15.cell? ⟨w10.heap.size, 6, none⟩ = some (.int .i64 t2x) ∧ w15.cell? ⟨w10.heap.size, 7, none⟩ = some (.slice r2x k2x d2x) ∧ w15.cell? ⟨w10.heap.size, 8, none⟩ = some (.int .i64 g2x) ∧ w15.cell? ⟨w10.heap.size, 9, none⟩ = some (.int .i64 h2x) ∧ w15.cell? ⟨w.heap.size + 1 + 1, 0, none⟩ = some (.int .i64 i2a) ∧ w15.cell? ⟨w.heap.size + 1 + 1, 1, none⟩ = some (.int .i64 l2a) ∧ w15.cell? ⟨w.heap.size + 1 + 1, 2, none⟩ = some (.int .i64 s2a) ∧ w15.cell? ⟨w.heap.size + 1 + 1, 3, none⟩ = some (.slice q2a m2a c2a) ∧ w15.cell? ⟨w.heap.size + 1 + 1, 4, none⟩ = some (.int .i64 f2a) ∧ w15.cell? ⟨w.heap.size + 1 + 1, 5, none⟩ = some (.int .i64 e2a) ∧ w15.cell? ⟨w.heap.size + 1 + 1, 6, none⟩ = some (.int .i64 t2a) ∧ w15.cell? ⟨w.heap.size + 1 + 1, 7, none⟩ = some (.slice r2a k2a d2a) ∧ w15.cell? ⟨w.heap.size + 1 + 1, 8, none⟩ = some (.int .i64 g2a) ∧ w15.cell? ⟨w.heap.size + 1 + 1, 9, none⟩ = some (.int .i64 h2a) := ⟨frefl _, c2_0, c2_1, c2_2, c2_3, c2_4, c2_5, c2_6, c2_7, c2_8, c2_9, a2_0, a2_1, a2_2, a2_3, a2_4, a2_5, a2_6, a2_7, a2_8, a2_9⟩
  go_region_held3 (fun w' => Fresh w15 w' ∧ w'.cell? ⟨w10.heap.size, 0, none⟩ = some (.int .i64 i2x) ∧ w'.cell? ⟨w10.heap.size, 1, none⟩ = some (.int .i64 l2x) ∧ w'.cell? ⟨w10.heap.size, 2, none⟩ = some (.int .i64 s2x) ∧ w'.cell? ⟨w10.heap.size, 3, none⟩ = some (.slice q2x m2x c2x) ∧ w'.cell? ⟨w10.heap.size, 4, none⟩ = some (.int .i64 f2x) ∧ w'.cell? ⟨w10.heap.size, 5, none⟩ = some (.int .i64 e2x) ∧ w'.cell? ⟨w10.heap.size, 6, none⟩ = some (.int .i64 t2x) ∧ w'.cell? ⟨w10.heap.size, 7, none⟩ = some (.slice r2x k2x d2x) ∧ w'.cell? ⟨w10.heap.size, 8, none⟩ = some (.int .i64 g2x) ∧ w'.cell? ⟨w10.heap.size, 9, none⟩ = some (.int .i64 h2x) ∧ w'.cell? ⟨w.heap.size + 1 + 1, 0, none⟩ = some (.int .i64 i2a) ∧ w'.cell? ⟨w.heap.size + 1 + 1, 1, none⟩ = some (.int .i64 l2a) ∧ w'.cell? ⟨w.heap.size + 1 + 1, 2, none⟩ = some (.int .i64 s2a) ∧ w'.cell? ⟨w.heap.size + 1 + 1, 3, none⟩ = some (.slice q2a m2a c2a) ∧ w'.cell? ⟨w.heap.size + 1 + 1, 4, none⟩ = some (.int .i64 f2a) ∧ w'.cell? ⟨w.heap.size + 1 + 1, 5, none⟩ = some (.int .i64 e2a) ∧ w'.cell? ⟨w.heap.size + 1 + 1, 6, none⟩ = some (.int .i64 t2a) ∧ w'.cell? ⟨w.heap.size + 1 + 1, 7, none⟩ = some (.slice r2a k2a d2a) ∧ w'.cell? ⟨w.heap.size + 1 + 1, 8, none⟩ = some (.int .i64 g2a) ∧ w'.cell? ⟨w.heap.size + 1 + 1, 9, none⟩ = some (.int .i64 h2a))
    (first | assumption | exact keepc20 (by assumption) (by assumption) | exact keepc20 (by assumption) (fdrew (frefl _)) | exact keepc20 (by assumption) (frefl _))
    (first | (go_at_call 20; refine (toSv_k _ x2 _ (HI2.out.keep (fstep HF.out (And.left (by assumption))))).mono ?_; rintro e w16 ⟨t2, rfl, hy, hb10⟩; have HT2 := Lib.hid hy; clear hy) | (go_at_call 22; refine (eqSv_k _ _ x2 _ (HZ2.out.keep (And.left (by assumption))) HT2.out).mono ?_; rintro e w17 ⟨rfl, hb11⟩))
  have hb : Fresh w15 w17 := fstep (fstep (fdrew (frefl _)) hb10) hb11
  clear hb10 hb11 HSS HT2 c2_0 c2_1 c2_2 c2_3 c2_4 c2_5 c2_6 c2_7 c2_8 c2_9
  clear HZ2
  replace a0_0 := fkeep hb a0_0
  replace a0_1 := fkeep hb a0_1
  replace a1_0 := fkeep hb a1_0
  replace a1_1 := fkeep hb a1_1
  replace a1_2 := fkeep hb a1_2
  replace a1_3 := fkeep hb a1_3
  replace a1_4 := fkeep hb a1_4
  replace a1_5 := fkeep hb a1_5
  replace a1_6 := fkeep hb a1_6
  replace a1_7 := fkeep hb a1_7
  replace a1_8 := fkeep hb a1_8
  replace a1_9 := fkeep hb a1_9
  replace a2_0 := fkeep hb a2_0
  replace a2_1 := fkeep hb a2_1
  replace a2_2 := fkeep hb a2_2
  replace a2_3 := fkeep hb a2_3
  replace a2_4 := fkeep hb a2_4
  replace a2_5 := fkeep hb a2_5
  replace a2_6 := fkeep hb a2_6
  replace a2_7 := fkeep hb a2_7
  replace a2_8 := fkeep hb a2_8
  replace a2_9 := fkeep hb a2_9
  have HF := Lib.hid (fstep HF.out hb)
  clear hb
  go_wp2
  go_ret
  exact ⟨rfl, HF.out⟩
end Go.Proofs.Ytipbbfeimdobeaa
