/- The walk of FnExactReleaseAll. -/
import Derived.Test.YteckjlkhopkogaaGreatRl2
import Derived.Test.YteckjlkhopkogaaGreatPm3
import Derived.Test.YteckjlkhopkogaaGreatMl
import Derived.Test.YteckjlkhopkogaaGreatU1
import Derived.Test.YteckjlkhopkogaaGreatKSd
import Derived.Test.YteckjlkhopkogaaGreatHd
import Derived.Deep.RegionHeld3
import Derived.Deep.DeepCutAuto
namespace Go.Proofs.YteckjlkhopkogaaGreat
open Go.RowKit Go.PlainAid

set_option maxHeartbeats 4000000 in
set_option maxRecDepth 100000 in
theorem law_ReleaseAll (v0 : Value) (x0 : SdV) (w : World) (h0 : SdRaw w v0 x0) :
    Calls Tryz.prog 3 #[v0] w fun e w' => e = .returned (.bool true) ∧ Fresh w w' := by
  obtain ⟨q0a, m0a, c0a, p0a, k0a, d0a, r0a, i0a, e0a, t0a, n0a, y0a, j0a, hv0⟩ := h0.shape
  subst hv0
  have HI0 := Lib.hid h0
  clear h0
  obtain ⟨r0, hr0⟩ : ∃ r0, r0 = (relF x0.1 x0.2.1).1 := ⟨_, rfl⟩
  have HR0 := Lib.hid hr0
  clear hr0
  obtain ⟨r1, hr1⟩ : ∃ r1, r1 = (relF x0.1 x0.2.1).2 := ⟨_, rfl⟩
  have HR1 := Lib.hid hr1
  clear hr1
  obtain ⟨B0, hB0⟩ : ∃ B, B = w.alloc (.cells #[.slice q0a m0a c0a, .slice p0a k0a d0a, .slice r0a i0a e0a, .slice t0a n0a y0a, .int .i64 j0a] 31) := ⟨_, rfl⟩
  have hz0 : B0.heap.size = w.heap.size + 1 := by rw [hB0]; simp
  have hf0 : Fresh w B0 := by rw [hB0]; exact fnew (frefl _) _
  have hrow0 : RowAt B0 w.heap.size 31 [.slice q0a m0a c0a, .slice p0a k0a d0a, .slice r0a i0a e0a, .slice t0a n0a y0a, .int .i64 j0a] := by rw [hB0]; exact RowAt.new _ _ _
  have HF := Lib.hid (fstep (frefl w) hf0)
  have a0_0 := hrow0.cell (i := 0) rfl
  have a0_1 := hrow0.cell (i := 1) rfl
  have a0_2 := hrow0.cell (i := 2) rfl
  have a0_3 := hrow0.cell (i := 3) rfl
  have a0_4 := hrow0.cell (i := 4) rfl
  have HB := Lib.hid (And.intro hB0 trivial)
  clear hB0 hz0 hf0 hrow0
  go_enter Tryz.func3, Tryz.ntmps3
  go_wp2_with fail
  rw [← HB.out.1]
  clear HB
  refine (szSd_k _ x0 1048576 _ (SdRaw.keep HI0.out HF.out) (by omega) (by omega)).mono ?_
  rintro e w1 ⟨l0, rfl, l00, l01, hsm, hb⟩
  have HS0 := Lib.hid hsm
  clear hsm
  replace a0_0 := fkeep hb a0_0
  replace a0_1 := fkeep hb a0_1
  replace a0_2 := fkeep hb a0_2
  replace a0_3 := fkeep hb a0_3
  replace a0_4 := fkeep hb a0_4
  have HF := Lib.hid (fstep HF.out hb)
  clear hb
  by_cases hneg0 : l0 < 0
  · go_wp2
    go_ret
    exact ⟨rfl, HF.out⟩
  replace HI0 := Lib.hid (SdRaw.small HI0.out (HS0.out (by omega)))
  clear HS0
  have hlen := relF_small x0.1 x0.2.1 HI0.out.isSmall.1
  rw [← HR0.out] at hlen
  have HSM := Lib.hid hlen
  clear hlen
  have HSZ0 := Lib.hid HF.out.size
  have HSZ1 := Lib.hid (World.block_lt_of_cell? _ _ a0_0)
  go_wp2_with fail
  refine (toSd_k _ x0 _ (HI0.out.keep HF.out)).mono ?_
  rintro e w2 ⟨y0, rfl, hy, hb⟩
  have HY0 := Lib.hid hy
  clear hy
  have HSZ2 := Lib.hid (hb.size)
  replace a0_0 := fkeep hb a0_0
  replace a0_1 := fkeep hb a0_1
  replace a0_2 := fkeep hb a0_2
  replace a0_3 := fkeep hb a0_3
  replace a0_4 := fkeep hb a0_4
  have HF := Lib.hid (fstep HF.out hb)
  clear hb
  go_wp2_with fail
  have hcc := specReleaseAll_any _ x0 _ HY0.out
  rw [← HR0.out, ← HR1.out] at hcc
  refine (hcc).mono ?_
  clear hcc
  rintro e w3 ⟨vW, rfl, how, hb⟩
  clear HY0
  obtain ⟨qW, mW, cW, fW, kW, dW, tW, iW, eW, hvv⟩ := how.shape
  subst hvv
  have HRW := Lib.hid (how.held.wide (Nat.zero_le _) (Nat.le_refl _))
  clear how
  have HSZ3 := Lib.hid (hb.size)
  replace a0_0 := fkeep hb a0_0
  replace a0_1 := fkeep hb a0_1
  replace a0_2 := fkeep hb a0_2
  replace a0_3 := fkeep hb a0_3
  replace a0_4 := fkeep hb a0_4
  have HF := Lib.hid (fstep HF.out hb)
  clear hb
  obtain ⟨XW, hX⟩ : ∃ X, X = w3.alloc (.cells #[.slice qW mW cW, .slice fW kW dW, .slice tW iW eW] 38) := ⟨_, rfl⟩
  have hb : Fresh w3 XW := by rw [hX]; exact fnew (frefl _) _
  have HSZ4 := Lib.hid (show XW.heap.size = w3.heap.size + 1 by rw [hX]; simp)
  have La0_0 := fkeep (fnew (frefl w3) (.cells #[.slice qW mW cW, .slice fW kW dW, .slice tW iW eW] 38)) a0_0
  have La0_1 := fkeep (fnew (frefl w3) (.cells #[.slice qW mW cW, .slice fW kW dW, .slice tW iW eW] 38)) a0_1
  have La0_2 := fkeep (fnew (frefl w3) (.cells #[.slice qW mW cW, .slice fW kW dW, .slice tW iW eW] 38)) a0_2
  have La0_3 := fkeep (fnew (frefl w3) (.cells #[.slice qW mW cW, .slice fW kW dW, .slice tW iW eW] 38)) a0_3
  have La0_4 := fkeep (fnew (frefl w3) (.cells #[.slice qW mW cW, .slice fW kW dW, .slice tW iW eW] 38)) a0_4
  have bW_0 : XW.cell? ⟨w3.heap.size, 0, none⟩ = some (.slice qW mW cW) := by rw [hX]; exact (RowAt.new w3 38 [.slice qW mW cW, .slice fW kW dW, .slice tW iW eW]).cell (i := 0) rfl
  have bW_1 : XW.cell? ⟨w3.heap.size, 1, none⟩ = some (.slice fW kW dW) := by rw [hX]; exact (RowAt.new w3 38 [.slice qW mW cW, .slice fW kW dW, .slice tW iW eW]).cell (i := 1) rfl
  have bW_2 : XW.cell? ⟨w3.heap.size, 2, none⟩ = some (.slice tW iW eW) := by rw [hX]; exact (RowAt.new w3 38 [.slice qW mW cW, .slice fW kW dW, .slice tW iW eW]).cell (i := 2) rfl
  replace a0_0 := fkeep hb a0_0
  replace a0_1 := fkeep hb a0_1
  replace a0_2 := fkeep hb a0_2
  replace a0_3 := fkeep hb a0_3
  replace a0_4 := fkeep hb a0_4
  have HF := Lib.hid (fstep HF.out hb)
  replace HRW := Lib.hid (HRW.out.keep hb)
  clear hb
  have Ha0_0 := Lib.hid a0_0
  have Ha0_1 := Lib.hid a0_1
  have Ha0_2 := Lib.hid a0_2
  have Ha0_3 := Lib.hid a0_3
  have Ha0_4 := Lib.hid a0_4
  have HbW_0 := Lib.hid bW_0
  have HbW_1 := Lib.hid bW_1
  have HbW_2 := Lib.hid bW_2
  clear a0_0 a0_1 a0_2 a0_3 a0_4 bW_0 bW_1 bW_2
  have HXW := Lib.hid hX
  clear hX
  go_wp2_with fail
  rw [← HXW.out]
  clear HXW
  clear La0_0 La0_1 La0_2 La0_3 La0_4
  have a0_0 := Ha0_0.out
  have a0_1 := Ha0_1.out
  have a0_2 := Ha0_2.out
  have a0_3 := Ha0_3.out
  have a0_4 := Ha0_4.out
  have bW_0 := HbW_0.out
  have bW_1 := HbW_1.out
  have bW_2 := HbW_2.out
  clear Ha0_0 Ha0_1 Ha0_2 Ha0_3 Ha0_4 HbW_0 HbW_1 HbW_2
  go_wp2_with fail
  refine (toSd_o _ x0 _ (HI0.out.keep HF.out)).mono ?_
  rintro e w4 ⟨z0, rfl, hy, hm, hb⟩
  have HZ0 := Lib.hid hy
  have HM0 := Lib.hid hm
  clear hy hm
  have HSZ5 := Lib.hid (hb.size)
  replace a0_0 := fkeep hb a0_0
  replace a0_1 := fkeep hb a0_1
  replace a0_2 := fkeep hb a0_2
  replace a0_3 := fkeep hb a0_3
  replace a0_4 := fkeep hb a0_4
  replace bW_0 := fkeep hb bW_0
  replace bW_1 := fkeep hb bW_1
  replace bW_2 := fkeep hb bW_2
  have HF := Lib.hid (fstep HF.out hb)
  replace HRW := Lib.hid (HRW.out.keep hb)
  clear hb
  obtain ⟨q0x, m0x, c0x, p0x, k0x, d0x, r0x, i0x, e0x, t0x, n0x, y0x, j0x, hv⟩ := HZ0.out.shape
  subst hv
  obtain ⟨Xx0, hX⟩ : ∃ X, X = w4.alloc (.cells #[.slice q0x m0x c0x, .slice p0x k0x d0x, .slice r0x i0x e0x, .slice t0x n0x y0x, .int .i64 j0x] 42) := ⟨_, rfl⟩
  have hb : Fresh w4 Xx0 := by rw [hX]; exact fnew (frefl _) _
  have HSZ6 := Lib.hid (show Xx0.heap.size = w4.heap.size + 1 by rw [hX]; simp)
  have La0_0 := fkeep (fnew (frefl w4) (.cells #[.slice q0x m0x c0x, .slice p0x k0x d0x, .slice r0x i0x e0x, .slice t0x n0x y0x, .int .i64 j0x] 42)) a0_0
  have La0_1 := fkeep (fnew (frefl w4) (.cells #[.slice q0x m0x c0x, .slice p0x k0x d0x, .slice r0x i0x e0x, .slice t0x n0x y0x, .int .i64 j0x] 42)) a0_1
  have La0_2 := fkeep (fnew (frefl w4) (.cells #[.slice q0x m0x c0x, .slice p0x k0x d0x, .slice r0x i0x e0x, .slice t0x n0x y0x, .int .i64 j0x] 42)) a0_2
  have La0_3 := fkeep (fnew (frefl w4) (.cells #[.slice q0x m0x c0x, .slice p0x k0x d0x, .slice r0x i0x e0x, .slice t0x n0x y0x, .int .i64 j0x] 42)) a0_3
  have La0_4 := fkeep (fnew (frefl w4) (.cells #[.slice q0x m0x c0x, .slice p0x k0x d0x, .slice r0x i0x e0x, .slice t0x n0x y0x, .int .i64 j0x] 42)) a0_4
  have LbW_0 := fkeep (fnew (frefl w4) (.cells #[.slice q0x m0x c0x, .slice p0x k0x d0x, .slice r0x i0x e0x, .slice t0x n0x y0x, .int .i64 j0x] 42)) bW_0
  have LbW_1 := fkeep (fnew (frefl w4) (.cells #[.slice q0x m0x c0x, .slice p0x k0x d0x, .slice r0x i0x e0x, .slice t0x n0x y0x, .int .i64 j0x] 42)) bW_1
  have LbW_2 := fkeep (fnew (frefl w4) (.cells #[.slice q0x m0x c0x, .slice p0x k0x d0x, .slice r0x i0x e0x, .slice t0x n0x y0x, .int .i64 j0x] 42)) bW_2
  have c0_0 : Xx0.cell? ⟨w4.heap.size, 0, none⟩ = some (.slice q0x m0x c0x) := by rw [hX]; exact (RowAt.new w4 42 [.slice q0x m0x c0x, .slice p0x k0x d0x, .slice r0x i0x e0x, .slice t0x n0x y0x, .int .i64 j0x]).cell (i := 0) rfl
  have c0_1 : Xx0.cell? ⟨w4.heap.size, 1, none⟩ = some (.slice p0x k0x d0x) := by rw [hX]; exact (RowAt.new w4 42 [.slice q0x m0x c0x, .slice p0x k0x d0x, .slice r0x i0x e0x, .slice t0x n0x y0x, .int .i64 j0x]).cell (i := 1) rfl
  have c0_2 : Xx0.cell? ⟨w4.heap.size, 2, none⟩ = some (.slice r0x i0x e0x) := by rw [hX]; exact (RowAt.new w4 42 [.slice q0x m0x c0x, .slice p0x k0x d0x, .slice r0x i0x e0x, .slice t0x n0x y0x, .int .i64 j0x]).cell (i := 2) rfl
  have c0_3 : Xx0.cell? ⟨w4.heap.size, 3, none⟩ = some (.slice t0x n0x y0x) := by rw [hX]; exact (RowAt.new w4 42 [.slice q0x m0x c0x, .slice p0x k0x d0x, .slice r0x i0x e0x, .slice t0x n0x y0x, .int .i64 j0x]).cell (i := 3) rfl
  have c0_4 : Xx0.cell? ⟨w4.heap.size, 4, none⟩ = some (.int .i64 j0x) := by rw [hX]; exact (RowAt.new w4 42 [.slice q0x m0x c0x, .slice p0x k0x d0x, .slice r0x i0x e0x, .slice t0x n0x y0x, .int .i64 j0x]).cell (i := 4) rfl
  replace a0_0 := fkeep hb a0_0
  replace a0_1 := fkeep hb a0_1
  replace a0_2 := fkeep hb a0_2
  replace a0_3 := fkeep hb a0_3
  replace a0_4 := fkeep hb a0_4
  replace bW_0 := fkeep hb bW_0
  replace bW_1 := fkeep hb bW_1
  replace bW_2 := fkeep hb bW_2
  have HF := Lib.hid (fstep HF.out hb)
  replace HRW := Lib.hid (HRW.out.keep hb)
  replace HZ0 := Lib.hid (HZ0.out.keep hb)
  replace HM0 := Lib.hid (HM0.out.keep hb)
  clear hb
  have Ha0_0 := Lib.hid a0_0
  have Ha0_1 := Lib.hid a0_1
  have Ha0_2 := Lib.hid a0_2
  have Ha0_3 := Lib.hid a0_3
  have Ha0_4 := Lib.hid a0_4
  have HbW_0 := Lib.hid bW_0
  have HbW_1 := Lib.hid bW_1
  have HbW_2 := Lib.hid bW_2
  have Hc0_0 := Lib.hid c0_0
  have Hc0_1 := Lib.hid c0_1
  have Hc0_2 := Lib.hid c0_2
  have Hc0_3 := Lib.hid c0_3
  have Hc0_4 := Lib.hid c0_4
  clear a0_0 a0_1 a0_2 a0_3 a0_4 bW_0 bW_1 bW_2 c0_0 c0_1 c0_2 c0_3 c0_4
  have HXx0 := Lib.hid hX
  clear hX
  go_wp2_with fail
  rw [← HXx0.out]
  clear HXx0
  clear La0_0 La0_1 La0_2 La0_3 La0_4 LbW_0 LbW_1 LbW_2
  have a0_0 := Ha0_0.out
  have a0_1 := Ha0_1.out
  have a0_2 := Ha0_2.out
  have a0_3 := Ha0_3.out
  have a0_4 := Ha0_4.out
  have bW_0 := HbW_0.out
  have bW_1 := HbW_1.out
  have bW_2 := HbW_2.out
  have c0_0 := Hc0_0.out
  have c0_1 := Hc0_1.out
  have c0_2 := Hc0_2.out
  have c0_3 := Hc0_3.out
  have c0_4 := Hc0_4.out
  clear Ha0_0 Ha0_1 Ha0_2 Ha0_3 Ha0_4 HbW_0 HbW_1 HbW_2 Hc0_0 Hc0_1 Hc0_2 Hc0_3 Hc0_4
  go_wp2_with fail
  have hcc := implReleaseAll_any _ x0 _ HZ0.out
  rw [← HR0.out, ← HR1.out] at hcc
  refine (hcc).mono ?_
  clear hcc
  rintro e w5 ⟨vG, rfl, how, hb⟩
  obtain ⟨qG, mG, cG, fG, kG, dG, tG, iG, eG, hvv⟩ := how.shape
  subst hvv
  have HRG := Lib.hid how.held
  clear how
  have HSZ7 := Lib.hid (hb.size)
  replace a0_0 := fkeep hb a0_0
  replace a0_1 := fkeep hb a0_1
  replace a0_2 := fkeep hb a0_2
  replace a0_3 := fkeep hb a0_3
  replace a0_4 := fkeep hb a0_4
  replace bW_0 := fkeep hb bW_0
  replace bW_1 := fkeep hb bW_1
  replace bW_2 := fkeep hb bW_2
  replace c0_0 := fkeep hb c0_0
  replace c0_1 := fkeep hb c0_1
  replace c0_2 := fkeep hb c0_2
  replace c0_3 := fkeep hb c0_3
  replace c0_4 := fkeep hb c0_4
  have HF := Lib.hid (fstep HF.out hb)
  replace HRW := Lib.hid (HRW.out.keep hb)
  replace HZ0 := Lib.hid (HZ0.out.keep hb)
  replace HM0 := Lib.hid (HM0.out.keep hb)
  clear hb
  obtain ⟨XG, hX⟩ : ∃ X, X = w5.alloc (.cells #[.slice qG mG cG, .slice fG kG dG, .slice tG iG eG] 38) := ⟨_, rfl⟩
  have hb : Fresh w5 XG := by rw [hX]; exact fnew (frefl _) _
  have HSZ8 := Lib.hid (show XG.heap.size = w5.heap.size + 1 by rw [hX]; simp)
  have La0_0 := fkeep (fnew (frefl w5) (.cells #[.slice qG mG cG, .slice fG kG dG, .slice tG iG eG] 38)) a0_0
  have La0_1 := fkeep (fnew (frefl w5) (.cells #[.slice qG mG cG, .slice fG kG dG, .slice tG iG eG] 38)) a0_1
  have La0_2 := fkeep (fnew (frefl w5) (.cells #[.slice qG mG cG, .slice fG kG dG, .slice tG iG eG] 38)) a0_2
  have La0_3 := fkeep (fnew (frefl w5) (.cells #[.slice qG mG cG, .slice fG kG dG, .slice tG iG eG] 38)) a0_3
  have La0_4 := fkeep (fnew (frefl w5) (.cells #[.slice qG mG cG, .slice fG kG dG, .slice tG iG eG] 38)) a0_4
  have LbW_0 := fkeep (fnew (frefl w5) (.cells #[.slice qG mG cG, .slice fG kG dG, .slice tG iG eG] 38)) bW_0
  have LbW_1 := fkeep (fnew (frefl w5) (.cells #[.slice qG mG cG, .slice fG kG dG, .slice tG iG eG] 38)) bW_1
  have LbW_2 := fkeep (fnew (frefl w5) (.cells #[.slice qG mG cG, .slice fG kG dG, .slice tG iG eG] 38)) bW_2
  have Lc0_0 := fkeep (fnew (frefl w5) (.cells #[.slice qG mG cG, .slice fG kG dG, .slice tG iG eG] 38)) c0_0
  have Lc0_1 := fkeep (fnew (frefl w5) (.cells #[.slice qG mG cG, .slice fG kG dG, .slice tG iG eG] 38)) c0_1
  have Lc0_2 := fkeep (fnew (frefl w5) (.cells #[.slice qG mG cG, .slice fG kG dG, .slice tG iG eG] 38)) c0_2
  have Lc0_3 := fkeep (fnew (frefl w5) (.cells #[.slice qG mG cG, .slice fG kG dG, .slice tG iG eG] 38)) c0_3
  have Lc0_4 := fkeep (fnew (frefl w5) (.cells #[.slice qG mG cG, .slice fG kG dG, .slice tG iG eG] 38)) c0_4
  have HRWG : Hid (RowAt XG w5.heap.size 38 [.slice qG mG cG, .slice fG kG dG, .slice tG iG eG]) := by show RowAt _ _ _ _; rw [hX]; exact RowAt.new _ _ _
  have bG_0 : XG.cell? ⟨w5.heap.size, 0, none⟩ = some (.slice qG mG cG) := by rw [hX]; exact (RowAt.new w5 38 [.slice qG mG cG, .slice fG kG dG, .slice tG iG eG]).cell (i := 0) rfl
  have bG_1 : XG.cell? ⟨w5.heap.size, 1, none⟩ = some (.slice fG kG dG) := by rw [hX]; exact (RowAt.new w5 38 [.slice qG mG cG, .slice fG kG dG, .slice tG iG eG]).cell (i := 1) rfl
  have bG_2 : XG.cell? ⟨w5.heap.size, 2, none⟩ = some (.slice tG iG eG) := by rw [hX]; exact (RowAt.new w5 38 [.slice qG mG cG, .slice fG kG dG, .slice tG iG eG]).cell (i := 2) rfl
  replace a0_0 := fkeep hb a0_0
  replace a0_1 := fkeep hb a0_1
  replace a0_2 := fkeep hb a0_2
  replace a0_3 := fkeep hb a0_3
  replace a0_4 := fkeep hb a0_4
  replace bW_0 := fkeep hb bW_0
  replace bW_1 := fkeep hb bW_1
  replace bW_2 := fkeep hb bW_2
  replace c0_0 := fkeep hb c0_0
  replace c0_1 := fkeep hb c0_1
  replace c0_2 := fkeep hb c0_2
  replace c0_3 := fkeep hb c0_3
  replace c0_4 := fkeep hb c0_4
  have HF := Lib.hid (fstep HF.out hb)
  replace HRW := Lib.hid (HRW.out.keep hb)
  replace HZ0 := Lib.hid (HZ0.out.keep hb)
  replace HM0 := Lib.hid (HM0.out.keep hb)
  replace HRG := Lib.hid (HRG.out.keep hb)
  clear hb
  have Ha0_0 := Lib.hid a0_0
  have Ha0_1 := Lib.hid a0_1
  have Ha0_2 := Lib.hid a0_2
  have Ha0_3 := Lib.hid a0_3
  have Ha0_4 := Lib.hid a0_4
  have HbW_0 := Lib.hid bW_0
  have HbW_1 := Lib.hid bW_1
  have HbW_2 := Lib.hid bW_2
  have Hc0_0 := Lib.hid c0_0
  have Hc0_1 := Lib.hid c0_1
  have Hc0_2 := Lib.hid c0_2
  have Hc0_3 := Lib.hid c0_3
  have Hc0_4 := Lib.hid c0_4
  have HbG_0 := Lib.hid bG_0
  have HbG_1 := Lib.hid bG_1
  have HbG_2 := Lib.hid bG_2
  clear a0_0 a0_1 a0_2 a0_3 a0_4 bW_0 bW_1 bW_2 c0_0 c0_1 c0_2 c0_3 c0_4 bG_0 bG_1 bG_2
  have HXG := Lib.hid hX
  clear hX
  go_wp2_with fail
  rw [← HXG.out]
  clear HXG
  clear La0_0 La0_1 La0_2 La0_3 La0_4 LbW_0 LbW_1 LbW_2 Lc0_0 Lc0_1 Lc0_2 Lc0_3 Lc0_4
  have a0_0 := Ha0_0.out
  have a0_1 := Ha0_1.out
  have a0_2 := Ha0_2.out
  have a0_3 := Ha0_3.out
  have a0_4 := Ha0_4.out
  have bW_0 := HbW_0.out
  have bW_1 := HbW_1.out
  have bW_2 := HbW_2.out
  have c0_0 := Hc0_0.out
  have c0_1 := Hc0_1.out
  have c0_2 := Hc0_2.out
  have c0_3 := Hc0_3.out
  have c0_4 := Hc0_4.out
  have bG_0 := HbG_0.out
  have bG_1 := HbG_1.out
  have bG_2 := HbG_2.out
  clear Ha0_0 Ha0_1 Ha0_2 Ha0_3 Ha0_4 HbW_0 HbW_1 HbW_2 Hc0_0 Hc0_1 Hc0_2 Hc0_3 Hc0_4 HbG_0 HbG_1 HbG_2
  go_wp2_with fail
  refine (eqPl_r _ _ _ _ _ _ r0 _ (HRG.out) (HRW.out) HSM.out).mono ?_
  rintro e w6 ⟨rfl, hb⟩
  have HSZ9 := Lib.hid (hb.size)
  replace a0_0 := fkeep hb a0_0
  replace a0_1 := fkeep hb a0_1
  replace a0_2 := fkeep hb a0_2
  replace a0_3 := fkeep hb a0_3
  replace a0_4 := fkeep hb a0_4
  replace bW_0 := fkeep hb bW_0
  replace bW_1 := fkeep hb bW_1
  replace bW_2 := fkeep hb bW_2
  replace c0_0 := fkeep hb c0_0
  replace c0_1 := fkeep hb c0_1
  replace c0_2 := fkeep hb c0_2
  replace c0_3 := fkeep hb c0_3
  replace c0_4 := fkeep hb c0_4
  replace bG_0 := fkeep hb bG_0
  replace bG_1 := fkeep hb bG_1
  replace bG_2 := fkeep hb bG_2
  have HF := Lib.hid (fstep HF.out hb)
  replace HRW := Lib.hid (HRW.out.keep hb)
  replace HZ0 := Lib.hid (HZ0.out.keep hb)
  replace HM0 := Lib.hid (HM0.out.keep hb)
  replace HRG := Lib.hid (HRG.out.keep hb)
  replace HRWG := Lib.hid (HRWG.out.keep hb)
  clear hb
  go_wp2
  have HSS : Fresh w6 w6 ∧ w6.cell? ⟨w4.heap.size, 0, none⟩ = some (.slice q0x m0x c0x) ∧ w6.cell? ⟨w4.heap.size, 1, none⟩ = some (.slice p0x k0x d0x) ∧ w6.cell? ⟨w4.heap.size, 2, none⟩ = some (.slice r0x i0x e0x) ∧ w6.cell? ⟨w4.heap.size, 3, none⟩ = some (.slice t0x n0x y0x) ∧ w6.cell? ⟨w4.heap.size, 4, none⟩ = some (.int .i64 j0x) ∧ w6.cell? ⟨w.heap.size, 0, none⟩ = some (.slice q0a m0a c0a) ∧ w6.cell? ⟨w.heap.size, 1, none⟩ = some (.slice p0a k0a d0a) ∧ w6.cell? ⟨w.heap.size, 2, none⟩ = some (.slice r0a i0a e0a) ∧ w6.cell? ⟨w.heap.size, 3, none⟩ = some (.slice t0a n0a y0a) ∧ w6.cell? ⟨w.heap.size, 4, none⟩ = some (.int .i64 j0a) := ⟨frefl _, c0_0, c0_1, c0_2, c0_3, c0_4, a0_0, a0_1, a0_2, a0_3, a0_4⟩
  go_region_held3 (fun w' => Fresh w6 w' ∧ w'.cell? ⟨w4.heap.size, 0, none⟩ = some (.slice q0x m0x c0x) ∧ w'.cell? ⟨w4.heap.size, 1, none⟩ = some (.slice p0x k0x d0x) ∧ w'.cell? ⟨w4.heap.size, 2, none⟩ = some (.slice r0x i0x e0x) ∧ w'.cell? ⟨w4.heap.size, 3, none⟩ = some (.slice t0x n0x y0x) ∧ w'.cell? ⟨w4.heap.size, 4, none⟩ = some (.int .i64 j0x) ∧ w'.cell? ⟨w.heap.size, 0, none⟩ = some (.slice q0a m0a c0a) ∧ w'.cell? ⟨w.heap.size, 1, none⟩ = some (.slice p0a k0a d0a) ∧ w'.cell? ⟨w.heap.size, 2, none⟩ = some (.slice r0a i0a e0a) ∧ w'.cell? ⟨w.heap.size, 3, none⟩ = some (.slice t0a n0a y0a) ∧ w'.cell? ⟨w.heap.size, 4, none⟩ = some (.int .i64 j0a))
    (first | assumption | exact keepc10 (by assumption) (by assumption) | exact keepc10 (by assumption) (fdrew (frefl _)) | exact keepc10 (by assumption) (frefl _))
    (first | (go_at_call 11; refine (toSd_k _ x0 _ (HI0.out.keep (fstep HF.out (And.left (by assumption))))).mono ?_; rintro e w7 ⟨t0, rfl, hy, hb10⟩; have HT0 := Lib.hid hy; clear hy) | (go_at_call 14; refine (eqSd_k _ _ x0 _ (HZ0.out.keep (And.left (by assumption))) HT0.out).mono ?_; rintro e w8 ⟨rfl, hb11⟩))
  have hb : Fresh w6 w8 := fstep (fstep (fdrew (frefl _)) hb10) hb11
  clear hb10 hb11 HSS HT0
  have HSZ10 := Lib.hid (hb.size)
  replace a0_0 := fkeep hb a0_0
  replace a0_1 := fkeep hb a0_1
  replace a0_2 := fkeep hb a0_2
  replace a0_3 := fkeep hb a0_3
  replace a0_4 := fkeep hb a0_4
  replace bW_0 := fkeep hb bW_0
  replace bW_1 := fkeep hb bW_1
  replace bW_2 := fkeep hb bW_2
  replace c0_0 := fkeep hb c0_0
  replace c0_1 := fkeep hb c0_1
  replace c0_2 := fkeep hb c0_2
  replace c0_3 := fkeep hb c0_3
  replace c0_4 := fkeep hb c0_4
  replace bG_0 := fkeep hb bG_0
  replace bG_1 := fkeep hb bG_1
  replace bG_2 := fkeep hb bG_2
  have HF := Lib.hid (fstep HF.out hb)
  replace HRW := Lib.hid (HRW.out.keep hb)
  replace HZ0 := Lib.hid (HZ0.out.keep hb)
  replace HM0 := Lib.hid (HM0.out.keep hb)
  replace HRG := Lib.hid (HRG.out.keep hb)
  replace HRWG := Lib.hid (HRWG.out.keep hb)
  clear hb
  clear HZ0
  go_wp2_with fail
  refine (markSd_m _ (XW.heap.size) (w4.heap.size) 1 _ HM0.out (by have s0 := HSZ0.out; have s1 := HSZ1.out; have s2 := HSZ2.out; have s3 := HSZ3.out; have s4 := HSZ4.out; have s5 := HSZ5.out; have s6 := HSZ6.out; have s7 := HSZ7.out; have s8 := HSZ8.out; have s9 := HSZ9.out; have s10 := HSZ10.out; omega) (by have s0 := HSZ0.out; have s1 := HSZ1.out; have s2 := HSZ2.out; have s3 := HSZ3.out; have s4 := HSZ4.out; have s5 := HSZ5.out; have s6 := HSZ6.out; have s7 := HSZ7.out; have s8 := HSZ8.out; have s9 := HSZ9.out; have s10 := HSZ10.out; omega) (by omega) (by omega)).mono ?_
  rintro e w9 ⟨k0, rfl, hka0, hkb0, hb⟩
  clear HM0
  replace hkb0 : k0 ≤ 1 + 35184372088832 := hkb0
  have HSZ11 := Lib.hid (hb.low.size)
  replace a0_0 := Mk.cell hb (by first | exact Or.inl (by have s0 := HSZ0.out; have s1 := HSZ1.out; have s2 := HSZ2.out; have s3 := HSZ3.out; have s4 := HSZ4.out; have s5 := HSZ5.out; have s6 := HSZ6.out; have s7 := HSZ7.out; have s8 := HSZ8.out; have s9 := HSZ9.out; have s10 := HSZ10.out; have s11 := HSZ11.out; omega) | exact Or.inr (by have s0 := HSZ0.out; have s1 := HSZ1.out; have s2 := HSZ2.out; have s3 := HSZ3.out; have s4 := HSZ4.out; have s5 := HSZ5.out; have s6 := HSZ6.out; have s7 := HSZ7.out; have s8 := HSZ8.out; have s9 := HSZ9.out; have s10 := HSZ10.out; have s11 := HSZ11.out; omega)) a0_0
  replace a0_1 := Mk.cell hb (by first | exact Or.inl (by have s0 := HSZ0.out; have s1 := HSZ1.out; have s2 := HSZ2.out; have s3 := HSZ3.out; have s4 := HSZ4.out; have s5 := HSZ5.out; have s6 := HSZ6.out; have s7 := HSZ7.out; have s8 := HSZ8.out; have s9 := HSZ9.out; have s10 := HSZ10.out; have s11 := HSZ11.out; omega) | exact Or.inr (by have s0 := HSZ0.out; have s1 := HSZ1.out; have s2 := HSZ2.out; have s3 := HSZ3.out; have s4 := HSZ4.out; have s5 := HSZ5.out; have s6 := HSZ6.out; have s7 := HSZ7.out; have s8 := HSZ8.out; have s9 := HSZ9.out; have s10 := HSZ10.out; have s11 := HSZ11.out; omega)) a0_1
  replace a0_2 := Mk.cell hb (by first | exact Or.inl (by have s0 := HSZ0.out; have s1 := HSZ1.out; have s2 := HSZ2.out; have s3 := HSZ3.out; have s4 := HSZ4.out; have s5 := HSZ5.out; have s6 := HSZ6.out; have s7 := HSZ7.out; have s8 := HSZ8.out; have s9 := HSZ9.out; have s10 := HSZ10.out; have s11 := HSZ11.out; omega) | exact Or.inr (by have s0 := HSZ0.out; have s1 := HSZ1.out; have s2 := HSZ2.out; have s3 := HSZ3.out; have s4 := HSZ4.out; have s5 := HSZ5.out; have s6 := HSZ6.out; have s7 := HSZ7.out; have s8 := HSZ8.out; have s9 := HSZ9.out; have s10 := HSZ10.out; have s11 := HSZ11.out; omega)) a0_2
  replace a0_3 := Mk.cell hb (by first | exact Or.inl (by have s0 := HSZ0.out; have s1 := HSZ1.out; have s2 := HSZ2.out; have s3 := HSZ3.out; have s4 := HSZ4.out; have s5 := HSZ5.out; have s6 := HSZ6.out; have s7 := HSZ7.out; have s8 := HSZ8.out; have s9 := HSZ9.out; have s10 := HSZ10.out; have s11 := HSZ11.out; omega) | exact Or.inr (by have s0 := HSZ0.out; have s1 := HSZ1.out; have s2 := HSZ2.out; have s3 := HSZ3.out; have s4 := HSZ4.out; have s5 := HSZ5.out; have s6 := HSZ6.out; have s7 := HSZ7.out; have s8 := HSZ8.out; have s9 := HSZ9.out; have s10 := HSZ10.out; have s11 := HSZ11.out; omega)) a0_3
  replace a0_4 := Mk.cell hb (by first | exact Or.inl (by have s0 := HSZ0.out; have s1 := HSZ1.out; have s2 := HSZ2.out; have s3 := HSZ3.out; have s4 := HSZ4.out; have s5 := HSZ5.out; have s6 := HSZ6.out; have s7 := HSZ7.out; have s8 := HSZ8.out; have s9 := HSZ9.out; have s10 := HSZ10.out; have s11 := HSZ11.out; omega) | exact Or.inr (by have s0 := HSZ0.out; have s1 := HSZ1.out; have s2 := HSZ2.out; have s3 := HSZ3.out; have s4 := HSZ4.out; have s5 := HSZ5.out; have s6 := HSZ6.out; have s7 := HSZ7.out; have s8 := HSZ8.out; have s9 := HSZ9.out; have s10 := HSZ10.out; have s11 := HSZ11.out; omega)) a0_4
  replace bW_0 := Mk.cell hb (by first | exact Or.inl (by have s0 := HSZ0.out; have s1 := HSZ1.out; have s2 := HSZ2.out; have s3 := HSZ3.out; have s4 := HSZ4.out; have s5 := HSZ5.out; have s6 := HSZ6.out; have s7 := HSZ7.out; have s8 := HSZ8.out; have s9 := HSZ9.out; have s10 := HSZ10.out; have s11 := HSZ11.out; omega) | exact Or.inr (by have s0 := HSZ0.out; have s1 := HSZ1.out; have s2 := HSZ2.out; have s3 := HSZ3.out; have s4 := HSZ4.out; have s5 := HSZ5.out; have s6 := HSZ6.out; have s7 := HSZ7.out; have s8 := HSZ8.out; have s9 := HSZ9.out; have s10 := HSZ10.out; have s11 := HSZ11.out; omega)) bW_0
  replace bW_1 := Mk.cell hb (by first | exact Or.inl (by have s0 := HSZ0.out; have s1 := HSZ1.out; have s2 := HSZ2.out; have s3 := HSZ3.out; have s4 := HSZ4.out; have s5 := HSZ5.out; have s6 := HSZ6.out; have s7 := HSZ7.out; have s8 := HSZ8.out; have s9 := HSZ9.out; have s10 := HSZ10.out; have s11 := HSZ11.out; omega) | exact Or.inr (by have s0 := HSZ0.out; have s1 := HSZ1.out; have s2 := HSZ2.out; have s3 := HSZ3.out; have s4 := HSZ4.out; have s5 := HSZ5.out; have s6 := HSZ6.out; have s7 := HSZ7.out; have s8 := HSZ8.out; have s9 := HSZ9.out; have s10 := HSZ10.out; have s11 := HSZ11.out; omega)) bW_1
  replace bW_2 := Mk.cell hb (by first | exact Or.inl (by have s0 := HSZ0.out; have s1 := HSZ1.out; have s2 := HSZ2.out; have s3 := HSZ3.out; have s4 := HSZ4.out; have s5 := HSZ5.out; have s6 := HSZ6.out; have s7 := HSZ7.out; have s8 := HSZ8.out; have s9 := HSZ9.out; have s10 := HSZ10.out; have s11 := HSZ11.out; omega) | exact Or.inr (by have s0 := HSZ0.out; have s1 := HSZ1.out; have s2 := HSZ2.out; have s3 := HSZ3.out; have s4 := HSZ4.out; have s5 := HSZ5.out; have s6 := HSZ6.out; have s7 := HSZ7.out; have s8 := HSZ8.out; have s9 := HSZ9.out; have s10 := HSZ10.out; have s11 := HSZ11.out; omega)) bW_2
  replace c0_0 := Mk.cell hb (by first | exact Or.inl (by have s0 := HSZ0.out; have s1 := HSZ1.out; have s2 := HSZ2.out; have s3 := HSZ3.out; have s4 := HSZ4.out; have s5 := HSZ5.out; have s6 := HSZ6.out; have s7 := HSZ7.out; have s8 := HSZ8.out; have s9 := HSZ9.out; have s10 := HSZ10.out; have s11 := HSZ11.out; omega) | exact Or.inr (by have s0 := HSZ0.out; have s1 := HSZ1.out; have s2 := HSZ2.out; have s3 := HSZ3.out; have s4 := HSZ4.out; have s5 := HSZ5.out; have s6 := HSZ6.out; have s7 := HSZ7.out; have s8 := HSZ8.out; have s9 := HSZ9.out; have s10 := HSZ10.out; have s11 := HSZ11.out; omega)) c0_0
  replace c0_1 := Mk.cell hb (by first | exact Or.inl (by have s0 := HSZ0.out; have s1 := HSZ1.out; have s2 := HSZ2.out; have s3 := HSZ3.out; have s4 := HSZ4.out; have s5 := HSZ5.out; have s6 := HSZ6.out; have s7 := HSZ7.out; have s8 := HSZ8.out; have s9 := HSZ9.out; have s10 := HSZ10.out; have s11 := HSZ11.out; omega) | exact Or.inr (by have s0 := HSZ0.out; have s1 := HSZ1.out; have s2 := HSZ2.out; have s3 := HSZ3.out; have s4 := HSZ4.out; have s5 := HSZ5.out; have s6 := HSZ6.out; have s7 := HSZ7.out; have s8 := HSZ8.out; have s9 := HSZ9.out; have s10 := HSZ10.out; have s11 := HSZ11.out; omega)) c0_1
  replace c0_2 := Mk.cell hb (by first | exact Or.inl (by have s0 := HSZ0.out; have s1 := HSZ1.out; have s2 := HSZ2.out; have s3 := HSZ3.out; have s4 := HSZ4.out; have s5 := HSZ5.out; have s6 := HSZ6.out; have s7 := HSZ7.out; have s8 := HSZ8.out; have s9 := HSZ9.out; have s10 := HSZ10.out; have s11 := HSZ11.out; omega) | exact Or.inr (by have s0 := HSZ0.out; have s1 := HSZ1.out; have s2 := HSZ2.out; have s3 := HSZ3.out; have s4 := HSZ4.out; have s5 := HSZ5.out; have s6 := HSZ6.out; have s7 := HSZ7.out; have s8 := HSZ8.out; have s9 := HSZ9.out; have s10 := HSZ10.out; have s11 := HSZ11.out; omega)) c0_2
  replace c0_3 := Mk.cell hb (by first | exact Or.inl (by have s0 := HSZ0.out; have s1 := HSZ1.out; have s2 := HSZ2.out; have s3 := HSZ3.out; have s4 := HSZ4.out; have s5 := HSZ5.out; have s6 := HSZ6.out; have s7 := HSZ7.out; have s8 := HSZ8.out; have s9 := HSZ9.out; have s10 := HSZ10.out; have s11 := HSZ11.out; omega) | exact Or.inr (by have s0 := HSZ0.out; have s1 := HSZ1.out; have s2 := HSZ2.out; have s3 := HSZ3.out; have s4 := HSZ4.out; have s5 := HSZ5.out; have s6 := HSZ6.out; have s7 := HSZ7.out; have s8 := HSZ8.out; have s9 := HSZ9.out; have s10 := HSZ10.out; have s11 := HSZ11.out; omega)) c0_3
  replace c0_4 := Mk.cell hb (by first | exact Or.inl (by have s0 := HSZ0.out; have s1 := HSZ1.out; have s2 := HSZ2.out; have s3 := HSZ3.out; have s4 := HSZ4.out; have s5 := HSZ5.out; have s6 := HSZ6.out; have s7 := HSZ7.out; have s8 := HSZ8.out; have s9 := HSZ9.out; have s10 := HSZ10.out; have s11 := HSZ11.out; omega) | exact Or.inr (by have s0 := HSZ0.out; have s1 := HSZ1.out; have s2 := HSZ2.out; have s3 := HSZ3.out; have s4 := HSZ4.out; have s5 := HSZ5.out; have s6 := HSZ6.out; have s7 := HSZ7.out; have s8 := HSZ8.out; have s9 := HSZ9.out; have s10 := HSZ10.out; have s11 := HSZ11.out; omega)) c0_4
  replace bG_0 := Mk.cell hb (by first | exact Or.inl (by have s0 := HSZ0.out; have s1 := HSZ1.out; have s2 := HSZ2.out; have s3 := HSZ3.out; have s4 := HSZ4.out; have s5 := HSZ5.out; have s6 := HSZ6.out; have s7 := HSZ7.out; have s8 := HSZ8.out; have s9 := HSZ9.out; have s10 := HSZ10.out; have s11 := HSZ11.out; omega) | exact Or.inr (by have s0 := HSZ0.out; have s1 := HSZ1.out; have s2 := HSZ2.out; have s3 := HSZ3.out; have s4 := HSZ4.out; have s5 := HSZ5.out; have s6 := HSZ6.out; have s7 := HSZ7.out; have s8 := HSZ8.out; have s9 := HSZ9.out; have s10 := HSZ10.out; have s11 := HSZ11.out; omega)) bG_0
  replace bG_1 := Mk.cell hb (by first | exact Or.inl (by have s0 := HSZ0.out; have s1 := HSZ1.out; have s2 := HSZ2.out; have s3 := HSZ3.out; have s4 := HSZ4.out; have s5 := HSZ5.out; have s6 := HSZ6.out; have s7 := HSZ7.out; have s8 := HSZ8.out; have s9 := HSZ9.out; have s10 := HSZ10.out; have s11 := HSZ11.out; omega) | exact Or.inr (by have s0 := HSZ0.out; have s1 := HSZ1.out; have s2 := HSZ2.out; have s3 := HSZ3.out; have s4 := HSZ4.out; have s5 := HSZ5.out; have s6 := HSZ6.out; have s7 := HSZ7.out; have s8 := HSZ8.out; have s9 := HSZ9.out; have s10 := HSZ10.out; have s11 := HSZ11.out; omega)) bG_1
  replace bG_2 := Mk.cell hb (by first | exact Or.inl (by have s0 := HSZ0.out; have s1 := HSZ1.out; have s2 := HSZ2.out; have s3 := HSZ3.out; have s4 := HSZ4.out; have s5 := HSZ5.out; have s6 := HSZ6.out; have s7 := HSZ7.out; have s8 := HSZ8.out; have s9 := HSZ9.out; have s10 := HSZ10.out; have s11 := HSZ11.out; omega) | exact Or.inr (by have s0 := HSZ0.out; have s1 := HSZ1.out; have s2 := HSZ2.out; have s3 := HSZ3.out; have s4 := HSZ4.out; have s5 := HSZ5.out; have s6 := HSZ6.out; have s7 := HSZ7.out; have s8 := HSZ8.out; have s9 := HSZ9.out; have s10 := HSZ10.out; have s11 := HSZ11.out; omega)) bG_2
  have HF := Lib.hid (Mk.fresh_of HF.out hb (by have s0 := HSZ0.out; have s1 := HSZ1.out; have s2 := HSZ2.out; have s3 := HSZ3.out; have s4 := HSZ4.out; have s5 := HSZ5.out; have s6 := HSZ6.out; have s7 := HSZ7.out; have s8 := HSZ8.out; have s9 := HSZ9.out; have s10 := HSZ10.out; have s11 := HSZ11.out; omega))
  replace HRW := Lib.hid (HRW.out.mk hb (by first | exact Or.inl (by have s0 := HSZ0.out; have s1 := HSZ1.out; have s2 := HSZ2.out; have s3 := HSZ3.out; have s4 := HSZ4.out; have s5 := HSZ5.out; have s6 := HSZ6.out; have s7 := HSZ7.out; have s8 := HSZ8.out; have s9 := HSZ9.out; have s10 := HSZ10.out; have s11 := HSZ11.out; omega) | exact Or.inr (by have s0 := HSZ0.out; have s1 := HSZ1.out; have s2 := HSZ2.out; have s3 := HSZ3.out; have s4 := HSZ4.out; have s5 := HSZ5.out; have s6 := HSZ6.out; have s7 := HSZ7.out; have s8 := HSZ8.out; have s9 := HSZ9.out; have s10 := HSZ10.out; have s11 := HSZ11.out; omega)))
  replace HRG := Lib.hid (HRG.out.mk hb (by first | exact Or.inl (by have s0 := HSZ0.out; have s1 := HSZ1.out; have s2 := HSZ2.out; have s3 := HSZ3.out; have s4 := HSZ4.out; have s5 := HSZ5.out; have s6 := HSZ6.out; have s7 := HSZ7.out; have s8 := HSZ8.out; have s9 := HSZ9.out; have s10 := HSZ10.out; have s11 := HSZ11.out; omega) | exact Or.inr (by have s0 := HSZ0.out; have s1 := HSZ1.out; have s2 := HSZ2.out; have s3 := HSZ3.out; have s4 := HSZ4.out; have s5 := HSZ5.out; have s6 := HSZ6.out; have s7 := HSZ7.out; have s8 := HSZ8.out; have s9 := HSZ9.out; have s10 := HSZ10.out; have s11 := HSZ11.out; omega)))
  replace HRWG := Lib.hid (hb.row _ _ _ HRWG.out (by decide))
  clear hb
  clear c0_0 c0_1 c0_2 c0_3 c0_4
  have hkn : (k0 < 0) = False := eq_false (by omega)
  go_wp2_with fail
  refine (eqPl_r _ _ _ _ _ _ r0 _ (HRG.out) (HRW.out) HSM.out).mono ?_
  rintro e w10 ⟨rfl, hb⟩
  have HSZ12 := Lib.hid (hb.size)
  replace a0_0 := fkeep hb a0_0
  replace a0_1 := fkeep hb a0_1
  replace a0_2 := fkeep hb a0_2
  replace a0_3 := fkeep hb a0_3
  replace a0_4 := fkeep hb a0_4
  replace bW_0 := fkeep hb bW_0
  replace bW_1 := fkeep hb bW_1
  replace bW_2 := fkeep hb bW_2
  replace bG_0 := fkeep hb bG_0
  replace bG_1 := fkeep hb bG_1
  replace bG_2 := fkeep hb bG_2
  have HF := Lib.hid (fstep HF.out hb)
  replace HRW := Lib.hid (HRW.out.keep hb)
  replace HRG := Lib.hid (HRG.out.keep hb)
  replace HRWG := Lib.hid (HRWG.out.keep hb)
  clear hb
  clear hkn hka0 hkb0
  go_wp2_with fail
  refine (markPl_r _ (Xx0.heap.size) r0 1 _ HRG.out.own (by have s0 := HSZ0.out; have s1 := HSZ1.out; have s2 := HSZ2.out; have s3 := HSZ3.out; have s4 := HSZ4.out; have s5 := HSZ5.out; have s6 := HSZ6.out; have s7 := HSZ7.out; have s8 := HSZ8.out; have s9 := HSZ9.out; have s10 := HSZ10.out; have s11 := HSZ11.out; have s12 := HSZ12.out; omega) HSM.out (by omega) (by omega)).mono ?_
  rintro e w11 ⟨N, rfl, ho, hb, hkk⟩
  have HG := Lib.hid ho
  clear ho HRG
  have HSZ13 := Lib.hid (hb.size)
  replace a0_0 := bkeep hb (by have s0 := HSZ0.out; have s1 := HSZ1.out; have s2 := HSZ2.out; have s3 := HSZ3.out; have s4 := HSZ4.out; have s5 := HSZ5.out; have s6 := HSZ6.out; have s7 := HSZ7.out; have s8 := HSZ8.out; have s9 := HSZ9.out; have s10 := HSZ10.out; have s11 := HSZ11.out; have s12 := HSZ12.out; have s13 := HSZ13.out; omega) a0_0
  replace a0_1 := bkeep hb (by have s0 := HSZ0.out; have s1 := HSZ1.out; have s2 := HSZ2.out; have s3 := HSZ3.out; have s4 := HSZ4.out; have s5 := HSZ5.out; have s6 := HSZ6.out; have s7 := HSZ7.out; have s8 := HSZ8.out; have s9 := HSZ9.out; have s10 := HSZ10.out; have s11 := HSZ11.out; have s12 := HSZ12.out; have s13 := HSZ13.out; omega) a0_1
  replace a0_2 := bkeep hb (by have s0 := HSZ0.out; have s1 := HSZ1.out; have s2 := HSZ2.out; have s3 := HSZ3.out; have s4 := HSZ4.out; have s5 := HSZ5.out; have s6 := HSZ6.out; have s7 := HSZ7.out; have s8 := HSZ8.out; have s9 := HSZ9.out; have s10 := HSZ10.out; have s11 := HSZ11.out; have s12 := HSZ12.out; have s13 := HSZ13.out; omega) a0_2
  replace a0_3 := bkeep hb (by have s0 := HSZ0.out; have s1 := HSZ1.out; have s2 := HSZ2.out; have s3 := HSZ3.out; have s4 := HSZ4.out; have s5 := HSZ5.out; have s6 := HSZ6.out; have s7 := HSZ7.out; have s8 := HSZ8.out; have s9 := HSZ9.out; have s10 := HSZ10.out; have s11 := HSZ11.out; have s12 := HSZ12.out; have s13 := HSZ13.out; omega) a0_3
  replace a0_4 := bkeep hb (by have s0 := HSZ0.out; have s1 := HSZ1.out; have s2 := HSZ2.out; have s3 := HSZ3.out; have s4 := HSZ4.out; have s5 := HSZ5.out; have s6 := HSZ6.out; have s7 := HSZ7.out; have s8 := HSZ8.out; have s9 := HSZ9.out; have s10 := HSZ10.out; have s11 := HSZ11.out; have s12 := HSZ12.out; have s13 := HSZ13.out; omega) a0_4
  replace bW_0 := bkeep hb (by have s0 := HSZ0.out; have s1 := HSZ1.out; have s2 := HSZ2.out; have s3 := HSZ3.out; have s4 := HSZ4.out; have s5 := HSZ5.out; have s6 := HSZ6.out; have s7 := HSZ7.out; have s8 := HSZ8.out; have s9 := HSZ9.out; have s10 := HSZ10.out; have s11 := HSZ11.out; have s12 := HSZ12.out; have s13 := HSZ13.out; omega) bW_0
  replace bW_1 := bkeep hb (by have s0 := HSZ0.out; have s1 := HSZ1.out; have s2 := HSZ2.out; have s3 := HSZ3.out; have s4 := HSZ4.out; have s5 := HSZ5.out; have s6 := HSZ6.out; have s7 := HSZ7.out; have s8 := HSZ8.out; have s9 := HSZ9.out; have s10 := HSZ10.out; have s11 := HSZ11.out; have s12 := HSZ12.out; have s13 := HSZ13.out; omega) bW_1
  replace bW_2 := bkeep hb (by have s0 := HSZ0.out; have s1 := HSZ1.out; have s2 := HSZ2.out; have s3 := HSZ3.out; have s4 := HSZ4.out; have s5 := HSZ5.out; have s6 := HSZ6.out; have s7 := HSZ7.out; have s8 := HSZ8.out; have s9 := HSZ9.out; have s10 := HSZ10.out; have s11 := HSZ11.out; have s12 := HSZ12.out; have s13 := HSZ13.out; omega) bW_2
  replace bG_0 := (hkk _ _ _ HRWG.out (by decide) (by decide) (by decide) (by decide) ).cell (i := 0) rfl
  replace bG_1 := (hkk _ _ _ HRWG.out (by decide) (by decide) (by decide) (by decide) ).cell (i := 1) rfl
  replace bG_2 := (hkk _ _ _ HRWG.out (by decide) (by decide) (by decide) (by decide) ).cell (i := 2) rfl
  have HF := Lib.hid (HF.out.trans (hb.mono (by have s0 := HSZ0.out; have s1 := HSZ1.out; have s2 := HSZ2.out; have s3 := HSZ3.out; have s4 := HSZ4.out; have s5 := HSZ5.out; have s6 := HSZ6.out; have s7 := HSZ7.out; have s8 := HSZ8.out; have s9 := HSZ9.out; have s10 := HSZ10.out; have s11 := HSZ11.out; have s12 := HSZ12.out; have s13 := HSZ13.out; omega)))
  replace HRW := Lib.hid (HRW.out.below hb (by have s0 := HSZ0.out; have s1 := HSZ1.out; have s2 := HSZ2.out; have s3 := HSZ3.out; have s4 := HSZ4.out; have s5 := HSZ5.out; have s6 := HSZ6.out; have s7 := HSZ7.out; have s8 := HSZ8.out; have s9 := HSZ9.out; have s10 := HSZ10.out; have s11 := HSZ11.out; have s12 := HSZ12.out; have s13 := HSZ13.out; omega))
  replace HRWG := Lib.hid (hkk _ _ _ HRWG.out (by decide) (by decide) (by decide) (by decide) )
  clear hb
  clear hkk HRWG
  go_wp2_with fail
  refine (heldPl_o _ _ r0 1 _ _ HG.out HSM.out (by omega) (by omega)).mono ?_
  rintro e w12 ⟨rfl, hb⟩
  have HSZ14 := Lib.hid (hb.size)
  replace a0_0 := fkeep hb a0_0
  replace a0_1 := fkeep hb a0_1
  replace a0_2 := fkeep hb a0_2
  replace a0_3 := fkeep hb a0_3
  replace a0_4 := fkeep hb a0_4
  replace bW_0 := fkeep hb bW_0
  replace bW_1 := fkeep hb bW_1
  replace bW_2 := fkeep hb bW_2
  replace bG_0 := fkeep hb bG_0
  replace bG_1 := fkeep hb bG_1
  replace bG_2 := fkeep hb bG_2
  have HF := Lib.hid (fstep HF.out hb)
  replace HRW := Lib.hid (HRW.out.keep hb)
  replace HG := Lib.hid (HG.out.keep hb)
  clear hb
  go_wp2_with fail
  refine (toSd_k _ x0 _ (HI0.out.keep HF.out)).mono ?_
  rintro e w13 ⟨u0, rfl, hy, hb⟩
  have HY0 := Lib.hid hy
  clear hy
  have HSZ15 := Lib.hid (hb.size)
  replace a0_0 := fkeep hb a0_0
  replace a0_1 := fkeep hb a0_1
  replace a0_2 := fkeep hb a0_2
  replace a0_3 := fkeep hb a0_3
  replace a0_4 := fkeep hb a0_4
  replace bW_0 := fkeep hb bW_0
  replace bW_1 := fkeep hb bW_1
  replace bW_2 := fkeep hb bW_2
  replace bG_0 := fkeep hb bG_0
  replace bG_1 := fkeep hb bG_1
  replace bG_2 := fkeep hb bG_2
  have HF := Lib.hid (fstep HF.out hb)
  replace HRW := Lib.hid (HRW.out.keep hb)
  replace HG := Lib.hid (HG.out.keep hb)
  clear hb
  go_wp2_with fail
  have hcc := implReleaseAll_any _ x0 _ HY0.out
  rw [← HR0.out, ← HR1.out] at hcc
  refine (hcc).mono ?_
  clear hcc
  rintro e w14 ⟨vH, rfl, how, hb⟩
  clear HY0
  obtain ⟨qH, mH, cH, fH, kH, dH, tH, iH, eH, hvv⟩ := how.shape
  subst hvv
  have HRH := Lib.hid (how.held.wide (Nat.zero_le _) (Nat.le_refl _))
  clear how
  have HSZ16 := Lib.hid (hb.size)
  replace a0_0 := fkeep hb a0_0
  replace a0_1 := fkeep hb a0_1
  replace a0_2 := fkeep hb a0_2
  replace a0_3 := fkeep hb a0_3
  replace a0_4 := fkeep hb a0_4
  replace bW_0 := fkeep hb bW_0
  replace bW_1 := fkeep hb bW_1
  replace bW_2 := fkeep hb bW_2
  replace bG_0 := fkeep hb bG_0
  replace bG_1 := fkeep hb bG_1
  replace bG_2 := fkeep hb bG_2
  have HF := Lib.hid (fstep HF.out hb)
  replace HRW := Lib.hid (HRW.out.keep hb)
  replace HG := Lib.hid (HG.out.keep hb)
  clear hb
  obtain ⟨XH, hX⟩ : ∃ X, X = w14.alloc (.cells #[.slice qH mH cH, .slice fH kH dH, .slice tH iH eH] 38) := ⟨_, rfl⟩
  have hb : Fresh w14 XH := by rw [hX]; exact fnew (frefl _) _
  have HSZ17 := Lib.hid (show XH.heap.size = w14.heap.size + 1 by rw [hX]; simp)
  have La0_0 := fkeep (fnew (frefl w14) (.cells #[.slice qH mH cH, .slice fH kH dH, .slice tH iH eH] 38)) a0_0
  have La0_1 := fkeep (fnew (frefl w14) (.cells #[.slice qH mH cH, .slice fH kH dH, .slice tH iH eH] 38)) a0_1
  have La0_2 := fkeep (fnew (frefl w14) (.cells #[.slice qH mH cH, .slice fH kH dH, .slice tH iH eH] 38)) a0_2
  have La0_3 := fkeep (fnew (frefl w14) (.cells #[.slice qH mH cH, .slice fH kH dH, .slice tH iH eH] 38)) a0_3
  have La0_4 := fkeep (fnew (frefl w14) (.cells #[.slice qH mH cH, .slice fH kH dH, .slice tH iH eH] 38)) a0_4
  have LbW_0 := fkeep (fnew (frefl w14) (.cells #[.slice qH mH cH, .slice fH kH dH, .slice tH iH eH] 38)) bW_0
  have LbW_1 := fkeep (fnew (frefl w14) (.cells #[.slice qH mH cH, .slice fH kH dH, .slice tH iH eH] 38)) bW_1
  have LbW_2 := fkeep (fnew (frefl w14) (.cells #[.slice qH mH cH, .slice fH kH dH, .slice tH iH eH] 38)) bW_2
  have LbG_0 := fkeep (fnew (frefl w14) (.cells #[.slice qH mH cH, .slice fH kH dH, .slice tH iH eH] 38)) bG_0
  have LbG_1 := fkeep (fnew (frefl w14) (.cells #[.slice qH mH cH, .slice fH kH dH, .slice tH iH eH] 38)) bG_1
  have LbG_2 := fkeep (fnew (frefl w14) (.cells #[.slice qH mH cH, .slice fH kH dH, .slice tH iH eH] 38)) bG_2
  have bH_0 : XH.cell? ⟨w14.heap.size, 0, none⟩ = some (.slice qH mH cH) := by rw [hX]; exact (RowAt.new w14 38 [.slice qH mH cH, .slice fH kH dH, .slice tH iH eH]).cell (i := 0) rfl
  have bH_1 : XH.cell? ⟨w14.heap.size, 1, none⟩ = some (.slice fH kH dH) := by rw [hX]; exact (RowAt.new w14 38 [.slice qH mH cH, .slice fH kH dH, .slice tH iH eH]).cell (i := 1) rfl
  have bH_2 : XH.cell? ⟨w14.heap.size, 2, none⟩ = some (.slice tH iH eH) := by rw [hX]; exact (RowAt.new w14 38 [.slice qH mH cH, .slice fH kH dH, .slice tH iH eH]).cell (i := 2) rfl
  replace a0_0 := fkeep hb a0_0
  replace a0_1 := fkeep hb a0_1
  replace a0_2 := fkeep hb a0_2
  replace a0_3 := fkeep hb a0_3
  replace a0_4 := fkeep hb a0_4
  replace bW_0 := fkeep hb bW_0
  replace bW_1 := fkeep hb bW_1
  replace bW_2 := fkeep hb bW_2
  replace bG_0 := fkeep hb bG_0
  replace bG_1 := fkeep hb bG_1
  replace bG_2 := fkeep hb bG_2
  have HF := Lib.hid (fstep HF.out hb)
  replace HRW := Lib.hid (HRW.out.keep hb)
  replace HG := Lib.hid (HG.out.keep hb)
  replace HRH := Lib.hid (HRH.out.keep hb)
  clear hb
  have Ha0_0 := Lib.hid a0_0
  have Ha0_1 := Lib.hid a0_1
  have Ha0_2 := Lib.hid a0_2
  have Ha0_3 := Lib.hid a0_3
  have Ha0_4 := Lib.hid a0_4
  have HbW_0 := Lib.hid bW_0
  have HbW_1 := Lib.hid bW_1
  have HbW_2 := Lib.hid bW_2
  have HbG_0 := Lib.hid bG_0
  have HbG_1 := Lib.hid bG_1
  have HbG_2 := Lib.hid bG_2
  have HbH_0 := Lib.hid bH_0
  have HbH_1 := Lib.hid bH_1
  have HbH_2 := Lib.hid bH_2
  clear a0_0 a0_1 a0_2 a0_3 a0_4 bW_0 bW_1 bW_2 bG_0 bG_1 bG_2 bH_0 bH_1 bH_2
  have HXH := Lib.hid hX
  clear hX
  go_wp2_with fail
  rw [← HXH.out]
  clear HXH
  clear La0_0 La0_1 La0_2 La0_3 La0_4 LbW_0 LbW_1 LbW_2 LbG_0 LbG_1 LbG_2
  have a0_0 := Ha0_0.out
  have a0_1 := Ha0_1.out
  have a0_2 := Ha0_2.out
  have a0_3 := Ha0_3.out
  have a0_4 := Ha0_4.out
  have bW_0 := HbW_0.out
  have bW_1 := HbW_1.out
  have bW_2 := HbW_2.out
  have bG_0 := HbG_0.out
  have bG_1 := HbG_1.out
  have bG_2 := HbG_2.out
  have bH_0 := HbH_0.out
  have bH_1 := HbH_1.out
  have bH_2 := HbH_2.out
  clear Ha0_0 Ha0_1 Ha0_2 Ha0_3 Ha0_4 HbW_0 HbW_1 HbW_2 HbG_0 HbG_1 HbG_2 HbH_0 HbH_1 HbH_2
  go_wp2_with fail
  refine (eqPl_r _ _ _ _ _ _ r0 _ (HRH.out) (HRW.out) HSM.out).mono ?_
  rintro e w15 ⟨rfl, hb⟩
  have HSZ18 := Lib.hid (hb.size)
  replace a0_0 := fkeep hb a0_0
  replace a0_1 := fkeep hb a0_1
  replace a0_2 := fkeep hb a0_2
  replace a0_3 := fkeep hb a0_3
  replace a0_4 := fkeep hb a0_4
  replace bW_0 := fkeep hb bW_0
  replace bW_1 := fkeep hb bW_1
  replace bW_2 := fkeep hb bW_2
  replace bG_0 := fkeep hb bG_0
  replace bG_1 := fkeep hb bG_1
  replace bG_2 := fkeep hb bG_2
  replace bH_0 := fkeep hb bH_0
  replace bH_1 := fkeep hb bH_1
  replace bH_2 := fkeep hb bH_2
  have HF := Lib.hid (fstep HF.out hb)
  replace HRW := Lib.hid (HRW.out.keep hb)
  replace HG := Lib.hid (HG.out.keep hb)
  replace HRH := Lib.hid (HRH.out.keep hb)
  clear hb
  go_wp2_with fail
  refine (heldPl_o _ _ r0 1 _ _ HG.out HSM.out (by omega) (by omega)).mono ?_
  rintro e w16 ⟨rfl, hb⟩
  have HSZ19 := Lib.hid (hb.size)
  replace a0_0 := fkeep hb a0_0
  replace a0_1 := fkeep hb a0_1
  replace a0_2 := fkeep hb a0_2
  replace a0_3 := fkeep hb a0_3
  replace a0_4 := fkeep hb a0_4
  replace bW_0 := fkeep hb bW_0
  replace bW_1 := fkeep hb bW_1
  replace bW_2 := fkeep hb bW_2
  replace bG_0 := fkeep hb bG_0
  replace bG_1 := fkeep hb bG_1
  replace bG_2 := fkeep hb bG_2
  replace bH_0 := fkeep hb bH_0
  replace bH_1 := fkeep hb bH_1
  replace bH_2 := fkeep hb bH_2
  have HF := Lib.hid (fstep HF.out hb)
  replace HRW := Lib.hid (HRW.out.keep hb)
  replace HG := Lib.hid (HG.out.keep hb)
  replace HRH := Lib.hid (HRH.out.keep hb)
  clear hb
  go_wp2
  go_ret
  exact ⟨rfl, HF.out⟩
end Go.Proofs.YteckjlkhopkogaaGreat
