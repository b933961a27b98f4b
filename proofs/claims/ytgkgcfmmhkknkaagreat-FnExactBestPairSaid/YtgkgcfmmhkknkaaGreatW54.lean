/- The walk of FnExactBestPair. -/
import Derived.Test.YtgkgcfmmhkknkaaGreatBp4
import Derived.Test.YtgkgcfmmhkknkaaGreatKm
import Derived.Test.YtgkgcfmmhkknkaaGreatU2
import Derived.Test.YtgkgcfmmhkknkaaGreatU1
import Derived.Deep.RegionHeld3
import Derived.Deep.DeepCutAuto
namespace Go.Proofs.YtgkgcfmmhkknkaaGreat
open Go.RowKit Go.PlainAid

set_option maxHeartbeats 4000000 in
set_option maxRecDepth 100000 in
theorem law_BestPair (v0 : Value) (x0 : Net) (x1 : Int) (x2 : Int) (x3 : Int) (w : World) (h0 : NetRaw w v0 x0) (bx1 : -9223372036854775808 ≤ x1 ∧ x1 ≤ 9223372036854775807) (bx2 : -9223372036854775808 ≤ x2 ∧ x2 ≤ 9223372036854775807) (bx3 : -9223372036854775808 ≤ x3 ∧ x3 ≤ 9223372036854775807) :
    Calls Tryz.prog 7 #[v0, .int .i64 x1, .int .i64 x2, .int .i64 x3] w fun e w' => e = .returned (.bool true) ∧ Fresh w w' := by
  obtain ⟨bl1, bh1⟩ := bx1
  obtain ⟨bl2, bh2⟩ := bx2
  obtain ⟨bl3, bh3⟩ := bx3
  obtain ⟨q0a, m0a, c0a, p0a, k0a, d0a, hv0⟩ := h0.shape
  subst hv0
  have HI0 := Lib.hid h0
  clear h0
  obtain ⟨r0, hr0⟩ : ∃ r0, r0 = (bestF x0 x1 x2 x3).1 := ⟨_, rfl⟩
  have HR0 := Lib.hid hr0
  clear hr0
  obtain ⟨r1, hr1⟩ : ∃ r1, r1 = (bestF x0 x1 x2 x3).2.1 := ⟨_, rfl⟩
  have HR1 := Lib.hid hr1
  clear hr1
  obtain ⟨r2, hr2⟩ : ∃ r2, r2 = (bestF x0 x1 x2 x3).2.2.1 := ⟨_, rfl⟩
  have HR2 := Lib.hid hr2
  clear hr2
  obtain ⟨r3, hr3⟩ : ∃ r3, r3 = (bestF x0 x1 x2 x3).2.2.2 := ⟨_, rfl⟩
  have HR3 := Lib.hid hr3
  clear hr3
  obtain ⟨B0, hB0⟩ : ∃ B, B = w.alloc (.cells #[.slice q0a m0a c0a, .slice p0a k0a d0a] 25) := ⟨_, rfl⟩
  have hz0 : B0.heap.size = w.heap.size + 1 := by rw [hB0]; simp
  have hf0 : Fresh w B0 := by rw [hB0]; exact fnew (frefl _) _
  have hrow0 : RowAt B0 w.heap.size 25 [.slice q0a m0a c0a, .slice p0a k0a d0a] := by rw [hB0]; exact RowAt.new _ _ _
  have HF := Lib.hid (fstep (frefl w) hf0)
  have a0_0 := hrow0.cell (i := 0) rfl
  have a0_1 := hrow0.cell (i := 1) rfl
  have HB := Lib.hid (And.intro hB0 trivial)
  clear hB0 hz0 hf0 hrow0
  go_enter Tryz.func7, Tryz.ntmps7
  go_wp2_with fail
  rw [← HB.out.1]
  clear HB
  refine (szNetwork_any _ x0 1048576 _ (NetRaw.keep HI0.out HF.out) (by omega) (by omega)).mono ?_
  rintro e w1 ⟨l0, rfl, l00, l01, hsm, hb⟩
  have HS0 := Lib.hid hsm
  clear hsm
  replace a0_0 := fkeep hb a0_0
  replace a0_1 := fkeep hb a0_1
  have HF := Lib.hid (fstep HF.out hb)
  clear hb
  by_cases hneg0 : l0 < 0
  · go_wp2
    go_ret
    exact ⟨rfl, HF.out⟩
  replace HI0 := Lib.hid (NetRaw.small HI0.out (HS0.out (by omega)))
  clear HS0
  have hlen := bestF_small x0 x1 x2 x3
  rw [← HR0.out, ← HR1.out] at hlen
  have HSM := Lib.hid hlen
  clear hlen
  have HSZ0 := Lib.hid HF.out.size
  have HSZ1 := Lib.hid (World.block_lt_of_cell? _ _ a0_0)
  go_wp2_with fail
  refine (toNet_k _ x0 _ (HI0.out.keep HF.out)).mono ?_
  rintro e w2 ⟨y0, rfl, hy, hb⟩
  have HY0 := Lib.hid hy
  clear hy
  have HSZ2 := Lib.hid (hb.size)
  replace a0_0 := fkeep hb a0_0
  replace a0_1 := fkeep hb a0_1
  have HF := Lib.hid (fstep HF.out hb)
  clear hb
  go_wp2_with fail
  have hcc := specBestPair_l _ x0 x1 x2 x3 _ HY0.out
  rw [← HR0.out, ← HR1.out, ← HR2.out, ← HR3.out] at hcc
  refine (hcc).mono ?_
  clear hcc
  rintro e w3 ⟨vWa, vWb, rfl, how, hb⟩
  clear HY0
  obtain ⟨howa, howb, hap⟩ := how
  obtain ⟨sWa, qWa, mWa, cWa, hvv⟩ := howa.shape
  subst hvv
  obtain ⟨sWb, qWb, mWb, cWb, hvv⟩ := howb.shape
  subst hvv
  have HRWa := Lib.hid (howa.held.wide (Nat.zero_le _) (Nat.le_refl _))
  have HRWb := Lib.hid (howb.held.wide (Nat.zero_le _) (Nat.le_refl _))
  clear howa howb hap
  have HSZ3 := Lib.hid (hb.size)
  replace a0_0 := fkeep hb a0_0
  replace a0_1 := fkeep hb a0_1
  have HF := Lib.hid (fstep HF.out hb)
  clear hb
  obtain ⟨XWa, hXa⟩ : ∃ X, X = w3.alloc (.cells #[.int .i64 sWa, .slice qWa mWa cWa] 47) := ⟨_, rfl⟩
  obtain ⟨XWb, hXb⟩ : ∃ X, X = XWa.alloc (.cells #[.int .i64 sWb, .slice qWb mWb cWb] 47) := ⟨_, rfl⟩
  have hza : XWa.heap.size = w3.heap.size + 1 := by rw [hXa]; simp
  have hba : Fresh w3 XWa := by rw [hXa]; exact fnew (frefl _) _
  have hbb : Fresh XWa XWb := by rw [hXb]; exact fnew (frefl _) _
  have hb : Fresh w3 XWb := fstep hba hbb
  have HSZ4 := Lib.hid (show XWb.heap.size = w3.heap.size + 1 + 1 by rw [hXb, ← hza]; simp)
  have La0_0 := fkeep (fnew (fnew (frefl w3) (.cells #[.int .i64 sWa, .slice qWa mWa cWa] 47)) (.cells #[.int .i64 sWb, .slice qWb mWb cWb] 47)) a0_0
  have La0_1 := fkeep (fnew (fnew (frefl w3) (.cells #[.int .i64 sWa, .slice qWa mWa cWa] 47)) (.cells #[.int .i64 sWb, .slice qWb mWb cWb] 47)) a0_1
  have hrA : RowAt XWb w3.heap.size 47 [.int .i64 sWa, .slice qWa mWa cWa] := by have h := RowAt.new w3 47 [.int .i64 sWa, .slice qWa mWa cWa]; rw [← hXa] at h; exact h.keep hbb
  have hrB : RowAt XWb (w3.heap.size + 1) 47 [.int .i64 sWb, .slice qWb mWb cWb] := by have h := RowAt.new XWa 47 [.int .i64 sWb, .slice qWb mWb cWb]; rw [← hXb, hza] at h; exact h
  have bWa_0 := hrA.cell (i := 0) rfl
  have bWa_1 := hrA.cell (i := 1) rfl
  have bWb_0 := hrB.cell (i := 0) rfl
  have bWb_1 := hrB.cell (i := 1) rfl
  replace a0_0 := fkeep hb a0_0
  replace a0_1 := fkeep hb a0_1
  have HF := Lib.hid (fstep HF.out hb)
  replace HRWa := Lib.hid (HRWa.out.keep hb)
  replace HRWb := Lib.hid (HRWb.out.keep hb)
  clear hb
  have Ha0_0 := Lib.hid a0_0
  have Ha0_1 := Lib.hid a0_1
  have HbWa_0 := Lib.hid bWa_0
  have HbWa_1 := Lib.hid bWa_1
  have HbWb_0 := Lib.hid bWb_0
  have HbWb_1 := Lib.hid bWb_1
  clear a0_0 a0_1 bWa_0 bWa_1 bWb_0 bWb_1
  have HXWa := Lib.hid hXa
  have HXWb := Lib.hid hXb
  clear hXa hXb hza hba hbb hrA hrB
  go_wp2_with fail
  rw [← HXWa.out]
  clear HXWa
  rw [← HXWb.out]
  clear HXWb
  clear La0_0 La0_1
  have a0_0 := Ha0_0.out
  have a0_1 := Ha0_1.out
  have bWa_0 := HbWa_0.out
  have bWa_1 := HbWa_1.out
  have bWb_0 := HbWb_0.out
  have bWb_1 := HbWb_1.out
  clear Ha0_0 Ha0_1 HbWa_0 HbWa_1 HbWb_0 HbWb_1
  go_wp2_with fail
  refine (toNet_o _ x0 _ (HI0.out.keep HF.out)).mono ?_
  rintro e w4 ⟨z0, rfl, hy, hm, hb⟩
  have HZ0 := Lib.hid hy
  have HM0 := Lib.hid hm
  clear hy hm
  have HSZ5 := Lib.hid (hb.size)
  replace a0_0 := fkeep hb a0_0
  replace a0_1 := fkeep hb a0_1
  replace bWa_0 := fkeep hb bWa_0
  replace bWa_1 := fkeep hb bWa_1
  replace bWb_0 := fkeep hb bWb_0
  replace bWb_1 := fkeep hb bWb_1
  have HF := Lib.hid (fstep HF.out hb)
  replace HRWa := Lib.hid (HRWa.out.keep hb)
  replace HRWb := Lib.hid (HRWb.out.keep hb)
  clear hb
  obtain ⟨q0x, m0x, c0x, p0x, k0x, d0x, hv⟩ := HZ0.out.shape
  subst hv
  obtain ⟨Xx0, hX⟩ : ∃ X, X = w4.alloc (.cells #[.slice q0x m0x c0x, .slice p0x k0x d0x] 31) := ⟨_, rfl⟩
  have hb : Fresh w4 Xx0 := by rw [hX]; exact fnew (frefl _) _
  have HSZ6 := Lib.hid (show Xx0.heap.size = w4.heap.size + 1 by rw [hX]; simp)
  have La0_0 := fkeep (fnew (frefl w4) (.cells #[.slice q0x m0x c0x, .slice p0x k0x d0x] 31)) a0_0
  have La0_1 := fkeep (fnew (frefl w4) (.cells #[.slice q0x m0x c0x, .slice p0x k0x d0x] 31)) a0_1
  have LbWa_0 := fkeep (fnew (frefl w4) (.cells #[.slice q0x m0x c0x, .slice p0x k0x d0x] 31)) bWa_0
  have LbWa_1 := fkeep (fnew (frefl w4) (.cells #[.slice q0x m0x c0x, .slice p0x k0x d0x] 31)) bWa_1
  have LbWb_0 := fkeep (fnew (frefl w4) (.cells #[.slice q0x m0x c0x, .slice p0x k0x d0x] 31)) bWb_0
  have LbWb_1 := fkeep (fnew (frefl w4) (.cells #[.slice q0x m0x c0x, .slice p0x k0x d0x] 31)) bWb_1
  have c0_0 : Xx0.cell? ⟨w4.heap.size, 0, none⟩ = some (.slice q0x m0x c0x) := by rw [hX]; exact (RowAt.new w4 31 [.slice q0x m0x c0x, .slice p0x k0x d0x]).cell (i := 0) rfl
  have c0_1 : Xx0.cell? ⟨w4.heap.size, 1, none⟩ = some (.slice p0x k0x d0x) := by rw [hX]; exact (RowAt.new w4 31 [.slice q0x m0x c0x, .slice p0x k0x d0x]).cell (i := 1) rfl
  replace a0_0 := fkeep hb a0_0
  replace a0_1 := fkeep hb a0_1
  replace bWa_0 := fkeep hb bWa_0
  replace bWa_1 := fkeep hb bWa_1
  replace bWb_0 := fkeep hb bWb_0
  replace bWb_1 := fkeep hb bWb_1
  have HF := Lib.hid (fstep HF.out hb)
  replace HRWa := Lib.hid (HRWa.out.keep hb)
  replace HRWb := Lib.hid (HRWb.out.keep hb)
  replace HZ0 := Lib.hid (HZ0.out.keep hb)
  replace HM0 := Lib.hid (HM0.out.keep hb)
  clear hb
  have Ha0_0 := Lib.hid a0_0
  have Ha0_1 := Lib.hid a0_1
  have HbWa_0 := Lib.hid bWa_0
  have HbWa_1 := Lib.hid bWa_1
  have HbWb_0 := Lib.hid bWb_0
  have HbWb_1 := Lib.hid bWb_1
  have Hc0_0 := Lib.hid c0_0
  have Hc0_1 := Lib.hid c0_1
  clear a0_0 a0_1 bWa_0 bWa_1 bWb_0 bWb_1 c0_0 c0_1
  have HXx0 := Lib.hid hX
  clear hX
  go_wp2_with fail
  rw [← HXx0.out]
  clear HXx0
  clear La0_0 La0_1 LbWa_0 LbWa_1 LbWb_0 LbWb_1
  have a0_0 := Ha0_0.out
  have a0_1 := Ha0_1.out
  have bWa_0 := HbWa_0.out
  have bWa_1 := HbWa_1.out
  have bWb_0 := HbWb_0.out
  have bWb_1 := HbWb_1.out
  have c0_0 := Hc0_0.out
  have c0_1 := Hc0_1.out
  clear Ha0_0 Ha0_1 HbWa_0 HbWa_1 HbWb_0 HbWb_1 Hc0_0 Hc0_1
  go_wp2_with fail
  have hcc := implBestPair_l _ x0 x1 x2 x3 _ HZ0.out
  rw [← HR0.out, ← HR1.out, ← HR2.out, ← HR3.out] at hcc
  refine (hcc).mono ?_
  clear hcc
  rintro e w5 ⟨vGa, vGb, rfl, how, hb⟩
  obtain ⟨howa, howb, hap⟩ := how
  obtain ⟨sGa, qGa, mGa, cGa, hvv⟩ := howa.shape
  subst hvv
  obtain ⟨sGb, qGb, mGb, cGb, hvv⟩ := howb.shape
  subst hvv
  have HRGa := Lib.hid howa.held
  have HRGb := Lib.hid howb.held
  have HAP := Lib.hid hap
  clear howa howb hap
  have HSZ7 := Lib.hid (hb.size)
  replace a0_0 := fkeep hb a0_0
  replace a0_1 := fkeep hb a0_1
  replace bWa_0 := fkeep hb bWa_0
  replace bWa_1 := fkeep hb bWa_1
  replace bWb_0 := fkeep hb bWb_0
  replace bWb_1 := fkeep hb bWb_1
  replace c0_0 := fkeep hb c0_0
  replace c0_1 := fkeep hb c0_1
  have HF := Lib.hid (fstep HF.out hb)
  replace HRWa := Lib.hid (HRWa.out.keep hb)
  replace HRWb := Lib.hid (HRWb.out.keep hb)
  replace HZ0 := Lib.hid (HZ0.out.keep hb)
  replace HM0 := Lib.hid (HM0.out.keep hb)
  clear hb
  obtain ⟨XGa, hXa⟩ : ∃ X, X = w5.alloc (.cells #[.int .i64 sGa, .slice qGa mGa cGa] 47) := ⟨_, rfl⟩
  obtain ⟨XGb, hXb⟩ : ∃ X, X = XGa.alloc (.cells #[.int .i64 sGb, .slice qGb mGb cGb] 47) := ⟨_, rfl⟩
  have hza : XGa.heap.size = w5.heap.size + 1 := by rw [hXa]; simp
  have hba : Fresh w5 XGa := by rw [hXa]; exact fnew (frefl _) _
  have hbb : Fresh XGa XGb := by rw [hXb]; exact fnew (frefl _) _
  have hb : Fresh w5 XGb := fstep hba hbb
  have HSZ8 := Lib.hid (show XGb.heap.size = w5.heap.size + 1 + 1 by rw [hXb, ← hza]; simp)
  have La0_0 := fkeep (fnew (fnew (frefl w5) (.cells #[.int .i64 sGa, .slice qGa mGa cGa] 47)) (.cells #[.int .i64 sGb, .slice qGb mGb cGb] 47)) a0_0
  have La0_1 := fkeep (fnew (fnew (frefl w5) (.cells #[.int .i64 sGa, .slice qGa mGa cGa] 47)) (.cells #[.int .i64 sGb, .slice qGb mGb cGb] 47)) a0_1
  have LbWa_0 := fkeep (fnew (fnew (frefl w5) (.cells #[.int .i64 sGa, .slice qGa mGa cGa] 47)) (.cells #[.int .i64 sGb, .slice qGb mGb cGb] 47)) bWa_0
  have LbWa_1 := fkeep (fnew (fnew (frefl w5) (.cells #[.int .i64 sGa, .slice qGa mGa cGa] 47)) (.cells #[.int .i64 sGb, .slice qGb mGb cGb] 47)) bWa_1
  have LbWb_0 := fkeep (fnew (fnew (frefl w5) (.cells #[.int .i64 sGa, .slice qGa mGa cGa] 47)) (.cells #[.int .i64 sGb, .slice qGb mGb cGb] 47)) bWb_0
  have LbWb_1 := fkeep (fnew (fnew (frefl w5) (.cells #[.int .i64 sGa, .slice qGa mGa cGa] 47)) (.cells #[.int .i64 sGb, .slice qGb mGb cGb] 47)) bWb_1
  have Lc0_0 := fkeep (fnew (fnew (frefl w5) (.cells #[.int .i64 sGa, .slice qGa mGa cGa] 47)) (.cells #[.int .i64 sGb, .slice qGb mGb cGb] 47)) c0_0
  have Lc0_1 := fkeep (fnew (fnew (frefl w5) (.cells #[.int .i64 sGa, .slice qGa mGa cGa] 47)) (.cells #[.int .i64 sGb, .slice qGb mGb cGb] 47)) c0_1
  have hrA : RowAt XGb w5.heap.size 47 [.int .i64 sGa, .slice qGa mGa cGa] := by have h := RowAt.new w5 47 [.int .i64 sGa, .slice qGa mGa cGa]; rw [← hXa] at h; exact h.keep hbb
  have hrB : RowAt XGb (w5.heap.size + 1) 47 [.int .i64 sGb, .slice qGb mGb cGb] := by have h := RowAt.new XGa 47 [.int .i64 sGb, .slice qGb mGb cGb]; rw [← hXb, hza] at h; exact h
  have HRWGa := Lib.hid hrA
  have HRWGb := Lib.hid hrB
  have bGa_0 := hrA.cell (i := 0) rfl
  have bGa_1 := hrA.cell (i := 1) rfl
  have bGb_0 := hrB.cell (i := 0) rfl
  have bGb_1 := hrB.cell (i := 1) rfl
  replace a0_0 := fkeep hb a0_0
  replace a0_1 := fkeep hb a0_1
  replace bWa_0 := fkeep hb bWa_0
  replace bWa_1 := fkeep hb bWa_1
  replace bWb_0 := fkeep hb bWb_0
  replace bWb_1 := fkeep hb bWb_1
  replace c0_0 := fkeep hb c0_0
  replace c0_1 := fkeep hb c0_1
  have HF := Lib.hid (fstep HF.out hb)
  replace HRWa := Lib.hid (HRWa.out.keep hb)
  replace HRWb := Lib.hid (HRWb.out.keep hb)
  replace HZ0 := Lib.hid (HZ0.out.keep hb)
  replace HM0 := Lib.hid (HM0.out.keep hb)
  replace HRGa := Lib.hid (HRGa.out.keep hb)
  replace HRGb := Lib.hid (HRGb.out.keep hb)
  clear hb
  have Ha0_0 := Lib.hid a0_0
  have Ha0_1 := Lib.hid a0_1
  have HbWa_0 := Lib.hid bWa_0
  have HbWa_1 := Lib.hid bWa_1
  have HbWb_0 := Lib.hid bWb_0
  have HbWb_1 := Lib.hid bWb_1
  have Hc0_0 := Lib.hid c0_0
  have Hc0_1 := Lib.hid c0_1
  have HbGa_0 := Lib.hid bGa_0
  have HbGa_1 := Lib.hid bGa_1
  have HbGb_0 := Lib.hid bGb_0
  have HbGb_1 := Lib.hid bGb_1
  clear a0_0 a0_1 bWa_0 bWa_1 bWb_0 bWb_1 c0_0 c0_1 bGa_0 bGa_1 bGb_0 bGb_1
  have HXGa := Lib.hid hXa
  have HXGb := Lib.hid hXb
  clear hXa hXb hza hba hbb hrA hrB
  go_wp2_with fail
  rw [← HXGa.out]
  clear HXGa
  rw [← HXGb.out]
  clear HXGb
  clear La0_0 La0_1 LbWa_0 LbWa_1 LbWb_0 LbWb_1 Lc0_0 Lc0_1
  have a0_0 := Ha0_0.out
  have a0_1 := Ha0_1.out
  have bWa_0 := HbWa_0.out
  have bWa_1 := HbWa_1.out
  have bWb_0 := HbWb_0.out
  have bWb_1 := HbWb_1.out
  have c0_0 := Hc0_0.out
  have c0_1 := Hc0_1.out
  have bGa_0 := HbGa_0.out
  have bGa_1 := HbGa_1.out
  have bGb_0 := HbGb_0.out
  have bGb_1 := HbGb_1.out
  clear Ha0_0 Ha0_1 HbWa_0 HbWa_1 HbWb_0 HbWb_1 Hc0_0 Hc0_1 HbGa_0 HbGa_1 HbGb_0 HbGb_1
  go_wp2_with fail
  refine (eqRt_r _ _ _ _ _ _ r0 _ HRGa.out HRWa.out HSM.out.1).mono ?_
  rintro e w6 ⟨rfl, hb⟩
  have HSZ9 := Lib.hid (hb.size)
  replace a0_0 := fkeep hb a0_0
  replace a0_1 := fkeep hb a0_1
  replace bWa_0 := fkeep hb bWa_0
  replace bWa_1 := fkeep hb bWa_1
  replace bWb_0 := fkeep hb bWb_0
  replace bWb_1 := fkeep hb bWb_1
  replace c0_0 := fkeep hb c0_0
  replace c0_1 := fkeep hb c0_1
  replace bGa_0 := fkeep hb bGa_0
  replace bGa_1 := fkeep hb bGa_1
  replace bGb_0 := fkeep hb bGb_0
  replace bGb_1 := fkeep hb bGb_1
  have HF := Lib.hid (fstep HF.out hb)
  replace HRWa := Lib.hid (HRWa.out.keep hb)
  replace HRWb := Lib.hid (HRWb.out.keep hb)
  replace HZ0 := Lib.hid (HZ0.out.keep hb)
  replace HM0 := Lib.hid (HM0.out.keep hb)
  replace HRGa := Lib.hid (HRGa.out.keep hb)
  replace HRGb := Lib.hid (HRGb.out.keep hb)
  replace HRWGa := Lib.hid (HRWGa.out.keep hb)
  replace HRWGb := Lib.hid (HRWGb.out.keep hb)
  clear hb
  go_wp2_with fail
  refine (eqRt_r _ _ _ _ _ _ r1 _ HRGb.out HRWb.out HSM.out.2).mono ?_
  rintro e w7 ⟨rfl, hb⟩
  have HSZ10 := Lib.hid (hb.size)
  replace a0_0 := fkeep hb a0_0
  replace a0_1 := fkeep hb a0_1
  replace bWa_0 := fkeep hb bWa_0
  replace bWa_1 := fkeep hb bWa_1
  replace bWb_0 := fkeep hb bWb_0
  replace bWb_1 := fkeep hb bWb_1
  replace c0_0 := fkeep hb c0_0
  replace c0_1 := fkeep hb c0_1
  replace bGa_0 := fkeep hb bGa_0
  replace bGa_1 := fkeep hb bGa_1
  replace bGb_0 := fkeep hb bGb_0
  replace bGb_1 := fkeep hb bGb_1
  have HF := Lib.hid (fstep HF.out hb)
  replace HRWa := Lib.hid (HRWa.out.keep hb)
  replace HRWb := Lib.hid (HRWb.out.keep hb)
  replace HZ0 := Lib.hid (HZ0.out.keep hb)
  replace HM0 := Lib.hid (HM0.out.keep hb)
  replace HRGa := Lib.hid (HRGa.out.keep hb)
  replace HRGb := Lib.hid (HRGb.out.keep hb)
  replace HRWGa := Lib.hid (HRWGa.out.keep hb)
  replace HRWGb := Lib.hid (HRWGb.out.keep hb)
  clear hb
  go_wp2
  have HSS : Fresh w7 w7 ∧ w7.cell? ⟨w4.heap.size, 0, none⟩ = some (.slice q0x m0x c0x) ∧ w7.cell? ⟨w4.heap.size, 1, none⟩ = some (.slice p0x k0x d0x) ∧ w7.cell? ⟨w.heap.size, 0, none⟩ = some (.slice q0a m0a c0a) ∧ w7.cell? ⟨w.heap.size, 1, none⟩ = some (.slice p0a k0a d0a) := ⟨frefl _, c0_0, c0_1, a0_0, a0_1⟩
  go_region_held3 (fun w' => Fresh w7 w' ∧ w'.cell? ⟨w4.heap.size, 0, none⟩ = some (.slice q0x m0x c0x) ∧ w'.cell? ⟨w4.heap.size, 1, none⟩ = some (.slice p0x k0x d0x) ∧ w'.cell? ⟨w.heap.size, 0, none⟩ = some (.slice q0a m0a c0a) ∧ w'.cell? ⟨w.heap.size, 1, none⟩ = some (.slice p0a k0a d0a))
    (first | assumption | exact keepc4 (by assumption) (by assumption) | exact keepc4 (by assumption) (fdrew (frefl _)) | exact keepc4 (by assumption) (frefl _))
    (first | (go_at_call 13; refine (toNet_k _ x0 _ (HI0.out.keep (fstep HF.out (And.left (by assumption))))).mono ?_; rintro e w8 ⟨t0, rfl, hy, hb10⟩; have HT0 := Lib.hid hy; clear hy) | (go_at_call 15; refine (eqNetwork_same _ _ x0 _ (HZ0.out.keep (And.left (by assumption))) HT0.out).mono ?_; rintro e w9 ⟨rfl, hb11⟩))
  have hb : Fresh w7 w9 := fstep (fstep (fdrew (frefl _)) hb10) hb11
  clear hb10 hb11 HSS HT0
  have HSZ11 := Lib.hid (hb.size)
  replace a0_0 := fkeep hb a0_0
  replace a0_1 := fkeep hb a0_1
  replace bWa_0 := fkeep hb bWa_0
  replace bWa_1 := fkeep hb bWa_1
  replace bWb_0 := fkeep hb bWb_0
  replace bWb_1 := fkeep hb bWb_1
  replace c0_0 := fkeep hb c0_0
  replace c0_1 := fkeep hb c0_1
  replace bGa_0 := fkeep hb bGa_0
  replace bGa_1 := fkeep hb bGa_1
  replace bGb_0 := fkeep hb bGb_0
  replace bGb_1 := fkeep hb bGb_1
  have HF := Lib.hid (fstep HF.out hb)
  replace HRWa := Lib.hid (HRWa.out.keep hb)
  replace HRWb := Lib.hid (HRWb.out.keep hb)
  replace HZ0 := Lib.hid (HZ0.out.keep hb)
  replace HM0 := Lib.hid (HM0.out.keep hb)
  replace HRGa := Lib.hid (HRGa.out.keep hb)
  replace HRGb := Lib.hid (HRGb.out.keep hb)
  replace HRWGa := Lib.hid (HRWGa.out.keep hb)
  replace HRWGb := Lib.hid (HRWGb.out.keep hb)
  clear hb
  clear HZ0
  go_wp2_with fail
  refine (markNet_m _ (XWb.heap.size) (w4.heap.size) 1 _ HM0.out (by have s0 := HSZ0.out; have s1 := HSZ1.out; have s2 := HSZ2.out; have s3 := HSZ3.out; have s4 := HSZ4.out; have s5 := HSZ5.out; have s6 := HSZ6.out; have s7 := HSZ7.out; have s8 := HSZ8.out; have s9 := HSZ9.out; have s10 := HSZ10.out; have s11 := HSZ11.out; omega) (by have s0 := HSZ0.out; have s1 := HSZ1.out; have s2 := HSZ2.out; have s3 := HSZ3.out; have s4 := HSZ4.out; have s5 := HSZ5.out; have s6 := HSZ6.out; have s7 := HSZ7.out; have s8 := HSZ8.out; have s9 := HSZ9.out; have s10 := HSZ10.out; have s11 := HSZ11.out; omega) (by omega) (by omega)).mono ?_
  rintro e w10 ⟨k0, rfl, hka0, hkb0, hb⟩
  clear HM0
  replace hkb0 : k0 ≤ 1 + 8796093022208 := hkb0
  have HSZ12 := Lib.hid (hb.low.size)
  replace a0_0 := Mk.cell hb (by first | exact Or.inl (by have s0 := HSZ0.out; have s1 := HSZ1.out; have s2 := HSZ2.out; have s3 := HSZ3.out; have s4 := HSZ4.out; have s5 := HSZ5.out; have s6 := HSZ6.out; have s7 := HSZ7.out; have s8 := HSZ8.out; have s9 := HSZ9.out; have s10 := HSZ10.out; have s11 := HSZ11.out; have s12 := HSZ12.out; omega) | exact Or.inr (by have s0 := HSZ0.out; have s1 := HSZ1.out; have s2 := HSZ2.out; have s3 := HSZ3.out; have s4 := HSZ4.out; have s5 := HSZ5.out; have s6 := HSZ6.out; have s7 := HSZ7.out; have s8 := HSZ8.out; have s9 := HSZ9.out; have s10 := HSZ10.out; have s11 := HSZ11.out; have s12 := HSZ12.out; omega)) a0_0
  replace a0_1 := Mk.cell hb (by first | exact Or.inl (by have s0 := HSZ0.out; have s1 := HSZ1.out; have s2 := HSZ2.out; have s3 := HSZ3.out; have s4 := HSZ4.out; have s5 := HSZ5.out; have s6 := HSZ6.out; have s7 := HSZ7.out; have s8 := HSZ8.out; have s9 := HSZ9.out; have s10 := HSZ10.out; have s11 := HSZ11.out; have s12 := HSZ12.out; omega) | exact Or.inr (by have s0 := HSZ0.out; have s1 := HSZ1.out; have s2 := HSZ2.out; have s3 := HSZ3.out; have s4 := HSZ4.out; have s5 := HSZ5.out; have s6 := HSZ6.out; have s7 := HSZ7.out; have s8 := HSZ8.out; have s9 := HSZ9.out; have s10 := HSZ10.out; have s11 := HSZ11.out; have s12 := HSZ12.out; omega)) a0_1
  replace bWa_0 := Mk.cell hb (by first | exact Or.inl (by have s0 := HSZ0.out; have s1 := HSZ1.out; have s2 := HSZ2.out; have s3 := HSZ3.out; have s4 := HSZ4.out; have s5 := HSZ5.out; have s6 := HSZ6.out; have s7 := HSZ7.out; have s8 := HSZ8.out; have s9 := HSZ9.out; have s10 := HSZ10.out; have s11 := HSZ11.out; have s12 := HSZ12.out; omega) | exact Or.inr (by have s0 := HSZ0.out; have s1 := HSZ1.out; have s2 := HSZ2.out; have s3 := HSZ3.out; have s4 := HSZ4.out; have s5 := HSZ5.out; have s6 := HSZ6.out; have s7 := HSZ7.out; have s8 := HSZ8.out; have s9 := HSZ9.out; have s10 := HSZ10.out; have s11 := HSZ11.out; have s12 := HSZ12.out; omega)) bWa_0
  replace bWa_1 := Mk.cell hb (by first | exact Or.inl (by have s0 := HSZ0.out; have s1 := HSZ1.out; have s2 := HSZ2.out; have s3 := HSZ3.out; have s4 := HSZ4.out; have s5 := HSZ5.out; have s6 := HSZ6.out; have s7 := HSZ7.out; have s8 := HSZ8.out; have s9 := HSZ9.out; have s10 := HSZ10.out; have s11 := HSZ11.out; have s12 := HSZ12.out; omega) | exact Or.inr (by have s0 := HSZ0.out; have s1 := HSZ1.out; have s2 := HSZ2.out; have s3 := HSZ3.out; have s4 := HSZ4.out; have s5 := HSZ5.out; have s6 := HSZ6.out; have s7 := HSZ7.out; have s8 := HSZ8.out; have s9 := HSZ9.out; have s10 := HSZ10.out; have s11 := HSZ11.out; have s12 := HSZ12.out; omega)) bWa_1
  replace bWb_0 := Mk.cell hb (by first | exact Or.inl (by have s0 := HSZ0.out; have s1 := HSZ1.out; have s2 := HSZ2.out; have s3 := HSZ3.out; have s4 := HSZ4.out; have s5 := HSZ5.out; have s6 := HSZ6.out; have s7 := HSZ7.out; have s8 := HSZ8.out; have s9 := HSZ9.out; have s10 := HSZ10.out; have s11 := HSZ11.out; have s12 := HSZ12.out; omega) | exact Or.inr (by have s0 := HSZ0.out; have s1 := HSZ1.out; have s2 := HSZ2.out; have s3 := HSZ3.out; have s4 := HSZ4.out; have s5 := HSZ5.out; have s6 := HSZ6.out; have s7 := HSZ7.out; have s8 := HSZ8.out; have s9 := HSZ9.out; have s10 := HSZ10.out; have s11 := HSZ11.out; have s12 := HSZ12.out; omega)) bWb_0
  replace bWb_1 := Mk.cell hb (by first | exact Or.inl (by have s0 := HSZ0.out; have s1 := HSZ1.out; have s2 := HSZ2.out; have s3 := HSZ3.out; have s4 := HSZ4.out; have s5 := HSZ5.out; have s6 := HSZ6.out; have s7 := HSZ7.out; have s8 := HSZ8.out; have s9 := HSZ9.out; have s10 := HSZ10.out; have s11 := HSZ11.out; have s12 := HSZ12.out; omega) | exact Or.inr (by have s0 := HSZ0.out; have s1 := HSZ1.out; have s2 := HSZ2.out; have s3 := HSZ3.out; have s4 := HSZ4.out; have s5 := HSZ5.out; have s6 := HSZ6.out; have s7 := HSZ7.out; have s8 := HSZ8.out; have s9 := HSZ9.out; have s10 := HSZ10.out; have s11 := HSZ11.out; have s12 := HSZ12.out; omega)) bWb_1
  replace c0_0 := Mk.cell hb (by first | exact Or.inl (by have s0 := HSZ0.out; have s1 := HSZ1.out; have s2 := HSZ2.out; have s3 := HSZ3.out; have s4 := HSZ4.out; have s5 := HSZ5.out; have s6 := HSZ6.out; have s7 := HSZ7.out; have s8 := HSZ8.out; have s9 := HSZ9.out; have s10 := HSZ10.out; have s11 := HSZ11.out; have s12 := HSZ12.out; omega) | exact Or.inr (by have s0 := HSZ0.out; have s1 := HSZ1.out; have s2 := HSZ2.out; have s3 := HSZ3.out; have s4 := HSZ4.out; have s5 := HSZ5.out; have s6 := HSZ6.out; have s7 := HSZ7.out; have s8 := HSZ8.out; have s9 := HSZ9.out; have s10 := HSZ10.out; have s11 := HSZ11.out; have s12 := HSZ12.out; omega)) c0_0
  replace c0_1 := Mk.cell hb (by first | exact Or.inl (by have s0 := HSZ0.out; have s1 := HSZ1.out; have s2 := HSZ2.out; have s3 := HSZ3.out; have s4 := HSZ4.out; have s5 := HSZ5.out; have s6 := HSZ6.out; have s7 := HSZ7.out; have s8 := HSZ8.out; have s9 := HSZ9.out; have s10 := HSZ10.out; have s11 := HSZ11.out; have s12 := HSZ12.out; omega) | exact Or.inr (by have s0 := HSZ0.out; have s1 := HSZ1.out; have s2 := HSZ2.out; have s3 := HSZ3.out; have s4 := HSZ4.out; have s5 := HSZ5.out; have s6 := HSZ6.out; have s7 := HSZ7.out; have s8 := HSZ8.out; have s9 := HSZ9.out; have s10 := HSZ10.out; have s11 := HSZ11.out; have s12 := HSZ12.out; omega)) c0_1
  replace bGa_0 := Mk.cell hb (by first | exact Or.inl (by have s0 := HSZ0.out; have s1 := HSZ1.out; have s2 := HSZ2.out; have s3 := HSZ3.out; have s4 := HSZ4.out; have s5 := HSZ5.out; have s6 := HSZ6.out; have s7 := HSZ7.out; have s8 := HSZ8.out; have s9 := HSZ9.out; have s10 := HSZ10.out; have s11 := HSZ11.out; have s12 := HSZ12.out; omega) | exact Or.inr (by have s0 := HSZ0.out; have s1 := HSZ1.out; have s2 := HSZ2.out; have s3 := HSZ3.out; have s4 := HSZ4.out; have s5 := HSZ5.out; have s6 := HSZ6.out; have s7 := HSZ7.out; have s8 := HSZ8.out; have s9 := HSZ9.out; have s10 := HSZ10.out; have s11 := HSZ11.out; have s12 := HSZ12.out; omega)) bGa_0
  replace bGa_1 := Mk.cell hb (by first | exact Or.inl (by have s0 := HSZ0.out; have s1 := HSZ1.out; have s2 := HSZ2.out; have s3 := HSZ3.out; have s4 := HSZ4.out; have s5 := HSZ5.out; have s6 := HSZ6.out; have s7 := HSZ7.out; have s8 := HSZ8.out; have s9 := HSZ9.out; have s10 := HSZ10.out; have s11 := HSZ11.out; have s12 := HSZ12.out; omega) | exact Or.inr (by have s0 := HSZ0.out; have s1 := HSZ1.out; have s2 := HSZ2.out; have s3 := HSZ3.out; have s4 := HSZ4.out; have s5 := HSZ5.out; have s6 := HSZ6.out; have s7 := HSZ7.out; have s8 := HSZ8.out; have s9 := HSZ9.out; have s10 := HSZ10.out; have s11 := HSZ11.out; have s12 := HSZ12.out; omega)) bGa_1
  replace bGb_0 := Mk.cell hb (by first | exact Or.inl (by have s0 := HSZ0.out; have s1 := HSZ1.out; have s2 := HSZ2.out; have s3 := HSZ3.out; have s4 := HSZ4.out; have s5 := HSZ5.out; have s6 := HSZ6.out; have s7 := HSZ7.out; have s8 := HSZ8.out; have s9 := HSZ9.out; have s10 := HSZ10.out; have s11 := HSZ11.out; have s12 := HSZ12.out; omega) | exact Or.inr (by have s0 := HSZ0.out; have s1 := HSZ1.out; have s2 := HSZ2.out; have s3 := HSZ3.out; have s4 := HSZ4.out; have s5 := HSZ5.out; have s6 := HSZ6.out; have s7 := HSZ7.out; have s8 := HSZ8.out; have s9 := HSZ9.out; have s10 := HSZ10.out; have s11 := HSZ11.out; have s12 := HSZ12.out; omega)) bGb_0
  replace bGb_1 := Mk.cell hb (by first | exact Or.inl (by have s0 := HSZ0.out; have s1 := HSZ1.out; have s2 := HSZ2.out; have s3 := HSZ3.out; have s4 := HSZ4.out; have s5 := HSZ5.out; have s6 := HSZ6.out; have s7 := HSZ7.out; have s8 := HSZ8.out; have s9 := HSZ9.out; have s10 := HSZ10.out; have s11 := HSZ11.out; have s12 := HSZ12.out; omega) | exact Or.inr (by have s0 := HSZ0.out; have s1 := HSZ1.out; have s2 := HSZ2.out; have s3 := HSZ3.out; have s4 := HSZ4.out; have s5 := HSZ5.out; have s6 := HSZ6.out; have s7 := HSZ7.out; have s8 := HSZ8.out; have s9 := HSZ9.out; have s10 := HSZ10.out; have s11 := HSZ11.out; have s12 := HSZ12.out; omega)) bGb_1
  have HF := Lib.hid (Mk.fresh_of HF.out hb (by have s0 := HSZ0.out; have s1 := HSZ1.out; have s2 := HSZ2.out; have s3 := HSZ3.out; have s4 := HSZ4.out; have s5 := HSZ5.out; have s6 := HSZ6.out; have s7 := HSZ7.out; have s8 := HSZ8.out; have s9 := HSZ9.out; have s10 := HSZ10.out; have s11 := HSZ11.out; have s12 := HSZ12.out; omega))
  replace HRWa := Lib.hid (HRWa.out.mk hb (by first | exact Or.inl (by have s0 := HSZ0.out; have s1 := HSZ1.out; have s2 := HSZ2.out; have s3 := HSZ3.out; have s4 := HSZ4.out; have s5 := HSZ5.out; have s6 := HSZ6.out; have s7 := HSZ7.out; have s8 := HSZ8.out; have s9 := HSZ9.out; have s10 := HSZ10.out; have s11 := HSZ11.out; have s12 := HSZ12.out; omega) | exact Or.inr (by have s0 := HSZ0.out; have s1 := HSZ1.out; have s2 := HSZ2.out; have s3 := HSZ3.out; have s4 := HSZ4.out; have s5 := HSZ5.out; have s6 := HSZ6.out; have s7 := HSZ7.out; have s8 := HSZ8.out; have s9 := HSZ9.out; have s10 := HSZ10.out; have s11 := HSZ11.out; have s12 := HSZ12.out; omega)))
  replace HRWb := Lib.hid (HRWb.out.mk hb (by first | exact Or.inl (by have s0 := HSZ0.out; have s1 := HSZ1.out; have s2 := HSZ2.out; have s3 := HSZ3.out; have s4 := HSZ4.out; have s5 := HSZ5.out; have s6 := HSZ6.out; have s7 := HSZ7.out; have s8 := HSZ8.out; have s9 := HSZ9.out; have s10 := HSZ10.out; have s11 := HSZ11.out; have s12 := HSZ12.out; omega) | exact Or.inr (by have s0 := HSZ0.out; have s1 := HSZ1.out; have s2 := HSZ2.out; have s3 := HSZ3.out; have s4 := HSZ4.out; have s5 := HSZ5.out; have s6 := HSZ6.out; have s7 := HSZ7.out; have s8 := HSZ8.out; have s9 := HSZ9.out; have s10 := HSZ10.out; have s11 := HSZ11.out; have s12 := HSZ12.out; omega)))
  replace HRGa := Lib.hid (HRGa.out.mk hb (by first | exact Or.inl (by have s0 := HSZ0.out; have s1 := HSZ1.out; have s2 := HSZ2.out; have s3 := HSZ3.out; have s4 := HSZ4.out; have s5 := HSZ5.out; have s6 := HSZ6.out; have s7 := HSZ7.out; have s8 := HSZ8.out; have s9 := HSZ9.out; have s10 := HSZ10.out; have s11 := HSZ11.out; have s12 := HSZ12.out; omega) | exact Or.inr (by have s0 := HSZ0.out; have s1 := HSZ1.out; have s2 := HSZ2.out; have s3 := HSZ3.out; have s4 := HSZ4.out; have s5 := HSZ5.out; have s6 := HSZ6.out; have s7 := HSZ7.out; have s8 := HSZ8.out; have s9 := HSZ9.out; have s10 := HSZ10.out; have s11 := HSZ11.out; have s12 := HSZ12.out; omega)))
  replace HRGb := Lib.hid (HRGb.out.mk hb (by first | exact Or.inl (by have s0 := HSZ0.out; have s1 := HSZ1.out; have s2 := HSZ2.out; have s3 := HSZ3.out; have s4 := HSZ4.out; have s5 := HSZ5.out; have s6 := HSZ6.out; have s7 := HSZ7.out; have s8 := HSZ8.out; have s9 := HSZ9.out; have s10 := HSZ10.out; have s11 := HSZ11.out; have s12 := HSZ12.out; omega) | exact Or.inr (by have s0 := HSZ0.out; have s1 := HSZ1.out; have s2 := HSZ2.out; have s3 := HSZ3.out; have s4 := HSZ4.out; have s5 := HSZ5.out; have s6 := HSZ6.out; have s7 := HSZ7.out; have s8 := HSZ8.out; have s9 := HSZ9.out; have s10 := HSZ10.out; have s11 := HSZ11.out; have s12 := HSZ12.out; omega)))
  replace HRWGa := Lib.hid (hb.row _ _ _ HRWGa.out (by decide))
  replace HRWGb := Lib.hid (hb.row _ _ _ HRWGb.out (by decide))
  clear hb
  clear c0_0 c0_1
  have hkn : (k0 < 0) = False := eq_false (by omega)
  go_wp2_with fail
  refine (eqRt_r _ _ _ _ _ _ r0 _ HRGa.out HRWa.out HSM.out.1).mono ?_
  rintro e w11 ⟨rfl, hb⟩
  have HSZ13 := Lib.hid (hb.size)
  replace a0_0 := fkeep hb a0_0
  replace a0_1 := fkeep hb a0_1
  replace bWa_0 := fkeep hb bWa_0
  replace bWa_1 := fkeep hb bWa_1
  replace bWb_0 := fkeep hb bWb_0
  replace bWb_1 := fkeep hb bWb_1
  replace bGa_0 := fkeep hb bGa_0
  replace bGa_1 := fkeep hb bGa_1
  replace bGb_0 := fkeep hb bGb_0
  replace bGb_1 := fkeep hb bGb_1
  have HF := Lib.hid (fstep HF.out hb)
  replace HRWa := Lib.hid (HRWa.out.keep hb)
  replace HRWb := Lib.hid (HRWb.out.keep hb)
  replace HRGa := Lib.hid (HRGa.out.keep hb)
  replace HRGb := Lib.hid (HRGb.out.keep hb)
  replace HRWGa := Lib.hid (HRWGa.out.keep hb)
  replace HRWGb := Lib.hid (HRWGb.out.keep hb)
  clear hb
  go_wp2_with fail
  refine (eqRt_r _ _ _ _ _ _ r1 _ HRGb.out HRWb.out HSM.out.2).mono ?_
  rintro e w12 ⟨rfl, hb⟩
  have HSZ14 := Lib.hid (hb.size)
  replace a0_0 := fkeep hb a0_0
  replace a0_1 := fkeep hb a0_1
  replace bWa_0 := fkeep hb bWa_0
  replace bWa_1 := fkeep hb bWa_1
  replace bWb_0 := fkeep hb bWb_0
  replace bWb_1 := fkeep hb bWb_1
  replace bGa_0 := fkeep hb bGa_0
  replace bGa_1 := fkeep hb bGa_1
  replace bGb_0 := fkeep hb bGb_0
  replace bGb_1 := fkeep hb bGb_1
  have HF := Lib.hid (fstep HF.out hb)
  replace HRWa := Lib.hid (HRWa.out.keep hb)
  replace HRWb := Lib.hid (HRWb.out.keep hb)
  replace HRGa := Lib.hid (HRGa.out.keep hb)
  replace HRGb := Lib.hid (HRGb.out.keep hb)
  replace HRWGa := Lib.hid (HRWGa.out.keep hb)
  replace HRWGb := Lib.hid (HRWGb.out.keep hb)
  clear hb
  clear hkn hka0 hkb0
  go_wp2_with fail
  refine (markRt_a _ _ (Xx0.heap.size) r0 r1 1 _ HRGa.out.own HRGb.out.own HAP.out (by have s0 := HSZ0.out; have s1 := HSZ1.out; have s2 := HSZ2.out; have s3 := HSZ3.out; have s4 := HSZ4.out; have s5 := HSZ5.out; have s6 := HSZ6.out; have s7 := HSZ7.out; have s8 := HSZ8.out; have s9 := HSZ9.out; have s10 := HSZ10.out; have s11 := HSZ11.out; have s12 := HSZ12.out; have s13 := HSZ13.out; have s14 := HSZ14.out; omega) HSM.out.1 (by omega) (by omega)).mono ?_
  rintro e w13 ⟨rfl, hoa, hob, hb, hkk⟩
  have HGa := Lib.hid hoa
  have HGb := Lib.hid hob
  clear hoa hob HRGa HRGb
  have HSZ15 := Lib.hid (hb.size)
  replace a0_0 := bkeep hb (by have s0 := HSZ0.out; have s1 := HSZ1.out; have s2 := HSZ2.out; have s3 := HSZ3.out; have s4 := HSZ4.out; have s5 := HSZ5.out; have s6 := HSZ6.out; have s7 := HSZ7.out; have s8 := HSZ8.out; have s9 := HSZ9.out; have s10 := HSZ10.out; have s11 := HSZ11.out; have s12 := HSZ12.out; have s13 := HSZ13.out; have s14 := HSZ14.out; have s15 := HSZ15.out; omega) a0_0
  replace a0_1 := bkeep hb (by have s0 := HSZ0.out; have s1 := HSZ1.out; have s2 := HSZ2.out; have s3 := HSZ3.out; have s4 := HSZ4.out; have s5 := HSZ5.out; have s6 := HSZ6.out; have s7 := HSZ7.out; have s8 := HSZ8.out; have s9 := HSZ9.out; have s10 := HSZ10.out; have s11 := HSZ11.out; have s12 := HSZ12.out; have s13 := HSZ13.out; have s14 := HSZ14.out; have s15 := HSZ15.out; omega) a0_1
  replace bWa_0 := bkeep hb (by have s0 := HSZ0.out; have s1 := HSZ1.out; have s2 := HSZ2.out; have s3 := HSZ3.out; have s4 := HSZ4.out; have s5 := HSZ5.out; have s6 := HSZ6.out; have s7 := HSZ7.out; have s8 := HSZ8.out; have s9 := HSZ9.out; have s10 := HSZ10.out; have s11 := HSZ11.out; have s12 := HSZ12.out; have s13 := HSZ13.out; have s14 := HSZ14.out; have s15 := HSZ15.out; omega) bWa_0
  replace bWa_1 := bkeep hb (by have s0 := HSZ0.out; have s1 := HSZ1.out; have s2 := HSZ2.out; have s3 := HSZ3.out; have s4 := HSZ4.out; have s5 := HSZ5.out; have s6 := HSZ6.out; have s7 := HSZ7.out; have s8 := HSZ8.out; have s9 := HSZ9.out; have s10 := HSZ10.out; have s11 := HSZ11.out; have s12 := HSZ12.out; have s13 := HSZ13.out; have s14 := HSZ14.out; have s15 := HSZ15.out; omega) bWa_1
  replace bWb_0 := bkeep hb (by have s0 := HSZ0.out; have s1 := HSZ1.out; have s2 := HSZ2.out; have s3 := HSZ3.out; have s4 := HSZ4.out; have s5 := HSZ5.out; have s6 := HSZ6.out; have s7 := HSZ7.out; have s8 := HSZ8.out; have s9 := HSZ9.out; have s10 := HSZ10.out; have s11 := HSZ11.out; have s12 := HSZ12.out; have s13 := HSZ13.out; have s14 := HSZ14.out; have s15 := HSZ15.out; omega) bWb_0
  replace bWb_1 := bkeep hb (by have s0 := HSZ0.out; have s1 := HSZ1.out; have s2 := HSZ2.out; have s3 := HSZ3.out; have s4 := HSZ4.out; have s5 := HSZ5.out; have s6 := HSZ6.out; have s7 := HSZ7.out; have s8 := HSZ8.out; have s9 := HSZ9.out; have s10 := HSZ10.out; have s11 := HSZ11.out; have s12 := HSZ12.out; have s13 := HSZ13.out; have s14 := HSZ14.out; have s15 := HSZ15.out; omega) bWb_1
  replace bGa_0 := (hkk _ _ _ HRWGa.out (by decide) ).cell (i := 0) rfl
  replace bGa_1 := (hkk _ _ _ HRWGa.out (by decide) ).cell (i := 1) rfl
  replace bGb_0 := (hkk _ _ _ HRWGb.out (by decide) ).cell (i := 0) rfl
  replace bGb_1 := (hkk _ _ _ HRWGb.out (by decide) ).cell (i := 1) rfl
  have HF := Lib.hid (HF.out.trans (hb.mono (by have s0 := HSZ0.out; have s1 := HSZ1.out; have s2 := HSZ2.out; have s3 := HSZ3.out; have s4 := HSZ4.out; have s5 := HSZ5.out; have s6 := HSZ6.out; have s7 := HSZ7.out; have s8 := HSZ8.out; have s9 := HSZ9.out; have s10 := HSZ10.out; have s11 := HSZ11.out; have s12 := HSZ12.out; have s13 := HSZ13.out; have s14 := HSZ14.out; have s15 := HSZ15.out; omega)))
  replace HRWa := Lib.hid (HRWa.out.below hb (by have s0 := HSZ0.out; have s1 := HSZ1.out; have s2 := HSZ2.out; have s3 := HSZ3.out; have s4 := HSZ4.out; have s5 := HSZ5.out; have s6 := HSZ6.out; have s7 := HSZ7.out; have s8 := HSZ8.out; have s9 := HSZ9.out; have s10 := HSZ10.out; have s11 := HSZ11.out; have s12 := HSZ12.out; have s13 := HSZ13.out; have s14 := HSZ14.out; have s15 := HSZ15.out; omega))
  replace HRWb := Lib.hid (HRWb.out.below hb (by have s0 := HSZ0.out; have s1 := HSZ1.out; have s2 := HSZ2.out; have s3 := HSZ3.out; have s4 := HSZ4.out; have s5 := HSZ5.out; have s6 := HSZ6.out; have s7 := HSZ7.out; have s8 := HSZ8.out; have s9 := HSZ9.out; have s10 := HSZ10.out; have s11 := HSZ11.out; have s12 := HSZ12.out; have s13 := HSZ13.out; have s14 := HSZ14.out; have s15 := HSZ15.out; omega))
  replace HRWGa := Lib.hid (hkk _ _ _ HRWGa.out (by decide) )
  replace HRWGb := Lib.hid (hkk _ _ _ HRWGb.out (by decide) )
  clear hb
  clear hkk
  have hsma : (r0.2.length : Int) ≤ 1048576 := by have := HSM.out.1; unfold SmRt at this; omega
  have hsmb : (r1.2.length : Int) ≤ 1048576 := by have := HSM.out.2; unfold SmRt at this; omega
  go_wp2_with fail
  refine (markRt_b _ _ (Xx0.heap.size) r0.2.length r1 1 (1 + (r0.2.length : Int)) _ HGa.out HGb.out HAP.out (by have s0 := HSZ0.out; have s1 := HSZ1.out; have s2 := HSZ2.out; have s3 := HSZ3.out; have s4 := HSZ4.out; have s5 := HSZ5.out; have s6 := HSZ6.out; have s7 := HSZ7.out; have s8 := HSZ8.out; have s9 := HSZ9.out; have s10 := HSZ10.out; have s11 := HSZ11.out; have s12 := HSZ12.out; have s13 := HSZ13.out; have s14 := HSZ14.out; have s15 := HSZ15.out; omega) HSM.out.2 (by omega) (by omega)).mono ?_
  rintro e w14 ⟨rfl, hoa, hob, hb, hkk⟩
  replace HGa := Lib.hid hoa
  replace HGb := Lib.hid hob
  clear hoa hob
  have HSZ16 := Lib.hid (hb.size)
  replace a0_0 := bkeep hb (by have s0 := HSZ0.out; have s1 := HSZ1.out; have s2 := HSZ2.out; have s3 := HSZ3.out; have s4 := HSZ4.out; have s5 := HSZ5.out; have s6 := HSZ6.out; have s7 := HSZ7.out; have s8 := HSZ8.out; have s9 := HSZ9.out; have s10 := HSZ10.out; have s11 := HSZ11.out; have s12 := HSZ12.out; have s13 := HSZ13.out; have s14 := HSZ14.out; have s15 := HSZ15.out; have s16 := HSZ16.out; omega) a0_0
  replace a0_1 := bkeep hb (by have s0 := HSZ0.out; have s1 := HSZ1.out; have s2 := HSZ2.out; have s3 := HSZ3.out; have s4 := HSZ4.out; have s5 := HSZ5.out; have s6 := HSZ6.out; have s7 := HSZ7.out; have s8 := HSZ8.out; have s9 := HSZ9.out; have s10 := HSZ10.out; have s11 := HSZ11.out; have s12 := HSZ12.out; have s13 := HSZ13.out; have s14 := HSZ14.out; have s15 := HSZ15.out; have s16 := HSZ16.out; omega) a0_1
  replace bWa_0 := bkeep hb (by have s0 := HSZ0.out; have s1 := HSZ1.out; have s2 := HSZ2.out; have s3 := HSZ3.out; have s4 := HSZ4.out; have s5 := HSZ5.out; have s6 := HSZ6.out; have s7 := HSZ7.out; have s8 := HSZ8.out; have s9 := HSZ9.out; have s10 := HSZ10.out; have s11 := HSZ11.out; have s12 := HSZ12.out; have s13 := HSZ13.out; have s14 := HSZ14.out; have s15 := HSZ15.out; have s16 := HSZ16.out; omega) bWa_0
  replace bWa_1 := bkeep hb (by have s0 := HSZ0.out; have s1 := HSZ1.out; have s2 := HSZ2.out; have s3 := HSZ3.out; have s4 := HSZ4.out; have s5 := HSZ5.out; have s6 := HSZ6.out; have s7 := HSZ7.out; have s8 := HSZ8.out; have s9 := HSZ9.out; have s10 := HSZ10.out; have s11 := HSZ11.out; have s12 := HSZ12.out; have s13 := HSZ13.out; have s14 := HSZ14.out; have s15 := HSZ15.out; have s16 := HSZ16.out; omega) bWa_1
  replace bWb_0 := bkeep hb (by have s0 := HSZ0.out; have s1 := HSZ1.out; have s2 := HSZ2.out; have s3 := HSZ3.out; have s4 := HSZ4.out; have s5 := HSZ5.out; have s6 := HSZ6.out; have s7 := HSZ7.out; have s8 := HSZ8.out; have s9 := HSZ9.out; have s10 := HSZ10.out; have s11 := HSZ11.out; have s12 := HSZ12.out; have s13 := HSZ13.out; have s14 := HSZ14.out; have s15 := HSZ15.out; have s16 := HSZ16.out; omega) bWb_0
  replace bWb_1 := bkeep hb (by have s0 := HSZ0.out; have s1 := HSZ1.out; have s2 := HSZ2.out; have s3 := HSZ3.out; have s4 := HSZ4.out; have s5 := HSZ5.out; have s6 := HSZ6.out; have s7 := HSZ7.out; have s8 := HSZ8.out; have s9 := HSZ9.out; have s10 := HSZ10.out; have s11 := HSZ11.out; have s12 := HSZ12.out; have s13 := HSZ13.out; have s14 := HSZ14.out; have s15 := HSZ15.out; have s16 := HSZ16.out; omega) bWb_1
  replace bGa_0 := (hkk _ _ _ HRWGa.out (by decide) ).cell (i := 0) rfl
  replace bGa_1 := (hkk _ _ _ HRWGa.out (by decide) ).cell (i := 1) rfl
  replace bGb_0 := (hkk _ _ _ HRWGb.out (by decide) ).cell (i := 0) rfl
  replace bGb_1 := (hkk _ _ _ HRWGb.out (by decide) ).cell (i := 1) rfl
  have HF := Lib.hid (HF.out.trans (hb.mono (by have s0 := HSZ0.out; have s1 := HSZ1.out; have s2 := HSZ2.out; have s3 := HSZ3.out; have s4 := HSZ4.out; have s5 := HSZ5.out; have s6 := HSZ6.out; have s7 := HSZ7.out; have s8 := HSZ8.out; have s9 := HSZ9.out; have s10 := HSZ10.out; have s11 := HSZ11.out; have s12 := HSZ12.out; have s13 := HSZ13.out; have s14 := HSZ14.out; have s15 := HSZ15.out; have s16 := HSZ16.out; omega)))
  replace HRWa := Lib.hid (HRWa.out.below hb (by have s0 := HSZ0.out; have s1 := HSZ1.out; have s2 := HSZ2.out; have s3 := HSZ3.out; have s4 := HSZ4.out; have s5 := HSZ5.out; have s6 := HSZ6.out; have s7 := HSZ7.out; have s8 := HSZ8.out; have s9 := HSZ9.out; have s10 := HSZ10.out; have s11 := HSZ11.out; have s12 := HSZ12.out; have s13 := HSZ13.out; have s14 := HSZ14.out; have s15 := HSZ15.out; have s16 := HSZ16.out; omega))
  replace HRWb := Lib.hid (HRWb.out.below hb (by have s0 := HSZ0.out; have s1 := HSZ1.out; have s2 := HSZ2.out; have s3 := HSZ3.out; have s4 := HSZ4.out; have s5 := HSZ5.out; have s6 := HSZ6.out; have s7 := HSZ7.out; have s8 := HSZ8.out; have s9 := HSZ9.out; have s10 := HSZ10.out; have s11 := HSZ11.out; have s12 := HSZ12.out; have s13 := HSZ13.out; have s14 := HSZ14.out; have s15 := HSZ15.out; have s16 := HSZ16.out; omega))
  replace HRWGa := Lib.hid (hkk _ _ _ HRWGa.out (by decide) )
  replace HRWGb := Lib.hid (hkk _ _ _ HRWGb.out (by decide) )
  clear hb
  clear hkk HRWGa HRWGb HAP
  go_wp2_with fail
  refine (heldRt_o _ _ r0 1 _ HGa.out HSM.out.1 (by omega) (by omega)).mono ?_
  rintro e w15 ⟨rfl, hb⟩
  have HSZ17 := Lib.hid (hb.size)
  replace a0_0 := fkeep hb a0_0
  replace a0_1 := fkeep hb a0_1
  replace bWa_0 := fkeep hb bWa_0
  replace bWa_1 := fkeep hb bWa_1
  replace bWb_0 := fkeep hb bWb_0
  replace bWb_1 := fkeep hb bWb_1
  replace bGa_0 := fkeep hb bGa_0
  replace bGa_1 := fkeep hb bGa_1
  replace bGb_0 := fkeep hb bGb_0
  replace bGb_1 := fkeep hb bGb_1
  have HF := Lib.hid (fstep HF.out hb)
  replace HRWa := Lib.hid (HRWa.out.keep hb)
  replace HRWb := Lib.hid (HRWb.out.keep hb)
  replace HGa := Lib.hid (HGa.out.keep hb)
  replace HGb := Lib.hid (HGb.out.keep hb)
  clear hb
  have hkn1 : ((1 + (r0.2.length : Int)) < 0) = False := eq_false (by omega)
  go_wp2_with fail
  refine (heldRt_o _ _ r1 (1 + (r0.2.length : Int)) _ HGb.out HSM.out.2 (by omega) (by omega)).mono ?_
  rintro e w16 ⟨rfl, hb⟩
  have HSZ18 := Lib.hid (hb.size)
  replace a0_0 := fkeep hb a0_0
  replace a0_1 := fkeep hb a0_1
  replace bWa_0 := fkeep hb bWa_0
  replace bWa_1 := fkeep hb bWa_1
  replace bWb_0 := fkeep hb bWb_0
  replace bWb_1 := fkeep hb bWb_1
  replace bGa_0 := fkeep hb bGa_0
  replace bGa_1 := fkeep hb bGa_1
  replace bGb_0 := fkeep hb bGb_0
  replace bGb_1 := fkeep hb bGb_1
  have HF := Lib.hid (fstep HF.out hb)
  replace HRWa := Lib.hid (HRWa.out.keep hb)
  replace HRWb := Lib.hid (HRWb.out.keep hb)
  replace HGa := Lib.hid (HGa.out.keep hb)
  replace HGb := Lib.hid (HGb.out.keep hb)
  clear hb
  have hkn2 : ((1 + (r0.2.length : Int) + (r1.2.length : Int)) < 0) = False := eq_false (by omega)
  go_wp2_with fail
  refine (toNet_k _ x0 _ (HI0.out.keep HF.out)).mono ?_
  rintro e w17 ⟨u0, rfl, hy, hb⟩
  have HY0 := Lib.hid hy
  clear hy
  have HSZ19 := Lib.hid (hb.size)
  replace a0_0 := fkeep hb a0_0
  replace a0_1 := fkeep hb a0_1
  replace bWa_0 := fkeep hb bWa_0
  replace bWa_1 := fkeep hb bWa_1
  replace bWb_0 := fkeep hb bWb_0
  replace bWb_1 := fkeep hb bWb_1
  replace bGa_0 := fkeep hb bGa_0
  replace bGa_1 := fkeep hb bGa_1
  replace bGb_0 := fkeep hb bGb_0
  replace bGb_1 := fkeep hb bGb_1
  have HF := Lib.hid (fstep HF.out hb)
  replace HRWa := Lib.hid (HRWa.out.keep hb)
  replace HRWb := Lib.hid (HRWb.out.keep hb)
  replace HGa := Lib.hid (HGa.out.keep hb)
  replace HGb := Lib.hid (HGb.out.keep hb)
  clear hb
  go_wp2_with fail
  have hcc := implBestPair_l _ x0 x1 x2 x3 _ HY0.out
  rw [← HR0.out, ← HR1.out, ← HR2.out, ← HR3.out] at hcc
  refine (hcc).mono ?_
  clear hcc
  rintro e w18 ⟨vHa, vHb, rfl, how, hb⟩
  clear HY0
  obtain ⟨howa, howb, hap⟩ := how
  obtain ⟨sHa, qHa, mHa, cHa, hvv⟩ := howa.shape
  subst hvv
  obtain ⟨sHb, qHb, mHb, cHb, hvv⟩ := howb.shape
  subst hvv
  have HRHa := Lib.hid (howa.held.wide (Nat.zero_le _) (Nat.le_refl _))
  have HRHb := Lib.hid (howb.held.wide (Nat.zero_le _) (Nat.le_refl _))
  clear howa howb hap
  have HSZ20 := Lib.hid (hb.size)
  replace a0_0 := fkeep hb a0_0
  replace a0_1 := fkeep hb a0_1
  replace bWa_0 := fkeep hb bWa_0
  replace bWa_1 := fkeep hb bWa_1
  replace bWb_0 := fkeep hb bWb_0
  replace bWb_1 := fkeep hb bWb_1
  replace bGa_0 := fkeep hb bGa_0
  replace bGa_1 := fkeep hb bGa_1
  replace bGb_0 := fkeep hb bGb_0
  replace bGb_1 := fkeep hb bGb_1
  have HF := Lib.hid (fstep HF.out hb)
  replace HRWa := Lib.hid (HRWa.out.keep hb)
  replace HRWb := Lib.hid (HRWb.out.keep hb)
  replace HGa := Lib.hid (HGa.out.keep hb)
  replace HGb := Lib.hid (HGb.out.keep hb)
  clear hb
  obtain ⟨XHa, hXa⟩ : ∃ X, X = w18.alloc (.cells #[.int .i64 sHa, .slice qHa mHa cHa] 47) := ⟨_, rfl⟩
  obtain ⟨XHb, hXb⟩ : ∃ X, X = XHa.alloc (.cells #[.int .i64 sHb, .slice qHb mHb cHb] 47) := ⟨_, rfl⟩
  have hza : XHa.heap.size = w18.heap.size + 1 := by rw [hXa]; simp
  have hba : Fresh w18 XHa := by rw [hXa]; exact fnew (frefl _) _
  have hbb : Fresh XHa XHb := by rw [hXb]; exact fnew (frefl _) _
  have hb : Fresh w18 XHb := fstep hba hbb
  have HSZ21 := Lib.hid (show XHb.heap.size = w18.heap.size + 1 + 1 by rw [hXb, ← hza]; simp)
  have La0_0 := fkeep (fnew (fnew (frefl w18) (.cells #[.int .i64 sHa, .slice qHa mHa cHa] 47)) (.cells #[.int .i64 sHb, .slice qHb mHb cHb] 47)) a0_0
  have La0_1 := fkeep (fnew (fnew (frefl w18) (.cells #[.int .i64 sHa, .slice qHa mHa cHa] 47)) (.cells #[.int .i64 sHb, .slice qHb mHb cHb] 47)) a0_1
  have LbWa_0 := fkeep (fnew (fnew (frefl w18) (.cells #[.int .i64 sHa, .slice qHa mHa cHa] 47)) (.cells #[.int .i64 sHb, .slice qHb mHb cHb] 47)) bWa_0
  have LbWa_1 := fkeep (fnew (fnew (frefl w18) (.cells #[.int .i64 sHa, .slice qHa mHa cHa] 47)) (.cells #[.int .i64 sHb, .slice qHb mHb cHb] 47)) bWa_1
  have LbWb_0 := fkeep (fnew (fnew (frefl w18) (.cells #[.int .i64 sHa, .slice qHa mHa cHa] 47)) (.cells #[.int .i64 sHb, .slice qHb mHb cHb] 47)) bWb_0
  have LbWb_1 := fkeep (fnew (fnew (frefl w18) (.cells #[.int .i64 sHa, .slice qHa mHa cHa] 47)) (.cells #[.int .i64 sHb, .slice qHb mHb cHb] 47)) bWb_1
  have LbGa_0 := fkeep (fnew (fnew (frefl w18) (.cells #[.int .i64 sHa, .slice qHa mHa cHa] 47)) (.cells #[.int .i64 sHb, .slice qHb mHb cHb] 47)) bGa_0
  have LbGa_1 := fkeep (fnew (fnew (frefl w18) (.cells #[.int .i64 sHa, .slice qHa mHa cHa] 47)) (.cells #[.int .i64 sHb, .slice qHb mHb cHb] 47)) bGa_1
  have LbGb_0 := fkeep (fnew (fnew (frefl w18) (.cells #[.int .i64 sHa, .slice qHa mHa cHa] 47)) (.cells #[.int .i64 sHb, .slice qHb mHb cHb] 47)) bGb_0
  have LbGb_1 := fkeep (fnew (fnew (frefl w18) (.cells #[.int .i64 sHa, .slice qHa mHa cHa] 47)) (.cells #[.int .i64 sHb, .slice qHb mHb cHb] 47)) bGb_1
  have hrA : RowAt XHb w18.heap.size 47 [.int .i64 sHa, .slice qHa mHa cHa] := by have h := RowAt.new w18 47 [.int .i64 sHa, .slice qHa mHa cHa]; rw [← hXa] at h; exact h.keep hbb
  have hrB : RowAt XHb (w18.heap.size + 1) 47 [.int .i64 sHb, .slice qHb mHb cHb] := by have h := RowAt.new XHa 47 [.int .i64 sHb, .slice qHb mHb cHb]; rw [← hXb, hza] at h; exact h
  have bHa_0 := hrA.cell (i := 0) rfl
  have bHa_1 := hrA.cell (i := 1) rfl
  have bHb_0 := hrB.cell (i := 0) rfl
  have bHb_1 := hrB.cell (i := 1) rfl
  replace a0_0 := fkeep hb a0_0
  replace a0_1 := fkeep hb a0_1
  replace bWa_0 := fkeep hb bWa_0
  replace bWa_1 := fkeep hb bWa_1
  replace bWb_0 := fkeep hb bWb_0
  replace bWb_1 := fkeep hb bWb_1
  replace bGa_0 := fkeep hb bGa_0
  replace bGa_1 := fkeep hb bGa_1
  replace bGb_0 := fkeep hb bGb_0
  replace bGb_1 := fkeep hb bGb_1
  have HF := Lib.hid (fstep HF.out hb)
  replace HRWa := Lib.hid (HRWa.out.keep hb)
  replace HRWb := Lib.hid (HRWb.out.keep hb)
  replace HGa := Lib.hid (HGa.out.keep hb)
  replace HGb := Lib.hid (HGb.out.keep hb)
  replace HRHa := Lib.hid (HRHa.out.keep hb)
  replace HRHb := Lib.hid (HRHb.out.keep hb)
  clear hb
  have Ha0_0 := Lib.hid a0_0
  have Ha0_1 := Lib.hid a0_1
  have HbWa_0 := Lib.hid bWa_0
  have HbWa_1 := Lib.hid bWa_1
  have HbWb_0 := Lib.hid bWb_0
  have HbWb_1 := Lib.hid bWb_1
  have HbGa_0 := Lib.hid bGa_0
  have HbGa_1 := Lib.hid bGa_1
  have HbGb_0 := Lib.hid bGb_0
  have HbGb_1 := Lib.hid bGb_1
  have HbHa_0 := Lib.hid bHa_0
  have HbHa_1 := Lib.hid bHa_1
  have HbHb_0 := Lib.hid bHb_0
  have HbHb_1 := Lib.hid bHb_1
  clear a0_0 a0_1 bWa_0 bWa_1 bWb_0 bWb_1 bGa_0 bGa_1 bGb_0 bGb_1 bHa_0 bHa_1 bHb_0 bHb_1
  have HXHa := Lib.hid hXa
  have HXHb := Lib.hid hXb
  clear hXa hXb hza hba hbb hrA hrB
  go_wp2_with fail
  rw [← HXHa.out]
  clear HXHa
  rw [← HXHb.out]
  clear HXHb
  clear La0_0 La0_1 LbWa_0 LbWa_1 LbWb_0 LbWb_1 LbGa_0 LbGa_1 LbGb_0 LbGb_1
  have a0_0 := Ha0_0.out
  have a0_1 := Ha0_1.out
  have bWa_0 := HbWa_0.out
  have bWa_1 := HbWa_1.out
  have bWb_0 := HbWb_0.out
  have bWb_1 := HbWb_1.out
  have bGa_0 := HbGa_0.out
  have bGa_1 := HbGa_1.out
  have bGb_0 := HbGb_0.out
  have bGb_1 := HbGb_1.out
  have bHa_0 := HbHa_0.out
  have bHa_1 := HbHa_1.out
  have bHb_0 := HbHb_0.out
  have bHb_1 := HbHb_1.out
  clear Ha0_0 Ha0_1 HbWa_0 HbWa_1 HbWb_0 HbWb_1 HbGa_0 HbGa_1 HbGb_0 HbGb_1 HbHa_0 HbHa_1 HbHb_0 HbHb_1
  go_wp2_with fail
  refine (eqRt_r _ _ _ _ _ _ r0 _ HRHa.out HRWa.out HSM.out.1).mono ?_
  rintro e w19 ⟨rfl, hb⟩
  have HSZ22 := Lib.hid (hb.size)
  replace a0_0 := fkeep hb a0_0
  replace a0_1 := fkeep hb a0_1
  replace bWa_0 := fkeep hb bWa_0
  replace bWa_1 := fkeep hb bWa_1
  replace bWb_0 := fkeep hb bWb_0
  replace bWb_1 := fkeep hb bWb_1
  replace bGa_0 := fkeep hb bGa_0
  replace bGa_1 := fkeep hb bGa_1
  replace bGb_0 := fkeep hb bGb_0
  replace bGb_1 := fkeep hb bGb_1
  replace bHa_0 := fkeep hb bHa_0
  replace bHa_1 := fkeep hb bHa_1
  replace bHb_0 := fkeep hb bHb_0
  replace bHb_1 := fkeep hb bHb_1
  have HF := Lib.hid (fstep HF.out hb)
  replace HRWa := Lib.hid (HRWa.out.keep hb)
  replace HRWb := Lib.hid (HRWb.out.keep hb)
  replace HGa := Lib.hid (HGa.out.keep hb)
  replace HGb := Lib.hid (HGb.out.keep hb)
  replace HRHa := Lib.hid (HRHa.out.keep hb)
  replace HRHb := Lib.hid (HRHb.out.keep hb)
  clear hb
  go_wp2_with fail
  refine (eqRt_r _ _ _ _ _ _ r1 _ HRHb.out HRWb.out HSM.out.2).mono ?_
  rintro e w20 ⟨rfl, hb⟩
  have HSZ23 := Lib.hid (hb.size)
  replace a0_0 := fkeep hb a0_0
  replace a0_1 := fkeep hb a0_1
  replace bWa_0 := fkeep hb bWa_0
  replace bWa_1 := fkeep hb bWa_1
  replace bWb_0 := fkeep hb bWb_0
  replace bWb_1 := fkeep hb bWb_1
  replace bGa_0 := fkeep hb bGa_0
  replace bGa_1 := fkeep hb bGa_1
  replace bGb_0 := fkeep hb bGb_0
  replace bGb_1 := fkeep hb bGb_1
  replace bHa_0 := fkeep hb bHa_0
  replace bHa_1 := fkeep hb bHa_1
  replace bHb_0 := fkeep hb bHb_0
  replace bHb_1 := fkeep hb bHb_1
  have HF := Lib.hid (fstep HF.out hb)
  replace HRWa := Lib.hid (HRWa.out.keep hb)
  replace HRWb := Lib.hid (HRWb.out.keep hb)
  replace HGa := Lib.hid (HGa.out.keep hb)
  replace HGb := Lib.hid (HGb.out.keep hb)
  replace HRHa := Lib.hid (HRHa.out.keep hb)
  replace HRHb := Lib.hid (HRHb.out.keep hb)
  clear hb
  go_wp2_with fail
  refine (heldRt_o _ _ r0 1 _ HGa.out HSM.out.1 (by omega) (by omega)).mono ?_
  rintro e w21 ⟨rfl, hb⟩
  have HSZ24 := Lib.hid (hb.size)
  replace a0_0 := fkeep hb a0_0
  replace a0_1 := fkeep hb a0_1
  replace bWa_0 := fkeep hb bWa_0
  replace bWa_1 := fkeep hb bWa_1
  replace bWb_0 := fkeep hb bWb_0
  replace bWb_1 := fkeep hb bWb_1
  replace bGa_0 := fkeep hb bGa_0
  replace bGa_1 := fkeep hb bGa_1
  replace bGb_0 := fkeep hb bGb_0
  replace bGb_1 := fkeep hb bGb_1
  replace bHa_0 := fkeep hb bHa_0
  replace bHa_1 := fkeep hb bHa_1
  replace bHb_0 := fkeep hb bHb_0
  replace bHb_1 := fkeep hb bHb_1
  have HF := Lib.hid (fstep HF.out hb)
  replace HRWa := Lib.hid (HRWa.out.keep hb)
  replace HRWb := Lib.hid (HRWb.out.keep hb)
  replace HGa := Lib.hid (HGa.out.keep hb)
  replace HGb := Lib.hid (HGb.out.keep hb)
  replace HRHa := Lib.hid (HRHa.out.keep hb)
  replace HRHb := Lib.hid (HRHb.out.keep hb)
  clear hb
  go_wp2_with fail
  refine (heldRt_o _ _ r1 (1 + (r0.2.length : Int)) _ HGb.out HSM.out.2 (by omega) (by omega)).mono ?_
  rintro e w22 ⟨rfl, hb⟩
  have HSZ25 := Lib.hid (hb.size)
  replace a0_0 := fkeep hb a0_0
  replace a0_1 := fkeep hb a0_1
  replace bWa_0 := fkeep hb bWa_0
  replace bWa_1 := fkeep hb bWa_1
  replace bWb_0 := fkeep hb bWb_0
  replace bWb_1 := fkeep hb bWb_1
  replace bGa_0 := fkeep hb bGa_0
  replace bGa_1 := fkeep hb bGa_1
  replace bGb_0 := fkeep hb bGb_0
  replace bGb_1 := fkeep hb bGb_1
  replace bHa_0 := fkeep hb bHa_0
  replace bHa_1 := fkeep hb bHa_1
  replace bHb_0 := fkeep hb bHb_0
  replace bHb_1 := fkeep hb bHb_1
  have HF := Lib.hid (fstep HF.out hb)
  replace HRWa := Lib.hid (HRWa.out.keep hb)
  replace HRWb := Lib.hid (HRWb.out.keep hb)
  replace HGa := Lib.hid (HGa.out.keep hb)
  replace HGb := Lib.hid (HGb.out.keep hb)
  replace HRHa := Lib.hid (HRHa.out.keep hb)
  replace HRHb := Lib.hid (HRHb.out.keep hb)
  clear hb
  go_wp2
  go_ret
  exact ⟨rfl, HF.out⟩
end Go.Proofs.YtgkgcfmmhkknkaaGreat
