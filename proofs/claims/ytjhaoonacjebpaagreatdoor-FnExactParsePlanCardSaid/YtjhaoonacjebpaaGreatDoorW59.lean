/- The walk of FnExactParsePlan. -/
import Derived.Test.YtjhaoonacjebpaaGreatDoorQs4
import Derived.Deep.RegionHeld3
import Derived.Deep.DeepCutAuto
namespace Go.Proofs.YtjhaoonacjebpaaGreatDoor
open Go.RowKit Go.PlainAid

set_option maxHeartbeats 4000000 in
set_option maxRecDepth 100000 in
theorem law_ParsePlan (s : ByteArray) (w : World) (hT : TabE w) (hS : SynE w) (hM : MaxE w) :
    Calls Tryz.prog 4 #[.string s] w fun e w' => e = .returned (.bool true) ∧ Fresh w w' := by
  have HT := Lib.hid hT
  have HS := Lib.hid hS
  have HM := Lib.hid hM
  clear hT hS hM
  have HF := Lib.hid (frefl w)
  by_cases hbig : 1048576 < s.size
  · have hz : (1048576 : Int) < (s.size : Int) := by omega
    go_enter Tryz.func4, Tryz.ntmps4
    go_wp2
    go_ret
    exact ⟨rfl, HF.out⟩
  have hz : ¬ (1048576 : Int) < (s.size : Int) := by omega
  have HLE : Hid (s.size ≤ 1048576) := Lib.hid (by omega)
  clear hbig
  go_enter Tryz.func4, Tryz.ntmps4
  have HSZ0 := Lib.hid HF.out.size
  go_wp2_with fail
  refine (specParsePlan_any s _ HLE.out).mono ?_
  rintro e w1 ⟨vW, r0, r1, rfl, hps, how, hb⟩
  have HPS := Lib.hid hps
  have HSM := Lib.hid hps.small
  obtain ⟨qW, mW, cW, fW, kW, dW, tW, iW, eW, hvv⟩ := how.shape
  subst hvv
  have HRW := Lib.hid (PlSeen.of how)
  clear how hps
  have HSZ1 := Lib.hid (hb.size)
  have HF := Lib.hid (fstep HF.out hb)
  clear hb
  obtain ⟨XW, hX⟩ : ∃ X, X = w1.alloc (.cells #[.slice qW mW cW, .slice fW kW dW, .slice tW iW eW] 37) := ⟨_, rfl⟩
  have hb : Fresh w1 XW := by rw [hX]; exact fnew (frefl _) _
  have HSZ2 := Lib.hid (show XW.heap.size = w1.heap.size + 1 by rw [hX]; simp)
  have bW_0 : XW.cell? ⟨w1.heap.size, 0, none⟩ = some (.slice qW mW cW) := by rw [hX]; exact (RowAt.new w1 37 [.slice qW mW cW, .slice fW kW dW, .slice tW iW eW]).cell (i := 0) rfl
  have bW_1 : XW.cell? ⟨w1.heap.size, 1, none⟩ = some (.slice fW kW dW) := by rw [hX]; exact (RowAt.new w1 37 [.slice qW mW cW, .slice fW kW dW, .slice tW iW eW]).cell (i := 1) rfl
  have bW_2 : XW.cell? ⟨w1.heap.size, 2, none⟩ = some (.slice tW iW eW) := by rw [hX]; exact (RowAt.new w1 37 [.slice qW mW cW, .slice fW kW dW, .slice tW iW eW]).cell (i := 2) rfl
  have HF := Lib.hid (fstep HF.out hb)
  replace HRW := Lib.hid (HRW.out.keep hb)
  clear hb
  have HbW_0 := Lib.hid bW_0
  have HbW_1 := Lib.hid bW_1
  have HbW_2 := Lib.hid bW_2
  clear bW_0 bW_1 bW_2
  have HXW := Lib.hid hX
  clear hX
  go_wp2_with fail
  rw [← HXW.out]
  clear HXW
  have bW_0 := HbW_0.out
  have bW_1 := HbW_1.out
  have bW_2 := HbW_2.out
  clear HbW_0 HbW_1 HbW_2
  go_wp2_with fail
  refine (implParsePlan_any s _ HLE.out (HT.out.keep HF.out) (HS.out.keep HF.out) (HM.out.keep HF.out)).mono ?_
  rintro e w2 ⟨vG, r0', r1', rfl, hps, how, hb⟩
  obtain ⟨rfl, rfl⟩ := ParSaid.uniq HPS.out hps
  clear hps
  obtain ⟨qG, mG, cG, fG, kG, dG, tG, iG, eG, hvv⟩ := plo_shape how
  subst hvv
  have HRG := Lib.hid how.held
  clear how
  have HSZ3 := Lib.hid (hb.size)
  replace bW_0 := fkeep hb bW_0
  replace bW_1 := fkeep hb bW_1
  replace bW_2 := fkeep hb bW_2
  have HF := Lib.hid (fstep HF.out hb)
  replace HRW := Lib.hid (HRW.out.keep hb)
  clear hb
  obtain ⟨XG, hX⟩ : ∃ X, X = w2.alloc (.cells #[.slice qG mG cG, .slice fG kG dG, .slice tG iG eG] 37) := ⟨_, rfl⟩
  have hb : Fresh w2 XG := by rw [hX]; exact fnew (frefl _) _
  have HSZ4 := Lib.hid (show XG.heap.size = w2.heap.size + 1 by rw [hX]; simp)
  have LbW_0 := fkeep (fnew (frefl w2) (.cells #[.slice qG mG cG, .slice fG kG dG, .slice tG iG eG] 37)) bW_0
  have LbW_1 := fkeep (fnew (frefl w2) (.cells #[.slice qG mG cG, .slice fG kG dG, .slice tG iG eG] 37)) bW_1
  have LbW_2 := fkeep (fnew (frefl w2) (.cells #[.slice qG mG cG, .slice fG kG dG, .slice tG iG eG] 37)) bW_2
  have HRWG : Hid (RowAt XG w2.heap.size 37 [.slice qG mG cG, .slice fG kG dG, .slice tG iG eG]) := by show RowAt _ _ _ _; rw [hX]; exact RowAt.new _ _ _
  have bG_0 : XG.cell? ⟨w2.heap.size, 0, none⟩ = some (.slice qG mG cG) := by rw [hX]; exact (RowAt.new w2 37 [.slice qG mG cG, .slice fG kG dG, .slice tG iG eG]).cell (i := 0) rfl
  have bG_1 : XG.cell? ⟨w2.heap.size, 1, none⟩ = some (.slice fG kG dG) := by rw [hX]; exact (RowAt.new w2 37 [.slice qG mG cG, .slice fG kG dG, .slice tG iG eG]).cell (i := 1) rfl
  have bG_2 : XG.cell? ⟨w2.heap.size, 2, none⟩ = some (.slice tG iG eG) := by rw [hX]; exact (RowAt.new w2 37 [.slice qG mG cG, .slice fG kG dG, .slice tG iG eG]).cell (i := 2) rfl
  replace bW_0 := fkeep hb bW_0
  replace bW_1 := fkeep hb bW_1
  replace bW_2 := fkeep hb bW_2
  have HF := Lib.hid (fstep HF.out hb)
  replace HRW := Lib.hid (HRW.out.keep hb)
  replace HRG := Lib.hid (HRG.out.keep hb)
  clear hb
  have HbW_0 := Lib.hid bW_0
  have HbW_1 := Lib.hid bW_1
  have HbW_2 := Lib.hid bW_2
  have HbG_0 := Lib.hid bG_0
  have HbG_1 := Lib.hid bG_1
  have HbG_2 := Lib.hid bG_2
  clear bW_0 bW_1 bW_2 bG_0 bG_1 bG_2
  have HXG := Lib.hid hX
  clear hX
  go_wp2_with fail
  rw [← HXG.out]
  clear HXG
  clear LbW_0 LbW_1 LbW_2
  have bW_0 := HbW_0.out
  have bW_1 := HbW_1.out
  have bW_2 := HbW_2.out
  have bG_0 := HbG_0.out
  have bG_1 := HbG_1.out
  have bG_2 := HbG_2.out
  clear HbW_0 HbW_1 HbW_2 HbG_0 HbG_1 HbG_2
  go_wp2_with fail
  refine (eqPlan_k _ _ r0 _ (HRG.out.own.plIn HSM.out.1) HRW.out.plIn).mono ?_
  rintro e w3 ⟨rfl, hb⟩
  have HSZ5 := Lib.hid (hb.size)
  replace bW_0 := fkeep hb bW_0
  replace bW_1 := fkeep hb bW_1
  replace bW_2 := fkeep hb bW_2
  replace bG_0 := fkeep hb bG_0
  replace bG_1 := fkeep hb bG_1
  replace bG_2 := fkeep hb bG_2
  have HF := Lib.hid (fstep HF.out hb)
  replace HRW := Lib.hid (HRW.out.keep hb)
  replace HRG := Lib.hid (HRG.out.keep hb)
  replace HRWG := Lib.hid (HRWG.out.keep hb)
  clear hb
  go_wp2_with fail
  refine (markPl_r _ (XW.heap.size) r0 1 _ HRG.out.own (by have s0 := HSZ0.out; have s1 := HSZ1.out; have s2 := HSZ2.out; have s3 := HSZ3.out; have s4 := HSZ4.out; have s5 := HSZ5.out; omega) HSM.out (by omega) (by omega)).mono ?_
  rintro e w5 ⟨N, rfl, ho, hb, hkk⟩
  have HG := Lib.hid ho
  clear ho HRG
  have HSZ7 := Lib.hid (hb.size)
  replace bW_0 := bkeep hb (by have s0 := HSZ0.out; have s1 := HSZ1.out; have s2 := HSZ2.out; have s3 := HSZ3.out; have s4 := HSZ4.out; have s5 := HSZ5.out; have s7 := HSZ7.out; omega) bW_0
  replace bW_1 := bkeep hb (by have s0 := HSZ0.out; have s1 := HSZ1.out; have s2 := HSZ2.out; have s3 := HSZ3.out; have s4 := HSZ4.out; have s5 := HSZ5.out; have s7 := HSZ7.out; omega) bW_1
  replace bW_2 := bkeep hb (by have s0 := HSZ0.out; have s1 := HSZ1.out; have s2 := HSZ2.out; have s3 := HSZ3.out; have s4 := HSZ4.out; have s5 := HSZ5.out; have s7 := HSZ7.out; omega) bW_2
  replace bG_0 := (hkk _ _ _ HRWG.out (by decide) (by decide) (by decide) (by decide) ).cell (i := 0) rfl
  replace bG_1 := (hkk _ _ _ HRWG.out (by decide) (by decide) (by decide) (by decide) ).cell (i := 1) rfl
  replace bG_2 := (hkk _ _ _ HRWG.out (by decide) (by decide) (by decide) (by decide) ).cell (i := 2) rfl
  have HF := Lib.hid (HF.out.trans (hb.mono (by have s0 := HSZ0.out; have s1 := HSZ1.out; have s2 := HSZ2.out; have s3 := HSZ3.out; have s4 := HSZ4.out; have s5 := HSZ5.out; have s7 := HSZ7.out; omega)))
  replace HRW := Lib.hid (HRW.out.below hb (by have s0 := HSZ0.out; have s1 := HSZ1.out; have s2 := HSZ2.out; have s3 := HSZ3.out; have s4 := HSZ4.out; have s5 := HSZ5.out; have s7 := HSZ7.out; omega))
  replace HRWG := Lib.hid (hkk _ _ _ HRWG.out (by decide) (by decide) (by decide) (by decide) )
  clear hb
  clear hkk HRWG
  go_wp2_with fail
  refine (heldPl_o _ _ r0 1 _ _ HG.out HSM.out (by omega) (by omega)).mono ?_
  rintro e w6 ⟨rfl, hb⟩
  have HSZ8 := Lib.hid (hb.size)
  replace bW_0 := fkeep hb bW_0
  replace bW_1 := fkeep hb bW_1
  replace bW_2 := fkeep hb bW_2
  replace bG_0 := fkeep hb bG_0
  replace bG_1 := fkeep hb bG_1
  replace bG_2 := fkeep hb bG_2
  have HF := Lib.hid (fstep HF.out hb)
  replace HRW := Lib.hid (HRW.out.keep hb)
  replace HG := Lib.hid (HG.out.keep hb)
  clear hb
  go_wp2_with fail
  refine (implParsePlan_any s _ HLE.out (HT.out.keep HF.out) (HS.out.keep HF.out) (HM.out.keep HF.out)).mono ?_
  rintro e w7 ⟨vH, r0', r1', rfl, hps, how, hb⟩
  obtain ⟨rfl, rfl⟩ := ParSaid.uniq HPS.out hps
  clear hps
  obtain ⟨qH, mH, cH, fH, kH, dH, tH, iH, eH, hvv⟩ := plo_shape how
  subst hvv
  have HRH := Lib.hid (how.held.wide (Nat.zero_le _) (Nat.le_refl _))
  clear how
  have HSZ9 := Lib.hid (hb.size)
  replace bW_0 := fkeep hb bW_0
  replace bW_1 := fkeep hb bW_1
  replace bW_2 := fkeep hb bW_2
  replace bG_0 := fkeep hb bG_0
  replace bG_1 := fkeep hb bG_1
  replace bG_2 := fkeep hb bG_2
  have HF := Lib.hid (fstep HF.out hb)
  replace HRW := Lib.hid (HRW.out.keep hb)
  replace HG := Lib.hid (HG.out.keep hb)
  clear hb
  obtain ⟨XH, hX⟩ : ∃ X, X = w7.alloc (.cells #[.slice qH mH cH, .slice fH kH dH, .slice tH iH eH] 37) := ⟨_, rfl⟩
  have hb : Fresh w7 XH := by rw [hX]; exact fnew (frefl _) _
  have HSZ10 := Lib.hid (show XH.heap.size = w7.heap.size + 1 by rw [hX]; simp)
  have LbW_0 := fkeep (fnew (frefl w7) (.cells #[.slice qH mH cH, .slice fH kH dH, .slice tH iH eH] 37)) bW_0
  have LbW_1 := fkeep (fnew (frefl w7) (.cells #[.slice qH mH cH, .slice fH kH dH, .slice tH iH eH] 37)) bW_1
  have LbW_2 := fkeep (fnew (frefl w7) (.cells #[.slice qH mH cH, .slice fH kH dH, .slice tH iH eH] 37)) bW_2
  have LbG_0 := fkeep (fnew (frefl w7) (.cells #[.slice qH mH cH, .slice fH kH dH, .slice tH iH eH] 37)) bG_0
  have LbG_1 := fkeep (fnew (frefl w7) (.cells #[.slice qH mH cH, .slice fH kH dH, .slice tH iH eH] 37)) bG_1
  have LbG_2 := fkeep (fnew (frefl w7) (.cells #[.slice qH mH cH, .slice fH kH dH, .slice tH iH eH] 37)) bG_2
  have bH_0 : XH.cell? ⟨w7.heap.size, 0, none⟩ = some (.slice qH mH cH) := by rw [hX]; exact (RowAt.new w7 37 [.slice qH mH cH, .slice fH kH dH, .slice tH iH eH]).cell (i := 0) rfl
  have bH_1 : XH.cell? ⟨w7.heap.size, 1, none⟩ = some (.slice fH kH dH) := by rw [hX]; exact (RowAt.new w7 37 [.slice qH mH cH, .slice fH kH dH, .slice tH iH eH]).cell (i := 1) rfl
  have bH_2 : XH.cell? ⟨w7.heap.size, 2, none⟩ = some (.slice tH iH eH) := by rw [hX]; exact (RowAt.new w7 37 [.slice qH mH cH, .slice fH kH dH, .slice tH iH eH]).cell (i := 2) rfl
  replace bW_0 := fkeep hb bW_0
  replace bW_1 := fkeep hb bW_1
  replace bW_2 := fkeep hb bW_2
  replace bG_0 := fkeep hb bG_0
  replace bG_1 := fkeep hb bG_1
  replace bG_2 := fkeep hb bG_2
  have HF := Lib.hid (fstep HF.out hb)
  replace HRW := Lib.hid (HRW.out.keep hb)
  replace HG := Lib.hid (HG.out.keep hb)
  replace HRH := Lib.hid (HRH.out.keep hb)
  clear hb
  have HbW_0 := Lib.hid bW_0
  have HbW_1 := Lib.hid bW_1
  have HbW_2 := Lib.hid bW_2
  have HbG_0 := Lib.hid bG_0
  have HbG_1 := Lib.hid bG_1
  have HbG_2 := Lib.hid bG_2
  have HbH_0 := Lib.hid bH_0
  have HbH_1 := Lib.hid bH_1
  have HbH_2 := Lib.hid bH_2
  clear bW_0 bW_1 bW_2 bG_0 bG_1 bG_2 bH_0 bH_1 bH_2
  have HXH := Lib.hid hX
  clear hX
  go_wp2_with fail
  rw [← HXH.out]
  clear HXH
  clear LbW_0 LbW_1 LbW_2 LbG_0 LbG_1 LbG_2
  have bW_0 := HbW_0.out
  have bW_1 := HbW_1.out
  have bW_2 := HbW_2.out
  have bG_0 := HbG_0.out
  have bG_1 := HbG_1.out
  have bG_2 := HbG_2.out
  have bH_0 := HbH_0.out
  have bH_1 := HbH_1.out
  have bH_2 := HbH_2.out
  clear HbW_0 HbW_1 HbW_2 HbG_0 HbG_1 HbG_2 HbH_0 HbH_1 HbH_2
  go_wp2_with fail
  refine (eqPlan_k _ _ r0 _ (HRH.out.own.plIn HSM.out.1) HRW.out.plIn).mono ?_
  rintro e w8 ⟨rfl, hb⟩
  have HSZ11 := Lib.hid (hb.size)
  replace bW_0 := fkeep hb bW_0
  replace bW_1 := fkeep hb bW_1
  replace bW_2 := fkeep hb bW_2
  replace bG_0 := fkeep hb bG_0
  replace bG_1 := fkeep hb bG_1
  replace bG_2 := fkeep hb bG_2
  replace bH_0 := fkeep hb bH_0
  replace bH_1 := fkeep hb bH_1
  replace bH_2 := fkeep hb bH_2
  have HF := Lib.hid (fstep HF.out hb)
  replace HRW := Lib.hid (HRW.out.keep hb)
  replace HG := Lib.hid (HG.out.keep hb)
  replace HRH := Lib.hid (HRH.out.keep hb)
  clear hb
  go_wp2_with fail
  refine (heldPl_o _ _ r0 1 _ _ HG.out HSM.out (by omega) (by omega)).mono ?_
  rintro e w9 ⟨rfl, hb⟩
  have HSZ12 := Lib.hid (hb.size)
  replace bW_0 := fkeep hb bW_0
  replace bW_1 := fkeep hb bW_1
  replace bW_2 := fkeep hb bW_2
  replace bG_0 := fkeep hb bG_0
  replace bG_1 := fkeep hb bG_1
  replace bG_2 := fkeep hb bG_2
  replace bH_0 := fkeep hb bH_0
  replace bH_1 := fkeep hb bH_1
  replace bH_2 := fkeep hb bH_2
  have HF := Lib.hid (fstep HF.out hb)
  replace HRW := Lib.hid (HRW.out.keep hb)
  replace HG := Lib.hid (HG.out.keep hb)
  replace HRH := Lib.hid (HRH.out.keep hb)
  clear hb
  go_wp2
  go_ret
  exact ⟨rfl, HF.out⟩
end Go.Proofs.YtjhaoonacjebpaaGreatDoor
