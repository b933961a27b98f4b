/- The walk of FnExactRouteChoices. -/
import Derived.Test.YteckjlkhopkogaaGreatKLs
import Derived.Test.YteckjlkhopkogaaGreatPm3
import Derived.Test.YteckjlkhopkogaaGreatMl
import Derived.Test.YteckjlkhopkogaaGreatU1
import Derived.Test.YteckjlkhopkogaaGreatKFm
import Derived.Test.YteckjlkhopkogaaGreatKDm
import Derived.Deep.RegionHeld3
import Derived.Deep.DeepCutAuto
namespace Go.Proofs.YteckjlkhopkogaaGreat
open Go.RowKit Go.PlainAid
set_option maxHeartbeats 4000000 in
set_option maxRecDepth 100000 in
theorem law_RouteChoices (v0:Value) (x0:PlanV) (v1:Value) (x1:List (Int × Int)) (g2a h2a l2a j2a:Int) (w:World) (h0:PlRaw w v0 x0) (h1:FmRaw w v1 x1) :
  Calls Tryz.prog 4 #[v0,v1, .agg #[.int .i64 g2a, .int .i64 h2a, .int .i64 l2a, .int .i64 j2a]] w fun e w'=>e = .returned (.bool true)∧Fresh w w':=by
 obtain ⟨q0a,m0a,c0a,p0a,k0a,d0a,r0a,i0a,e0a,hv0⟩:=h0.shape
 subst hv0
 have HI0:=Lib.hid h0
 clear h0
 have HI1:=Lib.hid h1
 clear h1
 have hlen:=rcL_small x0 x1 ⟨g2a,h2a,l2a,j2a⟩
 obtain ⟨r0,hr0⟩:∃ r0,r0 = (rcL x0 x1 ⟨g2a,h2a,l2a,j2a⟩):=⟨_,rfl⟩
 rw [← hr0] at hlen
 have HR0:=Lib.hid hr0
 clear hr0
 obtain ⟨r1,hr1⟩:∃ r1,r1 = rcB x0 x1 ⟨g2a,h2a,l2a,j2a⟩:=⟨_,rfl⟩
 have HR1:=Lib.hid hr1
 clear hr1
 have HSM:=Lib.hid hlen
 clear hlen
 obtain ⟨B0,hB0⟩:∃ B,B = w.alloc (.cells #[.slice q0a m0a c0a, .slice p0a k0a d0a, .slice r0a i0a e0a] 28):=⟨_,rfl⟩
 have hz0:B0.heap.size = w.heap.size + 1:=by rw [hB0]; simp
 have hf0:Fresh w B0:=by rw [hB0]; exact fnew (frefl _) _
 have hrow0:RowAt B0 w.heap.size 28 [.slice q0a m0a c0a, .slice p0a k0a d0a, .slice r0a i0a e0a]:=by rw [hB0]; exact RowAt.new _ _ _
 obtain ⟨B2,hB2⟩:∃ B,B = B0.alloc (.cells #[.int .i64 g2a, .int .i64 h2a, .int .i64 l2a, .int .i64 j2a] 51):=⟨_,rfl⟩
 have hz2:B2.heap.size = B0.heap.size + 1:=by rw [hB2]; simp
 have hf2:Fresh B0 B2:=by rw [hB2]; exact fnew (frefl _) _
 have hrow2:RowAt B2 B0.heap.size 51 [.int .i64 g2a, .int .i64 h2a, .int .i64 l2a, .int .i64 j2a]:=by rw [hB2]; exact RowAt.new _ _ _
 replace hrow0:=hrow0.keep hf2
 have HF:=Lib.hid (fstep (fstep (frefl w) hf0) hf2)
 have a0_0:=hrow0.cell (i:=0) rfl
 have a0_1:=hrow0.cell (i:=1) rfl
 have a0_2:=hrow0.cell (i:=2) rfl
 have a2_0:=hrow2.cell (i:=0) rfl
 have a2_1:=hrow2.cell (i:=1) rfl
 have a2_2:=hrow2.cell (i:=2) rfl
 have a2_3:=hrow2.cell (i:=3) rfl
 rw [hz0] at a2_0 a2_1 a2_2 a2_3
 have HB:=Lib.hid (And.intro hB0 hB2)
 clear hB0 hz0 hf0 hrow0 hB2 hz2 hf2 hrow2
 go_enter Tryz.func4,Tryz.ntmps4
 go_wp2_with fail
 rw [← HB.out.1,← HB.out.2]
 clear HB
 refine (szPlan_k _ x0 1048576 _ (PlRaw.keep HI0.out HF.out) (by omega) (by omega)).mono ?_
 rintro e w1 ⟨l0,rfl,l00,l01,hsm,hb⟩
 have HS0:=Lib.hid hsm
 clear hsm
 replace a0_0:=fkeep hb a0_0
 replace a0_1:=fkeep hb a0_1
 replace a0_2:=fkeep hb a0_2
 replace a2_0:=fkeep hb a2_0
 replace a2_1:=fkeep hb a2_1
 replace a2_2:=fkeep hb a2_2
 replace a2_3:=fkeep hb a2_3
 have HF:=Lib.hid (fstep HF.out hb)
 clear hb
 by_cases hneg0:l0 < 0
 ·go_wp2
  go_ret
  exact ⟨rfl,HF.out⟩
 go_wp2_with fail
 refine (szFm_k _ x1 l0 _ (FmRaw.keep HI1.out HF.out) (by omega) (by omega)).mono ?_
 rintro e w2 ⟨l1,rfl,l10,l11,hsm,hb⟩
 have HS1:=Lib.hid hsm
 clear hsm
 replace a0_0:=fkeep hb a0_0
 replace a0_1:=fkeep hb a0_1
 replace a0_2:=fkeep hb a0_2
 replace a2_0:=fkeep hb a2_0
 replace a2_1:=fkeep hb a2_1
 replace a2_2:=fkeep hb a2_2
 replace a2_3:=fkeep hb a2_3
 have HF:=Lib.hid (fstep HF.out hb)
 clear hb
 by_cases hneg1:l1 < 0
 ·go_wp2
  go_ret
  exact ⟨rfl,HF.out⟩
 replace HI0:=Lib.hid (PlRaw.small HI0.out (HS0.out (by omega)))
 clear HS0
 replace HI1:=Lib.hid (FmRaw.small HI1.out (HS1.out (by omega)))
 clear HS1
 have HSZ0:=Lib.hid HF.out.size
 have HSZ1:=Lib.hid (World.block_lt_of_cell? _ _ a2_0)
 go_wp2
 have HSS:Fresh w2 w2∧w2.cell? ⟨w.heap.size,0,none⟩ = some (.slice q0a m0a c0a)∧w2.cell? ⟨w.heap.size,1,none⟩ = some (.slice p0a k0a d0a)∧w2.cell? ⟨w.heap.size,2,none⟩ = some (.slice r0a i0a e0a)∧w2.cell? ⟨w.heap.size + 1,0,none⟩ = some (.int .i64 g2a)∧w2.cell? ⟨w.heap.size + 1,1,none⟩ = some (.int .i64 h2a)∧w2.cell? ⟨w.heap.size + 1,2,none⟩ = some (.int .i64 l2a)∧w2.cell? ⟨w.heap.size + 1,3,none⟩ = some (.int .i64 j2a):=⟨frefl _,a0_0,a0_1,a0_2,a2_0,a2_1,a2_2,a2_3⟩
 go_region_held3 (fun w'=>Fresh w2 w'∧w'.cell? ⟨w.heap.size,0,none⟩ = some (.slice q0a m0a c0a)∧w'.cell? ⟨w.heap.size,1,none⟩ = some (.slice p0a k0a d0a)∧w'.cell? ⟨w.heap.size,2,none⟩ = some (.slice r0a i0a e0a)∧w'.cell? ⟨w.heap.size + 1,0,none⟩ = some (.int .i64 g2a)∧w'.cell? ⟨w.heap.size + 1,1,none⟩ = some (.int .i64 h2a)∧w'.cell? ⟨w.heap.size + 1,2,none⟩ = some (.int .i64 l2a)∧w'.cell? ⟨w.heap.size + 1,3,none⟩ = some (.int .i64 j2a))
  (first | assumption | exact keepc7 (by assumption) (by assumption) | exact keepc7 (by assumption) (fdrew (frefl _)) | exact keepc7 (by assumption) (frefl _))
  (first | (go_at_call 21; refine (toPlan_k _ x0 _ (HI0.out.keep (fstep HF.out (And.left (by assumption))))).mono ?_; rintro e w3 ⟨y0,rfl,hy,hbb0⟩; have HY0:=Lib.hid hy; clear hy) | (go_at_call 22; refine (toFm_k _ x1 _ (HI1.out.keep (fstep HF.out (And.left (by assumption))))).mono ?_; rintro e w4 ⟨y1,rfl,hy,hbb1⟩; have HY1:=Lib.hid hy; clear hy) | (go_at_call 23; refine (toDemand_any g2a h2a l2a j2a _).mono ?_; rintro e w5 ⟨rfl,hbb2⟩) | (go_at_call 20; have hcc:=specRouteChoices_l _ x0 _ x1 ⟨g2a,h2a,l2a,j2a⟩ _ ((HY0.out.keep hbb1).keep hbb2) (HY1.out.keep hbb2); rw [← HR0.out,← HR1.out] at hcc; refine hcc.mono ?_; clear hcc; rintro e w6 ⟨vW,rfl,how,hb⟩))
 replace hb:Fresh w2 w6:=fstep (fstep (fstep (fstep (fdrew (frefl _)) hbb0) hbb1) hbb2) hb
 clear hbb0 hbb1 hbb2 HSS HY0 HY1
 have HRW:=Lib.hid (how.held.wide (Nat.zero_le _) (Nat.le_refl _))
 clear how
 have HSZ2:=Lib.hid (hb.size)
 replace a0_0:=fkeep hb a0_0
 replace a0_1:=fkeep hb a0_1
 replace a0_2:=fkeep hb a0_2
 replace a2_0:=fkeep hb a2_0
 replace a2_1:=fkeep hb a2_1
 replace a2_2:=fkeep hb a2_2
 replace a2_3:=fkeep hb a2_3
 have HF:=Lib.hid (fstep HF.out hb)
 clear hb
 go_wp2_with fail
 refine (toPlan_o _ x0 _ (HI0.out.keep HF.out)).mono ?_
 rintro e w7 ⟨z0,rfl,hy,hm,hb⟩
 have HZ0:=Lib.hid hy
 have HM0:=Lib.hid hm
 clear hy hm
 have HSZ3:=Lib.hid (hb.size)
 replace a0_0:=fkeep hb a0_0
 replace a0_1:=fkeep hb a0_1
 replace a0_2:=fkeep hb a0_2
 replace a2_0:=fkeep hb a2_0
 replace a2_1:=fkeep hb a2_1
 replace a2_2:=fkeep hb a2_2
 replace a2_3:=fkeep hb a2_3
 have HF:=Lib.hid (fstep HF.out hb)
 replace HRW:=Lib.hid (HRW.out.keep hb)
 clear hb
 obtain ⟨q0x,m0x,c0x,p0x,k0x,d0x,r0x,i0x,e0x,hv⟩:=HZ0.out.shape
 subst hv
 obtain ⟨Xx0,hX⟩:∃ X,X = w7.alloc (.cells #[.slice q0x m0x c0x, .slice p0x k0x d0x, .slice r0x i0x e0x] 38):=⟨_,rfl⟩
 have hb:Fresh w7 Xx0:=by rw [hX]; exact fnew (frefl _) _
 have HSZ4:=Lib.hid (show Xx0.heap.size = w7.heap.size + 1 by rw [hX]; simp)
 have La0_0:=fkeep (fnew (frefl w7) (.cells #[.slice q0x m0x c0x, .slice p0x k0x d0x, .slice r0x i0x e0x] 38)) a0_0
 have La0_1:=fkeep (fnew (frefl w7) (.cells #[.slice q0x m0x c0x, .slice p0x k0x d0x, .slice r0x i0x e0x] 38)) a0_1
 have La0_2:=fkeep (fnew (frefl w7) (.cells #[.slice q0x m0x c0x, .slice p0x k0x d0x, .slice r0x i0x e0x] 38)) a0_2
 have La2_0:=fkeep (fnew (frefl w7) (.cells #[.slice q0x m0x c0x, .slice p0x k0x d0x, .slice r0x i0x e0x] 38)) a2_0
 have La2_1:=fkeep (fnew (frefl w7) (.cells #[.slice q0x m0x c0x, .slice p0x k0x d0x, .slice r0x i0x e0x] 38)) a2_1
 have La2_2:=fkeep (fnew (frefl w7) (.cells #[.slice q0x m0x c0x, .slice p0x k0x d0x, .slice r0x i0x e0x] 38)) a2_2
 have La2_3:=fkeep (fnew (frefl w7) (.cells #[.slice q0x m0x c0x, .slice p0x k0x d0x, .slice r0x i0x e0x] 38)) a2_3
 have c0_0:Xx0.cell? ⟨w7.heap.size,0,none⟩ = some (.slice q0x m0x c0x):=by rw [hX]; exact (RowAt.new w7 38 [.slice q0x m0x c0x, .slice p0x k0x d0x, .slice r0x i0x e0x]).cell (i:=0) rfl
 have c0_1:Xx0.cell? ⟨w7.heap.size,1,none⟩ = some (.slice p0x k0x d0x):=by rw [hX]; exact (RowAt.new w7 38 [.slice q0x m0x c0x, .slice p0x k0x d0x, .slice r0x i0x e0x]).cell (i:=1) rfl
 have c0_2:Xx0.cell? ⟨w7.heap.size,2,none⟩ = some (.slice r0x i0x e0x):=by rw [hX]; exact (RowAt.new w7 38 [.slice q0x m0x c0x, .slice p0x k0x d0x, .slice r0x i0x e0x]).cell (i:=2) rfl
 replace a0_0:=fkeep hb a0_0
 replace a0_1:=fkeep hb a0_1
 replace a0_2:=fkeep hb a0_2
 replace a2_0:=fkeep hb a2_0
 replace a2_1:=fkeep hb a2_1
 replace a2_2:=fkeep hb a2_2
 replace a2_3:=fkeep hb a2_3
 have HF:=Lib.hid (fstep HF.out hb)
 replace HRW:=Lib.hid (HRW.out.keep hb)
 replace HZ0:=Lib.hid (HZ0.out.keep hb)
 replace HM0:=Lib.hid (HM0.out.keep hb)
 clear hb
 have Ha0_0:=Lib.hid a0_0
 have Ha0_1:=Lib.hid a0_1
 have Ha0_2:=Lib.hid a0_2
 have Ha2_0:=Lib.hid a2_0
 have Ha2_1:=Lib.hid a2_1
 have Ha2_2:=Lib.hid a2_2
 have Ha2_3:=Lib.hid a2_3
 have Hc0_0:=Lib.hid c0_0
 have Hc0_1:=Lib.hid c0_1
 have Hc0_2:=Lib.hid c0_2
 clear a0_0 a0_1 a0_2 a2_0 a2_1 a2_2 a2_3 c0_0 c0_1 c0_2
 have HXx0:=Lib.hid hX
 clear hX
 go_wp2_with fail
 rw [← HXx0.out]
 clear HXx0
 clear La0_0 La0_1 La0_2 La2_0 La2_1 La2_2 La2_3
 have a0_0:=Ha0_0.out
 have a0_1:=Ha0_1.out
 have a0_2:=Ha0_2.out
 have a2_0:=Ha2_0.out
 have a2_1:=Ha2_1.out
 have a2_2:=Ha2_2.out
 have a2_3:=Ha2_3.out
 have c0_0:=Hc0_0.out
 have c0_1:=Hc0_1.out
 have c0_2:=Hc0_2.out
 clear Ha0_0 Ha0_1 Ha0_2 Ha2_0 Ha2_1 Ha2_2 Ha2_3 Hc0_0 Hc0_1 Hc0_2
 go_wp2_with fail
 refine (toFm_o _ x1 _ (HI1.out.keep HF.out)).mono ?_
 rintro e w8 ⟨z1,rfl,hy,hm,hb⟩
 have HZ1:=Lib.hid hy
 have HM1:=Lib.hid hm
 clear hy hm
 have HSZ5:=Lib.hid (hb.size)
 replace a0_0:=fkeep hb a0_0
 replace a0_1:=fkeep hb a0_1
 replace a0_2:=fkeep hb a0_2
 replace a2_0:=fkeep hb a2_0
 replace a2_1:=fkeep hb a2_1
 replace a2_2:=fkeep hb a2_2
 replace a2_3:=fkeep hb a2_3
 replace c0_0:=fkeep hb c0_0
 replace c0_1:=fkeep hb c0_1
 replace c0_2:=fkeep hb c0_2
 have HF:=Lib.hid (fstep HF.out hb)
 replace HRW:=Lib.hid (HRW.out.keep hb)
 replace HZ0:=Lib.hid (HZ0.out.keep hb)
 replace HM0:=Lib.hid (HM0.out.keep hb)
 clear hb
 go_wp2
 have HSS:Fresh w8 w8∧w8.cell? ⟨w7.heap.size,0,none⟩ = some (.slice q0x m0x c0x)∧w8.cell? ⟨w7.heap.size,1,none⟩ = some (.slice p0x k0x d0x)∧w8.cell? ⟨w7.heap.size,2,none⟩ = some (.slice r0x i0x e0x)∧w8.cell? ⟨w.heap.size + 1,0,none⟩ = some (.int .i64 g2a)∧w8.cell? ⟨w.heap.size + 1,1,none⟩ = some (.int .i64 h2a)∧w8.cell? ⟨w.heap.size + 1,2,none⟩ = some (.int .i64 l2a)∧w8.cell? ⟨w.heap.size + 1,3,none⟩ = some (.int .i64 j2a):=⟨frefl _,c0_0,c0_1,c0_2,a2_0,a2_1,a2_2,a2_3⟩
 go_region_held3 (fun w'=>Fresh w8 w'∧w'.cell? ⟨w7.heap.size,0,none⟩ = some (.slice q0x m0x c0x)∧w'.cell? ⟨w7.heap.size,1,none⟩ = some (.slice p0x k0x d0x)∧w'.cell? ⟨w7.heap.size,2,none⟩ = some (.slice r0x i0x e0x)∧w'.cell? ⟨w.heap.size + 1,0,none⟩ = some (.int .i64 g2a)∧w'.cell? ⟨w.heap.size + 1,1,none⟩ = some (.int .i64 h2a)∧w'.cell? ⟨w.heap.size + 1,2,none⟩ = some (.int .i64 l2a)∧w'.cell? ⟨w.heap.size + 1,3,none⟩ = some (.int .i64 j2a))
  (first | assumption | exact keepc7 (by assumption) (by assumption) | exact keepc7 (by assumption) (fdrew (frefl _)) | exact keepc7 (by assumption) (frefl _))
  (first | (go_at_call 23; refine (toDemand_any g2a h2a l2a j2a _).mono ?_; rintro e w9 ⟨rfl,hbb2⟩) | (go_at_call 24; have hcc:=implRouteChoices_l _ x0 _ x1 ⟨g2a,h2a,l2a,j2a⟩ _ (HZ0.out.keep (fstep (fdrew (frefl _)) hbb2)) (HZ1.out.keep (fstep (fdrew (frefl _)) hbb2)); rw [← HR0.out,← HR1.out] at hcc; refine hcc.mono ?_; clear hcc; rintro e w10 ⟨vG,rfl,how,hb⟩))
 replace how:=how.held.wide (show w8.heap.size ≤ _ from (fstep (fdrew (frefl _)) hbb2).size) (Nat.le_refl _)
 replace hb:Fresh w8 w10:=fstep (fstep (fdrew (frefl _)) hbb2) hb
 clear hbb2 HSS
 have HRG:=Lib.hid how
 clear how
 have HSZ6:=Lib.hid (hb.size)
 replace a0_0:=fkeep hb a0_0
 replace a0_1:=fkeep hb a0_1
 replace a0_2:=fkeep hb a0_2
 replace a2_0:=fkeep hb a2_0
 replace a2_1:=fkeep hb a2_1
 replace a2_2:=fkeep hb a2_2
 replace a2_3:=fkeep hb a2_3
 replace c0_0:=fkeep hb c0_0
 replace c0_1:=fkeep hb c0_1
 replace c0_2:=fkeep hb c0_2
 have HF:=Lib.hid (fstep HF.out hb)
 replace HRW:=Lib.hid (HRW.out.keep hb)
 replace HZ0:=Lib.hid (HZ0.out.keep hb)
 replace HM0:=Lib.hid (HM0.out.keep hb)
 replace HZ1:=Lib.hid (HZ1.out.keep hb)
 replace HM1:=Lib.hid (HM1.out.keep hb)
 clear hb
 go_wp2_with fail
 refine (eqLs_r vG vW _ _ _ _ r0 _ (HRG.out) (HRW.out) HSM.out).mono ?_
 rintro e w11 ⟨rfl,hb⟩
 have HSZ7:=Lib.hid (hb.size)
 replace a0_0:=fkeep hb a0_0
 replace a0_1:=fkeep hb a0_1
 replace a0_2:=fkeep hb a0_2
 replace a2_0:=fkeep hb a2_0
 replace a2_1:=fkeep hb a2_1
 replace a2_2:=fkeep hb a2_2
 replace a2_3:=fkeep hb a2_3
 replace c0_0:=fkeep hb c0_0
 replace c0_1:=fkeep hb c0_1
 replace c0_2:=fkeep hb c0_2
 have HF:=Lib.hid (fstep HF.out hb)
 replace HRW:=Lib.hid (HRW.out.keep hb)
 replace HZ0:=Lib.hid (HZ0.out.keep hb)
 replace HM0:=Lib.hid (HM0.out.keep hb)
 replace HZ1:=Lib.hid (HZ1.out.keep hb)
 replace HM1:=Lib.hid (HM1.out.keep hb)
 replace HRG:=Lib.hid (HRG.out.keep hb)
 clear hb
 go_wp2
 have HSS:Fresh w11 w11∧w11.cell? ⟨w7.heap.size,0,none⟩ = some (.slice q0x m0x c0x)∧w11.cell? ⟨w7.heap.size,1,none⟩ = some (.slice p0x k0x d0x)∧w11.cell? ⟨w7.heap.size,2,none⟩ = some (.slice r0x i0x e0x)∧w11.cell? ⟨w.heap.size,0,none⟩ = some (.slice q0a m0a c0a)∧w11.cell? ⟨w.heap.size,1,none⟩ = some (.slice p0a k0a d0a)∧w11.cell? ⟨w.heap.size,2,none⟩ = some (.slice r0a i0a e0a):=⟨frefl _,c0_0,c0_1,c0_2,a0_0,a0_1,a0_2⟩
 go_region_held3 (fun w'=>Fresh w11 w'∧w'.cell? ⟨w7.heap.size,0,none⟩ = some (.slice q0x m0x c0x)∧w'.cell? ⟨w7.heap.size,1,none⟩ = some (.slice p0x k0x d0x)∧w'.cell? ⟨w7.heap.size,2,none⟩ = some (.slice r0x i0x e0x)∧w'.cell? ⟨w.heap.size,0,none⟩ = some (.slice q0a m0a c0a)∧w'.cell? ⟨w.heap.size,1,none⟩ = some (.slice p0a k0a d0a)∧w'.cell? ⟨w.heap.size,2,none⟩ = some (.slice r0a i0a e0a))
  (first | assumption | exact keepc6 (by assumption) (by assumption) | exact keepc6 (by assumption) (fdrew (frefl _)) | exact keepc6 (by assumption) (frefl _))
  (first | (go_at_call 21; refine (toPlan_k _ x0 _ (HI0.out.keep (fstep HF.out (And.left (by assumption))))).mono ?_; rintro e w12 ⟨t0,rfl,hy,hb10⟩; have HT0:=Lib.hid hy; clear hy) | (go_at_call 13; refine (eqPlan_k _ _ x0 _ (HZ0.out.keep (And.left (by assumption))) HT0.out).mono ?_; rintro e w13 ⟨rfl,hb11⟩))
 have hb:Fresh w11 w13:=fstep (fstep (fdrew (frefl _)) hb10) hb11
 clear hb10 hb11 HSS HT0
 have HSZ8:=Lib.hid (hb.size)
 replace a0_0:=fkeep hb a0_0
 replace a0_1:=fkeep hb a0_1
 replace a0_2:=fkeep hb a0_2
 replace a2_0:=fkeep hb a2_0
 replace a2_1:=fkeep hb a2_1
 replace a2_2:=fkeep hb a2_2
 replace a2_3:=fkeep hb a2_3
 replace c0_0:=fkeep hb c0_0
 replace c0_1:=fkeep hb c0_1
 replace c0_2:=fkeep hb c0_2
 have HF:=Lib.hid (fstep HF.out hb)
 replace HRW:=Lib.hid (HRW.out.keep hb)
 replace HZ0:=Lib.hid (HZ0.out.keep hb)
 replace HM0:=Lib.hid (HM0.out.keep hb)
 replace HZ1:=Lib.hid (HZ1.out.keep hb)
 replace HM1:=Lib.hid (HM1.out.keep hb)
 replace HRG:=Lib.hid (HRG.out.keep hb)
 clear hb
 go_wp2_with fail
 refine (toFm_k _ x1 _ (HI1.out.keep HF.out)).mono ?_
 rintro e w14 ⟨t1,rfl,hy,hb⟩
 have HT1:=Lib.hid hy
 clear hy
 have HSZ9:=Lib.hid (hb.size)
 replace a0_0:=fkeep hb a0_0
 replace a0_1:=fkeep hb a0_1
 replace a0_2:=fkeep hb a0_2
 replace a2_0:=fkeep hb a2_0
 replace a2_1:=fkeep hb a2_1
 replace a2_2:=fkeep hb a2_2
 replace a2_3:=fkeep hb a2_3
 replace c0_0:=fkeep hb c0_0
 replace c0_1:=fkeep hb c0_1
 replace c0_2:=fkeep hb c0_2
 have HF:=Lib.hid (fstep HF.out hb)
 replace HRW:=Lib.hid (HRW.out.keep hb)
 replace HZ0:=Lib.hid (HZ0.out.keep hb)
 replace HM0:=Lib.hid (HM0.out.keep hb)
 replace HZ1:=Lib.hid (HZ1.out.keep hb)
 replace HM1:=Lib.hid (HM1.out.keep hb)
 replace HRG:=Lib.hid (HRG.out.keep hb)
 clear hb
 go_wp2_with fail
 refine (eqFm_k _ _ x1 _ HZ1.out (HT1.out)).mono ?_
 rintro e w15 ⟨rfl,hb⟩
 have HSZ10:=Lib.hid (hb.size)
 replace a0_0:=fkeep hb a0_0
 replace a0_1:=fkeep hb a0_1
 replace a0_2:=fkeep hb a0_2
 replace a2_0:=fkeep hb a2_0
 replace a2_1:=fkeep hb a2_1
 replace a2_2:=fkeep hb a2_2
 replace a2_3:=fkeep hb a2_3
 replace c0_0:=fkeep hb c0_0
 replace c0_1:=fkeep hb c0_1
 replace c0_2:=fkeep hb c0_2
 have HF:=Lib.hid (fstep HF.out hb)
 replace HRW:=Lib.hid (HRW.out.keep hb)
 replace HZ0:=Lib.hid (HZ0.out.keep hb)
 replace HM0:=Lib.hid (HM0.out.keep hb)
 replace HZ1:=Lib.hid (HZ1.out.keep hb)
 replace HM1:=Lib.hid (HM1.out.keep hb)
 replace HRG:=Lib.hid (HRG.out.keep hb)
 clear hb
 clear HT1
 clear HZ0 HZ1
 go_wp2_with fail
 refine (markPlan_m _ (w6.heap.size) (w7.heap.size) 1 _ HM0.out (by have s0:=HSZ0.out; have s1:=HSZ1.out; have s2:=HSZ2.out; have s3:=HSZ3.out; have s4:=HSZ4.out; have s5:=HSZ5.out; have s6:=HSZ6.out; have s7:=HSZ7.out; have s8:=HSZ8.out; have s9:=HSZ9.out; have s10:=HSZ10.out; omega) (by have s0:=HSZ0.out; have s1:=HSZ1.out; have s2:=HSZ2.out; have s3:=HSZ3.out; have s4:=HSZ4.out; have s5:=HSZ5.out; have s6:=HSZ6.out; have s7:=HSZ7.out; have s8:=HSZ8.out; have s9:=HSZ9.out; have s10:=HSZ10.out; omega) (by omega) (by omega)).mono ?_
 rintro e w16 ⟨k0,rfl,hka0,hkb0,hb⟩
 clear HM0
 replace hkb0:k0 ≤ 1 + 17592186044416:=hkb0
 have HSZ11:=Lib.hid (hb.low.size)
 replace a0_0:=Mk.cell hb (by first | exact Or.inl (by have s0:=HSZ0.out; have s1:=HSZ1.out; have s2:=HSZ2.out; have s3:=HSZ3.out; have s4:=HSZ4.out; have s5:=HSZ5.out; have s6:=HSZ6.out; have s7:=HSZ7.out; have s8:=HSZ8.out; have s9:=HSZ9.out; have s10:=HSZ10.out; have s11:=HSZ11.out; omega) | exact Or.inr (by have s0:=HSZ0.out; have s1:=HSZ1.out; have s2:=HSZ2.out; have s3:=HSZ3.out; have s4:=HSZ4.out; have s5:=HSZ5.out; have s6:=HSZ6.out; have s7:=HSZ7.out; have s8:=HSZ8.out; have s9:=HSZ9.out; have s10:=HSZ10.out; have s11:=HSZ11.out; omega)) a0_0
 replace a0_1:=Mk.cell hb (by first | exact Or.inl (by have s0:=HSZ0.out; have s1:=HSZ1.out; have s2:=HSZ2.out; have s3:=HSZ3.out; have s4:=HSZ4.out; have s5:=HSZ5.out; have s6:=HSZ6.out; have s7:=HSZ7.out; have s8:=HSZ8.out; have s9:=HSZ9.out; have s10:=HSZ10.out; have s11:=HSZ11.out; omega) | exact Or.inr (by have s0:=HSZ0.out; have s1:=HSZ1.out; have s2:=HSZ2.out; have s3:=HSZ3.out; have s4:=HSZ4.out; have s5:=HSZ5.out; have s6:=HSZ6.out; have s7:=HSZ7.out; have s8:=HSZ8.out; have s9:=HSZ9.out; have s10:=HSZ10.out; have s11:=HSZ11.out; omega)) a0_1
 replace a0_2:=Mk.cell hb (by first | exact Or.inl (by have s0:=HSZ0.out; have s1:=HSZ1.out; have s2:=HSZ2.out; have s3:=HSZ3.out; have s4:=HSZ4.out; have s5:=HSZ5.out; have s6:=HSZ6.out; have s7:=HSZ7.out; have s8:=HSZ8.out; have s9:=HSZ9.out; have s10:=HSZ10.out; have s11:=HSZ11.out; omega) | exact Or.inr (by have s0:=HSZ0.out; have s1:=HSZ1.out; have s2:=HSZ2.out; have s3:=HSZ3.out; have s4:=HSZ4.out; have s5:=HSZ5.out; have s6:=HSZ6.out; have s7:=HSZ7.out; have s8:=HSZ8.out; have s9:=HSZ9.out; have s10:=HSZ10.out; have s11:=HSZ11.out; omega)) a0_2
 replace a2_0:=Mk.cell hb (by first | exact Or.inl (by have s0:=HSZ0.out; have s1:=HSZ1.out; have s2:=HSZ2.out; have s3:=HSZ3.out; have s4:=HSZ4.out; have s5:=HSZ5.out; have s6:=HSZ6.out; have s7:=HSZ7.out; have s8:=HSZ8.out; have s9:=HSZ9.out; have s10:=HSZ10.out; have s11:=HSZ11.out; omega) | exact Or.inr (by have s0:=HSZ0.out; have s1:=HSZ1.out; have s2:=HSZ2.out; have s3:=HSZ3.out; have s4:=HSZ4.out; have s5:=HSZ5.out; have s6:=HSZ6.out; have s7:=HSZ7.out; have s8:=HSZ8.out; have s9:=HSZ9.out; have s10:=HSZ10.out; have s11:=HSZ11.out; omega)) a2_0
 replace a2_1:=Mk.cell hb (by first | exact Or.inl (by have s0:=HSZ0.out; have s1:=HSZ1.out; have s2:=HSZ2.out; have s3:=HSZ3.out; have s4:=HSZ4.out; have s5:=HSZ5.out; have s6:=HSZ6.out; have s7:=HSZ7.out; have s8:=HSZ8.out; have s9:=HSZ9.out; have s10:=HSZ10.out; have s11:=HSZ11.out; omega) | exact Or.inr (by have s0:=HSZ0.out; have s1:=HSZ1.out; have s2:=HSZ2.out; have s3:=HSZ3.out; have s4:=HSZ4.out; have s5:=HSZ5.out; have s6:=HSZ6.out; have s7:=HSZ7.out; have s8:=HSZ8.out; have s9:=HSZ9.out; have s10:=HSZ10.out; have s11:=HSZ11.out; omega)) a2_1
 replace a2_2:=Mk.cell hb (by first | exact Or.inl (by have s0:=HSZ0.out; have s1:=HSZ1.out; have s2:=HSZ2.out; have s3:=HSZ3.out; have s4:=HSZ4.out; have s5:=HSZ5.out; have s6:=HSZ6.out; have s7:=HSZ7.out; have s8:=HSZ8.out; have s9:=HSZ9.out; have s10:=HSZ10.out; have s11:=HSZ11.out; omega) | exact Or.inr (by have s0:=HSZ0.out; have s1:=HSZ1.out; have s2:=HSZ2.out; have s3:=HSZ3.out; have s4:=HSZ4.out; have s5:=HSZ5.out; have s6:=HSZ6.out; have s7:=HSZ7.out; have s8:=HSZ8.out; have s9:=HSZ9.out; have s10:=HSZ10.out; have s11:=HSZ11.out; omega)) a2_2
 replace a2_3:=Mk.cell hb (by first | exact Or.inl (by have s0:=HSZ0.out; have s1:=HSZ1.out; have s2:=HSZ2.out; have s3:=HSZ3.out; have s4:=HSZ4.out; have s5:=HSZ5.out; have s6:=HSZ6.out; have s7:=HSZ7.out; have s8:=HSZ8.out; have s9:=HSZ9.out; have s10:=HSZ10.out; have s11:=HSZ11.out; omega) | exact Or.inr (by have s0:=HSZ0.out; have s1:=HSZ1.out; have s2:=HSZ2.out; have s3:=HSZ3.out; have s4:=HSZ4.out; have s5:=HSZ5.out; have s6:=HSZ6.out; have s7:=HSZ7.out; have s8:=HSZ8.out; have s9:=HSZ9.out; have s10:=HSZ10.out; have s11:=HSZ11.out; omega)) a2_3
 replace c0_0:=Mk.cell hb (by first | exact Or.inl (by have s0:=HSZ0.out; have s1:=HSZ1.out; have s2:=HSZ2.out; have s3:=HSZ3.out; have s4:=HSZ4.out; have s5:=HSZ5.out; have s6:=HSZ6.out; have s7:=HSZ7.out; have s8:=HSZ8.out; have s9:=HSZ9.out; have s10:=HSZ10.out; have s11:=HSZ11.out; omega) | exact Or.inr (by have s0:=HSZ0.out; have s1:=HSZ1.out; have s2:=HSZ2.out; have s3:=HSZ3.out; have s4:=HSZ4.out; have s5:=HSZ5.out; have s6:=HSZ6.out; have s7:=HSZ7.out; have s8:=HSZ8.out; have s9:=HSZ9.out; have s10:=HSZ10.out; have s11:=HSZ11.out; omega)) c0_0
 replace c0_1:=Mk.cell hb (by first | exact Or.inl (by have s0:=HSZ0.out; have s1:=HSZ1.out; have s2:=HSZ2.out; have s3:=HSZ3.out; have s4:=HSZ4.out; have s5:=HSZ5.out; have s6:=HSZ6.out; have s7:=HSZ7.out; have s8:=HSZ8.out; have s9:=HSZ9.out; have s10:=HSZ10.out; have s11:=HSZ11.out; omega) | exact Or.inr (by have s0:=HSZ0.out; have s1:=HSZ1.out; have s2:=HSZ2.out; have s3:=HSZ3.out; have s4:=HSZ4.out; have s5:=HSZ5.out; have s6:=HSZ6.out; have s7:=HSZ7.out; have s8:=HSZ8.out; have s9:=HSZ9.out; have s10:=HSZ10.out; have s11:=HSZ11.out; omega)) c0_1
 replace c0_2:=Mk.cell hb (by first | exact Or.inl (by have s0:=HSZ0.out; have s1:=HSZ1.out; have s2:=HSZ2.out; have s3:=HSZ3.out; have s4:=HSZ4.out; have s5:=HSZ5.out; have s6:=HSZ6.out; have s7:=HSZ7.out; have s8:=HSZ8.out; have s9:=HSZ9.out; have s10:=HSZ10.out; have s11:=HSZ11.out; omega) | exact Or.inr (by have s0:=HSZ0.out; have s1:=HSZ1.out; have s2:=HSZ2.out; have s3:=HSZ3.out; have s4:=HSZ4.out; have s5:=HSZ5.out; have s6:=HSZ6.out; have s7:=HSZ7.out; have s8:=HSZ8.out; have s9:=HSZ9.out; have s10:=HSZ10.out; have s11:=HSZ11.out; omega)) c0_2
 have HF:=Lib.hid (Mk.fresh_of HF.out hb (by have s0:=HSZ0.out; have s1:=HSZ1.out; have s2:=HSZ2.out; have s3:=HSZ3.out; have s4:=HSZ4.out; have s5:=HSZ5.out; have s6:=HSZ6.out; have s7:=HSZ7.out; have s8:=HSZ8.out; have s9:=HSZ9.out; have s10:=HSZ10.out; have s11:=HSZ11.out; omega))
 replace HRW:=Lib.hid (HRW.out.mk hb (by first | exact Or.inl (by have s0:=HSZ0.out; have s1:=HSZ1.out; have s2:=HSZ2.out; have s3:=HSZ3.out; have s4:=HSZ4.out; have s5:=HSZ5.out; have s6:=HSZ6.out; have s7:=HSZ7.out; have s8:=HSZ8.out; have s9:=HSZ9.out; have s10:=HSZ10.out; have s11:=HSZ11.out; omega) | exact Or.inr (by have s0:=HSZ0.out; have s1:=HSZ1.out; have s2:=HSZ2.out; have s3:=HSZ3.out; have s4:=HSZ4.out; have s5:=HSZ5.out; have s6:=HSZ6.out; have s7:=HSZ7.out; have s8:=HSZ8.out; have s9:=HSZ9.out; have s10:=HSZ10.out; have s11:=HSZ11.out; omega)))
 replace HM1:=Lib.hid (HM1.out.mk (by decide) hb)
 replace HRG:=Lib.hid (HRG.out.mk hb (by first | exact Or.inl (by have s0:=HSZ0.out; have s1:=HSZ1.out; have s2:=HSZ2.out; have s3:=HSZ3.out; have s4:=HSZ4.out; have s5:=HSZ5.out; have s6:=HSZ6.out; have s7:=HSZ7.out; have s8:=HSZ8.out; have s9:=HSZ9.out; have s10:=HSZ10.out; have s11:=HSZ11.out; omega) | exact Or.inr (by have s0:=HSZ0.out; have s1:=HSZ1.out; have s2:=HSZ2.out; have s3:=HSZ3.out; have s4:=HSZ4.out; have s5:=HSZ5.out; have s6:=HSZ6.out; have s7:=HSZ7.out; have s8:=HSZ8.out; have s9:=HSZ9.out; have s10:=HSZ10.out; have s11:=HSZ11.out; omega)))
 clear hb
 go_wp2_with fail
 refine (markFm_m _ (Xx0.heap.size) (w8.heap.size) k0 _ HM1.out (by omega) (by omega)).mono ?_
 rintro e w17 ⟨k1,rfl,hka1,hkb1,hb⟩
 clear HM1
 replace hkb1:k1 ≤ k0 + 8796093022208:=hkb1
 have HSZ12:=Lib.hid (hb.low.size)
 replace a0_0:=Mk.cell hb (by first | exact Or.inl (by have s0:=HSZ0.out; have s1:=HSZ1.out; have s2:=HSZ2.out; have s3:=HSZ3.out; have s4:=HSZ4.out; have s5:=HSZ5.out; have s6:=HSZ6.out; have s7:=HSZ7.out; have s8:=HSZ8.out; have s9:=HSZ9.out; have s10:=HSZ10.out; have s11:=HSZ11.out; have s12:=HSZ12.out; omega) | exact Or.inr (by have s0:=HSZ0.out; have s1:=HSZ1.out; have s2:=HSZ2.out; have s3:=HSZ3.out; have s4:=HSZ4.out; have s5:=HSZ5.out; have s6:=HSZ6.out; have s7:=HSZ7.out; have s8:=HSZ8.out; have s9:=HSZ9.out; have s10:=HSZ10.out; have s11:=HSZ11.out; have s12:=HSZ12.out; omega)) a0_0
 replace a0_1:=Mk.cell hb (by first | exact Or.inl (by have s0:=HSZ0.out; have s1:=HSZ1.out; have s2:=HSZ2.out; have s3:=HSZ3.out; have s4:=HSZ4.out; have s5:=HSZ5.out; have s6:=HSZ6.out; have s7:=HSZ7.out; have s8:=HSZ8.out; have s9:=HSZ9.out; have s10:=HSZ10.out; have s11:=HSZ11.out; have s12:=HSZ12.out; omega) | exact Or.inr (by have s0:=HSZ0.out; have s1:=HSZ1.out; have s2:=HSZ2.out; have s3:=HSZ3.out; have s4:=HSZ4.out; have s5:=HSZ5.out; have s6:=HSZ6.out; have s7:=HSZ7.out; have s8:=HSZ8.out; have s9:=HSZ9.out; have s10:=HSZ10.out; have s11:=HSZ11.out; have s12:=HSZ12.out; omega)) a0_1
 replace a0_2:=Mk.cell hb (by first | exact Or.inl (by have s0:=HSZ0.out; have s1:=HSZ1.out; have s2:=HSZ2.out; have s3:=HSZ3.out; have s4:=HSZ4.out; have s5:=HSZ5.out; have s6:=HSZ6.out; have s7:=HSZ7.out; have s8:=HSZ8.out; have s9:=HSZ9.out; have s10:=HSZ10.out; have s11:=HSZ11.out; have s12:=HSZ12.out; omega) | exact Or.inr (by have s0:=HSZ0.out; have s1:=HSZ1.out; have s2:=HSZ2.out; have s3:=HSZ3.out; have s4:=HSZ4.out; have s5:=HSZ5.out; have s6:=HSZ6.out; have s7:=HSZ7.out; have s8:=HSZ8.out; have s9:=HSZ9.out; have s10:=HSZ10.out; have s11:=HSZ11.out; have s12:=HSZ12.out; omega)) a0_2
 replace a2_0:=Mk.cell hb (by first | exact Or.inl (by have s0:=HSZ0.out; have s1:=HSZ1.out; have s2:=HSZ2.out; have s3:=HSZ3.out; have s4:=HSZ4.out; have s5:=HSZ5.out; have s6:=HSZ6.out; have s7:=HSZ7.out; have s8:=HSZ8.out; have s9:=HSZ9.out; have s10:=HSZ10.out; have s11:=HSZ11.out; have s12:=HSZ12.out; omega) | exact Or.inr (by have s0:=HSZ0.out; have s1:=HSZ1.out; have s2:=HSZ2.out; have s3:=HSZ3.out; have s4:=HSZ4.out; have s5:=HSZ5.out; have s6:=HSZ6.out; have s7:=HSZ7.out; have s8:=HSZ8.out; have s9:=HSZ9.out; have s10:=HSZ10.out; have s11:=HSZ11.out; have s12:=HSZ12.out; omega)) a2_0
 replace a2_1:=Mk.cell hb (by first | exact Or.inl (by have s0:=HSZ0.out; have s1:=HSZ1.out; have s2:=HSZ2.out; have s3:=HSZ3.out; have s4:=HSZ4.out; have s5:=HSZ5.out; have s6:=HSZ6.out; have s7:=HSZ7.out; have s8:=HSZ8.out; have s9:=HSZ9.out; have s10:=HSZ10.out; have s11:=HSZ11.out; have s12:=HSZ12.out; omega) | exact Or.inr (by have s0:=HSZ0.out; have s1:=HSZ1.out; have s2:=HSZ2.out; have s3:=HSZ3.out; have s4:=HSZ4.out; have s5:=HSZ5.out; have s6:=HSZ6.out; have s7:=HSZ7.out; have s8:=HSZ8.out; have s9:=HSZ9.out; have s10:=HSZ10.out; have s11:=HSZ11.out; have s12:=HSZ12.out; omega)) a2_1
 replace a2_2:=Mk.cell hb (by first | exact Or.inl (by have s0:=HSZ0.out; have s1:=HSZ1.out; have s2:=HSZ2.out; have s3:=HSZ3.out; have s4:=HSZ4.out; have s5:=HSZ5.out; have s6:=HSZ6.out; have s7:=HSZ7.out; have s8:=HSZ8.out; have s9:=HSZ9.out; have s10:=HSZ10.out; have s11:=HSZ11.out; have s12:=HSZ12.out; omega) | exact Or.inr (by have s0:=HSZ0.out; have s1:=HSZ1.out; have s2:=HSZ2.out; have s3:=HSZ3.out; have s4:=HSZ4.out; have s5:=HSZ5.out; have s6:=HSZ6.out; have s7:=HSZ7.out; have s8:=HSZ8.out; have s9:=HSZ9.out; have s10:=HSZ10.out; have s11:=HSZ11.out; have s12:=HSZ12.out; omega)) a2_2
 replace a2_3:=Mk.cell hb (by first | exact Or.inl (by have s0:=HSZ0.out; have s1:=HSZ1.out; have s2:=HSZ2.out; have s3:=HSZ3.out; have s4:=HSZ4.out; have s5:=HSZ5.out; have s6:=HSZ6.out; have s7:=HSZ7.out; have s8:=HSZ8.out; have s9:=HSZ9.out; have s10:=HSZ10.out; have s11:=HSZ11.out; have s12:=HSZ12.out; omega) | exact Or.inr (by have s0:=HSZ0.out; have s1:=HSZ1.out; have s2:=HSZ2.out; have s3:=HSZ3.out; have s4:=HSZ4.out; have s5:=HSZ5.out; have s6:=HSZ6.out; have s7:=HSZ7.out; have s8:=HSZ8.out; have s9:=HSZ9.out; have s10:=HSZ10.out; have s11:=HSZ11.out; have s12:=HSZ12.out; omega)) a2_3
 replace c0_0:=Mk.cell hb (by first | exact Or.inl (by have s0:=HSZ0.out; have s1:=HSZ1.out; have s2:=HSZ2.out; have s3:=HSZ3.out; have s4:=HSZ4.out; have s5:=HSZ5.out; have s6:=HSZ6.out; have s7:=HSZ7.out; have s8:=HSZ8.out; have s9:=HSZ9.out; have s10:=HSZ10.out; have s11:=HSZ11.out; have s12:=HSZ12.out; omega) | exact Or.inr (by have s0:=HSZ0.out; have s1:=HSZ1.out; have s2:=HSZ2.out; have s3:=HSZ3.out; have s4:=HSZ4.out; have s5:=HSZ5.out; have s6:=HSZ6.out; have s7:=HSZ7.out; have s8:=HSZ8.out; have s9:=HSZ9.out; have s10:=HSZ10.out; have s11:=HSZ11.out; have s12:=HSZ12.out; omega)) c0_0
 replace c0_1:=Mk.cell hb (by first | exact Or.inl (by have s0:=HSZ0.out; have s1:=HSZ1.out; have s2:=HSZ2.out; have s3:=HSZ3.out; have s4:=HSZ4.out; have s5:=HSZ5.out; have s6:=HSZ6.out; have s7:=HSZ7.out; have s8:=HSZ8.out; have s9:=HSZ9.out; have s10:=HSZ10.out; have s11:=HSZ11.out; have s12:=HSZ12.out; omega) | exact Or.inr (by have s0:=HSZ0.out; have s1:=HSZ1.out; have s2:=HSZ2.out; have s3:=HSZ3.out; have s4:=HSZ4.out; have s5:=HSZ5.out; have s6:=HSZ6.out; have s7:=HSZ7.out; have s8:=HSZ8.out; have s9:=HSZ9.out; have s10:=HSZ10.out; have s11:=HSZ11.out; have s12:=HSZ12.out; omega)) c0_1
 replace c0_2:=Mk.cell hb (by first | exact Or.inl (by have s0:=HSZ0.out; have s1:=HSZ1.out; have s2:=HSZ2.out; have s3:=HSZ3.out; have s4:=HSZ4.out; have s5:=HSZ5.out; have s6:=HSZ6.out; have s7:=HSZ7.out; have s8:=HSZ8.out; have s9:=HSZ9.out; have s10:=HSZ10.out; have s11:=HSZ11.out; have s12:=HSZ12.out; omega) | exact Or.inr (by have s0:=HSZ0.out; have s1:=HSZ1.out; have s2:=HSZ2.out; have s3:=HSZ3.out; have s4:=HSZ4.out; have s5:=HSZ5.out; have s6:=HSZ6.out; have s7:=HSZ7.out; have s8:=HSZ8.out; have s9:=HSZ9.out; have s10:=HSZ10.out; have s11:=HSZ11.out; have s12:=HSZ12.out; omega)) c0_2
 have HF:=Lib.hid (Mk.fresh_of HF.out hb (by have s0:=HSZ0.out; have s1:=HSZ1.out; have s2:=HSZ2.out; have s3:=HSZ3.out; have s4:=HSZ4.out; have s5:=HSZ5.out; have s6:=HSZ6.out; have s7:=HSZ7.out; have s8:=HSZ8.out; have s9:=HSZ9.out; have s10:=HSZ10.out; have s11:=HSZ11.out; have s12:=HSZ12.out; omega))
 replace HRW:=Lib.hid (HRW.out.mk hb (by first | exact Or.inl (by have s0:=HSZ0.out; have s1:=HSZ1.out; have s2:=HSZ2.out; have s3:=HSZ3.out; have s4:=HSZ4.out; have s5:=HSZ5.out; have s6:=HSZ6.out; have s7:=HSZ7.out; have s8:=HSZ8.out; have s9:=HSZ9.out; have s10:=HSZ10.out; have s11:=HSZ11.out; have s12:=HSZ12.out; omega) | exact Or.inr (by have s0:=HSZ0.out; have s1:=HSZ1.out; have s2:=HSZ2.out; have s3:=HSZ3.out; have s4:=HSZ4.out; have s5:=HSZ5.out; have s6:=HSZ6.out; have s7:=HSZ7.out; have s8:=HSZ8.out; have s9:=HSZ9.out; have s10:=HSZ10.out; have s11:=HSZ11.out; have s12:=HSZ12.out; omega)))
 replace HRG:=Lib.hid (HRG.out.mk hb (by first | exact Or.inl (by have s0:=HSZ0.out; have s1:=HSZ1.out; have s2:=HSZ2.out; have s3:=HSZ3.out; have s4:=HSZ4.out; have s5:=HSZ5.out; have s6:=HSZ6.out; have s7:=HSZ7.out; have s8:=HSZ8.out; have s9:=HSZ9.out; have s10:=HSZ10.out; have s11:=HSZ11.out; have s12:=HSZ12.out; omega) | exact Or.inr (by have s0:=HSZ0.out; have s1:=HSZ1.out; have s2:=HSZ2.out; have s3:=HSZ3.out; have s4:=HSZ4.out; have s5:=HSZ5.out; have s6:=HSZ6.out; have s7:=HSZ7.out; have s8:=HSZ8.out; have s9:=HSZ9.out; have s10:=HSZ10.out; have s11:=HSZ11.out; have s12:=HSZ12.out; omega)))
 clear hb
 clear c0_0 c0_1 c0_2
 have hkn:(k1 < 0) = False:=eq_false (by omega)
 go_wp2_with fail
 refine (eqLs_r vG vW _ _ _ _ r0 _ (HRG.out) (HRW.out) HSM.out).mono ?_
 rintro e w18 ⟨rfl,hb⟩
 have HSZ13:=Lib.hid (hb.size)
 replace a0_0:=fkeep hb a0_0
 replace a0_1:=fkeep hb a0_1
 replace a0_2:=fkeep hb a0_2
 replace a2_0:=fkeep hb a2_0
 replace a2_1:=fkeep hb a2_1
 replace a2_2:=fkeep hb a2_2
 replace a2_3:=fkeep hb a2_3
 have HF:=Lib.hid (fstep HF.out hb)
 replace HRW:=Lib.hid (HRW.out.keep hb)
 replace HRG:=Lib.hid (HRG.out.keep hb)
 clear hb
 clear hkn hka0 hkb0 hka1 hkb1
 go_wp2_with fail
 refine (markLs_r vG (w8.heap.size) r0 1 _ HRG.out.own HSM.out (by omega) (by omega)).mono ?_
 rintro e w19 ⟨rfl,ho,hb⟩
 have HG:=Lib.hid ho
 clear ho HRG
 have HSZ14:=Lib.hid (hb.size)
 replace a0_0:=bkeep hb (by have s0:=HSZ0.out; have s1:=HSZ1.out; have s2:=HSZ2.out; have s3:=HSZ3.out; have s4:=HSZ4.out; have s5:=HSZ5.out; have s6:=HSZ6.out; have s7:=HSZ7.out; have s8:=HSZ8.out; have s9:=HSZ9.out; have s10:=HSZ10.out; have s11:=HSZ11.out; have s12:=HSZ12.out; have s13:=HSZ13.out; have s14:=HSZ14.out; omega) a0_0
 replace a0_1:=bkeep hb (by have s0:=HSZ0.out; have s1:=HSZ1.out; have s2:=HSZ2.out; have s3:=HSZ3.out; have s4:=HSZ4.out; have s5:=HSZ5.out; have s6:=HSZ6.out; have s7:=HSZ7.out; have s8:=HSZ8.out; have s9:=HSZ9.out; have s10:=HSZ10.out; have s11:=HSZ11.out; have s12:=HSZ12.out; have s13:=HSZ13.out; have s14:=HSZ14.out; omega) a0_1
 replace a0_2:=bkeep hb (by have s0:=HSZ0.out; have s1:=HSZ1.out; have s2:=HSZ2.out; have s3:=HSZ3.out; have s4:=HSZ4.out; have s5:=HSZ5.out; have s6:=HSZ6.out; have s7:=HSZ7.out; have s8:=HSZ8.out; have s9:=HSZ9.out; have s10:=HSZ10.out; have s11:=HSZ11.out; have s12:=HSZ12.out; have s13:=HSZ13.out; have s14:=HSZ14.out; omega) a0_2
 replace a2_0:=bkeep hb (by have s0:=HSZ0.out; have s1:=HSZ1.out; have s2:=HSZ2.out; have s3:=HSZ3.out; have s4:=HSZ4.out; have s5:=HSZ5.out; have s6:=HSZ6.out; have s7:=HSZ7.out; have s8:=HSZ8.out; have s9:=HSZ9.out; have s10:=HSZ10.out; have s11:=HSZ11.out; have s12:=HSZ12.out; have s13:=HSZ13.out; have s14:=HSZ14.out; omega) a2_0
 replace a2_1:=bkeep hb (by have s0:=HSZ0.out; have s1:=HSZ1.out; have s2:=HSZ2.out; have s3:=HSZ3.out; have s4:=HSZ4.out; have s5:=HSZ5.out; have s6:=HSZ6.out; have s7:=HSZ7.out; have s8:=HSZ8.out; have s9:=HSZ9.out; have s10:=HSZ10.out; have s11:=HSZ11.out; have s12:=HSZ12.out; have s13:=HSZ13.out; have s14:=HSZ14.out; omega) a2_1
 replace a2_2:=bkeep hb (by have s0:=HSZ0.out; have s1:=HSZ1.out; have s2:=HSZ2.out; have s3:=HSZ3.out; have s4:=HSZ4.out; have s5:=HSZ5.out; have s6:=HSZ6.out; have s7:=HSZ7.out; have s8:=HSZ8.out; have s9:=HSZ9.out; have s10:=HSZ10.out; have s11:=HSZ11.out; have s12:=HSZ12.out; have s13:=HSZ13.out; have s14:=HSZ14.out; omega) a2_2
 replace a2_3:=bkeep hb (by have s0:=HSZ0.out; have s1:=HSZ1.out; have s2:=HSZ2.out; have s3:=HSZ3.out; have s4:=HSZ4.out; have s5:=HSZ5.out; have s6:=HSZ6.out; have s7:=HSZ7.out; have s8:=HSZ8.out; have s9:=HSZ9.out; have s10:=HSZ10.out; have s11:=HSZ11.out; have s12:=HSZ12.out; have s13:=HSZ13.out; have s14:=HSZ14.out; omega) a2_3
 have HF:=Lib.hid (HF.out.trans (hb.mono (by have s0:=HSZ0.out; have s1:=HSZ1.out; have s2:=HSZ2.out; have s3:=HSZ3.out; have s4:=HSZ4.out; have s5:=HSZ5.out; have s6:=HSZ6.out; have s7:=HSZ7.out; have s8:=HSZ8.out; have s9:=HSZ9.out; have s10:=HSZ10.out; have s11:=HSZ11.out; have s12:=HSZ12.out; have s13:=HSZ13.out; have s14:=HSZ14.out; omega)))
 replace HRW:=Lib.hid (HRW.out.below hb (by have s0:=HSZ0.out; have s1:=HSZ1.out; have s2:=HSZ2.out; have s3:=HSZ3.out; have s4:=HSZ4.out; have s5:=HSZ5.out; have s6:=HSZ6.out; have s7:=HSZ7.out; have s8:=HSZ8.out; have s9:=HSZ9.out; have s10:=HSZ10.out; have s11:=HSZ11.out; have s12:=HSZ12.out; have s13:=HSZ13.out; have s14:=HSZ14.out; omega))
 clear hb
 go_wp2_with fail
 refine (heldLs_o vG _ r0 1 _ HG.out HSM.out (by omega) (by omega)).mono ?_
 rintro e w20 ⟨rfl,hb⟩
 have HSZ15:=Lib.hid (hb.size)
 replace a0_0:=fkeep hb a0_0
 replace a0_1:=fkeep hb a0_1
 replace a0_2:=fkeep hb a0_2
 replace a2_0:=fkeep hb a2_0
 replace a2_1:=fkeep hb a2_1
 replace a2_2:=fkeep hb a2_2
 replace a2_3:=fkeep hb a2_3
 have HF:=Lib.hid (fstep HF.out hb)
 replace HRW:=Lib.hid (HRW.out.keep hb)
 replace HG:=Lib.hid (HG.out.keep hb)
 clear hb
 go_wp2
 have HSS:Fresh w20 w20∧w20.cell? ⟨w.heap.size,0,none⟩ = some (.slice q0a m0a c0a)∧w20.cell? ⟨w.heap.size,1,none⟩ = some (.slice p0a k0a d0a)∧w20.cell? ⟨w.heap.size,2,none⟩ = some (.slice r0a i0a e0a)∧w20.cell? ⟨w.heap.size + 1,0,none⟩ = some (.int .i64 g2a)∧w20.cell? ⟨w.heap.size + 1,1,none⟩ = some (.int .i64 h2a)∧w20.cell? ⟨w.heap.size + 1,2,none⟩ = some (.int .i64 l2a)∧w20.cell? ⟨w.heap.size + 1,3,none⟩ = some (.int .i64 j2a):=⟨frefl _,a0_0,a0_1,a0_2,a2_0,a2_1,a2_2,a2_3⟩
 go_region_held3 (fun w'=>Fresh w20 w'∧w'.cell? ⟨w.heap.size,0,none⟩ = some (.slice q0a m0a c0a)∧w'.cell? ⟨w.heap.size,1,none⟩ = some (.slice p0a k0a d0a)∧w'.cell? ⟨w.heap.size,2,none⟩ = some (.slice r0a i0a e0a)∧w'.cell? ⟨w.heap.size + 1,0,none⟩ = some (.int .i64 g2a)∧w'.cell? ⟨w.heap.size + 1,1,none⟩ = some (.int .i64 h2a)∧w'.cell? ⟨w.heap.size + 1,2,none⟩ = some (.int .i64 l2a)∧w'.cell? ⟨w.heap.size + 1,3,none⟩ = some (.int .i64 j2a))
  (first | assumption | exact keepc7 (by assumption) (by assumption) | exact keepc7 (by assumption) (fdrew (frefl _)) | exact keepc7 (by assumption) (frefl _))
  (first | (go_at_call 21; refine (toPlan_k _ x0 _ (HI0.out.keep (fstep HF.out (And.left (by assumption))))).mono ?_; rintro e w21 ⟨u0,rfl,hy,hbb0⟩; have HY0:=Lib.hid hy; clear hy) | (go_at_call 22; refine (toFm_k _ x1 _ (HI1.out.keep (fstep HF.out (And.left (by assumption))))).mono ?_; rintro e w22 ⟨u1,rfl,hy,hbb1⟩; have HY1:=Lib.hid hy; clear hy) | (go_at_call 23; refine (toDemand_any g2a h2a l2a j2a _).mono ?_; rintro e w23 ⟨rfl,hbb2⟩) | (go_at_call 24; have hcc:=implRouteChoices_l _ x0 _ x1 ⟨g2a,h2a,l2a,j2a⟩ _ ((HY0.out.keep hbb1).keep hbb2) (HY1.out.keep hbb2); rw [← HR0.out,← HR1.out] at hcc; refine hcc.mono ?_; clear hcc; rintro e w24 ⟨vH,rfl,how,hb⟩))
 replace hb:Fresh w20 w24:=fstep (fstep (fstep (fstep (fdrew (frefl _)) hbb0) hbb1) hbb2) hb
 clear hbb0 hbb1 hbb2 HSS HY0 HY1
 have HRH:=Lib.hid (how.held.wide (Nat.zero_le _) (Nat.le_refl _))
 clear how
 have HSZ16:=Lib.hid (hb.size)
 replace a0_0:=fkeep hb a0_0
 replace a0_1:=fkeep hb a0_1
 replace a0_2:=fkeep hb a0_2
 replace a2_0:=fkeep hb a2_0
 replace a2_1:=fkeep hb a2_1
 replace a2_2:=fkeep hb a2_2
 replace a2_3:=fkeep hb a2_3
 have HF:=Lib.hid (fstep HF.out hb)
 replace HRW:=Lib.hid (HRW.out.keep hb)
 replace HG:=Lib.hid (HG.out.keep hb)
 clear hb
 go_wp2_with fail
 refine (eqLs_r vH vW _ _ _ _ r0 _ (HRH.out) (HRW.out) HSM.out).mono ?_
 rintro e w25 ⟨rfl,hb⟩
 have HSZ17:=Lib.hid (hb.size)
 replace a0_0:=fkeep hb a0_0
 replace a0_1:=fkeep hb a0_1
 replace a0_2:=fkeep hb a0_2
 replace a2_0:=fkeep hb a2_0
 replace a2_1:=fkeep hb a2_1
 replace a2_2:=fkeep hb a2_2
 replace a2_3:=fkeep hb a2_3
 have HF:=Lib.hid (fstep HF.out hb)
 replace HRW:=Lib.hid (HRW.out.keep hb)
 replace HG:=Lib.hid (HG.out.keep hb)
 replace HRH:=Lib.hid (HRH.out.keep hb)
 clear hb
 go_wp2_with fail
 refine (heldLs_o vG _ r0 1 _ HG.out HSM.out (by omega) (by omega)).mono ?_
 rintro e w26 ⟨rfl,hb⟩
 have HSZ18:=Lib.hid (hb.size)
 replace a0_0:=fkeep hb a0_0
 replace a0_1:=fkeep hb a0_1
 replace a0_2:=fkeep hb a0_2
 replace a2_0:=fkeep hb a2_0
 replace a2_1:=fkeep hb a2_1
 replace a2_2:=fkeep hb a2_2
 replace a2_3:=fkeep hb a2_3
 have HF:=Lib.hid (fstep HF.out hb)
 replace HRW:=Lib.hid (HRW.out.keep hb)
 replace HG:=Lib.hid (HG.out.keep hb)
 replace HRH:=Lib.hid (HRH.out.keep hb)
 clear hb
 go_wp2
 go_ret
 exact ⟨rfl,HF.out⟩
end Go.Proofs.YteckjlkhopkogaaGreat
