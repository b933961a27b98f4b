/- The walk of FnExactBestRule. -/
import Derived.Test.YteckjlkhopkogaaGreatSvb
import Derived.Test.YteckjlkhopkogaaGreatM19
import Derived.Test.YteckjlkhopkogaaGreatM2
import Derived.Deep.RegionHeld3
import Derived.Deep.DeepCutAuto
namespace Go.Proofs.YteckjlkhopkogaaGreat
open Go.RowKit Go.PlainAid
set_option maxHeartbeats 4000000 in
set_option maxRecDepth 100000 in
theorem law_BestRule (v0:Value) (x0:PlanV) (v1:Value) (x1:List (Int × Int)) (v2:Value) (x2:List Fib) (w:World) (h0:PlRaw w v0 x0) (h1:FmRaw w v1 x1) (h2:DmRaw w v2 x2) :
  Calls Tryz.prog 8 #[v0,v1,v2] w fun e w'=>e=.returned (.bool true)∧Fresh w w':=by
 obtain⟨q0a,m0a,c0a,p0a,k0a,d0a,r0a,i0a,e0a,hv0⟩:=h0.shape
 subst hv0
 have HI0:=Lib.hid h0
 clear h0
 have HI1:=Lib.hid h1
 clear h1
 have HI2:=Lib.hid h2
 clear h2
 obtain⟨r0,hr0⟩:∃ r0,r0=(brF x0 x1 x2).1:=⟨_,rfl⟩
 have HR0:=Lib.hid hr0
 clear hr0
 obtain⟨r1,hr1⟩:∃ r1,r1=(brF x0 x1 x2).2.1:=⟨_,rfl⟩
 have HR1:=Lib.hid hr1
 clear hr1
 obtain⟨r2,hr2⟩:∃ r2,r2=(brF x0 x1 x2).2.2:=⟨_,rfl⟩
 have HR2:=Lib.hid hr2
 clear hr2
 obtain⟨B0,hB0⟩:∃ B,B=w.alloc (.cells #[.slice q0a m0a c0a,.slice p0a k0a d0a,.slice r0a i0a e0a] 28):=⟨_,rfl⟩
 have hz0:B0.heap.size=w.heap.size+1:=by rw[hB0];simp
 have hf0:Fresh w B0:=by rw[hB0];exact fnew (frefl _) _
 have hrow0:RowAt B0 w.heap.size 28 [.slice q0a m0a c0a,.slice p0a k0a d0a,.slice r0a i0a e0a]:=by rw[hB0];exact RowAt.new _ _ _
 have HF:=Lib.hid (fstep (frefl w) hf0)
 have a0_0:=hrow0.cell (i:=0) rfl
 have a0_1:=hrow0.cell (i:=1) rfl
 have a0_2:=hrow0.cell (i:=2) rfl
 have HB:=Lib.hid (And.intro hB0 trivial)
 clear hB0 hz0 hf0 hrow0
 go_enter Tryz.func8,Tryz.ntmps8
 go_wp2_with fail
 rw[← HB.out.1]
 clear HB
 refine(szPlan_k _ x0 1048576 _ (PlRaw.keep HI0.out HF.out) (by omega) (by omega)).mono ?_
 rintro e w1 ⟨l0,rfl,l00,l01,hsm,hb⟩
 have HS0:=Lib.hid hsm
 clear hsm
 replace a0_0:=fkeep hb a0_0
 replace a0_1:=fkeep hb a0_1
 replace a0_2:=fkeep hb a0_2
 have HF:=Lib.hid (fstep HF.out hb)
 clear hb
 by_cases hneg0:l0<0
 ·go_wp2
  go_ret
  exact⟨rfl,HF.out⟩
 go_wp2_with fail
 refine(szFm_k _ x1 l0 _ (FmRaw.keep HI1.out HF.out) (by omega) (by omega)).mono ?_
 rintro e w2 ⟨l1,rfl,l10,l11,hsm,hb⟩
 have HS1:=Lib.hid hsm
 clear hsm
 replace a0_0:=fkeep hb a0_0
 replace a0_1:=fkeep hb a0_1
 replace a0_2:=fkeep hb a0_2
 have HF:=Lib.hid (fstep HF.out hb)
 clear hb
 by_cases hneg1:l1<0
 ·go_wp2
  go_ret
  exact⟨rfl,HF.out⟩
 go_wp2_with fail
 refine(szDm_k _ x2 l1 _ (DmRaw.keep HI2.out HF.out) (by omega) (by omega)).mono ?_
 rintro e w3 ⟨l2,rfl,l20,l21,hsm,hb⟩
 have HS2:=Lib.hid hsm
 clear hsm
 replace a0_0:=fkeep hb a0_0
 replace a0_1:=fkeep hb a0_1
 replace a0_2:=fkeep hb a0_2
 have HF:=Lib.hid (fstep HF.out hb)
 clear hb
 by_cases hneg2:l2<0
 ·go_wp2
  go_ret
  exact⟨rfl,HF.out⟩
 replace HI0:=Lib.hid (PlRaw.small HI0.out (HS0.out (by omega)))
 clear HS0
 replace HI1:=Lib.hid (FmRaw.small HI1.out (HS1.out (by omega)))
 clear HS1
 replace HI2:=Lib.hid (DmRaw.small HI2.out (HS2.out (by omega)))
 clear HS2
 go_wp2_with fail
 refine(toPlan_k _ x0 _ (HI0.out.keep HF.out)).mono ?_
 rintro e w4 ⟨y0,rfl,hy,hb⟩
 have HY0:=Lib.hid hy
 clear hy
 replace a0_0:=fkeep hb a0_0
 replace a0_1:=fkeep hb a0_1
 replace a0_2:=fkeep hb a0_2
 have HF:=Lib.hid (fstep HF.out hb)
 clear hb
 go_wp2_with fail
 refine(toFm_k _ x1 _ (HI1.out.keep HF.out)).mono ?_
 rintro e w5 ⟨y1,rfl,hy,hb⟩
 have HY1:=Lib.hid hy
 clear hy
 replace a0_0:=fkeep hb a0_0
 replace a0_1:=fkeep hb a0_1
 replace a0_2:=fkeep hb a0_2
 have HF:=Lib.hid (fstep HF.out hb)
 replace HY0:=Lib.hid (HY0.out.keep hb)
 clear hb
 go_wp2_with fail
 refine(toDm_k _ x2 _ (HI2.out.keep HF.out)).mono ?_
 rintro e w6 ⟨y2,rfl,hy,hb⟩
 have HY2:=Lib.hid hy
 clear hy
 replace a0_0:=fkeep hb a0_0
 replace a0_1:=fkeep hb a0_1
 replace a0_2:=fkeep hb a0_2
 have HF:=Lib.hid (fstep HF.out hb)
 replace HY0:=Lib.hid (HY0.out.keep hb)
 replace HY1:=Lib.hid (HY1.out.keep hb)
 clear hb
 go_wp2_with fail
 have hcc:=specBestRule_any _ x0 _ x1 _ x2 _ (HY0.out) (HY1.out) (HY2.out)
 rw[← HR0.out,← HR1.out,← HR2.out] at hcc
 refine(hcc).mono ?_
 clear hcc
 rintro e w7 ⟨rfl,hb⟩
 replace a0_0:=fkeep hb a0_0
 replace a0_1:=fkeep hb a0_1
 replace a0_2:=fkeep hb a0_2
 have HF:=Lib.hid (fstep HF.out hb)
 clear hb
 clear HY0 HY1 HY2
 go_wp2_with fail
 refine(toPlan_k _ x0 _ (HI0.out.keep HF.out)).mono ?_
 rintro e w8 ⟨z0,rfl,hy,hb⟩
 have HZ0:=Lib.hid hy
 clear hy
 replace a0_0:=fkeep hb a0_0
 replace a0_1:=fkeep hb a0_1
 replace a0_2:=fkeep hb a0_2
 have HF:=Lib.hid (fstep HF.out hb)
 clear hb
 obtain⟨q0x,m0x,c0x,p0x,k0x,d0x,r0x,i0x,e0x,hv⟩:=HZ0.out.shape
 subst hv
 obtain⟨X0,hX⟩:∃ X,X=w8.alloc (.cells #[.slice q0x m0x c0x,.slice p0x k0x d0x,.slice r0x i0x e0x] 38):=⟨_,rfl⟩
 have hb:Fresh w8 X0:=by rw[hX];exact fnew (frefl _) _
 have La0_0:=fkeep (fnew (frefl w8) (.cells #[.slice q0x m0x c0x,.slice p0x k0x d0x,.slice r0x i0x e0x] 38)) a0_0
 have La0_1:=fkeep (fnew (frefl w8) (.cells #[.slice q0x m0x c0x,.slice p0x k0x d0x,.slice r0x i0x e0x] 38)) a0_1
 have La0_2:=fkeep (fnew (frefl w8) (.cells #[.slice q0x m0x c0x,.slice p0x k0x d0x,.slice r0x i0x e0x] 38)) a0_2
 have c0_0:X0.cell? ⟨w8.heap.size,0,none⟩=some (.slice q0x m0x c0x):=by rw[hX];exact(RowAt.new w8 38 [.slice q0x m0x c0x,.slice p0x k0x d0x,.slice r0x i0x e0x]).cell (i:=0) rfl
 have c0_1:X0.cell? ⟨w8.heap.size,1,none⟩=some (.slice p0x k0x d0x):=by rw[hX];exact(RowAt.new w8 38 [.slice q0x m0x c0x,.slice p0x k0x d0x,.slice r0x i0x e0x]).cell (i:=1) rfl
 have c0_2:X0.cell? ⟨w8.heap.size,2,none⟩=some (.slice r0x i0x e0x):=by rw[hX];exact(RowAt.new w8 38 [.slice q0x m0x c0x,.slice p0x k0x d0x,.slice r0x i0x e0x]).cell (i:=2) rfl
 replace a0_0:=fkeep hb a0_0
 replace a0_1:=fkeep hb a0_1
 replace a0_2:=fkeep hb a0_2
 have HF:=Lib.hid (fstep HF.out hb)
 replace HZ0:=Lib.hid (HZ0.out.keep hb)
 clear hb
 have Ha0_0:=Lib.hid a0_0
 have Ha0_1:=Lib.hid a0_1
 have Ha0_2:=Lib.hid a0_2
 have Hc0_0:=Lib.hid c0_0
 have Hc0_1:=Lib.hid c0_1
 have Hc0_2:=Lib.hid c0_2
 clear a0_0 a0_1 a0_2 c0_0 c0_1 c0_2
 have HX0:=Lib.hid hX
 clear hX
 go_wp2_with fail
 rw[← HX0.out]
 clear HX0
 clear La0_0 La0_1 La0_2
 have a0_0:=Ha0_0.out
 have a0_1:=Ha0_1.out
 have a0_2:=Ha0_2.out
 have c0_0:=Hc0_0.out
 have c0_1:=Hc0_1.out
 have c0_2:=Hc0_2.out
 clear Ha0_0 Ha0_1 Ha0_2 Hc0_0 Hc0_1 Hc0_2
 go_wp2_with fail
 refine(toFm_k _ x1 _ (HI1.out.keep HF.out)).mono ?_
 rintro e w9 ⟨z1,rfl,hy,hb⟩
 have HZ1:=Lib.hid hy
 clear hy
 replace a0_0:=fkeep hb a0_0
 replace a0_1:=fkeep hb a0_1
 replace a0_2:=fkeep hb a0_2
 replace c0_0:=fkeep hb c0_0
 replace c0_1:=fkeep hb c0_1
 replace c0_2:=fkeep hb c0_2
 have HF:=Lib.hid (fstep HF.out hb)
 replace HZ0:=Lib.hid (HZ0.out.keep hb)
 clear hb
 go_wp2_with fail
 refine(toDm_k _ x2 _ (HI2.out.keep HF.out)).mono ?_
 rintro e w10 ⟨z2,rfl,hy,hb⟩
 have HZ2:=Lib.hid hy
 clear hy
 replace a0_0:=fkeep hb a0_0
 replace a0_1:=fkeep hb a0_1
 replace a0_2:=fkeep hb a0_2
 replace c0_0:=fkeep hb c0_0
 replace c0_1:=fkeep hb c0_1
 replace c0_2:=fkeep hb c0_2
 have HF:=Lib.hid (fstep HF.out hb)
 replace HZ0:=Lib.hid (HZ0.out.keep hb)
 replace HZ1:=Lib.hid (HZ1.out.keep hb)
 clear hb
 go_wp2_with fail
 have hcc:=implBestRule_any _ x0 _ x1 _ x2 _ (HZ0.out) (HZ1.out) (HZ2.out)
 rw[← HR0.out,← HR1.out,← HR2.out] at hcc
 refine(hcc).mono ?_
 clear hcc
 rintro e w11 ⟨rfl,hb⟩
 replace a0_0:=fkeep hb a0_0
 replace a0_1:=fkeep hb a0_1
 replace a0_2:=fkeep hb a0_2
 replace c0_0:=fkeep hb c0_0
 replace c0_1:=fkeep hb c0_1
 replace c0_2:=fkeep hb c0_2
 have HF:=Lib.hid (fstep HF.out hb)
 replace HZ0:=Lib.hid (HZ0.out.keep hb)
 replace HZ1:=Lib.hid (HZ1.out.keep hb)
 replace HZ2:=Lib.hid (HZ2.out.keep hb)
 clear hb
 go_wp2
 have HSS:Fresh w11 w11∧w11.cell? ⟨w8.heap.size,0,none⟩=some (.slice q0x m0x c0x)∧w11.cell? ⟨w8.heap.size,1,none⟩=some (.slice p0x k0x d0x)∧w11.cell? ⟨w8.heap.size,2,none⟩=some (.slice r0x i0x e0x)∧w11.cell? ⟨w.heap.size,0,none⟩=some (.slice q0a m0a c0a)∧w11.cell? ⟨w.heap.size,1,none⟩=some (.slice p0a k0a d0a)∧w11.cell? ⟨w.heap.size,2,none⟩=some (.slice r0a i0a e0a):=⟨frefl _,c0_0,c0_1,c0_2,a0_0,a0_1,a0_2⟩
 go_region_held3 (fun w'=>Fresh w11 w'∧w'.cell? ⟨w8.heap.size,0,none⟩=some (.slice q0x m0x c0x)∧w'.cell? ⟨w8.heap.size,1,none⟩=some (.slice p0x k0x d0x)∧w'.cell? ⟨w8.heap.size,2,none⟩=some (.slice r0x i0x e0x)∧w'.cell? ⟨w.heap.size,0,none⟩=some (.slice q0a m0a c0a)∧w'.cell? ⟨w.heap.size,1,none⟩=some (.slice p0a k0a d0a)∧w'.cell? ⟨w.heap.size,2,none⟩=some (.slice r0a i0a e0a))
  (first|assumption|exact keepc6 (by assumption) (by assumption)|exact keepc6 (by assumption) (fdrew (frefl _))|exact keepc6 (by assumption) (frefl _))
  (first|(go_at_call 21;refine(toPlan_k _ x0 _ (HI0.out.keep (fstep HF.out (And.left (by assumption))))).mono ?_;rintro e w12 ⟨t0,rfl,hy,hb10⟩;have HT0:=Lib.hid hy;clear hy)|(go_at_call 13;refine(eqPlan_k _ _ x0 _ (HZ0.out.keep (And.left (by assumption))) HT0.out).mono ?_;rintro e w13 ⟨rfl,hb11⟩))
 have hb:Fresh w11 w13:=fstep (fstep (fdrew (frefl _)) hb10) hb11
 clear hb10 hb11 HSS HT0 c0_0 c0_1 c0_2
 clear HZ0
 replace a0_0:=fkeep hb a0_0
 replace a0_1:=fkeep hb a0_1
 replace a0_2:=fkeep hb a0_2
 have HF:=Lib.hid (fstep HF.out hb)
 replace HZ1:=Lib.hid (HZ1.out.keep hb)
 replace HZ2:=Lib.hid (HZ2.out.keep hb)
 clear hb
 go_wp2_with fail
 refine(toFm_k _ x1 _ (HI1.out.keep HF.out)).mono ?_
 rintro e w14 ⟨t1,rfl,hy,hb⟩
 have HT1:=Lib.hid hy
 clear hy
 replace a0_0:=fkeep hb a0_0
 replace a0_1:=fkeep hb a0_1
 replace a0_2:=fkeep hb a0_2
 have HF:=Lib.hid (fstep HF.out hb)
 replace HZ1:=Lib.hid (HZ1.out.keep hb)
 replace HZ2:=Lib.hid (HZ2.out.keep hb)
 clear hb
 go_wp2_with fail
 refine(eqFm_k _ _ x1 _ HZ1.out (HT1.out)).mono ?_
 rintro e w15 ⟨rfl,hb⟩
 replace a0_0:=fkeep hb a0_0
 replace a0_1:=fkeep hb a0_1
 replace a0_2:=fkeep hb a0_2
 have HF:=Lib.hid (fstep HF.out hb)
 replace HZ1:=Lib.hid (HZ1.out.keep hb)
 replace HZ2:=Lib.hid (HZ2.out.keep hb)
 clear hb
 clear HT1
 go_wp2_with fail
 refine(toDm_k _ x2 _ (HI2.out.keep HF.out)).mono ?_
 rintro e w16 ⟨t2,rfl,hy,hb⟩
 have HT2:=Lib.hid hy
 clear hy
 replace a0_0:=fkeep hb a0_0
 replace a0_1:=fkeep hb a0_1
 replace a0_2:=fkeep hb a0_2
 have HF:=Lib.hid (fstep HF.out hb)
 replace HZ1:=Lib.hid (HZ1.out.keep hb)
 replace HZ2:=Lib.hid (HZ2.out.keep hb)
 clear hb
 go_wp2_with fail
 refine(eqDm_k _ _ x2 _ HZ2.out (HT2.out)).mono ?_
 rintro e w17 ⟨rfl,hb⟩
 replace a0_0:=fkeep hb a0_0
 replace a0_1:=fkeep hb a0_1
 replace a0_2:=fkeep hb a0_2
 have HF:=Lib.hid (fstep HF.out hb)
 replace HZ1:=Lib.hid (HZ1.out.keep hb)
 replace HZ2:=Lib.hid (HZ2.out.keep hb)
 clear hb
 clear HT2
 go_wp2
 go_ret
 exact⟨rfl,HF.out⟩
end Go.Proofs.YteckjlkhopkogaaGreat
