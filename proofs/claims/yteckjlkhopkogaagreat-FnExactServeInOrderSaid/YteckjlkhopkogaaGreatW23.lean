/- The walk of FnExactServeInOrder. -/
import Derived.Test.YteckjlkhopkogaaGreatSvo
import Derived.Test.YteckjlkhopkogaaGreatM2
import Derived.Test.YteckjlkhopkogaaGreatU1
import Derived.Test.YteckjlkhopkogaaGreatM19
import Derived.Test.YteckjlkhopkogaaGreatY3
import Derived.Deep.RegionHeld3
import Derived.Deep.DeepCutAuto
namespace Go.Proofs.YteckjlkhopkogaaGreat
open Go.RowKit Go.PlainAid
set_option maxHeartbeats 4000000 in
set_option maxRecDepth 100000 in
theorem law_ServeInOrder (v0:Value) (x0:PlanV) (v1:Value) (x1:List (Int × Int)) (v2:Value) (x2:List Fib) (x3:Int) (w:World) (h0:PlRaw w v0 x0) (h1:FmRaw w v1 x1) (h2:DmRaw w v2 x2) (bx3:-9223372036854775808≤x3∧x3≤9223372036854775807) :
  Calls Tryz.prog 7 #[v0,v1,v2,.int .i64 x3] w fun e w'=>e=.returned (.bool true)∧Fresh w w':=by
 obtain⟨bl3,bh3⟩:=bx3
 obtain⟨q0a,m0a,c0a,p0a,k0a,d0a,r0a,i0a,e0a,hv0⟩:=h0.shape
 subst hv0
 have HI0:=Lib.hid h0
 clear h0
 have HI1:=Lib.hid h1
 clear h1
 have HI2:=Lib.hid h2
 clear h2
 obtain⟨r0,hr0⟩:∃ r0,r0=(soF x0 x1 x2 x3).1:=⟨_,rfl⟩
 have HR0:=Lib.hid hr0
 clear hr0
 obtain⟨r1,hr1⟩:∃ r1,r1=(soF x0 x1 x2 x3).2:=⟨_,rfl⟩
 have HR1:=Lib.hid hr1
 clear hr1
 obtain⟨B0,hB0⟩:∃ B,B=w.alloc (.cells #[.slice q0a m0a c0a,.slice p0a k0a d0a,.slice r0a i0a e0a] 28):=⟨_,rfl⟩
 have hz0:B0.heap.size=w.heap.size+1:=by rw[hB0];simp
 have hf0:Fresh w B0:=by rw[hB0];exact fnew (frefl _) _
 have hrow0:RowAt B0 w.heap.size 28 [.slice q0a m0a c0a,.slice p0a k0a d0a,.slice r0a i0a e0a]:=by rw[hB0];exact RowAt.new _ _ _
 have HF:=Lib.hid (fstep (frefl w) hf0)
 have a0_0:=hrow0.cell (i:=0) rfl
 have a0_1:=hrow0.cell (i:=1) rfl
 have a0_2:=hrow0.cell (i:=2) rfl
 have HB:=Lib.hid (And.intro hB0 trivial)
 clear hB0 hz0 hf0 hrow0
 go_enter Tryz.func7,Tryz.ntmps7
 go_wp2_with fail
 rw[← HB.out.1]
 clear HB
 refine(szPlan_k _ x0 1048576 _ (PlRaw.keep HI0.out HF.out) (by omega) (by omega)).mono ?_
 rintro e w1 ⟨l0,rfl,l00,l01,hsm,hb⟩
 have HS0:=Lib.hid hsm
 clear hsm
 replace a0_0:=fkeep hb a0_0
 replace a0_1:=fkeep hb a0_1
 replace a0_2:=fkeep hb a0_2
 have HF:=Lib.hid (fstep HF.out hb)
 clear hb
 by_cases hneg0:l0<0
 ·go_wp2
  go_ret
  exact⟨rfl,HF.out⟩
 go_wp2_with fail
 refine(szFm_k _ x1 l0 _ (FmRaw.keep HI1.out HF.out) (by omega) (by omega)).mono ?_
 rintro e w2 ⟨l1,rfl,l10,l11,hsm,hb⟩
 have HS1:=Lib.hid hsm
 clear hsm
 replace a0_0:=fkeep hb a0_0
 replace a0_1:=fkeep hb a0_1
 replace a0_2:=fkeep hb a0_2
 have HF:=Lib.hid (fstep HF.out hb)
 clear hb
 by_cases hneg1:l1<0
 ·go_wp2
  go_ret
  exact⟨rfl,HF.out⟩
 go_wp2_with fail
 refine(szDm_k _ x2 l1 _ (DmRaw.keep HI2.out HF.out) (by omega) (by omega)).mono ?_
 rintro e w3 ⟨l2,rfl,l20,l21,hsm,hb⟩
 have HS2:=Lib.hid hsm
 clear hsm
 replace a0_0:=fkeep hb a0_0
 replace a0_1:=fkeep hb a0_1
 replace a0_2:=fkeep hb a0_2
 have HF:=Lib.hid (fstep HF.out hb)
 clear hb
 by_cases hneg2:l2<0
 ·go_wp2
  go_ret
  exact⟨rfl,HF.out⟩
 replace HI0:=Lib.hid (PlRaw.small HI0.out (HS0.out (by omega)))
 clear HS0
 replace HI1:=Lib.hid (FmRaw.small HI1.out (HS1.out (by omega)))
 clear HS1
 replace HI2:=Lib.hid (DmRaw.small HI2.out (HS2.out (by omega)))
 clear HS2
 have hlen:=soF_small x0 x1 x2 x3 HI0.out.isSmall
 rw[← HR0.out] at hlen
 have HSM:=Lib.hid hlen
 clear hlen
 have HSZ0:=Lib.hid HF.out.size
 have HSZ1:=Lib.hid (World.block_lt_of_cell? _ _ a0_0)
 go_wp2_with fail
 refine(toPlan_k _ x0 _ (HI0.out.keep HF.out)).mono ?_
 rintro e w4 ⟨y0,rfl,hy,hb⟩
 have HY0:=Lib.hid hy
 clear hy
 have HSZ2:=Lib.hid (hb.size)
 replace a0_0:=fkeep hb a0_0
 replace a0_1:=fkeep hb a0_1
 replace a0_2:=fkeep hb a0_2
 have HF:=Lib.hid (fstep HF.out hb)
 clear hb
 go_wp2_with fail
 refine(toFm_k _ x1 _ (HI1.out.keep HF.out)).mono ?_
 rintro e w5 ⟨y1,rfl,hy,hb⟩
 have HY1:=Lib.hid hy
 clear hy
 have HSZ3:=Lib.hid (hb.size)
 replace a0_0:=fkeep hb a0_0
 replace a0_1:=fkeep hb a0_1
 replace a0_2:=fkeep hb a0_2
 have HF:=Lib.hid (fstep HF.out hb)
 replace HY0:=Lib.hid (HY0.out.keep hb)
 clear hb
 go_wp2_with fail
 refine(toDm_k _ x2 _ (HI2.out.keep HF.out)).mono ?_
 rintro e w6 ⟨y2,rfl,hy,hb⟩
 have HY2:=Lib.hid hy
 clear hy
 have HSZ4:=Lib.hid (hb.size)
 replace a0_0:=fkeep hb a0_0
 replace a0_1:=fkeep hb a0_1
 replace a0_2:=fkeep hb a0_2
 have HF:=Lib.hid (fstep HF.out hb)
 replace HY0:=Lib.hid (HY0.out.keep hb)
 replace HY1:=Lib.hid (HY1.out.keep hb)
 clear hb
 go_wp2_with fail
 have hcc:=specServeInOrder_l _ x0 _ x1 _ x2 x3 _ HY0.out HY1.out HY2.out
 rw[← HR0.out,← HR1.out] at hcc
 refine(hcc).mono ?_
 clear hcc
 rintro e w7 ⟨vW,rfl,how,hb⟩
 clear HY0 HY1 HY2
 obtain⟨qW,mW,cW,fW,kW,dW,tW,iW,eW,uW,nW,yW,jW,hvv⟩:=how.shape
 subst hvv
 have HRW:=Lib.hid (how.held.wide (Nat.zero_le _) (Nat.le_refl _))
 clear how
 have HSZ5:=Lib.hid (hb.size)
 replace a0_0:=fkeep hb a0_0
 replace a0_1:=fkeep hb a0_1
 replace a0_2:=fkeep hb a0_2
 have HF:=Lib.hid (fstep HF.out hb)
 clear hb
 obtain⟨XW,hX⟩:∃ X,X=w7.alloc (.cells #[.slice qW mW cW,.slice fW kW dW,.slice tW iW eW,.slice uW nW yW,.int .i64 jW] 42):=⟨_,rfl⟩
 have hb:Fresh w7 XW:=by rw[hX];exact fnew (frefl _) _
 have HSZ6:=Lib.hid (show XW.heap.size=w7.heap.size+1 by rw[hX];simp)
 have La0_0:=fkeep (fnew (frefl w7) (.cells #[.slice qW mW cW,.slice fW kW dW,.slice tW iW eW,.slice uW nW yW,.int .i64 jW] 42)) a0_0
 have La0_1:=fkeep (fnew (frefl w7) (.cells #[.slice qW mW cW,.slice fW kW dW,.slice tW iW eW,.slice uW nW yW,.int .i64 jW] 42)) a0_1
 have La0_2:=fkeep (fnew (frefl w7) (.cells #[.slice qW mW cW,.slice fW kW dW,.slice tW iW eW,.slice uW nW yW,.int .i64 jW] 42)) a0_2
 have bW_0:XW.cell? ⟨w7.heap.size,0,none⟩=some (.slice qW mW cW):=by rw[hX];exact(RowAt.new w7 42 [.slice qW mW cW,.slice fW kW dW,.slice tW iW eW,.slice uW nW yW,.int .i64 jW]).cell (i:=0) rfl
 have bW_1:XW.cell? ⟨w7.heap.size,1,none⟩=some (.slice fW kW dW):=by rw[hX];exact(RowAt.new w7 42 [.slice qW mW cW,.slice fW kW dW,.slice tW iW eW,.slice uW nW yW,.int .i64 jW]).cell (i:=1) rfl
 have bW_2:XW.cell? ⟨w7.heap.size,2,none⟩=some (.slice tW iW eW):=by rw[hX];exact(RowAt.new w7 42 [.slice qW mW cW,.slice fW kW dW,.slice tW iW eW,.slice uW nW yW,.int .i64 jW]).cell (i:=2) rfl
 have bW_3:XW.cell? ⟨w7.heap.size,3,none⟩=some (.slice uW nW yW):=by rw[hX];exact(RowAt.new w7 42 [.slice qW mW cW,.slice fW kW dW,.slice tW iW eW,.slice uW nW yW,.int .i64 jW]).cell (i:=3) rfl
 have bW_4:XW.cell? ⟨w7.heap.size,4,none⟩=some (.int .i64 jW):=by rw[hX];exact(RowAt.new w7 42 [.slice qW mW cW,.slice fW kW dW,.slice tW iW eW,.slice uW nW yW,.int .i64 jW]).cell (i:=4) rfl
 replace a0_0:=fkeep hb a0_0
 replace a0_1:=fkeep hb a0_1
 replace a0_2:=fkeep hb a0_2
 have HF:=Lib.hid (fstep HF.out hb)
 replace HRW:=Lib.hid (HRW.out.keep hb)
 clear hb
 have Ha0_0:=Lib.hid a0_0
 have Ha0_1:=Lib.hid a0_1
 have Ha0_2:=Lib.hid a0_2
 have HbW_0:=Lib.hid bW_0
 have HbW_1:=Lib.hid bW_1
 have HbW_2:=Lib.hid bW_2
 have HbW_3:=Lib.hid bW_3
 have HbW_4:=Lib.hid bW_4
 clear a0_0 a0_1 a0_2 bW_0 bW_1 bW_2 bW_3 bW_4
 have HXW:=Lib.hid hX
 clear hX
 go_wp2_with fail
 rw[← HXW.out]
 clear HXW
 clear La0_0 La0_1 La0_2
 have a0_0:=Ha0_0.out
 have a0_1:=Ha0_1.out
 have a0_2:=Ha0_2.out
 have bW_0:=HbW_0.out
 have bW_1:=HbW_1.out
 have bW_2:=HbW_2.out
 have bW_3:=HbW_3.out
 have bW_4:=HbW_4.out
 clear Ha0_0 Ha0_1 Ha0_2 HbW_0 HbW_1 HbW_2 HbW_3 HbW_4
 go_wp2_with fail
 refine(toPlan_o _ x0 _ (HI0.out.keep HF.out)).mono ?_
 rintro e w8 ⟨z0,rfl,hy,hm,hb⟩
 have HZ0:=Lib.hid hy
 have HM0:=Lib.hid hm
 clear hy hm
 have HSZ7:=Lib.hid (hb.size)
 replace a0_0:=fkeep hb a0_0
 replace a0_1:=fkeep hb a0_1
 replace a0_2:=fkeep hb a0_2
 replace bW_0:=fkeep hb bW_0
 replace bW_1:=fkeep hb bW_1
 replace bW_2:=fkeep hb bW_2
 replace bW_3:=fkeep hb bW_3
 replace bW_4:=fkeep hb bW_4
 have HF:=Lib.hid (fstep HF.out hb)
 replace HRW:=Lib.hid (HRW.out.keep hb)
 clear hb
 obtain⟨q0x,m0x,c0x,p0x,k0x,d0x,r0x,i0x,e0x,hv⟩:=HZ0.out.shape
 subst hv
 obtain⟨Xx0,hX⟩:∃ X,X=w8.alloc (.cells #[.slice q0x m0x c0x,.slice p0x k0x d0x,.slice r0x i0x e0x] 38):=⟨_,rfl⟩
 have hb:Fresh w8 Xx0:=by rw[hX];exact fnew (frefl _) _
 have HSZ8:=Lib.hid (show Xx0.heap.size=w8.heap.size+1 by rw[hX];simp)
 have La0_0:=fkeep (fnew (frefl w8) (.cells #[.slice q0x m0x c0x,.slice p0x k0x d0x,.slice r0x i0x e0x] 38)) a0_0
 have La0_1:=fkeep (fnew (frefl w8) (.cells #[.slice q0x m0x c0x,.slice p0x k0x d0x,.slice r0x i0x e0x] 38)) a0_1
 have La0_2:=fkeep (fnew (frefl w8) (.cells #[.slice q0x m0x c0x,.slice p0x k0x d0x,.slice r0x i0x e0x] 38)) a0_2
 have LbW_0:=fkeep (fnew (frefl w8) (.cells #[.slice q0x m0x c0x,.slice p0x k0x d0x,.slice r0x i0x e0x] 38)) bW_0
 have LbW_1:=fkeep (fnew (frefl w8) (.cells #[.slice q0x m0x c0x,.slice p0x k0x d0x,.slice r0x i0x e0x] 38)) bW_1
 have LbW_2:=fkeep (fnew (frefl w8) (.cells #[.slice q0x m0x c0x,.slice p0x k0x d0x,.slice r0x i0x e0x] 38)) bW_2
 have LbW_3:=fkeep (fnew (frefl w8) (.cells #[.slice q0x m0x c0x,.slice p0x k0x d0x,.slice r0x i0x e0x] 38)) bW_3
 have LbW_4:=fkeep (fnew (frefl w8) (.cells #[.slice q0x m0x c0x,.slice p0x k0x d0x,.slice r0x i0x e0x] 38)) bW_4
 have c0_0:Xx0.cell? ⟨w8.heap.size,0,none⟩=some (.slice q0x m0x c0x):=by rw[hX];exact(RowAt.new w8 38 [.slice q0x m0x c0x,.slice p0x k0x d0x,.slice r0x i0x e0x]).cell (i:=0) rfl
 have c0_1:Xx0.cell? ⟨w8.heap.size,1,none⟩=some (.slice p0x k0x d0x):=by rw[hX];exact(RowAt.new w8 38 [.slice q0x m0x c0x,.slice p0x k0x d0x,.slice r0x i0x e0x]).cell (i:=1) rfl
 have c0_2:Xx0.cell? ⟨w8.heap.size,2,none⟩=some (.slice r0x i0x e0x):=by rw[hX];exact(RowAt.new w8 38 [.slice q0x m0x c0x,.slice p0x k0x d0x,.slice r0x i0x e0x]).cell (i:=2) rfl
 replace a0_0:=fkeep hb a0_0
 replace a0_1:=fkeep hb a0_1
 replace a0_2:=fkeep hb a0_2
 replace bW_0:=fkeep hb bW_0
 replace bW_1:=fkeep hb bW_1
 replace bW_2:=fkeep hb bW_2
 replace bW_3:=fkeep hb bW_3
 replace bW_4:=fkeep hb bW_4
 have HF:=Lib.hid (fstep HF.out hb)
 replace HRW:=Lib.hid (HRW.out.keep hb)
 replace HZ0:=Lib.hid (HZ0.out.keep hb)
 replace HM0:=Lib.hid (HM0.out.keep hb)
 clear hb
 have Ha0_0:=Lib.hid a0_0
 have Ha0_1:=Lib.hid a0_1
 have Ha0_2:=Lib.hid a0_2
 have HbW_0:=Lib.hid bW_0
 have HbW_1:=Lib.hid bW_1
 have HbW_2:=Lib.hid bW_2
 have HbW_3:=Lib.hid bW_3
 have HbW_4:=Lib.hid bW_4
 have Hc0_0:=Lib.hid c0_0
 have Hc0_1:=Lib.hid c0_1
 have Hc0_2:=Lib.hid c0_2
 clear a0_0 a0_1 a0_2 bW_0 bW_1 bW_2 bW_3 bW_4 c0_0 c0_1 c0_2
 have HXx0:=Lib.hid hX
 clear hX
 go_wp2_with fail
 rw[← HXx0.out]
 clear HXx0
 clear La0_0 La0_1 La0_2 LbW_0 LbW_1 LbW_2 LbW_3 LbW_4
 have a0_0:=Ha0_0.out
 have a0_1:=Ha0_1.out
 have a0_2:=Ha0_2.out
 have bW_0:=HbW_0.out
 have bW_1:=HbW_1.out
 have bW_2:=HbW_2.out
 have bW_3:=HbW_3.out
 have bW_4:=HbW_4.out
 have c0_0:=Hc0_0.out
 have c0_1:=Hc0_1.out
 have c0_2:=Hc0_2.out
 clear Ha0_0 Ha0_1 Ha0_2 HbW_0 HbW_1 HbW_2 HbW_3 HbW_4 Hc0_0 Hc0_1 Hc0_2
 go_wp2_with fail
 refine(toFm_o _ x1 _ (HI1.out.keep HF.out)).mono ?_
 rintro e w9 ⟨z1,rfl,hy,hm,hb⟩
 have HZ1:=Lib.hid hy
 have HM1:=Lib.hid hm
 clear hy hm
 have HSZ9:=Lib.hid (hb.size)
 replace a0_0:=fkeep hb a0_0
 replace a0_1:=fkeep hb a0_1
 replace a0_2:=fkeep hb a0_2
 replace bW_0:=fkeep hb bW_0
 replace bW_1:=fkeep hb bW_1
 replace bW_2:=fkeep hb bW_2
 replace bW_3:=fkeep hb bW_3
 replace bW_4:=fkeep hb bW_4
 replace c0_0:=fkeep hb c0_0
 replace c0_1:=fkeep hb c0_1
 replace c0_2:=fkeep hb c0_2
 have HF:=Lib.hid (fstep HF.out hb)
 replace HRW:=Lib.hid (HRW.out.keep hb)
 replace HZ0:=Lib.hid (HZ0.out.keep hb)
 replace HM0:=Lib.hid (HM0.out.keep hb)
 clear hb
 go_wp2_with fail
 refine(toDm_o _ x2 _ (HI2.out.keep HF.out)).mono ?_
 rintro e w10 ⟨z2,rfl,hy,hm,hb⟩
 have HZ2:=Lib.hid hy
 have HM2:=Lib.hid hm
 clear hy hm
 have HSZ10:=Lib.hid (hb.size)
 replace a0_0:=fkeep hb a0_0
 replace a0_1:=fkeep hb a0_1
 replace a0_2:=fkeep hb a0_2
 replace bW_0:=fkeep hb bW_0
 replace bW_1:=fkeep hb bW_1
 replace bW_2:=fkeep hb bW_2
 replace bW_3:=fkeep hb bW_3
 replace bW_4:=fkeep hb bW_4
 replace c0_0:=fkeep hb c0_0
 replace c0_1:=fkeep hb c0_1
 replace c0_2:=fkeep hb c0_2
 have HF:=Lib.hid (fstep HF.out hb)
 replace HRW:=Lib.hid (HRW.out.keep hb)
 replace HZ0:=Lib.hid (HZ0.out.keep hb)
 replace HM0:=Lib.hid (HM0.out.keep hb)
 replace HZ1:=Lib.hid (HZ1.out.keep hb)
 replace HM1:=Lib.hid (HM1.out.keep hb)
 clear hb
 go_wp2_with fail
 have hcc:=implServeInOrder_l _ x0 _ x1 _ x2 x3 _ HZ0.out HZ1.out HZ2.out
 rw[← HR0.out,← HR1.out] at hcc
 refine(hcc).mono ?_
 clear hcc
 rintro e w11 ⟨vG,rfl,how,hb⟩
 obtain⟨qG,mG,cG,fG,kG,dG,tG,iG,eG,uG,nG,yG,jG,hvv⟩:=how.shape
 subst hvv
 have HRG:=Lib.hid how.held
 clear how
 have HSZ11:=Lib.hid (hb.size)
 replace a0_0:=fkeep hb a0_0
 replace a0_1:=fkeep hb a0_1
 replace a0_2:=fkeep hb a0_2
 replace bW_0:=fkeep hb bW_0
 replace bW_1:=fkeep hb bW_1
 replace bW_2:=fkeep hb bW_2
 replace bW_3:=fkeep hb bW_3
 replace bW_4:=fkeep hb bW_4
 replace c0_0:=fkeep hb c0_0
 replace c0_1:=fkeep hb c0_1
 replace c0_2:=fkeep hb c0_2
 have HF:=Lib.hid (fstep HF.out hb)
 replace HRW:=Lib.hid (HRW.out.keep hb)
 replace HZ0:=Lib.hid (HZ0.out.keep hb)
 replace HM0:=Lib.hid (HM0.out.keep hb)
 replace HZ1:=Lib.hid (HZ1.out.keep hb)
 replace HM1:=Lib.hid (HM1.out.keep hb)
 replace HZ2:=Lib.hid (HZ2.out.keep hb)
 replace HM2:=Lib.hid (HM2.out.keep hb)
 clear hb
 obtain⟨XG,hX⟩:∃ X,X=w11.alloc (.cells #[.slice qG mG cG,.slice fG kG dG,.slice tG iG eG,.slice uG nG yG,.int .i64 jG] 42):=⟨_,rfl⟩
 have hb:Fresh w11 XG:=by rw[hX];exact fnew (frefl _) _
 have HSZ12:=Lib.hid (show XG.heap.size=w11.heap.size+1 by rw[hX];simp)
 have La0_0:=fkeep (fnew (frefl w11) (.cells #[.slice qG mG cG,.slice fG kG dG,.slice tG iG eG,.slice uG nG yG,.int .i64 jG] 42)) a0_0
 have La0_1:=fkeep (fnew (frefl w11) (.cells #[.slice qG mG cG,.slice fG kG dG,.slice tG iG eG,.slice uG nG yG,.int .i64 jG] 42)) a0_1
 have La0_2:=fkeep (fnew (frefl w11) (.cells #[.slice qG mG cG,.slice fG kG dG,.slice tG iG eG,.slice uG nG yG,.int .i64 jG] 42)) a0_2
 have LbW_0:=fkeep (fnew (frefl w11) (.cells #[.slice qG mG cG,.slice fG kG dG,.slice tG iG eG,.slice uG nG yG,.int .i64 jG] 42)) bW_0
 have LbW_1:=fkeep (fnew (frefl w11) (.cells #[.slice qG mG cG,.slice fG kG dG,.slice tG iG eG,.slice uG nG yG,.int .i64 jG] 42)) bW_1
 have LbW_2:=fkeep (fnew (frefl w11) (.cells #[.slice qG mG cG,.slice fG kG dG,.slice tG iG eG,.slice uG nG yG,.int .i64 jG] 42)) bW_2
 have LbW_3:=fkeep (fnew (frefl w11) (.cells #[.slice qG mG cG,.slice fG kG dG,.slice tG iG eG,.slice uG nG yG,.int .i64 jG] 42)) bW_3
 have LbW_4:=fkeep (fnew (frefl w11) (.cells #[.slice qG mG cG,.slice fG kG dG,.slice tG iG eG,.slice uG nG yG,.int .i64 jG] 42)) bW_4
 have Lc0_0:=fkeep (fnew (frefl w11) (.cells #[.slice qG mG cG,.slice fG kG dG,.slice tG iG eG,.slice uG nG yG,.int .i64 jG] 42)) c0_0
 have Lc0_1:=fkeep (fnew (frefl w11) (.cells #[.slice qG mG cG,.slice fG kG dG,.slice tG iG eG,.slice uG nG yG,.int .i64 jG] 42)) c0_1
 have Lc0_2:=fkeep (fnew (frefl w11) (.cells #[.slice qG mG cG,.slice fG kG dG,.slice tG iG eG,.slice uG nG yG,.int .i64 jG] 42)) c0_2
 have HRWG:Hid (RowAt XG w11.heap.size 42 [.slice qG mG cG,.slice fG kG dG,.slice tG iG eG,.slice uG nG yG,.int .i64 jG]):=by show RowAt _ _ _ _;rw[hX];exact RowAt.new _ _ _
 have bG_0:XG.cell? ⟨w11.heap.size,0,none⟩=some (.slice qG mG cG):=by rw[hX];exact(RowAt.new w11 42 [.slice qG mG cG,.slice fG kG dG,.slice tG iG eG,.slice uG nG yG,.int .i64 jG]).cell (i:=0) rfl
 have bG_1:XG.cell? ⟨w11.heap.size,1,none⟩=some (.slice fG kG dG):=by rw[hX];exact(RowAt.new w11 42 [.slice qG mG cG,.slice fG kG dG,.slice tG iG eG,.slice uG nG yG,.int .i64 jG]).cell (i:=1) rfl
 have bG_2:XG.cell? ⟨w11.heap.size,2,none⟩=some (.slice tG iG eG):=by rw[hX];exact(RowAt.new w11 42 [.slice qG mG cG,.slice fG kG dG,.slice tG iG eG,.slice uG nG yG,.int .i64 jG]).cell (i:=2) rfl
 have bG_3:XG.cell? ⟨w11.heap.size,3,none⟩=some (.slice uG nG yG):=by rw[hX];exact(RowAt.new w11 42 [.slice qG mG cG,.slice fG kG dG,.slice tG iG eG,.slice uG nG yG,.int .i64 jG]).cell (i:=3) rfl
 have bG_4:XG.cell? ⟨w11.heap.size,4,none⟩=some (.int .i64 jG):=by rw[hX];exact(RowAt.new w11 42 [.slice qG mG cG,.slice fG kG dG,.slice tG iG eG,.slice uG nG yG,.int .i64 jG]).cell (i:=4) rfl
 replace a0_0:=fkeep hb a0_0
 replace a0_1:=fkeep hb a0_1
 replace a0_2:=fkeep hb a0_2
 replace bW_0:=fkeep hb bW_0
 replace bW_1:=fkeep hb bW_1
 replace bW_2:=fkeep hb bW_2
 replace bW_3:=fkeep hb bW_3
 replace bW_4:=fkeep hb bW_4
 replace c0_0:=fkeep hb c0_0
 replace c0_1:=fkeep hb c0_1
 replace c0_2:=fkeep hb c0_2
 have HF:=Lib.hid (fstep HF.out hb)
 replace HRW:=Lib.hid (HRW.out.keep hb)
 replace HZ0:=Lib.hid (HZ0.out.keep hb)
 replace HM0:=Lib.hid (HM0.out.keep hb)
 replace HZ1:=Lib.hid (HZ1.out.keep hb)
 replace HM1:=Lib.hid (HM1.out.keep hb)
 replace HZ2:=Lib.hid (HZ2.out.keep hb)
 replace HM2:=Lib.hid (HM2.out.keep hb)
 replace HRG:=Lib.hid (HRG.out.keep hb)
 clear hb
 have Ha0_0:=Lib.hid a0_0
 have Ha0_1:=Lib.hid a0_1
 have Ha0_2:=Lib.hid a0_2
 have HbW_0:=Lib.hid bW_0
 have HbW_1:=Lib.hid bW_1
 have HbW_2:=Lib.hid bW_2
 have HbW_3:=Lib.hid bW_3
 have HbW_4:=Lib.hid bW_4
 have Hc0_0:=Lib.hid c0_0
 have Hc0_1:=Lib.hid c0_1
 have Hc0_2:=Lib.hid c0_2
 have HbG_0:=Lib.hid bG_0
 have HbG_1:=Lib.hid bG_1
 have HbG_2:=Lib.hid bG_2
 have HbG_3:=Lib.hid bG_3
 have HbG_4:=Lib.hid bG_4
 clear a0_0 a0_1 a0_2 bW_0 bW_1 bW_2 bW_3 bW_4 c0_0 c0_1 c0_2 bG_0 bG_1 bG_2 bG_3 bG_4
 have HXG:=Lib.hid hX
 clear hX
 go_wp2_with fail
 rw[← HXG.out]
 clear HXG
 clear La0_0 La0_1 La0_2 LbW_0 LbW_1 LbW_2 LbW_3 LbW_4 Lc0_0 Lc0_1 Lc0_2
 have a0_0:=Ha0_0.out
 have a0_1:=Ha0_1.out
 have a0_2:=Ha0_2.out
 have bW_0:=HbW_0.out
 have bW_1:=HbW_1.out
 have bW_2:=HbW_2.out
 have bW_3:=HbW_3.out
 have bW_4:=HbW_4.out
 have c0_0:=Hc0_0.out
 have c0_1:=Hc0_1.out
 have c0_2:=Hc0_2.out
 have bG_0:=HbG_0.out
 have bG_1:=HbG_1.out
 have bG_2:=HbG_2.out
 have bG_3:=HbG_3.out
 have bG_4:=HbG_4.out
 clear Ha0_0 Ha0_1 Ha0_2 HbW_0 HbW_1 HbW_2 HbW_3 HbW_4 Hc0_0 Hc0_1 Hc0_2 HbG_0 HbG_1 HbG_2 HbG_3 HbG_4
 go_wp2_with fail
 refine(eqSd_r _ _ _ _ _ _ r0 _ (HRG.out) (HRW.out) HSM.out).mono ?_
 rintro e w12 ⟨rfl,hb⟩
 have HSZ13:=Lib.hid (hb.size)
 replace a0_0:=fkeep hb a0_0
 replace a0_1:=fkeep hb a0_1
 replace a0_2:=fkeep hb a0_2
 replace bW_0:=fkeep hb bW_0
 replace bW_1:=fkeep hb bW_1
 replace bW_2:=fkeep hb bW_2
 replace bW_3:=fkeep hb bW_3
 replace bW_4:=fkeep hb bW_4
 replace c0_0:=fkeep hb c0_0
 replace c0_1:=fkeep hb c0_1
 replace c0_2:=fkeep hb c0_2
 replace bG_0:=fkeep hb bG_0
 replace bG_1:=fkeep hb bG_1
 replace bG_2:=fkeep hb bG_2
 replace bG_3:=fkeep hb bG_3
 replace bG_4:=fkeep hb bG_4
 have HF:=Lib.hid (fstep HF.out hb)
 replace HRW:=Lib.hid (HRW.out.keep hb)
 replace HZ0:=Lib.hid (HZ0.out.keep hb)
 replace HM0:=Lib.hid (HM0.out.keep hb)
 replace HZ1:=Lib.hid (HZ1.out.keep hb)
 replace HM1:=Lib.hid (HM1.out.keep hb)
 replace HZ2:=Lib.hid (HZ2.out.keep hb)
 replace HM2:=Lib.hid (HM2.out.keep hb)
 replace HRG:=Lib.hid (HRG.out.keep hb)
 replace HRWG:=Lib.hid (HRWG.out.keep hb)
 clear hb
 go_wp2
 have HSS:Fresh w12 w12∧w12.cell? ⟨w8.heap.size,0,none⟩=some (.slice q0x m0x c0x)∧w12.cell? ⟨w8.heap.size,1,none⟩=some (.slice p0x k0x d0x)∧w12.cell? ⟨w8.heap.size,2,none⟩=some (.slice r0x i0x e0x)∧w12.cell? ⟨w.heap.size,0,none⟩=some (.slice q0a m0a c0a)∧w12.cell? ⟨w.heap.size,1,none⟩=some (.slice p0a k0a d0a)∧w12.cell? ⟨w.heap.size,2,none⟩=some (.slice r0a i0a e0a):=⟨frefl _,c0_0,c0_1,c0_2,a0_0,a0_1,a0_2⟩
 go_region_held3 (fun w'=>Fresh w12 w'∧w'.cell? ⟨w8.heap.size,0,none⟩=some (.slice q0x m0x c0x)∧w'.cell? ⟨w8.heap.size,1,none⟩=some (.slice p0x k0x d0x)∧w'.cell? ⟨w8.heap.size,2,none⟩=some (.slice r0x i0x e0x)∧w'.cell? ⟨w.heap.size,0,none⟩=some (.slice q0a m0a c0a)∧w'.cell? ⟨w.heap.size,1,none⟩=some (.slice p0a k0a d0a)∧w'.cell? ⟨w.heap.size,2,none⟩=some (.slice r0a i0a e0a))
  (first|assumption|exact keepc6 (by assumption) (by assumption)|exact keepc6 (by assumption) (fdrew (frefl _))|exact keepc6 (by assumption) (frefl _))
  (first|(go_at_call 21;refine(toPlan_k _ x0 _ (HI0.out.keep (fstep HF.out (And.left (by assumption))))).mono ?_;rintro e w13 ⟨t0,rfl,hy,hb10⟩;have HT0:=Lib.hid hy;clear hy)|(go_at_call 13;refine(eqPlan_k _ _ x0 _ (HZ0.out.keep (And.left (by assumption))) HT0.out).mono ?_;rintro e w14 ⟨rfl,hb11⟩))
 have hb:Fresh w12 w14:=fstep (fstep (fdrew (frefl _)) hb10) hb11
 clear hb10 hb11 HSS HT0
 have HSZ14:=Lib.hid (hb.size)
 replace a0_0:=fkeep hb a0_0
 replace a0_1:=fkeep hb a0_1
 replace a0_2:=fkeep hb a0_2
 replace bW_0:=fkeep hb bW_0
 replace bW_1:=fkeep hb bW_1
 replace bW_2:=fkeep hb bW_2
 replace bW_3:=fkeep hb bW_3
 replace bW_4:=fkeep hb bW_4
 replace c0_0:=fkeep hb c0_0
 replace c0_1:=fkeep hb c0_1
 replace c0_2:=fkeep hb c0_2
 replace bG_0:=fkeep hb bG_0
 replace bG_1:=fkeep hb bG_1
 replace bG_2:=fkeep hb bG_2
 replace bG_3:=fkeep hb bG_3
 replace bG_4:=fkeep hb bG_4
 have HF:=Lib.hid (fstep HF.out hb)
 replace HRW:=Lib.hid (HRW.out.keep hb)
 replace HZ0:=Lib.hid (HZ0.out.keep hb)
 replace HM0:=Lib.hid (HM0.out.keep hb)
 replace HZ1:=Lib.hid (HZ1.out.keep hb)
 replace HM1:=Lib.hid (HM1.out.keep hb)
 replace HZ2:=Lib.hid (HZ2.out.keep hb)
 replace HM2:=Lib.hid (HM2.out.keep hb)
 replace HRG:=Lib.hid (HRG.out.keep hb)
 replace HRWG:=Lib.hid (HRWG.out.keep hb)
 clear hb
 go_wp2_with fail
 refine(toFm_k _ x1 _ (HI1.out.keep HF.out)).mono ?_
 rintro e w15 ⟨t1,rfl,hy,hb⟩
 have HT1:=Lib.hid hy
 clear hy
 have HSZ15:=Lib.hid (hb.size)
 replace a0_0:=fkeep hb a0_0
 replace a0_1:=fkeep hb a0_1
 replace a0_2:=fkeep hb a0_2
 replace bW_0:=fkeep hb bW_0
 replace bW_1:=fkeep hb bW_1
 replace bW_2:=fkeep hb bW_2
 replace bW_3:=fkeep hb bW_3
 replace bW_4:=fkeep hb bW_4
 replace c0_0:=fkeep hb c0_0
 replace c0_1:=fkeep hb c0_1
 replace c0_2:=fkeep hb c0_2
 replace bG_0:=fkeep hb bG_0
 replace bG_1:=fkeep hb bG_1
 replace bG_2:=fkeep hb bG_2
 replace bG_3:=fkeep hb bG_3
 replace bG_4:=fkeep hb bG_4
 have HF:=Lib.hid (fstep HF.out hb)
 replace HRW:=Lib.hid (HRW.out.keep hb)
 replace HZ0:=Lib.hid (HZ0.out.keep hb)
 replace HM0:=Lib.hid (HM0.out.keep hb)
 replace HZ1:=Lib.hid (HZ1.out.keep hb)
 replace HM1:=Lib.hid (HM1.out.keep hb)
 replace HZ2:=Lib.hid (HZ2.out.keep hb)
 replace HM2:=Lib.hid (HM2.out.keep hb)
 replace HRG:=Lib.hid (HRG.out.keep hb)
 replace HRWG:=Lib.hid (HRWG.out.keep hb)
 clear hb
 go_wp2_with fail
 refine(eqFm_k _ _ x1 _ HZ1.out (HT1.out)).mono ?_
 rintro e w16 ⟨rfl,hb⟩
 have HSZ16:=Lib.hid (hb.size)
 replace a0_0:=fkeep hb a0_0
 replace a0_1:=fkeep hb a0_1
 replace a0_2:=fkeep hb a0_2
 replace bW_0:=fkeep hb bW_0
 replace bW_1:=fkeep hb bW_1
 replace bW_2:=fkeep hb bW_2
 replace bW_3:=fkeep hb bW_3
 replace bW_4:=fkeep hb bW_4
 replace c0_0:=fkeep hb c0_0
 replace c0_1:=fkeep hb c0_1
 replace c0_2:=fkeep hb c0_2
 replace bG_0:=fkeep hb bG_0
 replace bG_1:=fkeep hb bG_1
 replace bG_2:=fkeep hb bG_2
 replace bG_3:=fkeep hb bG_3
 replace bG_4:=fkeep hb bG_4
 have HF:=Lib.hid (fstep HF.out hb)
 replace HRW:=Lib.hid (HRW.out.keep hb)
 replace HZ0:=Lib.hid (HZ0.out.keep hb)
 replace HM0:=Lib.hid (HM0.out.keep hb)
 replace HZ1:=Lib.hid (HZ1.out.keep hb)
 replace HM1:=Lib.hid (HM1.out.keep hb)
 replace HZ2:=Lib.hid (HZ2.out.keep hb)
 replace HM2:=Lib.hid (HM2.out.keep hb)
 replace HRG:=Lib.hid (HRG.out.keep hb)
 replace HRWG:=Lib.hid (HRWG.out.keep hb)
 clear hb
 clear HT1
 go_wp2_with fail
 refine(toDm_k _ x2 _ (HI2.out.keep HF.out)).mono ?_
 rintro e w17 ⟨t2,rfl,hy,hb⟩
 have HT2:=Lib.hid hy
 clear hy
 have HSZ17:=Lib.hid (hb.size)
 replace a0_0:=fkeep hb a0_0
 replace a0_1:=fkeep hb a0_1
 replace a0_2:=fkeep hb a0_2
 replace bW_0:=fkeep hb bW_0
 replace bW_1:=fkeep hb bW_1
 replace bW_2:=fkeep hb bW_2
 replace bW_3:=fkeep hb bW_3
 replace bW_4:=fkeep hb bW_4
 replace c0_0:=fkeep hb c0_0
 replace c0_1:=fkeep hb c0_1
 replace c0_2:=fkeep hb c0_2
 replace bG_0:=fkeep hb bG_0
 replace bG_1:=fkeep hb bG_1
 replace bG_2:=fkeep hb bG_2
 replace bG_3:=fkeep hb bG_3
 replace bG_4:=fkeep hb bG_4
 have HF:=Lib.hid (fstep HF.out hb)
 replace HRW:=Lib.hid (HRW.out.keep hb)
 replace HZ0:=Lib.hid (HZ0.out.keep hb)
 replace HM0:=Lib.hid (HM0.out.keep hb)
 replace HZ1:=Lib.hid (HZ1.out.keep hb)
 replace HM1:=Lib.hid (HM1.out.keep hb)
 replace HZ2:=Lib.hid (HZ2.out.keep hb)
 replace HM2:=Lib.hid (HM2.out.keep hb)
 replace HRG:=Lib.hid (HRG.out.keep hb)
 replace HRWG:=Lib.hid (HRWG.out.keep hb)
 clear hb
 go_wp2_with fail
 refine(eqDm_k _ _ x2 _ HZ2.out (HT2.out)).mono ?_
 rintro e w18 ⟨rfl,hb⟩
 have HSZ18:=Lib.hid (hb.size)
 replace a0_0:=fkeep hb a0_0
 replace a0_1:=fkeep hb a0_1
 replace a0_2:=fkeep hb a0_2
 replace bW_0:=fkeep hb bW_0
 replace bW_1:=fkeep hb bW_1
 replace bW_2:=fkeep hb bW_2
 replace bW_3:=fkeep hb bW_3
 replace bW_4:=fkeep hb bW_4
 replace c0_0:=fkeep hb c0_0
 replace c0_1:=fkeep hb c0_1
 replace c0_2:=fkeep hb c0_2
 replace bG_0:=fkeep hb bG_0
 replace bG_1:=fkeep hb bG_1
 replace bG_2:=fkeep hb bG_2
 replace bG_3:=fkeep hb bG_3
 replace bG_4:=fkeep hb bG_4
 have HF:=Lib.hid (fstep HF.out hb)
 replace HRW:=Lib.hid (HRW.out.keep hb)
 replace HZ0:=Lib.hid (HZ0.out.keep hb)
 replace HM0:=Lib.hid (HM0.out.keep hb)
 replace HZ1:=Lib.hid (HZ1.out.keep hb)
 replace HM1:=Lib.hid (HM1.out.keep hb)
 replace HZ2:=Lib.hid (HZ2.out.keep hb)
 replace HM2:=Lib.hid (HM2.out.keep hb)
 replace HRG:=Lib.hid (HRG.out.keep hb)
 replace HRWG:=Lib.hid (HRWG.out.keep hb)
 clear hb
 clear HT2
 clear HZ0 HZ1 HZ2
 go_wp2_with fail
 refine(markPlan_m _ (XW.heap.size) (w8.heap.size) 1 _ HM0.out (by have s0:=HSZ0.out;have s1:=HSZ1.out;have s2:=HSZ2.out;have s3:=HSZ3.out;have s4:=HSZ4.out;have s5:=HSZ5.out;have s6:=HSZ6.out;have s7:=HSZ7.out;have s8:=HSZ8.out;have s9:=HSZ9.out;have s10:=HSZ10.out;have s11:=HSZ11.out;have s12:=HSZ12.out;have s13:=HSZ13.out;have s14:=HSZ14.out;have s15:=HSZ15.out;have s16:=HSZ16.out;have s17:=HSZ17.out;have s18:=HSZ18.out;omega) (by have s0:=HSZ0.out;have s1:=HSZ1.out;have s2:=HSZ2.out;have s3:=HSZ3.out;have s4:=HSZ4.out;have s5:=HSZ5.out;have s6:=HSZ6.out;have s7:=HSZ7.out;have s8:=HSZ8.out;have s9:=HSZ9.out;have s10:=HSZ10.out;have s11:=HSZ11.out;have s12:=HSZ12.out;have s13:=HSZ13.out;have s14:=HSZ14.out;have s15:=HSZ15.out;have s16:=HSZ16.out;have s17:=HSZ17.out;have s18:=HSZ18.out;omega) (by omega) (by omega)).mono ?_
 rintro e w19 ⟨k0,rfl,hka0,hkb0,hb⟩
 clear HM0
 replace hkb0:k0≤1+17592186044416:=hkb0
 have HSZ19:=Lib.hid (hb.low.size)
 replace a0_0:=Mk.cell hb (by have s0:=HSZ0.out;have s1:=HSZ1.out;have s2:=HSZ2.out;have s3:=HSZ3.out;have s4:=HSZ4.out;have s5:=HSZ5.out;have s6:=HSZ6.out;have s7:=HSZ7.out;have s8:=HSZ8.out;have s9:=HSZ9.out;have s10:=HSZ10.out;have s11:=HSZ11.out;have s12:=HSZ12.out;have s13:=HSZ13.out;have s14:=HSZ14.out;have s15:=HSZ15.out;have s16:=HSZ16.out;have s17:=HSZ17.out;have s18:=HSZ18.out;have s19:=HSZ19.out;first|exact Or.inl (by omega)|exact Or.inr (by omega)) a0_0
 replace a0_1:=Mk.cell hb (by have s0:=HSZ0.out;have s1:=HSZ1.out;have s2:=HSZ2.out;have s3:=HSZ3.out;have s4:=HSZ4.out;have s5:=HSZ5.out;have s6:=HSZ6.out;have s7:=HSZ7.out;have s8:=HSZ8.out;have s9:=HSZ9.out;have s10:=HSZ10.out;have s11:=HSZ11.out;have s12:=HSZ12.out;have s13:=HSZ13.out;have s14:=HSZ14.out;have s15:=HSZ15.out;have s16:=HSZ16.out;have s17:=HSZ17.out;have s18:=HSZ18.out;have s19:=HSZ19.out;first|exact Or.inl (by omega)|exact Or.inr (by omega)) a0_1
 replace a0_2:=Mk.cell hb (by have s0:=HSZ0.out;have s1:=HSZ1.out;have s2:=HSZ2.out;have s3:=HSZ3.out;have s4:=HSZ4.out;have s5:=HSZ5.out;have s6:=HSZ6.out;have s7:=HSZ7.out;have s8:=HSZ8.out;have s9:=HSZ9.out;have s10:=HSZ10.out;have s11:=HSZ11.out;have s12:=HSZ12.out;have s13:=HSZ13.out;have s14:=HSZ14.out;have s15:=HSZ15.out;have s16:=HSZ16.out;have s17:=HSZ17.out;have s18:=HSZ18.out;have s19:=HSZ19.out;first|exact Or.inl (by omega)|exact Or.inr (by omega)) a0_2
 replace bW_0:=Mk.cell hb (by have s0:=HSZ0.out;have s1:=HSZ1.out;have s2:=HSZ2.out;have s3:=HSZ3.out;have s4:=HSZ4.out;have s5:=HSZ5.out;have s6:=HSZ6.out;have s7:=HSZ7.out;have s8:=HSZ8.out;have s9:=HSZ9.out;have s10:=HSZ10.out;have s11:=HSZ11.out;have s12:=HSZ12.out;have s13:=HSZ13.out;have s14:=HSZ14.out;have s15:=HSZ15.out;have s16:=HSZ16.out;have s17:=HSZ17.out;have s18:=HSZ18.out;have s19:=HSZ19.out;first|exact Or.inl (by omega)|exact Or.inr (by omega)) bW_0
 replace bW_1:=Mk.cell hb (by have s0:=HSZ0.out;have s1:=HSZ1.out;have s2:=HSZ2.out;have s3:=HSZ3.out;have s4:=HSZ4.out;have s5:=HSZ5.out;have s6:=HSZ6.out;have s7:=HSZ7.out;have s8:=HSZ8.out;have s9:=HSZ9.out;have s10:=HSZ10.out;have s11:=HSZ11.out;have s12:=HSZ12.out;have s13:=HSZ13.out;have s14:=HSZ14.out;have s15:=HSZ15.out;have s16:=HSZ16.out;have s17:=HSZ17.out;have s18:=HSZ18.out;have s19:=HSZ19.out;first|exact Or.inl (by omega)|exact Or.inr (by omega)) bW_1
 replace bW_2:=Mk.cell hb (by have s0:=HSZ0.out;have s1:=HSZ1.out;have s2:=HSZ2.out;have s3:=HSZ3.out;have s4:=HSZ4.out;have s5:=HSZ5.out;have s6:=HSZ6.out;have s7:=HSZ7.out;have s8:=HSZ8.out;have s9:=HSZ9.out;have s10:=HSZ10.out;have s11:=HSZ11.out;have s12:=HSZ12.out;have s13:=HSZ13.out;have s14:=HSZ14.out;have s15:=HSZ15.out;have s16:=HSZ16.out;have s17:=HSZ17.out;have s18:=HSZ18.out;have s19:=HSZ19.out;first|exact Or.inl (by omega)|exact Or.inr (by omega)) bW_2
 replace bW_3:=Mk.cell hb (by have s0:=HSZ0.out;have s1:=HSZ1.out;have s2:=HSZ2.out;have s3:=HSZ3.out;have s4:=HSZ4.out;have s5:=HSZ5.out;have s6:=HSZ6.out;have s7:=HSZ7.out;have s8:=HSZ8.out;have s9:=HSZ9.out;have s10:=HSZ10.out;have s11:=HSZ11.out;have s12:=HSZ12.out;have s13:=HSZ13.out;have s14:=HSZ14.out;have s15:=HSZ15.out;have s16:=HSZ16.out;have s17:=HSZ17.out;have s18:=HSZ18.out;have s19:=HSZ19.out;first|exact Or.inl (by omega)|exact Or.inr (by omega)) bW_3
 replace bW_4:=Mk.cell hb (by have s0:=HSZ0.out;have s1:=HSZ1.out;have s2:=HSZ2.out;have s3:=HSZ3.out;have s4:=HSZ4.out;have s5:=HSZ5.out;have s6:=HSZ6.out;have s7:=HSZ7.out;have s8:=HSZ8.out;have s9:=HSZ9.out;have s10:=HSZ10.out;have s11:=HSZ11.out;have s12:=HSZ12.out;have s13:=HSZ13.out;have s14:=HSZ14.out;have s15:=HSZ15.out;have s16:=HSZ16.out;have s17:=HSZ17.out;have s18:=HSZ18.out;have s19:=HSZ19.out;first|exact Or.inl (by omega)|exact Or.inr (by omega)) bW_4
 replace c0_0:=Mk.cell hb (by have s0:=HSZ0.out;have s1:=HSZ1.out;have s2:=HSZ2.out;have s3:=HSZ3.out;have s4:=HSZ4.out;have s5:=HSZ5.out;have s6:=HSZ6.out;have s7:=HSZ7.out;have s8:=HSZ8.out;have s9:=HSZ9.out;have s10:=HSZ10.out;have s11:=HSZ11.out;have s12:=HSZ12.out;have s13:=HSZ13.out;have s14:=HSZ14.out;have s15:=HSZ15.out;have s16:=HSZ16.out;have s17:=HSZ17.out;have s18:=HSZ18.out;have s19:=HSZ19.out;first|exact Or.inl (by omega)|exact Or.inr (by omega)) c0_0
 replace c0_1:=Mk.cell hb (by have s0:=HSZ0.out;have s1:=HSZ1.out;have s2:=HSZ2.out;have s3:=HSZ3.out;have s4:=HSZ4.out;have s5:=HSZ5.out;have s6:=HSZ6.out;have s7:=HSZ7.out;have s8:=HSZ8.out;have s9:=HSZ9.out;have s10:=HSZ10.out;have s11:=HSZ11.out;have s12:=HSZ12.out;have s13:=HSZ13.out;have s14:=HSZ14.out;have s15:=HSZ15.out;have s16:=HSZ16.out;have s17:=HSZ17.out;have s18:=HSZ18.out;have s19:=HSZ19.out;first|exact Or.inl (by omega)|exact Or.inr (by omega)) c0_1
 replace c0_2:=Mk.cell hb (by have s0:=HSZ0.out;have s1:=HSZ1.out;have s2:=HSZ2.out;have s3:=HSZ3.out;have s4:=HSZ4.out;have s5:=HSZ5.out;have s6:=HSZ6.out;have s7:=HSZ7.out;have s8:=HSZ8.out;have s9:=HSZ9.out;have s10:=HSZ10.out;have s11:=HSZ11.out;have s12:=HSZ12.out;have s13:=HSZ13.out;have s14:=HSZ14.out;have s15:=HSZ15.out;have s16:=HSZ16.out;have s17:=HSZ17.out;have s18:=HSZ18.out;have s19:=HSZ19.out;first|exact Or.inl (by omega)|exact Or.inr (by omega)) c0_2
 replace bG_0:=Mk.cell hb (by have s0:=HSZ0.out;have s1:=HSZ1.out;have s2:=HSZ2.out;have s3:=HSZ3.out;have s4:=HSZ4.out;have s5:=HSZ5.out;have s6:=HSZ6.out;have s7:=HSZ7.out;have s8:=HSZ8.out;have s9:=HSZ9.out;have s10:=HSZ10.out;have s11:=HSZ11.out;have s12:=HSZ12.out;have s13:=HSZ13.out;have s14:=HSZ14.out;have s15:=HSZ15.out;have s16:=HSZ16.out;have s17:=HSZ17.out;have s18:=HSZ18.out;have s19:=HSZ19.out;first|exact Or.inl (by omega)|exact Or.inr (by omega)) bG_0
 replace bG_1:=Mk.cell hb (by have s0:=HSZ0.out;have s1:=HSZ1.out;have s2:=HSZ2.out;have s3:=HSZ3.out;have s4:=HSZ4.out;have s5:=HSZ5.out;have s6:=HSZ6.out;have s7:=HSZ7.out;have s8:=HSZ8.out;have s9:=HSZ9.out;have s10:=HSZ10.out;have s11:=HSZ11.out;have s12:=HSZ12.out;have s13:=HSZ13.out;have s14:=HSZ14.out;have s15:=HSZ15.out;have s16:=HSZ16.out;have s17:=HSZ17.out;have s18:=HSZ18.out;have s19:=HSZ19.out;first|exact Or.inl (by omega)|exact Or.inr (by omega)) bG_1
 replace bG_2:=Mk.cell hb (by have s0:=HSZ0.out;have s1:=HSZ1.out;have s2:=HSZ2.out;have s3:=HSZ3.out;have s4:=HSZ4.out;have s5:=HSZ5.out;have s6:=HSZ6.out;have s7:=HSZ7.out;have s8:=HSZ8.out;have s9:=HSZ9.out;have s10:=HSZ10.out;have s11:=HSZ11.out;have s12:=HSZ12.out;have s13:=HSZ13.out;have s14:=HSZ14.out;have s15:=HSZ15.out;have s16:=HSZ16.out;have s17:=HSZ17.out;have s18:=HSZ18.out;have s19:=HSZ19.out;first|exact Or.inl (by omega)|exact Or.inr (by omega)) bG_2
 replace bG_3:=Mk.cell hb (by have s0:=HSZ0.out;have s1:=HSZ1.out;have s2:=HSZ2.out;have s3:=HSZ3.out;have s4:=HSZ4.out;have s5:=HSZ5.out;have s6:=HSZ6.out;have s7:=HSZ7.out;have s8:=HSZ8.out;have s9:=HSZ9.out;have s10:=HSZ10.out;have s11:=HSZ11.out;have s12:=HSZ12.out;have s13:=HSZ13.out;have s14:=HSZ14.out;have s15:=HSZ15.out;have s16:=HSZ16.out;have s17:=HSZ17.out;have s18:=HSZ18.out;have s19:=HSZ19.out;first|exact Or.inl (by omega)|exact Or.inr (by omega)) bG_3
 replace bG_4:=Mk.cell hb (by have s0:=HSZ0.out;have s1:=HSZ1.out;have s2:=HSZ2.out;have s3:=HSZ3.out;have s4:=HSZ4.out;have s5:=HSZ5.out;have s6:=HSZ6.out;have s7:=HSZ7.out;have s8:=HSZ8.out;have s9:=HSZ9.out;have s10:=HSZ10.out;have s11:=HSZ11.out;have s12:=HSZ12.out;have s13:=HSZ13.out;have s14:=HSZ14.out;have s15:=HSZ15.out;have s16:=HSZ16.out;have s17:=HSZ17.out;have s18:=HSZ18.out;have s19:=HSZ19.out;first|exact Or.inl (by omega)|exact Or.inr (by omega)) bG_4
 have HF:=Lib.hid (Mk.fresh_of HF.out hb (by have s0:=HSZ0.out;have s1:=HSZ1.out;have s2:=HSZ2.out;have s3:=HSZ3.out;have s4:=HSZ4.out;have s5:=HSZ5.out;have s6:=HSZ6.out;have s7:=HSZ7.out;have s8:=HSZ8.out;have s9:=HSZ9.out;have s10:=HSZ10.out;have s11:=HSZ11.out;have s12:=HSZ12.out;have s13:=HSZ13.out;have s14:=HSZ14.out;have s15:=HSZ15.out;have s16:=HSZ16.out;have s17:=HSZ17.out;have s18:=HSZ18.out;have s19:=HSZ19.out;omega))
 replace HRW:=Lib.hid (HRW.out.mk hb (by have s0:=HSZ0.out;have s1:=HSZ1.out;have s2:=HSZ2.out;have s3:=HSZ3.out;have s4:=HSZ4.out;have s5:=HSZ5.out;have s6:=HSZ6.out;have s7:=HSZ7.out;have s8:=HSZ8.out;have s9:=HSZ9.out;have s10:=HSZ10.out;have s11:=HSZ11.out;have s12:=HSZ12.out;have s13:=HSZ13.out;have s14:=HSZ14.out;have s15:=HSZ15.out;have s16:=HSZ16.out;have s17:=HSZ17.out;have s18:=HSZ18.out;have s19:=HSZ19.out;first|exact Or.inl (by omega)|exact Or.inr (by omega)))
 replace HM1:=Lib.hid (HM1.out.mk (by decide) hb)
 replace HM2:=Lib.hid (HM2.out.mk (by decide) hb)
 replace HRG:=Lib.hid (HRG.out.mk hb (by have s0:=HSZ0.out;have s1:=HSZ1.out;have s2:=HSZ2.out;have s3:=HSZ3.out;have s4:=HSZ4.out;have s5:=HSZ5.out;have s6:=HSZ6.out;have s7:=HSZ7.out;have s8:=HSZ8.out;have s9:=HSZ9.out;have s10:=HSZ10.out;have s11:=HSZ11.out;have s12:=HSZ12.out;have s13:=HSZ13.out;have s14:=HSZ14.out;have s15:=HSZ15.out;have s16:=HSZ16.out;have s17:=HSZ17.out;have s18:=HSZ18.out;have s19:=HSZ19.out;first|exact Or.inl (by omega)|exact Or.inr (by omega)))
 replace HRWG:=Lib.hid (hb.row _ _ _ HRWG.out (by decide))
 clear hb
 go_wp2_with fail
 refine(markFm_m _ (Xx0.heap.size) (w9.heap.size) k0 _ HM1.out (by omega) (by omega)).mono ?_
 rintro e w20 ⟨k1,rfl,hka1,hkb1,hb⟩
 clear HM1
 replace hkb1:k1≤k0+8796093022208:=hkb1
 have HSZ20:=Lib.hid (hb.low.size)
 replace a0_0:=Mk.cell hb (by have s0:=HSZ0.out;have s1:=HSZ1.out;have s2:=HSZ2.out;have s3:=HSZ3.out;have s4:=HSZ4.out;have s5:=HSZ5.out;have s6:=HSZ6.out;have s7:=HSZ7.out;have s8:=HSZ8.out;have s9:=HSZ9.out;have s10:=HSZ10.out;have s11:=HSZ11.out;have s12:=HSZ12.out;have s13:=HSZ13.out;have s14:=HSZ14.out;have s15:=HSZ15.out;have s16:=HSZ16.out;have s17:=HSZ17.out;have s18:=HSZ18.out;have s19:=HSZ19.out;have s20:=HSZ20.out;first|exact Or.inl (by omega)|exact Or.inr (by omega)) a0_0
 replace a0_1:=Mk.cell hb (by have s0:=HSZ0.out;have s1:=HSZ1.out;have s2:=HSZ2.out;have s3:=HSZ3.out;have s4:=HSZ4.out;have s5:=HSZ5.out;have s6:=HSZ6.out;have s7:=HSZ7.out;have s8:=HSZ8.out;have s9:=HSZ9.out;have s10:=HSZ10.out;have s11:=HSZ11.out;have s12:=HSZ12.out;have s13:=HSZ13.out;have s14:=HSZ14.out;have s15:=HSZ15.out;have s16:=HSZ16.out;have s17:=HSZ17.out;have s18:=HSZ18.out;have s19:=HSZ19.out;have s20:=HSZ20.out;first|exact Or.inl (by omega)|exact Or.inr (by omega)) a0_1
 replace a0_2:=Mk.cell hb (by have s0:=HSZ0.out;have s1:=HSZ1.out;have s2:=HSZ2.out;have s3:=HSZ3.out;have s4:=HSZ4.out;have s5:=HSZ5.out;have s6:=HSZ6.out;have s7:=HSZ7.out;have s8:=HSZ8.out;have s9:=HSZ9.out;have s10:=HSZ10.out;have s11:=HSZ11.out;have s12:=HSZ12.out;have s13:=HSZ13.out;have s14:=HSZ14.out;have s15:=HSZ15.out;have s16:=HSZ16.out;have s17:=HSZ17.out;have s18:=HSZ18.out;have s19:=HSZ19.out;have s20:=HSZ20.out;first|exact Or.inl (by omega)|exact Or.inr (by omega)) a0_2
 replace bW_0:=Mk.cell hb (by have s0:=HSZ0.out;have s1:=HSZ1.out;have s2:=HSZ2.out;have s3:=HSZ3.out;have s4:=HSZ4.out;have s5:=HSZ5.out;have s6:=HSZ6.out;have s7:=HSZ7.out;have s8:=HSZ8.out;have s9:=HSZ9.out;have s10:=HSZ10.out;have s11:=HSZ11.out;have s12:=HSZ12.out;have s13:=HSZ13.out;have s14:=HSZ14.out;have s15:=HSZ15.out;have s16:=HSZ16.out;have s17:=HSZ17.out;have s18:=HSZ18.out;have s19:=HSZ19.out;have s20:=HSZ20.out;first|exact Or.inl (by omega)|exact Or.inr (by omega)) bW_0
 replace bW_1:=Mk.cell hb (by have s0:=HSZ0.out;have s1:=HSZ1.out;have s2:=HSZ2.out;have s3:=HSZ3.out;have s4:=HSZ4.out;have s5:=HSZ5.out;have s6:=HSZ6.out;have s7:=HSZ7.out;have s8:=HSZ8.out;have s9:=HSZ9.out;have s10:=HSZ10.out;have s11:=HSZ11.out;have s12:=HSZ12.out;have s13:=HSZ13.out;have s14:=HSZ14.out;have s15:=HSZ15.out;have s16:=HSZ16.out;have s17:=HSZ17.out;have s18:=HSZ18.out;have s19:=HSZ19.out;have s20:=HSZ20.out;first|exact Or.inl (by omega)|exact Or.inr (by omega)) bW_1
 replace bW_2:=Mk.cell hb (by have s0:=HSZ0.out;have s1:=HSZ1.out;have s2:=HSZ2.out;have s3:=HSZ3.out;have s4:=HSZ4.out;have s5:=HSZ5.out;have s6:=HSZ6.out;have s7:=HSZ7.out;have s8:=HSZ8.out;have s9:=HSZ9.out;have s10:=HSZ10.out;have s11:=HSZ11.out;have s12:=HSZ12.out;have s13:=HSZ13.out;have s14:=HSZ14.out;have s15:=HSZ15.out;have s16:=HSZ16.out;have s17:=HSZ17.out;have s18:=HSZ18.out;have s19:=HSZ19.out;have s20:=HSZ20.out;first|exact Or.inl (by omega)|exact Or.inr (by omega)) bW_2
 replace bW_3:=Mk.cell hb (by have s0:=HSZ0.out;have s1:=HSZ1.out;have s2:=HSZ2.out;have s3:=HSZ3.out;have s4:=HSZ4.out;have s5:=HSZ5.out;have s6:=HSZ6.out;have s7:=HSZ7.out;have s8:=HSZ8.out;have s9:=HSZ9.out;have s10:=HSZ10.out;have s11:=HSZ11.out;have s12:=HSZ12.out;have s13:=HSZ13.out;have s14:=HSZ14.out;have s15:=HSZ15.out;have s16:=HSZ16.out;have s17:=HSZ17.out;have s18:=HSZ18.out;have s19:=HSZ19.out;have s20:=HSZ20.out;first|exact Or.inl (by omega)|exact Or.inr (by omega)) bW_3
 replace bW_4:=Mk.cell hb (by have s0:=HSZ0.out;have s1:=HSZ1.out;have s2:=HSZ2.out;have s3:=HSZ3.out;have s4:=HSZ4.out;have s5:=HSZ5.out;have s6:=HSZ6.out;have s7:=HSZ7.out;have s8:=HSZ8.out;have s9:=HSZ9.out;have s10:=HSZ10.out;have s11:=HSZ11.out;have s12:=HSZ12.out;have s13:=HSZ13.out;have s14:=HSZ14.out;have s15:=HSZ15.out;have s16:=HSZ16.out;have s17:=HSZ17.out;have s18:=HSZ18.out;have s19:=HSZ19.out;have s20:=HSZ20.out;first|exact Or.inl (by omega)|exact Or.inr (by omega)) bW_4
 replace c0_0:=Mk.cell hb (by have s0:=HSZ0.out;have s1:=HSZ1.out;have s2:=HSZ2.out;have s3:=HSZ3.out;have s4:=HSZ4.out;have s5:=HSZ5.out;have s6:=HSZ6.out;have s7:=HSZ7.out;have s8:=HSZ8.out;have s9:=HSZ9.out;have s10:=HSZ10.out;have s11:=HSZ11.out;have s12:=HSZ12.out;have s13:=HSZ13.out;have s14:=HSZ14.out;have s15:=HSZ15.out;have s16:=HSZ16.out;have s17:=HSZ17.out;have s18:=HSZ18.out;have s19:=HSZ19.out;have s20:=HSZ20.out;first|exact Or.inl (by omega)|exact Or.inr (by omega)) c0_0
 replace c0_1:=Mk.cell hb (by have s0:=HSZ0.out;have s1:=HSZ1.out;have s2:=HSZ2.out;have s3:=HSZ3.out;have s4:=HSZ4.out;have s5:=HSZ5.out;have s6:=HSZ6.out;have s7:=HSZ7.out;have s8:=HSZ8.out;have s9:=HSZ9.out;have s10:=HSZ10.out;have s11:=HSZ11.out;have s12:=HSZ12.out;have s13:=HSZ13.out;have s14:=HSZ14.out;have s15:=HSZ15.out;have s16:=HSZ16.out;have s17:=HSZ17.out;have s18:=HSZ18.out;have s19:=HSZ19.out;have s20:=HSZ20.out;first|exact Or.inl (by omega)|exact Or.inr (by omega)) c0_1
 replace c0_2:=Mk.cell hb (by have s0:=HSZ0.out;have s1:=HSZ1.out;have s2:=HSZ2.out;have s3:=HSZ3.out;have s4:=HSZ4.out;have s5:=HSZ5.out;have s6:=HSZ6.out;have s7:=HSZ7.out;have s8:=HSZ8.out;have s9:=HSZ9.out;have s10:=HSZ10.out;have s11:=HSZ11.out;have s12:=HSZ12.out;have s13:=HSZ13.out;have s14:=HSZ14.out;have s15:=HSZ15.out;have s16:=HSZ16.out;have s17:=HSZ17.out;have s18:=HSZ18.out;have s19:=HSZ19.out;have s20:=HSZ20.out;first|exact Or.inl (by omega)|exact Or.inr (by omega)) c0_2
 replace bG_0:=Mk.cell hb (by have s0:=HSZ0.out;have s1:=HSZ1.out;have s2:=HSZ2.out;have s3:=HSZ3.out;have s4:=HSZ4.out;have s5:=HSZ5.out;have s6:=HSZ6.out;have s7:=HSZ7.out;have s8:=HSZ8.out;have s9:=HSZ9.out;have s10:=HSZ10.out;have s11:=HSZ11.out;have s12:=HSZ12.out;have s13:=HSZ13.out;have s14:=HSZ14.out;have s15:=HSZ15.out;have s16:=HSZ16.out;have s17:=HSZ17.out;have s18:=HSZ18.out;have s19:=HSZ19.out;have s20:=HSZ20.out;first|exact Or.inl (by omega)|exact Or.inr (by omega)) bG_0
 replace bG_1:=Mk.cell hb (by have s0:=HSZ0.out;have s1:=HSZ1.out;have s2:=HSZ2.out;have s3:=HSZ3.out;have s4:=HSZ4.out;have s5:=HSZ5.out;have s6:=HSZ6.out;have s7:=HSZ7.out;have s8:=HSZ8.out;have s9:=HSZ9.out;have s10:=HSZ10.out;have s11:=HSZ11.out;have s12:=HSZ12.out;have s13:=HSZ13.out;have s14:=HSZ14.out;have s15:=HSZ15.out;have s16:=HSZ16.out;have s17:=HSZ17.out;have s18:=HSZ18.out;have s19:=HSZ19.out;have s20:=HSZ20.out;first|exact Or.inl (by omega)|exact Or.inr (by omega)) bG_1
 replace bG_2:=Mk.cell hb (by have s0:=HSZ0.out;have s1:=HSZ1.out;have s2:=HSZ2.out;have s3:=HSZ3.out;have s4:=HSZ4.out;have s5:=HSZ5.out;have s6:=HSZ6.out;have s7:=HSZ7.out;have s8:=HSZ8.out;have s9:=HSZ9.out;have s10:=HSZ10.out;have s11:=HSZ11.out;have s12:=HSZ12.out;have s13:=HSZ13.out;have s14:=HSZ14.out;have s15:=HSZ15.out;have s16:=HSZ16.out;have s17:=HSZ17.out;have s18:=HSZ18.out;have s19:=HSZ19.out;have s20:=HSZ20.out;first|exact Or.inl (by omega)|exact Or.inr (by omega)) bG_2
 replace bG_3:=Mk.cell hb (by have s0:=HSZ0.out;have s1:=HSZ1.out;have s2:=HSZ2.out;have s3:=HSZ3.out;have s4:=HSZ4.out;have s5:=HSZ5.out;have s6:=HSZ6.out;have s7:=HSZ7.out;have s8:=HSZ8.out;have s9:=HSZ9.out;have s10:=HSZ10.out;have s11:=HSZ11.out;have s12:=HSZ12.out;have s13:=HSZ13.out;have s14:=HSZ14.out;have s15:=HSZ15.out;have s16:=HSZ16.out;have s17:=HSZ17.out;have s18:=HSZ18.out;have s19:=HSZ19.out;have s20:=HSZ20.out;first|exact Or.inl (by omega)|exact Or.inr (by omega)) bG_3
 replace bG_4:=Mk.cell hb (by have s0:=HSZ0.out;have s1:=HSZ1.out;have s2:=HSZ2.out;have s3:=HSZ3.out;have s4:=HSZ4.out;have s5:=HSZ5.out;have s6:=HSZ6.out;have s7:=HSZ7.out;have s8:=HSZ8.out;have s9:=HSZ9.out;have s10:=HSZ10.out;have s11:=HSZ11.out;have s12:=HSZ12.out;have s13:=HSZ13.out;have s14:=HSZ14.out;have s15:=HSZ15.out;have s16:=HSZ16.out;have s17:=HSZ17.out;have s18:=HSZ18.out;have s19:=HSZ19.out;have s20:=HSZ20.out;first|exact Or.inl (by omega)|exact Or.inr (by omega)) bG_4
 have HF:=Lib.hid (Mk.fresh_of HF.out hb (by have s0:=HSZ0.out;have s1:=HSZ1.out;have s2:=HSZ2.out;have s3:=HSZ3.out;have s4:=HSZ4.out;have s5:=HSZ5.out;have s6:=HSZ6.out;have s7:=HSZ7.out;have s8:=HSZ8.out;have s9:=HSZ9.out;have s10:=HSZ10.out;have s11:=HSZ11.out;have s12:=HSZ12.out;have s13:=HSZ13.out;have s14:=HSZ14.out;have s15:=HSZ15.out;have s16:=HSZ16.out;have s17:=HSZ17.out;have s18:=HSZ18.out;have s19:=HSZ19.out;have s20:=HSZ20.out;omega))
 replace HRW:=Lib.hid (HRW.out.mk hb (by have s0:=HSZ0.out;have s1:=HSZ1.out;have s2:=HSZ2.out;have s3:=HSZ3.out;have s4:=HSZ4.out;have s5:=HSZ5.out;have s6:=HSZ6.out;have s7:=HSZ7.out;have s8:=HSZ8.out;have s9:=HSZ9.out;have s10:=HSZ10.out;have s11:=HSZ11.out;have s12:=HSZ12.out;have s13:=HSZ13.out;have s14:=HSZ14.out;have s15:=HSZ15.out;have s16:=HSZ16.out;have s17:=HSZ17.out;have s18:=HSZ18.out;have s19:=HSZ19.out;have s20:=HSZ20.out;first|exact Or.inl (by omega)|exact Or.inr (by omega)))
 replace HM2:=Lib.hid (HM2.out.mk (by decide) hb)
 replace HRG:=Lib.hid (HRG.out.mk hb (by have s0:=HSZ0.out;have s1:=HSZ1.out;have s2:=HSZ2.out;have s3:=HSZ3.out;have s4:=HSZ4.out;have s5:=HSZ5.out;have s6:=HSZ6.out;have s7:=HSZ7.out;have s8:=HSZ8.out;have s9:=HSZ9.out;have s10:=HSZ10.out;have s11:=HSZ11.out;have s12:=HSZ12.out;have s13:=HSZ13.out;have s14:=HSZ14.out;have s15:=HSZ15.out;have s16:=HSZ16.out;have s17:=HSZ17.out;have s18:=HSZ18.out;have s19:=HSZ19.out;have s20:=HSZ20.out;first|exact Or.inl (by omega)|exact Or.inr (by omega)))
 replace HRWG:=Lib.hid (hb.row _ _ _ HRWG.out (by decide))
 clear hb
 go_wp2_with fail
 refine(markDm_m _ (w9.heap.size) (w10.heap.size) k1 _ HM2.out (by omega) (by omega)).mono ?_
 rintro e w21 ⟨k2,rfl,hka2,hkb2,hb⟩
 clear HM2
 replace hkb2:k2≤k1+8796093022208:=hkb2
 have HSZ21:=Lib.hid (hb.low.size)
 replace a0_0:=Mk.cell hb (by have s0:=HSZ0.out;have s1:=HSZ1.out;have s2:=HSZ2.out;have s3:=HSZ3.out;have s4:=HSZ4.out;have s5:=HSZ5.out;have s6:=HSZ6.out;have s7:=HSZ7.out;have s8:=HSZ8.out;have s9:=HSZ9.out;have s10:=HSZ10.out;have s11:=HSZ11.out;have s12:=HSZ12.out;have s13:=HSZ13.out;have s14:=HSZ14.out;have s15:=HSZ15.out;have s16:=HSZ16.out;have s17:=HSZ17.out;have s18:=HSZ18.out;have s19:=HSZ19.out;have s20:=HSZ20.out;have s21:=HSZ21.out;first|exact Or.inl (by omega)|exact Or.inr (by omega)) a0_0
 replace a0_1:=Mk.cell hb (by have s0:=HSZ0.out;have s1:=HSZ1.out;have s2:=HSZ2.out;have s3:=HSZ3.out;have s4:=HSZ4.out;have s5:=HSZ5.out;have s6:=HSZ6.out;have s7:=HSZ7.out;have s8:=HSZ8.out;have s9:=HSZ9.out;have s10:=HSZ10.out;have s11:=HSZ11.out;have s12:=HSZ12.out;have s13:=HSZ13.out;have s14:=HSZ14.out;have s15:=HSZ15.out;have s16:=HSZ16.out;have s17:=HSZ17.out;have s18:=HSZ18.out;have s19:=HSZ19.out;have s20:=HSZ20.out;have s21:=HSZ21.out;first|exact Or.inl (by omega)|exact Or.inr (by omega)) a0_1
 replace a0_2:=Mk.cell hb (by have s0:=HSZ0.out;have s1:=HSZ1.out;have s2:=HSZ2.out;have s3:=HSZ3.out;have s4:=HSZ4.out;have s5:=HSZ5.out;have s6:=HSZ6.out;have s7:=HSZ7.out;have s8:=HSZ8.out;have s9:=HSZ9.out;have s10:=HSZ10.out;have s11:=HSZ11.out;have s12:=HSZ12.out;have s13:=HSZ13.out;have s14:=HSZ14.out;have s15:=HSZ15.out;have s16:=HSZ16.out;have s17:=HSZ17.out;have s18:=HSZ18.out;have s19:=HSZ19.out;have s20:=HSZ20.out;have s21:=HSZ21.out;first|exact Or.inl (by omega)|exact Or.inr (by omega)) a0_2
 replace bW_0:=Mk.cell hb (by have s0:=HSZ0.out;have s1:=HSZ1.out;have s2:=HSZ2.out;have s3:=HSZ3.out;have s4:=HSZ4.out;have s5:=HSZ5.out;have s6:=HSZ6.out;have s7:=HSZ7.out;have s8:=HSZ8.out;have s9:=HSZ9.out;have s10:=HSZ10.out;have s11:=HSZ11.out;have s12:=HSZ12.out;have s13:=HSZ13.out;have s14:=HSZ14.out;have s15:=HSZ15.out;have s16:=HSZ16.out;have s17:=HSZ17.out;have s18:=HSZ18.out;have s19:=HSZ19.out;have s20:=HSZ20.out;have s21:=HSZ21.out;first|exact Or.inl (by omega)|exact Or.inr (by omega)) bW_0
 replace bW_1:=Mk.cell hb (by have s0:=HSZ0.out;have s1:=HSZ1.out;have s2:=HSZ2.out;have s3:=HSZ3.out;have s4:=HSZ4.out;have s5:=HSZ5.out;have s6:=HSZ6.out;have s7:=HSZ7.out;have s8:=HSZ8.out;have s9:=HSZ9.out;have s10:=HSZ10.out;have s11:=HSZ11.out;have s12:=HSZ12.out;have s13:=HSZ13.out;have s14:=HSZ14.out;have s15:=HSZ15.out;have s16:=HSZ16.out;have s17:=HSZ17.out;have s18:=HSZ18.out;have s19:=HSZ19.out;have s20:=HSZ20.out;have s21:=HSZ21.out;first|exact Or.inl (by omega)|exact Or.inr (by omega)) bW_1
 replace bW_2:=Mk.cell hb (by have s0:=HSZ0.out;have s1:=HSZ1.out;have s2:=HSZ2.out;have s3:=HSZ3.out;have s4:=HSZ4.out;have s5:=HSZ5.out;have s6:=HSZ6.out;have s7:=HSZ7.out;have s8:=HSZ8.out;have s9:=HSZ9.out;have s10:=HSZ10.out;have s11:=HSZ11.out;have s12:=HSZ12.out;have s13:=HSZ13.out;have s14:=HSZ14.out;have s15:=HSZ15.out;have s16:=HSZ16.out;have s17:=HSZ17.out;have s18:=HSZ18.out;have s19:=HSZ19.out;have s20:=HSZ20.out;have s21:=HSZ21.out;first|exact Or.inl (by omega)|exact Or.inr (by omega)) bW_2
 replace bW_3:=Mk.cell hb (by have s0:=HSZ0.out;have s1:=HSZ1.out;have s2:=HSZ2.out;have s3:=HSZ3.out;have s4:=HSZ4.out;have s5:=HSZ5.out;have s6:=HSZ6.out;have s7:=HSZ7.out;have s8:=HSZ8.out;have s9:=HSZ9.out;have s10:=HSZ10.out;have s11:=HSZ11.out;have s12:=HSZ12.out;have s13:=HSZ13.out;have s14:=HSZ14.out;have s15:=HSZ15.out;have s16:=HSZ16.out;have s17:=HSZ17.out;have s18:=HSZ18.out;have s19:=HSZ19.out;have s20:=HSZ20.out;have s21:=HSZ21.out;first|exact Or.inl (by omega)|exact Or.inr (by omega)) bW_3
 replace bW_4:=Mk.cell hb (by have s0:=HSZ0.out;have s1:=HSZ1.out;have s2:=HSZ2.out;have s3:=HSZ3.out;have s4:=HSZ4.out;have s5:=HSZ5.out;have s6:=HSZ6.out;have s7:=HSZ7.out;have s8:=HSZ8.out;have s9:=HSZ9.out;have s10:=HSZ10.out;have s11:=HSZ11.out;have s12:=HSZ12.out;have s13:=HSZ13.out;have s14:=HSZ14.out;have s15:=HSZ15.out;have s16:=HSZ16.out;have s17:=HSZ17.out;have s18:=HSZ18.out;have s19:=HSZ19.out;have s20:=HSZ20.out;have s21:=HSZ21.out;first|exact Or.inl (by omega)|exact Or.inr (by omega)) bW_4
 replace c0_0:=Mk.cell hb (by have s0:=HSZ0.out;have s1:=HSZ1.out;have s2:=HSZ2.out;have s3:=HSZ3.out;have s4:=HSZ4.out;have s5:=HSZ5.out;have s6:=HSZ6.out;have s7:=HSZ7.out;have s8:=HSZ8.out;have s9:=HSZ9.out;have s10:=HSZ10.out;have s11:=HSZ11.out;have s12:=HSZ12.out;have s13:=HSZ13.out;have s14:=HSZ14.out;have s15:=HSZ15.out;have s16:=HSZ16.out;have s17:=HSZ17.out;have s18:=HSZ18.out;have s19:=HSZ19.out;have s20:=HSZ20.out;have s21:=HSZ21.out;first|exact Or.inl (by omega)|exact Or.inr (by omega)) c0_0
 replace c0_1:=Mk.cell hb (by have s0:=HSZ0.out;have s1:=HSZ1.out;have s2:=HSZ2.out;have s3:=HSZ3.out;have s4:=HSZ4.out;have s5:=HSZ5.out;have s6:=HSZ6.out;have s7:=HSZ7.out;have s8:=HSZ8.out;have s9:=HSZ9.out;have s10:=HSZ10.out;have s11:=HSZ11.out;have s12:=HSZ12.out;have s13:=HSZ13.out;have s14:=HSZ14.out;have s15:=HSZ15.out;have s16:=HSZ16.out;have s17:=HSZ17.out;have s18:=HSZ18.out;have s19:=HSZ19.out;have s20:=HSZ20.out;have s21:=HSZ21.out;first|exact Or.inl (by omega)|exact Or.inr (by omega)) c0_1
 replace c0_2:=Mk.cell hb (by have s0:=HSZ0.out;have s1:=HSZ1.out;have s2:=HSZ2.out;have s3:=HSZ3.out;have s4:=HSZ4.out;have s5:=HSZ5.out;have s6:=HSZ6.out;have s7:=HSZ7.out;have s8:=HSZ8.out;have s9:=HSZ9.out;have s10:=HSZ10.out;have s11:=HSZ11.out;have s12:=HSZ12.out;have s13:=HSZ13.out;have s14:=HSZ14.out;have s15:=HSZ15.out;have s16:=HSZ16.out;have s17:=HSZ17.out;have s18:=HSZ18.out;have s19:=HSZ19.out;have s20:=HSZ20.out;have s21:=HSZ21.out;first|exact Or.inl (by omega)|exact Or.inr (by omega)) c0_2
 replace bG_0:=Mk.cell hb (by have s0:=HSZ0.out;have s1:=HSZ1.out;have s2:=HSZ2.out;have s3:=HSZ3.out;have s4:=HSZ4.out;have s5:=HSZ5.out;have s6:=HSZ6.out;have s7:=HSZ7.out;have s8:=HSZ8.out;have s9:=HSZ9.out;have s10:=HSZ10.out;have s11:=HSZ11.out;have s12:=HSZ12.out;have s13:=HSZ13.out;have s14:=HSZ14.out;have s15:=HSZ15.out;have s16:=HSZ16.out;have s17:=HSZ17.out;have s18:=HSZ18.out;have s19:=HSZ19.out;have s20:=HSZ20.out;have s21:=HSZ21.out;first|exact Or.inl (by omega)|exact Or.inr (by omega)) bG_0
 replace bG_1:=Mk.cell hb (by have s0:=HSZ0.out;have s1:=HSZ1.out;have s2:=HSZ2.out;have s3:=HSZ3.out;have s4:=HSZ4.out;have s5:=HSZ5.out;have s6:=HSZ6.out;have s7:=HSZ7.out;have s8:=HSZ8.out;have s9:=HSZ9.out;have s10:=HSZ10.out;have s11:=HSZ11.out;have s12:=HSZ12.out;have s13:=HSZ13.out;have s14:=HSZ14.out;have s15:=HSZ15.out;have s16:=HSZ16.out;have s17:=HSZ17.out;have s18:=HSZ18.out;have s19:=HSZ19.out;have s20:=HSZ20.out;have s21:=HSZ21.out;first|exact Or.inl (by omega)|exact Or.inr (by omega)) bG_1
 replace bG_2:=Mk.cell hb (by have s0:=HSZ0.out;have s1:=HSZ1.out;have s2:=HSZ2.out;have s3:=HSZ3.out;have s4:=HSZ4.out;have s5:=HSZ5.out;have s6:=HSZ6.out;have s7:=HSZ7.out;have s8:=HSZ8.out;have s9:=HSZ9.out;have s10:=HSZ10.out;have s11:=HSZ11.out;have s12:=HSZ12.out;have s13:=HSZ13.out;have s14:=HSZ14.out;have s15:=HSZ15.out;have s16:=HSZ16.out;have s17:=HSZ17.out;have s18:=HSZ18.out;have s19:=HSZ19.out;have s20:=HSZ20.out;have s21:=HSZ21.out;first|exact Or.inl (by omega)|exact Or.inr (by omega)) bG_2
 replace bG_3:=Mk.cell hb (by have s0:=HSZ0.out;have s1:=HSZ1.out;have s2:=HSZ2.out;have s3:=HSZ3.out;have s4:=HSZ4.out;have s5:=HSZ5.out;have s6:=HSZ6.out;have s7:=HSZ7.out;have s8:=HSZ8.out;have s9:=HSZ9.out;have s10:=HSZ10.out;have s11:=HSZ11.out;have s12:=HSZ12.out;have s13:=HSZ13.out;have s14:=HSZ14.out;have s15:=HSZ15.out;have s16:=HSZ16.out;have s17:=HSZ17.out;have s18:=HSZ18.out;have s19:=HSZ19.out;have s20:=HSZ20.out;have s21:=HSZ21.out;first|exact Or.inl (by omega)|exact Or.inr (by omega)) bG_3
 replace bG_4:=Mk.cell hb (by have s0:=HSZ0.out;have s1:=HSZ1.out;have s2:=HSZ2.out;have s3:=HSZ3.out;have s4:=HSZ4.out;have s5:=HSZ5.out;have s6:=HSZ6.out;have s7:=HSZ7.out;have s8:=HSZ8.out;have s9:=HSZ9.out;have s10:=HSZ10.out;have s11:=HSZ11.out;have s12:=HSZ12.out;have s13:=HSZ13.out;have s14:=HSZ14.out;have s15:=HSZ15.out;have s16:=HSZ16.out;have s17:=HSZ17.out;have s18:=HSZ18.out;have s19:=HSZ19.out;have s20:=HSZ20.out;have s21:=HSZ21.out;first|exact Or.inl (by omega)|exact Or.inr (by omega)) bG_4
 have HF:=Lib.hid (Mk.fresh_of HF.out hb (by have s0:=HSZ0.out;have s1:=HSZ1.out;have s2:=HSZ2.out;have s3:=HSZ3.out;have s4:=HSZ4.out;have s5:=HSZ5.out;have s6:=HSZ6.out;have s7:=HSZ7.out;have s8:=HSZ8.out;have s9:=HSZ9.out;have s10:=HSZ10.out;have s11:=HSZ11.out;have s12:=HSZ12.out;have s13:=HSZ13.out;have s14:=HSZ14.out;have s15:=HSZ15.out;have s16:=HSZ16.out;have s17:=HSZ17.out;have s18:=HSZ18.out;have s19:=HSZ19.out;have s20:=HSZ20.out;have s21:=HSZ21.out;omega))
 replace HRW:=Lib.hid (HRW.out.mk hb (by have s0:=HSZ0.out;have s1:=HSZ1.out;have s2:=HSZ2.out;have s3:=HSZ3.out;have s4:=HSZ4.out;have s5:=HSZ5.out;have s6:=HSZ6.out;have s7:=HSZ7.out;have s8:=HSZ8.out;have s9:=HSZ9.out;have s10:=HSZ10.out;have s11:=HSZ11.out;have s12:=HSZ12.out;have s13:=HSZ13.out;have s14:=HSZ14.out;have s15:=HSZ15.out;have s16:=HSZ16.out;have s17:=HSZ17.out;have s18:=HSZ18.out;have s19:=HSZ19.out;have s20:=HSZ20.out;have s21:=HSZ21.out;first|exact Or.inl (by omega)|exact Or.inr (by omega)))
 replace HRG:=Lib.hid (HRG.out.mk hb (by have s0:=HSZ0.out;have s1:=HSZ1.out;have s2:=HSZ2.out;have s3:=HSZ3.out;have s4:=HSZ4.out;have s5:=HSZ5.out;have s6:=HSZ6.out;have s7:=HSZ7.out;have s8:=HSZ8.out;have s9:=HSZ9.out;have s10:=HSZ10.out;have s11:=HSZ11.out;have s12:=HSZ12.out;have s13:=HSZ13.out;have s14:=HSZ14.out;have s15:=HSZ15.out;have s16:=HSZ16.out;have s17:=HSZ17.out;have s18:=HSZ18.out;have s19:=HSZ19.out;have s20:=HSZ20.out;have s21:=HSZ21.out;first|exact Or.inl (by omega)|exact Or.inr (by omega)))
 replace HRWG:=Lib.hid (hb.row _ _ _ HRWG.out (by decide))
 clear hb
 clear c0_0 c0_1 c0_2
 have hkn:(k2<0)=False:=eq_false (by omega)
 go_wp2_with fail
 refine(eqSd_r _ _ _ _ _ _ r0 _ (HRG.out) (HRW.out) HSM.out).mono ?_
 rintro e w22 ⟨rfl,hb⟩
 have HSZ22:=Lib.hid (hb.size)
 replace a0_0:=fkeep hb a0_0
 replace a0_1:=fkeep hb a0_1
 replace a0_2:=fkeep hb a0_2
 replace bW_0:=fkeep hb bW_0
 replace bW_1:=fkeep hb bW_1
 replace bW_2:=fkeep hb bW_2
 replace bW_3:=fkeep hb bW_3
 replace bW_4:=fkeep hb bW_4
 replace bG_0:=fkeep hb bG_0
 replace bG_1:=fkeep hb bG_1
 replace bG_2:=fkeep hb bG_2
 replace bG_3:=fkeep hb bG_3
 replace bG_4:=fkeep hb bG_4
 have HF:=Lib.hid (fstep HF.out hb)
 replace HRW:=Lib.hid (HRW.out.keep hb)
 replace HRG:=Lib.hid (HRG.out.keep hb)
 replace HRWG:=Lib.hid (HRWG.out.keep hb)
 clear hb
 clear hkn hka0 hkb0 hka1 hkb1 hka2 hkb2
 go_wp2_with fail
 refine(markSd_r _ (w10.heap.size) r0 1 _ HRG.out.own (by have s0:=HSZ0.out;have s1:=HSZ1.out;have s2:=HSZ2.out;have s3:=HSZ3.out;have s4:=HSZ4.out;have s5:=HSZ5.out;have s6:=HSZ6.out;have s7:=HSZ7.out;have s8:=HSZ8.out;have s9:=HSZ9.out;have s10:=HSZ10.out;have s11:=HSZ11.out;have s12:=HSZ12.out;have s13:=HSZ13.out;have s14:=HSZ14.out;have s15:=HSZ15.out;have s16:=HSZ16.out;have s17:=HSZ17.out;have s18:=HSZ18.out;have s19:=HSZ19.out;have s20:=HSZ20.out;have s21:=HSZ21.out;have s22:=HSZ22.out;omega) HSM.out (by omega) (by omega)).mono ?_
 rintro e w23 ⟨N,rfl,ho,hb,hkk⟩
 have HG:=Lib.hid ho
 clear ho HRG
 have HSZ23:=Lib.hid (hb.size)
 replace a0_0:=bkeep hb (by have s0:=HSZ0.out;have s1:=HSZ1.out;have s2:=HSZ2.out;have s3:=HSZ3.out;have s4:=HSZ4.out;have s5:=HSZ5.out;have s6:=HSZ6.out;have s7:=HSZ7.out;have s8:=HSZ8.out;have s9:=HSZ9.out;have s10:=HSZ10.out;have s11:=HSZ11.out;have s12:=HSZ12.out;have s13:=HSZ13.out;have s14:=HSZ14.out;have s15:=HSZ15.out;have s16:=HSZ16.out;have s17:=HSZ17.out;have s18:=HSZ18.out;have s19:=HSZ19.out;have s20:=HSZ20.out;have s21:=HSZ21.out;have s22:=HSZ22.out;have s23:=HSZ23.out;omega) a0_0
 replace a0_1:=bkeep hb (by have s0:=HSZ0.out;have s1:=HSZ1.out;have s2:=HSZ2.out;have s3:=HSZ3.out;have s4:=HSZ4.out;have s5:=HSZ5.out;have s6:=HSZ6.out;have s7:=HSZ7.out;have s8:=HSZ8.out;have s9:=HSZ9.out;have s10:=HSZ10.out;have s11:=HSZ11.out;have s12:=HSZ12.out;have s13:=HSZ13.out;have s14:=HSZ14.out;have s15:=HSZ15.out;have s16:=HSZ16.out;have s17:=HSZ17.out;have s18:=HSZ18.out;have s19:=HSZ19.out;have s20:=HSZ20.out;have s21:=HSZ21.out;have s22:=HSZ22.out;have s23:=HSZ23.out;omega) a0_1
 replace a0_2:=bkeep hb (by have s0:=HSZ0.out;have s1:=HSZ1.out;have s2:=HSZ2.out;have s3:=HSZ3.out;have s4:=HSZ4.out;have s5:=HSZ5.out;have s6:=HSZ6.out;have s7:=HSZ7.out;have s8:=HSZ8.out;have s9:=HSZ9.out;have s10:=HSZ10.out;have s11:=HSZ11.out;have s12:=HSZ12.out;have s13:=HSZ13.out;have s14:=HSZ14.out;have s15:=HSZ15.out;have s16:=HSZ16.out;have s17:=HSZ17.out;have s18:=HSZ18.out;have s19:=HSZ19.out;have s20:=HSZ20.out;have s21:=HSZ21.out;have s22:=HSZ22.out;have s23:=HSZ23.out;omega) a0_2
 replace bW_0:=bkeep hb (by have s0:=HSZ0.out;have s1:=HSZ1.out;have s2:=HSZ2.out;have s3:=HSZ3.out;have s4:=HSZ4.out;have s5:=HSZ5.out;have s6:=HSZ6.out;have s7:=HSZ7.out;have s8:=HSZ8.out;have s9:=HSZ9.out;have s10:=HSZ10.out;have s11:=HSZ11.out;have s12:=HSZ12.out;have s13:=HSZ13.out;have s14:=HSZ14.out;have s15:=HSZ15.out;have s16:=HSZ16.out;have s17:=HSZ17.out;have s18:=HSZ18.out;have s19:=HSZ19.out;have s20:=HSZ20.out;have s21:=HSZ21.out;have s22:=HSZ22.out;have s23:=HSZ23.out;omega) bW_0
 replace bW_1:=bkeep hb (by have s0:=HSZ0.out;have s1:=HSZ1.out;have s2:=HSZ2.out;have s3:=HSZ3.out;have s4:=HSZ4.out;have s5:=HSZ5.out;have s6:=HSZ6.out;have s7:=HSZ7.out;have s8:=HSZ8.out;have s9:=HSZ9.out;have s10:=HSZ10.out;have s11:=HSZ11.out;have s12:=HSZ12.out;have s13:=HSZ13.out;have s14:=HSZ14.out;have s15:=HSZ15.out;have s16:=HSZ16.out;have s17:=HSZ17.out;have s18:=HSZ18.out;have s19:=HSZ19.out;have s20:=HSZ20.out;have s21:=HSZ21.out;have s22:=HSZ22.out;have s23:=HSZ23.out;omega) bW_1
 replace bW_2:=bkeep hb (by have s0:=HSZ0.out;have s1:=HSZ1.out;have s2:=HSZ2.out;have s3:=HSZ3.out;have s4:=HSZ4.out;have s5:=HSZ5.out;have s6:=HSZ6.out;have s7:=HSZ7.out;have s8:=HSZ8.out;have s9:=HSZ9.out;have s10:=HSZ10.out;have s11:=HSZ11.out;have s12:=HSZ12.out;have s13:=HSZ13.out;have s14:=HSZ14.out;have s15:=HSZ15.out;have s16:=HSZ16.out;have s17:=HSZ17.out;have s18:=HSZ18.out;have s19:=HSZ19.out;have s20:=HSZ20.out;have s21:=HSZ21.out;have s22:=HSZ22.out;have s23:=HSZ23.out;omega) bW_2
 replace bW_3:=bkeep hb (by have s0:=HSZ0.out;have s1:=HSZ1.out;have s2:=HSZ2.out;have s3:=HSZ3.out;have s4:=HSZ4.out;have s5:=HSZ5.out;have s6:=HSZ6.out;have s7:=HSZ7.out;have s8:=HSZ8.out;have s9:=HSZ9.out;have s10:=HSZ10.out;have s11:=HSZ11.out;have s12:=HSZ12.out;have s13:=HSZ13.out;have s14:=HSZ14.out;have s15:=HSZ15.out;have s16:=HSZ16.out;have s17:=HSZ17.out;have s18:=HSZ18.out;have s19:=HSZ19.out;have s20:=HSZ20.out;have s21:=HSZ21.out;have s22:=HSZ22.out;have s23:=HSZ23.out;omega) bW_3
 replace bW_4:=bkeep hb (by have s0:=HSZ0.out;have s1:=HSZ1.out;have s2:=HSZ2.out;have s3:=HSZ3.out;have s4:=HSZ4.out;have s5:=HSZ5.out;have s6:=HSZ6.out;have s7:=HSZ7.out;have s8:=HSZ8.out;have s9:=HSZ9.out;have s10:=HSZ10.out;have s11:=HSZ11.out;have s12:=HSZ12.out;have s13:=HSZ13.out;have s14:=HSZ14.out;have s15:=HSZ15.out;have s16:=HSZ16.out;have s17:=HSZ17.out;have s18:=HSZ18.out;have s19:=HSZ19.out;have s20:=HSZ20.out;have s21:=HSZ21.out;have s22:=HSZ22.out;have s23:=HSZ23.out;omega) bW_4
 replace bG_0:=(hkk _ _ _ HRWG.out (by decide) (by decide) (by decide) (by decide) ).cell (i:=0) rfl
 replace bG_1:=(hkk _ _ _ HRWG.out (by decide) (by decide) (by decide) (by decide) ).cell (i:=1) rfl
 replace bG_2:=(hkk _ _ _ HRWG.out (by decide) (by decide) (by decide) (by decide) ).cell (i:=2) rfl
 replace bG_3:=(hkk _ _ _ HRWG.out (by decide) (by decide) (by decide) (by decide) ).cell (i:=3) rfl
 replace bG_4:=(hkk _ _ _ HRWG.out (by decide) (by decide) (by decide) (by decide) ).cell (i:=4) rfl
 have HF:=Lib.hid (HF.out.trans (hb.mono (by have s0:=HSZ0.out;have s1:=HSZ1.out;have s2:=HSZ2.out;have s3:=HSZ3.out;have s4:=HSZ4.out;have s5:=HSZ5.out;have s6:=HSZ6.out;have s7:=HSZ7.out;have s8:=HSZ8.out;have s9:=HSZ9.out;have s10:=HSZ10.out;have s11:=HSZ11.out;have s12:=HSZ12.out;have s13:=HSZ13.out;have s14:=HSZ14.out;have s15:=HSZ15.out;have s16:=HSZ16.out;have s17:=HSZ17.out;have s18:=HSZ18.out;have s19:=HSZ19.out;have s20:=HSZ20.out;have s21:=HSZ21.out;have s22:=HSZ22.out;have s23:=HSZ23.out;omega)))
 replace HRW:=Lib.hid (HRW.out.below hb (by have s0:=HSZ0.out;have s1:=HSZ1.out;have s2:=HSZ2.out;have s3:=HSZ3.out;have s4:=HSZ4.out;have s5:=HSZ5.out;have s6:=HSZ6.out;have s7:=HSZ7.out;have s8:=HSZ8.out;have s9:=HSZ9.out;have s10:=HSZ10.out;have s11:=HSZ11.out;have s12:=HSZ12.out;have s13:=HSZ13.out;have s14:=HSZ14.out;have s15:=HSZ15.out;have s16:=HSZ16.out;have s17:=HSZ17.out;have s18:=HSZ18.out;have s19:=HSZ19.out;have s20:=HSZ20.out;have s21:=HSZ21.out;have s22:=HSZ22.out;have s23:=HSZ23.out;omega))
 replace HRWG:=Lib.hid (hkk _ _ _ HRWG.out (by decide) (by decide) (by decide) (by decide) )
 clear hb
 clear hkk HRWG
 go_wp2_with fail
 refine(heldSd_o _ _ r0 1 _ _ HG.out HSM.out (by omega) (by omega)).mono ?_
 rintro e w24 ⟨rfl,hb⟩
 have HSZ24:=Lib.hid (hb.size)
 replace a0_0:=fkeep hb a0_0
 replace a0_1:=fkeep hb a0_1
 replace a0_2:=fkeep hb a0_2
 replace bW_0:=fkeep hb bW_0
 replace bW_1:=fkeep hb bW_1
 replace bW_2:=fkeep hb bW_2
 replace bW_3:=fkeep hb bW_3
 replace bW_4:=fkeep hb bW_4
 replace bG_0:=fkeep hb bG_0
 replace bG_1:=fkeep hb bG_1
 replace bG_2:=fkeep hb bG_2
 replace bG_3:=fkeep hb bG_3
 replace bG_4:=fkeep hb bG_4
 have HF:=Lib.hid (fstep HF.out hb)
 replace HRW:=Lib.hid (HRW.out.keep hb)
 replace HG:=Lib.hid (HG.out.keep hb)
 clear hb
 go_wp2_with fail
 refine(toPlan_k _ x0 _ (HI0.out.keep HF.out)).mono ?_
 rintro e w25 ⟨u0,rfl,hy,hb⟩
 have HY0:=Lib.hid hy
 clear hy
 have HSZ25:=Lib.hid (hb.size)
 replace a0_0:=fkeep hb a0_0
 replace a0_1:=fkeep hb a0_1
 replace a0_2:=fkeep hb a0_2
 replace bW_0:=fkeep hb bW_0
 replace bW_1:=fkeep hb bW_1
 replace bW_2:=fkeep hb bW_2
 replace bW_3:=fkeep hb bW_3
 replace bW_4:=fkeep hb bW_4
 replace bG_0:=fkeep hb bG_0
 replace bG_1:=fkeep hb bG_1
 replace bG_2:=fkeep hb bG_2
 replace bG_3:=fkeep hb bG_3
 replace bG_4:=fkeep hb bG_4
 have HF:=Lib.hid (fstep HF.out hb)
 replace HRW:=Lib.hid (HRW.out.keep hb)
 replace HG:=Lib.hid (HG.out.keep hb)
 clear hb
 go_wp2_with fail
 refine(toFm_k _ x1 _ (HI1.out.keep HF.out)).mono ?_
 rintro e w26 ⟨u1,rfl,hy,hb⟩
 have HY1:=Lib.hid hy
 clear hy
 have HSZ26:=Lib.hid (hb.size)
 replace a0_0:=fkeep hb a0_0
 replace a0_1:=fkeep hb a0_1
 replace a0_2:=fkeep hb a0_2
 replace bW_0:=fkeep hb bW_0
 replace bW_1:=fkeep hb bW_1
 replace bW_2:=fkeep hb bW_2
 replace bW_3:=fkeep hb bW_3
 replace bW_4:=fkeep hb bW_4
 replace bG_0:=fkeep hb bG_0
 replace bG_1:=fkeep hb bG_1
 replace bG_2:=fkeep hb bG_2
 replace bG_3:=fkeep hb bG_3
 replace bG_4:=fkeep hb bG_4
 have HF:=Lib.hid (fstep HF.out hb)
 replace HRW:=Lib.hid (HRW.out.keep hb)
 replace HG:=Lib.hid (HG.out.keep hb)
 replace HY0:=Lib.hid (HY0.out.keep hb)
 clear hb
 go_wp2_with fail
 refine(toDm_k _ x2 _ (HI2.out.keep HF.out)).mono ?_
 rintro e w27 ⟨u2,rfl,hy,hb⟩
 have HY2:=Lib.hid hy
 clear hy
 have HSZ27:=Lib.hid (hb.size)
 replace a0_0:=fkeep hb a0_0
 replace a0_1:=fkeep hb a0_1
 replace a0_2:=fkeep hb a0_2
 replace bW_0:=fkeep hb bW_0
 replace bW_1:=fkeep hb bW_1
 replace bW_2:=fkeep hb bW_2
 replace bW_3:=fkeep hb bW_3
 replace bW_4:=fkeep hb bW_4
 replace bG_0:=fkeep hb bG_0
 replace bG_1:=fkeep hb bG_1
 replace bG_2:=fkeep hb bG_2
 replace bG_3:=fkeep hb bG_3
 replace bG_4:=fkeep hb bG_4
 have HF:=Lib.hid (fstep HF.out hb)
 replace HRW:=Lib.hid (HRW.out.keep hb)
 replace HG:=Lib.hid (HG.out.keep hb)
 replace HY0:=Lib.hid (HY0.out.keep hb)
 replace HY1:=Lib.hid (HY1.out.keep hb)
 clear hb
 go_wp2_with fail
 have hcc:=implServeInOrder_l _ x0 _ x1 _ x2 x3 _ HY0.out HY1.out HY2.out
 rw[← HR0.out,← HR1.out] at hcc
 refine(hcc).mono ?_
 clear hcc
 rintro e w28 ⟨vH,rfl,how,hb⟩
 clear HY0 HY1 HY2
 obtain⟨qH,mH,cH,fH,kH,dH,tH,iH,eH,uH,nH,yH,jH,hvv⟩:=how.shape
 subst hvv
 have HRH:=Lib.hid (how.held.wide (Nat.zero_le _) (Nat.le_refl _))
 clear how
 have HSZ28:=Lib.hid (hb.size)
 replace a0_0:=fkeep hb a0_0
 replace a0_1:=fkeep hb a0_1
 replace a0_2:=fkeep hb a0_2
 replace bW_0:=fkeep hb bW_0
 replace bW_1:=fkeep hb bW_1
 replace bW_2:=fkeep hb bW_2
 replace bW_3:=fkeep hb bW_3
 replace bW_4:=fkeep hb bW_4
 replace bG_0:=fkeep hb bG_0
 replace bG_1:=fkeep hb bG_1
 replace bG_2:=fkeep hb bG_2
 replace bG_3:=fkeep hb bG_3
 replace bG_4:=fkeep hb bG_4
 have HF:=Lib.hid (fstep HF.out hb)
 replace HRW:=Lib.hid (HRW.out.keep hb)
 replace HG:=Lib.hid (HG.out.keep hb)
 clear hb
 obtain⟨XH,hX⟩:∃ X,X=w28.alloc (.cells #[.slice qH mH cH,.slice fH kH dH,.slice tH iH eH,.slice uH nH yH,.int .i64 jH] 42):=⟨_,rfl⟩
 have hb:Fresh w28 XH:=by rw[hX];exact fnew (frefl _) _
 have HSZ29:=Lib.hid (show XH.heap.size=w28.heap.size+1 by rw[hX];simp)
 have La0_0:=fkeep (fnew (frefl w28) (.cells #[.slice qH mH cH,.slice fH kH dH,.slice tH iH eH,.slice uH nH yH,.int .i64 jH] 42)) a0_0
 have La0_1:=fkeep (fnew (frefl w28) (.cells #[.slice qH mH cH,.slice fH kH dH,.slice tH iH eH,.slice uH nH yH,.int .i64 jH] 42)) a0_1
 have La0_2:=fkeep (fnew (frefl w28) (.cells #[.slice qH mH cH,.slice fH kH dH,.slice tH iH eH,.slice uH nH yH,.int .i64 jH] 42)) a0_2
 have LbW_0:=fkeep (fnew (frefl w28) (.cells #[.slice qH mH cH,.slice fH kH dH,.slice tH iH eH,.slice uH nH yH,.int .i64 jH] 42)) bW_0
 have LbW_1:=fkeep (fnew (frefl w28) (.cells #[.slice qH mH cH,.slice fH kH dH,.slice tH iH eH,.slice uH nH yH,.int .i64 jH] 42)) bW_1
 have LbW_2:=fkeep (fnew (frefl w28) (.cells #[.slice qH mH cH,.slice fH kH dH,.slice tH iH eH,.slice uH nH yH,.int .i64 jH] 42)) bW_2
 have LbW_3:=fkeep (fnew (frefl w28) (.cells #[.slice qH mH cH,.slice fH kH dH,.slice tH iH eH,.slice uH nH yH,.int .i64 jH] 42)) bW_3
 have LbW_4:=fkeep (fnew (frefl w28) (.cells #[.slice qH mH cH,.slice fH kH dH,.slice tH iH eH,.slice uH nH yH,.int .i64 jH] 42)) bW_4
 have LbG_0:=fkeep (fnew (frefl w28) (.cells #[.slice qH mH cH,.slice fH kH dH,.slice tH iH eH,.slice uH nH yH,.int .i64 jH] 42)) bG_0
 have LbG_1:=fkeep (fnew (frefl w28) (.cells #[.slice qH mH cH,.slice fH kH dH,.slice tH iH eH,.slice uH nH yH,.int .i64 jH] 42)) bG_1
 have LbG_2:=fkeep (fnew (frefl w28) (.cells #[.slice qH mH cH,.slice fH kH dH,.slice tH iH eH,.slice uH nH yH,.int .i64 jH] 42)) bG_2
 have LbG_3:=fkeep (fnew (frefl w28) (.cells #[.slice qH mH cH,.slice fH kH dH,.slice tH iH eH,.slice uH nH yH,.int .i64 jH] 42)) bG_3
 have LbG_4:=fkeep (fnew (frefl w28) (.cells #[.slice qH mH cH,.slice fH kH dH,.slice tH iH eH,.slice uH nH yH,.int .i64 jH] 42)) bG_4
 have bH_0:XH.cell? ⟨w28.heap.size,0,none⟩=some (.slice qH mH cH):=by rw[hX];exact(RowAt.new w28 42 [.slice qH mH cH,.slice fH kH dH,.slice tH iH eH,.slice uH nH yH,.int .i64 jH]).cell (i:=0) rfl
 have bH_1:XH.cell? ⟨w28.heap.size,1,none⟩=some (.slice fH kH dH):=by rw[hX];exact(RowAt.new w28 42 [.slice qH mH cH,.slice fH kH dH,.slice tH iH eH,.slice uH nH yH,.int .i64 jH]).cell (i:=1) rfl
 have bH_2:XH.cell? ⟨w28.heap.size,2,none⟩=some (.slice tH iH eH):=by rw[hX];exact(RowAt.new w28 42 [.slice qH mH cH,.slice fH kH dH,.slice tH iH eH,.slice uH nH yH,.int .i64 jH]).cell (i:=2) rfl
 have bH_3:XH.cell? ⟨w28.heap.size,3,none⟩=some (.slice uH nH yH):=by rw[hX];exact(RowAt.new w28 42 [.slice qH mH cH,.slice fH kH dH,.slice tH iH eH,.slice uH nH yH,.int .i64 jH]).cell (i:=3) rfl
 have bH_4:XH.cell? ⟨w28.heap.size,4,none⟩=some (.int .i64 jH):=by rw[hX];exact(RowAt.new w28 42 [.slice qH mH cH,.slice fH kH dH,.slice tH iH eH,.slice uH nH yH,.int .i64 jH]).cell (i:=4) rfl
 replace a0_0:=fkeep hb a0_0
 replace a0_1:=fkeep hb a0_1
 replace a0_2:=fkeep hb a0_2
 replace bW_0:=fkeep hb bW_0
 replace bW_1:=fkeep hb bW_1
 replace bW_2:=fkeep hb bW_2
 replace bW_3:=fkeep hb bW_3
 replace bW_4:=fkeep hb bW_4
 replace bG_0:=fkeep hb bG_0
 replace bG_1:=fkeep hb bG_1
 replace bG_2:=fkeep hb bG_2
 replace bG_3:=fkeep hb bG_3
 replace bG_4:=fkeep hb bG_4
 have HF:=Lib.hid (fstep HF.out hb)
 replace HRW:=Lib.hid (HRW.out.keep hb)
 replace HG:=Lib.hid (HG.out.keep hb)
 replace HRH:=Lib.hid (HRH.out.keep hb)
 clear hb
 have Ha0_0:=Lib.hid a0_0
 have Ha0_1:=Lib.hid a0_1
 have Ha0_2:=Lib.hid a0_2
 have HbW_0:=Lib.hid bW_0
 have HbW_1:=Lib.hid bW_1
 have HbW_2:=Lib.hid bW_2
 have HbW_3:=Lib.hid bW_3
 have HbW_4:=Lib.hid bW_4
 have HbG_0:=Lib.hid bG_0
 have HbG_1:=Lib.hid bG_1
 have HbG_2:=Lib.hid bG_2
 have HbG_3:=Lib.hid bG_3
 have HbG_4:=Lib.hid bG_4
 have HbH_0:=Lib.hid bH_0
 have HbH_1:=Lib.hid bH_1
 have HbH_2:=Lib.hid bH_2
 have HbH_3:=Lib.hid bH_3
 have HbH_4:=Lib.hid bH_4
 clear a0_0 a0_1 a0_2 bW_0 bW_1 bW_2 bW_3 bW_4 bG_0 bG_1 bG_2 bG_3 bG_4 bH_0 bH_1 bH_2 bH_3 bH_4
 have HXH:=Lib.hid hX
 clear hX
 go_wp2_with fail
 rw[← HXH.out]
 clear HXH
 clear La0_0 La0_1 La0_2 LbW_0 LbW_1 LbW_2 LbW_3 LbW_4 LbG_0 LbG_1 LbG_2 LbG_3 LbG_4
 have a0_0:=Ha0_0.out
 have a0_1:=Ha0_1.out
 have a0_2:=Ha0_2.out
 have bW_0:=HbW_0.out
 have bW_1:=HbW_1.out
 have bW_2:=HbW_2.out
 have bW_3:=HbW_3.out
 have bW_4:=HbW_4.out
 have bG_0:=HbG_0.out
 have bG_1:=HbG_1.out
 have bG_2:=HbG_2.out
 have bG_3:=HbG_3.out
 have bG_4:=HbG_4.out
 have bH_0:=HbH_0.out
 have bH_1:=HbH_1.out
 have bH_2:=HbH_2.out
 have bH_3:=HbH_3.out
 have bH_4:=HbH_4.out
 clear Ha0_0 Ha0_1 Ha0_2 HbW_0 HbW_1 HbW_2 HbW_3 HbW_4 HbG_0 HbG_1 HbG_2 HbG_3 HbG_4 HbH_0 HbH_1 HbH_2 HbH_3 HbH_4
 go_wp2_with fail
 refine(eqSd_r _ _ _ _ _ _ r0 _ (HRH.out) (HRW.out) HSM.out).mono ?_
 rintro e w29 ⟨rfl,hb⟩
 have HSZ30:=Lib.hid (hb.size)
 replace a0_0:=fkeep hb a0_0
 replace a0_1:=fkeep hb a0_1
 replace a0_2:=fkeep hb a0_2
 replace bW_0:=fkeep hb bW_0
 replace bW_1:=fkeep hb bW_1
 replace bW_2:=fkeep hb bW_2
 replace bW_3:=fkeep hb bW_3
 replace bW_4:=fkeep hb bW_4
 replace bG_0:=fkeep hb bG_0
 replace bG_1:=fkeep hb bG_1
 replace bG_2:=fkeep hb bG_2
 replace bG_3:=fkeep hb bG_3
 replace bG_4:=fkeep hb bG_4
 replace bH_0:=fkeep hb bH_0
 replace bH_1:=fkeep hb bH_1
 replace bH_2:=fkeep hb bH_2
 replace bH_3:=fkeep hb bH_3
 replace bH_4:=fkeep hb bH_4
 have HF:=Lib.hid (fstep HF.out hb)
 replace HRW:=Lib.hid (HRW.out.keep hb)
 replace HG:=Lib.hid (HG.out.keep hb)
 replace HRH:=Lib.hid (HRH.out.keep hb)
 clear hb
 go_wp2_with fail
 refine(heldSd_o _ _ r0 1 _ _ HG.out HSM.out (by omega) (by omega)).mono ?_
 rintro e w30 ⟨rfl,hb⟩
 have HSZ31:=Lib.hid (hb.size)
 replace a0_0:=fkeep hb a0_0
 replace a0_1:=fkeep hb a0_1
 replace a0_2:=fkeep hb a0_2
 replace bW_0:=fkeep hb bW_0
 replace bW_1:=fkeep hb bW_1
 replace bW_2:=fkeep hb bW_2
 replace bW_3:=fkeep hb bW_3
 replace bW_4:=fkeep hb bW_4
 replace bG_0:=fkeep hb bG_0
 replace bG_1:=fkeep hb bG_1
 replace bG_2:=fkeep hb bG_2
 replace bG_3:=fkeep hb bG_3
 replace bG_4:=fkeep hb bG_4
 replace bH_0:=fkeep hb bH_0
 replace bH_1:=fkeep hb bH_1
 replace bH_2:=fkeep hb bH_2
 replace bH_3:=fkeep hb bH_3
 replace bH_4:=fkeep hb bH_4
 have HF:=Lib.hid (fstep HF.out hb)
 replace HRW:=Lib.hid (HRW.out.keep hb)
 replace HG:=Lib.hid (HG.out.keep hb)
 replace HRH:=Lib.hid (HRH.out.keep hb)
 clear hb
 go_wp2
 go_ret
 exact⟨rfl,HF.out⟩
end Go.Proofs.YteckjlkhopkogaaGreat
