/- Contracts: the lights that serving a demand considers, the reference's side. -/
import Derived.Test.YteckjlkhopkogaaGreatM12
namespace Go.Proofs.YteckjlkhopkogaaGreat
open Go.RowKit Go.PlainAid
theorem kD_is {l:List CH} {j:Nat} {x:CH} (h:l[j]?=some x):l.getD j dCH=x:=by rw[List.getD_eq_getElem?_getD,h];rfl
theorem ltCC_is {l:List CH} {i j:Nat} {x y:CH} (hx:l[i]?=some x) (hy:l[j]?=some y):ltCC l i j=decide (kCH x<kCH y):=by unfold ltCC;rw[kD_is hx,kD_is hy]
theorem kCH_fit {x:CH} (h1:0≤x.k) (h2:x.k≤24) (h3:x.r.fibs.length≤1048576):IntKind.i64.wrap (x.k * (x.r.fibs.length:Int))=kCH x:=by
 have e1:(x.r.fibs.length:Int)≤1048576:=by omega
 have e2:0≤x.k * (x.r.fibs.length:Int):=Int.mul_nonneg h1 (by omega)
 have e3:x.k * (x.r.fibs.length:Int)≤25165824:=Int.le_trans (Int.mul_le_mul h2 e1 (by omega) (by omega)) (by decide)
 show _=x.k * (x.r.fibs.length:Int)
 rw[IntKind.wrap_i64] <;> omega
theorem kq_37 {w1 w2:World} {a b c d i j:Nat} {u0 u1 u2 v0 v1 x0 x1:Value} (h:w1.cell? ⟨a,0,none⟩=some u0∧w1.cell? ⟨a,1,none⟩=some u1∧w1.cell? ⟨a,2,none⟩=some u2∧w1.cell? ⟨b,0,none⟩=some v0∧w1.cell? ⟨b,1,none⟩=some v1∧w1.cell? ⟨c,i,none⟩=some x0∧w1.cell? ⟨d,j,none⟩=some x1) (hb:Fresh w1 w2) :
  w2.cell? ⟨a,0,none⟩=some u0∧w2.cell? ⟨a,1,none⟩=some u1∧w2.cell? ⟨a,2,none⟩=some u2∧w2.cell? ⟨b,0,none⟩=some v0∧w2.cell? ⟨b,1,none⟩=some v1∧w2.cell? ⟨c,i,none⟩=some x0∧w2.cell? ⟨d,j,none⟩=some x1 :=
 ⟨fkeep hb h.1,fkeep hb h.2.1,fkeep hb h.2.2.1,fkeep hb h.2.2.2.1,fkeep hb h.2.2.2.2.1,fkeep hb h.2.2.2.2.2.1,fkeep hb h.2.2.2.2.2.2⟩
theorem kq_22 {w1 w2:World} {a b:Nat} {u0 u1 v0 v1:Value} (h:w1.cell? ⟨a,0,none⟩=some u0∧w1.cell? ⟨a,1,none⟩=some u1∧w1.cell? ⟨b,0,none⟩=some v0∧w1.cell? ⟨b,1,none⟩=some v1) (hb:Fresh w1 w2) :
  w2.cell? ⟨a,0,none⟩=some u0∧w2.cell? ⟨a,1,none⟩=some u1∧w2.cell? ⟨b,0,none⟩=some v0∧w2.cell? ⟨b,1,none⟩=some v1 :=
 ⟨fkeep hb h.1,fkeep hb h.2.1,fkeep hb h.2.2.1,fkeep hb h.2.2.2⟩
set_option maxHeartbeats 16000000 in
set_option maxRecDepth 100000 in
theorem l11Choices_any (v:Value) (P:PlanV) (pf:Option Addr) (cf:Nat) (fm:List (Int × Int)) (d:Fib) (fit:Int) (w:World) (h:PlIn w v P) (hfm:Prs w pf fm) (hfl:fm.length≤1048576) (hp:planB P=true) (hus:usB P.net fm d=true) :
  Calls Tryz.prog 65 #[v,.slice pf fm.length cf,fibV d,.int .i64 fit] w (OutK P fm d fit w):=by
 have HPL:=Lib.hid h
 have HPF:=Lib.hid hfm
 obtain⟨q,m,c,p,k0,e1,r,i0,e0,rfl⟩:=h.shape
 obtain⟨W2,hW2,hsz2,hf2,r1,r2⟩:=two_rows w [.slice q m c,.slice p k0 e1,.slice r i0 e0] [.int .i64 d.a,.int .i64 d.b,.int .i64 d.len,.int .i64 d.risk] 38 59
 obtain⟨W3,hW3⟩:∃ W,W=W2.alloc (.cells #[] 94):=⟨_,rfl⟩
 have hf3:Fresh W2 W3:=by rw[hW3];exact fnew (frefl _) _
 have hra:RowAt W3 W2.heap.size 94 []:=by rw[hW3];exact RowAt.new _ _ _
 rw[hsz2] at hra
 have HU:=Lib.hid (l10Usable_any (.agg #[.slice q m c,.slice p k0 e1]) P.net pf cf fm d W3 (HPL.out.net.keep (fstep hf2 hf3)) (HPF.out.keep (fstep hf2 hf3)) hfl hus)
 have HF2:=Lib.hid hf2
 have HF3:=Lib.hid hf3
 have HR1:=Lib.hid r1
 have HRA:=Lib.hid hra
 have HW2:=Lib.hid hW2
 have HW3:=Lib.hid hW3
 have HGS:=Lib.hid (goods hp)
 have HAL:Hid (∀ W (x:LR),Fresh W2 W→Ints W x.q x.fibs→x.fibs.length≤1048576→Calls Tryz.prog 112 #[.agg #[.slice q m c,.slice p k0 e1,.slice r i0 e0],.agg #[.int .i64 x.start,.slice x.q x.fibs.length x.cap]] W fun e w'=>e=.returned (.int .i64 (alongN P.lights x.fibs:Int))∧Fresh W w'):=fun W x hW hI hl=>l9Along_any _ P _ (x.start,x.fibs) W (HPL.out.keep (fstep hf2 hW)) ⟨x.start,x.q,x.cap,x.fibs,rfl,hI,hl,rfl⟩ HGS.out
 have hsz:=hf2.size
 have hlt3:w.heap.size+1+1<W3.heap.size:=hra.lt
 clear h hfm hf2 hf3 hra r1 r2 hW2 hW3 hp
 go_enter Tryz.func65,Tryz.ntmps65
 go_wp2_with fail
 rw[← HW2.out]
 try rw[← HW3.out]
 refine(HU.out).mono ?_
 rintro e w4 ⟨V,pk,ck,l,rfl,hu,hv,hf⟩
 have HF4:=Lib.hid (fstep HF3.out hf)
 have HRA4:=Lib.hid (HRA.out.keep hf)
 have HUS:=Lib.hid hu
 have HV:=Lib.hid hv
 have hsz4:=hf.size
 clear hu hv hf HU HRA
 cases hok:usOk P.net fm d
 ·have HNO:=Lib.hid hok
  clear hok
  go_wp2
  go_ret2
  exact⟨_,[],by rw[HNO.out];first|done|rfl,Lso.nil _ _ (ownsRow_zero HRA4.out (by omega)),by rw[consL_no HNO.out];rfl,fstep HF2.out HF4.out⟩
 have HOK:=Lib.hid hok
 have hVs:∃ p9 c9,V=.slice p9 l.length c9:=by
  obtain⟨p9,c9,e9,_⟩:=owns_cap HUS.out.rts.row
  exact⟨p9,c9,by rw[e9,List.length_map]⟩
 obtain⟨p9,c9,rfl⟩:=hVs
 have hll:l.length≤200:=ch_len HV.out
 have HMEM:Hid (∀ x∈l,1≤x.k∧x.k≤24∧x.r.fibs.length≤1048576):=by
  intro x hx
  have h1:x.val∈(usF P.net fm d).1:=by rw[← HV.out];exact List.mem_map_of_mem (f:=CH.val) hx
  obtain⟨_,_,a1,a2,_,a3,_⟩:=us_mem h1
  exact⟨a1,a2,a3⟩
 have HMV:Hid ((ordH l).map CH.val=ordV (usF P.net fm d).1):=by show _=_;rw[ordH_val,HV.out]
 obtain⟨W5,hW5⟩:∃ W,W=w4.alloc (.cells #[] 3):=⟨_,rfl⟩
 have hf5:Fresh w4 W5:=by rw[hW5];exact fnew (frefl _) _
 have hro:RowAt W5 w4.heap.size 3 []:=by rw[hW5];exact RowAt.new _ _ _
 have HOO5:Hid (W5.ownsRow w.heap.size 3 1 (.slice (some ⟨w4.heap.size,0,none⟩) 0 0) 0 []):=ownsRow_zero hro (by omega)
 have HUS5:=Lib.hid (HUS.out.keep hf5)
 have HRA5:=Lib.hid (HRA4.out.keep hf5)
 have HF5:=Lib.hid (fstep HF4.out hf5)
 have HW5:=Lib.hid hW5
 clear hok hf5 hro hW5
 go_wp2
 try rw[← HW5.out]
 go_loopw [14,15] (fun o i wr=>∃ j:Nat,j≤l.length∧i=.int .i64 j∧wr.ownsRow w.heap.size 3 1 o (odG (ltCC l) j).length ((odG (ltCC l) j).map iv)∧Uss wr W3.heap.size (.slice p9 l.length c9) pk ck l∧RowAt wr (w.heap.size+1+1) 94 []∧Fresh W2 wr) (fun _ i _=>l.length - (intOf i).toNat)
 case atStart=>exact⟨0,Nat.zero_le _,rfl,HOO5.out,HUS5.out,HRA5.out,HF5.out⟩
 case round =>
  obtain⟨j,hj,rfl,hown,hci,hro,hf⟩:=hrel
  obtain⟨wo,rfl⟩:∃ wo,wo=wr:=⟨_,rfl⟩
  by_cases hlt:j<l.length
  ·have hltz:(j:Int)<(l.length:Int):=by omega
   obtain⟨qo,co,rfl,hoo,hco1,hco2⟩:=owns_cap hown
   rw[odG_len] at hco1 ⊢
   have HOO:=Lib.hid hoo
   have HCI:=Lib.hid hci
   have HRO:=Lib.hid hro
   have HF:=Lib.hid hf
   obtain⟨pos,hpos⟩:∃ k,k=insAt (ltCC l) (ordS (ltCC l) j) j j:=⟨_,rfl⟩
   have HPOS:=Lib.hid hpos
   have hple:pos≤j:=by rw[hpos];exact insAt_le _ _ _ _
   have HSN:Hid (∀ i,i<j→ordS (ltCC l) j i<j):=fun i hi=>ordS_lt _ hi
   clear hown hoo hci hro hf hpos
   go_wp2
   go_loopw [16] (fun v wr=>∃ k:Nat,k≤j∧v=.int .i64 k∧Hid (insAt (ltCC l) (ordS (ltCC l) j) j k=pos)∧Fresh wo wr) (fun v _=>(intOf v).toNat)
   case atStart=>exact⟨j,Nat.le_refl _,rfl,HPOS.out.symm,frefl _⟩
   case round =>
    obtain⟨k,hkj,rfl,HIN,hfi⟩:=hrel
    have HFI:=Lib.hid hfi
    have hstep:(0<k∧ltCC l j (ordS (ltCC l) j (k - 1))=true)∨k=pos:=by
     have hin:=HIN.out
     cases k with
     | zero=>right;exact hin
     | succ kp =>
      cases hc:ltCC l j (ordS (ltCC l) j kp)
      ·right
       unfold insAt at hin
       rw[if_neg (by rw[hc];simp)] at hin
       exact hin
      ·left;exact⟨by omega,hc⟩
    rcases hstep with⟨hk0,hcmp⟩|hkp
    ·obtain⟨kp,hkp⟩:∃ kp,k=kp+1:=⟨k - 1,by omega⟩
     have ekp:k - 1=kp:=by omega
     rw[ekp] at hcmp
     have HIN2:Hid (insAt (ltCC l) (ordS (ltCC l) j) j kp=pos):=by
      have hin:=HIN.out
      rw[hkp] at hin
      unfold insAt at hin
      rwa [if_pos hcmp] at hin
     obtain⟨m2,hm⟩:∃ m,m=ordS (ltCC l) j kp:=⟨_,rfl⟩
     have hmj:m2<j:=by rw[hm];exact HSN.out kp (by omega)
     rw[← hm] at hcmp
     obtain⟨b1,o1,z,e3,hz,z0⟩:=(HOO.out.ints.keep hfi).at (k:=kp) (by rw[odG_len];omega)
     rw[odG_get (by omega),← hm] at hz
     cases hz
     obtain⟨g1,h1,x,e4,e5,hx,hxm,_,x1,xk⟩:=uss_at (HCI.out.keep hfi) hlt
     obtain⟨g2,h2,y,e6,e7,hy,hym,_,y1,yk⟩:=uss_at (HCI.out.keep hfi) (show m2<l.length by omega)
     subst e3
     subst e4
     subst e5
     cases e6
     cases e7
     rw[ltCC_is hx hy] at hcmp
     have hxy:=of_decide_eq_true hcmp
     obtain⟨bx1,bx2,bx3⟩:=HMEM.out x hxm
     obtain⟨by1,by2,by3⟩:=HMEM.out y hym
     have wx:=kCH_fit (x:=x) (by omega) bx2 bx3
     have wy:=kCH_fit (x:=y) (by omega) by2 by3
     obtain⟨kx,hkx⟩:∃ z,z=kCH x:=⟨_,rfl⟩
     obtain⟨ky,hky⟩:∃ z,z=kCH y:=⟨_,rfl⟩
     rw[← hkx] at wx hxy
     rw[← hky] at wy hxy
     have w1:IntKind.i64.wrap ((k:Int) - 1)=(k:Int) - 1:=by rw[IntKind.wrap_i64] <;> omega
     have t1:((k:Int) - 1).toNat=kp:=by omega
     have p1:(0:Int)≤(k:Int) - 1:=by omega
     have zk:(k:Int) - 1<(j:Int):=by omega
     have zm:(m2:Int)<(l.length:Int):=by omega
     have hk0z:(0:Int)<(k:Int):=by omega
     have x1w:=fun xa:After wr=>akeep x1 xa
     have xkw:=fun xa:After wr=>akeep xk xa
     have y1w:=fun xa:After wr=>akeep y1 xa
     have ykw:=fun xa:After wr=>akeep yk xa
     have z0w:=fun xa:After wr=>akeep z0 xa
     have HKP:=Lib.hid hkp
     clear hx hy hm hxm hym hcmp hfi hkp ekp HIN hkx hky bx1 bx2 bx3 by1 by2 by3
     go_wp2
     refine wp_region_after (by kernel_rfl) (by kernel_rfl) ?_
     repeat (go_big_quiet_step (fail))
     refine wpQuiet_nil ?_
     rintro _ ⟨xa,rfl⟩
     have HXA:=Lib.hid xa.h
     clear x1 xk y1 yk z0 x1w xkw y1w ykw z0w
     go_wp2
     go_roundw
     case rel=>exact⟨kp,by have:=HKP.out;omega,by have:=HKP.out;rw[show(k:Int) - 1=(kp:Int) by omega],HIN2.out,fstep HFI.out HXA.out⟩
     case measure=>have:=HKP.out;simp[intOf];omega
    ·have HIN3:=HIN.out
     have hcmpf:∀ kp,k=kp+1→ltCC l j (ordS (ltCC l) j kp)=false:=by
      intro kp e
      cases hc:ltCC l j (ordS (ltCC l) j kp)
      ·rfl
      ·exfalso
       rw[e] at HIN3 hkp
       unfold insAt at HIN3
       rw[if_pos hc] at HIN3
       have:=insAt_le (ltCC l) (ordS (ltCC l) j) j kp
       omega
     clear HIN3 HIN
     subst hkp
     rcases Nat.eq_zero_or_pos k with hkz|hkz
     focus
      have hkd:¬ (0:Int)<(k:Int):=by omega
      have hkd2:decide (0<k)=false:=decide_eq_false (by omega)
      clear hcmpf hfi hkz
      go_wp2
      refine wp_region_after (by kernel_rfl) (by kernel_rfl) ?_
      repeat (go_big_quiet_step (fail))
      refine wpQuiet_nil ?_
      rintro _ ⟨xa,rfl⟩
      have hxa:=xa.h
      go_wp2
      clear hkd hkd2
      obtain⟨pr9,hpr9⟩:∃ q:Option Addr,q=p9:=⟨_,rfl⟩
      obtain⟨prk,hprk⟩:∃ q:Option Addr,q=pk:=⟨_,rfl⟩
      rw[← hpr9] at HCI ⊢
      rw[← hprk] at HCI ⊢
     rotate_left
     focus
      obtain⟨kp,hkp⟩:∃ kp,k=kp+1:=⟨k - 1,by omega⟩
      have hcmp:=hcmpf kp hkp
      obtain⟨m2,hm⟩:∃ m,m=ordS (ltCC l) j kp:=⟨_,rfl⟩
      have hmj:m2<j:=by rw[hm];exact HSN.out kp (by omega)
      rw[← hm] at hcmp
      obtain⟨b1,o1,z,e3,hz,z0⟩:=(HOO.out.ints.keep hfi).at (k:=kp) (by rw[odG_len];omega)
      rw[odG_get (by omega),← hm] at hz
      cases hz
      obtain⟨g1,h1,x,e4,e5,hx,hxm,_,x1,xk⟩:=uss_at (HCI.out.keep hfi) hlt
      obtain⟨g2,h2,y,e6,e7,hy,hym,_,y1,yk⟩:=uss_at (HCI.out.keep hfi) (show m2<l.length by omega)
      have hpr9:=e4.symm
      have hprk:=e5.symm
      subst e3
      subst e4
      subst e5
      cases e6
      cases e7
      rw[ltCC_is hx hy] at hcmp
      have hxy:=of_decide_eq_false hcmp
      obtain⟨bx1,bx2,bx3⟩:=HMEM.out x hxm
      obtain⟨by1,by2,by3⟩:=HMEM.out y hym
      have wx:=kCH_fit (x:=x) (by omega) bx2 bx3
      have wy:=kCH_fit (x:=y) (by omega) by2 by3
      obtain⟨kx,hkx⟩:∃ z,z=kCH x:=⟨_,rfl⟩
      obtain⟨ky,hky⟩:∃ z,z=kCH y:=⟨_,rfl⟩
      rw[← hkx] at wx hxy
      rw[← hky] at wy hxy
      have w1:IntKind.i64.wrap ((k:Int) - 1)=(k:Int) - 1:=by rw[IntKind.wrap_i64] <;> omega
      have t1:((k:Int) - 1).toNat=kp:=by omega
      have p1:(0:Int)≤(k:Int) - 1:=by omega
      have zk:(k:Int) - 1<(j:Int):=by omega
      have zm:(m2:Int)<(l.length:Int):=by omega
      have hk0z:(0:Int)<(k:Int):=by omega
      have x1w:=fun xa:After wr=>akeep x1 xa
      have xkw:=fun xa:After wr=>akeep xk xa
      have y1w:=fun xa:After wr=>akeep y1 xa
      have ykw:=fun xa:After wr=>akeep yk xa
      have z0w:=fun xa:After wr=>akeep z0 xa
      clear hx hy hm hxm hym hcmp hfi hkp hcmpf hkx hky bx1 bx2 bx3 by1 by2 by3
      go_wp2
      refine wp_region_after (by kernel_rfl) (by kernel_rfl) ?_
      repeat (go_big_quiet_step (fail))
      refine wpQuiet_nil ?_
      rintro _ ⟨xa,rfl⟩
      have hxa:=xa.h
      go_wp2
      clear x1 xk y1 yk z0 x1w xkw y1w ykw z0w hxy w1 t1 p1 zk zm hk0z hmj hkz wx wy
      obtain⟨qo,hqo⟩:∃ q:Option Addr,q=some ⟨b1,o1,none⟩:=⟨_,rfl⟩
      rw[← hqo] at HOO ⊢
      clear hqo
      obtain⟨pr9,hpr9⟩:∃ q:Option Addr,q=some ⟨g1,0,none⟩:=⟨_,rfl⟩
      obtain⟨prk,hprk⟩:∃ q:Option Addr,q=some ⟨h1,0,none⟩:=⟨_,rfl⟩
      rw[← hpr9] at HCI ⊢
      rw[← hprk] at HCI ⊢
     all_goals (
      obtain⟨W6,hW6⟩:∃ W,W=xa.w':=⟨_,rfl⟩
      have hf6:Fresh wo W6:=by rw[hW6];exact fstep HFI.out hxa
      rw[← hW6]
      have HO6:=Lib.hid (HOO.out.keep hf6)
      have HCI6:=Lib.hid (HCI.out.keep hf6)
      have HRO6:=Lib.hid (HRO.out.keep hf6)
      have HF6:=Lib.hid (fstep HF.out hf6)
      clear hxa hf6 hW6
      have HTK:Hid ((((odG (ltCC l) j).take k).map iv).length=k * 1):=by show _=_;rw[List.length_map,List.length_take,odG_len];omega
      have HDK:Hid ((((odG (ltCC l) j).drop k).map iv).length=(j - k) * 1):=by show _=_;rw[List.length_map,List.length_drop,odG_len];omega
      have b1:k≤co:=by omega
      have n1:k≤1048576:=by omega
      have n2:j - k≤1048576:=by omega
      obtain⟨A,hA,hPB⟩:∃ A:Option Addr,(∀ W,Own W w.heap.size 3 qo ((odG (ltCC l) j).map iv)→Cells W A (((odG (ltCC l) j).drop k).map iv))∧((qo=none∧A=none)∨∃ g,qo=some ⟨g,0,none⟩∧A=if co=k then (some (⟨g,0,none⟩:Addr)) else some ⟨g,k,none⟩):=by
       rcases HO6.out with⟨rfl,h0⟩|⟨g,sp,rfl,_,hW⟩
       ·refine⟨none,fun W hW=>?_,Or.inl ⟨rfl,rfl⟩⟩
        left
        have h2:odG (ltCC l) j=[]:=List.map_eq_nil_iff.1 h0
        rw[h2];simp
       ·exact⟨_,fun W hW=>partJ_b (by rw[odG_len];exact hkj) (by rw[odG_len];exact hco1) hW,Or.inr ⟨g,rfl,rfl⟩⟩
      have HPB:=Lib.hid hA
      clear hA
      rcases hPB with⟨rfl,rfl⟩|⟨g,rfl,hA⟩
      rotate_left
      focus
       have hA':=hA.symm
       clear hA
      all_goals (
      refine hd_start (n:=12) (S:=fun _=>True) (by kernel_rfl) (by kernel_rfl) trivial (fun hHeld=>?_)
      obtain⟨c0,hc0⟩:∃ W,W=W6.drew:=⟨_,rfl⟩
      rw[← hc0]
      have fc0:Fresh W6 c0:=by rw[hc0];exact fdrew (frefl _)
      clear hc0
      refine hd_tk (i:=1) (v:=?_) rfl ?_ ?_
      rotate_left
      ·(intro w hSw;(try dsimp only at hSw);go_simp;first|done|with_reducible rfl)
      refine hd_tk (i:=2) (v:=?_) rfl ?_ ?_
      rotate_left
      ·(intro w hSw;(try dsimp only at hSw);go_simp;first|done|with_reducible rfl)
      refine hd_tk (i:=3) (v:=?_) rfl ?_ ?_
      rotate_left
      ·(intro w hSw;(try dsimp only at hSw);go_simp;first|done|with_reducible rfl)
      refine hd_tk (i:=5) (v:=?_) rfl ?_ ?_
      rotate_left
      ·(intro w hSw;(try dsimp only at hSw);go_simp;first|done|with_reducible rfl)
      refine hd_tk (i:=8) (v:=?_) rfl ?_ ?_
      rotate_left
      ·(intro w hSw;(try dsimp only at hSw);go_simp;first|done|with_reducible rfl)
      refine hd_tk (i:=9) (v:=?_) rfl ?_ ?_
      rotate_left
      ·(intro w hSw;(try dsimp only at hSw);go_simp;first|done|with_reducible rfl)
      refine hd_tk (i:=10) (v:=?_) rfl ?_ ?_
      rotate_left
      ·(intro w hSw;(try dsimp only at hSw);go_simp;first|done|with_reducible rfl)
      refine hd_ready (rs:=[0,6]) (by kernel_rfl) (by simp) ?_
      refine hd_cons (i:=0) rfl (by kernel_rfl) (fun K hK=>?_) ?_
      focus
       go_simp
       obtain⟨wa,hwa⟩:∃ W,W=c0.alloc (.cells #[] 3):=⟨_,rfl⟩
       rw[← hwa]
       have fa:Fresh W6 wa:=by rw[hwa];exact fnew fc0 _
       obtain⟨ga,hga⟩:∃ g,g=c0.heap.size:=⟨_,rfl⟩
       have ra:RowAt wa ga 3 []:=by rw[hwa,hga];exact RowAt.new _ _ _
       have hgl:W6.heap.size≤ga:=by rw[hga];exact fc0.size
       rw[← hga]
       have hal:c0.heap.size≤ga:=by rw[hga];exact Nat.le_refl _
       clear hwa hga
       refine hK.out _ _ trivial (fun hHeld=>?_)
       clear hK K
       refine hd_ready (rs:=[4,6]) (by kernel_rfl) (by simp) ?_
       refine hd_cons (i:=4) rfl (by kernel_rfl) (fun K hK=>?_) ?_
       focus
        refine step_app_mm (some 83) rfl Tryz.underlying29 infoInt rfl (by decide) (by decide) W6 (.slice (some ⟨ga,0,none⟩) 0 0) 0 [] _ k co (((odG (ltCC l) j).take k).map iv) rfl _ _ rfl rfl (ownsRow_zero ra hgl) rfl (partJ_a k (HO6.out.keep fa)) HTK.out (onesI _) (by omega) n1 fa ?_
        rw[Nat.zero_add,List.nil_append]
        intro q1 c1 x1 own1 f1 hk1
        clear hk1
        refine hK.out _ _ trivial (fun hHeld=>?_)
        clear hK K
        refine hd_one (i:=6) rfl (by kernel_rfl) (by kernel_rfl) (fun K hK=>?_)
        go_simp
        obtain⟨x3,hwb⟩:∃ W,W=x1.alloc (.cells #[.int .i64 (j:Int)] 3):=⟨_,rfl⟩
        rw[← hwb]
        have f3:Fresh W6 x3:=by rw[hwb];exact fnew f1 _
        obtain⟨gb,hgb⟩:∃ g,g=x1.heap.size:=⟨_,rfl⟩
        have rb:RowAt x3 gb 3 [iv (j:Int)]:=by rw[hwb,hgb];exact RowAt.new _ _ _
        rw[← hgb]
        have own3:=ownsRow_keep own1 (show Fresh x1 x3 by rw[hwb];exact fnew (frefl _) _)
        clear hwb hgb
        refine hK.out _ _ trivial (fun hHeld=>?_)
        clear hK K
        clear own1 f1 fa ra hal hgl
       rotate_left
       focus
        refine hd_cons (i:=6) rfl (by kernel_rfl) (fun K hK=>?_) hd_nil
        go_simp
        obtain⟨x1,hwb⟩:∃ W,W=wa.alloc (.cells #[.int .i64 (j:Int)] 3):=⟨_,rfl⟩
        rw[← hwb]
        have f1:Fresh W6 x1:=by rw[hwb];exact fnew fa _
        obtain⟨gb,hgb⟩:∃ g,g=wa.heap.size:=⟨_,rfl⟩
        have rb1:RowAt x1 gb 3 [iv (j:Int)]:=by rw[hwb,hgb];exact RowAt.new _ _ _
        rw[← hgb]
        have ra1:=ra.keep (show Fresh wa x1 by rw[hwb];exact fnew (frefl _) _)
        have hne:ga≠gb:=by have:=ra.lt;omega
        clear hwb hgb
        refine hK.out _ _ trivial (fun hHeld=>?_)
        clear hK K
        refine hd_one (i:=4) rfl (by kernel_rfl) (by kernel_rfl) (fun K hK=>?_)
        refine step_app_mm (some 83) rfl Tryz.underlying29 infoInt rfl (by decide) (by decide) W6 (.slice (some ⟨ga,0,none⟩) 0 0) 0 [] _ k co (((odG (ltCC l) j).take k).map iv) rfl _ _ rfl rfl (ownsRow_zero ra1 hgl) rfl (partJ_a k (HO6.out.keep f1)) HTK.out (onesI _) (by omega) n1 f1 ?_
        rw[Nat.zero_add,List.nil_append]
        intro q1 c1 x3 own3 f3 hk1
        have rb:=hk1 _ _ _ rb1 (Or.inr fun e=>hne (by simpa [Value.ownBlock] using e))
        clear hk1
        refine hK.out _ _ trivial (fun hHeld=>?_)
        clear hK K
        clear f1 fa ra ra1 rb1 hne hal hgl
      rotate_left 2
      focus
       refine hd_cons (i:=6) rfl (by kernel_rfl) (fun K hK=>?_) hd_nil
       go_simp
       obtain⟨wb,hwb⟩:∃ W,W=c0.alloc (.cells #[.int .i64 (j:Int)] 3):=⟨_,rfl⟩
       rw[← hwb]
       have fb:Fresh W6 wb:=by rw[hwb];exact fnew fc0 _
       obtain⟨gb,hgb⟩:∃ g,g=c0.heap.size:=⟨_,rfl⟩
       have rb0:RowAt wb gb 3 [iv (j:Int)]:=by rw[hwb,hgb];exact RowAt.new _ _ _
       rw[← hgb]
       clear hwb hgb
       refine hK.out _ _ trivial (fun hHeld=>?_)
       clear hK K
       refine hd_one (i:=0) rfl (by kernel_rfl) (by kernel_rfl) (fun K hK=>?_)
       go_simp
       obtain⟨x1,hwa⟩:∃ W,W=wb.alloc (.cells #[] 3):=⟨_,rfl⟩
       rw[← hwa]
       have f1:Fresh W6 x1:=by rw[hwa];exact fnew fb _
       obtain⟨ga,hga⟩:∃ g,g=wb.heap.size:=⟨_,rfl⟩
       have ra:RowAt x1 ga 3 []:=by rw[hwa,hga];exact RowAt.new _ _ _
       have hgl:W6.heap.size≤ga:=by rw[hga];exact fb.size
       rw[← hga]
       have hal:wb.heap.size≤ga:=by rw[hga];exact Nat.le_refl _
       have rb1:=rb0.keep (show Fresh wb x1 by rw[hwa];exact fnew (frefl _) _)
       have hne:ga≠gb:=by have:=rb0.lt;omega
       clear hwa hga
       refine hK.out _ _ trivial (fun hHeld=>?_)
       clear hK K
       refine hd_one (i:=4) rfl (by kernel_rfl) (by kernel_rfl) (fun K hK=>?_)
       refine step_app_mm (some 83) rfl Tryz.underlying29 infoInt rfl (by decide) (by decide) W6 (.slice (some ⟨ga,0,none⟩) 0 0) 0 [] _ k co (((odG (ltCC l) j).take k).map iv) rfl _ _ rfl rfl (ownsRow_zero ra hgl) rfl (partJ_a k (HO6.out.keep f1)) HTK.out (onesI _) (by omega) n1 f1 ?_
       rw[Nat.zero_add,List.nil_append]
       intro q1 c1 x3 own3 f3 hk1
       have rb:=hk1 _ _ _ rb1 (Or.inr fun e=>hne (by simpa [Value.ownBlock] using e))
       clear hk1
       refine hK.out _ _ trivial (fun hHeld=>?_)
       clear hK K
       clear f1 fb ra rb0 rb1 hne hal hgl
      all_goals (
       refine hd_one (i:=7) rfl (by kernel_rfl) (by kernel_rfl) (fun K hK=>?_)
       (refine step_app_mm (some 86) rfl Tryz.underlying29 infoInt rfl (by decide) (by decide) W6 _ k (((odG (ltCC l) j).take k).map iv) (some ⟨gb,0,none⟩) 1 1 [iv (j:Int)] rfl _ _ rfl rfl own3 rfl rb.cells rfl (by intro u hu;simp at hu;subst hu;rfl) n1 (by decide) f3 ?_;intro q4 c4 x4 own4 f4 hk4)
       refine hK.out _ _ ?_ (fun hHeld=>?_)
       ·trivial
       clear hK K
       refine hd_one (i:=11) rfl (by kernel_rfl) (by kernel_rfl) (fun K hK=>?_)
       (refine step_app_mm (some 90) rfl Tryz.underlying29 infoInt rfl (by decide) (by decide) W6 _ (k+1) (((odG (ltCC l) j).take k).map iv++[iv (j:Int)]) _ (j - k) (co - k) (((odG (ltCC l) j).drop k).map iv) rfl _ _ rfl rfl own4 rfl (HPB.out _ (HO6.out.keep f4)) HDK.out (onesI _) (by omega) n2 f4 ?_;intro q5 c5 x5 own5 f5 hk5)
       refine hK.out _ _ ?_ (fun hHeld=>?_)
       ·trivial
       clear hK K
       refine hd_done (by kernel_rfl) ?_
       clear hHeld
       simp only[List.drop_succ_cons,List.drop_zero]
       have HO5:=Lib.hid own5
       have HF5:=Lib.hid f5
       clear own5 f5 own4 f4 own3 f3 rb hk4 hk5 fc0
       go_wp2
       go_roundw
       case rel =>
        refine⟨j+1,hlt,by go_num,?_,?_,HRO6.out.keep HF5.out,fstep HF6.out HF5.out⟩
        ·have ho:=HO5.out
         rw[← List.map_singleton (f:=iv),← List.map_append,← List.map_append,odG_step HPOS.out] at ho
         rw[odG_len]
         have e9:k+1+(j - k)=j+1:=by omega
         rw[e9] at ho ⊢
         exact owns_mono ho (fstep HF2.out HF6.out).size
        ·have hh:=HCI6.out.keep HF5.out
         rwa [hpr9,hprk] at hh
       case measure=>simp[intOf];omega)))
  ·have hltz:¬ (j:Int)<(l.length:Int):=by omega
   have hje:j=l.length:=by omega
   subst hje
   obtain⟨qo,co,rfl,hoo,hco1,hco2⟩:=owns_cap hown
   rw[odG_len] at hco1 ⊢
   have HOO:=Lib.hid hoo
   have HCI:=Lib.hid hci
   have HRO:=Lib.hid hro
   have HF:=Lib.hid hf
   obtain⟨M,hM⟩:∃ M,M=ordH l:=⟨_,rfl⟩
   have HMA:Hid (∀ i,i<l.length→M[i]?=l[ordS (ltCC l) l.length i]?):=fun i hi=>by rw[hM];exact ordH_at l hi
   have HML:Hid (M.length=l.length):=by show _=_;rw[hM,ordH_len]
   rw[← hM] at HMV
   have HL0:Hid (Lso wo W2.heap.size (.slice (some ⟨w.heap.size+1+1,0,none⟩) 0 0) []):=Lso.nil _ _ (ownsRow_zero hro (by omega))
   clear hown hoo hci hro hf hM hlt
   go_wp2
   go_loopw [10,17] (fun o i wr=>∃ (j:Nat) (Ls:List LL),j≤l.length∧i=.int .i64 j∧Lso wr W2.heap.size o Ls∧Hid (Ls.map LL.val=consTo P.lights fit ((M.take j).map CH.val))∧Ls.length≤j∧Own wr w.heap.size 3 qo ((odG (ltCC l) l.length).map iv)∧Uss wr W3.heap.size (.slice p9 l.length c9) pk ck l∧Fresh W2 wr) (fun _ i _=>l.length - (intOf i).toNat)
   case atStart=>exact⟨0,[],Nat.zero_le _,rfl,HL0.out,(show _=_ from rfl),Nat.le_refl _,HOO.out,HCI.out,HF.out⟩
   case round =>
    obtain⟨j,Ls,hj,rfl,hls,HLV,hlsl,hoo,hci,hf⟩:=hrel
    by_cases hlt:j<l.length
    ·have hltz:(j:Int)<(l.length:Int):=by omega
     obtain⟨m2,hm⟩:∃ m,m=ordS (ltCC l) l.length j:=⟨_,rfl⟩
     have hml:m2<l.length:=by rw[hm];exact ordS_lt _ hlt
     have hmz:(m2:Int)<(l.length:Int):=by omega
     obtain⟨b1,o1,z,rfl,hz,z0⟩:=hoo.ints.at (k:=j) (by rw[odG_len];exact hlt)
     rw[odG_get hlt,← hm] at hz
     cases hz
     obtain⟨g1,h1,x,rfl,rfl,hx,hxm,c0,c1,ck1⟩:=uss_at hci hml
     have HTK:Hid (M.take (j+1)=M.take j++[x]):=by show _=_;rw[List.take_add_one,HMA.out j hlt,← hm,hx];rfl
     obtain⟨bx1,bx2,bx3⟩:=HMEM.out x hxm
     obtain⟨W6,hW6⟩:∃ W,W=wr.alloc (.cells #[.int .i64 x.r.start,.slice x.r.q x.r.fibs.length x.r.cap] 90):=⟨_,rfl⟩
     have hf6:Fresh wr W6:=by rw[hW6];exact fnew (frefl _) _
     have hr6:RowAt W6 wr.heap.size 90 [.int .i64 x.r.start,.slice x.r.q x.r.fibs.length x.r.cap]:=by rw[hW6];exact RowAt.new _ _ _
     have HF6:=Lib.hid (fstep hf hf6)
     have HLS:=Lib.hid (hls.keep hf6)
     have HOO6:=Lib.hid (hoo.keep hf6)
     have HCI6:=Lib.hid (hci.keep hf6)
     have HBX:=Lib.hid hr6
     have hI:=(hci.keep hf6).ints hxm
     have hwl:wr.heap.size<W6.heap.size:=hr6.lt
     have HALX:Hid (∀ W,Fresh W6 W→Calls Tryz.prog 112 #[.agg #[.slice q m c,.slice p k0 e1,.slice r i0 e0],.agg #[.int .i64 x.r.start,.slice x.r.q x.r.fibs.length x.r.cap]] W fun e w'=>e=.returned (.int .i64 (alongN P.lights x.r.fibs:Int))∧Fresh W w'):=fun W hW=>HAL.out W x.r (fstep HF6.out hW) (hI.keep hW) bx3
     have HIX:=Lib.hid hI
     have hflag:=fit_flag (fit:=fit) (along_lt HGS.out (fs:=x.r.fibs)) bx1 bx2
     have HBK:Hid (∀ W,Calls Tryz.prog 111 #[.int .i64 (alongN P.lights x.r.fibs:Int),.int .i64 x.k,.int .i64 fit] W fun e w'=>e=.returned (.agg #[.int .i64 (fitF fit (alongN P.lights x.r.fibs:Int) x.k).1,.int .i64 (fitF fit (alongN P.lights x.r.fibs:Int) x.k).2.1])∧Fresh W w'):=fun W=>l11Block_any (along_lt HGS.out (fs:=x.r.fibs)) x.k fit W bx1 bx2
     obtain⟨⟨bf,bn,bb⟩,hb⟩:∃ z,z=fitF fit (alongN P.lights x.r.fibs:Int) x.k:=⟨_,rfl⟩
     rw[← hb] at HBK hflag
     have HB:=Lib.hid hb
     obtain⟨mk,hmk⟩:∃ z:Int,z=(alongN P.lights x.r.fibs:Int):=⟨_,rfl⟩
     rw[← hmk] at HALX HBK
     have z06:=fkeep hf6 z0
     have ck6:=fkeep hf6 ck1
     have HSS:W6.cell? ⟨w.heap.size,0,none⟩=some (.slice q m c)∧W6.cell? ⟨w.heap.size,1,none⟩=some (.slice p k0 e1)∧W6.cell? ⟨w.heap.size,2,none⟩=some (.slice r i0 e0)∧W6.cell? ⟨wr.heap.size,0,none⟩=some (.int .i64 x.r.start)∧W6.cell? ⟨wr.heap.size,1,none⟩=some (.slice x.r.q x.r.fibs.length x.r.cap)∧W6.cell? ⟨b1,o1+j,none⟩=some (.int .i64 (m2:Int))∧W6.cell? ⟨h1,m2,none⟩=some (.int .i64 x.k) :=
      ⟨(HR1.out.keep HF6.out).cell (i:=0) rfl,(HR1.out.keep HF6.out).cell (i:=1) rfl,(HR1.out.keep HF6.out).cell (i:=2) rfl,hr6.cell (i:=0) rfl,hr6.cell (i:=1) rfl,z06,ck6⟩
     have HW6:=Lib.hid hW6
     clear hx hxm hf6 hr6 hW6 hls hoo hci hf hI hb hmk hm
     go_wp2
     rw[← HW6.out]
     clear c0 c1 z0 ck1
     refine hd_start (n:=13) (S:=fun w'=>w'.cell? ⟨w.heap.size,0,none⟩=some (.slice q m c)∧w'.cell? ⟨w.heap.size,1,none⟩=some (.slice p k0 e1)∧w'.cell? ⟨w.heap.size,2,none⟩=some (.slice r i0 e0)∧w'.cell? ⟨wr.heap.size,0,none⟩=some (.int .i64 x.r.start)∧w'.cell? ⟨wr.heap.size,1,none⟩=some (.slice x.r.q x.r.fibs.length x.r.cap)∧w'.cell? ⟨b1,o1+j,none⟩=some (.int .i64 (m2:Int))∧w'.cell? ⟨h1,m2,none⟩=some (.int .i64 x.k)) (by kernel_rfl) (by kernel_rfl) (kq_37 HSS (fdrew (frefl _))) (fun hHeld=>?_)
     obtain⟨Wz,hWz⟩:∃ W,W=W6.drew:=⟨_,rfl⟩
     rw[← hWz] at hHeld ⊢
     have f0:Fresh W6 Wz:=by rw[hWz];exact fdrew (frefl _)
     clear hWz z06 ck6
     refine hd_tk (i:=0) (v:=?_) rfl ?_ ?_
     rotate_left
     ·(intro w hSw;(try dsimp only at hSw);go_simp;first|done|with_reducible rfl)
     refine hd_tk (i:=1) (v:=?_) rfl ?_ ?_
     rotate_left
     ·(intro w hSw;(try dsimp only at hSw);go_simp;first|done|with_reducible rfl)
     refine hd_tk (i:=3) (v:=?_) rfl ?_ ?_
     rotate_left
     ·(intro w hSw;(try dsimp only at hSw);go_simp;first|done|with_reducible rfl)
     refine hd_tk (i:=4) (v:=?_) rfl ?_ ?_
     rotate_left
     ·(intro w hSw;(try dsimp only at hSw);go_simp;first|done|with_reducible rfl)
     refine hd_tk (i:=5) (v:=?_) rfl ?_ ?_
     rotate_left
     ·(intro w hSw;(try dsimp only at hSw);go_simp;first|done|with_reducible rfl)
     refine hd_tk (i:=10) (v:=?_) rfl ?_ ?_
     rotate_left
     ·(intro w hSw;(try dsimp only at hSw);go_simp;first|done|with_reducible rfl)
     refine hd_tk (i:=6) (v:=?_) rfl ?_ ?_
     rotate_left
     ·(intro w hSw;(try dsimp only at hSw);go_simp;first|done|with_reducible rfl)
     refine hd_tk (i:=7) (v:=?_) rfl ?_ ?_
     rotate_left
     ·(intro w hSw;(try dsimp only at hSw);go_simp;first|done|with_reducible rfl)
     refine hd_tk (i:=8) (v:=?_) rfl ?_ ?_
     rotate_left
     ·(intro w hSw;(try dsimp only at hSw);go_simp;first|done|with_reducible rfl)
     refine hd_tk (i:=9) (v:=?_) rfl ?_ ?_
     rotate_left
     ·(intro w hSw;(try dsimp only at hSw);go_simp;first|done|with_reducible rfl)
     refine hd_ready (rs:=[2,12]) (by kernel_rfl) (by simp) ?_
     refine hd_cons (i:=2) rfl (by kernel_rfl) (fun K hK=>?_) ?_
     focus
      go_simp
      go_at_call 112
      refine(HALX.out _ f0).mono ?_
      rintro e wk1 ⟨rfl,hb⟩
      have f1:=fstep f0 hb
      clear hb
      go_wp2_with fail
      refine hK.out _ _ ?_ (fun hHeld=>?_)
      ·exact kq_37 HSS f1
      clear hK K
      refine hd_ready (rs:=[11,12]) (by kernel_rfl) (by simp) ?_
      refine hd_cons (i:=11) rfl (by kernel_rfl) (fun K hK=>?_) ?_
      focus
       go_simp
       go_at_call 111
       refine(HBK.out _).mono ?_
       rintro e wk2 ⟨rfl,hb⟩
       have f2:=fstep f1 hb
       clear hb
       go_wp2_with fail
       refine hK.out _ _ ?_ (fun hHeld=>?_)
       ·exact kq_37 HSS f2
       clear hK K
       refine hd_one (i:=12) rfl (by kernel_rfl) (by kernel_rfl) (fun K hK=>?_)
       go_simp
       obtain⟨wl,hwa⟩:∃ W,W=wk2.alloc (.cells #[.int .i64 0,.int .i64 0] 92):=⟨_,rfl⟩
       rw[← hwa]
       have hba:Fresh wk2 wl:=by rw[hwa];exact fnew (frefl _) _
       obtain⟨gb,hgb⟩:∃ g,g=wk2.heap.size:=⟨_,rfl⟩
       have ra:RowAt wl gb 92 [.int .i64 0,.int .i64 0]:=by rw[hwa,hgb];exact RowAt.new _ _ _
       have hga:W6.heap.size≤gb:=by rw[hgb];exact f2.size
       have f9:=fstep f2 hba
       rw[← hgb]
       clear hwa hgb hba
       refine hK.out _ _ ?_ (fun hHeld=>?_)
       ·exact kq_37 HSS f9
       clear hK K
       clear f1 f2
      rotate_left
      focus
       refine hd_cons (i:=12) rfl (by kernel_rfl) (fun K hK=>?_) hd_nil
       go_simp
       obtain⟨wk2,hwa⟩:∃ W,W=wk1.alloc (.cells #[.int .i64 0,.int .i64 0] 92):=⟨_,rfl⟩
       rw[← hwa]
       have hba:Fresh wk1 wk2:=by rw[hwa];exact fnew (frefl _) _
       obtain⟨gb,hgb⟩:∃ g,g=wk1.heap.size:=⟨_,rfl⟩
       have ra0:RowAt wk2 gb 92 [.int .i64 0,.int .i64 0]:=by rw[hwa,hgb];exact RowAt.new _ _ _
       have hga:W6.heap.size≤gb:=by rw[hgb];exact f1.size
       have f2:=fstep f1 hba
       rw[← hgb]
       clear hwa hgb hba
       refine hK.out _ _ ?_ (fun hHeld=>?_)
       ·exact kq_37 HSS f2
       clear hK K
       refine hd_one (i:=11) rfl (by kernel_rfl) (by kernel_rfl) (fun K hK=>?_)
       go_simp
       go_at_call 111
       refine(HBK.out _).mono ?_
       rintro e wl ⟨rfl,hb⟩
       have f9:=fstep f2 hb
       have ra:=ra0.keep hb
       clear hb
       go_wp2_with fail
       refine hK.out _ _ ?_ (fun hHeld=>?_)
       ·exact kq_37 HSS f9
       clear hK K
       clear f1 f2 ra0
     rotate_left 2
     focus
      refine hd_cons (i:=12) rfl (by kernel_rfl) (fun K hK=>?_) hd_nil
      go_simp
      obtain⟨wk1,hwa⟩:∃ W,W=Wz.alloc (.cells #[.int .i64 0,.int .i64 0] 92):=⟨_,rfl⟩
      rw[← hwa]
      have hba:Fresh Wz wk1:=by rw[hwa];exact fnew (frefl _) _
      obtain⟨gb,hgb⟩:∃ g,g=Wz.heap.size:=⟨_,rfl⟩
      have ra0:RowAt wk1 gb 92 [.int .i64 0,.int .i64 0]:=by rw[hwa,hgb];exact RowAt.new _ _ _
      have hga:W6.heap.size≤gb:=by rw[hgb];exact f0.size
      have f1:=fstep f0 hba
      rw[← hgb]
      clear hwa hgb hba
      refine hK.out _ _ ?_ (fun hHeld=>?_)
      ·exact kq_37 HSS f1
      clear hK K
      refine hd_one (i:=2) rfl (by kernel_rfl) (by kernel_rfl) (fun K hK=>?_)
      go_simp
      go_at_call 112
      refine(HALX.out _ f1).mono ?_
      rintro e wk2 ⟨rfl,hb⟩
      have f2:=fstep f1 hb
      have ra1:=ra0.keep hb
      clear hb
      go_wp2_with fail
      refine hK.out _ _ ?_ (fun hHeld=>?_)
      ·exact kq_37 HSS f2
      clear hK K
      refine hd_one (i:=11) rfl (by kernel_rfl) (by kernel_rfl) (fun K hK=>?_)
      go_simp
      go_at_call 111
      refine(HBK.out _).mono ?_
      rintro e wl ⟨rfl,hb⟩
      have f9:=fstep f2 hb
      have ra:=ra1.keep hb
      clear hb
      go_wp2_with fail
      refine hK.out _ _ ?_ (fun hHeld=>?_)
      ·exact kq_37 HSS f9
      clear hK K
      clear f1 f2 ra0 ra1
     all_goals (
      refine hd_done (by kernel_rfl) ?_
      clear hHeld
      simp only[List.drop_succ_cons,List.drop_zero]
      have z0:=ra.cell (i:=0) rfl
      have z1:=ra.cell (i:=1) rfl
      have u0:=ra.frozen 0
      have u1:=ra.frozen 1
      have fs:=(fset (fset f9 hga (o:=0) (.int .i64 bf)) hga (o:=1) (.int .i64 bn))
      obtain⟨W7,hW7⟩:∃ W,W=(wl.setCell ⟨gb,0,none⟩ (.int .i64 bf)).setCell ⟨gb,1,none⟩ (.int .i64 bn):=⟨_,rfl⟩
      have hr7:RowAt W7 gb 92 [.int .i64 bf,.int .i64 bn]:=by rw[hW7];exact(ra.set 0 (.int .i64 bf)).set 1 (.int .i64 bn)
      have HW7:=Lib.hid hW7
      rw[← hW7] at fs
      have HF7:=Lib.hid (fstep HF6.out fs)
      have HLS7:=Lib.hid (HLS.out.keep fs)
      have HOO7:=Lib.hid (HOO6.out.keep fs)
      have HCI7:=Lib.hid (HCI6.out.keep fs)
      have HIX7:=Lib.hid (HIX.out.keep fs)
      have hbx7:=HBX.out.keep fs
      have hw67:=fs.size
      have t0:=hr7.cell (i:=0) rfl
      have t1:=hr7.cell (i:=1) rfl
      have b0:=hbx7.cell (i:=0) rfl
      have b1':=hbx7.cell (i:=1) rfl
      clear ra hW7 f9 hga HSS HALX HBK HLS HOO6 HCI6 HIX HBX f0 fs
      go_upto_region 18 with fail
      try rw[← HW7.out]
      clear z0 z1 u0 u1
      cases bb
      ·have hnz:¬ (0:Int)<bn:=hflag.elim (fun h=>absurd h.1 (by simp)) (fun h=>by have:=h.2;omega)
       have HLN:Hid (Ls.map LL.val=consTo P.lights fit ((M.take (j+1)).map CH.val)):=by
        show _=_
        rw[HTK.out,List.map_append,List.map_singleton,consTo_snoc,consC_none P.lights fit x HB.out.symm,List.append_nil]
        exact HLV.out
       clear hflag hr7 hbx7
       go_wp2
       go_roundw
       case rel=>exact⟨j+1,Ls,hlt,by go_num,HLS7.out,HLN,by omega,HOO7.out,HCI7.out,HF7.out⟩
       case measure=>simp[intOf];omega
      ·have hnz:(0:Int)<bn:=hflag.elim (fun h=>by have:=h.2;omega) (fun h=>absurd h.1 (by simp))
       have HSB:W7.cell? ⟨wr.heap.size,0,none⟩=some (.int .i64 x.r.start)∧W7.cell? ⟨wr.heap.size,1,none⟩=some (.slice x.r.q x.r.fibs.length x.r.cap)∧W7.cell? ⟨gb,0,none⟩=some (.int .i64 bf)∧W7.cell? ⟨gb,1,none⟩=some (.int .i64 bn):=⟨b0,b1',t0,t1⟩
       have HBX7:=Lib.hid hbx7
       have HRB7:=Lib.hid hr7
       clear hflag hr7 hbx7
       go_upto_region 19 with fail
       refine hd_start (n:=7) (S:=fun w'=>w'.cell? ⟨wr.heap.size,0,none⟩=some (.int .i64 x.r.start)∧w'.cell? ⟨wr.heap.size,1,none⟩=some (.slice x.r.q x.r.fibs.length x.r.cap)∧w'.cell? ⟨gb,0,none⟩=some (.int .i64 bf)∧w'.cell? ⟨gb,1,none⟩=some (.int .i64 bn)) (by kernel_rfl) (by kernel_rfl) (kq_22 HSB (fdrew (frefl _))) (fun hHeld=>?_)
       obtain⟨Wy,hWy⟩:∃ W,W=W7.drew:=⟨_,rfl⟩
       rw[← hWy] at hHeld ⊢
       have f0:Fresh W7 Wy:=by rw[hWy];exact fdrew (frefl _)
       clear hWy b0 b1' t0 t1
       refine hd_tk (i:=0) (v:=?_) rfl ?_ ?_
       rotate_left
       ·(intro w hSw;(try dsimp only at hSw);go_simp;first|done|with_reducible rfl)
       refine hd_tk (i:=1) (v:=?_) rfl ?_ ?_
       rotate_left
       ·(intro w hSw;(try dsimp only at hSw);go_simp;first|done|with_reducible rfl)
       refine hd_tk (i:=3) (v:=?_) rfl ?_ ?_
       rotate_left
       ·(intro w hSw;(try dsimp only at hSw);go_simp;first|done|with_reducible rfl)
       refine hd_one (i:=2) rfl (by kernel_rfl) (by kernel_rfl) (fun K hK=>?_)
       go_simp
       go_at_call 113
       refine(l4Own_any x.r.start x.r.q x.r.cap x.r.fibs Wy (HIX7.out.keep f0) bx3).mono ?_
       rintro e w8 ⟨q8,c8,rfl,ho8,hb⟩
       have f1:=fstep f0 hb
       have hsy:=f0.size
       clear hb
       go_wp2_with fail
       refine hK.out _ _ ?_ (fun hHeld=>?_)
       ·exact kq_22 HSB f1
       clear hK K
       refine hd_tk (i:=4) (v:=?_) rfl ?_ ?_
       rotate_left
       ·(intro w hSw;(try dsimp only at hSw);go_simp;first|done|with_reducible rfl)
       refine hd_one (i:=5) rfl (by kernel_rfl) (by kernel_rfl) (fun K hK=>?_)
       go_simp
       obtain⟨w9,hwa⟩:∃ W,W=w8.alloc (.cells #[.int .i64 0,.int .i64 x.r.start,.slice q8 x.r.fibs.length c8,.int .i64 bf,.int .i64 bn] 94):=⟨_,rfl⟩
       rw[← hwa]
       have hba:Fresh w8 w9:=by rw[hwa];exact fnew (frefl _) _
       obtain⟨g9,hg9⟩:∃ g,g=w8.heap.size:=⟨_,rfl⟩
       have r9:RowAt w9 g9 94 [.int .i64 0,.int .i64 x.r.start,.slice q8 x.r.fibs.length c8,.int .i64 bf,.int .i64 bn]:=by rw[hwa,hg9];exact RowAt.new _ _ _
       have f2:=fstep f1 hba
       have ho9:=ho8.keep hba
       rw[← hg9]
       clear hwa hg9 hba
       refine hK.out _ _ ?_ (fun hHeld=>?_)
       ·exact kq_22 HSB f2
       clear hK K
       refine hd_one (i:=6) rfl (by kernel_rfl) (by kernel_rfl) (fun K hK=>?_)
       refine step_app_mm (some 125) rfl Tryz.underlying36 infoLt rfl (by decide) (by decide) W2 _ Ls.length (Ls.flatMap llC) (some ⟨g9,0,none⟩) 1 1 [.int .i64 0,.int .i64 x.r.start,.slice q8 x.r.fibs.length c8,.int .i64 bf,.int .i64 bn] rfl _ _ rfl rfl (HLS7.out.keep f2).row rfl r9.cells rfl (one_lt ⟨0,⟨x.r.start,q8,c8,x.r.fibs⟩,bf,bn⟩) (by omega) (by decide) (fstep HF7.out f2) ?_
       intro q10 c10 x10 own10 f10 hk10
       refine hK.out _ _ ?_ (fun hHeld=>?_)
       ·exact⟨(hk10 _ _ _ (HBX7.out.keep f2) (Or.inl (by decide))).cell (i:=0) rfl,(hk10 _ _ _ (HBX7.out.keep f2) (Or.inl (by decide))).cell (i:=1) rfl,(hk10 _ _ _ (HRB7.out.keep f2) (Or.inl (by decide))).cell (i:=0) rfl,(hk10 _ _ _ (HRB7.out.keep f2) (Or.inl (by decide))).cell (i:=1) rfl⟩
       clear hK K
       refine hd_done (by kernel_rfl) ?_
       clear hHeld
       simp only[List.drop_succ_cons,List.drop_zero]
       have hkt:∀ g t cs,RowAt W7 g t cs→t≠94→RowAt x10 g t cs:=fun g t cs hr hn=>hk10 g t cs (hr.keep f2) (Or.inl hn)
       have ho10:=ho9.grown (fun g t cs hr hn=>hk10 g t cs hr (Or.inl hn)) (show 3≠94 by decide)
       have HLS10:=Lib.hid (HLS7.out.snoc (y:=⟨0,⟨x.r.start,q8,c8,x.r.fibs⟩,bf,bn⟩) own10 hkt ho10 hsy (Nat.le_trans HF7.out.size hsy))
       have HOO10:=Lib.hid (HOO7.out.grown hkt (show 3≠94 by decide))
       have HCI10:=Lib.hid (HCI7.out.typ hkt)
       have HF10:=Lib.hid f10
       have HLN:Hid ((Ls++[(⟨0,⟨x.r.start,q8,c8,x.r.fibs⟩,bf,bn⟩:LL)]).map LL.val=consTo P.lights fit ((M.take (j+1)).map CH.val)):=by
        show _=_
        rw[HTK.out,List.map_append,List.map_append,List.map_singleton,List.map_singleton,consTo_snoc,consC_one P.lights fit x (y:=⟨0,⟨x.r.start,q8,c8,x.r.fibs⟩,bf,bn⟩) HB.out.symm rfl,HLV.out]
       clear own10 f10 hk10 hkt ho10 ho9 ho8 r9 f0 f1 f2 HSB HLS7 HOO7 HCI7
       go_wp2
       go_roundw
       case rel=>exact⟨j+1,_,hlt,by go_num,HLS10.out,HLN,by rw[List.length_append];simp;omega,HOO10.out,HCI10.out,HF10.out⟩
       case measure=>simp[intOf];omega)
    ·have hltz:¬ (j:Int)<(l.length:Int):=by omega
     have hje:M.take j=M:=List.take_of_length_le (by rw[HML.out];omega)
     have HE:Hid (Ls.map LL.val=consL P fm d fit):=by
      show _=_
      rw[HLV.out,hje,HMV.out];rfl
     have HLS:=Lib.hid hls
     have HF9:=Lib.hid hf
     clear hls hoo hci hf hje
     go_wp2
     go_ret2
     exact⟨_,Ls,by rw[HOK.out];first|done|rfl,HLS.out.mono hsz,HE.out,fstep HF2.out HF9.out⟩
end Go.Proofs.YteckjlkhopkogaaGreat
