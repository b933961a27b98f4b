/- Texts of mine laid together (Co5, Co6, Co7, Co8, KD1). -/
import Derived.Test.YteckjlkhopkogaaGreatM8
import Derived.Test.YteckjlkhopkogaaGreatM19
namespace Go.Proofs.YteckjlkhopkogaaGreat
open Go.RowKit Go.PlainAid
def minI (K:Nat→Int):Nat→Nat
 | 0=>0
 | m+1=>if K (m+1)<K (minI K m) then m+1 else minI K m
theorem minI_le (K:Nat→Int):∀ m,minI K m≤m
 | 0=>Nat.le_refl _
 | m+1=>by
  have:=minI_le K m
  unfold minI
  split <;> omega
theorem minI_is (K:Nat→Int):∀ m j,j≤m→j≠minI K m→ll (fun i j=>decide (K i<K j)) (minI K m) j
 | 0,j,h,h2=>by exact(h2 (by unfold minI;omega)).elim
 | m+1,j,h,h2=>by
  have ih:=minI_is K m
  unfold minI at h2 ⊢
  by_cases hc:K (m+1)<K (minI K m)
  ·rw[if_pos hc] at h2 ⊢
   left
   have hj:j≤m:=by omega
   rw[decide_eq_true_iff]
   by_cases e:j=minI K m
   ·rw[e];exact hc
   ·rcases ih j hj e with q|⟨q,_⟩
    ·have:=of_decide_eq_true q;omega
    ·have:=of_decide_eq_false q;omega
  ·rw[if_neg hc] at h2 ⊢
   have hle:=minI_le K m
   rcases Nat.lt_or_ge m j with hj|hj
   ·have e:j=m+1:=by omega
    rw[e]
    by_cases e2:K (minI K m)<K (m+1)
    ·left;exact decide_eq_true e2
    ·right;exact⟨decide_eq_false hc,by omega⟩
   ·exact ih j hj h2
theorem swo_K (K:Nat→Int):Swo (fun i j=>decide (K i<K j)):=by
 refine⟨fun i j h=>?_,fun i j k h1 h2=>?_⟩
 ·have:=of_decide_eq_true h
  exact decide_eq_false (by omega)
 ·have e1:=of_decide_eq_false h1
  have e2:=of_decide_eq_false h2
  exact decide_eq_false (by omega)
theorem ordS_min (K:Nat→Int) {n:Nat} (h:0<n):ordS (fun i j=>decide (K i<K j)) n 0=minI K (n - 1):=by
 obtain⟨h1,h2,h3⟩:=(ordS_pi (fun i j=>decide (K i<K j)) n).range
 have hs:=ordS_sg (swo_K K) n
 by_cases e:ordS (fun i j=>decide (K i<K j)) n 0=minI K (n - 1)
 ·exact e
 ·exfalso
  have hle:=minI_le K (n - 1)
  have a1:=minI_is K (n - 1) _ (by have:=h1 0 h;omega) e
  obtain⟨k,hk,hk2⟩:=h3 (minI K (n - 1)) (by omega)
  have hk0:k≠0:=fun e2=>by subst e2;exact e hk2
  have a2:=hs 0 k (Nat.le_refl _) (by omega) hk
  rw[hk2] at a2
  exact ll_asym (swo_K K) a1 a2
def kAt (l:List CH) (i:Nat):Int:=kCH (l.getD i dCH)
theorem ordH_head {l:List CH} (h:0<l.length):(ordH l)[0]?=l[minI (kAt l) (l.length - 1)]?:=by
 unfold ordH
 rw[ordL_get kCH dCH l h]
 have e:(fun i j=>decide (kCH (l.getD i dCH)<kCH (l.getD j dCH)))=fun i j=>decide (kAt l i<kAt l j):=rfl
 rw[e,ordS_min (kAt l) h]
theorem uss_v5 {w:World} {base:Nat} {p pk:Option Addr} {c ck:Nat} {l:List CH} (h:Uss w base (.slice p l.length c) pk ck l) {j:Nat} (hj:j<l.length) :
  ∃ g g2 x,p=some ⟨g,0,none⟩∧pk=some ⟨g2,0,none⟩∧l[j]?=some x∧x∈l∧w.cell? ⟨g,j * 2,none⟩=some (iv x.r.start)∧w.cell? ⟨g,j * 2+1,none⟩=some (.slice x.r.q x.r.fibs.length x.r.cap)∧w.cell? ⟨g2,j,none⟩=some (iv x.k):=by
 have hr:=h.rts
 have hlm:(l.map CH.r).length=l.length:=by simp
 rw[← hlm] at hr
 obtain⟨g,r,rfl,hx,_,c0,c1⟩:=rts_at hr (show j<(l.map CH.r).length by omega)
 rw[List.getElem?_map] at hx
 obtain⟨x,hx2,rfl⟩:=Option.map_eq_some_iff.1 hx
 obtain⟨g2,sp,rfl,_,hrow,_,_,_⟩:=owns_rowC h.ks (by omega)
 refine⟨g,g2,x,rfl,rfl,hx2,List.mem_of_getElem? hx2,c0,c1,hrow.cell ?_⟩
 rw[List.getElem?_append_left (by simpa using hj),List.getElem?_map,hx2]
 rfl
theorem kAt_is {l:List CH} {j:Nat} {x:CH} (h:l[j]?=some x):kAt l j=kCH x:=by
 unfold kAt
 rw[List.getD_eq_getElem?_getD,h];rfl
theorem kCH_wrap {x:CH} (h:0≤x.k∧x.k≤24∧x.r.fibs.length≤1048576):IntKind.i64.wrap (x.k * (x.r.fibs.length:Int))=kCH x:=by
 have hc:0≤x.k * (x.r.fibs.length:Int)∧x.k * (x.r.fibs.length:Int)≤25165824:=cost_fit (x:=toCV x) h
 show _=x.k * (x.r.fibs.length:Int)
 rw[IntKind.wrap_i64] <;> omega
def bestC (l:List CH) (j:Nat):Int:=if j=0 then -1 else (minI (kAt l) (j - 1):Int)
theorem bestC_zero (l:List CH):bestC l 0=-1:=rfl
theorem bestC_succ (l:List CH) (m:Nat):bestC l (m+1)=(minI (kAt l) m:Int):=by unfold bestC;rw[if_neg (by omega)];rfl
theorem minI_yes {K:Nat→Int} {m:Nat} (h:K (m+1)<K (minI K m)):minI K (m+1)=m+1:=by rw[minI,if_pos h]
theorem minI_no {K:Nat→Int} {m:Nat} (h:¬ K (m+1)<K (minI K m)):minI K (m+1)=minI K m:=by rw[minI,if_neg h]
set_option maxHeartbeats 4000000 in
set_option maxRecDepth 20000 in
theorem l10Cheapest_any (base:Nat) (p pk:Option Addr) (c ck:Nat) (l:List CH) (w:World) (h:Uss w base (.slice p l.length c) pk ck l) (hl:l.length≤1048576) (hk:∀ x∈l,0≤x.k∧x.k≤24∧x.r.fibs.length≤1048576) :
  Calls Tryz.prog 204 #[.slice p l.length c,.slice pk l.length ck] w fun e w'=>e=.returned (.int .i64 (bestC l l.length))∧Fresh w w':=by
 have HH:=Lib.hid h
 have HK:=Lib.hid hk
 clear h hk
 go_enter Tryz.func204,Tryz.ntmps204
 go_wp2
 go_loopw [5,6] (fun vb vi wr=>∃ j:Nat,j≤l.length∧vb=.int .i64 (bestC l j)∧vi=.int .i64 j∧Fresh w wr) (fun _ i _=>l.length - (intOf i).toNat)
 case atStart=>exact⟨0,Nat.zero_le _,rfl,rfl,frefl _⟩
 case round =>
  obtain⟨j,hj,rfl,rfl,hf⟩:=hrel
  by_cases hlt:j<l.length
  ·have hltz:(j:Int)<(l.length:Int):=by omega
   have q1:IntKind.i64.wrap ((j:Int)+1)=(j:Int)+1:=by rw[IntKind.wrap_i64] <;> omega
   have HU:=Lib.hid (HH.out.keep hf)
   have HF:=Lib.hid hf
   clear hf
   by_cases hz:j=0
   ·subst hz
    rw[bestC_zero]
    clear hltz
    go_wp2
    refine wp_region_after (by kernel_rfl) (by kernel_rfl) ?_
    repeat (go_big_quiet_step (fail))
    refine wpQuiet_nil ?_
    rintro _ ⟨xa,rfl⟩
    have HXA:=Lib.hid (fstep HF.out xa.h)
    go_wp2
    go_roundw
    case rel=>exact⟨1,hlt,by rw[bestC_succ];rfl,by rfl,HXA.out⟩
    case measure=>simp[intOf];omega
   ·obtain⟨m,hm⟩:∃ m,j=m+1:=⟨j - 1,by omega⟩
    obtain⟨b,hb⟩:∃ b,b=minI (kAt l) m:=⟨_,rfl⟩
    have hbm:b≤m:=by rw[hb];exact minI_le _ _
    have ebc:bestC l j=(b:Int):=by rw[hm,bestC_succ,hb]
    rw[ebc]
    have hb0:decide ((b:Int)<0)=false:=decide_eq_false (by omega)
    have hbl:b<l.length:=by omega
    have hblz:(b:Int)<(l.length:Int):=by omega
    obtain⟨g,g2,x,rfl,rfl,hx,hxm,x0,x1,x2⟩:=uss_v5 HU.out hlt
    obtain⟨g',g2',y,e1,e2,hy,hym,y0,y1,y2⟩:=uss_v5 HU.out hbl
    cases e1
    cases e2
    have wx:=kCH_wrap (HK.out x hxm)
    have wy:=kCH_wrap (HK.out y hym)
    have KX:Hid (kAt l (m+1)=kCH x):=by show _=_;rw[← hm];exact kAt_is hx
    have KY:Hid (kAt l (minI (kAt l) m)=kCH y):=by show _=_;rw[← hb];exact kAt_is hy
    have HM:=Lib.hid hm
    have HB:=Lib.hid hb
    obtain⟨kx,hkx⟩:∃ z,z=kCH x:=⟨_,rfl⟩
    obtain⟨ky,hky⟩:∃ z,z=kCH y:=⟨_,rfl⟩
    rw[← hkx] at wx KX
    rw[← hky] at wy KY
    have x0w:=fun xa:After wr=>akeep x0 xa
    have x1w:=fun xa:After wr=>akeep x1 xa
    have x2w:=fun xa:After wr=>akeep x2 xa
    have y0w:=fun xa:After wr=>akeep y0 xa
    have y1w:=fun xa:After wr=>akeep y1 xa
    have y2w:=fun xa:After wr=>akeep y2 xa
    clear hm hb hx hxm hy hym hkx hky ebc hz
    go_wp2
    refine wp_region_after (by kernel_rfl) (by kernel_rfl) ?_
    repeat (go_big_quiet_step (fail))
    refine wpQuiet_nil ?_
    rintro _ ⟨xa,rfl⟩
    have HXA:=Lib.hid (fstep HF.out xa.h)
    clear x0w x1w x2w y0w y1w y2w x0 x1 x2 y0 y1 y2
    by_cases hc:kx<ky
    ·go_wp2
     go_roundw
     case rel =>
      refine⟨j+1,hlt,?_,by go_num,HXA.out⟩
      have hm9:=HM.out
      have e9:minI (kAt l) (m+1)=m+1:=minI_yes (by rw[KX.out,KY.out];exact hc)
      rw[bestC_succ,hm9,e9]
     case measure=>simp[intOf];omega
    ·go_wp2
     go_roundw
     case rel =>
      refine⟨j+1,hlt,?_,by go_num,HXA.out⟩
      have hm9:=HM.out
      have e9:minI (kAt l) (m+1)=minI (kAt l) m:=minI_no (by rw[KX.out,KY.out];exact hc)
      rw[bestC_succ,hm9,e9,HB.out]
     case measure=>simp[intOf];omega
  ·have hltz:¬ (j:Int)<(l.length:Int):=by omega
   have hje:j=l.length:=by omega
   have HJ:=Lib.hid hje
   have HF:=Lib.hid hf
   clear hf hje
   go_wp2
   refine bodyPost_ret (v:=.int .i64 (bestC l j)) (by simp[results,Tryz.results204,go_sem]) rfl ?_
   exact⟨by rw[HJ.out],HF.out⟩
set_option maxHeartbeats 4000000 in
set_option maxRecDepth 20000 in
theorem specCheapestRoute_any (v:Value) (n:Net) (pf:Option Addr) (cf:Nat) (fm:List (Int × Int)) (d:Fib) (w:World) (h:NetIn w v n) (hfm:Prs w pf fm) (hfl:fm.length≤1048576) :
  Calls Tryz.prog 178 #[v,.slice pf fm.length cf,fibV d] w (OutCr n fm d w):=by
 have HN:=Lib.hid h
 have HP:=Lib.hid hfm
 obtain⟨qn,cn,pn,cp,rfl,_,_,n1,_,_,_,_⟩:=h
 obtain⟨W3,hW3,hsz3,hf3,r1,r2,r3⟩:=three_rows w [.slice qn n.nodes.length cn,.slice pn n.fibers.length cp] [.int .i64 d.a,.int .i64 d.b,.int .i64 d.len,.int .i64 d.risk] [.int .i64 0,.slice none 0 0] 35 59 90
 have HF3:=Lib.hid hf3
 have HW3:=Lib.hid hW3
 have HC:=Lib.hid (specUsableRoutes_any (.agg #[.slice qn n.nodes.length cn,.slice pn n.fibers.length cp]) n pf cf fm d W3 (HN.out.keep hf3) (HP.out.keep hf3) hfl)
 have HR3:=Lib.hid r3
 have hsz:=hf3.size
 clear hfm hf3 r1 r2 r3 hW3
 go_enter Tryz.func178,Tryz.ntmps178
 go_wp2_with fail
 rw[← HW3.out]
 refine(HC.out).mono ?_
 rintro e w4 ⟨V,pk,ck,l,rfl,hu,hv,hf⟩
 have hll:=ch_len hv
 have hfit:∀ x∈l,0≤x.k∧x.k≤24∧x.r.fibs.length≤1048576:=by
  cases hok:usOk n fm d
  ·rw[fibs_none hok] at hv
   have:l=[]:=List.map_eq_nil_iff.1 hv
   rw[this];intro x hx;cases hx
  ·exact chs_fit hv hok
 obtain⟨p,c,rfl,_,_,_⟩:=owns_cap hu.rts.row
 have hlm:(l.map CH.r).length=l.length:=by simp
 rw[hlm] at hu ⊢
 have HL:=Lib.hid (l10Cheapest_any _ p pk c ck l w4 hu (by omega) hfit)
 have HU:=Lib.hid hu
 have HV:=Lib.hid hv
 have HF4:=Lib.hid (fstep HF3.out hf)
 have HFW:=Lib.hid hf
 clear hu hv hf HC hfit
 go_wp2_with fail
 refine(HL.out).mono ?_
 rintro e W5 ⟨rfl,hf5⟩
 have HF5:=Lib.hid (fstep HF4.out hf5)
 have hB5:=HR3.out.keep (fstep HFW.out hf5)
 have HU5:=Lib.hid (HU.out.keep hf5)
 have y0:=hB5.cell (i:=0) rfl
 have y1:=hB5.cell (i:=1) rfl
 have u0:=hB5.frozen 0
 have u1:=hB5.frozen 1
 by_cases hz:l.length=0
 ·have hl0:l=[]:=List.eq_nil_of_length_eq_zero hz
  have HNO:Hid ((usF n fm d).1=[]):=by show _=_;rw[← HV.out,hl0];rfl
  have hB':=(hB5.set 0 (.int .i64 0)).set 1 (.slice none 0 0)
  have k0:=hB'.cell (i:=0) rfl
  have k1:=hB'.cell (i:=1) rfl
  have HFE:Hid (Fresh w ((W5.setCell ⟨w.heap.size+1+1,0,none⟩ (.int .i64 0)).setCell ⟨w.heap.size+1+1,1,none⟩ (.slice none 0 0))):=fset (fset HF5.out (by omega) _) (by omega) _
  rw[show bestC l l.length=-1 by rw[hz];rfl]
  clear hB5 hB' hl0 HL hf5
  cases hok:usOk n fm d
  ·clear hok
   go_wp2
   refine bodyPost_ret (v:=.tuple #[.agg #[.int .i64 0,.slice none 0 0],.int .i64 0,.bool false]) (by simp[results,Tryz.results178,go_sem,k0,k1]) rfl ?_
   exact⟨_,by rw[chF_no HNO.out],⟨none,0,by rw[chF_no HNO.out];rfl,Or.inl ⟨rfl,by rw[chF_no HNO.out];rfl⟩⟩,HFE.out⟩
  ·clear hok
   go_wp2
   refine bodyPost_ret (v:=.tuple #[.agg #[.int .i64 0,.slice none 0 0],.int .i64 0,.bool false]) (by simp[results,Tryz.results178,go_sem,k0,k1]) rfl ?_
   exact⟨_,by rw[chF_no HNO.out],⟨none,0,by rw[chF_no HNO.out];rfl,Or.inl ⟨rfl,by rw[chF_no HNO.out];rfl⟩⟩,HFE.out⟩
 ·have hok:usOk n fm d=true:=by
   cases hok:usOk n fm d
   ·exfalso
    have hv:=HV.out
    rw[fibs_none hok] at hv
    have:l=[]:=List.map_eq_nil_iff.1 hv
    rw[this] at hz;exact hz rfl
   ·rfl
  obtain⟨b,hb⟩:∃ b,b=minI (kAt l) (l.length - 1):=⟨_,rfl⟩
  have hbl:b<l.length:=by have:=minI_le (kAt l) (l.length - 1);omega
  have ebc:bestC l l.length=(b:Int):=by unfold bestC;rw[if_neg hz,hb]
  have hblz:(b:Int)<(l.length:Int):=by omega
  have hb0:decide ((b:Int)<0)=false:=decide_eq_false (by omega)
  have hb1:¬ (b:Int)<0:=by omega
  obtain⟨g,g2,x,rfl,rfl,hx,hm,x0,x1,x2⟩:=uss_v5 HU5.out hbl
  have HX:Hid (chF n fm d=(x.r.val,x.k,true)):=chF_yes HV.out (by rw[ordH_head (by omega),← hb];exact hx)
  have hn2:w.heap.size+1+1≠g2:=by
   obtain⟨g',sp,e1,hg,_⟩:=owns_rowC HU5.out.ks (by omega)
   cases e1
   omega
  have hn1:w.heap.size+1+1≠g:=by
   have hr:=HU5.out.rts.row
   rw[hlm] at hr
   obtain⟨g',sp,e1,hg,_⟩:=owns_rowC hr (by omega)
   cases e1
   omega
  have hn3:=hn2.symm
  have hn4:=hn1.symm
  rw[ebc,hok]
  clear hok ebc hx hb
  go_upto_region 5 with fail
  have hB':=((hB5.set 0 (.int .i64 x.r.start)).set 1 (.slice x.r.q x.r.fibs.length x.r.cap)).keep (fdrew (frefl _))
  have k0:=hB'.cell (i:=0) rfl
  have k1:=hB'.cell (i:=1) rfl
  have HO:Hid (Own ((W5.setCell ⟨w.heap.size+1+1,0,none⟩ (.int .i64 x.r.start)).setCell ⟨w.heap.size+1+1,1,none⟩ (.slice x.r.q x.r.fibs.length x.r.cap)).drew w.heap.size 3 x.r.q (x.r.fibs.map iv)):=by
   show Own _ _ _ _ _
   have ho:=(HU5.out.rts.fib x.r (List.mem_map_of_mem (f:=CH.r) hm)).mono hsz
   exact((ho.setO hB5 (by decide) _ _).setO (hB5.set 0 _) (by decide) _ _).keep (fdrew (frefl _))
  have HFE:Hid (Fresh w ((W5.setCell ⟨w.heap.size+1+1,0,none⟩ (.int .i64 x.r.start)).setCell ⟨w.heap.size+1+1,1,none⟩ (.slice x.r.q x.r.fibs.length x.r.cap)).drew):=fdrew (fset (fset HF5.out (by omega) _) (by omega) _)
  clear hB' hB5 hm HL hf5
  go_big_region
  go_wp2
  refine bodyPost_ret (v:=.tuple #[.agg #[.int .i64 x.r.start,.slice x.r.q x.r.fibs.length x.r.cap],.int .i64 x.k,.bool true]) (by simp[results,Tryz.results178,go_sem,k0,k1]) rfl ?_
  exact⟨_,by rw[HX.out],⟨x.r.q,x.r.cap,by rw[HX.out],by rw[HX.out];exact HO.out⟩,HFE.out⟩
theorem chF_small (n:Net) (fm:List (Int × Int)) (d:Fib):SmRt (chF n fm d).1:=by
 unfold chF
 cases e:ordV (usF n fm d).1 with
 | nil=>simp[SmRt]
 | cons c t =>
  show c.1.2.length≤1048576
  have hm:c∈(usF n fm d).1:=ordL_mem (K:=kCV) (d:=((0,[]),0)) (by show c∈ordV _;rw[e];exact List.mem_cons_self)
  cases hok:usOk n fm d
  ·rw[fibs_none hok] at hm;cases hm
  ·rw[usF_yes hok] at hm
   have hu:usB n fm d=true:=by unfold usOk at hok;simp only[Bool.and_eq_true] at hok;exact hok.1
   obtain⟨h1,h2,_,h3,_,h4,_,_⟩:=usB_at hu
   have hm2:c∈usL n fm d.len (allR n d.a d.b):=hm
   obtain⟨m1,_,_⟩:=usL_mem h2 h3 hm2
   obtain⟨_,g2⟩:=good_mem m1
   obtain⟨_,_,a3,a4,_⟩:=nodes_at h1 h4 g2
   omega
end Go.Proofs.YteckjlkhopkogaaGreat
