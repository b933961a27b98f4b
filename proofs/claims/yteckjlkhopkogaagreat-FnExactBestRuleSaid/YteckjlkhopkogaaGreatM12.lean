/- Texts of mine laid together (Sq3, Sq4). -/
import Derived.Test.YteckjlkhopkogaaGreatM11
import Derived.Test.YteckjlkhopkogaaGreatY10
import Derived.Test.YteckjlkhopkogaaGreatY9
import Derived.Test.YteckjlkhopkogaaGreatY7
import Derived.Test.YteckjlkhopkogaaGreatSp
namespace Go.Proofs.YteckjlkhopkogaaGreat
open Go.RowKit Go.PlainAid
theorem Lso.at {w:World} {base:Nat} {p:Option Addr} {c:Nat} {l:List LL} (h:Lso w base (.slice p l.length c) l) {j:Nat} (hj:j<l.length):∃ g x,p=some ⟨g,0,none⟩∧l[j]?=some x∧x∈l ∧
  w.cell? ⟨g,j * 5,none⟩=some (iv x.id)∧w.cell? ⟨g,j * 5+1,none⟩=some (iv x.r.start)∧w.cell? ⟨g,j * 5+2,none⟩=some (.slice x.r.q x.r.fibs.length x.r.cap)∧w.cell? ⟨g,j * 5+3,none⟩=some (iv x.f)∧w.cell? ⟨g,j * 5+4,none⟩=some (iv x.c):=by
 obtain⟨x,hx⟩:∃ x,l[j]?=some x:=⟨_,List.getElem?_eq_getElem hj⟩
 obtain⟨g,sp,rfl,_,hr,_⟩:=owns_rowL h.row (by omega)
 have hl:=flat_len llC 5 (fun _=>rfl) l
 exact⟨g,x,rfl,hx,List.mem_of_getElem? hx,hr.cell (by rw[List.getElem?_append_left (by omega)];exact ll_get hx 0 (by omega)),hr.cell (by rw[List.getElem?_append_left (by omega)];exact ll_get hx 1 (by omega)),hr.cell (by rw[List.getElem?_append_left (by omega)];exact ll_get hx 2 (by omega)),hr.cell (by rw[List.getElem?_append_left (by omega)];exact ll_get hx 3 (by omega)),hr.cell (by rw[List.getElem?_append_left (by omega)];exact ll_get hx 4 (by omega))⟩
theorem kq_35 {w1 w2:World} {a b:Nat} {u0 u1 u2 v0 v1 v2 v3 v4:Value} (h:w1.cell? ⟨a,0,none⟩=some u0∧w1.cell? ⟨a,1,none⟩=some u1∧w1.cell? ⟨a,2,none⟩=some u2∧w1.cell? ⟨b,0,none⟩=some v0∧w1.cell? ⟨b,1,none⟩=some v1∧w1.cell? ⟨b,2,none⟩=some v2∧w1.cell? ⟨b,3,none⟩=some v3∧w1.cell? ⟨b,4,none⟩=some v4) (hb:Fresh w1 w2) :
  w2.cell? ⟨a,0,none⟩=some u0∧w2.cell? ⟨a,1,none⟩=some u1∧w2.cell? ⟨a,2,none⟩=some u2∧w2.cell? ⟨b,0,none⟩=some v0∧w2.cell? ⟨b,1,none⟩=some v1∧w2.cell? ⟨b,2,none⟩=some v2∧w2.cell? ⟨b,3,none⟩=some v3∧w2.cell? ⟨b,4,none⟩=some v4 :=
 ⟨fkeep hb h.1,fkeep hb h.2.1,fkeep hb h.2.2.1,fkeep hb h.2.2.2.1,fkeep hb h.2.2.2.2.1,fkeep hb h.2.2.2.2.2.1,fkeep hb h.2.2.2.2.2.2.1,fkeep hb h.2.2.2.2.2.2.2⟩
def OutSv (P:PlanV) (fm:List (Int × Int)) (d:Fib) (fit:Int) (w:World) (e:Ending) (w':World):Prop:=∃ v',e=.returned (.tuple #[v',.int .i64 (serveF P fm d fit).2.1,.bool (serveF P fm d fit).2.2])∧PlOwn w' w.heap.size v' (serveF P fm d fit).1∧Fresh w w'
set_option maxHeartbeats 8000000 in
set_option maxRecDepth 100000 in
theorem implServe_any (v:Value) (P:PlanV) (pf:Option Addr) (cf:Nat) (fm:List (Int × Int)) (d:Fib) (fit:Int) (w:World) (h:PlIn w v P) (hfm:Prs w pf fm) (hfl:fm.length≤1048576) (hp:planB P=true) :
  Calls Tryz.prog 75 #[v,.slice pf fm.length cf,fibV d,.int .i64 fit] w (OutSv P fm d fit w):=by
 have HPL:=Lib.hid h
 have HPF:=Lib.hid hfm
 have h12:=(planB_at hp).2.1
 obtain⟨q,c,p,e1,r,e0,lp,rfl,_,_,_,hv0,_,_⟩:=h.parts
 have hlp:lp.length=P.lights.length:=by rw[hv0];simp
 obtain⟨m,hm⟩:∃ m,m=P.net.nodes.length:=⟨_,rfl⟩
 obtain⟨k0,hk0⟩:∃ m,m=P.net.fibers.length:=⟨_,rfl⟩
 obtain⟨i0,hi0⟩:∃ m,m=lp.length:=⟨_,rfl⟩
 rw[← hm,← hk0,← hi0] at HPL ⊢
 have hil:i0=P.lights.length:=by omega
 have HIL:=Lib.hid hil
 have hi12:i0≤12:=by omega
 obtain⟨W3,hW3,hsz3,hf3,r1,r2,r3⟩:=three_rows w [.slice q m c,.slice p k0 e1,.slice r i0 e0] [.int .i64 d.a,.int .i64 d.b,.int .i64 d.len,.int .i64 d.risk] [.slice none 0 0,.slice none 0 0,.slice none 0 0] 38 59 38
 have HC:=Lib.hid (considered_any (.agg #[.slice q m c,.slice p k0 e1,.slice r i0 e0]) P pf cf fm d fit W3 (HPL.out.keep hf3) (HPF.out.keep hf3) hfl hp)
 have HID:Hid (∀ W,Fresh W3 W→Calls Tryz.prog 126 #[.agg #[.slice q m c,.slice p k0 e1,.slice r i0 e0]] W fun e w'=>e=.returned (.int .i64 (idF P.lights))∧Fresh W w'):=fun W hW=>freeId_any _ P W (HPL.out.keep (fstep hf3 hW)) hp
 have HCP:Hid (∀ W,Fresh W3 W→Calls Tryz.prog 53 #[.agg #[.slice q m c,.slice p k0 e1,.slice r i0 e0]] W fun e w'=>∃ v',e=.returned v'∧PlOwn w' W.heap.size v' P∧Fresh W w'):=fun W hW=>copyPlan_any _ P W (HPL.out.keep (fstep hf3 hW))
 have HWL:Hid (∀ W u X,Fresh W3 W→LgIn W u X→Calls Tryz.prog 127 #[.agg #[.slice q m c,.slice p k0 e1,.slice r i0 e0],u] W fun e w'=>∃ v',e=.returned v'∧PlOwn w' W.heap.size v' ⟨P.net,insF P.lights X⟩∧Fresh W w'):=fun W u X hW hX=>withLight_any _ u P X W (HPL.out.keep (fstep hf3 hW)) hX (by omega)
 have HLN:Hid (∀ x∈consL P fm d fit,x.2.1.2.length≤1048576):=fun x hx=>(cons_mem hp hx).2.2.2.1
 have hidb:=idF_bd hp
 have HF3:=Lib.hid hf3
 have HR1:=Lib.hid r1
 have HR3:=Lib.hid r3
 have HW3:=Lib.hid hW3
 have hsz:=hf3.size
 clear h hfm hp hf3 r1 r2 r3 hW3 hm hk0 hi0 hlp hv0 hil h12
 go_enter Tryz.func75,Tryz.ntmps75
 go_wp2_with fail
 rw[← HW3.out]
 refine(HC.out).mono ?_
 rintro e w4 ⟨V,l,rfl,hl,hv,hf⟩
 have HF4:=Lib.hid hf
 have HLS:=Lib.hid hl
 have HV:=Lib.hid hv
 have hz4:=hf.size
 clear hl hv hf HC
 cases hok:usOk P.net fm d
 ·have HE:=Lib.hid (serveF_no (fit:=fit) hok)
  have hz:=HR3.out.keep HF4.out
  have x0:=hz.cell (i:=0) rfl
  have x1:=hz.cell (i:=1) rfl
  have x2:=hz.cell (i:=2) rfl
  have u0:=hz.frozen 0
  have u1:=hz.frozen 1
  have u2:=hz.frozen 2
  have hfin:=((hz.set 0 (.slice none 0 0)).set 1 (.slice none 0 0)).set 2 (.slice none 0 0)
  have k0:=hfin.cell (i:=0) rfl
  have k1:=hfin.cell (i:=1) rfl
  have k2:=hfin.cell (i:=2) rfl
  clear hz hfin hok
  go_wp2
  refine bodyPost_ret (v:=.tuple #[.agg #[.slice none 0 0,.slice none 0 0,.slice none 0 0],.int .i64 0,.bool false]) (by simp[results,Tryz.results75,go_sem,k0,k1,k2]) rfl ?_
  unfold OutSv
  rw[HE.out]
  exact⟨_,rfl,zeroP_own _ _,fset (fset (fset (fstep HF3.out HF4.out) (by omega) _) (by omega) _) (by omega) _⟩
 have HOK:=Lib.hid hok
 clear hok
 obtain⟨pl,cl,rfl,_,_,_⟩:=owns_cap HLS.out.row
 have a2:=(HR1.out.keep HF4.out).cell (i:=2) rfl
 have hll:l.length≤200:=by
  have h1:=congrArg List.length HV.out
  rw[List.length_map] at h1
  have h2:=consTo_len P.lights fit (ordV (usF P.net fm d).1)
  have h3:=ordV_len (usF P.net fm d).1
  have h4:=usF_len P.net fm d
  have h5:(consL P fm d fit).length=(consTo P.lights fit (ordV (usF P.net fm d).1)).length:=rfl
  omega
 by_cases hcopy:l.length=0∨i0=12
 ·have HE:Hid (serveF P fm d fit=(P,0,true)):=by
   show _=_
   rcases hcopy with hz|hz
   ·refine serveF_nil HOK.out ?_
    rw[← HV.out,List.eq_nil_of_length_eq_zero hz];rfl
   ·exact serveF_full HOK.out (by rw[← HIL.out];exact hz)
  have a0:=(HR1.out.keep HF4.out).cell (i:=0) rfl
  have a1:=(HR1.out.keep HF4.out).cell (i:=1) rfl
  have HCX:=Lib.hid (HCP.out w4 HF4.out)
  rcases Nat.eq_zero_or_pos l.length with hz|hz
  focus
   have g1:((l.length:Int) == 0)=true:=by rw[hz];rfl
   have hzz:l.length=0:=hz
   rw[hz]
   clear hcopy hll hz g1 hzz
   go_wp2_with fail
  rotate_left
  focus
   have g1:((l.length:Int) == 0)=false:=by rw[beq_eq_false_iff_ne];omega
   have hi:i0=12:=by omega
   have g2:((i0:Int) == 12)=true:=by rw[hi];rfl
   clear hcopy hll hi
   go_wp2_with fail
   clear g1 g2 hz
  all_goals (
   refine(HCX.out).mono ?_
   rintro e w5 ⟨v1,rfl,ho,hb⟩
   obtain⟨a0',a1',a2',b0,b1,b2,c0,c1,c2,rfl⟩:=ho.shape
   have hz:=(HR3.out.keep HF4.out).keep hb
   have x0:=hz.cell (i:=0) rfl
   have x1:=hz.cell (i:=1) rfl
   have x2:=hz.cell (i:=2) rfl
   have u0:=hz.frozen 0
   have u1:=hz.frozen 1
   have u2:=hz.frozen 2
   have hfin:=((hz.set 0 (.slice a0' a1' a2')).set 1 (.slice b0 b1 b2)).set 2 (.slice c0 c1 c2)
   have k0:=hfin.cell (i:=0) rfl
   have k1:=hfin.cell (i:=1) rfl
   have k2:=hfin.cell (i:=2) rfl
   have HO:=Lib.hid (ho.mono (Nat.le_trans hsz hz4))
   have HZ:=Lib.hid hz
   have HFF:=Lib.hid (fstep HF3.out (fstep HF4.out hb))
   clear ho hz hb hfin HCX a0 a1 a2
   go_wp2
   refine bodyPost_ret (v:=.tuple #[.agg #[.slice a0' a1' a2',.slice b0 b1 b2,.slice c0 c1 c2],.int .i64 0,.bool true]) (by simp[results,Tryz.results75,go_sem,k0,k1,k2]) rfl ?_
   unfold OutSv
   rw[HE.out]
   exact⟨_,rfl,HO.out.box HZ.out,fset (fset (fset HFF.out (by omega) _) (by omega) _) (by omega) _⟩)
 ·have hl0:0<l.length:=by omega
  have g1:((l.length:Int) == 0)=false:=by rw[beq_eq_false_iff_ne];omega
  have g2:((i0:Int) == 12)=false:=by rw[beq_eq_false_iff_ne];omega
  have hl0z:(0:Int)<(l.length:Int):=by omega
  obtain⟨g,x,rfl,hx,hxm,c0,c1,c2,c3,c4⟩:=HLS.out.at hl0
  simp only[Nat.zero_mul,Nat.zero_add] at c0 c1 c2 c3 c4
  have hcx:(consL P fm d fit)[0]?=some x.val:=by rw[← HV.out,List.getElem?_map,hx];rfl
  have HE:Hid (serveF P fm d fit=(⟨P.net,insF P.lights (idF P.lights,x.val.2)⟩,idF P.lights,true)):=serveF_yes HOK.out (by rw[← HIL.out];omega) hcx
  have hxl:x.r.fibs.length≤1048576:=HLN.out x.val (List.mem_of_getElem? hcx)
  obtain⟨W5,hW5⟩:∃ W,W=w4.alloc (.cells #[iv x.id,iv x.r.start,.slice x.r.q x.r.fibs.length x.r.cap,iv x.f,iv x.c] 94):=⟨_,rfl⟩
  have hf5:Fresh w4 W5:=by rw[hW5];exact fnew (frefl _) _
  have hr5:RowAt W5 w4.heap.size 94 [iv x.id,iv x.r.start,.slice x.r.q x.r.fibs.length x.r.cap,iv x.f,iv x.c]:=by rw[hW5];exact RowAt.new _ _ _
  have HF5:=Lib.hid (fstep HF4.out hf5)
  have HB5:=Lib.hid hr5
  have HXI:=Lib.hid ((HLS.out.fib x hxm).keep hf5)
  have HID5:=Lib.hid (HID.out W5 HF5.out)
  have a0:=(HR1.out.keep HF5.out).cell (i:=0) rfl
  have a1:=(HR1.out.keep HF5.out).cell (i:=1) rfl
  have a2':=(HR1.out.keep HF5.out).cell (i:=2) rfl
  have d0:=fun o:Obj=>fkeep (fnew (frefl w4) o) ((HR1.out.keep HF4.out).cell (i:=0) rfl)
  have d1:=fun o:Obj=>fkeep (fnew (frefl w4) o) ((HR1.out.keep HF4.out).cell (i:=1) rfl)
  have d2:=fun o:Obj=>fkeep (fnew (frefl w4) o) a2
  have HW5:=Lib.hid hW5
  clear hx hxm hcx hf5 hr5 hW5 hcopy hll
  go_wp2_with fail
  rw[← HW5.out]
  refine(HID5.out).mono ?_
  rintro e w6 ⟨rfl,hb⟩
  obtain⟨id,hid⟩:∃ z,z=idF P.lights:=⟨_,rfl⟩
  rw[← hid] at HE ⊢
  have HF6:=Lib.hid (fstep HF5.out hb)
  have hr6:=HB5.out.keep hb
  have y0:=hr6.cell (i:=0) rfl
  have z0:=hr6.frozen 0
  have hge:w4.heap.size<w6.heap.size:=hr6.lt
  have hge4:W3.heap.size≤w4.heap.size:=hz4
  obtain⟨W7,hW7⟩:∃ W,W=w6.setCell ⟨w4.heap.size,0,none⟩ (iv id):=⟨_,rfl⟩
  have hf7:Fresh W3 W7:=by rw[hW7];exact fset HF6.out hge4 _
  have hr7:RowAt W7 w4.heap.size 94 [iv id,iv x.r.start,.slice x.r.q x.r.fibs.length x.r.cap,iv x.f,iv x.c]:=by rw[hW7];exact hr6.set 0 (iv id)
  have hxi7:Own W7 W3.heap.size 3 x.r.q (x.r.fibs.map iv):=by rw[hW7];exact(HXI.out.keep hb).setO hr6 (by decide) _ _
  have HF7:=Lib.hid hf7
  have HR7:=Lib.hid hr7
  have HXI7:=Lib.hid hxi7
  have HW7:=Lib.hid hW7
  clear hb hr6 hW7 hf7 hxi7 HXI HID5 c0 c1 c2 c3 c4 a0 a1 a2 a2' d0 d1 d2 HW5 hid g1 g2
  go_upto_region 8 with fail
  try rw[← HW7.out]
  have hp7:=HR1.out.keep HF7.out
  have HSS:W7.cell? ⟨w.heap.size,0,none⟩=some (.slice q m c)∧W7.cell? ⟨w.heap.size,1,none⟩=some (.slice p k0 e1)∧W7.cell? ⟨w.heap.size,2,none⟩=some (.slice r i0 e0)∧W7.cell? ⟨w4.heap.size,0,none⟩=some (iv id)∧W7.cell? ⟨w4.heap.size,1,none⟩=some (iv x.r.start)∧W7.cell? ⟨w4.heap.size,2,none⟩=some (.slice x.r.q x.r.fibs.length x.r.cap)∧W7.cell? ⟨w4.heap.size,3,none⟩=some (iv x.f)∧W7.cell? ⟨w4.heap.size,4,none⟩=some (iv x.c) :=
   ⟨hp7.cell (i:=0) rfl,hp7.cell (i:=1) rfl,hp7.cell (i:=2) rfl,HR7.out.cell (i:=0) rfl,HR7.out.cell (i:=1) rfl,HR7.out.cell (i:=2) rfl,HR7.out.cell (i:=3) rfl,HR7.out.cell (i:=4) rfl⟩
  refine hd_start (n:=7) (S:=fun w'=>w'.cell? ⟨w.heap.size,0,none⟩=some (.slice q m c)∧w'.cell? ⟨w.heap.size,1,none⟩=some (.slice p k0 e1)∧w'.cell? ⟨w.heap.size,2,none⟩=some (.slice r i0 e0)∧w'.cell? ⟨w4.heap.size,0,none⟩=some (iv id)∧w'.cell? ⟨w4.heap.size,1,none⟩=some (iv x.r.start)∧w'.cell? ⟨w4.heap.size,2,none⟩=some (.slice x.r.q x.r.fibs.length x.r.cap)∧w'.cell? ⟨w4.heap.size,3,none⟩=some (iv x.f)∧w'.cell? ⟨w4.heap.size,4,none⟩=some (iv x.c)) (by kernel_rfl) (by kernel_rfl) (kq_35 HSS (fdrew (frefl _))) (fun hHeld=>?_)
  obtain⟨Wz,hWz⟩:∃ W,W=W7.drew:=⟨_,rfl⟩
  rw[← hWz] at hHeld ⊢
  have f0:Fresh W7 Wz:=by rw[hWz];exact fdrew (frefl _)
  clear hWz
  refine hd_tk (i:=0) (v:=?_) rfl ?_ ?_
  rotate_left
  ·(intro w hSw;(try dsimp only at hSw);go_simp;first|done|with_reducible rfl)
  refine hd_tk (i:=1) (v:=?_) rfl ?_ ?_
  rotate_left
  ·(intro w hSw;(try dsimp only at hSw);go_simp;first|done|with_reducible rfl)
  refine hd_tk (i:=3) (v:=?_) rfl ?_ ?_
  rotate_left
  ·(intro w hSw;(try dsimp only at hSw);go_simp;first|done|with_reducible rfl)
  refine hd_tk (i:=4) (v:=?_) rfl ?_ ?_
  rotate_left
  ·(intro w hSw;(try dsimp only at hSw);go_simp;first|done|with_reducible rfl)
  refine hd_one (i:=2) rfl (by kernel_rfl) (by kernel_rfl) (fun K hK=>?_)
  go_simp
  go_at_call 127
  refine(HWL.out _ _ (id,x.r.val,(x.f,x.c)) (fstep HF7.out f0) ⟨⟨id,x.r,x.f,x.c⟩,rfl,HXI7.out.ints.keep f0,hxl,rfl⟩).mono ?_
  rintro e w8 ⟨v1,rfl,ho,hb⟩
  have f1:=fstep f0 hb
  obtain⟨a0,a1,a2,b0,b1,b2,c0,c1,c2,rfl⟩:=ho.shape
  go_wp2_with fail
  refine hK.out _ _ ?_ (fun hHeld=>?_)
  ·exact kq_35 HSS f1
  clear hK K
  have hz:=HR3.out.keep (fstep HF7.out f1)
  have x0:=hz.cell (i:=0) rfl
  have x1:=hz.cell (i:=1) rfl
  have x2:=hz.cell (i:=2) rfl
  have u0:=hz.frozen 0
  have u1:=hz.frozen 1
  have u2:=hz.frozen 2
  have n1:w.heap.size≠w.heap.size+1+1:=by omega
  have n2:w4.heap.size≠w.heap.size+1+1:=by omega
  have hp9:=(((hp7.keep f1).setOther (o:=0) n1 (.slice a0 a1 a2)).setOther (o:=1) n1 (.slice b0 b1 b2)).setOther (o:=2) n1 (.slice c0 c1 c2)
  have hx9:=(((HR7.out.keep f1).setOther (o:=0) n2 (.slice a0 a1 a2)).setOther (o:=1) n2 (.slice b0 b1 b2)).setOther (o:=2) n2 (.slice c0 c1 c2)
  have hfin:=((hz.set 0 (.slice a0 a1 a2)).set 1 (.slice b0 b1 b2)).set 2 (.slice c0 c1 c2)
  refine hd_one (i:=5) rfl (by kernel_rfl) (by kernel_rfl) (fun K hK=>?_)
  (go_simp)
  refine hK.out _ _ ?_ (fun hHeld=>?_)
  ·exact⟨hp9.cell (i:=0) rfl,hp9.cell (i:=1) rfl,hp9.cell (i:=2) rfl,hx9.cell (i:=0) rfl,hx9.cell (i:=1) rfl,hx9.cell (i:=2) rfl,hx9.cell (i:=3) rfl,hx9.cell (i:=4) rfl⟩
  clear hK K
  refine hd_tk (i:=6) (v:=?_) rfl ?_ ?_
  rotate_left
  ·(intro w hSw;(try dsimp only at hSw);go_simp;first|done|with_reducible rfl)
  refine hd_done (by kernel_rfl) ?_
  clear hHeld
  simp only[List.drop_succ_cons,List.drop_zero]
  have k0':=hfin.cell (i:=0) rfl
  have k1':=hfin.cell (i:=1) rfl
  have k2':=hfin.cell (i:=2) rfl
  have HO:=Lib.hid (ho.mono (show w.heap.size≤Wz.heap.size from by have:=(fstep HF3.out (fstep HF7.out f0)).size;exact this))
  have HZ:=Lib.hid hz
  have HFF:=Lib.hid (fstep HF3.out (fstep HF7.out f1))
  clear ho hz hb f0 f1 hp9 hx9 hfin x0 x1 x2 u0 u1 u2 hp7 HSS
  go_wp2
  refine bodyPost_ret (v:=.tuple #[.agg #[.slice a0 a1 a2,.slice b0 b1 b2,.slice c0 c1 c2],.int .i64 id,.bool true]) (by simp[results,Tryz.results75,go_sem,k0',k1',k2']) rfl ?_
  unfold OutSv
  rw[HE.out]
  exact⟨_,rfl,HO.out.box HZ.out,fset (fset (fset HFF.out (by omega) _) (by omega) _) (by omega) _⟩
theorem bestB_F {m c:Int} (ha:askB m c=true):bestB m c=((bestF m c).1,(bestF m c).2.1):=by
 by_cases h:(bestR c (runs m)).2=0
 ·rw[bestB_none h,bestF_none h]
 ·rw[bestB_some h,bestF_yes ha h]
theorem fits_len (m c:Int) (h1:1≤c):(fits m c).length≤25:=by
 unfold fits
 have:=fitsTo_len m c (25 - c).toNat
 omega
set_option maxHeartbeats 2000000 in
set_option maxRecDepth 20000 in
theorem l11Block_any {M:Nat} (hM:M<16777216) (c fit:Int) (w:World) (h1:1≤c) (h2:c≤24) :
  Calls Tryz.prog 111 #[.int .i64 (M:Int),.int .i64 c,.int .i64 fit] w fun e w'=>e=.returned (.agg #[.int .i64 (fitF fit (M:Int) c).1,.int .i64 (fitF fit (M:Int) c).2.1])∧Fresh w w':=by
 have ha:=ask_ok hM h1 h2
 have hno:=fitF_no (fit:=fit) hM h1 h2
 have hm0:(0:Int)≤(M:Int):=by omega
 obtain⟨m,hm⟩:∃ m:Int,m=(M:Int):=⟨_,rfl⟩
 rw[← hm] at ha hno hm0 ⊢
 clear hm hM
 obtain⟨W2,hW2⟩:∃ W,W=w.alloc (.cells #[.int .i64 0,.int .i64 0] 92):=⟨_,rfl⟩
 have hf2:Fresh w W2:=by rw[hW2];exact fnew (frefl _) _
 have hr2:RowAt W2 w.heap.size 92 [.int .i64 0,.int .i64 0]:=by rw[hW2];exact RowAt.new _ _ _
 have HFT:=Lib.hid (l8Fits_any m c W2 h1 h2)
 have HBT:Hid (∀ W,Calls Tryz.prog 158 #[.int .i64 m,.int .i64 c] W fun e w'=>e=.returned (.agg #[.int .i64 (bestF m c).1,.int .i64 (bestF m c).2.1])∧Fresh W w'):=fun W=>by
  have:=l8Best_any m c W hm0 h1
  rw[bestB_F ha] at this
  exact this
 have hlen:=fits_len m c h1
 have HF2:=Lib.hid hf2
 have HR2:=Lib.hid hr2
 have HW2:=Lib.hid hW2
 have hsz:=hf2.size
 clear hf2 hr2 hW2
 rcases hL:fits m c with _|⟨x,l⟩
 ·have HV:=Lib.hid (hno hL)
  rw[HV.out]
  rw[hL] at HFT
  clear hno hlen HBT
  go_enter Tryz.func111,Tryz.ntmps111
  go_wp2_with fail
  rw[← HW2.out]
  refine(HFT.out).mono ?_
  rintro e w1 ⟨p,cap,rfl,_,hb⟩
  have hz:=HR2.out.keep hb
  have x0:=hz.cell (i:=0) rfl
  have u0:=hz.frozen 0
  have x1:=hz.cell (i:=1) rfl
  have u1:=hz.frozen 1
  have hfin:=(hz.set 0 (.int .i64 0)).set 1 (.int .i64 0)
  have k0:=hfin.cell (i:=0) rfl
  have k1:=hfin.cell (i:=1) rfl
  have HB:=Lib.hid (fstep HF2.out hb)
  clear hz hfin hb HFT
  go_wp2
  refine bodyPost_ret (v:=.agg #[.int .i64 0,.int .i64 0]) (by simp[results,Tryz.results111,go_sem,k0,k1]) rfl ?_
  exact⟨rfl,fset (fset HB.out (by omega) _) (by omega) _⟩
 ·have hl25:l.length+1≤25:=by rw[hL] at hlen;simpa using hlen
  have HD:Hid (fitF fit m c=if fit=1 then (x,c,true) else if fit=2 then (lastFi (x :: l),c,true) else bestF m c):=by
   show _=_
   unfold fitF
   rw[pickF_some ha hL,pickF_some ha hL];rfl
  rw[hL] at HFT
  clear hno hlen hL
  by_cases hf1:fit=1
  ·have g1:(fit == 1)=true:=by simp[hf1]
   have HV:Hid (fitF fit m c=(x,c,true)):=by show _=_;rw[HD.out];simp[hf1]
   rw[HV.out]
   clear hf1 HBT
   go_enter Tryz.func111,Tryz.ntmps111
   go_wp2_with fail
   rw[← HW2.out]
   refine(HFT.out).mono ?_
   rintro e w1 ⟨p,cap,rfl,ho,hb⟩
   obtain⟨b,off,rfl,hc⟩:=Own.ints (L:=x :: l) ho |>.at0
   have hz:=HR2.out.keep hb
   have x0:=hz.cell (i:=0) rfl
   have u0:=hz.frozen 0
   have x1:=hz.cell (i:=1) rfl
   have u1:=hz.frozen 1
   have hfin:=(hz.set 0 (.int .i64 x)).set 1 (.int .i64 c)
   have k0:=hfin.cell (i:=0) rfl
   have k1:=hfin.cell (i:=1) rfl
   have HB:=Lib.hid (fstep HF2.out hb)
   clear hz hfin hb HFT ho
   go_wp2
   refine bodyPost_ret (v:=.agg #[.int .i64 x,.int .i64 c]) (by simp[results,Tryz.results111,go_sem,k0,k1]) rfl ?_
   exact⟨rfl,fset (fset HB.out (by omega) _) (by omega) _⟩
  ·have g1:(fit == 1)=false:=by simp[hf1]
   by_cases hf2:fit=2
   ·have g2:(fit == 2)=true:=by simp[hf2]
    have HV:Hid (fitF fit m c=(lastFi (x :: l),c,true)):=by show _=_;rw[HD.out];simp[hf2]
    rw[HV.out]
    clear hf1 hf2 HBT
    go_enter Tryz.func111,Tryz.ntmps111
    go_wp2_with fail
    rw[← HW2.out]
    refine(HFT.out).mono ?_
    rintro e w1 ⟨p,cap,rfl,ho,hb⟩
    obtain⟨b,off,y,rfl,hy,hc⟩:=Own.ints (L:=x :: l) ho |>.at (k:=l.length) (by simp)
    have HY:=Lib.hid hy
    have hz:=HR2.out.keep hb
    have x0:=hz.cell (i:=0) rfl
    have u0:=hz.frozen 0
    have x1:=hz.cell (i:=1) rfl
    have u1:=hz.frozen 1
    have hfin:=(hz.set 0 (.int .i64 y)).set 1 (.int .i64 c)
    have k0:=hfin.cell (i:=0) rfl
    have k1:=hfin.cell (i:=1) rfl
    have HB:=Lib.hid (fstep HF2.out hb)
    clear hz hfin hb HFT ho hy
    go_wp2
    refine bodyPost_ret (v:=.agg #[.int .i64 y,.int .i64 c]) (by simp[results,Tryz.results111,go_sem,k0,k1]) rfl ?_
    exact⟨by rw[last_of HY.out],fset (fset HB.out (by omega) _) (by omega) _⟩
   ·have g2:(fit == 2)=false:=by simp[hf2]
    have HV:Hid (fitF fit m c=bestF m c):=by show _=_;rw[HD.out];simp[hf1,hf2]
    rw[HV.out]
    obtain⟨⟨f4,n4,b4⟩,hr4⟩:∃ r,r=bestF m c:=⟨_,rfl⟩
    rw[← hr4] at HBT ⊢
    clear hf1 hf2 hr4
    go_enter Tryz.func111,Tryz.ntmps111
    go_wp2_with fail
    rw[← HW2.out]
    refine(HFT.out).mono ?_
    rintro e w1 ⟨p,cap,rfl,ho,hb⟩
    have HB1:=Lib.hid hb
    clear hb HFT ho
    go_wp2_with fail
    refine(HBT.out _).mono ?_
    rintro e w2 ⟨rfl,hb⟩
    have hz:=(HR2.out.keep HB1.out).keep hb
    have x0:=hz.cell (i:=0) rfl
    have u0:=hz.frozen 0
    have x1:=hz.cell (i:=1) rfl
    have u1:=hz.frozen 1
    have hfin:=(hz.set 0 (.int .i64 f4)).set 1 (.int .i64 n4)
    have k0:=hfin.cell (i:=0) rfl
    have k1:=hfin.cell (i:=1) rfl
    have HB:=Lib.hid (fstep HF2.out (fstep HB1.out hb))
    clear hz hfin hb
    go_wp2
    refine bodyPost_ret (v:=.agg #[.int .i64 f4,.int .i64 n4]) (by simp[results,Tryz.results111,go_sem,k0,k1]) rfl ?_
    exact⟨rfl,fset (fset HB.out (by omega) _) (by omega) _⟩
def ltCC (l:List CH) (i j:Nat):Bool:=decide (kCH (l.getD i dCH)<kCH (l.getD j dCH))
def odG (lt:Nat→Nat→Bool) (j:Nat):List Int:=(List.range j).map fun i=>((ordS lt j i:Nat):Int)
theorem odG_len (lt:Nat→Nat→Bool) (j:Nat):(odG lt j).length=j:=by simp[odG]
theorem odG_get {lt:Nat→Nat→Bool} {j i:Nat} (h:i<j):(odG lt j)[i]?=some ((ordS lt j i:Nat):Int):=by
 unfold odG;rw[List.getElem?_map,List.getElem?_range h];rfl
theorem odG_step {lt:Nat→Nat→Bool} {j k:Nat} (hk:k=insAt lt (ordS lt j) j j):(odG lt j).take k++[(j:Int)]++(odG lt j).drop k=odG lt (j+1):=by
 have hle:k≤j:=by rw[hk];exact insAt_le _ _ _ _
 have hlen:=odG_len lt j
 apply List.ext_getElem?
 intro t
 rcases Nat.lt_or_ge t (j+1) with h|h
 ·rw[odG_get h]
  have e:ordS lt (j+1) t=rot (ordS lt j) k j (j+1) t:=by rw[hk];rfl
  rw[e,List.append_assoc]
  rcases Nat.lt_trichotomy t k with h1|h1|h1
  ·rw[List.getElem?_append_left (by rw[List.length_take];omega),List.getElem?_take_of_lt h1,odG_get (by omega),rot_be _ hle h1]
  ·subst h1
   rw[List.getElem?_append_right (by rw[List.length_take];omega),List.length_take,Nat.min_eq_left (by omega),rot_at _ hle,ordS_out _ _ _ (Nat.le_refl _)]
   simp
  ·rw[List.getElem?_append_right (by rw[List.length_take];omega),List.length_take,Nat.min_eq_left (by omega)]
   obtain⟨u,hu⟩:∃ u,t - k=u+1:=⟨t - k - 1,by omega⟩
   rw[hu,List.singleton_append,List.getElem?_cons_succ,List.getElem?_drop,odG_get (by omega),rot_hi (by omega)]
   congr 3
   omega
 ·rw[List.getElem?_eq_none (by rw[List.length_append,List.length_append,List.length_take,List.length_drop];simp;omega),List.getElem?_eq_none (by rw[odG_len];exact h)]
theorem ordH_at (l:List CH) {i:Nat} (h:i<l.length):(ordH l)[i]?=l[ordS (ltCC l) l.length i]?:=ordL_get kCH dCH l h
theorem onesI (l:List Int):∀ u∈l.map iv,u.oneCell'=true:=by
 intro u hu
 obtain⟨x,_,rfl⟩:=List.mem_map.1 hu
 rfl
theorem partJ_a {W:World} {base:Nat} {r:Option Addr} {l:List Int} (k:Nat) (h:Own W base 3 r (l.map iv)):Cells W r ((l.take k).map iv):=by
 rcases h.cells with h|⟨b,off,e,h⟩
 ·left
  have:l=[]:=List.map_eq_nil_iff.1 h
  rw[this];simp
 ·refine Or.inr ⟨b,off,e,fun j u hj=>h j u ?_⟩
  rw[List.map_take] at hj
  have hlt:j<k:=by
   rcases Nat.lt_or_ge j k with h' | h'
   ·exact h'
   ·rw[List.getElem?_eq_none (by rw[List.length_take];omega)] at hj;cases hj
  rwa [List.getElem?_take_of_lt hlt] at hj
theorem partJ_b {W:World} {base g:Nat} {l:List Int} {cap k:Nat} (hk:k≤l.length) (hc:l.length≤cap) (h:Own W base 3 (some ⟨g,0,none⟩) (l.map iv)):Cells W (if cap=k then (some (⟨g,0,none⟩:Addr)) else some ⟨g,k,none⟩) ((l.drop k).map iv):=by
 by_cases hck:cap=k
 ·left
  rw[List.map_eq_nil_iff,List.drop_eq_nil_iff];omega
 ·rw[if_neg hck]
  rcases h with⟨h0,_⟩|⟨g',sp,h1,_,hW⟩
  ·cases h0
  ·cases h1
   refine Or.inr ⟨g,k,rfl,fun j u hj=>?_⟩
   rw[List.map_drop,List.getElem?_drop] at hj
   exact hW.cell (by rw[List.getElem?_append_left (List.getElem?_eq_some_iff.1 hj).1];exact hj)
theorem uss_at {w:World} {base:Nat} {p pk:Option Addr} {c ck:Nat} {l:List CH} (h:Uss w base (.slice p l.length c) pk ck l) {j:Nat} (hj:j<l.length) :
  ∃ g h x,p=some ⟨g,0,none⟩∧pk=some ⟨h,0,none⟩∧l[j]?=some x∧x∈l∧w.cell? ⟨g,j * 2,none⟩=some (iv x.r.start)∧w.cell? ⟨g,j * 2+1,none⟩=some (.slice x.r.q x.r.fibs.length x.r.cap)∧w.cell? ⟨h,j,none⟩=some (iv x.k):=by
 obtain⟨h1,h2⟩:=h
 have h1':Rts w base (.slice p (l.map CH.r).length c) (l.map CH.r):=by rw[List.length_map];exact h1
 obtain⟨g,y,rfl,hy,_,c0,c1⟩:=rts_at h1' (j:=j) (by rw[List.length_map];exact hj)
 obtain⟨x,hx⟩:∃ x,l[j]?=some x:=⟨l[j],List.getElem?_eq_getElem hj⟩
 have e:y=x.r:=by
  rw[List.getElem?_map,hx] at hy
  cases hy;rfl
 subst e
 obtain⟨p',c',he,ho⟩:=own_of_row h2
 cases he
 rcases ho with⟨_,h0⟩|⟨b,sp,rfl,_,hr⟩
 ·rw[List.map_eq_nil_iff] at h0
  rw[h0] at hj;cases hj
 ·refine⟨g,b,x,rfl,rfl,hx,List.mem_of_getElem? hx,c0,c1,hr.cell ?_⟩
  rw[List.getElem?_append_left (by rw[List.length_map];exact hj),List.getElem?_map,hx];rfl
theorem Uss.typ {w w':World} {base:Nat} {V:Value} {pk:Option Addr} {ck:Nat} {l:List CH} (h:Uss w base V pk ck l) (hk:∀ g t cs,RowAt w g t cs→t≠94→RowAt w' g t cs):Uss w' base V pk ck l :=
 ⟨h.rts.typ hk (by decide) (by decide),ownsRow_typ h.ks hk (by decide)⟩
theorem Uss.ints {w:World} {base:Nat} {V:Value} {pk:Option Addr} {ck:Nat} {l:List CH} (h:Uss w base V pk ck l) {x:CH} (hx:x∈l):Ints w x.r.q x.r.fibs:=(h.rts.fib x.r (List.mem_map_of_mem hx)).ints
theorem DistL.pw2 (l:List LL):DistL l↔l.Pairwise fun x y=>∀ g o h o',x.r.q=some ⟨g,o,none⟩→y.r.q=some ⟨h,o',none⟩→g≠h:=by
 rw[List.pairwise_iff_getElem]
 constructor
 ·intro h i j hi hj hij
  exact h i j l[i] l[j] (by omega) (List.getElem?_eq_getElem hi) (List.getElem?_eq_getElem hj)
 ·intro h i j x y hij hx hy g o g' o' e1 e2
  obtain⟨hi,rfl⟩:=List.getElem?_eq_some_iff.1 hx
  obtain⟨hj,rfl⟩:=List.getElem?_eq_some_iff.1 hy
  rcases Nat.lt_or_gt_of_ne hij with h1|h1
  ·exact h i j hi hj h1 g o g' o' e1 e2
  ·exact(h j i hj hi h1 g' o' g o e2 e1).symm
theorem Lso.snoc {w w':World} {base b2:Nat} {V V':Value} {l:List LL} {y:LL} (h:Lso w base V l) (hrow:w'.ownsRow base 94 5 V' (l.length+1) (l.flatMap llC++llC y)) (hk:∀ g t cs,RowAt w g t cs→t≠94→RowAt w' g t cs) (ho:Own w' b2 3 y.r.q (y.r.fibs.map iv)) (hb2:w.heap.size≤b2) (hbase:base≤b2):Lso w' base V' (l++[y]):=by
 refine⟨by rw[List.length_append,List.flatMap_append];simpa using hrow,fun x hx=>?_,?_⟩
 ·rcases List.mem_append.1 hx with hx|hx
  ·exact(h.fib x hx).grown hk (by decide)
  ·rw[List.mem_singleton.1 hx];exact ho.mono hbase
 ·rw[DistL.pw2,List.pairwise_append]
  refine⟨(DistL.pw2 l).1 h.dist,List.pairwise_singleton _ _,fun a ha b hb g o h' o' e1 e2=>?_⟩
  rw[List.mem_singleton.1 hb] at e2
  have hg:g<w.heap.size:=by
   rcases h.fib a ha with⟨h0,_⟩|⟨g',sp,h1,_,hr⟩
   ·rw[h0] at e1;cases e1
   ·rw[h1] at e1;cases e1;exact hr.lt
  have hh:b2≤h':=by
   rcases ho with⟨h0,_⟩|⟨g',sp,h1,hle,_⟩
   ·rw[h0] at e2;cases e2
   ·rw[h1] at e2;cases e2;exact hle
  omega
theorem fit_flag {fit:Int} {M:Nat} {c:Int} (hM:M<16777216) (h1:1≤c) (h2:c≤24):((fitF fit (M:Int) c).2.2=true∧0<(fitF fit (M:Int) c).2.1)∨((fitF fit (M:Int) c).2.2=false∧¬ 0<(fitF fit (M:Int) c).2.1):=by
 by_cases hn:fits (M:Int) c=[]
 ·right;rw[fitF_no hM h1 h2 hn];simp
 ·left
  obtain⟨y,_,he⟩:=fitF_yes (fit:=fit) hM h1 h2 hn
  rw[he];exact⟨rfl,by show 0<c;omega⟩
theorem consC_one (L:List LtV) (fit:Int) (x:CH) {y:LL} {f n:Int} (h:fitF fit (alongN L x.r.fibs:Int) x.k=(f,n,true)) (h2:y.val=(0,x.r.val,(f,n))):consC L fit x.val=[y.val]:=by
 unfold consC
 rw[show(alongN L x.val.1.2:Int)=(alongN L x.r.fibs:Int) from rfl,show x.val.2=x.k from rfl,h,if_pos rfl,h2]
theorem consC_none (L:List LtV) (fit:Int) (x:CH) {f n:Int} (h:fitF fit (alongN L x.r.fibs:Int) x.k=(f,n,false)):consC L fit x.val=[]:=by
 unfold consC
 rw[show(alongN L x.val.1.2:Int)=(alongN L x.r.fibs:Int) from rfl,show x.val.2=x.k from rfl,h]
 rfl
end Go.Proofs.YteckjlkhopkogaaGreat
