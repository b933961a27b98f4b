/- Texts of mine laid together (Sq6, Sq7). -/
import Derived.Test.YteckjlkhopkogaaGreatM12
import Derived.Test.YteckjlkhopkogaaGreatSq5
import Derived.Test.YteckjlkhopkogaaGreatY10
import Derived.Test.YteckjlkhopkogaaGreatM1
namespace Go.Proofs.YteckjlkhopkogaaGreat
open Go.RowKit Go.PlainAid
set_option maxHeartbeats 8000000 in
set_option maxRecDepth 100000 in
theorem l11Serve_any (v:Value) (P:PlanV) (pf:Option Addr) (cf:Nat) (fm:List (Int × Int)) (d:Fib) (fit:Int) (w:World) (h:PlIn w v P) (hfm:Prs w pf fm) (hfl:fm.length≤1048576) (hp:planB P=true) (hus:usB P.net fm d=true) :
  Calls Tryz.prog 73 #[v,.slice pf fm.length cf,fibV d,.int .i64 fit] w (OutSv P fm d fit w):=by
 have HPL:=Lib.hid h
 have HPF:=Lib.hid hfm
 have h12:=(planB_at hp).2.1
 obtain⟨q,c,p,e1,r,e0,lp,rfl,_,_,_,hv0,_,_⟩:=h.parts
 have hlp:lp.length=P.lights.length:=by rw[hv0];simp
 obtain⟨m,hm⟩:∃ m,m=P.net.nodes.length:=⟨_,rfl⟩
 obtain⟨k0,hk0⟩:∃ m,m=P.net.fibers.length:=⟨_,rfl⟩
 obtain⟨i0,hi0⟩:∃ m,m=lp.length:=⟨_,rfl⟩
 rw[← hm,← hk0,← hi0] at HPL ⊢
 have hil:i0=P.lights.length:=by omega
 have HIL:=Lib.hid hil
 have hi12:i0≤12:=by omega
 obtain⟨W3,hW3,hsz3,hf3,r1,r2,r3⟩:=three_rows w [.slice q m c,.slice p k0 e1,.slice r i0 e0] [.int .i64 d.a,.int .i64 d.b,.int .i64 d.len,.int .i64 d.risk] [.slice none 0 0,.slice none 0 0,.slice none 0 0] 38 59 38
 have HC:=Lib.hid (l11Choices_any (.agg #[.slice q m c,.slice p k0 e1,.slice r i0 e0]) P pf cf fm d fit W3 (HPL.out.keep hf3) (HPF.out.keep hf3) hfl hp hus)
 have HID:Hid (∀ W,Fresh W3 W→Calls Tryz.prog 123 #[.agg #[.slice q m c,.slice p k0 e1,.slice r i0 e0]] W fun e w'=>e=.returned (.int .i64 (idF P.lights))∧Fresh W w'):=fun W hW=>l11Id_any _ P W (HPL.out.keep (fstep hf3 hW)) hp
 have HCP:Hid (∀ W,Fresh W3 W→Calls Tryz.prog 45 #[.agg #[.slice q m c,.slice p k0 e1,.slice r i0 e0]] W fun e w'=>∃ v',e=.returned v'∧PlOwn w' W.heap.size v' P∧Fresh W w'):=fun W hW=>l9Own_any _ P W (HPL.out.keep (fstep hf3 hW))
 have HWL:Hid (∀ W u X,Fresh W3 W→LgIn W u X→Calls Tryz.prog 124 #[.agg #[.slice q m c,.slice p k0 e1,.slice r i0 e0],u] W fun e w'=>∃ v',e=.returned v'∧PlOwn w' W.heap.size v' ⟨P.net,insF P.lights X⟩∧Fresh W w'):=fun W u X hW hX=>l9Put_any _ u P X W (HPL.out.keep (fstep hf3 hW)) hX (by omega)
 have HLN:Hid (∀ x∈consL P fm d fit,x.2.1.2.length≤1048576):=fun x hx=>(cons_mem hp hx).2.2.2.1
 have hidb:=idF_bd hp
 have HF3:=Lib.hid hf3
 have HR1:=Lib.hid r1
 have HR3:=Lib.hid r3
 have HW3:=Lib.hid hW3
 have hsz:=hf3.size
 clear h hfm hp hf3 r1 r2 r3 hW3 hm hk0 hi0 hlp hv0 hil h12
 go_enter Tryz.func73,Tryz.ntmps73
 go_wp2_with fail
 rw[← HW3.out]
 refine(HC.out).mono ?_
 rintro e w4 ⟨V,l,rfl,hl,hv,hf⟩
 have HF4:=Lib.hid hf
 have HLS:=Lib.hid hl
 have HV:=Lib.hid hv
 have hz4:=hf.size
 clear hl hv hf HC
 cases hok:usOk P.net fm d
 ·have HE:=Lib.hid (serveF_no (fit:=fit) hok)
  have hz:=HR3.out.keep HF4.out
  have x0:=hz.cell (i:=0) rfl
  have x1:=hz.cell (i:=1) rfl
  have x2:=hz.cell (i:=2) rfl
  have u0:=hz.frozen 0
  have u1:=hz.frozen 1
  have u2:=hz.frozen 2
  have hfin:=((hz.set 0 (.slice none 0 0)).set 1 (.slice none 0 0)).set 2 (.slice none 0 0)
  have k0:=hfin.cell (i:=0) rfl
  have k1:=hfin.cell (i:=1) rfl
  have k2:=hfin.cell (i:=2) rfl
  clear hz hfin hok
  go_wp2
  refine bodyPost_ret (v:=.tuple #[.agg #[.slice none 0 0,.slice none 0 0,.slice none 0 0],.int .i64 0,.bool false]) (by simp[results,Tryz.results73,go_sem,k0,k1,k2]) rfl ?_
  unfold OutSv
  rw[HE.out]
  exact⟨_,rfl,zeroP_own _ _,fset (fset (fset (fstep HF3.out HF4.out) (by omega) _) (by omega) _) (by omega) _⟩
 have HOK:=Lib.hid hok
 clear hok
 obtain⟨pl,cl,rfl,_,_,_⟩:=owns_cap HLS.out.row
 have a2:=(HR1.out.keep HF4.out).cell (i:=2) rfl
 have hll:l.length≤200:=by
  have h1:=congrArg List.length HV.out
  rw[List.length_map] at h1
  have h2:=consTo_len P.lights fit (ordV (usF P.net fm d).1)
  have h3:=ordV_len (usF P.net fm d).1
  have h4:=usF_len P.net fm d
  have h5:(consL P fm d fit).length=(consTo P.lights fit (ordV (usF P.net fm d).1)).length:=rfl
  omega
 by_cases hcopy:l.length=0∨i0=12
 ·have HE:Hid (serveF P fm d fit=(P,0,true)):=by
   show _=_
   rcases hcopy with hz|hz
   ·refine serveF_nil HOK.out ?_
    rw[← HV.out,List.eq_nil_of_length_eq_zero hz];rfl
   ·exact serveF_full HOK.out (by rw[← HIL.out];exact hz)
  have a0:=(HR1.out.keep HF4.out).cell (i:=0) rfl
  have a1:=(HR1.out.keep HF4.out).cell (i:=1) rfl
  have HCX:=Lib.hid (HCP.out w4 HF4.out)
  rcases Nat.eq_zero_or_pos l.length with hz|hz
  focus
   have g1:((l.length:Int) == 0)=true:=by rw[hz];rfl
   have hzz:l.length=0:=hz
   rw[hz]
   clear hcopy hll hz g1 hzz
   go_wp2_with fail
  rotate_left
  focus
   have g1:((l.length:Int) == 0)=false:=by rw[beq_eq_false_iff_ne];omega
   have hi:i0=12:=by omega
   have g2:((i0:Int) == 12)=true:=by rw[hi];rfl
   clear hcopy hll hi
   go_wp2_with fail
   clear g1 g2 hz
  all_goals (
   refine(HCX.out).mono ?_
   rintro e w5 ⟨v1,rfl,ho,hb⟩
   obtain⟨a0',a1',a2',b0,b1,b2,c0,c1,c2,rfl⟩:=ho.shape
   have hz:=(HR3.out.keep HF4.out).keep hb
   have x0:=hz.cell (i:=0) rfl
   have x1:=hz.cell (i:=1) rfl
   have x2:=hz.cell (i:=2) rfl
   have u0:=hz.frozen 0
   have u1:=hz.frozen 1
   have u2:=hz.frozen 2
   have hfin:=((hz.set 0 (.slice a0' a1' a2')).set 1 (.slice b0 b1 b2)).set 2 (.slice c0 c1 c2)
   have k0:=hfin.cell (i:=0) rfl
   have k1:=hfin.cell (i:=1) rfl
   have k2:=hfin.cell (i:=2) rfl
   have HO:=Lib.hid (ho.mono (Nat.le_trans hsz hz4))
   have HZ:=Lib.hid hz
   have HFF:=Lib.hid (fstep HF3.out (fstep HF4.out hb))
   clear ho hz hb hfin HCX a0 a1 a2
   go_wp2
   refine bodyPost_ret (v:=.tuple #[.agg #[.slice a0' a1' a2',.slice b0 b1 b2,.slice c0 c1 c2],.int .i64 0,.bool true]) (by simp[results,Tryz.results73,go_sem,k0,k1,k2]) rfl ?_
   unfold OutSv
   rw[HE.out]
   exact⟨_,rfl,HO.out.box HZ.out,fset (fset (fset HFF.out (by omega) _) (by omega) _) (by omega) _⟩)
 ·have hl0:0<l.length:=by omega
  have g1:((l.length:Int) == 0)=false:=by rw[beq_eq_false_iff_ne];omega
  have g2:((i0:Int) == 12)=false:=by rw[beq_eq_false_iff_ne];omega
  have hl0z:(0:Int)<(l.length:Int):=by omega
  obtain⟨g,x,rfl,hx,hxm,c0,c1,c2,c3,c4⟩:=HLS.out.at hl0
  simp only[Nat.zero_mul,Nat.zero_add] at c0 c1 c2 c3 c4
  have hcx:(consL P fm d fit)[0]?=some x.val:=by rw[← HV.out,List.getElem?_map,hx];rfl
  have HE:Hid (serveF P fm d fit=(⟨P.net,insF P.lights (idF P.lights,x.val.2)⟩,idF P.lights,true)):=serveF_yes HOK.out (by rw[← HIL.out];omega) hcx
  have hxl:x.r.fibs.length≤1048576:=HLN.out x.val (List.mem_of_getElem? hcx)
  obtain⟨W5,hW5⟩:∃ W,W=w4.alloc (.cells #[iv x.id,iv x.r.start,.slice x.r.q x.r.fibs.length x.r.cap,iv x.f,iv x.c] 94):=⟨_,rfl⟩
  have hf5:Fresh w4 W5:=by rw[hW5];exact fnew (frefl _) _
  have hr5:RowAt W5 w4.heap.size 94 [iv x.id,iv x.r.start,.slice x.r.q x.r.fibs.length x.r.cap,iv x.f,iv x.c]:=by rw[hW5];exact RowAt.new _ _ _
  have HF5:=Lib.hid (fstep HF4.out hf5)
  have HB5:=Lib.hid hr5
  have HXI:=Lib.hid ((HLS.out.fib x hxm).keep hf5)
  have HID5:=Lib.hid (HID.out W5 HF5.out)
  have a0:=(HR1.out.keep HF5.out).cell (i:=0) rfl
  have a1:=(HR1.out.keep HF5.out).cell (i:=1) rfl
  have a2':=(HR1.out.keep HF5.out).cell (i:=2) rfl
  have d0:=fun o:Obj=>fkeep (fnew (frefl w4) o) ((HR1.out.keep HF4.out).cell (i:=0) rfl)
  have d1:=fun o:Obj=>fkeep (fnew (frefl w4) o) ((HR1.out.keep HF4.out).cell (i:=1) rfl)
  have d2:=fun o:Obj=>fkeep (fnew (frefl w4) o) a2
  have HW5:=Lib.hid hW5
  clear hx hxm hcx hf5 hr5 hW5 hcopy hll
  go_wp2_with fail
  rw[← HW5.out]
  refine(HID5.out).mono ?_
  rintro e w6 ⟨rfl,hb⟩
  obtain⟨id,hid⟩:∃ z,z=idF P.lights:=⟨_,rfl⟩
  rw[← hid] at HE ⊢
  have HF6:=Lib.hid (fstep HF5.out hb)
  have hr6:=HB5.out.keep hb
  have y0:=hr6.cell (i:=0) rfl
  have z0:=hr6.frozen 0
  have hge:w4.heap.size<w6.heap.size:=hr6.lt
  have hge4:W3.heap.size≤w4.heap.size:=hz4
  obtain⟨W7,hW7⟩:∃ W,W=w6.setCell ⟨w4.heap.size,0,none⟩ (iv id):=⟨_,rfl⟩
  have hf7:Fresh W3 W7:=by rw[hW7];exact fset HF6.out hge4 _
  have hr7:RowAt W7 w4.heap.size 94 [iv id,iv x.r.start,.slice x.r.q x.r.fibs.length x.r.cap,iv x.f,iv x.c]:=by rw[hW7];exact hr6.set 0 (iv id)
  have hxi7:Own W7 W3.heap.size 3 x.r.q (x.r.fibs.map iv):=by rw[hW7];exact(HXI.out.keep hb).setO hr6 (by decide) _ _
  have HF7:=Lib.hid hf7
  have HR7:=Lib.hid hr7
  have HXI7:=Lib.hid hxi7
  have HW7:=Lib.hid hW7
  clear hb hr6 hW7 hf7 hxi7 HXI HID5 c0 c1 c2 c3 c4 a0 a1 a2 a2' d0 d1 d2 HW5 hid g1 g2
  go_upto_region 8 with fail
  try rw[← HW7.out]
  have hp7:=HR1.out.keep HF7.out
  have HSS:W7.cell? ⟨w.heap.size,0,none⟩=some (.slice q m c)∧W7.cell? ⟨w.heap.size,1,none⟩=some (.slice p k0 e1)∧W7.cell? ⟨w.heap.size,2,none⟩=some (.slice r i0 e0)∧W7.cell? ⟨w4.heap.size,0,none⟩=some (iv id)∧W7.cell? ⟨w4.heap.size,1,none⟩=some (iv x.r.start)∧W7.cell? ⟨w4.heap.size,2,none⟩=some (.slice x.r.q x.r.fibs.length x.r.cap)∧W7.cell? ⟨w4.heap.size,3,none⟩=some (iv x.f)∧W7.cell? ⟨w4.heap.size,4,none⟩=some (iv x.c) :=
   ⟨hp7.cell (i:=0) rfl,hp7.cell (i:=1) rfl,hp7.cell (i:=2) rfl,HR7.out.cell (i:=0) rfl,HR7.out.cell (i:=1) rfl,HR7.out.cell (i:=2) rfl,HR7.out.cell (i:=3) rfl,HR7.out.cell (i:=4) rfl⟩
  refine hd_start (n:=7) (S:=fun w'=>w'.cell? ⟨w.heap.size,0,none⟩=some (.slice q m c)∧w'.cell? ⟨w.heap.size,1,none⟩=some (.slice p k0 e1)∧w'.cell? ⟨w.heap.size,2,none⟩=some (.slice r i0 e0)∧w'.cell? ⟨w4.heap.size,0,none⟩=some (iv id)∧w'.cell? ⟨w4.heap.size,1,none⟩=some (iv x.r.start)∧w'.cell? ⟨w4.heap.size,2,none⟩=some (.slice x.r.q x.r.fibs.length x.r.cap)∧w'.cell? ⟨w4.heap.size,3,none⟩=some (iv x.f)∧w'.cell? ⟨w4.heap.size,4,none⟩=some (iv x.c)) (by kernel_rfl) (by kernel_rfl) (kq_35 HSS (fdrew (frefl _))) (fun hHeld=>?_)
  obtain⟨Wz,hWz⟩:∃ W,W=W7.drew:=⟨_,rfl⟩
  rw[← hWz] at hHeld ⊢
  have f0:Fresh W7 Wz:=by rw[hWz];exact fdrew (frefl _)
  clear hWz
  refine hd_tk (i:=0) (v:=?_) rfl ?_ ?_
  rotate_left
  ·(intro w hSw;(try dsimp only at hSw);go_simp;first|done|with_reducible rfl)
  refine hd_tk (i:=1) (v:=?_) rfl ?_ ?_
  rotate_left
  ·(intro w hSw;(try dsimp only at hSw);go_simp;first|done|with_reducible rfl)
  refine hd_tk (i:=3) (v:=?_) rfl ?_ ?_
  rotate_left
  ·(intro w hSw;(try dsimp only at hSw);go_simp;first|done|with_reducible rfl)
  refine hd_tk (i:=4) (v:=?_) rfl ?_ ?_
  rotate_left
  ·(intro w hSw;(try dsimp only at hSw);go_simp;first|done|with_reducible rfl)
  refine hd_one (i:=2) rfl (by kernel_rfl) (by kernel_rfl) (fun K hK=>?_)
  go_simp
  go_at_call 124
  refine(HWL.out _ _ (id,x.r.val,(x.f,x.c)) (fstep HF7.out f0) ⟨⟨id,x.r,x.f,x.c⟩,rfl,HXI7.out.ints.keep f0,hxl,rfl⟩).mono ?_
  rintro e w8 ⟨v1,rfl,ho,hb⟩
  have f1:=fstep f0 hb
  obtain⟨a0,a1,a2,b0,b1,b2,c0,c1,c2,rfl⟩:=ho.shape
  go_wp2_with fail
  refine hK.out _ _ ?_ (fun hHeld=>?_)
  ·exact kq_35 HSS f1
  clear hK K
  have hz:=HR3.out.keep (fstep HF7.out f1)
  have x0:=hz.cell (i:=0) rfl
  have x1:=hz.cell (i:=1) rfl
  have x2:=hz.cell (i:=2) rfl
  have u0:=hz.frozen 0
  have u1:=hz.frozen 1
  have u2:=hz.frozen 2
  have n1:w.heap.size≠w.heap.size+1+1:=by omega
  have n2:w4.heap.size≠w.heap.size+1+1:=by omega
  have hp9:=(((hp7.keep f1).setOther (o:=0) n1 (.slice a0 a1 a2)).setOther (o:=1) n1 (.slice b0 b1 b2)).setOther (o:=2) n1 (.slice c0 c1 c2)
  have hx9:=(((HR7.out.keep f1).setOther (o:=0) n2 (.slice a0 a1 a2)).setOther (o:=1) n2 (.slice b0 b1 b2)).setOther (o:=2) n2 (.slice c0 c1 c2)
  have hfin:=((hz.set 0 (.slice a0 a1 a2)).set 1 (.slice b0 b1 b2)).set 2 (.slice c0 c1 c2)
  refine hd_one (i:=5) rfl (by kernel_rfl) (by kernel_rfl) (fun K hK=>?_)
  (go_simp)
  refine hK.out _ _ ?_ (fun hHeld=>?_)
  ·exact⟨hp9.cell (i:=0) rfl,hp9.cell (i:=1) rfl,hp9.cell (i:=2) rfl,hx9.cell (i:=0) rfl,hx9.cell (i:=1) rfl,hx9.cell (i:=2) rfl,hx9.cell (i:=3) rfl,hx9.cell (i:=4) rfl⟩
  clear hK K
  refine hd_tk (i:=6) (v:=?_) rfl ?_ ?_
  rotate_left
  ·(intro w hSw;(try dsimp only at hSw);go_simp;first|done|with_reducible rfl)
  refine hd_done (by kernel_rfl) ?_
  clear hHeld
  simp only[List.drop_succ_cons,List.drop_zero]
  have k0':=hfin.cell (i:=0) rfl
  have k1':=hfin.cell (i:=1) rfl
  have k2':=hfin.cell (i:=2) rfl
  have HO:=Lib.hid (ho.mono (show w.heap.size≤Wz.heap.size from by have:=(fstep HF3.out (fstep HF7.out f0)).size;exact this))
  have HZ:=Lib.hid hz
  have HFF:=Lib.hid (fstep HF3.out (fstep HF7.out f1))
  clear ho hz hb f0 f1 hp9 hx9 hfin x0 x1 x2 u0 u1 u2 hp7 HSS
  go_wp2
  refine bodyPost_ret (v:=.tuple #[.agg #[.slice a0 a1 a2,.slice b0 b1 b2,.slice c0 c1 c2],.int .i64 id,.bool true]) (by simp[results,Tryz.results73,go_sem,k0',k1',k2']) rfl ?_
  unfold OutSv
  rw[HE.out]
  exact⟨_,rfl,HO.out.box HZ.out,fset (fset (fset HFF.out (by omega) _) (by omega) _) (by omega) _⟩
theorem isRule_any (fit:Int) (w:World):Calls Tryz.prog 74 #[.int .i64 fit] w fun e w'=>e=.returned (.bool (inB fit 1 3))∧w'=w:=by
 have HC:=Lib.hid (within_any fit 1 3 w)
 go_enter Tryz.func74,Tryz.ntmps74
 go_wp2_with fail
 refine(HC.out).mono ?_
 rintro e w1 ⟨rfl,rfl⟩
 go_wp2
 go_ret
 exact⟨rfl,rfl⟩
def askS (P:PlanV) (fm:List (Int × Int)) (ds:List Fib) (fit:Int):Bool:=planB P && fmtsB fm && demsB P.net ds && inB fit 1 3
theorem askS_us {P:PlanV} {fm:List (Int × Int)} {ds:List Fib} {fit:Int} (h:askS P fm ds fit=true):planB P=true∧(∀ d∈ds,usB P.net fm d=true)∧inB fit 1 3=true∧ds.length≤12:=by
 unfold askS at h
 simp only[Bool.and_eq_true] at h
 obtain⟨⟨⟨h1,h2⟩,h3⟩,h4⟩:=h
 unfold demsB at h3
 simp only[Bool.and_eq_true,decide_eq_true_eq,List.all_eq_true] at h3
 refine⟨h1,fun d hd=>?_,h4,h3.1.1⟩
 unfold usB
 rw[h2,h3.1.2,h3.2 d hd];rfl
set_option maxHeartbeats 2000000 in
set_option maxRecDepth 20000 in
theorem l11Asked_any (v:Value) (P:PlanV) (pf:Option Addr) (cf:Nat) (fm:List (Int × Int)) (pd:Option Addr) (cd:Nat) (ds:List Fib) (fit:Int) (w:World) (h:PlIn w v P) (hfm:Prs w pf fm) (hfl:fm.length≤1048576) (hd:Fibs w pd ds) (hdl:ds.length≤1048576) :
  Calls Tryz.prog 64 #[v,.slice pf fm.length cf,.slice pd ds.length cd,.int .i64 fit] w fun e w'=>e=.returned (.bool (askS P fm ds fit))∧Fresh w w':=by
 have HPL:=Lib.hid h
 have HPF:=Lib.hid hfm
 have HDS:=Lib.hid hd
 obtain⟨q,m,c,p,k0,e1,r,i0,e0,rfl⟩:=h.shape
 obtain⟨W2,hW2⟩:∃ W,W=w.alloc (.cells #[.slice q m c,.slice p k0 e1,.slice r i0 e0] 38):=⟨_,rfl⟩
 have hf2:Fresh w W2:=by rw[hW2];exact fnew (frefl _) _
 have hr2:RowAt W2 w.heap.size 38 [.slice q m c,.slice p k0 e1,.slice r i0 e0]:=by rw[hW2];exact RowAt.new _ _ _
 have HC1:=Lib.hid (l9Good_any _ P W2 (HPL.out.keep hf2))
 have HC2:Hid (∀ W,Fresh W2 W→Calls Tryz.prog 107 #[.slice pf fm.length cf] W fun e w'=>e=.returned (.bool (fmtsB fm))∧Fresh W w'):=fun W hW=>l10Formats_any pf cf fm W (HPF.out.keep (fstep hf2 hW)) hfl
 have HC3:Hid (∀ W,Fresh W2 W→Calls Tryz.prog 108 #[.agg #[.slice q m c,.slice p k0 e1],.slice pd ds.length cd] W fun e w'=>e=.returned (.bool (demsB P.net ds))∧Fresh W w'):=fun W hW=>l10Demands_any _ P.net pd cd ds W (HPL.out.net.keep (fstep hf2 hW)) (HDS.out.keep (fstep hf2 hW)) hdl
 have HC4:Hid (∀ W,Calls Tryz.prog 109 #[.int .i64 fit,.int .i64 1,.int .i64 3] W fun e w'=>e=.returned (.bool (inB fit 1 3))∧W=w'):=fun W=>l1In_any fit 1 3 W
 have HF2:=Lib.hid hf2
 have HR2:=Lib.hid hr2
 have HW2:=Lib.hid hW2
 have HV:Hid (askS P fm ds fit=(planB P && fmtsB fm && demsB P.net ds && inB fit 1 3)):=rfl
 rw[HV.out]
 clear h hfm hd hf2 hr2 hW2 HV
 obtain⟨b1,hb1⟩:∃ b:Bool,b=planB P:=⟨_,rfl⟩
 obtain⟨b2,hb2⟩:∃ b:Bool,b=fmtsB fm:=⟨_,rfl⟩
 obtain⟨b3,hb3⟩:∃ b:Bool,b=demsB P.net ds:=⟨_,rfl⟩
 obtain⟨b4,hb4⟩:∃ b:Bool,b=inB fit 1 3:=⟨_,rfl⟩
 rw[← hb1] at HC1
 rw[← hb2] at HC2
 rw[← hb3] at HC3
 rw[← hb4] at HC4
 rw[← hb1,← hb2,← hb3,← hb4]
 clear hb1 hb2 hb3 hb4
 cases b1
 ·simp only[Bool.false_and]
  go_enter Tryz.func64,Tryz.ntmps64
  go_wp2_with fail
  rw[← HW2.out]
  refine(HC1.out).mono ?_
  rintro e w1 ⟨rfl,hb⟩
  have HF11:Hid (Fresh W2 w1):=hb
  clear hb
  go_wp2
  go_ret
  exact⟨rfl,fstep HF2.out HF11.out⟩
 cases b2
 ·simp only[Bool.false_and,Bool.and_false]
  go_enter Tryz.func64,Tryz.ntmps64
  go_wp2_with fail
  rw[← HW2.out]
  refine(HC1.out).mono ?_
  rintro e w1 ⟨rfl,hb⟩
  have HF11:Hid (Fresh W2 w1):=hb
  clear hb
  go_wp2_with fail
  refine(HC2.out w1 (HF11.out)).mono ?_
  rintro e w2 ⟨rfl,hb⟩
  have HF12:Hid (Fresh W2 w2):=fstep HF11.out hb
  have a0:=(HR2.out.keep HF12.out).cell (i:=0) rfl
  have a1:=(HR2.out.keep HF12.out).cell (i:=1) rfl
  clear hb
  go_wp2
  go_ret
  exact⟨rfl,fstep HF2.out HF12.out⟩
 cases b3
 ·simp only[Bool.false_and,Bool.and_false,Bool.true_and]
  go_enter Tryz.func64,Tryz.ntmps64
  go_wp2_with fail
  rw[← HW2.out]
  refine(HC1.out).mono ?_
  rintro e w1 ⟨rfl,hb⟩
  have HF11:Hid (Fresh W2 w1):=hb
  clear hb
  go_wp2_with fail
  refine(HC2.out w1 (HF11.out)).mono ?_
  rintro e w2 ⟨rfl,hb⟩
  have HF12:Hid (Fresh W2 w2):=fstep HF11.out hb
  have a0:=(HR2.out.keep HF12.out).cell (i:=0) rfl
  have a1:=(HR2.out.keep HF12.out).cell (i:=1) rfl
  clear hb
  go_wp2_with fail
  refine(HC3.out w2 (HF12.out)).mono ?_
  rintro e w3 ⟨rfl,hb⟩
  have HF13:Hid (Fresh W2 w3):=fstep HF12.out hb
  clear hb
  go_wp2
  go_ret
  exact⟨rfl,fstep HF2.out HF13.out⟩
 simp only[Bool.true_and]
 go_enter Tryz.func64,Tryz.ntmps64
 go_wp2_with fail
 rw[← HW2.out]
 refine(HC1.out).mono ?_
 rintro e w1 ⟨rfl,hb⟩
 have HF11:Hid (Fresh W2 w1):=hb
 clear hb
 go_wp2_with fail
 refine(HC2.out w1 (HF11.out)).mono ?_
 rintro e w2 ⟨rfl,hb⟩
 have HF12:Hid (Fresh W2 w2):=fstep HF11.out hb
 have a0:=(HR2.out.keep HF12.out).cell (i:=0) rfl
 have a1:=(HR2.out.keep HF12.out).cell (i:=1) rfl
 clear hb
 go_wp2_with fail
 refine(HC3.out w2 (HF12.out)).mono ?_
 rintro e w3 ⟨rfl,hb⟩
 have HF13:Hid (Fresh W2 w3):=fstep HF12.out hb
 clear hb
 go_wp2_with fail
 refine(HC4.out w3).mono ?_
 rintro e w4 ⟨rfl,hw4⟩
 first|subst hw4|cases hw4
 go_wp2
 go_ret
 exact⟨rfl,fstep HF2.out HF13.out⟩
set_option maxHeartbeats 2000000 in
set_option maxRecDepth 20000 in
theorem isServing_any (v:Value) (P:PlanV) (pf:Option Addr) (cf:Nat) (fm:List (Int × Int)) (pd:Option Addr) (cd:Nat) (ds:List Fib) (fit:Int) (w:World) (h:PlIn w v P) (hfm:Prs w pf fm) (hfl:fm.length≤1048576) (hd:Fibs w pd ds) (hdl:ds.length≤1048576) :
  Calls Tryz.prog 77 #[v,.slice pf fm.length cf,.slice pd ds.length cd,.int .i64 fit] w fun e w'=>e=.returned (.bool (askS P fm ds fit))∧Fresh w w':=by
 have HPL:=Lib.hid h
 have HPF:=Lib.hid hfm
 have HDS:=Lib.hid hd
 obtain⟨q,m,c,p,k0,e1,r,i0,e0,rfl⟩:=h.shape
 obtain⟨W2,hW2⟩:∃ W,W=w.alloc (.cells #[.slice q m c,.slice p k0 e1,.slice r i0 e0] 38):=⟨_,rfl⟩
 have hf2:Fresh w W2:=by rw[hW2];exact fnew (frefl _) _
 have hr2:RowAt W2 w.heap.size 38 [.slice q m c,.slice p k0 e1,.slice r i0 e0]:=by rw[hW2];exact RowAt.new _ _ _
 have HC1:=Lib.hid (implIsValidPlan_any _ P W2 (HPL.out.keep hf2))
 have HC2:Hid (∀ W,Fresh W2 W→Calls Tryz.prog 128 #[.slice pf fm.length cf] W fun e w'=>e=.returned (.bool (fmtsB fm))∧Fresh W w'):=fun W hW=>implIsValidFormats_any pf cf fm W (HPF.out.keep (fstep hf2 hW)) hfl
 have HC3:Hid (∀ W,Fresh W2 W→Calls Tryz.prog 129 #[.agg #[.slice q m c,.slice p k0 e1],.slice pd ds.length cd] W fun e w'=>e=.returned (.bool (demsB P.net ds))∧Fresh W w'):=fun W hW=>implIsValidDemands_any _ P.net pd cd ds W (HPL.out.net.keep (fstep hf2 hW)) (HDS.out.keep (fstep hf2 hW)) hdl
 have HC4:Hid (∀ W,Calls Tryz.prog 74 #[.int .i64 fit] W fun e w'=>e=.returned (.bool (inB fit 1 3))∧w'=W):=fun W=>isRule_any fit W
 have HF2:=Lib.hid hf2
 have HR2:=Lib.hid hr2
 have HW2:=Lib.hid hW2
 have HV:Hid (askS P fm ds fit=(planB P && fmtsB fm && demsB P.net ds && inB fit 1 3)):=rfl
 rw[HV.out]
 clear h hfm hd hf2 hr2 hW2 HV
 obtain⟨b1,hb1⟩:∃ b:Bool,b=planB P:=⟨_,rfl⟩
 obtain⟨b2,hb2⟩:∃ b:Bool,b=fmtsB fm:=⟨_,rfl⟩
 obtain⟨b3,hb3⟩:∃ b:Bool,b=demsB P.net ds:=⟨_,rfl⟩
 obtain⟨b4,hb4⟩:∃ b:Bool,b=inB fit 1 3:=⟨_,rfl⟩
 rw[← hb1] at HC1
 rw[← hb2] at HC2
 rw[← hb3] at HC3
 rw[← hb4] at HC4
 rw[← hb1,← hb2,← hb3,← hb4]
 clear hb1 hb2 hb3 hb4
 cases b1
 ·simp only[Bool.false_and]
  go_enter Tryz.func77,Tryz.ntmps77
  go_wp2_with fail
  rw[← HW2.out]
  refine(HC1.out).mono ?_
  rintro e w1 ⟨rfl,hb⟩
  have HF11:Hid (Fresh W2 w1):=hb
  clear hb
  go_wp2
  go_ret
  exact⟨rfl,fstep HF2.out HF11.out⟩
 cases b2
 ·simp only[Bool.false_and,Bool.and_false]
  go_enter Tryz.func77,Tryz.ntmps77
  go_wp2_with fail
  rw[← HW2.out]
  refine(HC1.out).mono ?_
  rintro e w1 ⟨rfl,hb⟩
  have HF11:Hid (Fresh W2 w1):=hb
  clear hb
  go_wp2_with fail
  refine(HC2.out w1 (HF11.out)).mono ?_
  rintro e w2 ⟨rfl,hb⟩
  have HF12:Hid (Fresh W2 w2):=fstep HF11.out hb
  have a0:=(HR2.out.keep HF12.out).cell (i:=0) rfl
  have a1:=(HR2.out.keep HF12.out).cell (i:=1) rfl
  clear hb
  go_wp2
  go_ret
  exact⟨rfl,fstep HF2.out HF12.out⟩
 cases b3
 ·simp only[Bool.false_and,Bool.and_false,Bool.true_and]
  go_enter Tryz.func77,Tryz.ntmps77
  go_wp2_with fail
  rw[← HW2.out]
  refine(HC1.out).mono ?_
  rintro e w1 ⟨rfl,hb⟩
  have HF11:Hid (Fresh W2 w1):=hb
  clear hb
  go_wp2_with fail
  refine(HC2.out w1 (HF11.out)).mono ?_
  rintro e w2 ⟨rfl,hb⟩
  have HF12:Hid (Fresh W2 w2):=fstep HF11.out hb
  have a0:=(HR2.out.keep HF12.out).cell (i:=0) rfl
  have a1:=(HR2.out.keep HF12.out).cell (i:=1) rfl
  clear hb
  go_wp2_with fail
  refine(HC3.out w2 (HF12.out)).mono ?_
  rintro e w3 ⟨rfl,hb⟩
  have HF13:Hid (Fresh W2 w3):=fstep HF12.out hb
  clear hb
  go_wp2
  go_ret
  exact⟨rfl,fstep HF2.out HF13.out⟩
 simp only[Bool.true_and]
 go_enter Tryz.func77,Tryz.ntmps77
 go_wp2_with fail
 rw[← HW2.out]
 refine(HC1.out).mono ?_
 rintro e w1 ⟨rfl,hb⟩
 have HF11:Hid (Fresh W2 w1):=hb
 clear hb
 go_wp2_with fail
 refine(HC2.out w1 (HF11.out)).mono ?_
 rintro e w2 ⟨rfl,hb⟩
 have HF12:Hid (Fresh W2 w2):=fstep HF11.out hb
 have a0:=(HR2.out.keep HF12.out).cell (i:=0) rfl
 have a1:=(HR2.out.keep HF12.out).cell (i:=1) rfl
 clear hb
 go_wp2_with fail
 refine(HC3.out w2 (HF12.out)).mono ?_
 rintro e w3 ⟨rfl,hb⟩
 have HF13:Hid (Fresh W2 w3):=fstep HF12.out hb
 clear hb
 go_wp2_with fail
 refine(HC4.out w3).mono ?_
 rintro e w4 ⟨rfl,hw4⟩
 first|subst hw4|cases hw4
 go_wp2
 go_ret
 exact⟨rfl,fstep HF2.out HF13.out⟩
end Go.Proofs.YteckjlkhopkogaaGreat
