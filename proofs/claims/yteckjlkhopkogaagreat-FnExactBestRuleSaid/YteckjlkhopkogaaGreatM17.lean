/- Texts of mine laid together (Cs, Cs2). -/
import Derived.Test.YteckjlkhopkogaaGreatV5
import Derived.Test.YteckjlkhopkogaaGreatY3
import Derived.Deep.DeepCutAuto
namespace Go.Proofs.YteckjlkhopkogaaGreat
open Go.RowKit Go.PlainAid
theorem chF_k (n:Net) (fm:List (Int × Int)) (d:Fib):0≤(chF n fm d).2.1∧(chF n fm d).2.1≤24:=by
 unfold chF
 cases e:ordV (usF n fm d).1 with
 | nil=>exact⟨Int.le_refl _,by decide⟩
 | cons c t =>
  show 0≤c.2∧c.2≤24
  have hm:c∈(usF n fm d).1:=ordL_mem (K:=kCV) (d:=((0,[]),0)) (by show c∈ordV _;rw[e];exact List.mem_cons_self)
  cases hok:usOk n fm d
  ·rw[fibs_none hok] at hm;cases hm
  ·rw[usF_yes hok] at hm
   have hu:usB n fm d=true:=by unfold usOk at hok;simp only[Bool.and_eq_true] at hok;exact hok.1
   obtain⟨h1,h2,_,h3,_,h4,_,_⟩:=usB_at hu
   have hm2:c∈usL n fm d.len (allR n d.a d.b):=hm
   obtain⟨_,m2,m3⟩:=usL_mem h2 h3 hm2
   exact⟨by omega,m3⟩
def costF (n:Net) (fm:List (Int × Int)) (d:Fib):Int:=(chF n fm d).2.1 * ((chF n fm d).1.2.length:Int)
theorem costF_fit (n:Net) (fm:List (Int × Int)) (d:Fib):0≤costF n fm d∧costF n fm d≤25165824:=by
 have h1:=chF_k n fm d
 have h2:(chF n fm d).1.2.length≤1048576:=chF_small n fm d
 exact cost_fit (x:=⟨0,none,(chF n fm d).1.2.length,0,(chF n fm d).2.1⟩) ⟨h1.1,h1.2,h2⟩
def costB (n:Net) (fm:List (Int × Int)) (l:List Fib):Bool:=fmtsB fm && (demsB n l && l.all fun d=>(chF n fm d).2.2)
def costL (n:Net) (fm:List (Int × Int)) (l:List Fib):List Int:=if costB n fm l then l.map (costF n fm) else []
theorem costL_no {n:Net} {fm:List (Int × Int)} {l:List Fib} (h:costB n fm l=false):costL n fm l=[]:=by unfold costL;rw[h];rfl
theorem costL_yes {n:Net} {fm:List (Int × Int)} {l:List Fib} (h:costB n fm l=true):costL n fm l=l.map (costF n fm):=by unfold costL;rw[h];rfl
theorem costB_fm {n:Net} {fm:List (Int × Int)} {l:List Fib} (h:fmtsB fm=false):costB n fm l=false:=by unfold costB;rw[h];rfl
theorem costB_dm {n:Net} {fm:List (Int × Int)} {l:List Fib} (h:demsB n l=false):costB n fm l=false:=by unfold costB;rw[h];simp
theorem costB_ch {n:Net} {fm:List (Int × Int)} {l:List Fib} {j:Nat} {d:Fib} (hx:l[j]?=some d) (h:(chF n fm d).2.2=false):costB n fm l=false:=by
 have:(l.all fun d=>(chF n fm d).2.2)=false:=by rw[List.all_eq_false];exact⟨d,List.mem_of_getElem? hx,by simp[h]⟩
 unfold costB;rw[this];simp
theorem costB_end {n:Net} {fm:List (Int × Int)} {l:List Fib} (h1:fmtsB fm=true) (h2:demsB n l=true) (h:∀ d∈l,(chF n fm d).2.2=true):costB n fm l=true:=by
 have:(l.all fun d=>(chF n fm d).2.2)=true:=by rw[List.all_eq_true];exact h
 unfold costB;rw[h1,h2,this];rfl
theorem demsB_len {n:Net} {l:List Fib} (h:demsB n l=true):l.length≤12:=by
 unfold demsB at h;simp only[Bool.and_eq_true,decide_eq_true_eq] at h;exact h.1.1
theorem costL_len (n:Net) (fm:List (Int × Int)) (l:List Fib):(costL n fm l).length≤12:=by
 cases h:costB n fm l
 ·rw[costL_no h];exact Nat.zero_le _
 ·rw[costL_yes h,List.length_map]
  unfold costB at h;simp only[Bool.and_eq_true] at h;exact demsB_len h.2.1
def OutCo (n:Net) (fm:List (Int × Int)) (l:List Fib) (w:World) (e:Ending) (w':World):Prop:=∃ (L:List Int) (q:Option Addr) (k:Nat),e=.returned (.tuple #[.slice q L.length k,.bool (costB n fm l)])∧Own w' w.heap.size 3 q (L.map iv)∧(costB n fm l=true→L=costL n fm l)∧Fresh w w'
set_option maxHeartbeats 4000000 in
set_option maxRecDepth 20000 in
theorem costsOf_any (v:Value) (n:Net) (pf:Option Addr) (cf:Nat) (fm:List (Int × Int)) (p:Option Addr) (c:Nat) (l:List Fib) (w:World) (h:NetIn w v n) (hfm:Prs w pf fm) (hfl:fm.length≤1048576) (hl:Fibs w p l) (hln:l.length≤1048576) :
  Calls Tryz.prog 131 #[v,.slice pf fm.length cf,.slice p l.length c] w fun e w'=>∃ q k,e=.returned (.tuple #[.slice q (costL n fm l).length k,.bool (costB n fm l)])∧Own w' w.heap.size 3 q ((costL n fm l).map iv)∧Fresh w w':=by
 have HN:=Lib.hid h
 have HP:=Lib.hid hfm
 have HL:=Lib.hid hl
 obtain⟨qn,cn,pn,cp,rfl,_,_,n1,_,_,_,_⟩:=h
 obtain⟨W2,hW2⟩:∃ W,W=w.alloc (.cells #[.slice qn n.nodes.length cn,.slice pn n.fibers.length cp] 35):=⟨_,rfl⟩
 have hf2:Fresh w W2:=by rw[hW2];exact fnew (frefl _) _
 have hr2:RowAt W2 w.heap.size 35 [.slice qn n.nodes.length cn,.slice pn n.fibers.length cp]:=by rw[hW2];exact RowAt.new _ _ _
 have HF2:=Lib.hid hf2
 have HR2:=Lib.hid hr2
 have HW2:=Lib.hid hW2
 have H1:=Lib.hid (implIsValidFormats_any pf cf fm W2 (HP.out.keep hf2) hfl)
 have H2:Hid (∀ W,Fresh W2 W→Calls Tryz.prog 129 #[.agg #[.slice qn n.nodes.length cn,.slice pn n.fibers.length cp],.slice p l.length c] W fun e w'=>e=.returned (.bool (demsB n l))∧Fresh W w'):=fun W hW=>implIsValidDemands_any _ n p c l W (HN.out.keep (fstep hf2 hW)) (HL.out.keep (fstep hf2 hW)) hln
 have H3:Hid (∀ W d,Fresh W2 W→Calls Tryz.prog 179 #[.agg #[.slice qn n.nodes.length cn,.slice pn n.fibers.length cp],.slice pf fm.length cf,fibV d] W (OutCh n fm d W)):=fun W d hW=>cheapest_any _ n pf cf fm d W (HN.out.keep (fstep hf2 hW)) (HP.out.keep (fstep hf2 hW)) hfl
 have hsz:=hf2.size
 have HEND:Hid (∀ W,Fresh W2 W→costB n fm l=false→∃ q k,Ending.returned (.tuple #[.slice none 0 0,.bool false])=.returned (.tuple #[.slice q (costL n fm l).length k,.bool (costB n fm l)])∧Own W w.heap.size 3 q ((costL n fm l).map iv)∧Fresh w W):=fun W hW hno=>⟨none,0,by rw[costL_no hno,hno];rfl,Or.inl ⟨rfl,by rw[costL_no hno];rfl⟩,fstep HF2.out hW⟩
 clear hfm hl hf2 hr2 hW2
 go_enter Tryz.func131,Tryz.ntmps131
 go_wp2_with fail
 rw[← HW2.out]
 refine(H1.out).mono ?_
 rintro e w3 ⟨rfl,hf⟩
 have HF3:=Lib.hid hf
 have a0:=(HR2.out.keep hf).cell (i:=0) rfl
 have a1:=(HR2.out.keep hf).cell (i:=1) rfl
 clear hf H1
 cases hfv:fmtsB fm
 ·have HNO:=Lib.hid (costB_fm (n:=n) (l:=l) hfv)
  clear hfv
  go_wp2
  go_ret2
  exact HEND.out _ HF3.out HNO.out
 have HFV:=Lib.hid hfv
 clear hfv
 go_wp2_with fail
 refine(H2.out _ HF3.out).mono ?_
 rintro e w4 ⟨rfl,hf⟩
 have HF4:=Lib.hid (fstep HF3.out hf)
 clear hf H2 a0 a1
 cases hdv:demsB n l
 ·have HNO:=Lib.hid (costB_dm (fm:=fm) hdv)
  clear hdv
  go_wp2
  go_ret2
  exact HEND.out _ HF4.out HNO.out
 have HDV:=Lib.hid hdv
 have hl12:=demsB_len hdv
 clear hdv
 have HO0:=Lib.hid (show(w4.alloc (.cells #[] 3)).ownsRow W2.heap.size 3 1 (.slice (some ⟨w4.heap.size,0,none⟩) 0 0) 0 [] from ownsRow_zero (RowAt.new w4 3 []) HF4.out.size)
 have HF5:=Lib.hid (fstep HF4.out (fnew (frefl w4) (.cells #[] 3)))
 go_wp2
 go_loopw [8,25] (fun o i wr=>∃ j:Nat,j≤l.length∧i=.int .i64 j∧wr.ownsRow W2.heap.size 3 1 o ((l.take j).map (costF n fm)).length (((l.take j).map (costF n fm)).map iv)∧Hid (∀ d∈l.take j,(chF n fm d).2.2=true)∧Fresh W2 wr) (fun _ i _=>l.length - (intOf i).toNat)
 case atStart=>exact⟨0,Nat.zero_le _,rfl,HO0.out,(by show ∀ d∈_,_;intro d hd;simp at hd),HF5.out⟩
 case round =>
  obtain⟨j,hj,rfl,hown,HALL,hf⟩:=hrel
  clear HO0
  by_cases hlt:j<l.length
  ·have hltz:(j:Int)<(l.length:Int):=by omega
   obtain⟨b,off,x0,x1,x2,x3,hpp,hx,c0,c1,c2,c3⟩:=(HL.out.keep (fstep HF2.out hf)).at hlt
   subst hpp
   have HX:=Lib.hid hx
   have HTK:Hid (l.take (j+1)=l.take j++[⟨x0,x1,x2,x3⟩]):=by show _=_;rw[List.take_add_one,hx];rfl
   obtain⟨W5,hW5⟩:∃ W,W=wr.alloc (.cells #[.int .i64 x0,.int .i64 x1,.int .i64 x2,.int .i64 x3] 59):=⟨_,rfl⟩
   have hf5:Fresh wr W5:=by rw[hW5];exact fnew (frefl _) _
   have HF6:=Lib.hid (fstep hf hf5)
   have HO:=Lib.hid (ownsRow_keep hown hf5)
   have a0:=(HR2.out.keep hf).cell (i:=0) rfl
   have a1:=(HR2.out.keep hf).cell (i:=1) rfl
   have a0':=fun o:Obj=>fkeep (fnew (frefl wr) o) a0
   have a1':=fun o:Obj=>fkeep (fnew (frefl wr) o) a1
   have HW5:=Lib.hid hW5
   obtain⟨I,hI⟩:∃ I,I=(l.take j).map (costF n fm):=⟨_,rfl⟩
   have hil:I.length≤12:=by rw[hI];simp;omega
   rw[← hI] at HO
   have HII:=Lib.hid hI
   have HC:Hid (Calls Tryz.prog 179 #[.agg #[.slice qn n.nodes.length cn,.slice pn n.fibers.length cp],.slice pf fm.length cf,.agg #[.int .i64 x0,.int .i64 x1,.int .i64 x2,.int .i64 x3]] W5 (OutCh n fm ⟨x0,x1,x2,x3⟩ W5)):=H3.out W5 ⟨x0,x1,x2,x3⟩ HF6.out
   have HCF:=Lib.hid (costF_fit n fm ⟨x0,x1,x2,x3⟩)
   have hk24:=chF_k n fm ⟨x0,x1,x2,x3⟩
   have hsm:(chF n fm ⟨x0,x1,x2,x3⟩).1.2.length≤1048576:=chF_small n fm ⟨x0,x1,x2,x3⟩
   unfold OutCh at HC
   have HCD:Hid (costF n fm ⟨x0,x1,x2,x3⟩=(chF n fm ⟨x0,x1,x2,x3⟩).2.1 * ((chF n fm ⟨x0,x1,x2,x3⟩).1.2.length:Int)):=rfl
   obtain⟨⟨⟨rs,rl⟩,kk,ok⟩,hch⟩:∃ z,z=chF n fm ⟨x0,x1,x2,x3⟩:=⟨_,rfl⟩
   rw[← hch] at HC hk24 hsm HCD
   have HCH:=Lib.hid hch
   simp only at HC hk24 hsm HCD
   clear hx hf5 hown hf hW5 hI hch
   go_wp2_with fail
   rw[← HW5.out]
   refine(HC.out).mono ?_
   rintro e w6 ⟨q,k,rfl,_,hf⟩
   have HF7:=Lib.hid (fstep HF6.out hf)
   have HO6:=Lib.hid (ownsRow_keep HO.out hf)
   clear hf c0 c1 c2 c3 a0 a1 a0' a1' HC HO HW5
   cases ok
   ·have HNO:Hid (costB n fm l=false):=costB_ch HX.out (by rw[← HCH.out])
    go_wp2
    go_ret2
    exact HEND.out _ (fstep HF7.out (fnew (frefl _) _)) HNO.out
   ·obtain⟨W7,hW7⟩:∃ W,W=w6.alloc (.cells #[.int .i64 rs,.slice q rl.length k,.int .i64 kk] 150):=⟨_,rfl⟩
    have hf7:Fresh w6 W7:=by rw[hW7];exact fnew (frefl _) _
    have HF8:=Lib.hid (fstep HF7.out hf7)
    have HO8:=Lib.hid (ownsRow_keep HO6.out hf7)
    have HCO:Hid (Calls Tryz.prog 169 #[.agg #[.int .i64 rs,.slice q rl.length k,.int .i64 kk]] W7 fun e w'=>e=.returned (.int .i64 (kk * (rl.length:Int)))∧Fresh W7 w'):=cost_any ⟨rs,q,rl.length,k,kk⟩ ⟨hk24.1,hk24.2,hsm⟩ W7
    obtain⟨cc,hcc⟩:∃ z,z=kk * (rl.length:Int):=⟨_,rfl⟩
    rw[← hcc] at HCO HCD
    have HW7:=Lib.hid hW7
    clear hf7 hW7 hcc HO6
    go_wp2_with fail
    rw[← HW7.out]
    refine(HCO.out).mono ?_
    rintro e w8 ⟨rfl,hf⟩
    have hown8:=ownsRow_keep HO8.out hf
    have HF9:=Lib.hid (fstep HF8.out hf)
    clear hf HCO HW7 hk24 hsm
    go_wp2_with (at_builtin;refine wpList_app_ints W2 w8 _ I cc rfl _ _ rfl rfl hown8 rfl (by omega) HF9.out ?_;intro v' w9 hown9 hf9)
    have HO9:=Lib.hid hown9
    have HFX:=Lib.hid hf9
    clear hown8 hown9 hf9
    go_wp2
    go_roundw
    case rel =>
     refine⟨j+1,hlt,by go_num,?_,?_,HFX.out⟩
     ·rw[HTK.out,List.map_append,← HII.out]
      show World.ownsRow _ _ _ _ _ (I++[costF n fm ⟨x0,x1,x2,x3⟩]).length ((I++[costF n fm ⟨x0,x1,x2,x3⟩]).map iv)
      rw[HCD.out]
      exact HO9.out
     ·show ∀ d∈_,_
      intro d hd
      rw[HTK.out] at hd
      rcases List.mem_append.1 hd with hd|hd
      ·exact HALL.out d hd
      ·rw[List.mem_singleton.1 hd,← HCH.out]
    case measure=>simp[intOf];omega
  ·have hltz:¬ (j:Int)<(l.length:Int):=by omega
   have hje:j=l.length:=by omega
   have HYES:Hid (costB n fm l=true):=costB_end HFV.out HDV.out (by have:=HALL.out;rwa [hje,List.take_length] at this)
   rw[hje,List.take_length] at hown
   have HO:=Lib.hid hown
   have HF:=Lib.hid hf
   clear hown hf hje
   go_wp2
   go_ret2
   obtain⟨q,k,rfl,ho⟩:=own_of_row HO.out
   rw[HYES.out,costL_yes HYES.out]
   first|exact⟨q,k,rfl,ho.mono hsz,fstep HF2.out HF.out⟩|exact⟨q,⟨k,rfl⟩,ho.mono hsz,fstep HF2.out HF.out⟩
theorem kq_2a4 {w1 w2:World} {a b b1 b2 b3 b4:Nat} {u0 u1 v0 v1 v2 v3:Value} (h:w1.cell? ⟨a,0,none⟩=some u0∧w1.cell? ⟨a,1,none⟩=some u1∧w1.cell? ⟨b,b1,none⟩=some v0∧w1.cell? ⟨b,b2,none⟩=some v1∧w1.cell? ⟨b,b3,none⟩=some v2∧w1.cell? ⟨b,b4,none⟩=some v3) (hb:Fresh w1 w2) :
  w2.cell? ⟨a,0,none⟩=some u0∧w2.cell? ⟨a,1,none⟩=some u1∧w2.cell? ⟨b,b1,none⟩=some v0∧w2.cell? ⟨b,b2,none⟩=some v1∧w2.cell? ⟨b,b3,none⟩=some v2∧w2.cell? ⟨b,b4,none⟩=some v3 :=
 ⟨fkeep hb h.1,fkeep hb h.2.1,fkeep hb h.2.2.1,fkeep hb h.2.2.2.1,fkeep hb h.2.2.2.2.1,fkeep hb h.2.2.2.2.2⟩
set_option maxHeartbeats 4000000 in
set_option maxRecDepth 20000 in
theorem l10Costs_any (v:Value) (n:Net) (pf:Option Addr) (cf:Nat) (fm:List (Int × Int)) (p:Option Addr) (c:Nat) (l:List Fib) (w:World) (h:NetIn w v n) (hfm:Prs w pf fm) (hfl:fm.length≤1048576) (hl:Fibs w p l) (hln:l.length≤1048576) :
  Calls Tryz.prog 130 #[v,.slice pf fm.length cf,.slice p l.length c] w (OutCo n fm l w):=by
 have HN:=Lib.hid h
 have HP:=Lib.hid hfm
 have HL:=Lib.hid hl
 obtain⟨qn,cn,pn,cp,rfl,_,_,n1,_,_,_,_⟩:=h
 obtain⟨W2,hW2⟩:∃ W,W=(w.alloc (.cells #[.slice qn n.nodes.length cn,.slice pn n.fibers.length cp] 35)).alloc (.cells #[] 3):=⟨_,rfl⟩
 have hf2:Fresh w W2:=by rw[hW2];exact fnew (fnew (frefl _) _) _
 have hr2:RowAt W2 w.heap.size 35 [.slice qn n.nodes.length cn,.slice pn n.fibers.length cp]:=by rw[hW2];exact(RowAt.new _ _ _).alloc _
 have hr0:RowAt W2 (w.heap.size+1) 3 []:=by
  rw[hW2]
  have:=RowAt.new (w.alloc (.cells #[.slice qn n.nodes.length cn,.slice pn n.fibers.length cp] 35)) 3 []
  simpa using this
 obtain⟨B,hB⟩:∃ B:World,B=w.alloc (.cells #[.slice qn n.nodes.length cn,.slice pn n.fibers.length cp] 35):=⟨_,rfl⟩
 have hBs:B.heap.size=w.heap.size+1:=by rw[hB];simp
 have hfB:Fresh B W2:=by rw[hB,hW2];exact fnew (frefl _) _
 have hfB0:Fresh w B:=by rw[hB];exact fnew (frefl _) _
 have hrB:RowAt B w.heap.size 35 [.slice qn n.nodes.length cn,.slice pn n.fibers.length cp]:=by rw[hB];exact RowAt.new _ _ _
 have HF2:=Lib.hid hf2
 have HR2:=Lib.hid hr2
 have HW2:=Lib.hid hW2
 have HFB:=Lib.hid hfB
 have HFB0:=Lib.hid hfB0
 have HRB:=Lib.hid hrB
 have HO2:Hid (W2.ownsRow B.heap.size 3 1 (.slice (some ⟨w.heap.size+1,0,none⟩) 0 0) 0 []):=ownsRow_zero hr0 (by omega)
 have H1:Hid (∀ W,Fresh W2 W→Calls Tryz.prog 107 #[.slice pf fm.length cf] W fun e w'=>e=.returned (.bool (fmtsB fm))∧Fresh W w'):=fun W hW=>l10Formats_any pf cf fm W (HP.out.keep (fstep hf2 hW)) hfl
 have H2:=Lib.hid (l10Demands_any (.agg #[.slice qn n.nodes.length cn,.slice pn n.fibers.length cp]) n p c l W2 (HN.out.keep hf2) (HL.out.keep hf2) hln)
 have H3:Hid (∀ W d,Fresh B W→Calls Tryz.prog 178 #[.agg #[.slice qn n.nodes.length cn,.slice pn n.fibers.length cp],.slice pf fm.length cf,fibV d] W (OutCr n fm d W)):=fun W d hW=>specCheapestRoute_any _ n pf cf fm d W (HN.out.keep (fstep hfB0 hW)) (HP.out.keep (fstep hfB0 hW)) hfl
 have hszB:=hfB0.size
 have HEND:Hid (∀ W o (I:List Int),W.ownsRow B.heap.size 3 1 o I.length (I.map iv)→Fresh B W→costB n fm l=false→OutCo n fm l w (.returned (.tuple #[o,.bool false])) W):=fun W o I ho hW hno=>by
  obtain⟨q,k,rfl,ho9⟩:=own_of_row ho
  exact⟨I,q,k,by rw[hno],ho9.mono hszB,(fun h=>by rw[hno] at h;exact Bool.noConfusion h),fstep HFB0.out hW⟩
 clear hfm hl hf2 hr2 hr0 hW2 hB hfB hfB0 hrB
 go_enter Tryz.func130,Tryz.ntmps130
 go_wp2_with fail
 rw[← HW2.out]
 refine(H2.out).mono ?_
 rintro e w3 ⟨rfl,hf⟩
 have HF3:=Lib.hid hf
 have HO3:=Lib.hid (ownsRow_keep HO2.out hf)
 clear hf H2
 cases hdv:demsB n l
 ·have HNO:=Lib.hid (costB_dm (fm:=fm) hdv)
  clear hdv
  go_wp2
  go_ret2
  exact HEND.out _ _ [] HO3.out (fstep HFB.out HF3.out) HNO.out
 have HDV:=Lib.hid hdv
 have hl12:=demsB_len hdv
 clear hdv
 go_wp2_with fail
 refine(H1.out _ HF3.out).mono ?_
 rintro e w4 ⟨rfl,hf⟩
 have HF4:=Lib.hid (fstep HFB.out (fstep HF3.out hf))
 have HO4:=Lib.hid (ownsRow_keep HO3.out hf)
 clear hf H1
 cases hfv:fmtsB fm
 ·have HNO:=Lib.hid (costB_fm (n:=n) (l:=l) hfv)
  clear hfv
  go_wp2
  go_ret2
  exact HEND.out _ _ [] HO4.out HF4.out HNO.out
 have HFV:=Lib.hid hfv
 clear hfv
 go_wp2
 go_loopw [8,9] (fun o i wr=>∃ j:Nat,j≤l.length∧i=.int .i64 j∧wr.ownsRow B.heap.size 3 1 o ((l.take j).map (costF n fm)).length (((l.take j).map (costF n fm)).map iv)∧Hid (∀ d∈l.take j,(chF n fm d).2.2=true)∧Fresh B wr) (fun _ i _=>l.length - (intOf i).toNat)
 case atStart=>exact⟨0,Nat.zero_le _,rfl,HO4.out,(by show ∀ d∈_,_;intro d hd;simp at hd),HF4.out⟩
 case round =>
  obtain⟨j,hj,rfl,hown,HALL,hf⟩:=hrel
  by_cases hlt:j<l.length
  ·have hltz:(j:Int)<(l.length:Int):=by omega
   obtain⟨b,off,x0,x1,x2,x3,hpp,hx,c0,c1,c2,c3⟩:=(HL.out.keep (fstep HFB0.out hf)).at hlt
   subst hpp
   have HX:=Lib.hid hx
   have HTK:Hid (l.take (j+1)=l.take j++[⟨x0,x1,x2,x3⟩]):=by show _=_;rw[List.take_add_one,hx];rfl
   have HFR:=Lib.hid hf
   have HO:=Lib.hid hown
   have a0:=(HRB.out.keep hf).cell (i:=0) rfl
   have a1:=(HRB.out.keep hf).cell (i:=1) rfl
   obtain⟨I,hI⟩:∃ I,I=(l.take j).map (costF n fm):=⟨_,rfl⟩
   have hil:I.length≤12:=by rw[hI];simp;omega
   rw[← hI] at HO
   have HII:=Lib.hid hI
   have HC:Hid (∀ W,Fresh B W→Calls Tryz.prog 178 #[.agg #[.slice qn n.nodes.length cn,.slice pn n.fibers.length cp],.slice pf fm.length cf,.agg #[.int .i64 x0,.int .i64 x1,.int .i64 x2,.int .i64 x3]] W (OutCr n fm ⟨x0,x1,x2,x3⟩ W)):=fun W hW=>H3.out W ⟨x0,x1,x2,x3⟩ hW
   have HCF:=Lib.hid (costF_fit n fm ⟨x0,x1,x2,x3⟩)
   have HCD:Hid (costF n fm ⟨x0,x1,x2,x3⟩=(chF n fm ⟨x0,x1,x2,x3⟩).2.1 * ((chF n fm ⟨x0,x1,x2,x3⟩).1.2.length:Int)):=rfl
   have hsm:(chF n fm ⟨x0,x1,x2,x3⟩).1.2.length≤1048576:=chF_small n fm ⟨x0,x1,x2,x3⟩
   unfold OutCr RtOwn at HC
   obtain⟨⟨⟨rs,rl⟩,kk,ok⟩,hch⟩:∃ z,z=chF n fm ⟨x0,x1,x2,x3⟩:=⟨_,rfl⟩
   rw[← hch] at HC HCD hsm
   have HCH:=Lib.hid hch
   simp only at HC HCD hsm
   have HSS:wr.cell? ⟨w.heap.size,0,none⟩=some (.slice qn n.nodes.length cn)∧wr.cell? ⟨w.heap.size,1,none⟩=some (.slice pn n.fibers.length cp)∧wr.cell? ⟨b,off+j * 4,none⟩=some (.int .i64 x0)∧wr.cell? ⟨b,off+j * 4+1,none⟩=some (.int .i64 x1)∧wr.cell? ⟨b,off+j * 4+2,none⟩=some (.int .i64 x2)∧wr.cell? ⟨b,off+j * 4+3,none⟩=some (.int .i64 x3):=⟨a0,a1,c0,c1,c2,c3⟩
   clear hx hf hown hI hch c0 c1 c2 c3 a0 a1
   go_upto_region 7 with fail
   refine hd_start (n:=14) (S:=fun w'=>w'.cell? ⟨w.heap.size,0,none⟩=some (.slice qn n.nodes.length cn)∧w'.cell? ⟨w.heap.size,1,none⟩=some (.slice pn n.fibers.length cp)∧w'.cell? ⟨b,off+j * 4,none⟩=some (.int .i64 x0)∧w'.cell? ⟨b,off+j * 4+1,none⟩=some (.int .i64 x1)∧w'.cell? ⟨b,off+j * 4+2,none⟩=some (.int .i64 x2)∧w'.cell? ⟨b,off+j * 4+3,none⟩=some (.int .i64 x3)) (by kernel_rfl) (by kernel_rfl) (kq_2a4 HSS (fdrew (frefl _))) (fun hHeld=>?_)
   obtain⟨Wz,hWz⟩:∃ W,W=wr.drew:=⟨_,rfl⟩
   rw[← hWz] at hHeld ⊢
   have f0:Fresh wr Wz:=by rw[hWz];exact fdrew (frefl _)
   clear hWz
   refine hd_tk (i:=0) (v:=?_) rfl ?_ ?_
   rotate_left
   ·(intro w hSw;(try dsimp only at hSw);go_simp;first|done|with_reducible rfl)
   refine hd_tk (i:=1) (v:=?_) rfl ?_ ?_
   rotate_left
   ·(intro w hSw;(try dsimp only at hSw);go_simp;first|done|with_reducible rfl)
   refine hd_tk (i:=2) (v:=?_) rfl ?_ ?_
   rotate_left
   ·(intro w hSw;(try dsimp only at hSw);go_simp;first|done|with_reducible rfl)
   refine hd_tk (i:=3) (v:=?_) rfl ?_ ?_
   rotate_left
   ·(intro w hSw;(try dsimp only at hSw);go_simp;first|done|with_reducible rfl)
   refine hd_tk (i:=4) (v:=?_) rfl ?_ ?_
   rotate_left
   ·(intro w hSw;(try dsimp only at hSw);go_simp;first|done|with_reducible rfl)
   refine hd_tk (i:=5) (v:=?_) rfl ?_ ?_
   rotate_left
   ·(intro w hSw;(try dsimp only at hSw);go_simp;first|done|with_reducible rfl)
   refine hd_ready (rs:=[6,11]) (by kernel_rfl) (by simp) ?_
   refine hd_cons (i:=6) rfl (by kernel_rfl) (fun K hK=>?_) ?_
   focus
    go_simp
    go_at_call 178
    refine(HC.out _ (fstep HFR.out f0)).mono ?_
    rintro e wk ⟨v',rfl,⟨q,k,rfl,_⟩,hb⟩
    have f1:=fstep f0 hb
    go_wp2_with fail
    refine hK.out _ _ ?_ (fun hHeld=>?_)
    ·exact kq_2a4 HSS f1
    clear hK K
    try simp only[Act.put,List.getElem_toArray,List.getElem_cons_succ,List.getElem_cons_zero,List.setIfInBounds_toArray,List.set_cons_zero,List.set_cons_succ]
    refine hd_tk (i:=7) (v:=?_) rfl ?_ ?_
    rotate_left
    ·(intro w hSw;(try dsimp only at hSw);go_simp;first|done|with_reducible rfl)
    refine hd_tk (i:=8) (v:=?_) rfl ?_ ?_
    rotate_left
    ·(intro w hSw;(try dsimp only at hSw);go_simp;first|done|with_reducible rfl)
    refine hd_tk (i:=9) (v:=?_) rfl ?_ ?_
    rotate_left
    ·(intro w hSw;(try dsimp only at hSw);go_simp;first|done|with_reducible rfl)
    refine hd_tk (i:=10) (v:=?_) rfl ?_ ?_
    rotate_left
    ·(intro w hSw;(try dsimp only at hSw);go_simp;first|done|with_reducible rfl)
    refine hd_one (i:=11) rfl (by kernel_rfl) (by kernel_rfl) (fun K hK=>?_)
    go_simp
    obtain⟨wl,hwa⟩:∃ W,W=wk.alloc (.cells #[.int .i64 0,.slice none 0 0] 90):=⟨_,rfl⟩
    rw[← hwa]
    have hba:Fresh wk wl:=by rw[hwa];exact fnew (frefl _) _
    obtain⟨gb,hgb⟩:∃ g,g=wk.heap.size:=⟨_,rfl⟩
    have ra:RowAt wl gb 90 [.int .i64 0,.slice none 0 0]:=by rw[hwa,hgb];exact RowAt.new _ _ _
    have hga:wr.heap.size≤gb:=by rw[hgb];exact f1.size
    have f2:=fstep f1 hba
    rw[← hgb]
    clear hwa hgb hba f1 hb
    refine hK.out _ _ ?_ (fun hHeld=>?_)
    ·exact kq_2a4 HSS f2
    clear hK K
    try simp only[Act.put,List.getElem_toArray,List.getElem_cons_succ,List.getElem_cons_zero,List.setIfInBounds_toArray,List.set_cons_zero,List.set_cons_succ]
   rotate_left
   focus
    refine hd_cons (i:=11) rfl (by kernel_rfl) (fun K hK=>?_) hd_nil
    go_simp
    obtain⟨wk,hwa⟩:∃ W,W=Wz.alloc (.cells #[.int .i64 0,.slice none 0 0] 90):=⟨_,rfl⟩
    rw[← hwa]
    have hba:Fresh Wz wk:=by rw[hwa];exact fnew (frefl _) _
    obtain⟨gb,hgb⟩:∃ g,g=Wz.heap.size:=⟨_,rfl⟩
    have ra0:RowAt wk gb 90 [.int .i64 0,.slice none 0 0]:=by rw[hwa,hgb];exact RowAt.new _ _ _
    have hga:wr.heap.size≤gb:=by rw[hgb];exact f0.size
    have f1:=fstep f0 hba
    rw[← hgb]
    clear hwa hgb hba
    refine hK.out _ _ ?_ (fun hHeld=>?_)
    ·exact kq_2a4 HSS f1
    clear hK K
    try simp only[Act.put,List.getElem_toArray,List.getElem_cons_succ,List.getElem_cons_zero,List.setIfInBounds_toArray,List.set_cons_zero,List.set_cons_succ]
    refine hd_one (i:=6) rfl (by kernel_rfl) (by kernel_rfl) (fun K hK=>?_)
    go_simp
    go_at_call 178
    refine(HC.out _ (fstep HFR.out f1)).mono ?_
    rintro e wl ⟨v',rfl,⟨q,k,rfl,_⟩,hb⟩
    have f2:=fstep f1 hb
    have ra:=ra0.keep hb
    go_wp2_with fail
    refine hK.out _ _ ?_ (fun hHeld=>?_)
    ·exact kq_2a4 HSS f2
    clear hK K ra0 f1 hb
    try simp only[Act.put,List.getElem_toArray,List.getElem_cons_succ,List.getElem_cons_zero,List.setIfInBounds_toArray,List.set_cons_zero,List.set_cons_succ]
    refine hd_tk (i:=7) (v:=?_) rfl ?_ ?_
    rotate_left
    ·(intro w hSw;(try dsimp only at hSw);go_simp;first|done|with_reducible rfl)
    refine hd_tk (i:=8) (v:=?_) rfl ?_ ?_
    rotate_left
    ·(intro w hSw;(try dsimp only at hSw);go_simp;first|done|with_reducible rfl)
    refine hd_tk (i:=9) (v:=?_) rfl ?_ ?_
    rotate_left
    ·(intro w hSw;(try dsimp only at hSw);go_simp;first|done|with_reducible rfl)
    refine hd_tk (i:=10) (v:=?_) rfl ?_ ?_
    rotate_left
    ·(intro w hSw;(try dsimp only at hSw);go_simp;first|done|with_reducible rfl)
   all_goals (
    have z0:=ra.cell (i:=0) rfl
    have z1:=ra.cell (i:=1) rfl
    have u0:=ra.frozen 0
    have u1:=ra.frozen 1
    have fs:=(fset (fset f2 hga (o:=0) (.int .i64 rs)) hga (o:=1) (.slice q rl.length k))
    refine hd_one (i:=12) rfl (by kernel_rfl) (by kernel_rfl) (fun K hK=>?_)
    (go_simp)
    refine hK.out _ _ ?_ (fun hHeld=>?_)
    ·exact kq_2a4 HSS fs
    clear hK K
    refine hd_tk (i:=13) (v:=?_) rfl ?_ ?_
    rotate_left
    ·(intro w hSw;(try dsimp only at hSw);go_simp;first|done|with_reducible rfl)
    refine hd_done (by kernel_rfl) ?_
    clear hHeld
    simp only[List.drop_succ_cons,List.drop_zero]
    obtain⟨W7,hW7⟩:∃ W,W=(wl.setCell ⟨gb,0,none⟩ (.int .i64 rs)).setCell ⟨gb,1,none⟩ (.slice q rl.length k):=⟨_,rfl⟩
    rw[← hW7] at fs ⊢
    have hr7:RowAt W7 gb 90 [.int .i64 rs,.slice q rl.length k]:=by rw[hW7];exact(ra.set 0 (.int .i64 rs)).set 1 (.slice q rl.length k)
    have t1:=hr7.cell (i:=1) rfl
    have HF7:=Lib.hid (fstep HFR.out fs)
    have HO7:=Lib.hid (ownsRow_keep HO.out fs)
    clear z0 z1 u0 u1 ra hW7 fs f2 f0 hr7 hga HSS HC HO
    cases ok
    ·have HNO:Hid (costB n fm l=false):=costB_ch HX.out (by rw[← HCH.out])
     go_wp2
     go_ret2
     exact HEND.out _ _ I HO7.out HF7.out HNO.out
    ·obtain⟨cc,hcc⟩:∃ z,z=kk * (rl.length:Int):=⟨_,rfl⟩
     have hcf:=HCF.out
     rw[HCD.out,← hcc] at hcf
     have w1:IntKind.i64.wrap (kk * (rl.length:Int))=cc:=by rw[← hcc,IntKind.wrap_i64] <;> omega
     have hown8:=HO7.out
     rw[← hcc] at HCD
     clear hcc hcf
     go_wp2_with (at_builtin;refine wpList_app_ints B W7 _ I cc rfl _ _ rfl rfl hown8 rfl (by omega) HF7.out ?_;intro v' w9 hown9 hf9)
     have HO9:=Lib.hid hown9
     have HFX:=Lib.hid hf9
     clear hown8 hown9 hf9 t1
     go_wp2
     go_roundw
     case rel =>
      refine⟨j+1,hlt,by go_num,?_,?_,HFX.out⟩
      ·rw[HTK.out,List.map_append,← HII.out]
       show World.ownsRow _ _ _ _ _ (I++[costF n fm ⟨x0,x1,x2,x3⟩]).length ((I++[costF n fm ⟨x0,x1,x2,x3⟩]).map iv)
       rw[HCD.out]
       exact HO9.out
      ·show ∀ d∈_,_
       intro d hd
       rw[HTK.out] at hd
       rcases List.mem_append.1 hd with hd|hd
       ·exact HALL.out d hd
       ·rw[List.mem_singleton.1 hd,← HCH.out]
     case measure=>simp[intOf];omega)
  ·have hltz:¬ (j:Int)<(l.length:Int):=by omega
   have hje:j=l.length:=by omega
   have HYES:Hid (costB n fm l=true):=costB_end HFV.out HDV.out (by have:=HALL.out;rwa [hje,List.take_length] at this)
   rw[hje,List.take_length] at hown
   have HO:=Lib.hid hown
   have HF:=Lib.hid hf
   clear hown hf hje
   go_wp2
   go_ret2
   obtain⟨q,k,rfl,ho⟩:=own_of_row HO.out
   exact⟨_,q,k,by rw[HYES.out];rfl,ho.mono hszB,fun _=>(costL_yes HYES.out).symm,fstep HFB0.out HF.out⟩
end Go.Proofs.YteckjlkhopkogaaGreat
