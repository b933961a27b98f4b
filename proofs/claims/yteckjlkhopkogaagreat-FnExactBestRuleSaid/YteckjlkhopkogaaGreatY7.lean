/- Texts of mine laid together (Al, Al2, DjP, UsP, Us, Us2, Us3). -/
import Derived.Test.YteckjlkhopkogaaGreatSe
import Derived.Laws.EntriesVeiled
import Derived.Test.YteckjlkhopkogaaGreatY6
import Derived.Test.YteckjlkhopkogaaGreatM2
import Derived.Test.YteckjlkhopkogaaGreatM1
import Derived.Test.YteckjlkhopkogaaGreatM19
import Derived.Maps.AppendAt
namespace Go.Proofs.YteckjlkhopkogaaGreat
open Go.RowKit Go.PlainAid
set_option maxHeartbeats 2000000 in
theorem intIndex_any (cl:FuncId) (p:Option Addr) (cap:Nat) (l:List Int) (g:Int→Bool) (cp:Array Value) (w:World) (hl:Ints w p l) (hn:l.length≤1048576) (eg:∀ args w,(callFunc cl args).run Tryz.prog w=.ok (.enter cl args) w)
  (hcl:∀ x∈l,∀ (w':World),Fresh w w'→Calls Tryz.prog cl (#[.int .i64 x]++cp) w' fun e w''=>e=.returned (.bool (g x))∧Fresh w' w'') :
  Calls Tryz.prog 92 #[.slice p l.length cap,.func (.func cl) #[] cp] w fun e w'=>e=.returned (.int .i64 (idxP l g))∧Fresh w w':=by
 have HC:=Lib.hid hcl
 clear hcl
 go_enter Tryz.func92,Tryz.ntmps92
 go_wp2
 go_loopw [5,8] (fun _ i wr=>∃ k:Nat,k≤l.length∧i=.int .i64 k∧(∀ j y,j<k→l[j]?=some y→g y=false)∧Fresh w wr) (fun _ i _=>l.length - (intOf i).toNat)
 case atStart=>exact⟨0,Nat.zero_le _,rfl,fun j y hj=>by omega,frefl _⟩
 case round =>
  obtain⟨k,hk,rfl,hall,hf⟩:=hrel
  have HA:=Lib.hid hall
  clear hall
  have HF:=Lib.hid hf
  by_cases hlt:k<l.length
  ·obtain⟨b,off,x,rfl,hx,hc0⟩:=(hl.keep hf).at hlt
   have hltz:(k:Int)<(l.length:Int):=by omega
   have HM:=Lib.hid (List.mem_of_getElem? hx)
   clear hf
   cases hg:g x
   ·have HE:=Lib.hid (notP HA.out hx hg)
    clear hx
    go_wp2_with fail
    refine(HC.out x HM.out _ HF.out).mono ?_
    rintro e w1 ⟨rfl,hb⟩
    have HB:=Lib.hid (fstep HF.out hb)
    clear hb
    go_wp2
    go_roundw
    case rel=>exact⟨k+1,by omega,by go_num,HE.out,HB.out⟩
    case measure=>simp[intOf];omega
   ·have HE:=Lib.hid (idxP_at HA.out hx hg)
    clear hx
    go_wp2_with fail
    refine(HC.out x HM.out _ HF.out).mono ?_
    rintro e w1 ⟨rfl,hb⟩
    have HB:=Lib.hid (fstep HF.out hb)
    clear hb
    go_wp2
    go_ret
    exact⟨ret_int HE.out.symm,HB.out⟩
  ·have hkn:k=l.length:=by omega
   have hltz:¬ (k:Int)<(l.length:Int):=by omega
   have HE:=Lib.hid (idxP_none (l:=l) (f:=g) (by rw[← hkn];exact HA.out))
   clear hf
   go_wp2
   go_ret
   exact⟨ret_int HE.out.symm,HF.out⟩
set_option maxHeartbeats 1000000 in
theorem intContains_any (cl:FuncId) (p:Option Addr) (cap:Nat) (l:List Int) (g:Int→Bool) (cp:Array Value) (w:World) (hl:Ints w p l) (hn:l.length≤1048576) (eg:∀ args w,(callFunc cl args).run Tryz.prog w=.ok (.enter cl args) w)
  (hcl:∀ x∈l,∀ (w':World),Fresh w w'→Calls Tryz.prog cl (#[.int .i64 x]++cp) w' fun e w''=>e=.returned (.bool (g x))∧Fresh w' w'') :
  Calls Tryz.prog 50 #[.slice p l.length cap,.func (.func cl) #[] cp] w fun e w'=>e=.returned (.bool (l.any g))∧Fresh w w':=by
 have HI:=Lib.hid (intIndex_any cl p cap l g cp w hl hn eg hcl)
 have HE:=Lib.hid (idxP_any l g)
 clear hcl hl
 go_enter Tryz.func50,Tryz.ntmps50
 go_wp2_with fail
 refine HI.out.mono ?_
 rintro e w1 ⟨rfl,hb⟩
 have HB:=Lib.hid hb
 clear hb
 go_wp2
 go_ret
 exact⟨ret_bool HE.out,HB.out⟩
set_option maxHeartbeats 1000000 in
theorem isNodeClo_any (q p:Option Addr) (N F c d h:Nat) (x:Int) (w:World) (hN:N≤1048576) (hr:RowAt w h 35 [.slice q N c,.slice p F d]) :
  Calls Tryz.prog 211 #[.int .i64 x,.pointer (some ⟨h,0,none⟩)] w fun e w'=>e=.returned (.bool (!inB x 0 ((N:Int) - 1)))∧Fresh w w':=by
 have c0:=hr.cell (i:=0) rfl
 have hw1:IntKind.i64.wrap ((N:Int) - 1)=(N:Int) - 1:=by rw[IntKind.wrap_i64];omega
 clear hr
 go_enter Tryz.func211,Tryz.ntmps211
 go_wp2_with (go_at_call 125;refine(within_any _ _ _ _).mono ?_;rintro e w1 ⟨rfl,rfl⟩)
 go_ret
 exact⟨rfl,frefl _⟩
theorem enters_isNode (args:Array Value) (w:World):(callFunc 211 args).run Tryz.prog w=.ok (.enter 211 args) w:=enters_of Tryz.func211 (by kernel_rfl) rfl args w
def nodesB (n:Net) (l:List Int):Bool:=netB n && !(l.any fun x=>!inB x 0 ((n.nodes.length:Int) - 1))
set_option maxHeartbeats 2000000 in
theorem isNode_any (v:Value) (n:Net) (p:Option Addr) (cap:Nat) (l:List Int) (w:World) (h:NetIn w v n) (hl:Ints w p l) (hn:l.length≤1048576) :
  Calls Tryz.prog 193 #[v,.slice p l.length cap] w fun e w'=>e=.returned (.bool (nodesB n l))∧Fresh w w':=by
 have hmf:∀ (fn:Fn) (first cap:Array Value) (w:World),(Instr.makeFunc fn first cap).run Tryz.prog w=.ok (.func fn first cap) w:=fun _ _ _ _=>rfl
 have HN:=Lib.hid h
 have HL:=Lib.hid hl
 obtain⟨qn,cn,pn,cp,rfl,_,_,n1,_,_,_,_⟩:=h
 obtain⟨W2,hW2⟩:∃ W,W=w.alloc (.cells #[.slice qn n.nodes.length cn,.slice pn n.fibers.length cp] 35):=⟨_,rfl⟩
 have hf2:Fresh w W2:=by rw[hW2];exact fnew (frefl _) _
 have hr2:RowAt W2 w.heap.size 35 [.slice qn n.nodes.length cn,.slice pn n.fibers.length cp]:=by rw[hW2];exact RowAt.new _ _ _
 have HF2:=Lib.hid hf2
 have HR2:=Lib.hid hr2
 have HW2:=Lib.hid hW2
 have HOK:=Lib.hid (implIsValidNetwork_any _ n W2 (HN.out.keep hf2))
 have HCT:Hid (∀ W,Fresh W2 W→Calls Tryz.prog 50 #[.slice p l.length cap,.func (.func 211) #[] #[.pointer (some ⟨w.heap.size,0,none⟩)]] W fun e w'=>e=.returned (.bool (l.any fun x=>!inB x 0 ((n.nodes.length:Int) - 1)))∧Fresh W w'):=fun W hW =>
  intContains_any 211 p cap l _ _ W ((HL.out.keep HF2.out).keep hW) hn enters_isNode fun x _ w' hw=>isNodeClo_any qn pn n.nodes.length n.fibers.length cn cp w.heap.size x w' n1 ((HR2.out.keep hW).keep hw)
 have HDEF:Hid (nodesB n l=(netB n && !(l.any fun x=>!inB x 0 ((n.nodes.length:Int) - 1)))):=rfl
 clear hl hf2 hr2 hW2
 cases hB:netB n
 ·rw[hB] at HOK HDEF
  go_enter Tryz.func193,Tryz.ntmps193
  go_wp2_with fail
  rw[← HW2.out]
  refine(HOK.out).mono ?_
  rintro e w1 ⟨rfl,hb⟩
  have HB:=Lib.hid hb
  clear hb
  go_wp2
  go_ret
  exact⟨ret_bool HDEF.out.symm,fstep HF2.out HB.out⟩
 ·rw[hB] at HOK HDEF
  go_enter Tryz.func193,Tryz.ntmps193
  go_wp2_with fail
  rw[← HW2.out]
  refine(HOK.out).mono ?_
  rintro e w1 ⟨rfl,hb⟩
  have HB:=Lib.hid hb
  clear hb
  go_wp2_with fail
  refine(HCT.out _ HB.out).mono ?_
  rintro e w3 ⟨rfl,hb3⟩
  have HB3:=Lib.hid hb3
  clear hb3
  go_wp2
  go_ret
  exact⟨ret_bool (by rw[HDEF.out];rfl),fstep HF2.out (fstep HB.out HB3.out)⟩
def pairB (n:Net) (s t:Int):Bool:=netB n && (inB s 0 ((n.nodes.length:Int) - 1) && (inB t 0 ((n.nodes.length:Int) - 1) && decide (s≠t)))
def okA (n:Net) (s t:Int):Bool:=pairB n s t && decide ((allR n s t).length≤200)
def allA (n:Net) (s t:Int):List (Int × List Int):=if okA n s t then allR n s t else []
theorem pairB_nodes (n:Net) (s t:Int):pairB n s t=(nodesB n [s,t] && decide (s≠t)):=by
 unfold pairB nodesB
 simp only[List.any_cons,List.any_nil]
 cases netB n <;> cases inB s 0 ((n.nodes.length:Int) - 1) <;> cases inB t 0 ((n.nodes.length:Int) - 1) <;> simp
theorem pairB_in {n:Net} {s t:Int} (h:pairB n s t=true):netB n=true∧(0≤s∧s<(n.nodes.length:Int))∧(0≤t∧t<(n.nodes.length:Int))∧s≠t:=by
 unfold pairB at h
 simp only[Bool.and_eq_true,inB_iff,decide_eq_true_eq] at h
 obtain⟨h1,h2,h3,h4⟩:=h
 exact⟨h1,by omega,by omega,h4⟩
theorem Rts.none (w:World) (base:Nat):Rts w base (.slice none 0 0) []:=Rts.nil _ _ ⟨rfl,Or.inl ⟨rfl,rfl⟩⟩
def OutA (n:Net) (s t:Int) (w:World) (e:Ending) (w':World):Prop:=∃ (V:Value) (l:List LR),e=.returned (.tuple #[V,.bool (okA n s t)])∧Rts w' w.heap.size V l∧l.map LR.val=allA n s t∧Fresh w w'
theorem outA_no {n:Net} {s t:Int} {w w':World} (h:okA n s t=false) (hf:Fresh w w'):OutA n s t w (.returned (.tuple #[.slice none 0 0,.bool false])) w':=⟨_,[],by rw[h],Rts.none _ _,by unfold allA;rw[h];rfl,hf⟩
set_option maxHeartbeats 2000000 in
theorem implAllRoutes_any (v:Value) (n:Net) (s t:Int) (w:World) (h:NetIn w v n) :
  Calls Tryz.prog 164 #[v,.int .i64 s,.int .i64 t] w (OutA n s t w):=by
 have HN:=Lib.hid h
 obtain⟨qn,cn,pn,cp,rfl,_,_,n1,_,_,_,_⟩:=h
 obtain⟨W2,hW2⟩:∃ W,W=(w.alloc (.cells #[.slice qn n.nodes.length cn,.slice pn n.fibers.length cp] 35)).alloc (.cells #[.int .i64 s,.int .i64 t] 3):=⟨_,rfl⟩
 have hf2:Fresh w W2:=by rw[hW2];exact fnew (fnew (frefl _) _) _
 have hr1:RowAt W2 w.heap.size 35 [.slice qn n.nodes.length cn,.slice pn n.fibers.length cp]:=by rw[hW2];exact(RowAt.new _ _ _).alloc _
 have hr2:RowAt W2 (w.heap.size+1) 3 [.int .i64 s,.int .i64 t]:=by
  rw[hW2]
  have:=RowAt.new (w.alloc (.cells #[.slice qn n.nodes.length cn,.slice pn n.fibers.length cp] 35)) 3 [.int .i64 s,.int .i64 t]
  simpa using this
 have HF2:=Lib.hid hf2
 have HR1:=Lib.hid hr1
 have HW2:=Lib.hid hW2
 have HIS:=Lib.hid (isNode_any _ n (some ⟨w.heap.size+1,0,none⟩) 2 [s,t] W2 (HN.out.keep hf2) hr2.cells (by simp))
 have HPB:=Lib.hid (pairB_nodes n s t)
 clear hf2 hr1 hr2 hW2
 cases hB:nodesB n [s,t]
 ·rw[hB] at HIS HPB
  have HNO:Hid (okA n s t=false):=by show _=_;unfold okA;rw[HPB.out];rfl
  go_enter Tryz.func164,Tryz.ntmps164
  go_wp2_with fail
  rw[← HW2.out]
  refine(HIS.out).mono ?_
  rintro e w1 ⟨rfl,hb⟩
  have HB:=Lib.hid hb
  clear hb
  go_wp2
  go_ret2
  exact outA_no HNO.out (fstep HF2.out HB.out)
 ·rw[hB] at HIS HPB
  by_cases hst:s=t
  ·have hz:(s == t)=true:=by simp[hst]
   have HNO:Hid (okA n s t=false):=by show _=_;unfold okA;rw[HPB.out];simp[hst]
   clear hst
   go_enter Tryz.func164,Tryz.ntmps164
   go_wp2_with fail
   rw[← HW2.out]
   refine(HIS.out).mono ?_
   rintro e w1 ⟨rfl,hb⟩
   have HB:=Lib.hid hb
   clear hb
   go_wp2
   go_ret2
   exact outA_no HNO.out (fstep HF2.out HB.out)
  ·have hz:(s == t)=false:=by rw[beq_eq_false_iff_ne];exact hst
   have hpr:pairB n s t=true:=by rw[HPB.out];simp[hst]
   have HPR:=Lib.hid hpr
   have HIN:=Lib.hid (pairB_in hpr)
   clear hst hpr
   go_enter Tryz.func164,Tryz.ntmps164
   go_wp2_with fail
   rw[← HW2.out]
   refine(HIS.out).mono ?_
   rintro e w1 ⟨rfl,hb⟩
   have HF1:=Lib.hid (fstep HF2.out hb)
   have c0:=(HR1.out.keep hb).cell (i:=0) rfl
   have c1:=(HR1.out.keep hb).cell (i:=1) rfl
   clear hb
   go_wp2_with fail
   refine(routesBetween_any _ n s t w1 (HN.out.keep HF1.out) HIN.out.1 HIN.out.2.1).mono ?_
   rintro e w3 ⟨V,l,rfl,hr,hv,hf⟩
   obtain⟨p',c',rfl,_,hc,_⟩:=owns_cap hr.row
   have hll:l.length=(allR n s t).length:=by rw[← hv];simp
   have HLL:=Lib.hid hll
   have HF3:=Lib.hid (fstep HF1.out hf)
   have HRT:=Lib.hid (show Rts w3 w.heap.size _ l from ⟨owns_mono hr.row HF1.out.size,fun x hx=>(hr.fib x hx).mono HF1.out.size,hr.dist,hr.cap⟩)
   have HV:=Lib.hid hv
   clear hr hv hf hll c0 c1
   by_cases h200:l.length≤200
   ·have hgt:¬ (200:Int)<(l.length:Int):=by omega
    have HOK:Hid (okA n s t=true):=by show _=_;unfold okA;rw[HPR.out,← HLL.out];simp[h200]
    go_wp2
    go_ret2
    exact⟨_,l,by rw[HOK.out];(first|done|rfl),HRT.out,by unfold allA;rw[HOK.out];exact HV.out,HF3.out⟩
   ·have hgt:(200:Int)<(l.length:Int):=by omega
    have HNO:Hid (okA n s t=false):=by show _=_;unfold okA;rw[HPR.out,← HLL.out];simp;omega
    go_wp2
    go_ret2
    exact outA_no HNO.out HF3.out
theorem keep_few {n:Net} {s t:Int} (h:s≠t):((keepTo (putL (ltC (cmpR n.fibers))) 200 [] ((dfsR n.fibers t n.nodes.length [s] []).map fun L=>(s,L))).length≤200↔(allR n s t).length≤200)∧((allR n s t).length≤200→keepTo (putL (ltC (cmpR n.fibers))) 200 [] ((dfsR n.fibers t n.nodes.length [s] []).map fun L=>(s,L))=allR n s t):=by
 have hraw:rawR n s t=(dfsR n.fibers t n.nodes.length [s] []).map fun L=>(s,L):=by unfold rawR;rw[if_neg h]
 rw[← hraw,allR_len,← allR_put]
 refine⟨?_,fun h1=>keepTo_all (putL_len _) _ _ (by rw[List.length_nil];omega)⟩
 rw[keepTo_len (putL_len _) _ _ (Nat.zero_le _)]
 simp only[List.length_nil]
 omega
set_option maxHeartbeats 4000000 in
theorem l4All_any (v:Value) (n:Net) (s t:Int) (w:World) (h:NetIn w v n) (hp:pairB n s t=true) :
  Calls Tryz.prog 154 #[v,.int .i64 s,.int .i64 t] w (OutA n s t w):=by
 have HN:=Lib.hid h
 have HPR:=Lib.hid hp
 have HIN:=Lib.hid (pairB_in hp)
 obtain⟨qn,cn,pn,cp,rfl,_,hF,n1,_,_,_,_⟩:=h
 obtain⟨h8,h14,_⟩:=net_at HIN.out.1
 obtain⟨W3,hW3,hsz3,hf3,r1,r2,r3⟩:=three_rows w [.slice qn n.nodes.length cn,.slice pn n.fibers.length cp] [.slice qn n.nodes.length cn,.slice pn n.fibers.length cp,.int .i64 t,.slice none 0 0] [.int .i64 s] 35 209 3
 have HF3:=Lib.hid hf3
 have HW3:=Lib.hid hW3
 have hst:SeSt w W3 (w.heap.size+1) qn pn cn cp n s t 0 []:=⟨hf3,⟨none,0,[],r2,Rts.none _ _,rfl,fun x hx=>by simp at hx⟩,fun R hR=>by simp at hR⟩
 have HEX:=Lib.hid (seExt_any w (w.heap.size+1) qn pn cn cp n s t HN.out hF (net_len HIN.out.1) HIN.out.2.1 (net_fib HIN.out.1) h14 h8 (by omega) n.nodes.length [s] [] (some ⟨w.heap.size+1+1,0,none⟩) none 1 0 0 [] W3 hst (Or.inl ⟨rfl,rfl⟩) (Nat.le_refl _) (by omega) (by intro g o e;cases e) (Or.inr ⟨_,[],rfl,by omega,r3⟩) rfl (by simp;omega) (by simp))
 have HKF:=Lib.hid (keep_few (n:=n) HIN.out.2.2.2)
 clear hp hF hst r1 r2 r3 hf3 hW3 hsz3 h8 h14
 go_enter Tryz.func154,Tryz.ntmps154
 go_wp2_with fail
 rw[← HW3.out]
 refine(HEX.out).mono ?_
 rintro e w4 ⟨rfl,hst,-⟩
 obtain⟨p,c,m,hro,hm⟩:=hst.row
 have HST:=Lib.hid hst
 have e3:=hro.cell (i:=3) rfl
 have HM:=Lib.hid hm
 have HRO:=Lib.hid hro
 clear hro hm hst HEX
 by_cases h200:m≤200
 ·have hgt:¬ (200:Int)<(m:Int):=by omega
  have hfew:(allR n s t).length≤200:=HKF.out.1.1 (by rw[← HM.out];exact h200)
  have HOK:Hid (okA n s t=true):=by show _=_;unfold okA;rw[HPR.out];simp[hfew]
  have HALL:=Lib.hid (HKF.out.2 hfew)
  obtain⟨fr4,⟨p',c',l,hro',rts,hval,_⟩,_⟩:=HST.out
  have hinj:=(hro'.inj HRO.out).2
  simp only[List.cons.injEq,Value.slice.injEq,and_true,true_and] at hinj
  obtain⟨rfl,hlm,rfl⟩:=hinj
  obtain⟨p2,c2,hpc,hown,_,_⟩:=owns_cap rts.row
  cases hpc
  subst hlm
  have HRTS:=Lib.hid rts
  have HVAL:=Lib.hid hval
  have HFR4:=Lib.hid fr4
  have HCL:Hid (∀ W,Fresh w4 W→Cells W p' (l.flatMap lrC)):=fun W hW=>(hown.keep hW).cells
  have HLEN:Hid ((l.flatMap lrC).length=l.length * 2):=flat_len lrC 2 (fun _=>rfl) l
  have e3w:=fun o:Obj=>fkeep (fnew (frefl w4) o) e3
  clear hown rts hro' hval fr4 hfew
  go_wp2_with (at_builtin;refine wpList_app_many Tryz.underlying137 infoRt rfl (by decide) (by decide) w _ _ 0 [] p' l.length c' (l.flatMap lrC) HLEN.out (ones_rt l) rfl _ _ rfl rfl (World.ownsRow_made w4 #[] 0 HFR4.out.size (by simp[maxLen]) rfl) rfl (HCL.out _ (fnew (frefl _) _)) (by omega) (by omega) (fnew HFR4.out _) ?_;intro v' w' hown3 hf3 hk3)
  rw[Nat.zero_add,List.nil_append] at hown3
  have HO:=Lib.hid hown3
  have HFX:=Lib.hid hf3
  have HFB:Hid (∀ x∈l,Own w' w.heap.size 3 x.q (x.fibs.map iv)):=by
   intro x hx
   rcases (HRTS.out.fib x hx).keep (fnew (frefl _) _) with h1|⟨g,sp,a1,a2,a3⟩
   ·exact Or.inl h1
   ·exact Or.inr ⟨g,sp,a1,a2,hk3 _ _ _ a3 (by decide)⟩
  clear hown3 hf3 hk3
  go_wp2
  go_ret2
  exact⟨v',l,by rw[HOK.out];(first|done|rfl),⟨HO.out,HFB.out,HRTS.out.dist,HRTS.out.cap⟩,by rw[HVAL.out,HALL.out];unfold allA;rw[HOK.out];rfl,HFX.out⟩
 ·have hgt:(200:Int)<(m:Int):=by omega
  have hmany:¬ (allR n s t).length≤200:=fun h=>h200 (by rw[HM.out];exact HKF.out.1.2 h)
  have HNO:Hid (okA n s t=false):=by show _=_;unfold okA;rw[HPR.out];simp;omega
  clear hmany
  have HFR4:=Lib.hid HST.out.fr
  go_wp2
  go_ret2
  refine⟨_,[],by rw[HNO.out];(first|done|rfl),Rts.nil _ _ (ownsRow_zero (RowAt.new w4 90 []) HFR4.out.size),by unfold allA;rw[HNO.out];rfl,fnew HFR4.out _⟩
def nodesR (n:Net) (s:Int) (a:List Int):List Int:=(walkR n.fibers s a).getD []
def RtGood (n:Net) (s t:Int) (a:List Int):Prop:=a≠[]∧∃ out,walkR n.fibers s a=some out∧lastI out=t
theorem walk_head {F:List Fib} {s:Int}:∀ {l out:List Int},walkR F s l=some out→out.head?=some s:=by
 intro l
 induction hn:l.length generalizing l with
 | zero =>
  intro out h
  have:l=[]:=List.eq_nil_of_length_eq_zero hn
  subst this
  simp only[walkR,List.foldl_nil,Option.some.injEq] at h
  subst h;rfl
 | succ n ih =>
  intro out h
  have hne:l≠[]:=by intro e;subst e;simp at hn
  have hl:l=l.dropLast++[l.getLast hne]:=(List.dropLast_concat_getLast hne).symm
  rw[hl,walkR_snoc] at h
  cases hw:walkR F s l.dropLast with
  | none=>rw[hw] at h;cases h
  | some o =>
   rw[hw] at h
   have h1:=ih (l:=l.dropLast) (by simp[hn]) hw
   simp only[Option.bind_some] at h
   unfold stepR at h
   split at h
   ·split at h
    ·split at h
     ·cases h
     ·simp only[Option.some.injEq] at h
      rw[← h,List.head?_append,h1];rfl
    ·cases h
   ·cases h
theorem last_mem {l:List Int} (h:l≠[]):lastI l∈l:=by
 unfold lastI
 rw[List.getLast?_eq_some_getLast h]
 exact List.getLast_mem h
theorem nodes_at {n:Net} {s t:Int} {a:List Int} (hn:netB n=true) (hs:0≤s∧s<(n.nodes.length:Int)) (h:RtGood n s t a) :
  walkR n.fibers s a=some (nodesR n s a)∧(nodesR n s a).Nodup∧(nodesR n s a).length=a.length+1∧(nodesR n s a).length≤8∧2≤(nodesR n s a).length∧(nodesR n s a).head?=some s∧lastI (nodesR n s a)=t∧s∈nodesR n s a∧t∈nodesR n s a:=by
 obtain⟨h0,out,h1,h2⟩:=h
 have e:nodesR n s a=out:=by unfold nodesR;rw[h1];rfl
 rw[e]
 obtain⟨a1,a2,a3⟩:=wkIn (net_fib hn) hs h1
 have h8:=nodup_le a1 a2
 have hN:=(net_at hn).1
 have hl:0<a.length:=List.length_pos_iff.2 h0
 have hh:=walk_head h1
 have hne:out≠[]:=by intro e;rw[e] at a3;simp at a3
 exact⟨h1,a1,a3,by omega,by omega,hh,h2,List.mem_of_mem_head? (by rw[hh];rfl),by rw[← h2];exact last_mem hne⟩
theorem rt_ok {n:Net} {s t:Int} {a:List Int} (hn:netB n=true) (hs:0≤s∧s<(n.nodes.length:Int)) (h:RtGood n s t a):RtOk n a:=by
 obtain⟨a1,_,a3,a4,_⟩:=nodes_at hn hs h
 exact⟨walk_idx a1,by omega⟩
theorem good_mem {n:Net} {s t:Int} {R:Int × List Int} (h:R∈allR n s t):R.1=s∧RtGood n s t R.2:=by
 obtain⟨h1,h2,out,h3,h4⟩:=rawR_mem (allR_mem.1 h)
 exact⟨h1,h2,out,h3,h4⟩
theorem bestTo_reach (l:List (Int × Int)) (n:Int):∀ k,k≤l.length→0≤bestTo l n k→∃ (i:Nat) (x y:Int),i<k∧l[i]?=some (x,y)∧n≤x
 | 0,_,h=>by simp[bestTo] at h
 | k+1,hk,h=>by
  obtain⟨x,y,hx⟩:∃ x y,l[k]?=some (x,y):=⟨l[k].1,l[k].2,by simp[show k<l.length by omega]⟩
  by_cases hn:n≤x
  ·exact⟨k,x,y,by omega,hx,hn⟩
  ·rw[bestTo_no hx hn] at h
   obtain⟨i,x',y',h1,h2,h3⟩:=bestTo_reach l n k (by omega) h
   exact⟨i,x',y',by omega,h2,h3⟩
theorem fmts_reach {l:List (Int × Int)} (h:fmtsB l=true) {i:Nat} {x y:Int} (hx:l[i]?=some (x,y)):1≤x∧x≤20000:=by
 unfold fmtsB at h
 rw[Bool.and_eq_true,List.all_eq_true] at h
 have hlt:i<l.length:=(List.getElem?_eq_some_iff.1 hx).1
 have hk:=h.1 i (List.mem_range.2 hlt)
 simp only[okAt,hx,Bool.and_eq_true] at hk
 exact inB_iff.1 hk.1.1
theorem slotsN_far {l:List (Int × Int)} {n r:Int} (h:fmtsB l=true) (hn:20000<n):slotsN l n r=0:=by
 refine slotsN_none ?_
 by_cases hb:bestI l n<0
 ·exact hb
 ·obtain⟨i,x,y,_,hx,hle⟩:=bestTo_reach l n l.length (Nat.le_refl _) (by show 0≤bestI l n;omega)
  have:=fmts_reach h hx
  omega
theorem slotsF_all {l:List (Int × Int)} {n r:Int} (h:fmtsB l=true) (hn:0≤n) (hr:inB r 1 1000=true):slotsF l n r=(slotsN l n r,!(slotsN l n r == 0)):=by
 by_cases hfar:n≤20000
 ·have hi:inB n 0 20000=true:=inB_iff.2 ⟨hn,hfar⟩
  by_cases hz:slotsN l n r=0
  ·rw[slotsF_zero hz,hz];rfl
  ·rw[slotsF_yes (by rw[h,hi,hr];rfl) hz];simp[hz]
 ·have hz:=slotsN_far (r:=r) h (by omega:20000<n)
  rw[slotsF_zero hz,hz];rfl
abbrev ChV:=(Int × List Int) × Int
def useS (n:Net) (fm:List (Int × Int)) (r:Int) (R:Int × List Int):Int:=slotsN fm (lenR n.fibers R.2) r
def usL (n:Net) (fm:List (Int × Int)) (r:Int) (l:List (Int × List Int)):List ChV:=(l.filter fun R=>!(useS n fm r R == 0)).map fun R=>(R,useS n fm r R)
theorem usL_len (n:Net) (fm:List (Int × Int)) (r:Int) (l:List (Int × List Int)):(usL n fm r l).length≤l.length:=by
 unfold usL
 rw[List.length_map]
 exact List.length_filter_le _ _
theorem usL_mem {n:Net} {fm:List (Int × Int)} {r:Int} {l:List (Int × List Int)} {c:ChV} (hf:fmtsB fm=true) (hr:1≤r) (h:c∈usL n fm r l):c.1∈l∧1≤c.2∧c.2≤24:=by
 unfold usL at h
 obtain⟨R,hR,rfl⟩:=List.mem_map.1 h
 obtain⟨h1,h2⟩:=List.mem_filter.1 hR
 have h3:useS n fm r R≠0:=by simpa using h2
 exact⟨h1,slotsN_pos hf hr h3⟩
def usB (n:Net) (fm:List (Int × Int)) (d:Fib):Bool:=netB n && fmtsB fm && demB n.nodes.length d
def usOk (n:Net) (fm:List (Int × Int)) (d:Fib):Bool:=usB n fm d && okA n d.a d.b
def usF (n:Net) (fm:List (Int × Int)) (d:Fib):List ChV × Bool:=if usOk n fm d then (usL n fm d.len (allR n d.a d.b),true) else ([],false)
theorem usF_no {n:Net} {fm:List (Int × Int)} {d:Fib} (h:usOk n fm d=false):usF n fm d=([],false):=by unfold usF;rw[h];rfl
theorem usF_yes {n:Net} {fm:List (Int × Int)} {d:Fib} (h:usOk n fm d=true):usF n fm d=(usL n fm d.len (allR n d.a d.b),true):=by unfold usF;rw[h];rfl
theorem usB_at {n:Net} {fm:List (Int × Int)} {d:Fib} (h:usB n fm d=true):netB n=true∧fmtsB fm=true∧demB n.nodes.length d=true∧1≤d.len∧d.len≤1000∧(0≤d.a∧d.a<(n.nodes.length:Int))∧(0≤d.b∧d.b<(n.nodes.length:Int))∧d.a≠d.b:=by
 unfold usB at h
 simp only[Bool.and_eq_true] at h
 obtain⟨⟨h1,h2⟩,h3⟩:=h
 have h4:=h3
 unfold demB at h4
 simp only[Bool.and_eq_true,inB_iff] at h4
 obtain⟨⟨⟨⟨a1,a2⟩,a3⟩,a4⟩,a5⟩:=h4
 have a3':¬ d.a=d.b:=by simpa using a3
 exact⟨h1,h2,h3,by omega,by omega,by omega,by omega,a3'⟩
theorem usB_pair {n:Net} {fm:List (Int × Int)} {d:Fib} (h:usB n fm d=true):pairB n d.a d.b=true:=by
 obtain⟨h1,_,_,_,_,h2,h3,h4⟩:=usB_at h
 unfold pairB
 rw[h1,inB_iff.2 ⟨h2.1,by omega⟩,inB_iff.2 ⟨h3.1,by omega⟩]
 simp[h4]
theorem dem_one (n:Net) (d:Fib):demsB n [d]=(netB n && demB n.nodes.length d):=by simp[demsB]
theorem usF_len (n:Net) (fm:List (Int × Int)) (d:Fib):(usF n fm d).1.length≤200:=by
 cases h:usOk n fm d
 ·rw[usF_no h];simp
 ·rw[usF_yes h]
  have h2:=usL_len n fm d.len (allR n d.a d.b)
  unfold usOk okA at h
  simp only[Bool.and_eq_true,decide_eq_true_eq] at h
  have:=h.2.2
  show(usL n fm d.len (allR n d.a d.b)).length≤200
  omega
structure CH where
 r:LR
 k:Int
abbrev chC (x:CH):List Value:=[iv x.r.start,.slice x.r.q x.r.fibs.length x.r.cap,iv x.k]
abbrev CH.val (x:CH):ChV:=(x.r.val,x.k)
def chsOf (n:Net) (fm:List (Int × Int)) (r:Int) (l:List LR):List CH:=(l.filter fun x=>!(useS n fm r x.val == 0)).map fun x=>⟨x,useS n fm r x.val⟩
theorem chs_val (n:Net) (fm:List (Int × Int)) (r:Int) (l:List LR):(chsOf n fm r l).map CH.val=usL n fm r (l.map LR.val):=by
 unfold chsOf usL
 rw[List.filter_map,List.map_map,List.map_map]
 rfl
theorem chs_no {n:Net} {fm:List (Int × Int)} {r:Int} {l:List LR} {x:LR} (h:useS n fm r x.val=0):chsOf n fm r (l++[x])=chsOf n fm r l:=by
 unfold chsOf
 rw[List.filter_append]
 simp[h]
theorem chs_yes {n:Net} {fm:List (Int × Int)} {r:Int} {l:List LR} {x:LR} (h:¬ useS n fm r x.val=0):chsOf n fm r (l++[x])=chsOf n fm r l++[⟨x,useS n fm r x.val⟩]:=by
 unfold chsOf
 rw[List.filter_append]
 simp[h]
theorem chs_len (n:Net) (fm:List (Int × Int)) (r:Int) (l:List LR):(chsOf n fm r l).length≤l.length:=by
 unfold chsOf
 rw[List.length_map]
 exact List.length_filter_le _ _
theorem chs_rs (n:Net) (fm:List (Int × Int)) (r:Int) (l:List LR):(chsOf n fm r l).map CH.r=l.filter fun x=>!(useS n fm r x.val == 0):=by
 unfold chsOf
 rw[List.map_map]
 exact List.map_id _
theorem DistR.pw {l:List LR}:DistR l↔l.Pairwise fun x y=>∀ g o h o',x.q=some ⟨g,o,none⟩→y.q=some ⟨h,o',none⟩→g≠h:=by
 rw[List.pairwise_iff_getElem]
 constructor
 ·intro h i j hi hj hij
  exact h i j l[i] l[j] (by omega) (List.getElem?_eq_getElem hi) (List.getElem?_eq_getElem hj)
 ·intro h i j x y hij hx hy g o g' o' e1 e2
  obtain⟨hi,rfl⟩:=List.getElem?_eq_some_iff.1 hx
  obtain⟨hj,rfl⟩:=List.getElem?_eq_some_iff.1 hy
  rcases Nat.lt_or_gt_of_ne hij with h1|h1
  ·exact h i j hi hj h1 g o g' o' e1 e2
  ·exact(h j i hj hi h1 g' o' g o e2 e1).symm
theorem DistR.filter {l:List LR} (h:DistR l) (p:LR→Bool):DistR (l.filter p):=DistR.pw.2 ((DistR.pw.1 h).sublist List.filter_sublist)
structure Chs (w:World) (base:Nat) (V:Value) (l:List CH):Prop where
 row:w.ownsRow base 150 3 V l.length (l.flatMap chC)
 fib:∀ x∈l,Own w base 3 x.r.q (x.r.fibs.map iv)
 dist:DistR (l.map CH.r)
 cap:∀ x∈l,x.r.fibs.length≤x.r.cap∧x.r.cap≤9223372036854775807
theorem Chs.keep {w w':World} {base:Nat} {V:Value} {l:List CH} (h:Chs w base V l) (hb:Fresh w w'):Chs w' base V l:=⟨ownsRow_keep h.row hb,fun x hx=>(h.fib x hx).keep hb,h.dist,h.cap⟩
theorem Chs.mono {w:World} {base base':Nat} {V:Value} {l:List CH} (h:Chs w base V l) (hb:base'≤base):Chs w base' V l:=⟨owns_mono h.row hb,fun x hx=>(h.fib x hx).mono hb,h.dist,h.cap⟩
theorem Chs.nil (w:World) (base:Nat) {V:Value} (h:w.ownsRow base 150 3 V 0 []):Chs w base V []:=⟨h,fun x hx=>by simp at hx,DistR.nil,fun x hx=>by simp at hx⟩
theorem Chs.none (w:World) (base:Nat):Chs w base (.slice none 0 0) []:=Chs.nil _ _ ⟨rfl,Or.inl ⟨rfl,rfl⟩⟩
theorem infoCh:(Tryz.prog.info? 150).map (fun i=>(i.zero,i.size,i.bytes))=some (some (.agg #[iv 0,.slice none 0 0,iv 0]),3,40):=by kernel_rfl
theorem Rts.typ {w w':World} {base:Nat} {V:Value} {l:List LR} {T:TypeId} (h:Rts w base V l) (hk:∀ g t cs,RowAt w g t cs→t≠T→RowAt w' g t cs) (h1:T≠90) (h2:T≠3):Rts w' base V l:=by
 refine⟨?_,fun x hx=>(h.fib x hx).grown hk h2.symm,h.dist,h.cap⟩
 obtain⟨a1,a2⟩:=h.row
 refine⟨a1,?_⟩
 rcases a2 with a2|⟨g,cap,cur,hv,hb,hh,r⟩
 ·exact Or.inl a2
 ·exact Or.inr ⟨g,cap,cur,hv,hb,by have:=hk g _ cur.toList (show RowAt w g _ cur.toList from by unfold RowAt;exact hh) h1.symm;unfold RowAt at this;exact this,r⟩
def OutC (n:Net) (fm:List (Int × Int)) (d:Fib) (w:World) (e:Ending) (w':World):Prop:=∃ (V:Value) (l:List CH),e=.returned (.tuple #[V,.bool (usOk n fm d)])∧Chs w' w.heap.size V l∧l.map CH.val=(usF n fm d).1∧Fresh w w'
theorem outC_no {n:Net} {fm:List (Int × Int)} {d:Fib} {w w':World} (h:usOk n fm d=false) (hf:Fresh w w'):OutC n fm d w (.returned (.tuple #[.slice none 0 0,.bool false])) w':=⟨_,[],by rw[h],Chs.none _ _,by rw[usF_no h];rfl,hf⟩
theorem rts_at {w:World} {base:Nat} {p:Option Addr} {c:Nat} {l:List LR} (h:Rts w base (.slice p l.length c) l) {j:Nat} (hj:j<l.length) :
  ∃ g x,p=some ⟨g,0,none⟩∧l[j]?=some x∧x∈l∧w.cell? ⟨g,j * 2,none⟩=some (iv x.start)∧w.cell? ⟨g,j * 2+1,none⟩=some (.slice x.q x.fibs.length x.cap):=by
 obtain⟨p',c',hpe,hown,_,_⟩:=owns_cap h.row
 cases hpe
 rcases hown with⟨_,h0⟩|⟨g,sp,rfl,hg,hrow⟩
 ·exfalso
  have:=congrArg List.length h0
  rw[flat_len lrC 2 (fun _=>rfl)] at this
  simp at this;omega
 obtain⟨x,hx⟩:∃ x,l[j]?=some x:=⟨l[j],List.getElem?_eq_getElem hj⟩
 exact⟨g,x,rfl,hx,List.mem_of_getElem? hx,hrow.cell (by rw[List.getElem?_append_left (by rw[flat_len lrC 2 (fun _=>rfl)];omega)];exact flat_get lrC 2 (fun _=>rfl) l j 0 (by omega) x hx),
  hrow.cell (by rw[List.getElem?_append_left (by rw[flat_len lrC 2 (fun _=>rfl)];omega)];exact flat_get lrC 2 (fun _=>rfl) l j 1 (by omega) x hx)⟩
set_option maxHeartbeats 4000000 in
set_option maxRecDepth 20000 in
theorem usable_any (v:Value) (n:Net) (pf:Option Addr) (cf:Nat) (fm:List (Int × Int)) (d:Fib) (w:World) (h:NetIn w v n) (hfm:Prs w pf fm) (hfl:fm.length≤1048576) :
  Calls Tryz.prog 117 #[v,.slice pf fm.length cf,fibV d] w (OutC n fm d w):=by
 have HN:=Lib.hid h
 have HP:=Lib.hid hfm
 obtain⟨qn,cn,pn,cp,rfl,_,_,n1,_,_,_,_⟩:=h
 obtain⟨W2,hW2,hsz2,hf2,r1,r2⟩:=two_rows w [.slice qn n.nodes.length cn,.slice pn n.fibers.length cp] [.int .i64 d.a,.int .i64 d.b,.int .i64 d.len,.int .i64 d.risk] 35 59
 have HF2:=Lib.hid hf2
 have HR1:=Lib.hid r1
 have HR2:=Lib.hid r2
 have HW2:=Lib.hid hW2
 have HFM:=Lib.hid (implIsValidFormats_any pf cf fm W2 (HP.out.keep hf2) hfl)
 clear hfm hf2 r1 r2 hW2
 cases hfv:fmtsB fm
 ·have HNO:Hid (usOk n fm d=false):=by show _=_;unfold usOk usB;rw[hfv];simp
  rw[hfv] at HFM
  clear hfv
  go_enter Tryz.func117,Tryz.ntmps117
  go_wp2_with fail
  rw[← HW2.out]
  refine(HFM.out).mono ?_
  rintro e w3 ⟨rfl,hf⟩
  have HF:=Lib.hid (fstep HF2.out hf)
  clear hf HFM
  go_wp2
  go_ret2
  exact outC_no HNO.out HF.out
 have HFV:=Lib.hid hfv
 rw[hfv] at HFM
 clear hfv
 go_enter Tryz.func117,Tryz.ntmps117
 go_wp2_with fail
 rw[← HW2.out]
 refine(HFM.out).mono ?_
 rintro e w3 ⟨rfl,hf⟩
 have HF:=Lib.hid (fstep HF2.out hf)
 have a0:=(HR1.out.keep hf).cell (i:=0) rfl
 have a1:=(HR1.out.keep hf).cell (i:=1) rfl
 have d0:=(HR2.out.keep hf).cell (i:=0) rfl
 have d1:=(HR2.out.keep hf).cell (i:=1) rfl
 have d2:=(HR2.out.keep hf).cell (i:=2) rfl
 have d3:=(HR2.out.keep hf).cell (i:=3) rfl
 obtain⟨W4,hW4⟩:∃ W,W=w3.alloc (.cells #[.int .i64 d.a,.int .i64 d.b,.int .i64 d.len,.int .i64 d.risk] 59):=⟨_,rfl⟩
 have hf4:Fresh w3 W4:=by rw[hW4];exact fnew (frefl _) _
 have hr4:RowAt W4 w3.heap.size 59 [.int .i64 d.a,.int .i64 d.b,.int .i64 d.len,.int .i64 d.risk]:=by rw[hW4];exact RowAt.new _ _ _
 have hfib:Fibs W4 (some ⟨w3.heap.size,0,none⟩) [d]:=by
  refine Or.inr ⟨w3.heap.size,0,rfl,fun j u hj=>?_⟩
  rw[Nat.zero_add]
  exact hr4.cell (by simpa using hj)
 have HD:=Lib.hid (implIsValidDemands_any _ n (some ⟨w3.heap.size,0,none⟩) 1 [d] W4 (HN.out.keep (fstep HF.out hf4)) hfib (by simp))
 rw[dem_one] at HD
 have HF4:=Lib.hid (fstep HF.out hf4)
 have HR14:=Lib.hid ((HR1.out.keep hf).keep hf4)
 have HR24:=Lib.hid ((HR2.out.keep hf).keep hf4)
 have HW4:=Lib.hid hW4
 clear hf HFM hf4 hr4 hfib hW4
 go_wp2_with fail
 rw[← HW4.out]
 refine(HD.out).mono ?_
 rintro e w5 ⟨rfl,hf⟩
 have HF5:=Lib.hid (fstep HF4.out hf)
 have HR15:=Lib.hid (HR14.out.keep hf)
 have HR25:=Lib.hid (HR24.out.keep hf)
 clear hf HD a0 a1 d0 d1 d2 d3
 cases hdb:netB n && demB n.nodes.length d
 ·have HNO:Hid (usOk n fm d=false):=by
   show _=_
   have e:usB n fm d=(fmtsB fm && (netB n && demB n.nodes.length d)):=by unfold usB;cases netB n <;> cases fmtsB fm <;> rfl
   unfold usOk
   rw[e,hdb,Bool.and_false];rfl
  clear hdb
  go_wp2
  go_ret2
  exact outC_no HNO.out HF5.out
 have hub:usB n fm d=true:=by
  have e:usB n fm d=(fmtsB fm && (netB n && demB n.nodes.length d)):=by unfold usB;cases netB n <;> cases fmtsB fm <;> rfl
  rw[e,hdb,HFV.out];rfl
 have HUB:=Lib.hid hub
 have HAT:=Lib.hid (usB_at hub)
 clear hdb hub
 have a0:=HR15.out.cell (i:=0) rfl
 have a1:=HR15.out.cell (i:=1) rfl
 have d0:=HR25.out.cell (i:=0) rfl
 have d1:=HR25.out.cell (i:=1) rfl
 have HA:=Lib.hid (implAllRoutes_any _ n d.a d.b w5 (HN.out.keep HF5.out))
 go_wp2_with fail
 refine(HA.out).mono ?_
 rintro e w6 ⟨V,l,rfl,hr,hv,hf⟩
 have HF6:=Lib.hid (fstep HF5.out hf)
 have HR16:=Lib.hid (HR15.out.keep hf)
 have HR26:=Lib.hid (HR25.out.keep hf)
 have hle:=HF5.out.size
 have HRT:=Lib.hid (show Rts w6 w.heap.size V l from ⟨owns_mono hr.row hle,fun x hx=>(hr.fib x hx).mono hle,hr.dist,hr.cap⟩)
 have HV:=Lib.hid hv
 clear hr hv hf HA a0 a1 d0 d1 hle
 cases hoa:okA n d.a d.b
 ·have HNO:Hid (usOk n fm d=false):=by show _=_;unfold usOk;rw[hoa,Bool.and_false]
  clear hoa
  go_wp2
  go_ret2
  exact outC_no HNO.out HF6.out
 have HOK:Hid (usOk n fm d=true):=by show _=_;unfold usOk;rw[HUB.out,hoa];rfl
 have hval:l.map LR.val=allR n d.a d.b:=by rw[HV.out];unfold allA;rw[hoa];rfl
 have hll:l.length≤200:=by
  have h1:=congrArg List.length hval
  unfold okA at hoa
  simp only[Bool.and_eq_true,decide_eq_true_eq] at hoa
  rw[List.length_map] at h1
  omega
 have HGD:Hid (∀ x∈l,RtOk n x.fibs):=fun x hx=>rt_ok HAT.out.1 HAT.out.2.2.2.2.2.1 (good_mem (show x.val∈allR n d.a d.b by rw[← hval];exact List.mem_map_of_mem hx)).2
 have HVAL:=Lib.hid hval
 have HLB:=Lib.hid (net_len HAT.out.1)
 clear hoa hval
 obtain⟨p,c,rfl,_,_,_⟩:=owns_cap HRT.out.row
 have hf7:Fresh w6 (w6.alloc (.cells #[] 150)):=fnew (frefl _) _
 have HO0:=Lib.hid (show(w6.alloc (.cells #[] 150)).ownsRow w.heap.size 150 3 (.slice (some ⟨w6.heap.size,0,none⟩) 0 0) 0 [] from ownsRow_zero (RowAt.new w6 150 []) HF6.out.size)
 have HF7:=Lib.hid (fstep HF6.out hf7)
 have HRT7:=Lib.hid (HRT.out.keep hf7)
 have HR17:=Lib.hid (HR16.out.keep hf7)
 have HR27:=Lib.hid (HR26.out.keep hf7)
 clear hf7
 go_wp2
 go_loopw [10,39] (fun o i wr=>∃ j:Nat,j≤l.length∧i=.int .i64 j∧wr.ownsRow w.heap.size 150 3 o (chsOf n fm d.len (l.take j)).length ((chsOf n fm d.len (l.take j)).flatMap chC)∧Fresh w wr∧Rts wr w.heap.size (.slice p l.length c) l∧RowAt wr w.heap.size 35 [.slice qn n.nodes.length cn,.slice pn n.fibers.length cp]∧RowAt wr (w.heap.size+1) 59 [.int .i64 d.a,.int .i64 d.b,.int .i64 d.len,.int .i64 d.risk]) (fun _ i _=>l.length - (intOf i).toNat)
 case atStart=>exact⟨0,Nat.zero_le _,rfl,HO0.out,HF7.out,HRT7.out,HR17.out,HR27.out⟩
 case round =>
  obtain⟨j,hj,rfl,hown,hf,hrt,hrn,hrd⟩:=hrel
  by_cases hlt:j<l.length
  ·have hltz:(j:Int)<(l.length:Int):=by omega
   obtain⟨g,x,rfl,hx,hm,hc0,hc1⟩:=rts_at hrt hlt
   obtain⟨W3,hW3⟩:∃ W,W=wr.alloc (.cells #[.int .i64 x.start,.slice x.q x.fibs.length x.cap] 90):=⟨_,rfl⟩
   have hf3:Fresh wr W3:=by rw[hW3];exact fnew (frefl _) _
   have hr3:RowAt W3 wr.heap.size 90 [.int .i64 x.start,.slice x.q x.fibs.length x.cap]:=by rw[hW3];exact RowAt.new _ _ _
   have htk:l.take (j+1)=l.take j++[x]:=by rw[List.take_add_one,hx];rfl
   have HO:=Lib.hid (ownsRow_keep hown hf3)
   have HF3:=Lib.hid (fstep hf hf3)
   have HRT3:=Lib.hid (hrt.keep hf3)
   have HR1:=Lib.hid (hrn.keep hf3)
   have HR2:=Lib.hid (hrd.keep hf3)
   have HR3:=Lib.hid hr3
   have HTK:=Lib.hid htk
   have HX:=Lib.hid hm
   have HW3:=Lib.hid hW3
   have hcl:=chs_len n fm d.len (l.take j)
   rw[List.length_take,Nat.min_eq_left hj] at hcl
   clear hown hf hrt hrn hrd hx hm hf3 hr3 htk hW3
   go_wp2
   rw[← HW3.out]
   clear hc0 hc1
   have a0:=HR1.out.cell (i:=0) rfl
   have a1:=HR1.out.cell (i:=1) rfl
   have d2:=HR2.out.cell (i:=2) rfl
   have b0:=HR3.out.cell (i:=0) rfl
   have b1:=HR3.out.cell (i:=1) rfl
   have a0w:=fun xa:After W3=>akeep a0 xa
   have a1w:=fun xa:After W3=>akeep a1 xa
   have d2w:=fun xa:After W3=>akeep d2 xa
   have b0w:=fun xa:After W3=>akeep b0 xa
   have b1w:=fun xa:After W3=>akeep b1 xa
   have HL:Hid (∀ xa:After W3,Calls Tryz.prog 166 #[.agg #[.slice qn n.nodes.length cn,.slice pn n.fibers.length cp],.agg #[.int .i64 x.start,.slice x.q x.fibs.length x.cap]] xa.w' fun e w'=>e=.returned (.int .i64 (lenR n.fibers x.fibs))∧Fresh xa.w' w'):=fun xa =>
    (lengthOf_d _ n x.start x.q x.cap x.fibs xa.w' ((HN.out.keep HF3.out).keep xa.h) ((HRT3.out.fib x HX.out).ints.keep xa.h) (HGD.out x HX.out) HLB.out).mono fun e w' hh=>⟨hh.1,hh.2.1⟩
   obtain⟨L,hL⟩:∃ L,L=lenR n.fibers x.fibs:=⟨_,rfl⟩
   have hL0:0≤L:=by rw[hL];exact(lenR_bd (l:=x.fibs) HLB.out).1
   have HSF:=Lib.hid (slotsF_all (l:=fm) (n:=L) (r:=d.len) HFV.out hL0 (inB_iff.2 ⟨HAT.out.2.2.2.1,HAT.out.2.2.2.2.1⟩))
   have HUS:Hid (useS n fm d.len x.val=slotsN fm L d.len):=by show _=_;rw[hL];rfl
   rw[← hL] at HL
   have HS:Hid (∀ xa:After W3,Calls Tryz.prog 165 #[.slice pf fm.length cf,.int .i64 L,.int .i64 d.len] xa.w' fun e w'=>e=.returned (.tuple #[.int .i64 (slotsN fm L d.len),.bool (!(slotsN fm L d.len == 0))])∧Fresh xa.w' w'):=fun xa=>by
    have:=implSlotsFor_any pf cf fm L d.len xa.w' ((HP.out.keep HF3.out).keep xa.h) hfl
    rwa [HSF.out] at this
   obtain⟨S,hS⟩:∃ S,S=slotsN fm L d.len:=⟨_,rfl⟩
   rw[← hS] at HS HUS
   obtain⟨F,hF⟩:∃ F,F=!(S == 0):=⟨_,rfl⟩
   rw[← hF] at HS
   have HFB:=Lib.hid hF
   clear hF
   clear hL hL0 hS
   refine wp_region_after (by kernel_rfl) (by kernel_rfl) ?_
   repeat (go_big_quiet_step (first|(go_at_call 166;exact after_call (HL.out _))|(go_at_call 165;exact after_call (HS.out _))))
   refine wpQuiet_nil ?_
   rintro _ ⟨xa,rfl⟩
   have hxa:=xa.h
   obtain⟨W8,hW8⟩:∃ W,W=xa.w':=⟨_,rfl⟩
   rw[← hW8] at hxa ⊢
   have HXA:=Lib.hid hxa
   have b0':=(HR3.out.keep hxa).cell (i:=0) rfl
   have b1':=(HR3.out.keep hxa).cell (i:=1) rfl
   clear a0w a1w d2w b0w b1w a0 a1 d2 b0 b1 HL HS hxa hW8
   cases F
   ·have hz:S=0:=by have:=HFB.out;simpa using this.symm
    clear HFB
    have HNO:=Lib.hid (chs_no (n:=n) (fm:=fm) (r:=d.len) (l:=l.take j) (x:=x) (by rw[HUS.out,hz]))
    clear hz
    go_wp2
    go_roundw
    case rel=>exact⟨j+1,by omega,by go_num,by rw[HTK.out,HNO.out];exact ownsRow_keep HO.out HXA.out,fstep HF3.out HXA.out,HRT3.out.keep HXA.out,HR1.out.keep HXA.out,HR2.out.keep HXA.out⟩
    case measure=>simp[intOf];omega
   ·have hz:¬ S=0:=by have:=HFB.out;simpa using this.symm
    clear HFB
    have HYES:Hid (chsOf n fm d.len (l.take j++[x])=chsOf n fm d.len (l.take j)++[⟨x,S⟩]):=by show _=_;rw[chs_yes (by rw[HUS.out];exact hz),HUS.out]
    clear hz
    obtain⟨I,hI⟩:∃ I,I=chsOf n fm d.len (l.take j):=⟨_,rfl⟩
    rw[← hI] at hcl HO HYES
    have hown6:=ownsRow_keep HO.out HXA.out
    have HF8:=Lib.hid (fstep HF3.out HXA.out)
    clear hI
    go_wp2_with (at_builtin;refine wpList_app_g Tryz.underlying145 infoCh rfl (by decide) (by decide) w W8 _ I.length (I.flatMap chC) [.int .i64 x.start,.slice x.q x.fibs.length x.cap,.int .i64 S] _ rfl (by intro u hu;simp at hu;rcases hu with rfl|rfl|rfl <;> rfl) rfl _ _ rfl rfl hown6 rfl rfl (by omega) HF8.out ?_;intro v' w' hown3 hf3 hkp)
    have HO3:=Lib.hid hown3
    have HF9:=Lib.hid hf3
    have HK3:=Lib.hid hkp
    clear hown3 hf3 hkp hown6
    go_wp2
    go_roundw
    case rel=>exact⟨j+1,by omega,by go_num,by rw[HTK.out,HYES.out,List.flatMap_append,List.length_append];exact HO3.out,HF9.out,(HRT3.out.keep HXA.out).typ HK3.out (by decide) (by decide),HK3.out _ _ _ (HR1.out.keep HXA.out) (by decide),HK3.out _ _ _ (HR2.out.keep HXA.out) (by decide)⟩
    case measure=>simp[intOf];omega
  ·have hjn:j=l.length:=by omega
   have hltz:¬ (j:Int)<(l.length:Int):=by omega
   subst hjn
   rw[List.take_length] at hown
   have HO:=Lib.hid hown
   have HFF:=Lib.hid hf
   have HRT:=Lib.hid hrt
   clear hown hf hrt hrn hrd
   go_wp2
   go_ret2
   refine⟨_,chsOf n fm d.len l,by rw[HOK.out];(first|done|rfl),⟨HO.out,fun x hx=>?_,by rw[chs_rs];exact HRT.out.dist.filter _,fun x hx=>?_⟩,by rw[usF_yes HOK.out,chs_val,HVAL.out],HFF.out⟩
   ·obtain⟨y,hy,rfl⟩:=List.mem_map.1 hx
    exact HRT.out.fib y (List.mem_filter.1 hy).1
   ·obtain⟨y,hy,rfl⟩:=List.mem_map.1 hx
    exact HRT.out.cap y (List.mem_filter.1 hy).1
theorem wpList_app_x {T E:TypeId} {z:Value} {size bytes:Nat} (hu:Tryz.prog.underlying T=some (.slice E)) (hinfo:(Tryz.prog.info? E).map (fun i=>(i.zero,i.size,i.bytes))=some (some z,size,bytes))
  (hzs:z.cells.size=size) (hsz:0<size) (hby:bytes≤128) {ops:Array Oper} {rest:List Oper} {o:Oper} {a:Act} {Q:Exit→Act→World→Prop} (w0 w1:World) (v:Value) (n:Nat) (xs news:List Value)
  (g0:Nat) (hl:news.length=size) (hone:∀ u∈news,u.oneCell'=true) (hgd:o.guard=none) (s t:Operand)
  (ho:o.op=.call { callee:=.builtin .append,args:=#[s,t],argTypes:=#[T,T] }) (hs:a.eval s=v) (hown:w1.ownsRow w0.heap.size E size v n xs)
  (hx:a.eval t=.slice (some ⟨g0,0,none⟩) 1 1) (hg0:g0=w1.heap.size) (hn:n≤1099511627775) (hf:Fresh w0 w1)
  (h:∀ v' w',w'.ownsRow w0.heap.size E size v' (n+1) (xs++news)→Fresh w0 w'→(∀ g t cs,RowAt w1 g t cs→(t≠E∨v.ownBlock≠some g)→RowAt w' g t cs)→(∀ k,v'.ownBlock=some k→v.ownBlock=some k∨w1.heap.size≤k)→w1.heap.size≤w'.heap.size→wpList Tryz.prog ops Q rest (a.put o.dst v') w') :
  wpList Tryz.prog ops Q (o :: rest) a (w1.alloc (.cells news.toArray E)):=by
 subst hg0
 obtain⟨i0,hi,hz0,hz1,hz2⟩:=info_parts hinfo
 refine wpList_append_own_at _ hgd s t T ho w0.heap.size E i0 z size bytes hu hi hz0 hz1 hz2 hzs hsz v n xs hs (hown.alloc _) ⟨w1.heap.size,0,none⟩ 1 1 news hx (by omega)
  (add_new w1 E news) hone (by unfold maxLen;omega) (Nat.le_trans (Nat.mul_le_mul (by omega:n+1≤1099511627776) hby) (by omega)) (Nat.le_trans hf.size (by simp)) ?_
 intro v' w' hown' hgrow _ hblk
 refine h v' w' hown' (fgrown (fnew hf _) hgrow (own_block hown)) (fun g t cs hr ht=>?_) (fun k hk=>?_) (Nat.le_trans (by simp) hgrow.size)
 ·rcases ht with ht|ht
  ·exact row_grown hown hgrow hr ht
  ·have hba:=hr.alloc (.cells news.toArray E)
   unfold RowAt
   rw[hgrow.block g hba.lt (fun he=>ht he.symm)]
   exact hba
 ·rcases hblk with hb|hb
  ·left;rw[← hb];exact hk
  ·right
   rw[hb] at hk
   cases hk
   simp
theorem ownsRow_typ {w w':World} {base:Nat} {E T:TypeId} {size n:Nat} {V:Value} {xs:List Value} (h:w.ownsRow base E size V n xs) (hk:∀ g t cs,RowAt w g t cs→t≠T→RowAt w' g t cs) (hT:E≠T):w'.ownsRow base E size V n xs:=by
 refine⟨h.1,?_⟩
 rcases h.2 with h|⟨g,cap,cur,hv,hb,hh,r⟩
 ·exact Or.inl h
 ·exact Or.inr ⟨g,cap,cur,hv,hb,by have:=hk g _ cur.toList (show RowAt w g _ cur.toList from by unfold RowAt;exact hh) hT;unfold RowAt at this;exact this,r⟩
theorem Rts.hk {w w':World} {base:Nat} {p:Option Addr} {n c:Nat} {l:List LR} {v:Value} (h:Rts w base (.slice p n c) l) (hk:∀ g t cs,RowAt w g t cs→(t≠90∨v.ownBlock≠some g)→RowAt w' g t cs) (hp:∀ g o,p=some ⟨g,o,Option.none⟩→v.ownBlock≠some g):Rts w' base (.slice p n c) l:=by
 refine⟨?_,fun x hx=>?_,h.dist,h.cap⟩
 ·obtain⟨a1,a2⟩:=h.row
  refine⟨a1,?_⟩
  rcases a2 with a2|⟨g,cap,cur,hv,hb,hh,r⟩
  ·exact Or.inl a2
  ·refine Or.inr ⟨g,cap,cur,hv,hb,?_,r⟩
   cases hv
   have:=hk g _ cur.toList (show RowAt w g _ cur.toList from by unfold RowAt;exact hh) (Or.inr (hp g 0 rfl))
   unfold RowAt at this;exact this
 ·rcases h.fib x hx with h1|⟨b,sp,h1,h2,h3⟩
  ·exact Or.inl h1
  ·exact Or.inr ⟨b,sp,h1,h2,hk _ _ _ h3 (Or.inl (by decide))⟩
theorem Rts.hkI {w w':World} {base:Nat} {V:Value} {l:List LR} {v:Value} (h:Rts w base V l) (hk:∀ g t cs,RowAt w g t cs→(t≠3∨v.ownBlock≠some g)→RowAt w' g t cs) (hp:∀ x∈l,∀ g o,x.q=some ⟨g,o,Option.none⟩→v.ownBlock≠some g):Rts w' base V l:=by
 refine⟨ownsRow_typ h.row (fun g t cs h n=>hk g t cs h (Or.inl n)) (by decide),fun x hx=>?_,h.dist,h.cap⟩
 rcases h.fib x hx with h1|⟨b,sp,h1,h2,h3⟩
 ·exact Or.inl h1
 ·exact Or.inr ⟨b,sp,h1,h2,hk _ _ _ h3 (Or.inr (hp x hx b 0 h1))⟩
structure Uss (w:World) (base:Nat) (V:Value) (pk:Option Addr) (ck:Nat) (l:List CH):Prop where
 rts:Rts w base V (l.map CH.r)
 ks:w.ownsRow base 3 1 (.slice pk l.length ck) l.length (l.map fun x=>iv x.k)
theorem Uss.keep {w w':World} {base:Nat} {V:Value} {pk:Option Addr} {ck:Nat} {l:List CH} (h:Uss w base V pk ck l) (hb:Fresh w w'):Uss w' base V pk ck l:=⟨h.rts.keep hb,ownsRow_keep h.ks hb⟩
theorem Rts.monoR {w:World} {base base':Nat} {V:Value} {l:List LR} (h:Rts w base V l) (hb:base'≤base):Rts w base' V l:=⟨owns_mono h.row hb,fun x hx=>(h.fib x hx).mono hb,h.dist,h.cap⟩
theorem Uss.mono {w:World} {base base':Nat} {V:Value} {pk:Option Addr} {ck:Nat} {l:List CH} (h:Uss w base V pk ck l) (hb:base'≤base):Uss w base' V pk ck l:=⟨h.rts.monoR hb,owns_mono h.ks hb⟩
def OutU (n:Net) (fm:List (Int × Int)) (d:Fib) (w:World) (e:Ending) (w':World):Prop:=∃ (V:Value) (pk:Option Addr) (ck:Nat) (l:List CH),e=.returned (.tuple #[V,.slice pk l.length ck,.bool (usOk n fm d)])∧Uss w' w.heap.size V pk ck l∧l.map CH.val=(usF n fm d).1∧Fresh w w'
theorem chsR_len (n:Net) (fm:List (Int × Int)) (r:Int) (l:List LR):((chsOf n fm r l).map CH.r).length=(chsOf n fm r l).length:=by simp
set_option maxHeartbeats 4000000 in
set_option maxRecDepth 20000 in
theorem l10Usable_any (v:Value) (n:Net) (pf:Option Addr) (cf:Nat) (fm:List (Int × Int)) (d:Fib) (w:World) (h:NetIn w v n) (hfm:Prs w pf fm) (hfl:fm.length≤1048576) (hus:usB n fm d=true) :
  Calls Tryz.prog 110 #[v,.slice pf fm.length cf,fibV d] w (OutU n fm d w):=by
 have HN:=Lib.hid h
 have HP:=Lib.hid hfm
 obtain⟨qn,cn,pn,cp,rfl,_,_,n1,_,_,_,_⟩:=h
 obtain⟨W2,hW2,hsz2,hf2,r1,r2⟩:=two_rows w [.slice qn n.nodes.length cn,.slice pn n.fibers.length cp] [.int .i64 d.a,.int .i64 d.b,.int .i64 d.len,.int .i64 d.risk] 35 59
 have HF2:=Lib.hid hf2
 have HW2:=Lib.hid hW2
 have HUB:=Lib.hid hus
 have HAT:=Lib.hid (usB_at hus)
 obtain⟨W3,hW3⟩:∃ W,W=(W2.alloc (.cells #[] 90)).alloc (.cells #[] 3):=⟨_,rfl⟩
 have hf3:Fresh W2 W3:=by rw[hW3];exact fnew (fnew (frefl _) _) _
 have hra:RowAt W3 W2.heap.size 90 []:=by rw[hW3];exact(RowAt.new W2 _ []).alloc _
 have hrb:RowAt W3 (W2.heap.size+1) 3 []:=by
  rw[hW3]
  have:=RowAt.new (W2.alloc (.cells #[] 90)) 3 []
  simpa using this
 have hR1:=r1.keep hf3
 have hR2:=r2.keep hf3
 have a0:=hR1.cell (i:=0) rfl
 have a1:=hR1.cell (i:=1) rfl
 have d0:=hR2.cell (i:=0) rfl
 have d1:=hR2.cell (i:=1) rfl
 have HR1:=Lib.hid hR1
 have HR2:=Lib.hid hR2
 have HF3:=Lib.hid (fstep hf2 hf3)
 have HW3:=Lib.hid hW3
 rw[hsz2] at hra hrb
 have HRA:=Lib.hid hra
 have HRB:=Lib.hid hrb
 have hsz3:w.heap.size+1+1+1<W3.heap.size:=hrb.lt
 have HA:=Lib.hid (l4All_any (.agg #[.slice qn n.nodes.length cn,.slice pn n.fibers.length cp]) n d.a d.b W3 (HN.out.keep HF3.out) (usB_pair hus))
 clear hfm hf2 r1 r2 hW2 hus hf3 hra hrb hR1 hR2 hW3
 go_enter Tryz.func110,Tryz.ntmps110
 go_wp2_with fail
 rw[← HW2.out]
 try rw[← HW3.out]
 refine(HA.out).mono ?_
 rintro e w6 ⟨V,l,rfl,hr,hv,hf⟩
 have HF6:=Lib.hid (fstep HF3.out hf)
 have HR16:=Lib.hid (HR1.out.keep hf)
 have HR26:=Lib.hid (HR2.out.keep hf)
 have HRA6:=Lib.hid (HRA.out.keep hf)
 have HRB6:=Lib.hid (HRB.out.keep hf)
 have hsz6:=hf.size
 have HRT:=Lib.hid hr
 have HV:=Lib.hid hv
 clear hr hv hf HA a0 a1 d0 d1
 cases hoa:okA n d.a d.b
 ·have HNO:Hid (usOk n fm d=false):=by show _=_;unfold usOk;rw[hoa,Bool.and_false]
  clear hoa
  go_wp2
  go_ret3
  exact⟨_,_,_,[],by rw[HNO.out];(first|done|rfl),⟨Rts.nil _ _ (ownsRow_zero HRA6.out (by omega)),ownsRow_zero HRB6.out (by omega)⟩,by rw[usF_no HNO.out];rfl,HF6.out⟩
 have HOK:Hid (usOk n fm d=true):=by show _=_;unfold usOk;rw[HUB.out,hoa];rfl
 have hval:l.map LR.val=allR n d.a d.b:=by rw[HV.out];unfold allA;rw[hoa];rfl
 have hll:l.length≤200:=by
  have h1:=congrArg List.length hval
  unfold okA at hoa
  simp only[Bool.and_eq_true,decide_eq_true_eq] at hoa
  rw[List.length_map] at h1
  omega
 have HGD:Hid (∀ x∈l,RtOk n x.fibs):=fun x hx=>rt_ok HAT.out.1 HAT.out.2.2.2.2.2.1 (good_mem (show x.val∈allR n d.a d.b by rw[← hval];exact List.mem_map_of_mem hx)).2
 have HVAL:=Lib.hid hval
 have HLB:=Lib.hid (net_len HAT.out.1)
 clear hoa hval
 obtain⟨p,c,rfl,hop,_,_⟩:=owns_cap HRT.out.row
 have HGE:Hid (∀ g o,p=some ⟨g,o,none⟩→W3.heap.size≤g∧g<w6.heap.size):=by
  intro g o e
  rcases hop with⟨h0,_⟩|⟨b,sp,h1,h2,h3⟩
  ·rw[h0] at e;cases e
  ·rw[h1] at e;cases e;exact⟨h2,h3.lt⟩
 clear hop
 have HFE:Hid (∀ x∈l,∀ g o,x.q=some ⟨g,o,none⟩→W3.heap.size≤g∧g<w6.heap.size):=by
  intro x hx g o e
  rcases HRT.out.fib x hx with⟨h0,_⟩|⟨b,sp,h1,h2,h3⟩
  ·rw[h0] at e;cases e
  ·rw[h1] at e;cases e;exact⟨h2,h3.lt⟩
 have HNK:Hid (∀ k,(Value.slice (some ⟨w.heap.size+1+1+1,0,none⟩) 0 0).ownBlock=some k→k<W3.heap.size∨w6.heap.size≤k):=by
  intro k hk
  simp[Value.ownBlock] at hk
  omega
 have HRT0:=Lib.hid (HRT.out.monoR (show w.heap.size≤W3.heap.size from HF3.out.size))
 have HOA:=Lib.hid (show w6.ownsRow w.heap.size 90 2 (.slice (some ⟨w.heap.size+1+1,0,none⟩) 0 0) 0 [] from ownsRow_zero HRA6.out (by omega))
 have HOB:=Lib.hid (show w6.ownsRow w.heap.size 3 1 (.slice (some ⟨w.heap.size+1+1+1,0,none⟩) 0 0) 0 [] from ownsRow_zero HRB6.out (by omega))
 have HNE:Hid (∀ k,(Value.slice (some ⟨w.heap.size+1+1,0,none⟩) 0 0).ownBlock=some k→k<W3.heap.size∨w6.heap.size≤k):=by
  intro k hk
  simp[Value.ownBlock] at hk
  omega
 go_wp2
 go_loopw [9,10,13] (fun o s i wr=>∃ j:Nat,j≤l.length∧i=.int .i64 j∧wr.ownsRow w.heap.size 90 2 o (chsOf n fm d.len (l.take j)).length (((chsOf n fm d.len (l.take j)).map CH.r).flatMap lrC)∧wr.ownsRow w.heap.size 3 1 s (chsOf n fm d.len (l.take j)).length ((chsOf n fm d.len (l.take j)).map fun x=>iv x.k)∧(∀ k,o.ownBlock=some k→k<W3.heap.size∨w6.heap.size≤k)∧(∀ k,s.ownBlock=some k→k<W3.heap.size∨w6.heap.size≤k)∧Fresh w wr∧w6.heap.size≤wr.heap.size∧Rts wr w.heap.size (.slice p l.length c) l∧RowAt wr w.heap.size 35 [.slice qn n.nodes.length cn,.slice pn n.fibers.length cp]∧RowAt wr (w.heap.size+1) 59 [.int .i64 d.a,.int .i64 d.b,.int .i64 d.len,.int .i64 d.risk]) (fun _ _ i _=>l.length - (intOf i).toNat)
 case atStart=>exact⟨0,Nat.zero_le _,rfl,HOA.out,HOB.out,HNE.out,HNK.out,HF6.out,Nat.le_refl _,HRT0.out,HR16.out,HR26.out⟩
 case round =>
  obtain⟨j,hj,rfl,hown,howk,hne,hnk,hf,hszr,hrt,hrn,hrd⟩:=hrel
  by_cases hlt:j<l.length
  ·have hltz:(j:Int)<(l.length:Int):=by omega
   obtain⟨g,x,rfl,hx,hm,hc0,hc1⟩:=rts_at hrt hlt
   have htk:l.take (j+1)=l.take j++[x]:=by rw[List.take_add_one,hx];rfl
   have HO:=Lib.hid hown
   have HK:=Lib.hid howk
   have HNE':=Lib.hid hne
   have HNK':=Lib.hid hnk
   have HF3':=Lib.hid hf
   have HRT3:=Lib.hid hrt
   have HR1':=Lib.hid hrn
   have HR2':=Lib.hid hrd
   have HTK:=Lib.hid htk
   have HX:=Lib.hid hm
   have hcl:=chs_len n fm d.len (l.take j)
   rw[List.length_take,Nat.min_eq_left hj] at hcl
   have a0:=hrn.cell (i:=0) rfl
   have a1:=hrn.cell (i:=1) rfl
   have d2:=hrd.cell (i:=2) rfl
   clear hown howk hne hnk hf hrt hrn hrd hx hm htk
   have a0w:=fun xa:After wr=>akeep a0 xa
   have a1w:=fun xa:After wr=>akeep a1 xa
   have d2w:=fun xa:After wr=>akeep d2 xa
   have c0w:=fun xa:After wr=>akeep hc0 xa
   have c1w:=fun xa:After wr=>akeep hc1 xa
   have HL:Hid (∀ xa:After wr,Calls Tryz.prog 156 #[.agg #[.slice qn n.nodes.length cn,.slice pn n.fibers.length cp],.agg #[.int .i64 x.start,.slice x.q x.fibs.length x.cap]] xa.w' fun e w'=>e=.returned (.int .i64 (lenR n.fibers x.fibs))∧Fresh xa.w' w'):=fun xa =>
    l4Length_any _ n x.start x.q x.cap x.fibs xa.w' ((HN.out.keep HF3'.out).keep xa.h) ((HRT3.out.fib x HX.out).ints.keep xa.h) (HGD.out x HX.out) HLB.out
   obtain⟨L,hL⟩:∃ L,L=lenR n.fibers x.fibs:=⟨_,rfl⟩
   have HUS:Hid (useS n fm d.len x.val=slotsN fm L d.len):=by show _=_;rw[hL];rfl
   rw[← hL] at HL
   have HS:Hid (∀ xa:After wr,Calls Tryz.prog 155 #[.slice pf fm.length cf,.int .i64 L,.int .i64 d.len] xa.w' fun e w'=>e=.returned (.int .i64 (slotsN fm L d.len))∧Fresh xa.w' w'):=fun xa =>
    l10Slots_any pf cf fm L d.len xa.w' ((HP.out.keep HF3'.out).keep xa.h) hfl HAT.out.2.1 ⟨HAT.out.2.2.2.1,HAT.out.2.2.2.2.1⟩
   obtain⟨S,hS⟩:∃ S,S=slotsN fm L d.len:=⟨_,rfl⟩
   have hSP:S=0∨1≤S:=by
    by_cases h0:S=0
    ·exact Or.inl h0
    ·right;rw[hS] at h0 ⊢;exact(slotsN_pos HAT.out.2.1 HAT.out.2.2.2.1 h0).1
   rw[← hS] at HS HUS
   clear hL hS
   go_wp2
   refine wp_region_after (by kernel_rfl) (by kernel_rfl) ?_
   repeat (go_big_quiet_step (first|(go_at_call 156;exact after_call (HL.out _))|(go_at_call 155;exact after_call (HS.out _))))
   refine wpQuiet_nil ?_
   rintro _ ⟨xa,rfl⟩
   have hxa:=xa.h
   obtain⟨W8,hW8⟩:∃ W,W=xa.w':=⟨_,rfl⟩
   rw[← hW8] at hxa ⊢
   have HXA:=Lib.hid hxa
   have hsz8:=hxa.size
   have c0':=fkeep hxa hc0
   have c1':=fkeep hxa hc1
   clear a0w a1w d2w c0w c1w a0 a1 d2 hc0 hc1 HL HS hxa hW8
   rcases hSP with hz|hz
   ·have hng:¬ (0:Int)<S:=by omega
    have HNO:=Lib.hid (chs_no (n:=n) (fm:=fm) (r:=d.len) (l:=l.take j) (x:=x) (by rw[HUS.out,hz]))
    clear hz
    go_wp2
    go_roundw
    case rel=>exact⟨j+1,by omega,by go_num,by rw[HTK.out,HNO.out];exact ownsRow_keep HO.out HXA.out,by rw[HTK.out,HNO.out];exact ownsRow_keep HK.out HXA.out,HNE'.out,HNK'.out,fstep HF3'.out HXA.out,by omega,HRT3.out.keep HXA.out,HR1'.out.keep HXA.out,HR2'.out.keep HXA.out⟩
    case measure=>simp[intOf];omega
   ·have hpg:(0:Int)<S:=by omega
    have HYES:Hid (chsOf n fm d.len (l.take j++[x])=chsOf n fm d.len (l.take j)++[⟨x,S⟩]):=by show _=_;rw[chs_yes (by rw[HUS.out];omega),HUS.out]
    clear hz
    obtain⟨I,hI⟩:∃ I,I=chsOf n fm d.len (l.take j):=⟨_,rfl⟩
    rw[← hI] at hcl HO HK HYES
    have hown6:=ownsRow_keep HO.out HXA.out
    have HF8:=Lib.hid (fstep HF3'.out HXA.out)
    clear hI
    go_wp2_with (first|(at_builtin;refine wpList_app_x Tryz.underlying137 infoRt rfl (by decide) (by decide) w W8 _ I.length ((I.map CH.r).flatMap lrC) [.int .i64 x.start,.slice x.q x.fibs.length x.cap] _ rfl (one_rt x) rfl _ _ rfl rfl hown6 rfl rfl (by omega) HF8.out ?_;intro v' w' hown3 hf3 hkp hbk hsa)|(at_builtin;refine wpList_app_x Tryz.underlying29 infoInt rfl (by decide) (by decide) w w' _ I.length (I.map fun x=>iv x.k) [.int .i64 S] _ rfl (by intro u hu;simp at hu;subst hu;rfl) rfl _ _ rfl rfl (ownsRow_typ (ownsRow_keep HK.out HXA.out) (fun g t cs h n=>hkp g t cs h (Or.inl n)) (by decide)) rfl rfl (by omega) hf3 ?_;intro v2 w2 hown4 hf4 hkp4 hbk4 hsb))
    have HO3:=Lib.hid hown3
    have HF9:=Lib.hid hf3
    have HK3:=Lib.hid hkp
    have HB3:=Lib.hid hbk
    have HO4:=Lib.hid hown4
    have HF10:=Lib.hid hf4
    have HK4:=Lib.hid hkp4
    have HB4:=Lib.hid hbk4
    have HLT:=Lib.hid (And.intro hsa hsb)
    clear hown3 hf3 hkp hbk hown6 c0' c1' hown4 hf4 hkp4 hbk4 hsa hsb
    go_wp2
    go_roundw
    case rel =>
     have hpk:∀ g' o',(some (⟨g,0,none⟩:Addr))=some ⟨g',o',none⟩→¬ (_:Option Nat)=some g':=fun g' o' e hk=>by
      cases e
      have h1:=HGE.out g 0 rfl
      rcases HNE'.out g hk with h|h <;> omega
     have hpi:∀ y∈l,∀ g' o',y.q=some ⟨g',o',none⟩→¬ (_:Option Nat)=some g':=fun y hy g' o' e hk=>by
      have h1:=HFE.out y hy g' o' e
      rcases HNK'.out g' hk with h|h <;> omega
     have hz9:=HLT.out.1
     have hz10:=HLT.out.2
     refine⟨j+1,by omega,by go_num,?_,?_,fun k hk=>?_,fun k hk=>?_,HF10.out,?_,((HRT3.out.keep HXA.out).hk HK3.out hpk).hkI HK4.out hpi,?_,?_⟩
     ·rw[HTK.out,HYES.out,List.map_append,List.flatMap_append,List.length_append]
      exact ownsRow_typ HO3.out (fun g t cs h n=>HK4.out g t cs h (Or.inl n)) (by decide)
     ·rw[HTK.out,HYES.out,List.map_append,List.length_append]
      exact HO4.out
     ·rcases HB3.out k hk with h|h
      ·exact HNE'.out k h
      ·right;omega
     ·rcases HB4.out k hk with h|h
      ·exact HNK'.out k h
      ·right;omega
     ·omega
     ·exact HK4.out _ _ _ (HK3.out _ _ _ (HR1'.out.keep HXA.out) (Or.inl (by decide))) (Or.inl (by decide))
     ·exact HK4.out _ _ _ (HK3.out _ _ _ (HR2'.out.keep HXA.out) (Or.inl (by decide))) (Or.inl (by decide))
    case measure=>simp[intOf];omega
  ·have hjn:j=l.length:=by omega
   have hltz:¬ (j:Int)<(l.length:Int):=by omega
   subst hjn
   rw[List.take_length] at hown howk
   have HO:=Lib.hid hown
   have HK:=Lib.hid howk
   have HFF:=Lib.hid hf
   have HRT:=Lib.hid hrt
   clear hown howk hne hnk hf hrt hrn hrd
   obtain⟨pk,ck,hs,_,_,_⟩:=owns_cap HK.out
   subst hs
   go_wp2
   go_ret3
   refine⟨_,pk,ck,chsOf n fm d.len l,by rw[HOK.out];(first|done|rfl),⟨⟨by rw[chsR_len];exact HO.out,fun x hx=>?_,by rw[chs_rs];exact HRT.out.dist.filter _,fun x hx=>?_⟩,HK.out⟩,by rw[usF_yes HOK.out,chs_val,HVAL.out],HFF.out⟩
   ·rw[chs_rs] at hx
    exact HRT.out.fib x (List.mem_filter.1 hx).1
   ·rw[chs_rs] at hx
    exact HRT.out.cap x (List.mem_filter.1 hx).1
theorem chs_at {w:World} {base:Nat} {p:Option Addr} {c:Nat} {l:List CH} (h:Chs w base (.slice p l.length c) l) {j:Nat} (hj:j<l.length) :
  ∃ g x,p=some ⟨g,0,none⟩∧l[j]?=some x∧x∈l∧w.cell? ⟨g,j * 3,none⟩=some (iv x.r.start)∧w.cell? ⟨g,j * 3+1,none⟩=some (.slice x.r.q x.r.fibs.length x.r.cap)∧w.cell? ⟨g,j * 3+2,none⟩=some (iv x.k):=by
 obtain⟨p',c',hpe,hown,_,_⟩:=owns_cap h.row
 cases hpe
 rcases hown with⟨_,h0⟩|⟨g,sp,rfl,hg,hrow⟩
 ·exfalso
  have:=congrArg List.length h0
  rw[flat_len chC 3 (fun _=>rfl)] at this
  simp at this;omega
 obtain⟨x,hx⟩:∃ x,l[j]?=some x:=⟨l[j],List.getElem?_eq_getElem hj⟩
 have hl:=flat_len chC 3 (fun _=>rfl) l
 exact⟨g,x,rfl,hx,List.mem_of_getElem? hx,hrow.cell (by rw[List.getElem?_append_left (by omega)];exact flat_get chC 3 (fun _=>rfl) l j 0 (by omega) x hx),
  hrow.cell (by rw[List.getElem?_append_left (by omega)];exact flat_get chC 3 (fun _=>rfl) l j 1 (by omega) x hx),hrow.cell (by rw[List.getElem?_append_left (by omega)];exact flat_get chC 3 (fun _=>rfl) l j 2 (by omega) x hx)⟩
theorem usOk_no {n:Net} {fm:List (Int × Int)} {d:Fib} (h:usB n fm d=false):usOk n fm d=false:=by unfold usOk;rw[h];rfl
theorem ch_len {n:Net} {fm:List (Int × Int)} {d:Fib} {l:List CH} (h:l.map CH.val=(usF n fm d).1):l.length≤200:=by
 have h1:=usF_len n fm d
 rw[← h] at h1
 simpa using h1
set_option maxHeartbeats 4000000 in
set_option maxRecDepth 20000 in
theorem specUsableRoutes_any (v:Value) (n:Net) (pf:Option Addr) (cf:Nat) (fm:List (Int × Int)) (d:Fib) (w:World) (h:NetIn w v n) (hfm:Prs w pf fm) (hfl:fm.length≤1048576) :
  Calls Tryz.prog 203 #[v,.slice pf fm.length cf,fibV d] w (OutU n fm d w):=by
 have HN:=Lib.hid h
 have HP:=Lib.hid hfm
 obtain⟨qn,cn,pn,cp,rfl,_,_,n1,_,_,_,_⟩:=h
 obtain⟨W2,hW2,hsz2,hf2,r1,r2⟩:=two_rows w [.slice qn n.nodes.length cn,.slice pn n.fibers.length cp] [.int .i64 d.a,.int .i64 d.b,.int .i64 d.len,.int .i64 d.risk] 35 59
 have HF2:=Lib.hid hf2
 have HR1:=Lib.hid r1
 have HR2:=Lib.hid r2
 have HW2:=Lib.hid hW2
 have H1:=Lib.hid (l2Good_any _ n W2 (HN.out.keep hf2))
 have H2:Hid (∀ W,Fresh W2 W→Calls Tryz.prog 107 #[.slice pf fm.length cf] W fun e w'=>e=.returned (.bool (fmtsB fm))∧Fresh W w'):=fun W hW=>l10Formats_any pf cf fm W (HP.out.keep (fstep hf2 hW)) hfl
 have H3:Hid (∀ W,Fresh W2 W→Calls Tryz.prog 153 #[.agg #[.slice qn n.nodes.length cn,.slice pn n.fibers.length cp],.agg #[.int .i64 d.a,.int .i64 d.b,.int .i64 d.len,.int .i64 d.risk]] W fun e w'=>e=.returned (.bool (demB n.nodes.length d))∧Fresh W w'):=fun W hW=>l10Demand_any _ n d W (HN.out.keep (fstep hf2 hW))
 have H4:Hid (∀ W,Fresh W2 W→usB n fm d=true→Calls Tryz.prog 110 #[.agg #[.slice qn n.nodes.length cn,.slice pn n.fibers.length cp],.slice pf fm.length cf,.agg #[.int .i64 d.a,.int .i64 d.b,.int .i64 d.len,.int .i64 d.risk]] W (OutU n fm d W)):=fun W hW hu=>l10Usable_any _ n pf cf fm d W (HN.out.keep (fstep hf2 hW)) (HP.out.keep (fstep hf2 hW)) hfl hu
 clear hfm hf2 r1 r2 hW2
 have hend:∀ (W:World) (a b:Nat),Fresh w W→usB n fm d=false→w.heap.size≤a→w.heap.size≤b→RowAt W a 90 []→RowAt W b 3 []→OutU n fm d w (.returned (.tuple #[.slice (some ⟨a,0,none⟩) 0 0,.slice (some ⟨b,0,none⟩) 0 0,.bool false])) W:=fun W a b hW hu ha hb hra hrb =>
  ⟨_,some ⟨b,0,none⟩,0,[],by rw[usOk_no hu];rfl,⟨Rts.nil _ _ (ownsRow_zero hra ha),ownsRow_zero hrb hb⟩,by rw[usF_no (usOk_no hu)];rfl,hW⟩
 have HEND:=Lib.hid hend
 clear hend
 go_enter Tryz.func203,Tryz.ntmps203
 go_wp2_with fail
 rw[← HW2.out]
 refine(H1.out).mono ?_
 rintro e w3 ⟨rfl,hf⟩
 have HF3:=Lib.hid hf
 have a0:=(HR1.out.keep hf).cell (i:=0) rfl
 have a1:=(HR1.out.keep hf).cell (i:=1) rfl
 have d0:=(HR2.out.keep hf).cell (i:=0) rfl
 have d1:=(HR2.out.keep hf).cell (i:=1) rfl
 have d2:=(HR2.out.keep hf).cell (i:=2) rfl
 have d3:=(HR2.out.keep hf).cell (i:=3) rfl
 have hsz3:=hf.size
 clear hf H1
 cases hnet:netB n
 ·have HB:Hid (usB n fm d=false):=by show _=_;unfold usB;rw[hnet];rfl
  obtain⟨W4,hW4⟩:∃ W,W=(w3.alloc (.cells #[] 90)).alloc (.cells #[] 3):=⟨_,rfl⟩
  have hf4:Fresh w3 W4:=by rw[hW4];exact fnew (fnew (frefl _) _) _
  have HRA:Hid (RowAt W4 w3.heap.size 90 []):=by show RowAt _ _ _ _;rw[hW4];exact(RowAt.new w3 _ []).alloc _
  have HRB:Hid (RowAt W4 (w3.heap.size+1) 3 []):=by
   show RowAt _ _ _ _
   rw[hW4]
   have:=RowAt.new (w3.alloc (.cells #[] 90)) 3 []
   simpa using this
  have HF4:=Lib.hid (fstep HF2.out (fstep HF3.out hf4))
  have HW4:=Lib.hid hW4
  have hsz:=HF2.out.size
  clear hf4 hW4 hnet
  go_wp2
  go_ret3
  (try rw[← HW4.out])
  exact HEND.out W4 _ _ HF4.out HB.out (by omega) (by omega) HRA.out HRB.out
 have HNET:=Lib.hid hnet
 clear hnet
 go_wp2_with fail
 refine(H2.out _ HF3.out).mono ?_
 rintro e w4 ⟨rfl,hf⟩
 have HF4:=Lib.hid (fstep HF3.out hf)
 have hsz4:=hf.size
 replace a0:=fkeep hf a0
 replace a1:=fkeep hf a1
 replace d0:=fkeep hf d0
 replace d1:=fkeep hf d1
 replace d2:=fkeep hf d2
 replace d3:=fkeep hf d3
 clear hf H2
 cases hfm:fmtsB fm
 ·have HB:Hid (usB n fm d=false):=by show _=_;unfold usB;rw[hfm];simp
  obtain⟨W4,hW4⟩:∃ W,W=(w4.alloc (.cells #[] 90)).alloc (.cells #[] 3):=⟨_,rfl⟩
  have hf4:Fresh w4 W4:=by rw[hW4];exact fnew (fnew (frefl _) _) _
  have HRA:Hid (RowAt W4 w4.heap.size 90 []):=by show RowAt _ _ _ _;rw[hW4];exact(RowAt.new w4 _ []).alloc _
  have HRB:Hid (RowAt W4 (w4.heap.size+1) 3 []):=by
   show RowAt _ _ _ _
   rw[hW4]
   have:=RowAt.new (w4.alloc (.cells #[] 90)) 3 []
   simpa using this
  have HFW:=Lib.hid (fstep HF2.out (fstep HF4.out hf4))
  have HW4:=Lib.hid hW4
  have hsz:=HF2.out.size
  clear hf4 hW4 hfm
  go_wp2
  go_ret3
  (try rw[← HW4.out])
  exact HEND.out W4 _ _ HFW.out HB.out (by omega) (by omega) HRA.out HRB.out
 have HFM:=Lib.hid hfm
 clear hfm
 go_wp2_with fail
 refine(H3.out _ HF4.out).mono ?_
 rintro e w5 ⟨rfl,hf⟩
 have HF5:=Lib.hid (fstep HF4.out hf)
 have hsz5:=hf.size
 replace a0:=fkeep hf a0
 replace a1:=fkeep hf a1
 replace d0:=fkeep hf d0
 replace d1:=fkeep hf d1
 replace d2:=fkeep hf d2
 replace d3:=fkeep hf d3
 clear hf H3
 cases hdb:demB n.nodes.length d
 ·have HB:Hid (usB n fm d=false):=by show _=_;unfold usB;rw[hdb];simp
  obtain⟨W4,hW4⟩:∃ W,W=(w5.alloc (.cells #[] 90)).alloc (.cells #[] 3):=⟨_,rfl⟩
  have hf4:Fresh w5 W4:=by rw[hW4];exact fnew (fnew (frefl _) _) _
  have HRA:Hid (RowAt W4 w5.heap.size 90 []):=by show RowAt _ _ _ _;rw[hW4];exact(RowAt.new w5 _ []).alloc _
  have HRB:Hid (RowAt W4 (w5.heap.size+1) 3 []):=by
   show RowAt _ _ _ _
   rw[hW4]
   have:=RowAt.new (w5.alloc (.cells #[] 90)) 3 []
   simpa using this
  have HFW:=Lib.hid (fstep HF2.out (fstep HF5.out hf4))
  have HW4:=Lib.hid hW4
  have hsz:=HF2.out.size
  clear hf4 hW4 hdb
  go_wp2
  go_ret3
  (try rw[← HW4.out])
  exact HEND.out W4 _ _ HFW.out HB.out (by omega) (by omega) HRA.out HRB.out
 have hub:usB n fm d=true:=by unfold usB;rw[HNET.out,HFM.out,hdb];rfl
 have HC:=Lib.hid (H4.out _ HF5.out hub)
 clear hdb hub
 go_wp2_with fail
 refine(HC.out).mono ?_
 rintro e w6 ⟨V,pk,ck,l,rfl,hu,hv,hf⟩
 have HU:=Lib.hid hu
 have HV:=Lib.hid hv
 have HFF:=Lib.hid (fstep HF2.out (fstep HF5.out hf))
 have hsz:=HF2.out.size
 clear hu hv hf HC
 go_wp2
 go_ret3
 exact⟨V,pk,ck,l,rfl,HU.out.mono (by omega),HV.out,HFF.out⟩
end Go.Proofs.YteckjlkhopkogaaGreat
