/- Texts of mine laid together (FmP, Fm, AsgP, Asg, Asg2, Asg3, CqP, Cq, Cq2, Cb): contracts of functions and plain laws. -/
import Derived.Test.YteckjlkhopkogaaGreatU4
import Derived.Test.YteckjlkhopkogaaGreatU1
import Derived.Test.YteckjlkhopkogaaGreatU3
namespace Go.Proofs.YteckjlkhopkogaaGreat
open Go.RowKit
def usedN (L:List LtV) (f:Int):Nat:=L.foldl (fun a x=>if f∈x.2.1.2 then a ||| mkN x.2.2 else a) 0
theorem used_step {L:List LtV} {k:Nat} {x:LtV} (f:Int) (hx:L[k]?=some x):usedN (L.take (k+1)) f=if f∈x.2.1.2 then usedN (L.take k) f ||| mkN x.2.2 else usedN (L.take k) f:=by
 unfold usedN;rw[List.take_add_one,hx];simp
theorem used_snoc (L:List LtV) (x:LtV) (f:Int):usedN (L++[x]) f=if f∈x.2.1.2 then usedN L f ||| mkN x.2.2 else usedN L f:=by unfold usedN;simp
theorem snocInd {α:Type} {P:List α→Prop} (h0:P []) (h1:∀ l a,P l→P (l++[a])) (l:List α):P l:=by
 have:∀ l:List α,P l.reverse:=by
  intro l
  induction l with
  | nil=>exact h0
  | cons a l ih=>rw[List.reverse_cons];exact h1 _ _ ih
 have:=this l.reverse
 rwa [List.reverse_reverse] at this
theorem used_lt {L:List LtV} (f:Int) (h:∀ x∈L,goodB x.2.2.1 x.2.2.2=true):usedN L f<16777216:=by
 revert h
 refine snocInd (P:=fun L=>(∀ x∈L,goodB x.2.2.1 x.2.2.2=true)→usedN L f<16777216) (fun _=>by simp[usedN]) ?_ L
 intro L a ih h
 have h1:=ih fun x hx=>h x (List.mem_append_left _ hx)
 have h2:=(mkN_ok (h a (by simp))).2.2
 rw[used_snoc]
 split
 ·exact or24 h1 h2
 ·exact h1
def tallyO (S:List Nat) (c:Nat) (fs:List Int):List Nat:=fs.foldl (fun S i=>S.set i.toNat (S.getD i.toNat 0 ||| c)) S
theorem tallyO_step {S:List Nat} {c:Nat} {fs:List Int} {k:Nat} {i:Int} (hx:fs[k]?=some i):tallyO S c (fs.take (k+1))=(tallyO S c (fs.take k)).set i.toNat ((tallyO S c (fs.take k)).getD i.toNat 0 ||| c):=by
 unfold tallyO;rw[List.take_add_one,hx];simp
theorem tallyO_len (S:List Nat) (c:Nat) (fs:List Int):(tallyO S c fs).length=S.length:=by
 induction fs generalizing S with
 | nil=>rfl
 | cons a fs ih=>unfold tallyO at *;rw[List.foldl_cons,ih];simp
def masksR (m:Nat) (L:List LtV):List Nat:=L.foldl (fun S x=>tallyO S (mkN x.2.2) x.2.1.2) (List.replicate m 0)
theorem masks_step {m:Nat} {L:List LtV} {k:Nat} {x:LtV} (hx:L[k]?=some x):masksR m (L.take (k+1))=tallyO (masksR m (L.take k)) (mkN x.2.2) x.2.1.2:=by
 unfold masksR;rw[List.take_add_one,hx];simp
theorem masks_snoc (m:Nat) (L:List LtV) (x:LtV):masksR m (L++[x])=tallyO (masksR m L) (mkN x.2.2) x.2.1.2:=by unfold masksR;simp
theorem masks_len (m:Nat) (L:List LtV):(masksR m L).length=m:=by
 refine snocInd (P:=fun L=>(masksR m L).length=m) (by simp[masksR]) ?_ L
 intro L a ih;rw[masks_snoc,tallyO_len,ih]
theorem getDO_set (S:List Nat) (i j v:Nat) (hi:i<S.length):(S.set i v).getD j 0=if i=j then v else S.getD j 0:=by
 simp only[List.getD_eq_getElem?_getD,List.getElem?_set]
 split
 ·simp
 ·rfl
theorem tallyO_val (c:Nat) (fs:List Int):∀ (S:List Nat),fs.Nodup→(∀ i∈fs,0≤i∧i<S.length)→∀ f:Nat,(tallyO S c fs).getD f 0=if (f:Int)∈fs then S.getD f 0 ||| c else S.getD f 0:=by
 induction fs with
 | nil=>intro S _ _ f;simp[tallyO]
 | cons a fs ih =>
  intro S hn hr f
  have ha:=hr a List.mem_cons_self
  have e:tallyO S c (a :: fs)=tallyO (S.set a.toNat (S.getD a.toNat 0 ||| c)) c fs:=rfl
  rw[List.nodup_cons] at hn
  rw[e,ih _ hn.2 (fun i hi=>by rw[List.length_set];exact hr i (List.mem_cons_of_mem _ hi)),getDO_set _ _ _ _ (by omega)]
  by_cases hf:a.toNat=f
  ·have h1:(f:Int)=a:=by omega
   have h2:¬ (f:Int)∈fs:=by rw[h1];exact hn.1
   rw[if_neg h2,if_pos hf,if_pos (by rw[h1];exact List.mem_cons_self),hf]
  ·have h1:(f:Int)≠a:=by omega
   rw[if_neg hf]
   by_cases h2:(f:Int)∈fs
   ·rw[if_pos h2,if_pos (List.mem_cons_of_mem _ h2)]
   ·rw[if_neg h2,if_neg (by simp[h1,h2])]
theorem masks_val (m:Nat) (L:List LtV) (h:∀ x∈L,x.2.1.2.Nodup∧∀ i∈x.2.1.2,0≤i∧i<m) (f:Nat):(masksR m L).getD f 0=usedN L f:=by
 revert h
 refine snocInd (P:=fun L=>(∀ x∈L,x.2.1.2.Nodup∧∀ i∈x.2.1.2,0≤i∧i<(m:Int))→(masksR m L).getD f 0=usedN L f) ?_ ?_ L
 ·intro _;simp[masksR,usedN,List.getD_eq_getElem?_getD,List.getElem?_replicate];split <;> rfl
 ·intro L a ih h
  have ha:=h a (by simp)
  rw[masks_snoc,tallyO_val _ _ _ ha.1 (by rw[masks_len];exact ha.2),used_snoc,ih fun x hx=>h x (List.mem_append_left _ hx)]
theorem tallyO_lt {S:List Nat} {c:Nat} {fs:List Int} (hc:c<16777216) (hS:∀ j:Nat,S.getD j 0<16777216):∀ j:Nat,(tallyO S c fs).getD j 0<16777216:=by
 refine snocInd (P:=fun fs=>∀ j:Nat,(tallyO S c fs).getD j 0<16777216) (fun j=>by simpa [tallyO] using hS j) ?_ fs
 intro fs a ih j
 have e:tallyO S c (fs++[a])=(tallyO S c fs).set a.toNat ((tallyO S c fs).getD a.toNat 0 ||| c):=by unfold tallyO;simp
 rw[e]
 by_cases hl:a.toNat<(tallyO S c fs).length
 ·rw[getDO_set _ _ _ _ hl];split
  ·exact or24 (ih _) hc
  ·exact ih _
 ·rw[List.set_eq_of_length_le (by omega)];exact ih _
theorem masks_lt {m:Nat} {L:List LtV} (h:∀ x∈L,goodB x.2.2.1 x.2.2.2=true):∀ j:Nat,(masksR m L).getD j 0<16777216:=by
 revert h
 refine snocInd (P:=fun L=>(∀ x∈L,goodB x.2.2.1 x.2.2.2=true)→∀ j:Nat,(masksR m L).getD j 0<16777216) ?_ ?_ L
 ·intro _ j;simp[masksR,List.getD_eq_getElem?_getD,List.getElem?_replicate];split <;> simp
 ·intro L a ih h
  rw[masks_snoc]
  exact tallyO_lt (mkN_ok (h a (by simp))).2.2 (ih fun x hx=>h x (List.mem_append_left _ hx))
theorem walk_nodupF {F:List Fib} {s:Int} {l:List Int}:∀ {k:Nat} {out:List Int},k≤l.length→walkR F s (l.take k)=some out →
  (l.take k).Nodup∧∀ i∈l.take k,0≤i∧i<F.length∧∃ f,F[i.toNat]?=some f∧f.a∈out∧f.b∈out:=by
 intro k
 induction k with
 | zero=>intro out _ _;simp
 | succ k ih =>
  intro out hk h
  have hlen:=walk_len hk h
  cases ho:walkR F s (l.take k) with
  | none =>
   have:walkR F s (l.take (k+1))=none:=by
    have:=walk_dead (F:=F) (s:=s) (l:=l.take (k+1)) (k:=k) (by rw[List.take_take,Nat.min_eq_left (by omega)];exact ho)
    exact this
   rw[this] at h;cases h
  | some o =>
   have hlo:=walk_len (k:=k) (by omega) ho
   obtain⟨hnd,hal⟩:=ih (by omega) ho
   have hx:l[k]?=some l[k]:=List.getElem?_eq_getElem (by omega)
   rw[walk_step ho hx] at h
   unfold stepR at h
   split at h
   ·next hin =>
    split at h
    ·next f hf =>
     split at h
     ·cases h
     ·next hb =>
      cases h
      obtain⟨g1,g2⟩:=inB_iff.1 hin
      have hlast:lastI o∈o:=by
       unfold lastI
       cases hg:o.getLast? with
       | none=>rw[List.getLast?_eq_none_iff] at hg;subst hg;simp at hlo
       | some y=>exact List.mem_of_getLast? hg
      have hoth:(lastI o=f.a∧other f (lastI o)=f.b)∨(lastI o=f.b∧other f (lastI o)=f.a):=by
       by_cases h1:lastI o=f.a
       ·exact Or.inl ⟨h1,by simp[other,h1]⟩
       ·by_cases h2:lastI o=f.b
        ·exact Or.inr ⟨h2,by simp only[other,if_neg h1,if_pos h2]⟩
        ·exfalso;apply hb;left;simp only[other,if_neg h1,if_neg h2];omega
      have hnot:¬ other f (lastI o)∈o:=fun h=>hb (Or.inr h)
      have hnew:¬ l[k]∈l.take k:=by
       intro hm
       obtain⟨_,_,f',hf',ha,hb'⟩:=hal _ hm
       rw[hf] at hf';cases hf'
       rcases hoth with⟨_,e⟩|⟨_,e⟩ <;> rw[e] at hnot
       ·exact hnot hb'
       ·exact hnot ha
      rw[List.take_add_one,hx]
      refine⟨?_,?_⟩
      ·rw[List.nodup_append]
       refine⟨hnd,by simp,fun a ha b hb'=>?_⟩
       simp at hb'
       subst hb'
       intro e;subst e;exact hnew ha
      ·intro i hi
       rw[List.mem_append] at hi
       rcases hi with hi|hi
       ·obtain⟨a1,a2,f',a3,a4,a5⟩:=hal i hi
        exact⟨a1,a2,f',a3,List.mem_append_left _ a4,List.mem_append_left _ a5⟩
       ·simp at hi
        subst hi
        refine⟨g1,by omega,f,hf,?_⟩
        rcases hoth with⟨e1,e2⟩|⟨e1,e2⟩
        ·exact⟨by rw[← e1];exact List.mem_append_left _ hlast,by rw[e2];simp⟩
        ·exact⟨by rw[e2];simp,by rw[← e1];exact List.mem_append_left _ hlast⟩
    ·cases h
   ·cases h
theorem vis_nodupF {n:Net} {s:Int} {l:List Int} (h:isVis n s l=true):l.Nodup∧∀ i∈l,0≤i∧i<(n.fibers.length:Int):=by
 unfold isVis visR at h
 split at h
 ·cases ho:walkR n.fibers s l with
  | none=>rw[ho] at h;cases h
  | some o =>
   have:=walk_nodupF (F:=n.fibers) (s:=s) (l:=l) (k:=l.length) (out:=o) (Nat.le_refl _) (by rw[List.take_length];exact ho)
   rw[List.take_length] at this
   exact⟨this.1,fun i hi=>⟨(this.2 i hi).1,(this.2 i hi).2.1⟩⟩
 ·cases h
theorem lt_route {n:Net} {x:LtV} (h:ltB n x=true):x.2.1.2.Nodup∧∀ i∈x.2.1.2,0≤i∧i<(n.fibers.length:Int):=by
 unfold ltB at h;simp only[Bool.and_eq_true] at h;exact vis_nodupF h.1.2
theorem masks_eq {P:PlanV} (h:planB P=true):masksR P.net.fibers.length P.lights=(List.range P.net.fibers.length).map fun f:Nat=>usedN P.lights f:=by
 apply List.ext_getElem?
 intro j
 have hv:=masks_val P.net.fibers.length P.lights (fun x hx=>lt_route (planB_lt h x hx)) j
 have hl:=masks_len P.net.fibers.length P.lights
 rcases Nat.lt_or_ge j P.net.fibers.length with hj|hj
 ·rw[List.getD_eq_getElem?_getD,List.getElem?_eq_getElem (by omega)] at hv
  rw[List.getElem?_eq_getElem (by omega),List.getElem?_map,List.getElem?_range hj]
  simp only[Option.getD_some] at hv
  rw[hv];rfl
 ·rw[List.getElem?_eq_none (by omega),List.getElem?_eq_none (by simp;omega)]
def alongN (L:List LtV) (fs:List Int):Nat:=fs.foldl (fun a i=>a ||| usedN L i) 0
theorem along_step {L:List LtV} {fs:List Int} {k:Nat} {i:Int} (hx:fs[k]?=some i):alongN L (fs.take (k+1))=alongN L (fs.take k) ||| usedN L i:=by
 unfold alongN;rw[List.take_add_one,hx];simp
theorem along_lt {L:List LtV} {fs:List Int} (h:∀ x∈L,goodB x.2.2.1 x.2.2.2=true):alongN L fs<16777216:=by
 refine snocInd (P:=fun fs=>alongN L fs<16777216) (by simp[alongN]) ?_ fs
 intro fs a ih
 have e:alongN L (fs++[a])=alongN L fs ||| usedN L a:=by unfold alongN;simp
 rw[e];exact or24 ih (used_lt a h)
open Go.PlainAid
set_option maxHeartbeats 4000000 in
set_option maxRecDepth 100000 in
theorem l9Used_any (v:Value) (P:PlanV) (f:Int) (w:World) (h:PlIn w v P) (hg:∀ x∈P.lights,goodB x.2.2.1 x.2.2.2=true) :
  Calls Tryz.prog 159 #[v,.int .i64 f] w fun e w'=>e=.returned (.int .i64 (usedN P.lights f:Int))∧Fresh w w':=by
 obtain⟨N,L⟩:=P
 obtain⟨q,m,c,p,k0,d,r,e0,l,rfl,hN,hL,hs,hv,he1,he2⟩:=h
 simp only at hv hg ⊢
 have hn:=hs.1
 have hlen:L.length=l.length:=by rw[hv];simp
 obtain⟨W1,hW1⟩:∃ W1,W1=w.alloc (.cells #[.slice q m c,.slice p k0 d,.slice r l.length e0] 38):=⟨_,rfl⟩
 have hf:Fresh w W1:=by rw[hW1];exact fnew (frefl _) _
 have c2:W1.cell? ⟨w.heap.size,2,none⟩=some (.slice r l.length e0):=by rw[hW1];exact(RowAt.new w 38 [.slice q m c,.slice p k0 d,.slice r l.length e0]).cell (i:=2) rfl
 have HF:=Lib.hid hf
 have HL:=Lib.hid (hL.keep hf)
 have HC:=Lib.hid c2
 have HW:=Lib.hid hW1
 have HV:=Lib.hid hv
 have HG:=Lib.hid hg
 have HSM:=Lib.hid hs
 have HLEN:=Lib.hid hlen
 clear hN hL hs hv hf c2 hW1 hg hlen
 go_enter Tryz.func159,Tryz.ntmps159
 go_wp2
 rw[← HW.out]
 clear HW
 go_loopw [5,6] (fun a i wr=>∃ k:Nat,k≤l.length∧i=.int .i64 k∧a=.int .i64 (usedN (L.take k) f:Int)∧Fresh W1 wr) (fun _ i _=>l.length - (intOf i).toNat)
 case atStart=>exact⟨0,Nat.zero_le _,rfl,rfl,frefl _⟩
 case round =>
  obtain⟨k,hk,rfl,rfl,hfr⟩:=hrel
  have c2:=fkeep hfr HC.out
  have HFR:=Lib.hid hfr
  by_cases hlt:k<l.length
  ·have hltz:(k:Int)<(l.length:Int):=by omega
   obtain⟨b,off,x,hr,hx,hm,hi,hc0,hc1,hc2,hc3,hc4⟩:=(HL.out.keep hfr).at hlt
   subst hr
   have hxv:=lval_at HV.out hx
   have hgx:=HG.out _ (List.mem_of_getElem? hxv)
   obtain⟨g1,g2,g3⟩:=goodB_iff.1 hgx
   obtain⟨e1,_,e3⟩:=mkN_ok hgx
   have hult:=used_lt (L:=L.take k) f (fun x hx=>HG.out x (List.mem_of_mem_take hx))
   have HST:=Lib.hid (used_step f hxv)
   obtain⟨u,hu⟩:∃ u,u=usedN (L.take k) f:=⟨_,rfl⟩
   rw[← hu] at hult
   have hor:=or_i64 u (mkN (x.f,x.c)) (lt63 hult) (lt63 e3)
   rw[← e1] at hor
   rw[← hu]
   have HOR:=Lib.hid hor
   have HU:=Lib.hid hu
   have HI:=Lib.hid hi
   have hsz:=HSM.out.2 x hm
   clear hx hxv hgx e1 e3 hult hor hu hi hm hfr
   by_cases hmem:f∈x.r.fibs
   ·have hdm:decide (f∈x.r.fibs)=true:=decide_eq_true hmem
    have HN:Hid (usedN (L.take (k+1)) f=u ||| mkN (x.f,x.c)):=by show _=_;rw[HST.out,if_pos hmem,HU.out]
    clear hmem
    go_wp2_with (first|(go_at_call 184;refine(l1Has_any _ _ _ _ _ HI.out (by omega)).mono ?_;rintro e w2 ⟨rfl,rfl⟩)|(go_at_call 142;refine(l8Bits_any _ _ _ (by omega) (by omega) (by omega)).mono ?_;rintro e w3 ⟨rfl,hb3⟩))
    have HF3:=Lib.hid (fstep HFR.out hb3)
    clear hb3
    go_roundw
    case rel=>exact⟨k+1,by omega,by go_num,by rw[HN.out,HOR.out],HF3.out⟩
    case measure=>simp[intOf];omega
   ·have hdm:decide (f∈x.r.fibs)=false:=decide_eq_false hmem
    have HN:Hid (usedN (L.take (k+1)) f=u):=by show _=_;rw[HST.out,if_neg hmem,HU.out]
    clear hmem
    go_wp2_with (go_at_call 184;refine(l1Has_any _ _ _ _ _ HI.out (by omega)).mono ?_;rintro e w2 ⟨rfl,rfl⟩)
    go_roundw
    case rel=>exact⟨k+1,by omega,by go_num,by rw[HN.out],HFR.out⟩
    case measure=>simp[intOf];omega
  ·have hkn:k=l.length:=by omega
   have hltz:¬ (k:Int)<(l.length:Int):=by omega
   subst hkn
   have HE:Hid (usedN (L.take l.length) f=usedN L f):=by show _=_;rw[List.take_of_length_le (by rw[HLEN.out];omega)]
   clear hfr
   go_wp2
   go_ret
   exact⟨by rw[← HE.out];rfl,fstep HF.out HFR.out⟩
set_option maxHeartbeats 4000000 in
set_option maxRecDepth 100000 in
theorem fiberMasks_any (v:Value) (P:PlanV) (w:World) (h:PlIn w v P) (hp:planB P=true) :
  Calls Tryz.prog 173 #[v] w (OutInts w (((List.range P.net.fibers.length).map fun f:Nat=>usedN P.lights f).map fun n:Nat=>(n:Int))):=by
 have HE:=Lib.hid (masks_eq hp)
 have HG:Hid (∀ x∈P.lights,goodB x.2.2.1 x.2.2.2=true):=fun x hx=>ltB_good (planB_lt hp x hx)
 have HV2:Hid (∀ x∈P.lights,∀ i∈x.2.1.2,0≤i∧i<(P.net.fibers.length:Int)):=fun x hx=>(lt_route (planB_lt hp x hx)).2
 rw[← HE.out]
 clear hp HE
 obtain⟨N,L⟩:=P
 obtain⟨q,m,c,p,k0,d,r,e0,l,rfl,hN,hL,hs,hv,he1,he2⟩:=h
 simp only at hv HG HV2 ⊢
 obtain⟨_,_,_,_,hnv,_,_,_,hnf,_⟩:=hN
 simp only[Value.agg.injEq] at hnv
 have hk0:k0=N.fibers.length:=by
  have:=congrArg (fun a:Array Value=>a[1]?) hnv
  simp at this
  exact this.2.1
 subst hk0
 clear hnv
 have hn:=hs.1
 have hlen:L.length=l.length:=by rw[hv];simp
 have hnf':N.fibers.length≤1048576:=hnf
 have hmk:=mkInts N.fibers.length (by omega)
 have HF1:=Lib.hid (frefl w)
 have HL:=Lib.hid hL
 have HV:=Lib.hid hv
 have HSM:=Lib.hid hs
 have HLEN:=Lib.hid hlen
 clear hL hs hv hlen hnf
 go_enter Tryz.func173,Tryz.ntmps173
 go_wp2
 go_loopw [16] (fun i wr=>∃ k:Nat,k≤l.length∧i=.int .i64 k∧RowAt wr (w.heap.size+1) 3 ((masksR N.fibers.length (L.take k)).map fun n:Nat=>iv (n:Int))∧Fresh w wr) (fun i _=>l.length - (intOf i).toNat)
 case atStart=>exact⟨0,Nat.zero_le _,rfl,by have:=RowAt.new (w.alloc (.cells #[.slice q m c,.slice p N.fibers.length d,.slice r l.length e0] 38)) 3 (List.replicate N.fibers.length (iv 0));simpa [masksR] using this,fnew (fnew (frefl _) _) _⟩
 case round =>
  obtain⟨wo,rfl⟩:∃ wo:World,wo=wr:=⟨_,rfl⟩
  obtain⟨k,hk,rfl,hrow,hf⟩:=hrel
  have HROW:=Lib.hid hrow
  have HFR:=Lib.hid hf
  have hg0:=hrow.lt
  clear hrow hf
  by_cases hlt:k<l.length
  ·have hltz:(k:Int)<(l.length:Int):=by omega
   obtain⟨b,off,x,hr,hx,hm,hi,hc0,hc1,hc2,hc3,hc4⟩:=(HL.out.keep (fstep HF1.out HFR.out)).at hlt
   subst hr
   have hxv:=lval_at HV.out hx
   have hmx:=List.mem_of_getElem? hxv
   have hgx:=HG.out _ hmx
   obtain⟨g1,g2,g3⟩:=goodB_iff.1 hgx
   obtain⟨e1,_,e3⟩:=mkN_ok hgx
   have HE1:=Lib.hid e1
   have HST:=Lib.hid (masks_step (m:=N.fibers.length) hxv)
   have HXV:=Lib.hid (HV2.out _ hmx)
   have HMS:=Lib.hid (masks_lt (m:=N.fibers.length) (L:=L.take k) (fun x hx=>HG.out x (List.mem_of_mem_take hx)))
   have HSL:=Lib.hid (masks_len N.fibers.length (L.take k))
   have HI:=Lib.hid (HL.out.2 x hm)
   have hsz:=HSM.out.2 x hm
   obtain⟨W3,hW3⟩:∃ W3,W3=wo.alloc (.cells #[.int .i64 x.id,.int .i64 x.r.start,.slice x.r.q x.r.fibs.length x.r.cap,.int .i64 x.f,.int .i64 x.c] 94):=⟨_,rfl⟩
   have HF3:Hid (Fresh w W3):=by show Fresh w W3;rw[hW3];exact fnew HFR.out _
   have HBX:Hid (RowAt W3 wo.heap.size 94 (llC x)):=by show RowAt W3 _ _ _;rw[hW3];exact RowAt.new wo _ (llC x)
   have HR3:Hid (RowAt W3 (w.heap.size+1) 3 ((masksR N.fibers.length (L.take k)).map fun n:Nat=>iv (n:Int))):=by show RowAt W3 _ _ _;rw[hW3];exact HROW.out.alloc _
   have HW3:=Lib.hid hW3
   clear hW3 hx hxv hmx hgx e1 hm hi
   go_wp2
   rw[← HW3.out]
   clear HW3
   go_loopw [24] (fun i wq=>∃ j:Nat,j≤x.r.fibs.length∧i=.int .i64 j∧RowAt wq (w.heap.size+1) 3 ((tallyO (masksR N.fibers.length (L.take k)) (mkN (x.f,x.c)) (x.r.fibs.take j)).map fun n:Nat=>iv (n:Int))∧RowAt wq wo.heap.size 94 (llC x)∧Fresh w wq) (fun i _=>x.r.fibs.length - (intOf i).toNat)
   case atStart=>exact⟨0,Nat.zero_le _,rfl,HR3.out,HBX.out,HF3.out⟩
   case round =>
    obtain⟨j,hj,rfl,hrow,hbx,hf⟩:=hrel
    have HRQ:=Lib.hid hrow
    have HBQ:=Lib.hid hbx
    have HFQ:=Lib.hid hf
    clear hrow hbx hf
    by_cases hlt2:j<x.r.fibs.length
    ·have hltz2:(j:Int)<(x.r.fibs.length:Int):=by omega
     obtain⟨b2,off2,i,hq,hxi,hci⟩:=(HI.out.keep (fstep HF1.out HFQ.out)).at hlt2
     have HQ:=Lib.hid hq
     obtain⟨h1,h2⟩:=HXV.out i (List.mem_of_getElem? hxi)
     obtain⟨m',rfl⟩:=Int.eq_ofNat_of_zero_le h1
     have HTS:=Lib.hid (tallyO_step (S:=masksR N.fibers.length (L.take k)) (c:=mkN (x.f,x.c)) hxi)
     have hsl:=tallyO_lt (fs:=x.r.fibs.take j) e3 HMS.out m'
     obtain⟨s0,hs0⟩:∃ s0,s0=(tallyO (masksR N.fibers.length (L.take k)) (mkN (x.f,x.c)) (x.r.fibs.take j)).getD m' 0:=⟨_,rfl⟩
     have hml:m'<N.fibers.length:=by omega
     have hmlz:(m':Int)<(N.fibers.length:Int):=by omega
     have hcm:wr.cell? ⟨w.heap.size+1,m',none⟩=some (.int .i64 (s0:Int)):=by
      refine HRQ.out.cell ?_
      have hlen:=tallyO_len (masksR N.fibers.length (L.take k)) (mkN (x.f,x.c)) (x.r.fibs.take j)
      rw[HSL.out] at hlen
      rw[hs0,List.getElem?_map,List.getD_eq_getElem?_getD,List.getElem?_eq_getElem (by omega)];rfl
     rw[← hs0] at hsl
     have hor:=or_i64 s0 (mkN (x.f,x.c)) (lt63 hsl) (lt63 e3)
     rw[← HE1.out] at hor
     have HOR:=Lib.hid hor
     have HS0':=Lib.hid hs0
     have x3:=HBQ.out.cell (i:=3) rfl
     have x4:=HBQ.out.cell (i:=4) rfl
     have i0:=fun xa:After wr=>akeep hcm xa
     have i3:=fun xa:After wr=>akeep x3 xa
     have i4:=fun xa:After wr=>akeep x4 xa
     have hfz:=fun xa:After wr=>(HRQ.out.keep xa.h).frozen m'
     clear hxi hs0 hor x3 x4 hcm
     go_wp2
     refine wp_region_after_tail 9 (by kernel_rfl) (by kernel_rfl) ?_
     simp only[List.take_succ_cons,List.take_zero,List.drop_succ_cons,List.drop_zero]
     repeat (go_big_quiet_step ((go_at_call 148;exact after_call (maskOf_any _ _ _ (by omega) (by omega) (by omega)))))
     refine wpQuiet_nil ?_
     intro xa
     have HXA:=Lib.hid xa.h
     go_wp2
     go_roundw
     case rel =>
      refine⟨j+1,by omega,by go_num,?_,(HBQ.out.keep HXA.out).setOther (b:=w.heap.size+1) (by omega) _,fset (fstep HFQ.out HXA.out) (by omega) _⟩
      have:=(HRQ.out.keep HXA.out).set m' (iv ((s0 ||| mkN (x.f,x.c):Nat):Int))
      rw[HTS.out,Int.toNat_natCast,← HS0'.out,List.map_set,HOR.out]
      exact this
     case measure=>simp[intOf];omega
    ·have hjn:j=x.r.fibs.length:=by omega
     have hltz2:¬ (j:Int)<(x.r.fibs.length:Int):=by omega
     go_wp2
     go_roundw
     case rel =>
      refine⟨k+1,by omega,by go_num,?_,HFQ.out⟩
      have:=HRQ.out
      rw[hjn,List.take_length] at this
      rw[HST.out];exact this
     case measure=>simp[intOf];omega
  ·have hkn:k=l.length:=by omega
   have hltz:¬ (k:Int)<(l.length:Int):=by omega
   have HS:Hid (RowAt wo (w.heap.size+1) 3 ((masksR N.fibers.length L).map fun n:Nat=>iv (n:Int))):=by
    have:=HROW.out
    rw[List.take_of_length_le (by rw[HLEN.out];omega)] at this
    exact this
   have HML:=Lib.hid (masks_len N.fibers.length L)
   go_wp2
   go_ret
   refine⟨some ⟨w.heap.size+1,0,none⟩,N.fibers.length,?_,Or.inr ⟨w.heap.size+1,[],rfl,by omega,?_⟩,fstep HF1.out HFR.out⟩
   ·rw[List.length_map,HML.out];rfl
   ·rw[List.append_nil,List.map_map];exact HS.out
set_option maxHeartbeats 2000000 in
set_option maxRecDepth 100000 in
theorem l9Along_any (v:Value) (P:PlanV) (v2:Value) (R:Int × List Int) (w:World) (h:PlIn w v P) (h2:RtIn w v2 R) (hg:∀ x∈P.lights,goodB x.2.2.1 x.2.2.2=true) :
  Calls Tryz.prog 112 #[v,v2] w fun e w'=>e=.returned (.int .i64 (alongN P.lights R.2:Int))∧Fresh w w':=by
 have HP:=Lib.hid h
 obtain⟨q,m,c,p,k0,d,r,i0,e0,rfl⟩:=h.shape
 obtain⟨s,qr,cr,fs,rfl,hI,hn,rfl⟩:=h2
 have HG:=Lib.hid hg
 clear hg h
 obtain⟨W2,hW2,hsz2,hf2,r1,r2⟩:=two_rows w [.slice q m c,.slice p k0 d,.slice r i0 e0] [.int .i64 s,.slice qr fs.length cr] 38 90
 have HW2:=Lib.hid hW2
 have HF2:=Lib.hid hf2
 have HR1:=Lib.hid r1
 have HR2:=Lib.hid r2
 have HI:=Lib.hid (hI.keep hf2)
 clear hW2 hsz2 hf2 r1 r2 hI
 go_enter Tryz.func112,Tryz.ntmps112
 go_wp2
 rw[← HW2.out]
 clear HW2
 go_loopw [5,6] (fun a i wr=>∃ k:Nat,k≤fs.length∧i=.int .i64 k∧a=.int .i64 (alongN P.lights (fs.take k):Int)∧Fresh W2 wr) (fun _ i _=>fs.length - (intOf i).toNat)
 case atStart=>exact⟨0,Nat.zero_le _,rfl,rfl,frefl _⟩
 case round =>
  obtain⟨k,hk,rfl,rfl,hf⟩:=hrel
  have HFR:=Lib.hid hf
  have a0:=(HR1.out.keep hf).cell (i:=0) rfl
  have a1:=(HR1.out.keep hf).cell (i:=1) rfl
  have a2:=(HR1.out.keep hf).cell (i:=2) rfl
  have b1:=(HR2.out.keep hf).cell (i:=1) rfl
  by_cases hlt:k<fs.length
  ·have hltz:(k:Int)<(fs.length:Int):=by omega
   obtain⟨b,off,x,hq,hx,hc⟩:=(HI.out.keep hf).at hlt
   subst hq
   have hal:=along_lt (L:=P.lights) (fs:=fs.take k) HG.out
   have hul:=used_lt (L:=P.lights) x HG.out
   have HST:=Lib.hid (along_step (L:=P.lights) hx)
   obtain⟨u,hu⟩:∃ u,u=alongN P.lights (fs.take k):=⟨_,rfl⟩
   obtain⟨y,hy⟩:∃ y,y=usedN P.lights x:=⟨_,rfl⟩
   rw[← hu] at hal HST ⊢
   rw[← hy] at hul HST
   have HOR:=Lib.hid (or_i64 u y (lt63 hal) (lt63 hul))
   have HC:Hid (∀ xa:After wr,Calls Tryz.prog 159 #[.agg #[.slice q m c,.slice p k0 d,.slice r i0 e0],.int .i64 x] xa.w' fun e w'=>e=.returned (.int .i64 (y:Int))∧Fresh xa.w' w'):=by
    intro xa;rw[hy];exact l9Used_any _ P x xa.w' (HP.out.keep (fstep (fstep HF2.out HFR.out) xa.h)) HG.out
   have i0':=fun xa:After wr=>akeep a0 xa
   have i1:=fun xa:After wr=>akeep a1 xa
   have i2:=fun xa:After wr=>akeep a2 xa
   have j1:=fun xa:After wr=>akeep b1 xa
   have jc:=fun xa:After wr=>akeep hc xa
   clear hx hu hy hf hal hul
   go_wp2
   refine wp_region_after (by kernel_rfl) (by kernel_rfl) ?_
   repeat (go_big_quiet_step ((go_at_call 159;exact after_call (HC.out _))))
   refine wpQuiet_nil ?_
   rintro _ ⟨xa,rfl⟩
   go_wp2
   go_roundw
   case rel=>exact⟨k+1,by omega,by go_num,by rw[HST.out,HOR.out],fstep HFR.out xa.h⟩
   case measure=>simp[intOf];omega
  ·have hkn:k=fs.length:=by omega
   have hltz:¬ (k:Int)<(fs.length:Int):=by omega
   subst hkn
   clear hf
   go_wp2
   go_ret
   exact⟨rfl,fstep HF2.out HFR.out⟩
set_option maxHeartbeats 2000000 in
set_option maxRecDepth 100000 in
theorem routeMask_any (v:Value) (P:PlanV) (v2:Value) (R:Int × List Int) (w:World) (h:PlIn w v P) (h2:RtIn w v2 R) (hp:planB P=true) (hr:∀ i∈R.2,0≤i∧i<(P.net.fibers.length:Int)) :
  Calls Tryz.prog 120 #[v,v2] w fun e w'=>e=.returned (.int .i64 (alongN P.lights R.2:Int))∧Fresh w w':=by
 have HP:=Lib.hid h
 have hg:∀ x∈P.lights,goodB x.2.2.1 x.2.2.2=true:=fun x hx=>ltB_good (planB_lt hp x hx)
 obtain⟨q,m,c,p,k0,d,r,i0,e0,rfl⟩:=h.shape
 obtain⟨s,qr,cr,fs,rfl,hI,hn,rfl⟩:=h2
 simp only at hr ⊢
 have HG:=Lib.hid hg
 have HRG:=Lib.hid hr
 have HPB:=Lib.hid hp
 have hnf:=h.isSmall.1.2
 clear hg h hp hr
 obtain⟨W2,hW2,hsz2,hf2,r1,r2⟩:=two_rows w [.slice q m c,.slice p k0 d,.slice r i0 e0] [.int .i64 s,.slice qr fs.length cr] 38 90
 have HW2:=Lib.hid hW2
 have HF2:=Lib.hid hf2
 have HR2:=Lib.hid r2
 have HI:=Lib.hid (hI.keep hf2)
 clear hW2 hsz2 hf2 r1 r2 hI
 go_enter Tryz.func120,Tryz.ntmps120
 go_wp2_with fail
 rw[← HW2.out]
 clear HW2
 refine(fiberMasks_any _ P _ (HP.out.keep HF2.out) HPB.out).mono ?_
 rintro e w1 ⟨pm,cm,rfl,ho,hb⟩
 have b1:=(HR2.out.keep hb).cell (i:=1) rfl
 have HF:=Lib.hid (fstep HF2.out hb)
 have HI1:=Lib.hid (HI.out.keep hb)
 have HM:=Lib.hid ho.ints
 clear hb ho
 go_wp2
 go_loop [6,14] (fun a i=>∃ k:Nat,k≤fs.length∧i=.int .i64 k∧a=.int .i64 (alongN P.lights (fs.take k):Int)) (fun _ i=>fs.length - (intOf i).toNat)
 case atStart=>exact⟨0,Nat.zero_le _,rfl,rfl⟩
 case round =>
  obtain⟨k,hk,rfl,rfl⟩:=hrel
  by_cases hlt:k<fs.length
  ·have hltz:(k:Int)<(fs.length:Int):=by omega
   obtain⟨b,off,x,hq,hx,hc⟩:=HI1.out.at hlt
   subst hq
   obtain⟨h1,h2⟩:=HRG.out x (List.mem_of_getElem? hx)
   obtain⟨j,rfl⟩:=Int.eq_ofNat_of_zero_le h1
   have hjn:j<P.net.fibers.length:=by omega
   have hjz:(j:Int)<(P.net.fibers.length:Int):=by omega
   obtain⟨b2,off2,y,hq2,hy,hc2⟩:=HM.out.at (k:=j) (by simp;omega)
   subst hq2
   have hyv:y=(usedN P.lights j:Int):=by
    rw[List.getElem?_map,List.getElem?_map,List.getElem?_range hjn] at hy
    simpa using hy.symm
   rw[hyv] at hc2
   have hal:=along_lt (L:=P.lights) (fs:=fs.take k) HG.out
   have hul:=used_lt (L:=P.lights) (j:Int) HG.out
   have HST:=Lib.hid (along_step (L:=P.lights) hx)
   obtain⟨u,hu⟩:∃ u,u=alongN P.lights (fs.take k):=⟨_,rfl⟩
   obtain⟨z,hz⟩:∃ z,z=usedN P.lights (j:Int):=⟨_,rfl⟩
   rw[← hu] at hal HST ⊢
   rw[← hz] at hul HST hc2
   have HOR:=Lib.hid (or_i64 u z (lt63 hal) (lt63 hul))
   clear hx hu hz hal hul hy hyv
   go_wp2
   go_round
   case rel=>exact⟨k+1,by omega,by go_num,by rw[HST.out,HOR.out]⟩
   case measure=>simp[intOf];omega
  ·have hkn:k=fs.length:=by omega
   have hltz:¬ (k:Int)<(fs.length:Int):=by omega
   subst hkn
   go_wp2
   go_ret
   exact⟨rfl,HF.out⟩
theorem uses_comm (a b:List Int):usesB a b=usesB b a:=by
 unfold usesB
 rw[Bool.eq_iff_iff,List.any_eq_true,List.any_eq_true]
 constructor
 ·rintro⟨x,hx,h⟩;exact⟨x,by simpa using h,by simpa using hx⟩
 ·rintro⟨x,hx,h⟩;exact⟨x,by simpa using h,by simpa using hx⟩
end Go.Proofs.YteckjlkhopkogaaGreat
