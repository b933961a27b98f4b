/- Texts of mine laid together (KSd, KSr). -/
import Derived.Test.YteckjlkhopkogaaGreatM15
import Derived.Test.YteckjlkhopkogaaGreatM2
namespace Go.Proofs.YteckjlkhopkogaaGreat
open Go.RowKit Go.PlainAid
theorem NetOwn.mono {w:World} {base base':Nat} {v:Value} {n:Net} (h:NetOwn w base v n) (hb:base'≤base):NetOwn w base' v n:=by
 obtain⟨g1,g2,h1,h2,h3⟩:=h
 exact⟨g1,g2,h1,Nat.le_trans hb h2,h3⟩
set_option maxHeartbeats 2000000 in
theorem eqSd_k (v v':Value) (S:SdV) (w:World) (h:SdIn w v S) (h':SdIn w v' S):Calls Tryz.prog 14 #[v,v'] w fun e w'=>e=.returned (.bool true)∧Fresh w w':=by
 obtain⟨P,ids,bk⟩:=S
 obtain⟨q,m,c,p,k,d,r,i,e0,t,y,rfl,hP,ht,hn⟩:=h
 obtain⟨q',m',c',p',k',d',r',i',e',t',y',rfl,hP',ht',hn'⟩:=h'
 simp only at hP ht hn hP' ht' hn' ⊢
 obtain⟨W2,hW2,hsz2,hf2,r1,r2⟩:=two_rows w [.slice q m c,.slice p k d,.slice r i e0,.slice t ids.length y,.int .i64 bk] [.slice q' m' c',.slice p' k' d',.slice r' i' e',.slice t' ids.length y',.int .i64 bk] 42 42
 have HC:=Lib.hid (eqPlan_k _ _ P W2 (hP.keep hf2) (hP'.keep hf2))
 have HR1:=Lib.hid r1
 have HR2:=Lib.hid r2
 have HT:=Lib.hid ht
 have HT':=Lib.hid ht'
 have HF2:=Lib.hid hf2
 have HW2:=Lib.hid hW2
 clear hW2 hsz2 hf2 r1 r2 hP hP' ht ht'
 go_enter Tryz.func14,Tryz.ntmps14
 go_wp2_with fail
 rw[← HW2.out]
 refine(HC.out).mono ?_
 rintro e1 w1 ⟨rfl,hf⟩
 have k13:=(HR1.out.keep hf).cell (i:=3) rfl
 have k23:=(HR2.out.keep hf).cell (i:=3) rfl
 have HF:=Lib.hid hf
 have HC2:=Lib.hid (eqIntS_r t t' y y' ids w1 (HT.out.keep (fstep HF2.out hf)) (HT'.out.keep (fstep HF2.out hf)) hn)
 clear hf HC
 go_wp2_with fail
 refine(HC2.out).mono ?_
 rintro e2 w2 ⟨rfl,hf⟩
 have k14:=((HR1.out.keep HF.out).keep hf).cell (i:=4) rfl
 have k24:=((HR2.out.keep HF.out).keep hf).cell (i:=4) rfl
 have HFF:=Lib.hid (fstep HF2.out (fstep HF.out hf))
 clear hf HC2 k13 k23
 go_wp2
 go_ret
 exact⟨rfl,HFF.out⟩
section
open Go.ChangeShapes Go.WideShapes Go.ChangeAt Go.Joins
variable {H:Type} {enc:TypeId × Value→H}
end
def SmSd (S:SdV):Prop:=SmPl S.1∧S.2.1.length≤1024
def SdHeld (w:World) (lo hi:Nat) (v:Value) (S:SdV):Prop:=∃ q m c p k d r i e t y b2,v=.agg #[.slice q m c,.slice p k d,.slice r i e,.slice t S.2.1.length y,.int .i64 S.2.2]∧lo≤b2∧PlHeld w b2 hi (.agg #[.slice q m c,.slice p k d,.slice r i e]) S.1∧Held w lo hi 3 t (S.2.1.map iv)∧(S.2.1=[]∨∃ g,t=some ⟨g,0,none⟩∧g<b2)
theorem SdOwn.held {w:World} {lo:Nat} {v:Value} {S:SdV} (h:SdOwn w lo v S):SdHeld w lo w.heap.size v S:=by
 obtain⟨q,m,c,p,k,d,r,i,e,t,y,b2,h1,h2,h3,h4,h5⟩:=h
 exact⟨q,m,c,p,k,d,r,i,e,t,y,b2,h1,h2,h3.held,h4.held,h5⟩
theorem SdHeld.own {w:World} {lo hi:Nat} {v:Value} {S:SdV} (h:SdHeld w lo hi v S):SdOwn w lo v S:=by
 obtain⟨q,m,c,p,k,d,r,i,e,t,y,b2,h1,h2,h3,h4,h5⟩:=h
 exact⟨q,m,c,p,k,d,r,i,e,t,y,b2,h1,h2,h3.own,h4.1,h5⟩
theorem SdHeld.keep {w w':World} {lo hi:Nat} {v:Value} {S:SdV} (h:SdHeld w lo hi v S) (hb:Fresh w w'):SdHeld w' lo hi v S:=by
 obtain⟨q,m,c,p,k,d,r,i,e,t,y,b2,h1,h2,h3,h4,h5⟩:=h
 exact⟨q,m,c,p,k,d,r,i,e,t,y,b2,h1,h2,h3.keep hb,h4.keep hb,h5⟩
theorem SdHeld.wide {w:World} {lo hi lo' hi':Nat} {v:Value} {S:SdV} (h:SdHeld w lo hi v S) (hl:lo'≤lo) (hh:hi≤hi'):SdHeld w lo' hi' v S:=by
 obtain⟨q,m,c,p,k,d,r,i,e,t,y,b2,h1,h2,h3,h4,h5⟩:=h
 exact⟨q,m,c,p,k,d,r,i,e,t,y,b2,h1,Nat.le_trans hl h2,h3.wide (Nat.le_refl _) hh,h4.wide hl hh,h5⟩
theorem SdHeld.mk {T:TypeId→Prop} {lo hi lo' hi':Nat} {w w':World} {v:Value} {S:SdV} (h:SdHeld w lo hi v S) (hb:Mk T lo' hi' w w') (hd:hi≤lo'∨hi'≤lo):SdHeld w' lo hi v S:=by
 obtain⟨q,m,c,p,k,d,r,i,e,t,y,b2,h1,h2,h3,h4,h5⟩:=h
 exact⟨q,m,c,p,k,d,r,i,e,t,y,b2,h1,h2,h3.mk hb (by omega),h4.mk hb hd,h5⟩
theorem SdHeld.below {lo hi base:Nat} {w w':World} {v:Value} {S:SdV} (h:SdHeld w lo hi v S) (hb:Below base w w') (hd:hi≤base):SdHeld w' lo hi v S:=by
 obtain⟨q,m,c,p,k,d,r,i,e,t,y,b2,h1,h2,h3,h4,h5⟩:=h
 exact⟨q,m,c,p,k,d,r,i,e,t,y,b2,h1,h2,h3.below hb hd,h4.below hb hd,h5⟩
theorem SdOwn.sdIn {w:World} {base:Nat} {v:Value} {S:SdV} (h:SdOwn w base v S) (hs:SmSd S):SdIn w v S:=by
 obtain⟨q,m,c,p,k,d,r,i,e,t,y,b2,h1,h2,h3,h4,h5⟩:=h
 exact⟨q,m,c,p,k,d,r,i,e,t,y,h1,h3.plIn hs.1.1,h4.ints,by have:=hs.2;omega⟩
theorem eqSd_r (v v':Value) (lo hi lo' hi':Nat) (S:SdV) (w:World) (h:SdHeld w lo hi v S) (h':SdHeld w lo' hi' v' S) (hs:SmSd S) :
  Calls Tryz.prog 14 #[v,v'] w fun e w'=>e=.returned (.bool true)∧Fresh w w':=eqSd_k v v' S w (h.own.sdIn hs) (h'.own.sdIn hs)
def SdMk (w:World) (base:Nat) (k0:Int) (N:Nat) (v:Value) (S:SdV):Prop:=∃ q m c p k d r i e t y b2 N0,v=.agg #[.slice q m c,.slice p k d,.slice r i e,.slice t S.2.1.length y,.int .i64 S.2.2]∧PlMk w b2 k0 N0 (.agg #[.slice q m c,.slice p k d,.slice r i e]) S.1∧MkRow w base 3 t S.2.1.length (fun t=>iv (k0+(N0:Int)+(t:Int)))∧N=N0+S.2.1.length
theorem SdMk.keep {w w':World} {base:Nat} {k0:Int} {N:Nat} {v:Value} {S:SdV} (h:SdMk w base k0 N v S) (hb:Fresh w w'):SdMk w' base k0 N v S:=by
 obtain⟨q,m,c,p,k,d,r,i,e,t,y,b2,N0,h1,h2,h3,h4⟩:=h
 exact⟨q,m,c,p,k,d,r,i,e,t,y,b2,N0,h1,h2.keep hb,h3.keep hb,h4⟩
theorem MkRow.apart {w w':World} {base g:Nat} {t:TypeId} {T:TypeId→Prop} {q:Option Addr} {n:Nat} {mc:Nat→Value} (h:MkRow w base t q n mc) (hb:Mk T g (g+1) w w') (hg:g<base):MkRow w' base t q n mc:=by
 have h0:=h
 rcases h with h|⟨g',cs,h1,h2,_⟩
 ·exact Or.inl h
 ·exact h0.other hb fun x o e=>by rw[h1] at e;cases e;omega
theorem LtMk.apart {w w':World} {base g:Nat} {k0:Int} {r:Option Addr} {l:List LL} (h:LtMk w base k0 r l) (hb:Mk inT g (g+1) w w') (hg:g<base):LtMk w' base k0 r l:=by
 rcases h with h|⟨g',cs,h1,h2,h3,h4,h5,h6⟩
 ·exact Or.inl h
 ·exact Or.inr ⟨g',cs,h1,h2,hb.row _ _ _ h3 (by decide),h4,h5,fun i x hx=>⟨(h6 i x hx).1,(h6 i x hx).2.1,(h6 i x hx).2.2.1,(h6 i x hx).2.2.2.1,(h6 i x hx).2.2.2.2.apart hb hg⟩⟩
theorem PlMk.apart {w w':World} {base g:Nat} {k0:Int} {N:Nat} {v:Value} {P:PlanV} (h:PlMk w base k0 N v P) (hb:Mk inT g (g+1) w w') (hg:g<base):PlMk w' base k0 N v P:=by
 obtain⟨q,c,p,d,r,e,l,h1,h2,h3,h4,h5⟩:=h
 exact⟨q,c,p,d,r,e,l,h1,h2.apart hb hg,h3.apart hb hg,h4.apart hb hg,h5⟩
theorem PlMk.n_le {w:World} {base:Nat} {k0:Int} {N:Nat} {v:Value} {P:PlanV} (h:PlMk w base k0 N v P) (hs:SmPl P):N≤549755813888:=by
 obtain⟨q,c,p,d,r,e,l,_,_,_,_,hv,hN⟩:=h
 have h1:=ltN_le (lts_small hv hs.1) l.length
 have h2:l.length≤1024:=by have:=hs.2;rw[hv] at this;simpa using this
 obtain⟨⟨n1,n2⟩,_⟩:=hs.1
 have h3:P.net.nodes.length≤1048576:=by first|exact n1|omega
 have h4:P.net.fibers.length≤1048576:=by first|exact n2|exact n2.1|omega
 omega
theorem markIntS_q2 (q:Option Addr) (cap n base:Nat) (k0:Int) (w:World) (h:RowN w base 3 q n) (hn:n≤1099511627776) (h0:0≤k0) (h1:k0≤281474976710656) :
  Calls Tryz.prog 59 #[.slice q n cap,.int .i64 k0] w fun e w'=>e=.returned (.int .i64 (k0+n))∧MkRow w' base 3 q n (fun t=>iv (k0+(t:Int)))∧QMk base q w w'∧(n=0→w'=w):=by
 by_cases hz:n=0
 ·subst hz
  refine(markIntS_z q cap k0 w).mono ?_
  rintro e w' ⟨rfl,rfl⟩
  exact⟨by simp,Or.inl rfl,Or.inl rfl,fun _=>rfl⟩
 ·refine(markIntS_q q cap n base k0 w h hn h0 h1).mono ?_
  rintro e w' ⟨a,b,c⟩
  exact⟨a,b,c,fun h=>absurd h hz⟩
set_option maxHeartbeats 2000000 in
theorem markSd_r (v:Value) (base:Nat) (S:SdV) (k0:Int) (w:World) (h:SdOwn w base v S) (hbs:base≤w.heap.size) (hs:SmSd S) (h0:0≤k0) (h1:k0≤1024) :
  Calls Tryz.prog 15 #[v,.int .i64 k0] w fun e w'=>∃ N:Nat,e=.returned (.int .i64 (k0+N))∧SdMk w' base k0 N v S∧Below base w w'∧∀ g t cs,RowAt w g t cs→t≠9→t≠163→t≠94→t≠3→RowAt w' g t cs:=by
 obtain⟨q,m,c,p,k,d,r,i,e0,t,y,b2,rfl,hb2,hpl,hids,hap⟩:=h
 obtain⟨W1,hW1⟩:∃ W1,W1=w.alloc (.cells #[.slice q m c,.slice p k d,.slice r i e0,.slice t S.2.1.length y,.int .i64 S.2.2] 42):=⟨_,rfl⟩
 have hf:Fresh w W1:=by rw[hW1];exact fnew (frefl _) _
 have hr:RowAt W1 w.heap.size 42 [.slice q m c,.slice p k d,.slice r i e0,.slice t S.2.1.length y,.int .i64 S.2.2]:=by rw[hW1];exact RowAt.new _ _ _
 have hz:=hf.size
 obtain⟨b3,hb3⟩:∃ b,b=Nat.min b2 W1.heap.size:=⟨_,rfl⟩
 have hb31:b3≤W1.heap.size:=by rw[hb3];exact Nat.min_le_right _ _
 have hb32:b3≤b2:=by rw[hb3];exact Nat.min_le_left _ _
 have hb30:base≤b3:=by rw[hb3];exact Nat.le_min.2 ⟨hb2,by omega⟩
 have HN:Hid (S.2.1=[]∨∃ g sp,t=some ⟨g,0,none⟩∧base≤g∧g<b3∧RowAt W1 g 3 (S.2.1.map iv++sp)):=by
  rcases hap with h|⟨g,hg,hgb⟩
  ·exact Or.inl h
  ·rcases hids with⟨h,h2⟩|⟨g',sp,h1,h2,h3⟩
   ·rw[hg] at h;cases h
   ·rw[hg] at h1
    cases h1
    have hl:=(h3.keep hf).lt
    exact Or.inr ⟨g,sp,hg,h2,by rw[hb3];exact Nat.lt_min.2 ⟨hgb,hl⟩,h3.keep hf⟩
 have HC:=Lib.hid (markPl_r _ b3 S.1 k0 W1 ((hpl.mono hb32).keep hf) hb31 hs.1 h0 h1)
 have HW:=Lib.hid hW1
 have HF:=Lib.hid hf
 have HR:=Lib.hid hr
 have HS:=Lib.hid hs
 clear hW1 hf hr hpl hids hap
 go_enter Tryz.func15,Tryz.ntmps15
 go_wp2_with fail
 rw[← HW.out]
 refine(HC.out).mono ?_
 rintro e w1 ⟨N0,rfl,hm,hbel,hfr⟩
 have c3:=(hfr _ _ _ HR.out (by decide) (by decide) (by decide) (by decide)).cell (i:=3) rfl
 have hN:=hm.n_le HS.out.1
 have hn:=HS.out.2
 have hrn:RowN w1 base 3 t S.2.1.length:=by
  rcases HN.out with h|⟨g,sp,h1,h2,h3,h4⟩
  ·left;rw[h];rfl
  ·have hh:Held W1 base b3 3 t (S.2.1.map iv):=⟨Or.inr ⟨g,sp,h1,h2,h4⟩,fun x o hx=>by rw[h1] at hx;cases hx;exact h3⟩
   have:=(hh.below hbel (Nat.le_refl _)).1.rowN
   rwa [List.length_map] at this
 have HM:=Lib.hid hm
 have HB:=Lib.hid hbel
 have HFR:=Lib.hid hfr
 have HQ:=Lib.hid (markIntS_q2 t y S.2.1.length base (k0+(N0:Int)) w1 hrn (by omega) (by omega) (by omega))
 clear hm hbel hfr hrn HC
 go_wp2_with fail
 refine(HQ.out).mono ?_
 rintro e w2 ⟨rfl,hm2,hq,hq0⟩
 have HM2:=Lib.hid hm2
 have HQQ:=Lib.hid hq
 have HQ0:=Lib.hid hq0
 clear hm2 hq hq0 c3 HQ
 go_wp2
 go_ret
 have hpm:PlMk w2 b3 k0 N0 (.agg #[.slice q m c,.slice p k d,.slice r i e0]) S.1:=by
  rcases HQQ.out with h|⟨g,hg,hgl,hmk⟩
  ·rw[h];exact HM.out
  ·rcases HN.out with h|⟨g',sp,h1,h2,h3,h4⟩
   ·rw[HQ0.out (by rw[h];rfl)];exact HM.out
   ·rw[h1] at hg
    cases hg
    exact HM.out.apart hmk h3
 refine⟨N0+S.2.1.length,by rw[show k0+((N0+S.2.1.length:Nat):Int)=k0+(N0:Int)+(S.2.1.length:Int) by omega];rfl,⟨_,_,_,_,_,_,_,_,_,_,_,b3,N0,rfl,hpm,HM2.out,rfl⟩,?_,fun g t' cs hr n1 n2 n3 n4=>HQQ.out.row (HFR.out g t' cs (hr.keep HF.out) n1 n2 n3 n4) n4⟩
 exact(HF.out.mono hbs).trans ((HB.out.mono hb30).trans HQQ.out.below)
set_option maxHeartbeats 1000000 in
theorem heldSd_o (v:Value) (base:Nat) (S:SdV) (k0:Int) (N:Nat) (w:World) (h:SdMk w base k0 N v S) (hs:SmSd S) (h0:0≤k0) (h1:k0≤1024) :
  Calls Tryz.prog 38 #[v,.int .i64 k0] w fun e w'=>e=.returned (.int .i64 (k0+N))∧Fresh w w':=by
 obtain⟨q,m,c,p,k,d,r,i,e0,t,y,b2,N0,rfl,hpm,hm,rfl⟩:=h
 obtain⟨W1,hW1⟩:∃ W1,W1=w.alloc (.cells #[.slice q m c,.slice p k d,.slice r i e0,.slice t S.2.1.length y,.int .i64 S.2.2] 42):=⟨_,rfl⟩
 have hf:Fresh w W1:=by rw[hW1];exact fnew (frefl _) _
 have hr:RowAt W1 w.heap.size 42 [.slice q m c,.slice p k d,.slice r i e0,.slice t S.2.1.length y,.int .i64 S.2.2]:=by rw[hW1];exact RowAt.new _ _ _
 have hN:=hpm.n_le hs.1
 have hn:=hs.2
 have HC:=Lib.hid (heldPl_o _ b2 S.1 k0 N0 W1 (hpm.keep hf) hs.1 h0 h1)
 have HI:=Lib.hid (hm.keep hf).ints
 have HW:=Lib.hid hW1
 have HF:=Lib.hid hf
 have HR:=Lib.hid hr
 clear hW1 hf hr hpm hm
 go_enter Tryz.func38,Tryz.ntmps38
 go_wp2_with fail
 rw[← HW.out]
 refine(HC.out).mono ?_
 rintro e w1 ⟨rfl,hb⟩
 have c3:=(HR.out.keep hb).cell (i:=3) rfl
 have HB:=Lib.hid hb
 have HC2:=Lib.hid (heldIntS_any t y S.2.1.length (k0+(N0:Int)) w1 (HI.out.keep hb) (by omega) (by omega) (by omega))
 have hnn:¬ (k0+(N0:Int))<0:=by omega
 clear hb HC
 go_wp2_with fail
 refine(HC2.out).mono ?_
 rintro e w2 ⟨rfl,rfl⟩
 have hnn2:¬ (k0+(N0:Int)+(S.2.1.length:Int))<0:=by omega
 clear HC2 c3
 go_wp2
 go_ret
 exact⟨by rw[show k0+((N0+S.2.1.length:Nat):Int)=k0+(N0:Int)+(S.2.1.length:Int) by omega];rfl,fstep HF.out HB.out⟩
end Go.Proofs.YteckjlkhopkogaaGreat
