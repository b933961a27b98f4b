/- Contracts: BestRule on both sides. -/
import Derived.Test.YteckjlkhopkogaaGreatSvo
import Derived.Deep.DeepCutAuto
namespace Go.Proofs.YteckjlkhopkogaaGreat
open Go.RowKit Go.PlainAid
def brS (P:PlanV) (fm:List (Int × Int)) (ds:List Fib):Nat→Option (Int × Int)
 | 0=>some (0,0)
 | k+1=>match brS P fm ds k with
  | none=>none
  | some r=>if (soF P fm ds ((k:Int)+1)).2=true then (if r.1=0∨(soF P fm ds ((k:Int)+1)).1.2.2<r.2 then some ((k:Int)+1,(soF P fm ds ((k:Int)+1)).1.2.2) else some r) else none
theorem brS_stop {P:PlanV} {fm:List (Int × Int)} {ds:List Fib} {k:Nat} (h:brS P fm ds k=none):∀ m,brS P fm ds (k+m)=none
 | 0=>h
 | m+1=>by
  have ih:=brS_stop h m
  show(match brS P fm ds (k+m) with|none=>none|some r=>_)=none
  rw[ih]
def brF (P:PlanV) (fm:List (Int × Int)) (ds:List Fib):Int × Int × Bool:=match brS P fm ds 3 with|some r=>(r.1,r.2,true)|none=>(0,0,false)
theorem brF_some {P:PlanV} {fm:List (Int × Int)} {ds:List Fib} {r:Int × Int} (h:brS P fm ds 3=some r):brF P fm ds=(r.1,r.2,true):=by unfold brF;rw[h]
theorem brF_none {P:PlanV} {fm:List (Int × Int)} {ds:List Fib} (h:brS P fm ds 3=none):brF P fm ds=(0,0,false):=by unfold brF;rw[h]
set_option maxHeartbeats 4000000 in
set_option maxRecDepth 100000 in
theorem implBestRule_any (v:Value) (P:PlanV) (v1:Value) (fm:List (Int × Int)) (v2:Value) (ds:List Fib) (w:World) (h:PlIn w v P) (h1:FmIn w v1 fm) (h2:DmIn w v2 ds) :
  Calls Tryz.prog 42 #[v,v1,v2] w fun e w'=>e=.returned (.tuple #[.int .i64 (brF P fm ds).1,.int .i64 (brF P fm ds).2.1,.bool (brF P fm ds).2.2])∧Fresh w w':=by
 have HPL:=Lib.hid h
 have HF1:=Lib.hid h1
 have HD2:=Lib.hid h2
 obtain⟨q,m,c,p,k0,e1,r,i0,e0,rfl⟩:=h.shape
 obtain⟨pf,cf,rfl,hfm,hfl⟩:=h1
 obtain⟨pd,cd,rfl,hd,hdl⟩:=h2
 obtain⟨W2,hW2⟩:∃ W,W=w.alloc (.cells #[.slice q m c,.slice p k0 e1,.slice r i0 e0] 38):=⟨_,rfl⟩
 have hf2:Fresh w W2:=by rw[hW2];exact fnew (frefl _) _
 have hr2:RowAt W2 w.heap.size 38 [.slice q m c,.slice p k0 e1,.slice r i0 e0]:=by rw[hW2];exact RowAt.new _ _ _
 have HC:Hid (∀ W (t:Int),Fresh W2 W→Calls Tryz.prog 40 #[.agg #[.slice q m c,.slice p k0 e1,.slice r i0 e0],.slice pf fm.length cf,.slice pd ds.length cd,.int .i64 t] W fun e w'=>∃ v',e=.returned (.tuple #[v',.bool (soF P fm ds t).2])∧SdOwn w' W.heap.size v' (soF P fm ds t).1∧Fresh W w'):=fun W t hW=>implServeInOrder_l _ P _ fm _ ds t W (HPL.out.keep (fstep hf2 hW)) (HF1.out.keep (fstep hf2 hW)) (HD2.out.keep (fstep hf2 hW))
 have HF2:=Lib.hid hf2
 have HR2:=Lib.hid hr2
 have HW2:=Lib.hid hW2
 clear h hfm hd hf2 hr2 hW2 HF1 HD2 HPL
 go_enter Tryz.func42,Tryz.ntmps42
 go_wp2
 try rw[← HW2.out]
 go_loopw [9,10,11] (fun va vb vc wr=>∃ (k:Nat) (b n:Int),k≤3∧vc=.int .i64 ((k:Int)+1)∧va=.int .i64 b∧vb=.int .i64 n∧Hid (brS P fm ds k=some (b,n))∧Fresh W2 wr) (fun _ _ c _=>20 - (intOf c).toNat)
 case atStart=>exact⟨0,0,0,by omega,by go_num,rfl,rfl,(show _=_ from rfl),frefl _⟩
 case round =>
  obtain⟨k,b,n,hk,rfl,rfl,rfl,HB,hf⟩:=hrel
  have HF:=Lib.hid hf
  by_cases hlt:k<3
  ·have hltz:(k:Int)+1≤3:=by omega
   have a0:=(HR2.out.keep hf).cell (i:=0) rfl
   have a1:=(HR2.out.keep hf).cell (i:=1) rfl
   have a2:=(HR2.out.keep hf).cell (i:=2) rfl
   have HCX:=Lib.hid (HC.out wr ((k:Int)+1) hf)
   have HNX:Hid (brS P fm ds (k+1)=if (soF P fm ds ((k:Int)+1)).2=true then (if b=0∨(soF P fm ds ((k:Int)+1)).1.2.2<n then some ((k:Int)+1,(soF P fm ds ((k:Int)+1)).1.2.2) else some (b,n)) else none):=by
    show _=_
    show(match brS P fm ds k with|none=>none|some r=>_)=_
    rw[HB.out]
   obtain⟨⟨S,ok⟩,hS⟩:∃ R,R=soF P fm ds ((k:Int)+1):=⟨_,rfl⟩
   rw[← hS] at HCX HNX
   clear hf hS
   go_wp2_with fail
   refine(HCX.out).mono ?_
   rintro e w9 ⟨v',rfl,ho,hb⟩
   obtain⟨q',m',c',p',k',d',r',i',e',t',y',b2,rfl,_⟩:=ho
   obtain⟨W3,hW3⟩:∃ W,W=w9.alloc (.cells #[.slice q' m' c',.slice p' k' d',.slice r' i' e',.slice t' S.2.1.length y',.int .i64 S.2.2] 42):=⟨_,rfl⟩
   have hf3:Fresh w9 W3:=by rw[hW3];exact fnew (frefl _) _
   have hr3:RowAt W3 w9.heap.size 42 [.slice q' m' c',.slice p' k' d',.slice r' i' e',.slice t' S.2.1.length y',.int .i64 S.2.2]:=by rw[hW3];exact RowAt.new _ _ _
   have s4:=hr3.cell (i:=4) rfl
   have s4w:=fun xa:After W3=>akeep s4 xa
   have HF3:=Lib.hid (fstep HF.out (fstep hb hf3))
   have HW3:=Lib.hid hW3
   obtain⟨bk,hbk⟩:∃ z,z=S.2.2:=⟨_,rfl⟩
   have w1:IntKind.i64.wrap ((k:Int)+1+1)=(k:Int)+1+1:=by rw[IntKind.wrap_i64] <;> omega
   clear hb hf3 hr3 hW3 HCX a0 a1 a2
   cases ok
   ·have HNO:Hid (brS P fm ds 3=none):=by
     show _=_
     have h0:brS P fm ds (k+1)=none:=by rw[HNX.out];rfl
     have h1:=brS_stop h0 (3 - (k+1))
     rwa [show k+1+(3 - (k+1))=3 by omega] at h1
    clear s4 s4w
    go_wp2
    go_ret3
    exact⟨by rw[brF_none HNO.out];first|done|rfl,by rw[← HW3.out];exact fstep HF2.out HF3.out⟩
   ·have HNX2:Hid (brS P fm ds (k+1)=if b=0∨S.2.2<n then some ((k:Int)+1,S.2.2) else some (b,n)):=by show _=_;rw[HNX.out];rfl
    by_cases hb0:b=0∨S.2.2<n
    ·have HY:Hid (brS P fm ds (k+1)=some ((k:Int)+1,S.2.2)):=by show _=_;rw[HNX2.out,if_pos hb0]
     rcases Decidable.em (b=0) with hb1|hb1
     ·have g1:(b == 0)=true:=by simp[hb1]
      go_upto_region 9 with fail
      try rw[← HW3.out]
      try go_quiet (fail)
      go_wp2
      go_roundw
      case rel=>first|exact⟨k+1,_,_,by omega,by go_num,rfl,rfl,HY,HF3.out⟩|exact⟨k+1,_,_,by omega,by go_num,by go_num,rfl,HY,HF3.out⟩|exact⟨k+1,_,_,by omega,by go_num,by go_num,rfl,HY,fdrewN HF3.out _⟩
      case measure=>simp[intOf];omega
     ·have g1:(b == 0)=false:=by simp[hb1]
      have g2:S.2.2<n:=by rcases hb0 with h|h;exact absurd h hb1;exact h
      go_upto_region 9 with fail
      try rw[← HW3.out]
      try go_quiet (fail)
      go_wp2
      go_roundw
      case rel=>first|exact⟨k+1,_,_,by omega,by go_num,rfl,rfl,HY,HF3.out⟩|exact⟨k+1,_,_,by omega,by go_num,by go_num,rfl,HY,HF3.out⟩|exact⟨k+1,_,_,by omega,by go_num,by go_num,rfl,HY,fdrewN HF3.out _⟩
      case measure=>simp[intOf];omega
    ·have hb1:¬ b=0:=fun h=>hb0 (Or.inl h)
     have g1:(b == 0)=false:=by simp[hb1]
     have g2:¬ S.2.2<n:=fun h=>hb0 (Or.inr h)
     have HY:Hid (brS P fm ds (k+1)=some (b,n)):=by show _=_;rw[HNX2.out,if_neg hb0]
     clear hb0
     go_wp2
     try rw[← HW3.out]
     go_roundw
     case rel=>exact⟨k+1,_,_,by omega,by go_num,rfl,rfl,HY,HF3.out⟩
     case measure=>simp[intOf];omega
  ·have hltz:¬ (k:Int)+1≤3:=by omega
   obtain rfl:k=3:=by omega
   have HE:=Lib.hid (brF_some HB.out)
   clear hf
   go_wp2
   go_ret3
   exact⟨by rw[HE.out];first|done|rfl,fstep HF2.out HF.out⟩
set_option maxHeartbeats 4000000 in
set_option maxRecDepth 100000 in
theorem specBestRule_any (v:Value) (P:PlanV) (v1:Value) (fm:List (Int × Int)) (v2:Value) (ds:List Fib) (w:World) (h:PlIn w v P) (h1:FmIn w v1 fm) (h2:DmIn w v2 ds) :
  Calls Tryz.prog 41 #[v,v1,v2] w fun e w'=>e=.returned (.tuple #[.int .i64 (brF P fm ds).1,.int .i64 (brF P fm ds).2.1,.bool (brF P fm ds).2.2])∧Fresh w w':=by
 have HPL:=Lib.hid h
 have HF1:=Lib.hid h1
 have HD2:=Lib.hid h2
 obtain⟨q,m,c,p,k0,e1,r,i0,e0,rfl⟩:=h.shape
 obtain⟨pf,cf,rfl,hfm,hfl⟩:=h1
 obtain⟨pd,cd,rfl,hd,hdl⟩:=h2
 obtain⟨W2,hW2⟩:∃ W,W=w.alloc (.cells #[.slice q m c,.slice p k0 e1,.slice r i0 e0] 38):=⟨_,rfl⟩
 have hf2:Fresh w W2:=by rw[hW2];exact fnew (frefl _) _
 have hr2:RowAt W2 w.heap.size 38 [.slice q m c,.slice p k0 e1,.slice r i0 e0]:=by rw[hW2];exact RowAt.new _ _ _
 have HC:Hid (∀ W (t:Int),Fresh W2 W→Calls Tryz.prog 39 #[.agg #[.slice q m c,.slice p k0 e1,.slice r i0 e0],.slice pf fm.length cf,.slice pd ds.length cd,.int .i64 t] W fun e w'=>∃ v',e=.returned (.tuple #[v',.bool (soF P fm ds t).2])∧SdOwn w' W.heap.size v' (soF P fm ds t).1∧Fresh W w'):=fun W t hW=>specServeInOrder_l _ P _ fm _ ds t W (HPL.out.keep (fstep hf2 hW)) (HF1.out.keep (fstep hf2 hW)) (HD2.out.keep (fstep hf2 hW))
 have HF2:=Lib.hid hf2
 have HR2:=Lib.hid hr2
 have HW2:=Lib.hid hW2
 clear h hfm hd hf2 hr2 hW2 HF1 HD2 HPL
 go_enter Tryz.func41,Tryz.ntmps41
 go_wp2
 try rw[← HW2.out]
 go_loopw [9,10,11] (fun va vb vc wr=>∃ (k:Nat) (b n:Int),k≤3∧vc=.int .i64 ((k:Int)+1)∧va=.int .i64 b∧vb=.int .i64 n∧Hid (brS P fm ds k=some (b,n))∧Fresh W2 wr) (fun _ _ c _=>20 - (intOf c).toNat)
 case atStart=>exact⟨0,0,0,by omega,by go_num,rfl,rfl,(show _=_ from rfl),frefl _⟩
 case round =>
  obtain⟨k,b,n,hk,rfl,rfl,rfl,HB,hf⟩:=hrel
  have HF:=Lib.hid hf
  by_cases hlt:k<3
  ·have hltz:(k:Int)+1≤3:=by omega
   have a0:=(HR2.out.keep hf).cell (i:=0) rfl
   have a1:=(HR2.out.keep hf).cell (i:=1) rfl
   have a2:=(HR2.out.keep hf).cell (i:=2) rfl
   have HCX:=Lib.hid (HC.out wr ((k:Int)+1) hf)
   have HNX:Hid (brS P fm ds (k+1)=if (soF P fm ds ((k:Int)+1)).2=true then (if b=0∨(soF P fm ds ((k:Int)+1)).1.2.2<n then some ((k:Int)+1,(soF P fm ds ((k:Int)+1)).1.2.2) else some (b,n)) else none):=by
    show _=_
    show(match brS P fm ds k with|none=>none|some r=>_)=_
    rw[HB.out]
   obtain⟨⟨S,ok⟩,hS⟩:∃ R,R=soF P fm ds ((k:Int)+1):=⟨_,rfl⟩
   rw[← hS] at HCX HNX
   clear hf hS
   go_wp2_with fail
   refine(HCX.out).mono ?_
   rintro e w9 ⟨v',rfl,ho,hb⟩
   obtain⟨q',m',c',p',k',d',r',i',e',t',y',b2,rfl,_⟩:=ho
   obtain⟨W3,hW3⟩:∃ W,W=w9.alloc (.cells #[.slice q' m' c',.slice p' k' d',.slice r' i' e',.slice t' S.2.1.length y',.int .i64 S.2.2] 42):=⟨_,rfl⟩
   have hf3:Fresh w9 W3:=by rw[hW3];exact fnew (frefl _) _
   have hr3:RowAt W3 w9.heap.size 42 [.slice q' m' c',.slice p' k' d',.slice r' i' e',.slice t' S.2.1.length y',.int .i64 S.2.2]:=by rw[hW3];exact RowAt.new _ _ _
   have s4:=hr3.cell (i:=4) rfl
   have s4w:=fun xa:After W3=>akeep s4 xa
   have HF3:=Lib.hid (fstep HF.out (fstep hb hf3))
   have HW3:=Lib.hid hW3
   obtain⟨bk,hbk⟩:∃ z,z=S.2.2:=⟨_,rfl⟩
   have w1:IntKind.i64.wrap ((k:Int)+1+1)=(k:Int)+1+1:=by rw[IntKind.wrap_i64] <;> omega
   clear hb hf3 hr3 hW3 HCX a0 a1 a2
   cases ok
   ·have HNO:Hid (brS P fm ds 3=none):=by
     show _=_
     have h0:brS P fm ds (k+1)=none:=by rw[HNX.out];rfl
     have h1:=brS_stop h0 (3 - (k+1))
     rwa [show k+1+(3 - (k+1))=3 by omega] at h1
    clear s4 s4w
    go_wp2
    go_ret3
    exact⟨by rw[brF_none HNO.out];first|done|rfl,by rw[← HW3.out];exact fstep HF2.out HF3.out⟩
   ·have HNX2:Hid (brS P fm ds (k+1)=if b=0∨S.2.2<n then some ((k:Int)+1,S.2.2) else some (b,n)):=by show _=_;rw[HNX.out];rfl
    by_cases hb0:b=0∨S.2.2<n
    ·have HY:Hid (brS P fm ds (k+1)=some ((k:Int)+1,S.2.2)):=by show _=_;rw[HNX2.out,if_pos hb0]
     rcases Decidable.em (b=0) with hb1|hb1
     ·have g1:(b == 0)=true:=by simp[hb1]
      go_upto_region 9 with fail
      try rw[← HW3.out]
      try go_quiet (fail)
      go_wp2
      go_roundw
      case rel=>first|exact⟨k+1,_,_,by omega,by go_num,rfl,rfl,HY,HF3.out⟩|exact⟨k+1,_,_,by omega,by go_num,by go_num,rfl,HY,HF3.out⟩|exact⟨k+1,_,_,by omega,by go_num,by go_num,rfl,HY,fdrewN HF3.out _⟩
      case measure=>simp[intOf];omega
     ·have g1:(b == 0)=false:=by simp[hb1]
      have g2:S.2.2<n:=by rcases hb0 with h|h;exact absurd h hb1;exact h
      go_upto_region 9 with fail
      try rw[← HW3.out]
      try go_quiet (fail)
      go_wp2
      go_roundw
      case rel=>first|exact⟨k+1,_,_,by omega,by go_num,rfl,rfl,HY,HF3.out⟩|exact⟨k+1,_,_,by omega,by go_num,by go_num,rfl,HY,HF3.out⟩|exact⟨k+1,_,_,by omega,by go_num,by go_num,rfl,HY,fdrewN HF3.out _⟩
      case measure=>simp[intOf];omega
    ·have hb1:¬ b=0:=fun h=>hb0 (Or.inl h)
     have g1:(b == 0)=false:=by simp[hb1]
     have g2:¬ S.2.2<n:=fun h=>hb0 (Or.inr h)
     have HY:Hid (brS P fm ds (k+1)=some (b,n)):=by show _=_;rw[HNX2.out,if_neg hb0]
     clear hb0
     go_wp2
     try rw[← HW3.out]
     go_roundw
     case rel=>exact⟨k+1,_,_,by omega,by go_num,rfl,rfl,HY,HF3.out⟩
     case measure=>simp[intOf];omega
  ·have hltz:¬ (k:Int)+1≤3:=by omega
   obtain rfl:k=3:=by omega
   have HE:=Lib.hid (brF_some HB.out)
   clear hf
   go_wp2
   go_ret3
   exact⟨by rw[HE.out];first|done|rfl,fstep HF2.out HF.out⟩
end Go.Proofs.YteckjlkhopkogaaGreat
