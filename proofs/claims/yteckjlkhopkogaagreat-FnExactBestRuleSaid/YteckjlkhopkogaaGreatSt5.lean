/- Contracts: the stable merge of choices, whole. -/
import Derived.Test.YteckjlkhopkogaaGreatV2
import Derived.Deep.DeepCutAuto
namespace Go.Proofs.YteckjlkhopkogaaGreat
open Go.RowKit Go.PlainAid
def Mgd (g n:Nat) (D:Nat→CV) (cf:Nat→Nat→Int) (sp:List Value) (s:Nat→Nat) (a b:Nat) (w:World) (e:Ending) (w':World):Prop:=e=.returned (.tuple #[])∧∃ s',RowAt w' g 150 (rowC D s' n++sp)∧PI a b s s'∧Sg (ltO cf) s' a b∧Srt g w w'
set_option maxHeartbeats 8000000 in
set_option maxRecDepth 100000 in
theorem symMerge_any (g c n:Nat) (D:Nat→CV) (cf:Nat→Nat→Int) (hw:Swo (ltO cf)) (hc:CmpD D cf) (sp:List Value) (hn:n≤1048576):∀ (f:Nat) (s:Nat→Nat) (a m b:Nat) (w:World),b - a≤f→RowAt w g 150 (rowC D s n++sp)→a<m→m<b→b≤n→Sg (ltO cf) s a m→Sg (ltO cf) s m b→Cx s a m b →
  Calls Tryz.prog 218 #[.slice (some ⟨g,0,none⟩) n c,.int .i64 (a:Int),.int .i64 (m:Int),.int .i64 (b:Int),.func (.func 168) #[] #[]] w (Mgd g n D cf sp s a b w):=by
 intro f
 induction f with
 | zero=>intro s a m b w h1 _ h3 h4 _ _ _ _;omega
 | succ f ih =>
  intro s a m b w hfu h ham hmb hbn hA hB hx
  by_cases hm1:m=a+1
  ·subst hm1
   exact symLeft_any g c n D cf hw hc sp s a (a+1) b w h rfl hmb hbn hn hB hx
  by_cases hb1:b=m+1
  ·have h9:Cx s a m (m+1):=by rw[← hb1];exact hx
   exact symRight_any g c n D cf hw hc sp s a m b w h (by omega) hb1 hbn hn hA h9
  have HIH:=Lib.hid ih
  have HR:=Lib.hid h
  have HC:=Lib.hid hc
  have HA:=Lib.hid hA
  have HB:=Lib.hid hB
  have HX:=Lib.hid hx
  have HW:=Lib.hid hw
  have HFU:=Lib.hid hfu
  clear ih h hc hA hB hx hw hfu
  obtain⟨mid,hmid⟩:∃ q,q=(a+b) / 2:=⟨_,rfl⟩
  obtain⟨nn,hnn⟩:∃ q,q=mid+m:=⟨_,rfl⟩
  obtain⟨p,hp⟩:∃ q,q=nn - 1:=⟨_,rfl⟩
  have k1:IntKind.i64.wrap ((m:Int) - (a:Int))=(m:Int) - (a:Int):=by rw[IntKind.wrap_i64] <;> omega
  have k2:((m:Int) - (a:Int) == 1)=false:=by simp;omega
  have k3:IntKind.i64.wrap ((b:Int) - (m:Int))=(b:Int) - (m:Int):=by rw[IntKind.wrap_i64] <;> omega
  have k4:((b:Int) - (m:Int) == 1)=false:=by simp;omega
  have k5:IntKind.i64.wrap ((a:Int)+(b:Int))=(a:Int)+(b:Int):=by rw[IntKind.wrap_i64] <;> omega
  have k6:IntKind.u64.wrap ((a:Int)+(b:Int))=(a:Int)+(b:Int):=by rw[IntKind.wrap_u64] <;> omega
  have k7:((a:Int)+(b:Int)) / 2=(mid:Int):=by omega
  have k8:IntKind.i64.wrap (mid:Int)=(mid:Int):=by rw[IntKind.wrap_i64] <;> omega
  have k9:IntKind.i64.wrap ((mid:Int)+(m:Int))=(nn:Int):=by rw[IntKind.wrap_i64] <;> omega
  have k10:IntKind.i64.wrap ((nn:Int) - 1)=(p:Int):=by rw[IntKind.wrap_i64] <;> omega
  have hcase:∃ st r:Nat,((mid<m∧st=nn - b∧r=mid)∨(¬ mid<m∧st=a∧r=m)):=by
   by_cases hm:mid<m
   ·exact⟨_,_,Or.inl ⟨hm,rfl,rfl⟩⟩
   ·exact⟨_,_,Or.inr ⟨hm,rfl,rfl⟩⟩
  obtain⟨st,r,hsr⟩:=hcase
  have HPB:Hid (∀ c,st≤c→c<r→a≤c∧c<m∧c≤p∧m≤p - c∧p - c<b):=by
   intro c h1 h2
   rcases hsr with⟨h3,h4,h5⟩|⟨h3,h4,h5⟩ <;> omega
  have HPR:Hid (a≤st∧st≤r∧r≤m∧r≤mid∧(st=a∨nn - st=b)∧(r=m∨nn - r=m)):=by
   show _∧_
   rcases hsr with⟨h3,h4,h5⟩|⟨h3,h4,h5⟩ <;> omega
  have HPN:Hid (nn=mid+m∧p=nn - 1∧a<mid∧mid<b):=by
   show _∧_
   omega
  have hrn:r≤n:=by have:=HPR.out;omega
  have hsn:st≤r:=HPR.out.2.1
  have hk11:mid<m→IntKind.i64.wrap ((nn:Int) - (b:Int))=(st:Int):=by
   intro h3
   rcases hsr with⟨h3,h4,h5⟩|⟨h3,h4,h5⟩
   ·rw[IntKind.wrap_i64] <;> omega
   ·omega
  go_enter Tryz.func218,Tryz.ntmps218
  have hst:nn - st≤b:=by
   rcases hsr with⟨h3,h4,h5⟩|⟨h3,h4,h5⟩ <;> omega
  have HST:=Lib.hid hst
  clear hst
  rcases hsr with⟨h3,h4,h5⟩|⟨h3,h4,h5⟩
  rotate_left
  focus
   have hz3:¬ (mid:Int)<(m:Int):=by omega
   have HE:Hid ((a:Int)=(st:Int)∧(m:Int)=(r:Int)):=by show _∧_;omega
   have v1:Hid (Value.int IntKind.i64 (a:Int)=Value.int IntKind.i64 (st:Int)):=by show _=_;rw[HE.out.1]
   have v2:Hid (Value.int IntKind.i64 (m:Int)=Value.int IntKind.i64 (r:Int)):=by show _=_;rw[HE.out.2]
   clear h3 h4 h5 hk11
  rotate_left
  focus
   have hz3:(mid:Int)<(m:Int):=by omega
   have k11:=hk11 h3
   have v1:Hid (Value.int IntKind.i64 (st:Int)=Value.int IntKind.i64 (st:Int)):=rfl
   have v2:Hid (Value.int IntKind.i64 (mid:Int)=Value.int IntKind.i64 (r:Int)):=by show _=_;rw[h5]
   clear h3 h4 h5 hk11
  all_goals (
   clear hmid hnn hp
   go_wp2
   go_loopw [20,21] (fun vs vr wr=>∃ x y:Nat,st≤x∧x≤y∧y≤r∧vs=.int .i64 x∧vr=.int .i64 y∧Hid ((x=st∨ltO cf (s (p - (x - 1))) (s (x - 1))=false)∧(y=r∨ltO cf (s (p - y)) (s y)=true))∧Fresh w wr) (fun i j _=>(intOf j).toNat - (intOf i).toNat)
   case atStart=>exact⟨st,r,Nat.le_refl _,hsn,Nat.le_refl _,by first|exact v1.out|rfl,by first|exact v2.out|rfl,⟨Or.inl rfl,Or.inl rfl⟩,frefl _⟩
   case round =>
    obtain⟨x,y,hx1,hxy,hyr,rfl,rfl,HI,hf⟩:=hrel
    by_cases hlt:x<y
    ·have hltz:(x:Int)<(y:Int):=by omega
     obtain⟨cc,hcc⟩:∃ q,q=(x+y) / 2:=⟨_,rfl⟩
     obtain⟨pb1,pb2,pb3,pb4,pb5⟩:=HPB.out cc (by omega) (by omega)
     obtain⟨pc,hpc⟩:∃ q,q=p - cc:=⟨_,rfl⟩
     have q1:IntKind.i64.wrap ((x:Int)+(y:Int))=(x:Int)+(y:Int):=by rw[IntKind.wrap_i64] <;> omega
     have q2:IntKind.u64.wrap ((x:Int)+(y:Int))=(x:Int)+(y:Int):=by rw[IntKind.wrap_u64] <;> omega
     have q3:((x:Int)+(y:Int)) / 2=(cc:Int):=by omega
     have q4:IntKind.i64.wrap (cc:Int)=(cc:Int):=by rw[IntKind.wrap_i64] <;> omega
     have q5:IntKind.i64.wrap ((cc:Int)+1)=(cc:Int)+1:=by rw[IntKind.wrap_i64] <;> omega
     have q6:IntKind.i64.wrap ((p:Int) - (cc:Int))=(pc:Int):=by rw[IntKind.wrap_i64] <;> omega
     have hz1:(cc:Int)<(n:Int):=by omega
     have hz2:(pc:Int)<(n:Int):=by omega
     have hr9:=HR.out.keep hf
     obtain⟨x0,x1,x2⟩:=rowC_cells hr9 (show cc<n by omega)
     obtain⟨y0,y1,y2⟩:=rowC_cells hr9 (show pc<n by omega)
     have HF:=Lib.hid hf
     have HCC:=Lib.hid (HC.out (s pc) (s cc))
     have HXC:=Lib.hid (show x≤cc∧cc<y by omega)
     have HPC:=Lib.hid hpc
     obtain⟨u,hu⟩:∃ u,u=D (s cc):=⟨_,rfl⟩
     obtain⟨v,hv⟩:∃ v,v=D (s pc):=⟨_,rfl⟩
     rw[← hu] at x0 x1 x2 HCC
     rw[← hv] at y0 y1 y2 HCC
     clear hu hv hr9 hf hcc hpc pb1 pb2 pb3 pb4 pb5
     obtain⟨xs,xq,xn,xc,xk⟩:=u
     obtain⟨ys,yq,yn,yc,yk⟩:=v
     simp only at x0 x1 x2 y0 y1 y2 HCC
     have x0w:=fun xa:After wr=>akeep x0 xa
     have x1w:=fun xa:After wr=>akeep x1 xa
     have x2w:=fun xa:After wr=>akeep x2 xa
     have y0w:=fun xa:After wr=>akeep y0 xa
     have y1w:=fun xa:After wr=>akeep y1 xa
     have y2w:=fun xa:After wr=>akeep y2 xa
     obtain⟨cv,hcv⟩:∃ v,v=cf (s pc) (s cc):=⟨_,rfl⟩
     rw[← hcv] at HCC
     cases hv:ltO cf (s pc) (s cc)
     ·have hg:¬ cv<0:=by rw[hcv];simpa using hv
      have HV:=Lib.hid hv
      clear hv hcv
      go_wp2
      refine wp_region_after (by kernel_rfl) (by kernel_rfl) ?_
      repeat (go_big_quiet_step (first|(go_at_call 168;exact after_call (HCC.out _))))
      refine wpQuiet_nil ?_
      rintro _ ⟨xa,rfl⟩
      have hxa:=xa.h
      clear x0w x1w x2w y0w y1w y2w x0 x1 x2 y0 y1 y2 HCC q1 q2 q3 q4 q6
      obtain⟨W5,hW5⟩:∃ W,W=xa.w':=⟨_,rfl⟩
      rw[← hW5] at hxa ⊢
      have HF5:=Lib.hid (fstep HF.out hxa)
      clear hxa hW5
      have hgn:(!decide (cv<0))=true:=by simp;omega
      try rw[hgn]
      clear hgn hg
      go_wp2
      go_roundw
      case rel =>
       have l1:=HXC.out
       exact⟨cc+1,y,by omega,by omega,hyr,by go_num,rfl,⟨Or.inr (by rw[Nat.add_sub_cancel,← HPC.out];exact HV.out),HI.out.2⟩,HF5.out⟩
      case measure=>have l1:=HXC.out;simp[intOf];omega
     ·have hg:cv<0:=by rw[hcv];simpa using hv
      have HV:=Lib.hid hv
      clear hv hcv
      go_wp2
      refine wp_region_after (by kernel_rfl) (by kernel_rfl) ?_
      repeat (go_big_quiet_step (first|(go_at_call 168;exact after_call (HCC.out _))))
      refine wpQuiet_nil ?_
      rintro _ ⟨xa,rfl⟩
      have hxa:=xa.h
      clear x0w x1w x2w y0w y1w y2w x0 x1 x2 y0 y1 y2 HCC q1 q2 q3 q4 q6
      obtain⟨W5,hW5⟩:∃ W,W=xa.w':=⟨_,rfl⟩
      rw[← hW5] at hxa ⊢
      have HF5:=Lib.hid (fstep HF.out hxa)
      clear hxa hW5
      have hgn:(!decide (cv<0))=false:=by simp;omega
      try rw[hgn]
      clear hgn hg
      go_wp2
      go_roundw
      case rel =>
       have l1:=HXC.out
       exact⟨x,cc,hx1,by omega,by omega,rfl,rfl,⟨HI.out.1,Or.inr (by rw[← HPC.out];exact HV.out)⟩,HF5.out⟩
      case measure=>have l1:=HXC.out;simp[intOf];omega
    ·have hyx:y=x:=by omega
     subst hyx
     have hltz:¬ (y:Int)<(y:Int):=by omega
     obtain⟨en,hen⟩:∃ q,q=nn - y:=⟨_,rfl⟩
     have w1:IntKind.i64.wrap ((nn:Int) - (y:Int))=(en:Int):=by have h1:=HPN.out;have h2:=HPR.out;rw[IntKind.wrap_i64] <;> omega
     obtain⟨s1,hs1⟩:∃ t,t=rot s y m en:=⟨_,rfl⟩
     have HEN:Hid (a≤y∧y≤m∧m≤en∧en≤b∧y+(en - m)=mid):=by
      show _∧_
      have h1:=HPN.out;have h2:=HPR.out;have h3:=HST.out
      omega
     have HRP:Hid (Sg (ltO cf) s1 a y∧Sg (ltO cf) s1 y mid∧Sg (ltO cf) s1 mid en∧Sg (ltO cf) s1 en b∧Cx s1 a y mid∧Cx s1 mid en b∧Al (ltO cf) s1 a mid b):=by
      show _∧_
      have h1:=HPN.out;have h2:=HPR.out;have h3:=HST.out;have h4:=HEN.out
      have g1:y=a∨en=b∨ltO cf (s en) (s (y - 1))=false:=by
       rcases HI.out.1 with h5|h5
       ·rcases h2.2.2.2.2.1 with h6|h6 <;> omega
       ·by_cases hy0:y=a
        ·exact Or.inl hy0
        ·have e:p - (y - 1)=en:=by omega
         rw[e] at h5
         exact Or.inr (Or.inr h5)
      have g2:y=m∨en=m∨ltO cf (s (en - 1)) (s y)=true:=by
       rcases HI.out.2 with h5|h5
       ·rcases h2.2.2.2.2.2 with h6|h6 <;> omega
       ·have e:p - y=en - 1:=by omega
        rw[e] at h5
        exact Or.inr (Or.inr h5)
      have:=rot_parts HW.out (a:=a) (p:=y) (m:=m) (e:=en) (b:=b) (by omega) HA.out HB.out HX.out g1 g2
      rw[h4.2.2.2.2,← hs1] at this
      exact this
     have HR9:=Lib.hid (HR.out.keep hf)
     have HF:=Lib.hid hf
     have HS1:=Lib.hid hs1
     clear hf hen hs1 hx1 hxy hyr
     have hen9:=HEN.out
     have hpn9:=HPN.out
     have hfu9:=HFU.out
     have HD:(y<m∧m<en)∨(y<m∧¬ m<en)∨¬ y<m:=by omega
     have HD2:(a<y∧y<mid)∨(a<y∧¬ y<mid)∨¬ a<y:=by omega
     have HD3:(mid<en∧en<b)∨(mid<en∧¬ en<b)∨¬ mid<en:=by omega
     have hym:y≤m:=hen9.2.1
     have hme:m≤en:=hen9.2.2.1
     have heb:en≤b:=hen9.2.2.2.1
     have hay:a≤y:=hen9.1
     have hymid:y≤mid:=by omega
     have hmen:mid≤en:=by omega
     have hl1:mid - a≤f:=by omega
     have hl2:b - mid≤f:=by omega
     have hl3:mid≤n:=by omega
     clear hen9 hpn9 hfu9
     rcases HD with⟨c1,c2⟩|⟨c1,c2⟩|c1
     focus
      have z1:(y:Int)<(m:Int):=by omega
      have z2:(m:Int)<(en:Int):=by omega
      have HRO:=Lib.hid (rotate_any g c n D s sp y m en wr HR9.out c1 c2 (by omega) hn)
      clear hltz c1 c2
      go_wp2_with fail
      refine(HRO.out).mono ?_
      rintro e W1 ⟨rfl,hr1,hs1'⟩
      rw[← HS1.out] at hr1
      have HR1:=Lib.hid hr1
      have HSR1:=Lib.hid ((Srt.fresh HF.out).trans hs1')
      clear hr1 hs1' HRO z1 z2
      go_upto_region 41 with fail
     rotate_left
     focus
      have z1:(y:Int)<(m:Int):=by omega
      have z2:¬ (m:Int)<(en:Int):=by omega
      have e9:s1=s:=by
       have:en=m:=by omega
       rw[HS1.out,this];exact rot_id2 s y m hym
      have HR1:Hid (RowAt wr g 150 (rowC D s1 n++sp)):=by show RowAt _ _ _ _;rw[e9];exact HR9.out
      have HSR1:=Lib.hid (Srt.fresh (g:=g) HF.out)
      obtain⟨W1,hW1⟩:∃ W,W=wr:=⟨_,rfl⟩
      rw[← hW1] at HR1 HSR1 ⊢
      clear hltz c1 c2 e9 hW1
      go_upto_region 41 with fail
      clear z1 z2
     rotate_left
     focus
      have z1:¬ (y:Int)<(m:Int):=by omega
      have e9:s1=s:=by
       have:y=m:=by omega
       rw[HS1.out,this];exact rot_id1 s m en
      have HR1:Hid (RowAt wr g 150 (rowC D s1 n++sp)):=by show RowAt _ _ _ _;rw[e9];exact HR9.out
      have HSR1:=Lib.hid (Srt.fresh (g:=g) HF.out)
      obtain⟨W1,hW1⟩:∃ W,W=wr:=⟨_,rfl⟩
      rw[← hW1] at HR1 HSR1 ⊢
      clear hltz c1 e9 hW1
      go_upto_region 41 with fail
      clear z1
     all_goals (
      rcases HD2 with⟨c1,c2⟩|⟨c1,c2⟩|c1
      focus
       have z1:(a:Int)<(y:Int):=by omega
       have z2:(y:Int)<(mid:Int):=by omega
       have HRO:=Lib.hid (HIH.out s1 a y mid W1 hl1 HR1.out c1 c2 hl3 HRP.out.1 HRP.out.2.1 HRP.out.2.2.2.2.1)
       clear c1 c2
       go_wp2_with fail
       refine(HRO.out).mono ?_
       rintro e W2 ⟨rfl,s2,hr2,hp2,hg2,hs2⟩
       have HR2:=Lib.hid hr2
       have HP2:=Lib.hid hp2
       have HG2:=Lib.hid hg2
       have HSR2:=Lib.hid (HSR1.out.trans hs2)
       clear hr2 hp2 hg2 hs2 HRO z1 z2
       go_upto_region 43 with fail
      rotate_left
      focus
       have z1:(a:Int)<(y:Int):=by omega
       have z2:¬ (y:Int)<(mid:Int):=by omega
       have e8:y=mid:=by omega
       have hg2:Sg (ltO cf) s1 a mid:=by have:=HRP.out.1;rw[e8] at this;exact this
       obtain⟨s2,hs2⟩:∃ t,t=s1:=⟨_,rfl⟩
       have HP2:Hid (PI a mid s1 s2):=by show PI _ _ _ _;rw[hs2];exact PI.refl _ _ _
       rw[← hs2] at HR1 hg2
       have HR2:=Lib.hid HR1.out
       have HG2:=Lib.hid hg2
       obtain⟨W2,hW2⟩:∃ W,W=W1:=⟨_,rfl⟩
       have HSR2:=Lib.hid HSR1.out
       rw[← hW2] at HR2 HSR2 ⊢
       clear c1 c2 e8 hW2 hg2 hs2
       go_upto_region 43 with fail
       clear z1 z2
      rotate_left
      focus
       have z1:¬ (a:Int)<(y:Int):=by omega
       have e8:y=a:=by omega
       have hg2:Sg (ltO cf) s1 a mid:=by have:=HRP.out.2.1;rw[e8] at this;exact this
       obtain⟨s2,hs2⟩:∃ t,t=s1:=⟨_,rfl⟩
       have HP2:Hid (PI a mid s1 s2):=by show PI _ _ _ _;rw[hs2];exact PI.refl _ _ _
       rw[← hs2] at HR1 hg2
       have HR2:=Lib.hid HR1.out
       have HG2:=Lib.hid hg2
       obtain⟨W2,hW2⟩:∃ W,W=W1:=⟨_,rfl⟩
       have HSR2:=Lib.hid HSR1.out
       rw[← hW2] at HR2 HSR2 ⊢
       clear c1 e8 hW2 hg2 hs2
       go_upto_region 43 with fail
       clear z1
      all_goals (
       have HA1:Hid (Sg (ltO cf) s2 mid en∧Sg (ltO cf) s2 en b∧Cx s2 mid en b):=by
        refine⟨HP2.out.sg HRP.out.2.2.1 (Or.inr (Nat.le_refl _)),HP2.out.sg HRP.out.2.2.2.1 (Or.inr hmen),fun i j g1 g2 g3 g4=>?_⟩
        rw[HP2.out.out (i:=i) (by omega),HP2.out.out (i:=j) (by omega)]
        exact HRP.out.2.2.2.2.2.1 i j g1 g2 g3 g4
       have HPA:Hid (PI a b s s1):=by show PI _ _ _ _;rw[HS1.out];exact(rot_pi s y m en ⟨hym,hme⟩).wide hay heb
       have hab9:a≤mid∧mid≤b:=by omega
       rcases HD3 with⟨c1,c2⟩|⟨c1,c2⟩|c1
       ·have z1:(mid:Int)<(en:Int):=by omega
        have z2:(en:Int)<(b:Int):=by omega
        have HRO:=Lib.hid (HIH.out s2 mid en b W2 hl2 HR2.out c1 c2 hbn HA1.out.1 HA1.out.2.1 HA1.out.2.2)
        clear c1 c2
        go_wp2_with fail
        refine(HRO.out).mono ?_
        rintro e W3 ⟨rfl,s3,hr3,hp3,hg3,hs3⟩
        have HFIN:Hid (Mgd g n D cf sp s a b w (.returned (.tuple #[])) W3):=⟨rfl,s3,hr3,(HPA.out.trans (HP2.out.wide (Nat.le_refl _) hab9.2)).trans (hp3.wide hab9.1 (Nat.le_refl _)),halves HRP.out.2.2.2.2.2.2 HP2.out HG2.out hp3 hg3 hab9,HSR2.out.trans hs3⟩
        clear hr3 hp3 hg3 hs3 HRO z1 z2
        go_wp2
        refine bodyPost_end (results_none rfl _ _ _) rfl ?_
        exact HFIN.out
       ·have z1:(mid:Int)<(en:Int):=by omega
        have z2:¬ (en:Int)<(b:Int):=by omega
        have e7:en=b:=by omega
        have hg3:Sg (ltO cf) s2 mid b:=by have:=HA1.out.1;rw[e7] at this;exact this
        have HFIN:Hid (Mgd g n D cf sp s a b w (.returned (.tuple #[])) W2):=⟨rfl,s2,HR2.out,HPA.out.trans (HP2.out.wide (Nat.le_refl _) hab9.2),halves HRP.out.2.2.2.2.2.2 HP2.out HG2.out (PI.refl _ _ _) hg3 hab9,HSR2.out⟩
        clear hg3 e7 c1 c2
        go_wp2
        refine bodyPost_end (results_none rfl _ _ _) rfl ?_
        exact HFIN.out
       ·have z1:¬ (mid:Int)<(en:Int):=by omega
        have e7:en=mid:=by omega
        have hg3:Sg (ltO cf) s2 mid b:=by have:=HA1.out.2.1;rw[e7] at this;exact this
        have HFIN:Hid (Mgd g n D cf sp s a b w (.returned (.tuple #[])) W2):=⟨rfl,s2,HR2.out,HPA.out.trans (HP2.out.wide (Nat.le_refl _) hab9.2),halves HRP.out.2.2.2.2.2.2 HP2.out HG2.out (PI.refl _ _ _) hg3 hab9,HSR2.out⟩
        clear hg3 e7 c1
        go_wp2
        refine bodyPost_end (results_none rfl _ _ _) rfl ?_
        exact HFIN.out)))
end Go.Proofs.YteckjlkhopkogaaGreat
