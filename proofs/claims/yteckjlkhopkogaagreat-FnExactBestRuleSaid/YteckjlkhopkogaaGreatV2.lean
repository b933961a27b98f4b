/- Texts of mine laid together (St2, St3, St4). -/
import Derived.Test.YteckjlkhopkogaaGreatV1
import Derived.BigRegion
namespace Go.Proofs.YteckjlkhopkogaaGreat
open Go.RowKit Go.PlainAid
set_option maxHeartbeats 4000000 in
set_option maxRecDepth 100000 in
theorem swapRange_any (g c n:Nat) (D:Nat→CV) (s:Nat→Nat) (sp:List Value) (a b k:Nat) (w:World) (h:RowAt w g 150 (rowC D s n++sp)) (hab:k=0∨a+k≤b) (hbn:b+k≤n) (han:a≤n) (hn:n≤1048576) :
  Calls Tryz.prog 253 #[.slice (some ⟨g,0,none⟩) n c,.int .i64 (a:Int),.int .i64 (b:Int),.int .i64 (k:Int),.func (.func 168) #[] #[]] w fun e w'=>e=.returned (.tuple #[])∧RowAt w' g 150 (rowC D (swN s a b k) n++sp)∧Srt g w w':=by
 have HR:=Lib.hid h
 clear h
 go_enter Tryz.func253,Tryz.ntmps253
 go_wp2
 go_loopw [10] (fun i wr=>∃ j:Nat,j≤k∧i=.int .i64 j∧RowAt wr g 150 (rowC D (swN s a b j) n++sp)∧Srt g w wr) (fun i _=>k - (intOf i).toNat)
 case atStart=>exact⟨0,Nat.zero_le _,rfl,by rw[swN_zero];exact HR.out,Srt.refl _ _⟩
 case round =>
  obtain⟨j,hj,rfl,hr,hs⟩:=hrel
  by_cases hlt:j<k
  ·have hltz:(j:Int)<(k:Int):=by omega
   have hab':a+k≤b:=by omega
   obtain⟨A,hA⟩:∃ A,a+j=A:=⟨_,rfl⟩
   obtain⟨B,hB⟩:∃ B,b+j=B:=⟨_,rfl⟩
   have hAn:A<n:=by omega
   have hBn:B<n:=by omega
   have hAB:A≠B:=by omega
   have w1:IntKind.i64.wrap ((a:Int)+(j:Int))=(A:Int):=by rw[IntKind.wrap_i64] <;> omega
   have w2:IntKind.i64.wrap ((b:Int)+(j:Int))=(B:Int):=by rw[IntKind.wrap_i64] <;> omega
   have zA:(A:Int)<(n:Int):=by omega
   have zB:(B:Int)<(n:Int):=by omega
   obtain⟨x0,x1,x2⟩:=rowC_cells hr hAn
   obtain⟨y0,y1,y2⟩:=rowC_cells hr hBn
   have f0:=hr.frozen (A * 3)
   have f1:=hr.frozen (A * 3+1)
   have f2:=hr.frozen (A * 3+2)
   have g0:=hr.frozen (B * 3)
   have g1:=hr.frozen (B * 3+1)
   have g2:=hr.frozen (B * 3+2)
   have hsw:Hid (RowAt (swW wr g A B (D (swN s a b j B)) (D (swN s a b j A))).drew g 150 (rowC D (swN s a b (j+1)) n++sp)):=by
    show RowAt _ _ _ _
    rw[← swN_succ s a b j (by omega),hA,hB]
    exact(row_sw hr hAn hBn).keep (fdrew (frefl _))
   have hss:Hid (Srt g w (swW wr g A B (D (swN s a b j B)) (D (swN s a b j A))).drew):=((hs.sw _ _ _ _).trans (Srt.fresh (fdrew (frefl _))))
   obtain⟨x,hx⟩:∃ x,x=D (swN s a b j A):=⟨_,rfl⟩
   obtain⟨y,hy⟩:∃ y,y=D (swN s a b j B):=⟨_,rfl⟩
   rw[← hx] at x0 x1 x2
   rw[← hy] at y0 y1 y2
   rw[← hx,← hy] at hsw hss
   clear hx hy hr hs
   obtain⟨xs,xq,xn,xc,xk⟩:=x
   obtain⟨ys,yq,yn,yc,yk⟩:=y
   unfold swW at hsw hss
   simp only at x0 x1 x2 y0 y1 y2 hsw hss
   subst hA hB
   replace w1:IntKind.i64.wrap ((a:Int)+(j:Int))=(a:Int)+(j:Int):=by rw[IntKind.wrap_i64] <;> omega
   replace w2:IntKind.i64.wrap ((b:Int)+(j:Int))=(b:Int)+(j:Int):=by rw[IntKind.wrap_i64] <;> omega
   go_wp2_with fail
   go_big_region
   go_wp2
   go_roundw
   case rel=>exact⟨j+1,by omega,by go_num,hsw.out,hss.out⟩
   case measure=>simp[intOf];omega
  ·have hjn:j=k:=by omega
   have hltz:¬ (j:Int)<(k:Int):=by omega
   subst hjn
   have HF:=Lib.hid (And.intro hr hs)
   clear hr hs
   go_wp2
   refine bodyPost_end (results_none rfl _ _ _) rfl ?_
   exact⟨rfl,HF.out.1,HF.out.2⟩
set_option maxHeartbeats 4000000 in
set_option maxRecDepth 100000 in
theorem rotate_any (g c n:Nat) (D:Nat→CV) (s:Nat→Nat) (sp:List Value) (a m b:Nat) (w:World) (h:RowAt w g 150 (rowC D s n++sp)) (ham:a<m) (hmb:m<b) (hbn:b≤n) (hn:n≤1048576) :
  Calls Tryz.prog 236 #[.slice (some ⟨g,0,none⟩) n c,.int .i64 (a:Int),.int .i64 (m:Int),.int .i64 (b:Int),.func (.func 168) #[] #[]] w fun e w'=>e=.returned (.tuple #[])∧RowAt w' g 150 (rowC D (rot s a m b) n++sp)∧Srt g w w':=by
 have HR:=Lib.hid h
 clear h
 have k1:IntKind.i64.wrap ((m:Int) - (a:Int))=(m:Int) - (a:Int):=by rw[IntKind.wrap_i64];omega
 have k2:IntKind.i64.wrap ((b:Int) - (m:Int))=(b:Int) - (m:Int):=by rw[IntKind.wrap_i64];omega
 go_enter Tryz.func236,Tryz.ntmps236
 go_wp2
 clear k1 k2
 go_loopw [10,11] (fun vi vj wr=>∃ (i j:Nat) (s':Nat→Nat),0<i∧0<j∧i≤m∧m+j≤n∧vi=.int .i64 i∧vj=.int .i64 j∧Hid (rot s' (m - i) m (m+j)=rot s a m b)∧RowAt wr g 150 (rowC D s' n++sp)∧Srt g w wr) (fun i j _=>(intOf i).toNat+(intOf j).toNat)
 case atStart=>exact⟨m - a,b - m,s,by omega,by omega,by omega,by omega,by congr 1;omega,by congr 1;omega,by show _=_;rw[show m - (m - a)=a by omega,show m+(b - m)=b by omega],HR.out,Srt.refl _ _⟩
 case round =>
  obtain⟨i,j,s',hi,hj,him,hjn,rfl,rfl,HQ,hr,hs⟩:=hrel
  have HX:=Lib.hid hr
  have HS:=Lib.hid hs
  clear hr hs
  have q1:IntKind.i64.wrap ((m:Int) - (i:Int))=(m:Int) - (i:Int):=by rw[IntKind.wrap_i64];omega
  rcases Nat.lt_trichotomy i j with hlt|heq|hgt
  ·have hne:((i:Int) == (j:Int))=false:=by simp;omega
   have hg:¬ (j:Int)<(i:Int):=by omega
   have q2:IntKind.i64.wrap ((m:Int)+(j:Int))=(m:Int)+(j:Int):=by rw[IntKind.wrap_i64];omega
   have q3:IntKind.i64.wrap ((m:Int)+(j:Int) - (i:Int))=(m:Int)+(j:Int) - (i:Int):=by rw[IntKind.wrap_i64];omega
   have q4:IntKind.i64.wrap ((j:Int) - (i:Int))=(j:Int) - (i:Int):=by rw[IntKind.wrap_i64];omega
   have HC:=Lib.hid (swapRange_any g c n D s' sp (m - i) (m+j - i) i wr HX.out (Or.inr (by omega)) (by omega) (by omega) hn)
   rw[show((m - i:Nat):Int)=(m:Int) - (i:Int) by omega,show((m+j - i:Nat):Int)=(m:Int)+(j:Int) - (i:Int) by omega] at HC
   go_wp2_with fail
   refine(HC.out).mono ?_
   rintro e w1 ⟨rfl,hr,hs⟩
   have HX1:=Lib.hid hr
   have HS1:=Lib.hid (HS.out.trans hs)
   clear hr hs HC
   go_wp2
   go_roundw
   case rel=>exact⟨i,j - i,_,by omega,by omega,by omega,by omega,rfl,by congr 1;omega,by show _=_;rw[← HQ.out,rot_lt s' m i j hlt him],HX1.out,HS1.out⟩
   case measure=>simp[intOf];omega
  ·subst heq
   have hne:((i:Int) == (i:Int))=true:=by simp
   have HC:=Lib.hid (swapRange_any g c n D s' sp (m - i) m i wr HX.out (Or.inr (by omega)) (by omega) (by omega) hn)
   rw[show((m - i:Nat):Int)=(m:Int) - (i:Int) by omega] at HC
   go_wp2_with fail
   refine(HC.out).mono ?_
   rintro e w1 ⟨rfl,hr,hs⟩
   have HX1:=Lib.hid hr
   have HS1:=Lib.hid (HS.out.trans hs)
   clear hr hs HC
   go_wp2
   refine bodyPost_end (results_none rfl _ _ _) rfl ?_
   refine⟨rfl,?_,HS1.out⟩
   rw[← HQ.out,rot_eq s' m i him]
   exact HX1.out
  ·have hne:((i:Int) == (j:Int))=false:=by simp;omega
   have hg:(j:Int)<(i:Int):=by omega
   have q4:IntKind.i64.wrap ((i:Int) - (j:Int))=(i:Int) - (j:Int):=by rw[IntKind.wrap_i64];omega
   have HC:=Lib.hid (swapRange_any g c n D s' sp (m - i) m j wr HX.out (Or.inr (by omega)) (by omega) (by omega) hn)
   rw[show((m - i:Nat):Int)=(m:Int) - (i:Int) by omega] at HC
   go_wp2_with fail
   refine(HC.out).mono ?_
   rintro e w1 ⟨rfl,hr,hs⟩
   have HX1:=Lib.hid hr
   have HS1:=Lib.hid (HS.out.trans hs)
   clear hr hs HC
   go_wp2
   go_roundw
   case rel=>exact⟨i - j,j,_,by omega,by omega,by omega,by omega,by congr 1;omega,rfl,by show _=_;rw[← HQ.out,rot_gt s' m i j hgt him],HX1.out,HS1.out⟩
   case measure=>simp[intOf];omega
def CmpD (D:Nat→CV) (cf:Nat→Nat→Int):Prop:=∀ (i j:Nat) (W:World),Calls Tryz.prog 168 #[.agg #[.int .i64 (D i).s,.slice (D i).q (D i).n (D i).c,.int .i64 (D i).k],.agg #[.int .i64 (D j).s,.slice (D j).q (D j).n (D j).c,.int .i64 (D j).k]] W fun e w'=>e=.returned (.int .i64 (cf i j))∧Fresh W w'
abbrev ltO (cf:Nat→Nat→Int) (i j:Nat):Bool:=decide (cf i j<0)
set_option maxHeartbeats 4000000 in
set_option maxRecDepth 100000 in
theorem symLeft_any (g c n:Nat) (D:Nat→CV) (cf:Nat→Nat→Int) (hw:Swo (ltO cf)) (hc:CmpD D cf) (sp:List Value) (s:Nat→Nat) (a m b:Nat) (w:World) (h:RowAt w g 150 (rowC D s n++sp)) (ham:m=a+1) (hmb:m<b) (hbn:b≤n) (hn:n≤1048576) (hB:Sg (ltO cf) s (a+1) b) (hx:Cx s a (a+1) b) :
  Calls Tryz.prog 218 #[.slice (some ⟨g,0,none⟩) n c,.int .i64 (a:Int),.int .i64 (m:Int),.int .i64 (b:Int),.func (.func 168) #[] #[]] w fun e w'=>e=.returned (.tuple #[])∧∃ s',RowAt w' g 150 (rowC D s' n++sp)∧PI a b s s'∧Sg (ltO cf) s' a b∧Srt g w w':=by
 have HR:=Lib.hid h
 have HC:=Lib.hid hc
 have HB:=Lib.hid hB
 have HX:=Lib.hid hx
 have HW:=Lib.hid hw
 clear h hc hB hx hw
 subst ham
 have k1:IntKind.i64.wrap (((a+1:Nat):Int) - (a:Int))=1:=by rw[IntKind.wrap_i64] <;> omega
 go_enter Tryz.func218,Tryz.ntmps218
 go_wp2
 clear k1
 go_loopw [10,11] (fun vi vj wr=>∃ i j:Nat,a+1≤i∧i≤j∧j≤b∧vi=.int .i64 i∧vj=.int .i64 j∧Hid ((i=a+1∨ltO cf (s (i - 1)) (s a)=true)∧(j=b∨ltO cf (s j) (s a)=false))∧Fresh w wr) (fun i j _=>(intOf j).toNat - (intOf i).toNat)
 case atStart=>exact⟨a+1,b,Nat.le_refl _,by omega,Nat.le_refl _,by go_num,rfl,⟨Or.inl rfl,Or.inl rfl⟩,frefl _⟩
 case round =>
  obtain⟨i,j,hi,hij,hj,rfl,rfl,HI,hf⟩:=hrel
  by_cases hlt:i<j
  ·have hltz:(i:Int)<(j:Int):=by omega
   obtain⟨h,hh⟩:∃ h,h=(i+j) / 2:=⟨_,rfl⟩
   have hih:i≤h:=by omega
   have hhj:h<j:=by omega
   have q1:IntKind.i64.wrap ((i:Int)+(j:Int))=(i:Int)+(j:Int):=by rw[IntKind.wrap_i64] <;> omega
   have q2:IntKind.u64.wrap ((i:Int)+(j:Int))=(i:Int)+(j:Int):=by rw[IntKind.wrap_u64] <;> omega
   have q3:((i:Int)+(j:Int)) / 2=(h:Int):=by omega
   have q4:IntKind.i64.wrap (h:Int)=(h:Int):=by rw[IntKind.wrap_i64] <;> omega
   have q5:IntKind.i64.wrap ((h:Int)+1)=(h:Int)+1:=by rw[IntKind.wrap_i64] <;> omega
   have hz1:(h:Int)<(n:Int):=by omega
   have hz2:(a:Int)<(n:Int):=by omega
   have hr:=HR.out.keep hf
   obtain⟨x0,x1,x2⟩:=rowC_cells hr (show h<n by omega)
   obtain⟨y0,y1,y2⟩:=rowC_cells hr (show a<n by omega)
   have HF:=Lib.hid hf
   have HCC:=Lib.hid (HC.out (s h) (s a))
   obtain⟨x,hx⟩:∃ x,x=D (s h):=⟨_,rfl⟩
   obtain⟨y,hy⟩:∃ y,y=D (s a):=⟨_,rfl⟩
   rw[← hx] at x0 x1 x2 HCC
   rw[← hy] at y0 y1 y2 HCC
   clear hx hy hr hf hh
   obtain⟨xs,xq,xn,xc,xk⟩:=x
   obtain⟨ys,yq,yn,yc,yk⟩:=y
   simp only at x0 x1 x2 y0 y1 y2 HCC
   have x0w:=fun xa:After wr=>akeep x0 xa
   have x1w:=fun xa:After wr=>akeep x1 xa
   have x2w:=fun xa:After wr=>akeep x2 xa
   have y0w:=fun xa:After wr=>akeep y0 xa
   have y1w:=fun xa:After wr=>akeep y1 xa
   have y2w:=fun xa:After wr=>akeep y2 xa
   go_wp2
   refine wp_region_after (by kernel_rfl) (by kernel_rfl) ?_
   repeat (go_big_quiet_step (first|(go_at_call 168;exact after_call (HCC.out _))))
   refine wpQuiet_nil ?_
   rintro _ ⟨xa,rfl⟩
   have hxa:=xa.h
   clear x0w x1w x2w y0w y1w y2w x0 x1 x2 y0 y1 y2 HCC q1 q2 q3 q4
   obtain⟨W5,hW5⟩:∃ W,W=xa.w':=⟨_,rfl⟩
   rw[← hW5] at hxa ⊢
   have HF5:=Lib.hid (fstep HF.out hxa)
   clear hxa hW5
   cases hv:ltO cf (s h) (s a)
   ·have hg:¬ cf (s h) (s a)<0:=by simpa using hv
    have HV:=Lib.hid hv
    clear hv
    go_wp2
    go_roundw
    case rel=>exact⟨i,h,by omega,by omega,by omega,rfl,rfl,⟨HI.out.1,Or.inr HV.out⟩,HF5.out⟩
    case measure=>simp[intOf];omega
   ·have hg:cf (s h) (s a)<0:=by simpa using hv
    have HV:=Lib.hid hv
    clear hv
    go_wp2
    go_roundw
    case rel=>exact⟨h+1,j,by omega,by omega,by omega,by go_num,rfl,⟨Or.inr HV.out,HI.out.2⟩,HF5.out⟩
    case measure=>simp[intOf];omega
  ·have hji:i=j:=by omega
   subst hji
   have hltz:¬ (i:Int)<(i:Int):=by omega
   have HF:=Lib.hid hf
   have q1:IntKind.i64.wrap ((i:Int) - 1)=(i:Int) - 1:=by rw[IntKind.wrap_i64] <;> omega
   clear hf
   go_wp2
   go_loopw [13] (fun vk wr2=>∃ k:Nat,a≤k∧k+1≤i∧vk=.int .i64 k∧RowAt wr2 g 150 (rowC D (rot s a (a+1) (k+1)) n++sp)∧Srt g w wr2) (fun k _=>i - (intOf k).toNat)
   case atStart=>exact⟨a,Nat.le_refl _,hi,rfl,by rw[rot_id2 s a (a+1) (by omega)];exact HR.out.keep HF.out,Srt.fresh HF.out⟩
   case round =>
    obtain⟨k,hak,hki,rfl,hr,hs⟩:=hrel
    by_cases hlt:k<i - 1
    ·have hltz2:(k:Int)<(i:Int) - 1:=by omega
     have hAn:k<n:=by omega
     have hBn:k+1<n:=by omega
     have hAB:k≠k+1:=by omega
     have w1:IntKind.i64.wrap ((k:Int)+1)=(k:Int)+1:=by rw[IntKind.wrap_i64] <;> omega
     have zA:(k:Int)<(n:Int):=by omega
     have zB:(k:Int)+1<(n:Int):=by omega
     obtain⟨s2,hs2⟩:∃ s2,s2=rot s a (a+1) (k+1):=⟨_,rfl⟩
     have HS2:Hid (sw1 s2 k (k+1)=rot s a (a+1) (k+2)):=by show _=_;rw[hs2];exact rot_up s a k hak
     rw[← hs2] at hr
     clear hs2
     obtain⟨x0,x1,x2⟩:=rowC_cells hr hAn
     obtain⟨y0,y1,y2⟩:=rowC_cells hr hBn
     have f0:=hr.frozen (k * 3)
     have f1:=hr.frozen (k * 3+1)
     have f2:=hr.frozen (k * 3+2)
     have g0:=hr.frozen ((k+1) * 3)
     have g1:=hr.frozen ((k+1) * 3+1)
     have g2:=hr.frozen ((k+1) * 3+2)
     have hsw:Hid (RowAt (swW wr g k (k+1) (D (s2 (k+1))) (D (s2 k))).drew g 150 (rowC D (rot s a (a+1) (k+2)) n++sp)):=by
      show RowAt _ _ _ _
      rw[← HS2.out]
      exact(row_sw hr hAn hBn).keep (fdrew (frefl _))
     have hss:Hid (Srt g w (swW wr g k (k+1) (D (s2 (k+1))) (D (s2 k))).drew):=((hs.sw _ _ _ _).trans (Srt.fresh (fdrew (frefl _))))
     obtain⟨x,hx⟩:∃ x,x=D (s2 k):=⟨_,rfl⟩
     obtain⟨y,hy⟩:∃ y,y=D (s2 (k+1)):=⟨_,rfl⟩
     rw[← hx] at x0 x1 x2
     rw[← hy] at y0 y1 y2
     rw[← hx,← hy] at hsw hss
     clear hx hy hr hs
     obtain⟨xs,xq,xn,xc,xk⟩:=x
     obtain⟨ys,yq,yn,yc,yk⟩:=y
     unfold swW at hsw hss
     simp only at x0 x1 x2 y0 y1 y2 hsw hss
     go_wp2_with fail
     go_big_region
     go_wp2
     go_roundw
     case rel=>exact⟨k+1,by omega,by omega,by go_num,hsw.out,hss.out⟩
     case measure=>simp[intOf];omega
    ·have hki2:k+1=i:=by omega
     have hltz2:¬ (k:Int)<(i:Int) - 1:=by omega
     have HFIN:=Lib.hid (And.intro hr hs)
     clear hr hs
     go_wp2
     refine bodyPost_ret (results_none rfl _ _ _) rfl ?_
     rw[hki2] at HFIN
     exact⟨rfl,_,HFIN.out.1,(rot_pi s a (a+1) i ⟨by omega,hi⟩).wide (Nat.le_refl _) hj,rot_one HW.out ⟨hi,hj⟩ HB.out HX.out HI.out.2 HI.out.1,HFIN.out.2⟩
set_option maxHeartbeats 4000000 in
set_option maxRecDepth 100000 in
theorem symRight_any (g c n:Nat) (D:Nat→CV) (cf:Nat→Nat→Int) (hw:Swo (ltO cf)) (hc:CmpD D cf) (sp:List Value) (s:Nat→Nat) (a m b:Nat) (w:World) (h:RowAt w g 150 (rowC D s n++sp)) (ham:a+1<m) (hmb:b=m+1) (hbn:b≤n) (hn:n≤1048576) (hB:Sg (ltO cf) s a m) (hx:Cx s a m (m+1)) :
  Calls Tryz.prog 218 #[.slice (some ⟨g,0,none⟩) n c,.int .i64 (a:Int),.int .i64 (m:Int),.int .i64 (b:Int),.func (.func 168) #[] #[]] w fun e w'=>e=.returned (.tuple #[])∧∃ s',RowAt w' g 150 (rowC D s' n++sp)∧PI a b s s'∧Sg (ltO cf) s' a b∧Srt g w w':=by
 have HR:=Lib.hid h
 have HC:=Lib.hid hc
 have HB:=Lib.hid hB
 have HX:=Lib.hid hx
 have HW:=Lib.hid hw
 clear h hc hB hx hw
 have HMB:=Lib.hid hmb
 have hmn:m+1≤n:=by omega
 have k3:IntKind.i64.wrap ((b:Int) - (m:Int))=1:=by rw[IntKind.wrap_i64] <;> omega
 clear hmb hbn
 have k1:IntKind.i64.wrap ((m:Int) - (a:Int))=(m:Int) - (a:Int):=by rw[IntKind.wrap_i64] <;> omega
 have k2:((m:Int) - (a:Int) == 1)=false:=by simp;omega
 go_enter Tryz.func218,Tryz.ntmps218
 go_wp2
 clear k1 k2 k3
 go_loopw [14,15] (fun vi vj wr=>∃ i j:Nat,a≤i∧i≤j∧j≤m∧vi=.int .i64 i∧vj=.int .i64 j∧Hid ((i=a∨ltO cf (s m) (s (i - 1))=false)∧(j=m∨ltO cf (s m) (s j)=true))∧Fresh w wr) (fun i j _=>(intOf j).toNat - (intOf i).toNat)
 case atStart=>exact⟨a,m,Nat.le_refl _,by omega,Nat.le_refl _,rfl,rfl,⟨Or.inl rfl,Or.inl rfl⟩,frefl _⟩
 case round =>
  obtain⟨i,j,hi,hij,hj,rfl,rfl,HI,hf⟩:=hrel
  by_cases hlt:i<j
  ·have hltz:(i:Int)<(j:Int):=by omega
   obtain⟨h,hh⟩:∃ h,h=(i+j) / 2:=⟨_,rfl⟩
   have hih:i≤h:=by omega
   have hhj:h<j:=by omega
   have q1:IntKind.i64.wrap ((i:Int)+(j:Int))=(i:Int)+(j:Int):=by rw[IntKind.wrap_i64] <;> omega
   have q2:IntKind.u64.wrap ((i:Int)+(j:Int))=(i:Int)+(j:Int):=by rw[IntKind.wrap_u64] <;> omega
   have q3:((i:Int)+(j:Int)) / 2=(h:Int):=by omega
   have q4:IntKind.i64.wrap (h:Int)=(h:Int):=by rw[IntKind.wrap_i64] <;> omega
   have q5:IntKind.i64.wrap ((h:Int)+1)=(h:Int)+1:=by rw[IntKind.wrap_i64] <;> omega
   have hz1:(h:Int)<(n:Int):=by omega
   have hz2:(m:Int)<(n:Int):=by omega
   have hr:=HR.out.keep hf
   obtain⟨x0,x1,x2⟩:=rowC_cells hr (show h<n by omega)
   obtain⟨y0,y1,y2⟩:=rowC_cells hr (show m<n by omega)
   have HF:=Lib.hid hf
   have HCC:=Lib.hid (HC.out (s m) (s h))
   obtain⟨x,hx⟩:∃ x,x=D (s h):=⟨_,rfl⟩
   obtain⟨y,hy⟩:∃ y,y=D (s m):=⟨_,rfl⟩
   rw[← hx] at x0 x1 x2 HCC
   rw[← hy] at y0 y1 y2 HCC
   clear hx hy hr hf hh
   obtain⟨xs,xq,xn,xc,xk⟩:=x
   obtain⟨ys,yq,yn,yc,yk⟩:=y
   simp only at x0 x1 x2 y0 y1 y2 HCC
   have x0w:=fun xa:After wr=>akeep x0 xa
   have x1w:=fun xa:After wr=>akeep x1 xa
   have x2w:=fun xa:After wr=>akeep x2 xa
   have y0w:=fun xa:After wr=>akeep y0 xa
   have y1w:=fun xa:After wr=>akeep y1 xa
   have y2w:=fun xa:After wr=>akeep y2 xa
   obtain⟨cv,hcv⟩:∃ v,v=cf (s m) (s h):=⟨_,rfl⟩
   rw[← hcv] at HCC
   cases hv:ltO cf (s m) (s h)
   ·have hg:¬ cv<0:=by rw[hcv];simpa using hv
    have HV:=Lib.hid hv
    clear hv hcv
    go_wp2
    refine wp_region_after (by kernel_rfl) (by kernel_rfl) ?_
    repeat (go_big_quiet_step (first|(go_at_call 168;exact after_call (HCC.out _))))
    refine wpQuiet_nil ?_
    rintro _ ⟨xa,rfl⟩
    have hxa:=xa.h
    clear x0w x1w x2w y0w y1w y2w x0 x1 x2 y0 y1 y2 HCC q1 q2 q3 q4
    obtain⟨W5,hW5⟩:∃ W,W=xa.w':=⟨_,rfl⟩
    rw[← hW5] at hxa ⊢
    have HF5:=Lib.hid (fstep HF.out hxa)
    clear hxa hW5
    have hgn:(!decide (cv<0))=true:=by simp;omega
    try rw[hgn]
    clear hgn hg
    go_wp2
    go_roundw
    case rel=>exact⟨h+1,j,by omega,by omega,by omega,by go_num,rfl,⟨Or.inr HV.out,HI.out.2⟩,HF5.out⟩
    case measure=>simp[intOf];omega
   ·have hg:cv<0:=by rw[hcv];simpa using hv
    have HV:=Lib.hid hv
    clear hv hcv
    go_wp2
    refine wp_region_after (by kernel_rfl) (by kernel_rfl) ?_
    repeat (go_big_quiet_step (first|(go_at_call 168;exact after_call (HCC.out _))))
    refine wpQuiet_nil ?_
    rintro _ ⟨xa,rfl⟩
    have hxa:=xa.h
    clear x0w x1w x2w y0w y1w y2w x0 x1 x2 y0 y1 y2 HCC q1 q2 q3 q4
    obtain⟨W5,hW5⟩:∃ W,W=xa.w':=⟨_,rfl⟩
    rw[← hW5] at hxa ⊢
    have HF5:=Lib.hid (fstep HF.out hxa)
    clear hxa hW5
    have hgn:(!decide (cv<0))=false:=by simp;omega
    try rw[hgn]
    clear hgn hg
    go_wp2
    go_roundw
    case rel=>exact⟨i,h,by omega,by omega,by omega,rfl,rfl,⟨HI.out.1,Or.inr HV.out⟩,HF5.out⟩
    case measure=>simp[intOf];omega
  ·have hji:i=j:=by omega
   subst hji
   have hltz:¬ (i:Int)<(i:Int):=by omega
   have HF:=Lib.hid hf
   clear hf
   go_wp2
   go_loopw [17] (fun vk wr2=>∃ k:Nat,i≤k∧k≤m∧vk=.int .i64 k∧RowAt wr2 g 150 (rowC D (rot s k m (m+1)) n++sp)∧Srt g w wr2) (fun k _=>(intOf k).toNat)
   case atStart=>exact⟨m,hj,Nat.le_refl _,rfl,by rw[rot_id1 s m (m+1)];exact HR.out.keep HF.out,Srt.fresh HF.out⟩
   case round =>
    obtain⟨k,hik,hkm,rfl,hr,hs⟩:=hrel
    by_cases hlt:i<k
    ·have hltz2:(i:Int)<(k:Int):=by omega
     obtain⟨kp,hkp⟩:∃ kp,k=kp+1:=⟨k - 1,by omega⟩
     have hAn:k<n:=by omega
     have hBn:kp<n:=by omega
     have hAB:k≠kp:=by omega
     have hBA:kp≠k:=by omega
     have w1:IntKind.i64.wrap ((k:Int) - 1)=(k:Int) - 1:=by rw[IntKind.wrap_i64] <;> omega
     have e1:((k:Int) - 1).toNat=kp:=by omega
     have p1:(0:Int)≤(k:Int) - 1:=by omega
     have zA:(k:Int)<(n:Int):=by omega
     have zB:(k:Int) - 1<(n:Int):=by omega
     obtain⟨s2,hs2⟩:∃ s2,s2=rot s k m (m+1):=⟨_,rfl⟩
     have HS2:Hid (sw1 s2 k kp=rot s kp m (m+1)):=by show _=_;rw[hs2,hkp];exact rot_dn s m kp (by omega)
     have HKP:=Lib.hid hkp
     rw[← hs2] at hr
     clear hs2 hkp
     obtain⟨x0,x1,x2⟩:=rowC_cells hr hAn
     obtain⟨y0,y1,y2⟩:=rowC_cells hr hBn
     have f0:=hr.frozen (k * 3)
     have f1:=hr.frozen (k * 3+1)
     have f2:=hr.frozen (k * 3+2)
     have g0:=hr.frozen (kp * 3)
     have g1:=hr.frozen (kp * 3+1)
     have g2:=hr.frozen (kp * 3+2)
     have hsw:Hid (RowAt (swW wr g k kp (D (s2 kp)) (D (s2 k))).drew g 150 (rowC D (rot s kp m (m+1)) n++sp)):=by
      show RowAt _ _ _ _
      rw[← HS2.out]
      exact(row_sw hr hAn hBn).keep (fdrew (frefl _))
     have hss:Hid (Srt g w (swW wr g k kp (D (s2 kp)) (D (s2 k))).drew):=((hs.sw _ _ _ _).trans (Srt.fresh (fdrew (frefl _))))
     obtain⟨x,hx⟩:∃ x,x=D (s2 k):=⟨_,rfl⟩
     obtain⟨y,hy⟩:∃ y,y=D (s2 kp):=⟨_,rfl⟩
     rw[← hx] at x0 x1 x2
     rw[← hy] at y0 y1 y2
     rw[← hx,← hy] at hsw hss
     clear hx hy hr hs
     obtain⟨xs,xq,xn,xc,xk⟩:=x
     obtain⟨ys,yq,yn,yc,yk⟩:=y
     unfold swW at hsw hss
     simp only at x0 x1 x2 y0 y1 y2 hsw hss
     go_wp2_with fail
     go_big_region
     go_wp2
     go_roundw
     case rel =>
      have hkp9:=HKP.out
      have ez:(k:Int) - 1=(kp:Int):=by omega
      have l1:i≤kp:=by omega
      have l2:kp≤m:=by omega
      exact⟨kp,l1,l2,by rw[ez],hsw.out,hss.out⟩
     case measure=>have:=HKP.out;simp[intOf];omega
    ·have hki2:k=i:=by omega
     subst hki2
     have hltz2:¬ (k:Int)<(k:Int):=by omega
     have HFIN:=Lib.hid (And.intro hr hs)
     clear hr hs
     go_wp2
     refine bodyPost_ret (results_none rfl _ _ _) rfl ?_
     rw[HMB.out]
     exact⟨rfl,_,HFIN.out.1,(rot_pi s k m (m+1) ⟨hj,by omega⟩).wide hi (Nat.le_refl _),rot_last HW.out ⟨hi,hj⟩ HB.out HX.out HI.out.1 HI.out.2,HFIN.out.2⟩
end Go.Proofs.YteckjlkhopkogaaGreat
