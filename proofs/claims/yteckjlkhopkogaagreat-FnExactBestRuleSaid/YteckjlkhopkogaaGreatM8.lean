/- Texts of mine laid together (V3, V4). -/
import Derived.Test.YteckjlkhopkogaaGreatV2
import Derived.BigRegion
import Derived.Deep.DeepCutAuto
import Derived.Test.YteckjlkhopkogaaGreatSt5
import Derived.Test.YteckjlkhopkogaaGreatY7
import Derived.Test.YteckjlkhopkogaaGreatM5
namespace Go.Proofs.YteckjlkhopkogaaGreat
open Go.RowKit Go.PlainAid
def Inc1 (s:Nat→Nat) (a b:Nat):Prop:=∀ i j,a≤i→i<j→j<b→s i<s j
theorem Inc1.cx {s s':Nat→Nat} {a b i:Nat} (h:Inc1 s a b) (hp:PI a i s s') (_hai:a≤i) (hi:i<b):Cx s' a i (i+1):=by
 have h0:Cx s a i (i+1):=fun x y h1 h2 h3 h4=>h x y h1 (by omega) (by omega)
 exact hp.cx h0 (Or.inl ⟨Nat.le_refl _,Nat.le_refl _⟩)
theorem rot_at (s:Nat→Nat) {j i:Nat} (h:j≤i):rot s j i (i+1) j=s i:=by
 rw[rot_lo (by omega)];congr 1;omega
theorem rot_be (s:Nat→Nat) {j i k:Nat} (h:j≤i) (hk:k<j):rot s j i (i+1) k=s k:=rot_out ⟨h,by omega⟩ (by omega)
set_option maxHeartbeats 4000000 in
set_option maxRecDepth 100000 in
theorem insSort_any (g c n:Nat) (D:Nat→CV) (cf:Nat→Nat→Int) (hw:Swo (ltO cf)) (hc:CmpD D cf) (sp:List Value) (s:Nat→Nat) (a b:Nat) (w:World) (h:RowAt w g 150 (rowC D s n++sp)) (hab:a≤b) (hbn:b≤n) (hn:n≤1048576) (hx:Inc1 s a b) :
  Calls Tryz.prog 217 #[.slice (some ⟨g,0,none⟩) n c,.int .i64 (a:Int),.int .i64 (b:Int),.func (.func 168) #[] #[]] w fun e w'=>e=.returned (.tuple #[])∧∃ s',RowAt w' g 150 (rowC D s' n++sp)∧PI a b s s'∧Sg (ltO cf) s' a b∧Srt g w w':=by
 have HR:=Lib.hid h
 have HC:=Lib.hid hc
 have HX:=Lib.hid hx
 have HW:=Lib.hid hw
 clear h hc hx hw
 have k1:IntKind.i64.wrap ((a:Int)+1)=(a:Int)+1:=by rw[IntKind.wrap_i64] <;> omega
 go_enter Tryz.func217,Tryz.ntmps217
 go_wp2
 clear k1
 go_loopw [8] (fun vi wr=>∃ i:Nat,a+1≤i∧(i≤b∨i=a+1)∧vi=.int .i64 i∧∃ s1,RowAt wr g 150 (rowC D s1 n++sp)∧Hid (PI a i s s1∧Sg (ltO cf) s1 a i)∧Srt g w wr) (fun i _=>b - (intOf i).toNat)
 case atStart=>exact⟨a+1,Nat.le_refl _,Or.inr rfl,by go_num,s,HR.out,⟨PI.refl _ _ _,fun i j h1 h2 h3=>by omega⟩,Srt.refl _ _⟩
 case round =>
  obtain⟨i,hi,hib,rfl,s1,hr,HI,hs⟩:=hrel
  by_cases hlt:i<b
  ·have hltz:(i:Int)<(b:Int):=by omega
   have HR1:=Lib.hid hr
   have HS1:=Lib.hid hs
   clear hr hs hib
   go_wp2
   go_loopw [9] (fun vk wr2=>∃ k:Nat,a≤k∧k≤i∧vk=.int .i64 k∧RowAt wr2 g 150 (rowC D (rot s1 k i (i+1)) n++sp)∧Hid (k=i∨ltO cf (s1 i) (s1 k)=true)∧Srt g w wr2) (fun k _=>(intOf k).toNat)
   case atStart=>exact⟨i,by omega,Nat.le_refl _,rfl,by rw[rot_id1 s1 i (i+1)];exact HR1.out,Or.inl rfl,HS1.out⟩
   case round =>
    obtain⟨k,hak,hki,rfl,hr,HK,hs⟩:=hrel
    have w5:IntKind.i64.wrap ((i:Int)+1)=(i:Int)+1:=by rw[IntKind.wrap_i64] <;> omega
    by_cases hak2:a<k
    ·have hakz:(a:Int)<(k:Int):=by omega
     obtain⟨kp,hkp⟩:∃ kp,k=kp+1:=⟨k - 1,by omega⟩
     have hAn:k<n:=by omega
     have hBn:kp<n:=by omega
     have hAB:k≠kp:=by omega
     have hBA:kp≠k:=by omega
     have w1:IntKind.i64.wrap ((k:Int) - 1)=(k:Int) - 1:=by rw[IntKind.wrap_i64] <;> omega
     have e1:((k:Int) - 1).toNat=kp:=by omega
     have p1:(0:Int)≤(k:Int) - 1:=by omega
     have zA:(k:Int)<(n:Int):=by omega
     have zB:(k:Int) - 1<(n:Int):=by omega
     have HS:=Lib.hid hs
     have HR2:=Lib.hid hr
     obtain⟨x0,x1,x2⟩:=rowC_cells hr hAn
     obtain⟨y0,y1,y2⟩:=rowC_cells hr hBn
     rw[rot_at s1 hki] at x0 x1 x2
     rw[rot_be s1 hki (show kp<k by omega)] at y0 y1 y2
     have HCC:=Lib.hid (HC.out (s1 i) (s1 kp))
     obtain⟨x,hx⟩:∃ x,x=D (s1 i):=⟨_,rfl⟩
     obtain⟨y,hy⟩:∃ y,y=D (s1 kp):=⟨_,rfl⟩
     rw[← hx] at x0 x1 x2 HCC
     rw[← hy] at y0 y1 y2 HCC
     clear hr hs
     have HKP:=Lib.hid hkp
     have HXX:=Lib.hid hx
     have HYY:=Lib.hid hy
     clear hkp hx hy
     obtain⟨xs,xq,xn,xc,xk⟩:=x
     obtain⟨ys,yq,yn,yc,yk⟩:=y
     simp only at x0 x1 x2 y0 y1 y2 HCC
     have x0w:=fun xa:After wr=>akeep x0 xa
     have x1w:=fun xa:After wr=>akeep x1 xa
     have x2w:=fun xa:After wr=>akeep x2 xa
     have y0w:=fun xa:After wr=>akeep y0 xa
     have y1w:=fun xa:After wr=>akeep y1 xa
     have y2w:=fun xa:After wr=>akeep y2 xa
     obtain⟨cv,hcv⟩:∃ v,v=cf (s1 i) (s1 kp):=⟨_,rfl⟩
     rw[← hcv] at HCC
     have HCV:=Lib.hid hcv
     clear hcv
     go_wp2
     refine wp_region_after (by kernel_rfl) (by kernel_rfl) ?_
     repeat (go_big_quiet_step (first|(go_at_call 168;exact after_call (HCC.out _))))
     refine wpQuiet_nil ?_
     rintro _ ⟨xa,rfl⟩
     have hxa:=xa.h
     clear x0w x1w x2w y0w y1w y2w x0 x1 x2 y0 y1 y2 HCC
     obtain⟨W5,hW5⟩:∃ W,W=xa.w':=⟨_,rfl⟩
     rw[← hW5] at hxa ⊢
     have hr:=HR2.out.keep hxa
     have hs:=HS.out.trans (Srt.fresh hxa)
     clear hxa hW5
     by_cases hg:cv<0
     ·go_upto_region 6 with fail
      have HV:Hid (ltO cf (s1 i) (s1 kp)=true):=by show _=true;simp;rw[← HCV.out];exact hg
      obtain⟨s2,hs2⟩:∃ s2,s2=rot s1 k i (i+1):=⟨_,rfl⟩
      have HS2:Hid (sw1 s2 k kp=rot s1 kp i (i+1)):=by show _=_;rw[hs2,HKP.out];exact rot_dn s1 i kp (by have:=HKP.out;omega)
      rw[← hs2] at hr
      clear hs2
      obtain⟨x0,x1,x2⟩:=rowC_cells hr hAn
      obtain⟨y0,y1,y2⟩:=rowC_cells hr hBn
      have f0:=hr.frozen (k * 3)
      have f1:=hr.frozen (k * 3+1)
      have f2:=hr.frozen (k * 3+2)
      have g0:=hr.frozen (kp * 3)
      have g1:=hr.frozen (kp * 3+1)
      have g2:=hr.frozen (kp * 3+2)
      have hsw:Hid (RowAt (swW W5 g k kp (D (s2 kp)) (D (s2 k))).drew g 150 (rowC D (rot s1 kp i (i+1)) n++sp)):=by
       show RowAt _ _ _ _
       rw[← HS2.out]
       exact(row_sw hr hAn hBn).keep (fdrew (frefl _))
      have hss:Hid (Srt g w (swW W5 g k kp (D (s2 kp)) (D (s2 k))).drew):=((hs.sw _ _ _ _).trans (Srt.fresh (fdrew (frefl _))))
      obtain⟨x,hx⟩:∃ x,x=D (s2 k):=⟨_,rfl⟩
      obtain⟨y,hy⟩:∃ y,y=D (s2 kp):=⟨_,rfl⟩
      rw[← hx] at x0 x1 x2
      rw[← hy] at y0 y1 y2
      rw[← hx,← hy] at hsw hss
      clear hx hy hr hs
      obtain⟨xs,xq,xn,xc,xk⟩:=x
      obtain⟨ys,yq,yn,yc,yk⟩:=y
      unfold swW at hsw hss
      simp only at x0 x1 x2 y0 y1 y2 hsw hss
      go_big_region
      go_wp2
      go_roundw
      case rel =>
       have hkp9:=HKP.out
       have ez:(k:Int) - 1=(kp:Int):=by omega
       have l1:a≤kp:=by omega
       have l2:kp≤i:=by omega
       exact⟨kp,l1,l2,by rw[ez],hsw.out,Or.inr HV.out,hss.out⟩
      case measure=>have:=HKP.out;simp[intOf];omega
     ·have HV:Hid (ltO cf (s1 i) (s1 (k - 1))=false):=by
       show _=false
       have e2:k - 1=kp:=by have:=HKP.out;omega
       rw[e2];simp;rw[← HCV.out];omega
      have HFIN:=Lib.hid (And.intro hr hs)
      clear hr hs
      go_wp2
      go_roundw
      case rel =>
       refine⟨i+1,by omega,Or.inl (by omega),by go_num,_,HFIN.out.1,⟨?_,?_⟩,HFIN.out.2⟩
       ·exact(HI.out.1.wide (Nat.le_refl _) (by omega)).trans ((rot_pi s1 k i (i+1) ⟨hki,by omega⟩).wide hak (Nat.le_refl _))
       ·exact rot_last HW.out ⟨hak,hki⟩ HI.out.2 (HX.out.cx HI.out.1 (by omega) hlt) (Or.inr HV.out) HK.out
      case measure=>simp[intOf];omega
    ·have hakz:decide (a<k)=false:=by simpa using hak2
     have hka:k=a:=by omega
     clear hak2
     have HFIN:=Lib.hid (And.intro hr hs)
     have HKA:=Lib.hid hka
     clear hr hs hka
     go_wp2
     refine wp_region_after (by kernel_rfl) (by kernel_rfl) ?_
     repeat (go_big_quiet_step (fail))
     refine wpQuiet_nil ?_
     rintro _ ⟨xa,rfl⟩
     have hxa:=xa.h
     obtain⟨W5,hW5⟩:∃ W,W=xa.w':=⟨_,rfl⟩
     rw[← hW5] at hxa ⊢
     have HF5:=Lib.hid hxa
     clear hxa hW5
     go_wp2
     go_roundw
     case rel =>
      refine⟨i+1,by omega,Or.inl (by omega),by go_num,_,HFIN.out.1.keep HF5.out,⟨?_,?_⟩,HFIN.out.2.trans (Srt.fresh HF5.out)⟩
      ·exact(HI.out.1.wide (Nat.le_refl _) (by omega)).trans ((rot_pi s1 k i (i+1) ⟨hki,by omega⟩).wide hak (Nat.le_refl _))
      ·exact rot_last HW.out ⟨hak,hki⟩ HI.out.2 (HX.out.cx HI.out.1 (by omega) hlt) (Or.inl HKA.out) HK.out
     case measure=>simp[intOf];omega
  ·have hltz:¬ (i:Int)<(b:Int):=by omega
   have HFIN:=Lib.hid (And.intro hr hs)
   clear hr hs
   go_wp2
   refine bodyPost_end (results_none rfl _ _ _) rfl ?_
   refine⟨rfl,s1,HFIN.out.1,?_,?_,HFIN.out.2⟩
   ·by_cases hib2:i=b
    ·rw[← hib2];exact HI.out.1
    ·have hba:b=a:=by omega
     have hia:i=a+1:=by omega
     obtain⟨f,g',e1,e2,e3,e4⟩:=HI.out.1
     subst hba
     subst hia
     have hid1:∀ x,f x=x:=by
      intro x
      by_cases hx:b≤x∧x<b+1
      ·have hxb:x=b:=by omega
       subst hxb
       by_cases hy:f x=x
       ·exact hy
       ·have h3:=e3 (f x) (by omega)
        have h4:=e1 (f x)
        rw[h3,e1 x] at h4
        exact(hy h4.symm).elim
      ·exact e3 x hx
     exact⟨f,g',e1,e2,fun x _=>hid1 x,e4⟩
   ·intro x y h1 h2 h3
    exact HI.out.2 x y h1 h2 (by omega)
def Sted (g n:Nat) (D:Nat→CV) (cf:Nat→Nat→Int) (sp:List Value) (w:World) (e:Ending) (w':World):Prop:=e=.returned (.tuple #[])∧RowAt w' g 150 (rowC D (ordS (ltO cf) n) n++sp)∧Srt g w w'
theorem Fst.inc {lt:Nat→Nat→Bool} {s:Nat→Nat} {q n a:Nat} (h:Fst lt s q n a) (b:Nat):Inc1 s a b:=fun i j h1 h2 _=>by rw[h.idy i h1,h.idy j (by omega)];exact h2
theorem Bks.pair {lt:Nat→Nat→Bool} {s:Nat→Nat} {q n a b:Nat} (h:Bks lt s q n a) (ha:a % (2 * q)=0) (hm:a+q<b) (hb:b=min (a+2 * q) n):Sg lt s a (a+q)∧Sg lt s (a+q) b∧Cx s a (a+q) b:=by
 refine⟨?_,?_,?_⟩
 ·have:=h.hi a (mod_two ha) (Nat.le_refl _) (by omega)
  rwa [Nat.min_eq_left (by omega)] at this
 ·have:=h.hi (a+q) (by rw[mod_add];exact mod_two ha) (by omega) (by omega)
  have e:min (a+q+q) n=b:=by omega
  rwa [e] at this
 ·exact(h.cxh (a+q) (by rw[mod_add];exact mod_two ha) (by omega) (by omega)).sub (Nat.zero_le _) (by omega)
set_option maxHeartbeats 8000000 in
set_option maxRecDepth 100000 in
theorem stable_any (g c n:Nat) (D:Nat→CV) (cf:Nat→Nat→Int) (hw:Swo (ltO cf)) (hc:CmpD D cf) (sp:List Value) (w:World) (h:RowAt w g 150 (rowC D id n++sp)) (hn:n≤1048576) :
  Calls Tryz.prog 196 #[.slice (some ⟨g,0,none⟩) n c,.int .i64 (n:Int),.func (.func 168) #[] #[]] w (Sted g n D cf sp w):=by
 have HR:=Lib.hid h
 have HC:=Lib.hid hc
 have HW:=Lib.hid hw
 clear h hc hw
 go_enter Tryz.func196,Tryz.ntmps196
 go_wp2
 go_loopw [7,8] (fun va vb wr=>∃ a b:Nat,a≤n∧Hid (b=a+20∧a % 20=0)∧va=.int .i64 a∧vb=.int .i64 b∧∃ s,RowAt wr g 150 (rowC D s n++sp)∧Hid (Fst (ltO cf) s 20 n a∧PI 0 n id s)∧Srt g w wr) (fun a _ _=>n+1 - (intOf a).toNat)
 case atStart=>exact⟨0,20,Nat.zero_le _,⟨rfl,rfl⟩,rfl,rfl,id,HR.out,⟨Fst.start _ _ _,PI.refl _ _ _⟩,Srt.refl _ _⟩
 case round =>
  obtain⟨a,b,han,HB,rfl,rfl,s,hr,HF,hs⟩:=hrel
  have hb1:=HB.out.1
  by_cases hbn:b≤n
  ·have hbz:(b:Int)≤(n:Int):=by omega
   obtain⟨b2,hb2⟩:∃ b2,b2=b+20:=⟨_,rfl⟩
   have w1:IntKind.i64.wrap ((b:Int)+20)=(b2:Int):=by rw[IntKind.wrap_i64] <;> omega
   have HSO:=Lib.hid (insSort_any g c n D cf HW.out HC.out sp s a b wr hr (by omega) hbn hn (HF.out.1.inc b))
   have HS:=Lib.hid hs
   have HB2:=Lib.hid hb2
   have HB1:=Lib.hid hb1
   have HBN:=Lib.hid hbn
   clear hs hr hb2 hb1 hbn
   go_wp2_with fail
   refine(HSO.out).mono ?_
   rintro e W1 ⟨rfl,s',hr1,hp1,hg1,hs1⟩
   have HR1:=Lib.hid hr1
   have HP1:=Lib.hid hp1
   have HG1:=Lib.hid hg1
   have HS1:=Lib.hid (HS.out.trans hs1)
   clear hr1 hp1 hg1 hs1 HSO
   go_wp2
   go_roundw
   case rel =>
    have l1:=HB1.out
    have l2:=HB2.out
    have l3:=HBN.out
    refine⟨b,b2,l3,⟨l2,?_⟩,rfl,rfl,s',HR1.out,⟨?_,HF.out.2.trans (HP1.out.wide (Nat.zero_le _) l3)⟩,HS1.out⟩
    ·rw[l1,mod_add];exact HB.out.2
    ·rw[l1];exact HF.out.1.step (b:=b) (by omega) HB.out.2 (by omega) HP1.out HG1.out
   case measure=>have l1:=HB1.out;have l3:=HBN.out;simp[intOf];omega
  ·have hbz:¬ (b:Int)≤(n:Int):=by omega
   have HSO:=Lib.hid (insSort_any g c n D cf HW.out HC.out sp s a n wr hr han (Nat.le_refl _) hn (HF.out.1.inc n))
   have HS:=Lib.hid hs
   have HB1:=Lib.hid hb1
   have HBN:=Lib.hid hbn
   clear hs hr hb1 hbn
   go_wp2_with fail
   refine(HSO.out).mono ?_
   rintro e W1 ⟨rfl,s',hr1,hp1,hg1,hs1⟩
   have HBK:Hid (Bks (ltO cf) s' 20 n 0):=by
    show Bks _ _ _ _ _
    have l1:=HB1.out
    have l3:=HBN.out
    exact(HF.out.1.step (b:=n) (by omega) HB.out.2 (by omega) hp1 hg1).done (by omega)
   have HPI:=Lib.hid (HF.out.2.trans (hp1.wide (Nat.zero_le _) (Nat.le_refl _)))
   have HR1:=Lib.hid hr1
   have HS1:=Lib.hid (HS.out.trans hs1)
   clear hr1 hp1 hg1 hs1 HSO HS HF HB HB1 HBN hbz
   go_wp2
   go_loopw [6] (fun vq wr2=>∃ q:Nat,20≤q∧(q=20∨q<2 * n)∧vq=.int .i64 q∧∃ s,RowAt wr2 g 150 (rowC D s n++sp)∧Hid (Bks (ltO cf) s q n 0∧PI 0 n id s)∧Srt g w wr2) (fun q _=>n - (intOf q).toNat)
   case atStart=>exact⟨20,Nat.le_refl _,Or.inl rfl,rfl,s',HR1.out,⟨HBK.out,HPI.out⟩,HS1.out⟩
   case round =>
    obtain⟨q,hq,hq2,rfl,s2,hr2,HQ,hs2⟩:=hrel
    clear HBK HPI HR1 HS1
    by_cases hqn:q<n
    ·have hqz:(q:Int)<(n:Int):=by omega
     obtain⟨q2,hqq⟩:∃ q2,q2=2 * q:=⟨_,rfl⟩
     have w2:IntKind.i64.wrap (2 * (q:Int))=(q2:Int):=by rw[IntKind.wrap_i64] <;> omega
     have w3:IntKind.i64.wrap ((q:Int) * 2)=(q2:Int):=by rw[IntKind.wrap_i64] <;> omega
     have HQQ:=Lib.hid hqq
     have HRR:=Lib.hid hr2
     have HSS:=Lib.hid hs2
     have HQN:=Lib.hid hqn
     have HQ20:=Lib.hid hq
     clear hqq hr2 hs2 hqn hq2 hq
     go_wp2
     go_loopw [7,8] (fun va vb wr3=>∃ a b:Nat,a≤n∧Hid (b=a+2 * q∧a % (2 * q)=0)∧va=.int .i64 a∧vb=.int .i64 b∧∃ s,RowAt wr3 g 150 (rowC D s n++sp)∧Hid (Bks (ltO cf) s q n a∧PI 0 n id s)∧Srt g w wr3) (fun a _ _=>n+1 - (intOf a).toNat)
     case atStart=>exact⟨0,q2,Nat.zero_le _,⟨by rw[HQQ.out];omega,Nat.zero_mod _⟩,rfl,rfl,s2,HRR.out,HQ.out,HSS.out⟩
     case round =>
      obtain⟨a,b,han,HB,rfl,rfl,s,hr,HF,hs⟩:=hrel
      clear HRR HSS
      obtain⟨m,hm⟩:∃ m,m=a+q:=⟨_,rfl⟩
      have w4:IntKind.i64.wrap ((a:Int)+(q:Int))=(m:Int):=by have:=HQN.out;rw[IntKind.wrap_i64] <;> omega
      have hb1:=HB.out.1
      by_cases hbn:b≤n
      ·have hbz:(b:Int)≤(n:Int):=by omega
       obtain⟨b2,hb2⟩:∃ b2,b2=b+2 * q:=⟨_,rfl⟩
       have w5:IntKind.i64.wrap ((b:Int)+(q2:Int))=(b2:Int):=by have:=HQQ.out;have:=HQN.out;rw[IntKind.wrap_i64] <;> omega
       have hq:=HQ20.out
       have hpr:=HF.out.1.pair (b:=b) HB.out.2 (by omega) (by omega)
       rw[← hm] at hpr
       have HSO:=Lib.hid (symMerge_any g c n D cf HW.out HC.out sp hn (b - a) s a m b wr (Nat.le_refl _) hr (by omega) (by omega) hbn hpr.1 hpr.2.1 hpr.2.2)
       have HS:=Lib.hid hs
       have HB2:=Lib.hid hb2
       have HB1:=Lib.hid hb1
       have HBN:=Lib.hid hbn
       have HM:=Lib.hid hm
       clear hs hr hb2 hb1 hbn hpr hm hq
       go_wp2_with fail
       refine(HSO.out).mono ?_
       rintro e W1 ⟨rfl,s',hr1,hp1,hg1,hs1⟩
       have HR1:=Lib.hid hr1
       have HP1:=Lib.hid hp1
       have HG1:=Lib.hid hg1
       have HS1:=Lib.hid (HS.out.trans hs1)
       clear hr1 hp1 hg1 hs1 HSO
       go_wp2
       go_roundw
       case rel =>
        have l1:=HB1.out
        have l2:=HB2.out
        have l3:=HBN.out
        have l4:=HQ20.out
        refine⟨b,b2,l3,⟨l2,?_⟩,rfl,rfl,s',HR1.out,⟨?_,HF.out.2.trans (HP1.out.wide (Nat.zero_le _) l3)⟩,HS1.out⟩
        ·rw[l1,mod_add];exact HB.out.2
        ·rw[l1];exact HF.out.1.step (b:=b) (by omega) HB.out.2 (by omega) han HP1.out HG1.out
       case measure=>have l1:=HB1.out;have l3:=HBN.out;have l4:=HQ20.out;simp[intOf];omega
      ·have hbz:¬ (b:Int)≤(n:Int):=by omega
       have hq:=HQ20.out
       by_cases hmn:m<n
       ·have hmz:(m:Int)<(n:Int):=by omega
        have hpr:=HF.out.1.pair (b:=n) HB.out.2 (by omega) (by omega)
        rw[← hm] at hpr
        have HSO:=Lib.hid (symMerge_any g c n D cf HW.out HC.out sp hn (n - a) s a m n wr (Nat.le_refl _) hr (by omega) hmn (Nat.le_refl _) hpr.1 hpr.2.1 hpr.2.2)
        have HS:=Lib.hid hs
        have HB1:=Lib.hid hb1
        have HBN:=Lib.hid hbn
        have HM:=Lib.hid hm
        clear hs hr hb1 hbn hpr hm hq
        go_wp2_with fail
        refine(HSO.out).mono ?_
        rintro e W1 ⟨rfl,s',hr1,hp1,hg1,hs1⟩
        have HR1:=Lib.hid hr1
        have HP1:=Lib.hid hp1
        have HG1:=Lib.hid hg1
        have HS1:=Lib.hid (HS.out.trans hs1)
        clear hr1 hp1 hg1 hs1 HSO
        go_wp2
        go_roundw
        case rel =>
         have l1:=HB1.out
         have l3:=HBN.out
         have l4:=HQ20.out
         have l5:=HQN.out
         have l6:=HQQ.out
         refine⟨q2,by omega,Or.inr (by omega),rfl,s',HR1.out,⟨?_,HF.out.2.trans (HP1.out.wide (Nat.zero_le _) (Nat.le_refl _))⟩,HS1.out⟩
         rw[l6]
         exact(HF.out.1.step (b:=n) (by omega) HB.out.2 (by omega) han HP1.out HG1.out).next (by omega) (by rw[mod_add];exact HB.out.2) (by omega)
        case measure=>have l4:=HQ20.out;have l5:=HQN.out;have l6:=HQQ.out;simp[intOf];omega
       ·have hmz:¬ (m:Int)<(n:Int):=by omega
        have HFIN:=Lib.hid (And.intro hr hs)
        have HM:=Lib.hid hm
        have HMN:=Lib.hid hmn
        clear hs hr hb1 hbn hm hq hmn
        go_wp2
        go_roundw
        case rel =>
         have l4:=HQ20.out
         have l5:=HQN.out
         have l6:=HQQ.out
         have l7:=HM.out
         have l8:=HMN.out
         refine⟨q2,by omega,Or.inr (by omega),rfl,s,HFIN.out.1,⟨?_,HF.out.2⟩,HFIN.out.2⟩
         rw[l6]
         exact HF.out.1.next (by omega) HB.out.2 (by omega)
        case measure=>have l4:=HQ20.out;have l5:=HQN.out;have l6:=HQQ.out;simp[intOf];omega
    ·have hqz:¬ (q:Int)<(n:Int):=by omega
     have HFIN:=Lib.hid (And.intro hr2 hs2)
     clear hr2 hs2
     go_wp2
     refine bodyPost_end (results_none rfl _ _ _) rfl ?_
     refine⟨rfl,?_,HFIN.out.2⟩
     rw[← rowC_congr (sorted_is HW.out HQ.out.2 (HQ.out.1.all (by omega)))]
     exact HFIN.out.1
theorem sortStable_any (g c n:Nat) (D:Nat→CV) (cf:Nat→Nat→Int) (hw:Swo (ltO cf)) (hc:CmpD D cf) (sp:List Value) (w:World) (h:RowAt w g 150 (rowC D id n++sp)) (hn:n≤1048576) :
  Calls Tryz.prog 167 #[.slice (some ⟨g,0,none⟩) n c,.func (.func 168) #[] #[]] w (Sted g n D cf sp w):=by
 have HS:=Lib.hid (stable_any g c n D cf hw hc sp w h hn)
 clear h hc hw
 go_enter Tryz.func167,Tryz.ntmps167
 go_wp2_with fail
 refine(HS.out).mono ?_
 rintro e W1 ⟨rfl,h1,h2⟩
 have HR:=Lib.hid (And.intro h1 h2)
 clear h1 h2
 go_wp2
 refine bodyPost_end (results_none rfl _ _ _) rfl ?_
 exact⟨rfl,HR.out⟩
abbrev costV (x:CV):Int:=x.k * (x.n:Int)
def CvOk (x:CV):Prop:=0≤x.k∧x.k≤24∧x.n≤1048576
theorem cost_fit {x:CV} (h:CvOk x):0≤costV x∧costV x≤25165824:=by
 obtain⟨h1,h2,h3⟩:=h
 have e1:(x.n:Int)≤1048576:=by omega
 exact⟨Int.mul_nonneg h1 (by omega),Int.le_trans (Int.mul_le_mul h2 e1 (by omega) (by omega)) (by decide)⟩
set_option maxHeartbeats 1000000 in
set_option maxRecDepth 20000 in
theorem cost_any (x:CV) (hx:CvOk x) (w:World) :
  Calls Tryz.prog 169 #[.agg #[.int .i64 x.s,.slice x.q x.n x.c,.int .i64 x.k]] w fun e w'=>e=.returned (.int .i64 (costV x))∧Fresh w w':=by
 have hc:=cost_fit hx
 have w1:IntKind.i64.wrap (x.k * (x.n:Int))=costV x:=by
  show _=x.k * (x.n:Int)
  have hc2:0≤x.k * (x.n:Int)∧x.k * (x.n:Int)≤25165824:=hc
  rw[IntKind.wrap_i64] <;> omega
 obtain⟨s,q,n,c,k⟩:=x
 simp only at w1 hc hx ⊢
 clear hc hx
 obtain⟨W2,hW2⟩:∃ W,W=w.alloc (.cells #[.int .i64 s,.slice q n c,.int .i64 k] 150):=⟨_,rfl⟩
 have r2:RowAt W2 w.heap.size 150 [.int .i64 s,.slice q n c,.int .i64 k]:=by rw[hW2];exact RowAt.new w _ _
 have hf:Fresh w W2:=by rw[hW2];exact fnew (frefl _) _
 have k1:=r2.cell (i:=1) rfl
 have k2:=r2.cell (i:=2) rfl
 have HF:=Lib.hid hf
 have HW2:=Lib.hid hW2
 clear r2 hf hW2
 go_enter Tryz.func169,Tryz.ntmps169
 go_wp2_with fail
 try rw[← HW2.out]
 go_wp2
 refine bodyPost_ret (v:=.int .i64 (costV ⟨s,q,n,c,k⟩)) (by simp[results,Tryz.results169,go_sem]) rfl ?_
 exact⟨rfl,HF.out⟩
def cfV (D:Nat→CV) (i j:Nat):Int:=cmpI (costV (D i)) (costV (D j))
theorem cmpI_neg (a b:Int):cmpI a b<0↔a<b:=by
 unfold cmpI
 split
 ·constructor <;> intro _ <;> omega
 ·split
  ·constructor <;> intro _ <;> omega
  ·constructor <;> intro _ <;> omega
theorem ltO_cfV (D:Nat→CV) (i j:Nat):ltO (cfV D) i j=decide (costV (D i)<costV (D j)):=by
 unfold ltO cfV
 rw[decide_eq_decide]
 exact cmpI_neg _ _
theorem swo_cfV (D:Nat→CV):Swo (ltO (cfV D)):=by
 refine⟨fun i j h=>?_,fun i j k h1 h2=>?_⟩
 ·rw[ltO_cfV] at h ⊢
  have:=of_decide_eq_true h
  exact decide_eq_false (by omega)
 ·rw[ltO_cfV] at h1 h2 ⊢
  have e1:=of_decide_eq_false h1
  have e2:=of_decide_eq_false h2
  exact decide_eq_false (by omega)
set_option maxHeartbeats 2000000 in
set_option maxRecDepth 20000 in
theorem byCostClo_any (D:Nat→CV) (hD:∀ i,CvOk (D i)):CmpD D (cfV D):=by
 intro i j W
 have h1:=hD i
 have h2:=hD j
 show Calls _ _ _ _ fun e w'=>e=.returned (.int .i64 (cmpI (costV (D i)) (costV (D j))))∧Fresh W w'
 generalize D i=x at h1 ⊢
 generalize D j=y at h2 ⊢
 have HCX:=Lib.hid (cost_any x h1)
 have HCY:=Lib.hid (cost_any y h2)
 have HCI:Hid (∀ (a b:Int) (w:World),Calls Tryz.prog 134 #[.int .i64 a,.int .i64 b] w fun e w'=>e=.returned (.int .i64 (cmpI a b))∧Fresh w w'):=fun a b w=>(compare_any a b w).mono fun e w' ⟨q1,q2⟩=>⟨q1,by rw[q2];exact frefl _⟩
 obtain⟨cx,hcx⟩:∃ z,z=costV x:=⟨_,rfl⟩
 obtain⟨cy,hcy⟩:∃ z,z=costV y:=⟨_,rfl⟩
 rw[← hcx,← hcy]
 rw[← hcx] at HCX
 rw[← hcy] at HCY
 clear hcx hcy h1 h2 hD
 obtain⟨xs,xq,xn,xc,xk⟩:=x
 obtain⟨ys,yq,yn,yc,yk⟩:=y
 simp only at HCX HCY ⊢
 obtain⟨W2,hW2,hsz2,hf2,r1,r2⟩:=two_rows W [.int .i64 xs,.slice xq xn xc,.int .i64 xk] [.int .i64 ys,.slice yq yn yc,.int .i64 yk] 150 150
 have x0:=fun xa:After W2=>akeep (r1.cell (i:=0) rfl) xa
 have x1:=fun xa:After W2=>akeep (r1.cell (i:=1) rfl) xa
 have x2:=fun xa:After W2=>akeep (r1.cell (i:=2) rfl) xa
 have y0:=fun xa:After W2=>akeep (r2.cell (i:=0) rfl) xa
 have y1:=fun xa:After W2=>akeep (r2.cell (i:=1) rfl) xa
 have y2:=fun xa:After W2=>akeep (r2.cell (i:=2) rfl) xa
 have HF2:=Lib.hid hf2
 have HW2:=Lib.hid hW2
 clear hW2 hf2 r1 r2
 go_enter Tryz.func168,Tryz.ntmps168
 go_wp2
 rw[← HW2.out]
 refine wp_region_after (by kernel_rfl) (by kernel_rfl) ?_
 repeat (go_big_quiet_step ((first|(go_at_call 169;(first|with_reducible exact after_call (HCX.out _)|with_reducible exact after_call (HCY.out _)))|(go_at_call 134;exact after_call (HCI.out _ _ _)))))
 refine wpQuiet_nil ?_
 rintro _ ⟨xa,rfl⟩
 have HXA:=Lib.hid xa.h
 clear x0 x1 x2 y0 y1 y2
 go_wp2
 refine bodyPost_ret (v:=.int .i64 (cmpI cx cy)) (by simp[results,Tryz.results168,go_sem]) rfl ?_
 exact⟨rfl,fstep HF2.out HXA.out⟩
def ordL {α:Type} (K:α→Int) (d:α) (l:List α):List α:=(List.range l.length).map fun i=>l.getD (ordS (fun i j=>decide (K (l.getD i d)<K (l.getD j d))) l.length i) d
theorem ordL_len {α:Type} (K:α→Int) (d:α) (l:List α):(ordL K d l).length=l.length:=by simp[ordL]
theorem ordS_lt (lt:Nat→Nat→Bool) {n i:Nat} (h:i<n):ordS lt n i<n:=(ordS_pi lt n).range.1 i h
theorem ordL_get {α:Type} (K:α→Int) (d:α) (l:List α) {i:Nat} (h:i<l.length):(ordL K d l)[i]?=l[ordS (fun i j=>decide (K (l.getD i d)<K (l.getD j d))) l.length i]?:=by
 have h2:=ordS_lt (fun i j=>decide (K (l.getD i d)<K (l.getD j d))) h
 unfold ordL
 rw[List.getElem?_map,List.getElem?_range h]
 simp only[Option.map_some]
 rw[List.getD_eq_getElem?_getD,List.getElem?_eq_getElem h2]
 rfl
theorem ordL_mem {α:Type} {K:α→Int} {d:α} {l:List α} {x:α} (h:x∈ordL K d l):x∈l:=by
 obtain⟨i,hi,rfl⟩:=List.mem_map.1 h
 have hi2:i<l.length:=by simpa using hi
 have h2:=ordS_lt (fun i j=>decide (K (l.getD i d)<K (l.getD j d))) hi2
 rw[List.getD_eq_getElem?_getD,List.getElem?_eq_getElem h2]
 exact List.getElem_mem h2
theorem ordL_map {α β:Type} (K:α→Int) (d:α) (K':β→Int) (f:α→β) (h:∀ x,K' (f x)=K x) (l:List α):(ordL K d l).map f=ordL K' (f d) (l.map f):=by
 have e:∀ i,(l.map f).getD i (f d)=f (l.getD i d):=by
  intro i
  simp only[List.getD_eq_getElem?_getD,List.getElem?_map]
  cases l[i]? <;> rfl
 unfold ordL
 rw[List.map_map,List.length_map]
 apply List.map_congr_left
 intro i _
 show f _=_
 simp only[e,h]
def dCH:CH:=⟨⟨0,none,0,[]⟩,0⟩
def toCV (x:CH):CV:=⟨x.r.start,x.r.q,x.r.fibs.length,x.r.cap,x.k⟩
def dOf (l:List CH) (i:Nat):CV:=toCV (l.getD i dCH)
def kCH (x:CH):Int:=x.k * (x.r.fibs.length:Int)
def kCV (x:ChV):Int:=x.2 * (x.1.2.length:Int)
def ordH (l:List CH):List CH:=ordL kCH dCH l
def ordV (l:List ChV):List ChV:=ordL kCV ((0,[]),0) l
theorem ordH_val (l:List CH):(ordH l).map CH.val=ordV (l.map CH.val):=ordL_map kCH dCH kCV CH.val (fun _=>rfl) l
theorem ordH_len (l:List CH):(ordH l).length=l.length:=ordL_len _ _ _
theorem ordV_len (l:List ChV):(ordV l).length=l.length:=ordL_len _ _ _
theorem lt_is (l:List CH):ltO (cfV (dOf l))=fun i j=>decide (kCH (l.getD i dCH)<kCH (l.getD j dCH)):=by
 funext i j
 exact ltO_cfV _ _ _
theorem rowC_ord (l:List CH):rowC (dOf l) (ordS (ltO (cfV (dOf l))) l.length) l.length=(ordH l).flatMap chC:=by
 unfold rowC ordH ordL
 rw[List.flatMap_map,lt_is]
 rfl
theorem rowC_id (l:List CH):rowC (dOf l) id l.length=l.flatMap chC:=by
 have e:(List.range l.length).map (fun i=>l.getD i dCH)=l:=by
  apply List.ext_getElem?
  intro i
  rw[List.getElem?_map]
  rcases Nat.lt_or_ge i l.length with h|h
  ·rw[List.getElem?_range h,List.getElem?_eq_getElem h]
   simp only[Option.map_some]
   rw[List.getD_eq_getElem?_getD,List.getElem?_eq_getElem h];rfl
  ·rw[List.getElem?_eq_none (by simpa using h),List.getElem?_eq_none h];rfl
 have e2:=congrArg (List.flatMap chC) e
 rw[List.flatMap_map] at e2
 exact e2
theorem row_ownsC {w:World} {base size n g cap:Nat} {E:TypeId} {xs sp:List Value} (hb:base≤g) (hr:RowAt w g E (xs++sp)) (hn:n≤cap) (hc:cap≤maxLen) (hl:(xs++sp).length=cap * size) (hx:xs.length=n * size):w.ownsRow base E size (.slice (some ⟨g,0,none⟩) n cap) n xs :=
 ⟨hx,Or.inr ⟨g,cap,(xs++sp).toArray,rfl,hb,hr,hn,hc,by simpa using hl,by simp[← hx]⟩⟩
theorem owns_rowC {w:World} {base size n cap:Nat} {E:TypeId} {p:Option Addr} {xs:List Value} (h:w.ownsRow base E size (.slice p n cap) n xs) (hn:0<n):∃ g sp,p=some ⟨g,0,none⟩∧base≤g∧RowAt w g E (xs++sp)∧n≤cap∧cap≤maxLen∧(xs++sp).length=cap * size:=by
 obtain⟨h1,⟨_,h2⟩|⟨g,c2,cur,hv,hb,hh,h3,h4,h5,h6⟩⟩:=h
 ·omega
 ·cases hv
  have e:cur.toList=xs++cur.toList.drop (n * size):=by rw[← h6,List.take_append_drop]
  refine⟨g,cur.toList.drop (n * size),rfl,hb,?_,h3,h4,?_⟩
  ·unfold RowAt;rw[hh,← e]
  ·rw[← e];simpa using h5
theorem DistR.ord {l:List CH} (h:DistR (l.map CH.r)):DistR ((ordH l).map CH.r):=by
 obtain⟨_,hinj,_⟩:=(ordS_pi (fun i j=>decide (kCH (l.getD i dCH)<kCH (l.getD j dCH))) l.length).range
 intro i j x y hij hx hy g o g' o' e1 e2
 rw[List.getElem?_map] at hx hy
 obtain⟨x',hx',rfl⟩:=Option.map_eq_some_iff.1 hx
 obtain⟨y',hy',rfl⟩:=Option.map_eq_some_iff.1 hy
 have hi:i<l.length:=by
  have:=(List.getElem?_eq_some_iff.1 hx').1
  rwa [ordH_len] at this
 have hj:j<l.length:=by
  have:=(List.getElem?_eq_some_iff.1 hy').1
  rwa [ordH_len] at this
 have gx:=(ordL_get kCH dCH l hi).symm.trans hx'
 have gy:=(ordL_get kCH dCH l hj).symm.trans hy'
 have hne:ordS (fun i j=>decide (kCH (l.getD i dCH)<kCH (l.getD j dCH))) l.length i≠ordS (fun i j=>decide (kCH (l.getD i dCH)<kCH (l.getD j dCH))) l.length j:=fun e=>by
  have:=hinj i j e;omega
 exact h _ _ x'.r y'.r hne (by rw[List.getElem?_map,gx];rfl) (by rw[List.getElem?_map,gy];rfl) g o g' o' e1 e2
set_option maxHeartbeats 2000000 in
set_option maxRecDepth 20000 in
theorem byCost_any (w0:World) (p:Option Addr) (c:Nat) (l:List CH) (w:World) (h:Chs w w0.heap.size (.slice p l.length c) l) (hf:Fresh w0 w) (hne:0<l.length) (hl:l.length≤1048576) (hk:∀ x∈l,0≤x.k∧x.k≤24∧x.r.fibs.length≤1048576) :
  Calls Tryz.prog 118 #[.slice p l.length c] w fun e w'=>e=.returned (.slice p l.length c)∧Chs w' w0.heap.size (.slice p l.length c) (ordH l)∧Fresh w0 w':=by
 obtain⟨g,sp,rfl,hg,hr,hnc,hcm,hlen⟩:=owns_rowC h.row hne
 have hD:∀ i,CvOk (dOf l i):=by
  intro i
  unfold dOf
  rcases Nat.lt_or_ge i l.length with hi|hi
  ·rw[List.getD_eq_getElem?_getD,List.getElem?_eq_getElem hi]
   exact hk _ (List.getElem_mem hi)
  ·rw[List.getD_eq_getElem?_getD,List.getElem?_eq_none hi]
   exact⟨Int.le_refl _,by decide,by decide⟩
 have hs:=sortStable_any g c l.length (dOf l) (cfV (dOf l)) (swo_cfV _) (byCostClo_any _ hD) sp w (by rw[rowC_id];exact hr) hl
 have HS:=Lib.hid hs
 have HH:=Lib.hid h
 have HF:=Lib.hid hf
 have HR:=Lib.hid hr
 have HL:=Lib.hid hlen
 clear hs h hf hk hD hr hlen
 go_enter Tryz.func118,Tryz.ntmps118
 go_wp2_with fail
 refine(HS.out).mono ?_
 rintro e W1 ⟨rfl,h1,h2⟩
 have HR1:=Lib.hid h1
 have HS1:=Lib.hid h2
 clear h1 h2 HS
 go_wp2
 refine bodyPost_ret (v:=.slice (some ⟨g,0,none⟩) l.length c) (by simp[results,Tryz.results118,go_sem]) rfl ?_
 have hr1:=HR1.out
 rw[rowC_ord] at hr1
 have e3:((ordH l).flatMap chC).length=l.length * 3:=by rw[flat_len chC 3 (fun _=>rfl),ordH_len]
 have e4:(l.flatMap chC).length=l.length * 3:=flat_len chC 3 (fun _=>rfl) l
 have hlen:=HL.out
 rw[List.length_append,e4] at hlen
 have hkp:∀ h t cs,RowAt w h t cs→t≠150→RowAt W1 h t cs:=fun a t cs q1 q2=>HS1.out.1 a t cs q1 fun e=>by subst e;exact q2 (q1.inj HR.out).1
 refine⟨rfl,⟨?_,fun x hx=>(HH.out.fib x (ordL_mem hx)).grown hkp (by decide),HH.out.dist.ord,fun x hx=>HH.out.cap x (ordL_mem hx)⟩,HS1.out.2 w0 HF.out hg⟩
 rw[ordH_len]
 exact row_ownsC hg hr1 hnc hcm (by rw[List.length_append,e3];exact hlen) e3
def chF (n:Net) (fm:List (Int × Int)) (d:Fib):(Int × List Int) × Int × Bool :=
 match ordV (usF n fm d).1 with
 | []=>((0,[]),0,false)
 | c :: _=>(c.1,c.2,true)
theorem chF_no {n:Net} {fm:List (Int × Int)} {d:Fib} (h:(usF n fm d).1=[]):chF n fm d=((0,[]),0,false):=by unfold chF;rw[h];rfl
theorem chF_yes {n:Net} {fm:List (Int × Int)} {d:Fib} {l:List CH} {x:CH} (h:l.map CH.val=(usF n fm d).1) (hx:(ordH l)[0]?=some x):chF n fm d=(x.r.val,x.k,true):=by
 unfold chF
 rw[← h,← ordH_val]
 cases e:ordH l with
 | nil=>rw[e] at hx;cases hx
 | cons a t=>rw[e] at hx;cases hx;rfl
theorem chs_fit {n:Net} {fm:List (Int × Int)} {d:Fib} {l:List CH} (h:l.map CH.val=(usF n fm d).1) (hok:usOk n fm d=true):∀ x∈l,0≤x.k∧x.k≤24∧x.r.fibs.length≤1048576:=by
 intro x hx
 rw[usF_yes hok] at h
 have hu:usB n fm d=true:=by unfold usOk at hok;simp only[Bool.and_eq_true] at hok;exact hok.1
 obtain⟨h1,h2,_,h3,_,h4,_,_⟩:=usB_at hu
 have hm:x.val∈usL n fm d.len (allR n d.a d.b):=by
  have h9:l.map CH.val=usL n fm d.len (allR n d.a d.b):=h
  rw[← h9];exact List.mem_map_of_mem (f:=CH.val) hx
 obtain⟨m1,m2,m3⟩:=usL_mem h2 h3 hm
 obtain⟨_,g2⟩:=good_mem m1
 obtain⟨_,_,a3,a4,_⟩:=nodes_at h1 h4 g2
 have m2':1≤x.k:=m2
 have a3':(nodesR n d.a x.r.fibs).length=x.r.fibs.length+1:=a3
 have a4':(nodesR n d.a x.r.fibs).length≤8:=a4
 exact⟨by omega,m3,by omega⟩
def OutCh (n:Net) (fm:List (Int × Int)) (d:Fib) (w:World) (e:Ending) (w':World):Prop:=∃ q c,e=.returned (.tuple #[.agg #[.int .i64 (chF n fm d).1.1,.slice q (chF n fm d).1.2.length c,.int .i64 (chF n fm d).2.1],.bool (chF n fm d).2.2])∧Own w' w.heap.size 3 q ((chF n fm d).1.2.map iv)∧Fresh w w'
theorem fibs_none {n:Net} {fm:List (Int × Int)} {d:Fib} (h:usOk n fm d=false):(usF n fm d).1=[]:=by rw[usF_no h]
set_option maxHeartbeats 4000000 in
set_option maxRecDepth 20000 in
theorem cheapest_any (v:Value) (n:Net) (pf:Option Addr) (cf:Nat) (fm:List (Int × Int)) (d:Fib) (w:World) (h:NetIn w v n) (hfm:Prs w pf fm) (hfl:fm.length≤1048576) :
  Calls Tryz.prog 179 #[v,.slice pf fm.length cf,fibV d] w (OutCh n fm d w):=by
 have HN:=Lib.hid h
 have HP:=Lib.hid hfm
 obtain⟨qn,cn,pn,cp,rfl,_,_,n1,_,_,_,_⟩:=h
 obtain⟨W3,hW3,hsz3,hf3,r1,r2,r3⟩:=three_rows w [.slice qn n.nodes.length cn,.slice pn n.fibers.length cp] [.int .i64 d.a,.int .i64 d.b,.int .i64 d.len,.int .i64 d.risk] [.int .i64 0,.slice none 0 0,.int .i64 0] 35 59 150
 have HF3:=Lib.hid hf3
 have HW3:=Lib.hid hW3
 have HC:=Lib.hid (usable_any (.agg #[.slice qn n.nodes.length cn,.slice pn n.fibers.length cp]) n pf cf fm d W3 (HN.out.keep hf3) (HP.out.keep hf3) hfl)
 have HR3:=Lib.hid r3
 have hsz:=hf3.size
 clear hfm hf3 r1 r2 r3 hW3
 go_enter Tryz.func179,Tryz.ntmps179
 go_wp2_with fail
 rw[← HW3.out]
 refine(HC.out).mono ?_
 rintro e w4 ⟨V,l,rfl,hc,hv,hf⟩
 have HF4:=Lib.hid (fstep HF3.out hf)
 have hsz4:=hf.size
 have HCH:=Lib.hid hc
 have HV:=Lib.hid hv
 have hll:=ch_len hv
 have hB:=HR3.out.keep hf
 obtain⟨p,c,rfl,_,_,_⟩:=owns_cap hc.row
 have HFF:=Lib.hid hf
 clear hc hv hf HC
 have hend:∀ (W:World),Fresh w W→RowAt W (w.heap.size+1+1) 150 [.int .i64 0,.slice none 0 0,.int .i64 0]→(usF n fm d).1=[]→Fresh w (((W.setCell ⟨w.heap.size+1+1,0,none⟩ (.int .i64 0)).setCell ⟨w.heap.size+1+1,1,none⟩ (.slice none 0 0)).setCell ⟨w.heap.size+1+1,2,none⟩ (.int .i64 0)):=fun W hW _ _=>fset (fset (fset hW (by omega) _) (by omega) _) (by omega) _
 have HEND:=Lib.hid hend
 clear hend
 have y0:=hB.cell (i:=0) rfl
 have y1:=hB.cell (i:=1) rfl
 have y2:=hB.cell (i:=2) rfl
 have u0:=hB.frozen 0
 have u1:=hB.frozen 1
 have u2:=hB.frozen 2
 cases hok:usOk n fm d
 ·have HNO:=Lib.hid (fibs_none hok)
  have hB':=((hB.set 0 (.int .i64 0)).set 1 (.slice none 0 0)).set 2 (.int .i64 0)
  have k0:=hB'.cell (i:=0) rfl
  have k1:=hB'.cell (i:=1) rfl
  have k2:=hB'.cell (i:=2) rfl
  have HB:=Lib.hid hB
  clear hok hB hB'
  go_wp2
  refine bodyPost_ret (v:=.tuple #[.agg #[.int .i64 0,.slice none 0 0,.int .i64 0],.bool false]) (by simp[results,Tryz.results179,go_sem,k0,k1,k2]) rfl ?_
  refine⟨none,0,by rw[chF_no HNO.out];rfl,Or.inl ⟨rfl,by rw[chF_no HNO.out];rfl⟩,HEND.out _ HF4.out HB.out HNO.out⟩
 ·by_cases hz:l.length=0
  ·have hl0:l=[]:=List.eq_nil_of_length_eq_zero hz
   have HNO:Hid ((usF n fm d).1=[]):=by show _=_;rw[← HV.out,hl0];rfl
   have hB':=((hB.set 0 (.int .i64 0)).set 1 (.slice none 0 0)).set 2 (.int .i64 0)
   have k0:=hB'.cell (i:=0) rfl
   have k1:=hB'.cell (i:=1) rfl
   have k2:=hB'.cell (i:=2) rfl
   have HB:=Lib.hid hB
   clear hok hB hB' hl0
   go_wp2
   refine bodyPost_ret (v:=.tuple #[.agg #[.int .i64 0,.slice none 0 0,.int .i64 0],.bool false]) (by simp[results,Tryz.results179,go_sem,k0,k1,k2]) rfl ?_
   refine⟨none,0,by rw[chF_no HNO.out];rfl,Or.inl ⟨rfl,by rw[chF_no HNO.out];rfl⟩,HEND.out _ HF4.out HB.out HNO.out⟩
  ·have HBC:=Lib.hid (byCost_any W3 p c l w4 HCH.out HFF.out (by omega) (by omega) (chs_fit HV.out hok))
   clear hok hB y0 y1 y2 u0 u1 u2
   go_wp2_with fail
   refine(HBC.out).mono ?_
   rintro e W5 ⟨rfl,hc5,hf5⟩
   have hl5:0<(ordH l).length:=by rw[ordH_len];omega
   have hc6:=hc5
   rw[← ordH_len l] at hc6
   obtain⟨g,x,rfl,hx,hm,c0,c1,c2⟩:=chs_at hc6 hl5
   rw[show 0 * 3=0 from rfl] at c0 c1 c2
   simp only[Nat.zero_add] at c1 c2
   have HX:Hid (chF n fm d=(x.r.val,x.k,true)):=chF_yes HV.out hx
   have hB5:=HR3.out.keep hf5
   have y0:=hB5.cell (i:=0) rfl
   have y1:=hB5.cell (i:=1) rfl
   have y2:=hB5.cell (i:=2) rfl
   have u0:=hB5.frozen 0
   have u1:=hB5.frozen 1
   have u2:=hB5.frozen 2
   have hB':=((hB5.set 0 (.int .i64 x.r.start)).set 1 (.slice x.r.q x.r.fibs.length x.r.cap)).set 2 (.int .i64 x.k)
   have k0:=hB'.cell (i:=0) rfl
   have k1:=hB'.cell (i:=1) rfl
   have k2:=hB'.cell (i:=2) rfl
   have HO:Hid (Own (((W5.setCell ⟨w.heap.size+1+1,0,none⟩ (.int .i64 x.r.start)).setCell ⟨w.heap.size+1+1,1,none⟩ (.slice x.r.q x.r.fibs.length x.r.cap)).setCell ⟨w.heap.size+1+1,2,none⟩ (.int .i64 x.k)) w.heap.size 3 x.r.q (x.r.fibs.map iv)):=by
    show Own _ _ _ _ _
    have ho:=(hc5.fib x hm).mono hsz
    exact((ho.setO hB5 (by decide) _ _).setO (hB5.set 0 _) (by decide) _ _).setO ((hB5.set 0 _).set 1 _) (by decide) _ _
   have HFE:Hid (Fresh w (((W5.setCell ⟨w.heap.size+1+1,0,none⟩ (.int .i64 x.r.start)).setCell ⟨w.heap.size+1+1,1,none⟩ (.slice x.r.q x.r.fibs.length x.r.cap)).setCell ⟨w.heap.size+1+1,2,none⟩ (.int .i64 x.k))):=fset (fset (fset (fstep HF3.out hf5) (by omega) _) (by omega) _) (by omega) _
   have hz2:0<l.length:=by omega
   clear hc5 hc6 hf5 hx hm hB5 hB' hl5 HBC
   go_wp2
   refine bodyPost_ret (v:=.tuple #[.agg #[.int .i64 x.r.start,.slice x.r.q x.r.fibs.length x.r.cap,.int .i64 x.k],.bool true]) (by simp[results,Tryz.results179,go_sem,k0,k1,k2]) rfl ?_
   exact⟨x.r.q,x.r.cap,by rw[HX.out],by rw[HX.out];exact HO.out,HFE.out⟩
def OutCr (n:Net) (fm:List (Int × Int)) (d:Fib) (w:World) (e:Ending) (w':World):Prop:=∃ v',e=.returned (.tuple #[v',.int .i64 (chF n fm d).2.1,.bool (chF n fm d).2.2])∧RtOwn w' w.heap.size v' (chF n fm d).1∧Fresh w w'
end Go.Proofs.YteckjlkhopkogaaGreat
