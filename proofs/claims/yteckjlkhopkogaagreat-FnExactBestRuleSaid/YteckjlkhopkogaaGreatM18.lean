/- Texts of mine laid together (Od, Od2). -/
import Derived.Test.YteckjlkhopkogaaGreatM17
import Derived.BigRegion
import Derived.Deep.DeepCutAuto
namespace Go.Proofs.YteckjlkhopkogaaGreat
open Go.RowKit Go.PlainAid
def rowO (s:Nat→Nat) (n:Nat):List Value:=(List.range n).map fun i=>iv (s i:Int)
theorem rowO_len (s:Nat→Nat) (n:Nat):(rowO s n).length=n:=by simp[rowO]
theorem rowO_get {s:Nat→Nat} {n i:Nat} (hi:i<n):(rowO s n)[i]?=some (iv (s i:Int)):=by
 unfold rowO;rw[List.getElem?_map,List.getElem?_range hi];rfl
theorem rowO_congr {s s':Nat→Nat} {n:Nat} (h:∀ i,i<n→s i=s' i):rowO s n=rowO s' n:=by
 unfold rowO
 apply List.map_congr_left
 intro i hi
 rw[h i (by simpa using hi)]
theorem rowO_cell {w:World} {g:Nat} {T:TypeId} {s:Nat→Nat} {n:Nat} {sp:List Value} (h:RowAt w g T (rowO s n++sp)) {i:Nat} (hi:i<n):w.cell? ⟨g,i,none⟩=some (iv (s i:Int)) :=
 h.cell (by rw[List.getElem?_append_left (by rw[rowO_len];exact hi)];exact rowO_get hi)
theorem swapO {s:Nat→Nat} {n i j:Nat} {sp:List Value} (hi:i<n) (hj:j<n):((rowO s n++sp).set i (iv (s j:Int))).set j (iv (s i:Int))=rowO (sw1 s i j) n++sp:=by
 have hl:=rowO_len s n
 have hl':=rowO_len (sw1 s i j) n
 have e0:(rowO s n++sp).length=n+sp.length:=by simp[hl]
 apply List.ext_getElem?
 intro t
 rcases Nat.lt_or_ge t n with h|h
 ·rw[show(rowO (sw1 s i j) n++sp)[t]?=(rowO (sw1 s i j) n)[t]? from List.getElem?_append_left (by omega),rowO_get h]
  unfold sw1
  by_cases h2:t=j
  ·subst h2
   rw[List.getElem?_set_self (by rw[List.length_set];omega)]
   by_cases h1:t=i
   ·subst h1;rw[if_pos rfl]
   ·rw[if_neg h1,if_pos rfl]
  ·rw[List.getElem?_set_ne (by omega)]
   by_cases h1:t=i
   ·subst h1
    rw[List.getElem?_set_self (by omega),if_pos rfl]
   ·rw[List.getElem?_set_ne (by omega),List.getElem?_append_left (by omega),rowO_get h,if_neg h1,if_neg h2]
 ·rw[List.getElem?_set_ne (by omega),List.getElem?_set_ne (by omega),List.getElem?_append_right (by omega),List.getElem?_append_right (by omega),hl,hl']
theorem row_swO {w:World} {g:Nat} {T:TypeId} {s:Nat→Nat} {n i j:Nat} {sp:List Value} (h:RowAt w g T (rowO s n++sp)) (hi:i<n) (hj:j<n):RowAt ((w.setCell ⟨g,i,none⟩ (iv (s j:Int))).setCell ⟨g,j,none⟩ (iv (s i:Int))) g T (rowO (sw1 s i j) n++sp):=by
 rw[← swapO hi hj]
 exact(h.set i _).set j _
def CmpO (g n bx:Nat) (cf:Nat→Nat→Int) (w:World):Prop:=∀ (i j:Nat) (W:World),i<n→j<n→Srt g w W→Calls Tryz.prog 133 #[.int .i64 (i:Int),.int .i64 (j:Int),.pointer (some ⟨bx,0,none⟩)] W fun e w'=>e=.returned (.int .i64 (cf i j))∧Fresh W w'
set_option maxHeartbeats 4000000 in
set_option maxRecDepth 100000 in
theorem insO_any (g c n bx:Nat) (cf:Nat→Nat→Int) (hw:Swo (ltO cf)) (sp:List Value) (s:Nat→Nat) (a b:Nat) (w:World) (hc:CmpO g n bx cf w) (h:RowAt w g 3 (rowO s n++sp)) (hp:PI 0 n id s) (hab:a≤b) (hbn:b≤n) (hn:n≤1048576) (hx:Inc1 s a b) :
  Calls Tryz.prog 205 #[.slice (some ⟨g,0,none⟩) n c,.int .i64 (a:Int),.int .i64 (b:Int),.func (.func 133) #[] #[.pointer (some ⟨bx,0,none⟩)]] w fun e w'=>e=.returned (.tuple #[])∧∃ s',RowAt w' g 3 (rowO s' n++sp)∧PI a b s s'∧Sg (ltO cf) s' a b∧Srt g w w':=by
 have HR:=Lib.hid h
 have HC:=Lib.hid hc
 have HX:=Lib.hid hx
 have HW:=Lib.hid hw
 have HP:=Lib.hid hp
 clear h hc hx hw hp
 have k1:IntKind.i64.wrap ((a:Int)+1)=(a:Int)+1:=by rw[IntKind.wrap_i64] <;> omega
 go_enter Tryz.func205,Tryz.ntmps205
 go_wp2
 clear k1
 go_loopw [8] (fun vi wr=>∃ i:Nat,a+1≤i∧(i≤b∨i=a+1)∧vi=.int .i64 i∧∃ s1,RowAt wr g 3 (rowO s1 n++sp)∧Hid (PI a i s s1∧Sg (ltO cf) s1 a i)∧Srt g w wr) (fun i _=>b - (intOf i).toNat)
 case atStart=>exact⟨a+1,Nat.le_refl _,Or.inr rfl,by go_num,s,HR.out,⟨PI.refl _ _ _,fun i j h1 h2 h3=>by omega⟩,Srt.refl _ _⟩
 case round =>
  obtain⟨i,hi,hib,rfl,s1,hr,HI,hs⟩:=hrel
  by_cases hlt:i<b
  ·have hltz:(i:Int)<(b:Int):=by omega
   have HR1:=Lib.hid hr
   have HS1:=Lib.hid hs
   have HRG:Hid (∀ k,k<n→s1 k<n):=(HP.out.trans (HI.out.1.wide (Nat.zero_le _) (by omega))).range.1
   clear hr hs hib
   go_wp2
   go_loopw [9] (fun vk wr2=>∃ k:Nat,a≤k∧k≤i∧vk=.int .i64 k∧RowAt wr2 g 3 (rowO (rot s1 k i (i+1)) n++sp)∧Hid (k=i∨ltO cf (s1 i) (s1 k)=true)∧Srt g w wr2) (fun k _=>(intOf k).toNat)
   case atStart=>exact⟨i,by omega,Nat.le_refl _,rfl,by rw[rot_id1 s1 i (i+1)];exact HR1.out,Or.inl rfl,HS1.out⟩
   case round =>
    obtain⟨k,hak,hki,rfl,hr,HK,hs⟩:=hrel
    have w5:IntKind.i64.wrap ((i:Int)+1)=(i:Int)+1:=by rw[IntKind.wrap_i64] <;> omega
    by_cases hak2:a<k
    ·have hakz:(a:Int)<(k:Int):=by omega
     obtain⟨kp,hkp⟩:∃ kp,k=kp+1:=⟨k - 1,by omega⟩
     have hAn:k<n:=by omega
     have hBn:kp<n:=by omega
     have hAB:k≠kp:=by omega
     have hBA:kp≠k:=by omega
     have w1:IntKind.i64.wrap ((k:Int) - 1)=(k:Int) - 1:=by rw[IntKind.wrap_i64] <;> omega
     have e1:((k:Int) - 1).toNat=kp:=by omega
     have p1:(0:Int)≤(k:Int) - 1:=by omega
     have zA:(k:Int)<(n:Int):=by omega
     have zB:(k:Int) - 1<(n:Int):=by omega
     have HS:=Lib.hid hs
     have HR2:=Lib.hid hr
     have x0:=rowO_cell hr hAn
     have y0:=rowO_cell hr hBn
     rw[rot_at s1 hki] at x0
     rw[rot_be s1 hki (show kp<k by omega)] at y0
     have HCC:Hid (∀ xa:After wr,Calls Tryz.prog 133 #[.int .i64 ((s1 i:Nat):Int),.int .i64 ((s1 kp:Nat):Int),.pointer (some ⟨bx,0,none⟩)] xa.w' fun e w'=>e=.returned (.int .i64 (cf (s1 i) (s1 kp)))∧Fresh xa.w' w'):=fun xa=>HC.out (s1 i) (s1 kp) xa.w' (HRG.out i (by omega)) (HRG.out kp hBn) (HS.out.trans (Srt.fresh xa.h))
     obtain⟨x,hx⟩:∃ x:Int,x=((s1 i:Nat):Int):=⟨_,rfl⟩
     obtain⟨y,hy⟩:∃ y:Int,y=((s1 kp:Nat):Int):=⟨_,rfl⟩
     rw[← hx] at x0 HCC
     rw[← hy] at y0 HCC
     clear hr hs
     have HKP:=Lib.hid hkp
     clear hkp hx hy
     have x0w:=fun xa:After wr=>akeep x0 xa
     have y0w:=fun xa:After wr=>akeep y0 xa
     obtain⟨cv,hcv⟩:∃ v,v=cf (s1 i) (s1 kp):=⟨_,rfl⟩
     rw[← hcv] at HCC
     have HCV:=Lib.hid hcv
     clear hcv
     go_wp2
     refine wp_region_after (by kernel_rfl) (by kernel_rfl) ?_
     repeat (go_big_quiet_step (first|(go_at_call 133;exact after_call (HCC.out _))))
     refine wpQuiet_nil ?_
     rintro _ ⟨xa,rfl⟩
     have hxa:=xa.h
     clear x0w y0w x0 y0 HCC
     obtain⟨W5,hW5⟩:∃ W,W=xa.w':=⟨_,rfl⟩
     rw[← hW5] at hxa ⊢
     have hr:=HR2.out.keep hxa
     have hs:=HS.out.trans (Srt.fresh hxa)
     clear hxa hW5
     by_cases hg:cv<0
     ·go_upto_region 6 with fail
      have HV:Hid (ltO cf (s1 i) (s1 kp)=true):=by show _=true;simp;rw[← HCV.out];exact hg
      obtain⟨s2,hs2⟩:∃ s2,s2=rot s1 k i (i+1):=⟨_,rfl⟩
      have HS2:Hid (sw1 s2 k kp=rot s1 kp i (i+1)):=by show _=_;rw[hs2,HKP.out];exact rot_dn s1 i kp (by have:=HKP.out;omega)
      rw[← hs2] at hr
      clear hs2
      have x0:=rowO_cell hr hAn
      have y0:=rowO_cell hr hBn
      have f0:=hr.frozen k
      have g0:=hr.frozen kp
      have hsw:Hid (RowAt ((W5.setCell ⟨g,k,none⟩ (iv (s2 kp:Int))).setCell ⟨g,kp,none⟩ (iv (s2 k:Int))).drew g 3 (rowO (rot s1 kp i (i+1)) n++sp)):=by
       show RowAt _ _ _ _
       rw[← HS2.out]
       exact(row_swO hr hAn hBn).keep (fdrew (frefl _))
      have hss:Hid (Srt g w ((W5.setCell ⟨g,k,none⟩ (iv (s2 kp:Int))).setCell ⟨g,kp,none⟩ (iv (s2 k:Int))).drew):=((hs.set _ _).set _ _).trans (Srt.fresh (fdrew (frefl _)))
      obtain⟨x2,hx⟩:∃ x:Int,x=((s2 k:Nat):Int):=⟨_,rfl⟩
      obtain⟨y2,hy⟩:∃ y:Int,y=((s2 kp:Nat):Int):=⟨_,rfl⟩
      rw[← hx] at x0
      rw[← hy] at y0
      rw[← hx,← hy] at hsw hss
      clear hx hy hr hs
      go_big_region
      go_wp2
      go_roundw
      case rel =>
       have hkp9:=HKP.out
       have ez:(k:Int) - 1=(kp:Int):=by omega
       have l1:a≤kp:=by omega
       have l2:kp≤i:=by omega
       exact⟨kp,l1,l2,by rw[ez],hsw.out,Or.inr HV.out,hss.out⟩
      case measure=>have:=HKP.out;simp[intOf];omega
     ·have HV:Hid (ltO cf (s1 i) (s1 (k - 1))=false):=by
       show _=false
       have e2:k - 1=kp:=by have:=HKP.out;omega
       rw[e2];simp;rw[← HCV.out];omega
      have HFIN:=Lib.hid (And.intro hr hs)
      clear hr hs
      go_wp2
      go_roundw
      case rel =>
       refine⟨i+1,by omega,Or.inl (by omega),by go_num,_,HFIN.out.1,⟨?_,?_⟩,HFIN.out.2⟩
       ·exact(HI.out.1.wide (Nat.le_refl _) (by omega)).trans ((rot_pi s1 k i (i+1) ⟨hki,by omega⟩).wide hak (Nat.le_refl _))
       ·exact rot_last HW.out ⟨hak,hki⟩ HI.out.2 (HX.out.cx HI.out.1 (by omega) hlt) (Or.inr HV.out) HK.out
      case measure=>simp[intOf];omega
    ·have hakz:decide (a<k)=false:=by simpa using hak2
     have hka:k=a:=by omega
     clear hak2
     have HFIN:=Lib.hid (And.intro hr hs)
     have HKA:=Lib.hid hka
     clear hr hs hka
     go_wp2
     refine wp_region_after (by kernel_rfl) (by kernel_rfl) ?_
     repeat (go_big_quiet_step (fail))
     refine wpQuiet_nil ?_
     rintro _ ⟨xa,rfl⟩
     have hxa:=xa.h
     obtain⟨W5,hW5⟩:∃ W,W=xa.w':=⟨_,rfl⟩
     rw[← hW5] at hxa ⊢
     have HF5:=Lib.hid hxa
     clear hxa hW5
     go_wp2
     go_roundw
     case rel =>
      refine⟨i+1,by omega,Or.inl (by omega),by go_num,_,HFIN.out.1.keep HF5.out,⟨?_,?_⟩,HFIN.out.2.trans (Srt.fresh HF5.out)⟩
      ·exact(HI.out.1.wide (Nat.le_refl _) (by omega)).trans ((rot_pi s1 k i (i+1) ⟨hki,by omega⟩).wide hak (Nat.le_refl _))
      ·exact rot_last HW.out ⟨hak,hki⟩ HI.out.2 (HX.out.cx HI.out.1 (by omega) hlt) (Or.inl HKA.out) HK.out
     case measure=>simp[intOf];omega
  ·have hltz:¬ (i:Int)<(b:Int):=by omega
   have HFIN:=Lib.hid (And.intro hr hs)
   clear hr hs
   go_wp2
   refine bodyPost_end (results_none rfl _ _ _) rfl ?_
   refine⟨rfl,s1,HFIN.out.1,?_,?_,HFIN.out.2⟩
   ·by_cases hib2:i=b
    ·rw[← hib2];exact HI.out.1
    ·have hba:b=a:=by omega
     have hia:i=a+1:=by omega
     obtain⟨f,g',e1,e2,e3,e4⟩:=HI.out.1
     subst hba
     subst hia
     have hid1:∀ x,f x=x:=by
      intro x
      by_cases hx:b≤x∧x<b+1
      ·have hxb:x=b:=by omega
       subst hxb
       by_cases hy:f x=x
       ·exact hy
       ·have h3:=e3 (f x) (by omega)
        have h4:=e1 (f x)
        rw[h3,e1 x] at h4
        exact(hy h4.symm).elim
      ·exact e3 x hx
     exact⟨f,g',e1,e2,fun x _=>hid1 x,e4⟩
   ·intro x y h1 h2 h3
    exact HI.out.2 x y h1 h2 (by omega)
set_option maxHeartbeats 4000000 in
set_option maxRecDepth 100000 in
theorem stableO_any (g c n bx:Nat) (cf:Nat→Nat→Int) (hw:Swo (ltO cf)) (sp:List Value) (w:World) (hc:CmpO g n bx cf w) (h:RowAt w g 3 (rowO id n++sp)) (hn:n≤12) :
  Calls Tryz.prog 180 #[.slice (some ⟨g,0,none⟩) n c,.int .i64 (n:Int),.func (.func 133) #[] #[.pointer (some ⟨bx,0,none⟩)]] w fun e w'=>e=.returned (.tuple #[])∧RowAt w' g 3 (rowO (ordS (ltO cf) n) n++sp)∧Srt g w w':=by
 have HW:=Lib.hid hw
 have HSO:=Lib.hid (insO_any g c n bx cf hw sp id 0 n w hc h (PI.refl _ _ _) (Nat.zero_le _) (Nat.le_refl _) (by omega) (fun i j _ h2 _=>h2))
 clear hc h hw
 have hz1:¬ (20:Int)≤(n:Int):=by omega
 have hz2:¬ (20:Int)<(n:Int):=by omega
 go_enter Tryz.func180,Tryz.ntmps180
 go_wp2
 go_loopw [7,8] (fun va vb wr=>va=.int .i64 (0:Int)∧vb=.int .i64 (20:Int)∧wr=w) (fun _ _ _=>0)
 case atStart=>exact⟨rfl,rfl,rfl⟩
 case round =>
  obtain⟨rfl,rfl,rfl⟩:=hrel
  go_wp2_with fail
  refine(HSO.out).mono ?_
  rintro e W1 ⟨rfl,s',hr1,hp1,hg1,hs1⟩
  have HR1:=Lib.hid hr1
  have HP1:=Lib.hid hp1
  have HG1:=Lib.hid hg1
  have HS1:=Lib.hid hs1
  clear hr1 hp1 hg1 hs1 HSO
  go_wp2
  go_loopw [6] (fun vq wr2=>vq=.int .i64 (20:Int)∧wr2=W1) (fun _ _=>0)
  case atStart=>exact⟨rfl,rfl⟩
  case round =>
   obtain⟨rfl,rfl⟩:=hrel
   go_wp2
   refine bodyPost_end (results_none rfl _ _ _) rfl ?_
   refine⟨rfl,?_,HS1.out⟩
   rw[← rowO_congr (sorted_is HW.out HP1.out HG1.out)]
   exact HR1.out
theorem sortStableO_any (g c n bx:Nat) (cf:Nat→Nat→Int) (hw:Swo (ltO cf)) (sp:List Value) (w:World) (hc:CmpO g n bx cf w) (h:RowAt w g 3 (rowO id n++sp)) (hn:n≤12) :
  Calls Tryz.prog 132 #[.slice (some ⟨g,0,none⟩) n c,.func (.func 133) #[] #[.pointer (some ⟨bx,0,none⟩)]] w fun e w'=>e=.returned (.tuple #[])∧RowAt w' g 3 (rowO (ordS (ltO cf) n) n++sp)∧Srt g w w':=by
 have HS:=Lib.hid (stableO_any g c n bx cf hw sp w hc h hn)
 clear h hc hw
 go_enter Tryz.func132,Tryz.ntmps132
 go_wp2_with fail
 refine(HS.out).mono ?_
 rintro e W1 ⟨rfl,h1,h2⟩
 have HR:=Lib.hid (And.intro h1 h2)
 clear h1 h2
 go_wp2
 refine bodyPost_end (results_none rfl _ _ _) rfl ?_
 exact⟨rfl,HR.out⟩
set_option maxHeartbeats 2000000 in
theorem ins0_any (p:Option Addr) (c bx:Nat) (w:World) :
  Calls Tryz.prog 205 #[.slice p 0 c,.int .i64 0,.int .i64 0,.func (.func 133) #[] #[.pointer (some ⟨bx,0,none⟩)]] w fun e w'=>e=.returned (.tuple #[])∧w'=w:=by
 go_enter Tryz.func205,Tryz.ntmps205
 go_wp2
 go_loopw [8] (fun vi wr=>vi=.int .i64 (1:Int)∧wr=w) (fun _ _=>0)
 case atStart=>exact⟨by go_num,rfl⟩
 case round =>
  obtain⟨rfl,rfl⟩:=hrel
  go_wp2
  refine bodyPost_end (results_none rfl _ _ _) rfl ?_
  exact⟨rfl,rfl⟩
set_option maxHeartbeats 2000000 in
theorem stable0_any (p:Option Addr) (c bx:Nat) (w:World) :
  Calls Tryz.prog 180 #[.slice p 0 c,.int .i64 0,.func (.func 133) #[] #[.pointer (some ⟨bx,0,none⟩)]] w fun e w'=>e=.returned (.tuple #[])∧w'=w:=by
 have HSO:=Lib.hid (ins0_any p c bx w)
 go_enter Tryz.func180,Tryz.ntmps180
 go_wp2
 go_loopw [7,8] (fun va vb wr=>va=.int .i64 (0:Int)∧vb=.int .i64 (20:Int)∧wr=w) (fun _ _ _=>0)
 case atStart=>exact⟨rfl,rfl,rfl⟩
 case round =>
  obtain⟨rfl,rfl,rfl⟩:=hrel
  go_wp2_with fail
  refine(HSO.out).mono ?_
  rintro e W1 ⟨rfl,rfl⟩
  go_wp2
  go_loopw [6] (fun vq wr2=>vq=.int .i64 (20:Int)∧wr2=W1) (fun _ _=>0)
  case atStart=>exact⟨rfl,rfl⟩
  case round =>
   obtain⟨rfl,rfl⟩:=hrel
   go_wp2
   refine bodyPost_end (results_none rfl _ _ _) rfl ?_
   exact⟨rfl,rfl⟩
set_option maxHeartbeats 2000000 in
theorem sort0_any (p:Option Addr) (c bx:Nat) (w:World) :
  Calls Tryz.prog 132 #[.slice p 0 c,.func (.func 133) #[] #[.pointer (some ⟨bx,0,none⟩)]] w fun e w'=>e=.returned (.tuple #[])∧w'=w:=by
 have HS:=Lib.hid (stable0_any p c bx w)
 go_enter Tryz.func132,Tryz.ntmps132
 go_wp2_with fail
 refine(HS.out).mono ?_
 rintro e W1 ⟨rfl,rfl⟩
 go_wp2
 refine bodyPost_end (results_none rfl _ _ _) rfl ?_
 exact⟨rfl,rfl⟩
def kO (L:List Int) (i:Nat):Int:=L.getD i 0
def cfO (L:List Int) (i j:Nat):Int:=cmpI (kO L j) (kO L i)
theorem ltO_cfO (L:List Int) (i j:Nat):ltO (cfO L) i j=decide (kO L j<kO L i):=by
 unfold ltO cfO
 rw[decide_eq_decide]
 exact cmpI_neg _ _
theorem swo_cfO (L:List Int):Swo (ltO (cfO L)):=by
 refine⟨fun i j h=>?_,fun i j k h1 h2=>?_⟩
 ·rw[ltO_cfO] at h ⊢
  have:=of_decide_eq_true h
  exact decide_eq_false (by omega)
 ·rw[ltO_cfO] at h1 h2 ⊢
  have e1:=of_decide_eq_false h1
  have e2:=of_decide_eq_false h2
  exact decide_eq_false (by omega)
theorem kO_is {L:List Int} {i:Nat} {x:Int} (h:L[i]?=some x):kO L i=x:=by
 unfold kO;rw[List.getD_eq_getElem?_getD,h];rfl
set_option maxHeartbeats 2000000 in
set_option maxRecDepth 20000 in
theorem odClo_any (bx:Nat) (q:Option Addr) (k:Nat) (L:List Int) (i j:Nat) (W:World) (hb:W.cell? ⟨bx,0,none⟩=some (.slice q L.length k)) (hI:Ints W q L) (hi:i<L.length) (hj:j<L.length) (_hn:L.length≤1048576) :
  Calls Tryz.prog 133 #[.int .i64 (i:Int),.int .i64 (j:Int),.pointer (some ⟨bx,0,none⟩)] W fun e w'=>e=.returned (.int .i64 (cfO L i j))∧Fresh W w':=by
 obtain⟨b,off,x,rfl,hx,hx0⟩:=hI.at hi
 obtain⟨b',off',y,e1,hy,hy0⟩:=hI.at hj
 cases e1
 have HX:=Lib.hid (kO_is hx)
 have HY:=Lib.hid (kO_is hy)
 have hiz:(i:Int)<(L.length:Int):=by omega
 have hjz:(j:Int)<(L.length:Int):=by omega
 have HCI:Hid (∀ (a b:Int) (w:World),Calls Tryz.prog 134 #[.int .i64 a,.int .i64 b] w fun e w'=>e=.returned (.int .i64 (cmpI a b))∧Fresh w w'):=fun a b w=>(compare_any a b w).mono fun e w' ⟨q1,q2⟩=>⟨q1,by rw[q2];exact frefl _⟩
 have b0:=fun xa:After W=>akeep hb xa
 have x0:=fun xa:After W=>akeep hx0 xa
 have y0:=fun xa:After W=>akeep hy0 xa
 clear hx hy hI
 go_enter Tryz.func133,Tryz.ntmps133
 go_wp2
 refine wp_region_after (by kernel_rfl) (by kernel_rfl) ?_
 repeat (go_big_quiet_step ((go_at_call 134;exact after_call (HCI.out _ _ _))))
 refine wpQuiet_nil ?_
 rintro _ ⟨xa,rfl⟩
 have HXA:=Lib.hid xa.h
 clear x0 y0 b0 hx0 hy0 hb
 go_wp2
 refine bodyPost_ret (v:=.int .i64 (cmpI y x)) (by simp[results,Tryz.results133,go_sem]) rfl ?_
 exact⟨by unfold cfO;rw[HX.out,HY.out],HXA.out⟩
def odL (L:List Int):List Int:=(List.range L.length).map fun i=>((ordS (ltO (cfO L)) L.length i:Nat):Int)
theorem odL_row (L:List Int):rowO (ordS (ltO (cfO L)) L.length) L.length=(odL L).map iv:=by
 unfold rowO odL;rw[List.map_map];rfl
theorem odL_len (L:List Int):(odL L).length=L.length:=by simp[odL]
def upI (m:Nat):List Int:=(List.range m).map fun i:Nat=>(i:Int)
theorem upI_len (m:Nat):(upI m).length=m:=by simp[upI]
theorem upI_succ (m:Nat):upI (m+1)=upI m++[(m:Int)]:=by unfold upI;rw[List.range_succ,List.map_append];rfl
theorem upI_row (m:Nat):(upI m).map iv=rowO id m:=by unfold rowO upI;rw[List.map_map];rfl
set_option maxHeartbeats 4000000 in
set_option maxRecDepth 20000 in
theorem implOrderDemands_any (v:Value) (n:Net) (v1:Value) (fm:List (Int × Int)) (v2:Value) (l:List Fib) (w:World) (h:NetIn w v n) (h1:FmIn w v1 fm) (h2:DmIn w v2 l) :
  Calls Tryz.prog 81 #[v,v1,v2] w fun e w'=>∃ p c,e=.returned (.tuple #[.slice p (odL (costL n fm l)).length c,.bool (costB n fm l)])∧Own w' w.heap.size 3 p ((odL (costL n fm l)).map iv)∧Fresh w w':=by
 obtain⟨pf,cf,rfl,hfm,hfl⟩:=h1
 obtain⟨p,c,rfl,hl,hln⟩:=h2
 have HN:=Lib.hid h
 have HP:=Lib.hid hfm
 have HL:=Lib.hid hl
 obtain⟨qn,cn,pn,cp,rfl,_,_,n1,_,_,_,_⟩:=h
 obtain⟨W2,hW2⟩:∃ W,W=w.alloc (.cells #[.slice qn n.nodes.length cn,.slice pn n.fibers.length cp] 35):=⟨_,rfl⟩
 have hf2:Fresh w W2:=by rw[hW2];exact fnew (frefl _) _
 have HF2:=Lib.hid hf2
 have HW2:=Lib.hid hW2
 have HC:=Lib.hid (costsOf_any (.agg #[.slice qn n.nodes.length cn,.slice pn n.fibers.length cp]) n pf cf fm p c l W2 (HN.out.keep hf2) (HP.out.keep hf2) hfl (HL.out.keep hf2) hln)
 have h12:=costL_len n fm l
 have HNO:Hid (costB n fm l=false→costL n fm l=[]):=costL_no
 have HYS:Hid (costB n fm l=true→(costL n fm l).length=l.length):=fun h=>by rw[costL_yes h,List.length_map]
 obtain⟨L,hL⟩:∃ L,L=costL n fm l:=⟨_,rfl⟩
 obtain⟨ok,hok⟩:∃ b,b=costB n fm l:=⟨_,rfl⟩
 rw[← hL,← hok] at HC HNO HYS
 rw[← hL] at h12
 rw[← hL,← hok]
 have hsz:=hf2.size
 have hmf:∀ (fn:Fn) (first cap:Array Value) (w:World),(Instr.makeFunc fn first cap).run Tryz.prog w=.ok (.func fn first cap) w:=fun _ _ _ _=>rfl
 clear hfm hl hf2 hW2 hL hok
 go_enter Tryz.func81,Tryz.ntmps81
 go_wp2_with fail
 rw[← HW2.out]
 refine(HC.out).mono ?_
 rintro e w3 ⟨q,k,rfl,ho,hf⟩
 obtain⟨W4,hW4⟩:∃ W,W=w3.alloc (.cells #[.slice q L.length k] 29):=⟨_,rfl⟩
 have hf4:Fresh w3 W4:=by rw[hW4];exact fnew (frefl _) _
 have HRB:Hid (RowAt W4 w3.heap.size 29 [.slice q L.length k]):=by show RowAt _ _ _ _;rw[hW4];exact RowAt.new _ _ _
 have HO4:=Lib.hid ((ho.mono hsz).keep hf4)
 have HF4:=Lib.hid (fstep HF2.out (fstep hf hf4))
 have HW4:=Lib.hid hW4
 clear ho hf hf4 hW4 HC
 cases ok
 ·have HM:=Lib.hid (HNO.out rfl)
  go_wp2
  rw[← HW4.out]
  go_ret2
  exact⟨none,0,by rw[HM.out];rfl,Or.inl ⟨rfl,by rw[HM.out];rfl⟩,HF4.out⟩
 ·have hLl:=HYS.out rfl
  have hsz4:W4.heap.size=w3.heap.size+1:=by rw[HW4.out];simp
  have HO0:Hid ((W4.alloc (.cells #[] 3)).ownsRow W4.heap.size 3 1 (.slice (some ⟨w3.heap.size+1,0,none⟩) 0 0) 0 []):=ownsRow_zero (by have h9:=RowAt.new W4 3 [];rw[hsz4] at h9;exact h9) (by omega)
  clear hsz4
  have HF5:=Lib.hid (fnew (frefl W4) (.cells #[] 3))
  have hL2:l.length=L.length:=hLl.symm
  have HL2:=Lib.hid hL2
  clear hLl hL2
  go_wp2
  rw[← HW4.out]
  go_loopw [10,24] (fun o i wr=>∃ j:Nat,j≤l.length∧i=.int .i64 j∧wr.ownsRow W4.heap.size 3 1 o (upI j).length ((upI j).map iv)∧Fresh W4 wr) (fun _ i _=>l.length - (intOf i).toNat)
  case atStart=>exact⟨0,Nat.zero_le _,rfl,HO0.out,HF5.out⟩
  case round =>
   obtain⟨j,hj,rfl,hown,hf⟩:=hrel
   clear HO0
   by_cases hlt:j<l.length
   ·have hltz:(j:Int)<(l.length:Int):=by omega
    have HF:=Lib.hid hf
    have hul:=upI_len j
    have HUS:=Lib.hid (upI_succ j)
    obtain⟨U,hU⟩:∃ U,U=upI j:=⟨_,rfl⟩
    rw[← hU] at hown hul HUS
    have hul2:U.length≤1048576:=by omega
    clear hf hU hul
    go_wp2_with (at_builtin;refine wpList_app_ints W4 wr _ U (j:Int) rfl _ _ rfl rfl hown rfl (by omega) HF.out ?_;intro v' w9 hown9 hf9)
    have HO9:=Lib.hid hown9
    have HFX:=Lib.hid hf9
    clear hown hown9 hf9
    go_wp2
    go_roundw
    case rel=>exact⟨j+1,hlt,by go_num,by rw[HUS.out];exact HO9.out,HFX.out⟩
    case measure=>simp[intOf];omega
   ·have hltz:¬ (j:Int)<(l.length:Int):=by omega
    have hje:j=L.length:=by have:=HL2.out;omega
    have HF:=Lib.hid hf
    obtain⟨qo,ko,rfl,_,_,_⟩:=owns_cap hown
    rw[upI_row,upI_len] at hown
    rw[upI_len]
    subst hje
    have HOW:=Lib.hid hown
    clear hown hf
    by_cases hz:L.length=0
    ·have HS0:=Lib.hid (sort0_any qo ko w3.heap.size wr)
     have HLZ:Hid (L=[]):=List.eq_nil_of_length_eq_zero hz
     rw[hz] at HOW ⊢
     go_wp2_with fail
     refine(HS0.out).mono ?_
     rintro e W1 ⟨rfl,rfl⟩
     go_wp2
     go_ret2
     obtain⟨q9,k9,e9,ho⟩:=own_of_row HOW.out
     cases e9
     exact⟨qo,ko,by rw[HLZ.out];rfl,by rw[HLZ.out];exact ho.mono (by have:=HF4.out.size;omega),fstep HF4.out HF.out⟩
    ·obtain⟨g,sp,rfl,hg,hr,_,_,_⟩:=owns_rowC HOW.out (by omega)
     have hbg:w3.heap.size<W4.heap.size:=HRB.out.lt
     have HCMP:Hid (CmpO g L.length w3.heap.size (cfO L) wr):=by
      intro i j W hi hj hS
      have hne:w3.heap.size≠g:=by omega
      refine odClo_any w3.heap.size q k L i j W ((hS.1 _ _ _ (HRB.out.keep HF.out) hne).cell (i:=0) rfl) ?_ hi hj (by omega)
      rcases HO4.out with⟨e1,e2⟩|⟨g',sp',e1,_,hr'⟩
      ·exact(hz (by rw[List.map_eq_nil_iff.1 e2];rfl)).elim
      ·have h0:Own W 0 3 q (L.map iv):=Or.inr ⟨g',sp',e1,Nat.zero_le _,hS.1 _ _ _ (hr'.keep HF.out) (by have:=hr'.lt;omega)⟩
       exact h0.ints
     have HSORT:=Lib.hid (sortStableO_any g ko L.length w3.heap.size (cfO L) (swo_cfO L) sp wr HCMP.out hr h12)
     clear hr HCMP
     go_wp2_with fail
     refine(HSORT.out).mono ?_
     rintro e W1 ⟨rfl,hr1,hs1⟩
     have HR1:=Lib.hid hr1
     have HS1:=Lib.hid hs1
     clear hr1 hs1 HSORT
     go_wp2
     go_ret2
     have hfr:=HS1.out.2 W4 HF.out hg
     have hr1:=HR1.out
     rw[odL_row] at hr1
     exact⟨_,ko,by rw[odL_len];rfl,Or.inr ⟨g,sp,rfl,by have:=HF4.out.size;omega,hr1⟩,fstep HF4.out hfr⟩
def odT (L:List Int) (j:Nat):List Int:=(List.range j).map fun i=>((ordS (ltO (cfO L)) j i:Nat):Int)
theorem odT_len (L:List Int) (j:Nat):(odT L j).length=j:=by simp[odT]
theorem odT_get {L:List Int} {j i:Nat} (h:i<j):(odT L j)[i]?=some ((ordS (ltO (cfO L)) j i:Nat):Int):=by
 unfold odT;rw[List.getElem?_map,List.getElem?_range h];rfl
theorem odT_step {L:List Int} {j k:Nat} (hk:k=insAt (ltO (cfO L)) (ordS (ltO (cfO L)) j) j j):(odT L j).take k++[(j:Int)]++(odT L j).drop k=odT L (j+1):=by
 have hle:k≤j:=by rw[hk];exact insAt_le _ _ _ _
 have hlen:=odT_len L j
 apply List.ext_getElem?
 intro t
 rcases Nat.lt_or_ge t (j+1) with h|h
 ·rw[odT_get h]
  have e:ordS (ltO (cfO L)) (j+1) t=rot (ordS (ltO (cfO L)) j) k j (j+1) t:=by rw[hk];rfl
  rw[e,List.append_assoc]
  rcases Nat.lt_trichotomy t k with h1|h1|h1
  ·rw[List.getElem?_append_left (by rw[List.length_take];omega),List.getElem?_take_of_lt h1,odT_get (by omega),rot_be _ hle h1]
  ·subst h1
   rw[List.getElem?_append_right (by rw[List.length_take];omega),List.length_take,Nat.min_eq_left (by omega),rot_at _ hle,ordS_out _ _ _ (Nat.le_refl _)]
   simp
  ·rw[List.getElem?_append_right (by rw[List.length_take];omega),List.length_take,Nat.min_eq_left (by omega)]
   obtain⟨u,hu⟩:∃ u,t - k=u+1:=⟨t - k - 1,by omega⟩
   rw[hu,List.singleton_append,List.getElem?_cons_succ,List.getElem?_drop,odT_get (by omega),rot_hi (by omega)]
   congr 3
   omega
 ·rw[List.getElem?_eq_none (by rw[List.length_append,List.length_append,List.length_take,List.length_drop];simp;omega),List.getElem?_eq_none (by rw[odT_len];exact h)]
theorem ones_iv (l:List Int):∀ u∈l.map iv,u.oneCell'=true:=by
 intro u hu
 obtain⟨x,_,rfl⟩:=List.mem_map.1 hu
 rfl
theorem partI_a {W:World} {base:Nat} {r:Option Addr} {l:List Int} (k:Nat) (h:Own W base 3 r (l.map iv)):Cells W r ((l.take k).map iv):=by
 rcases h.cells with h|⟨b,off,e,h⟩
 ·left
  have:l=[]:=List.map_eq_nil_iff.1 h
  rw[this];simp
 ·refine Or.inr ⟨b,off,e,fun j u hj=>h j u ?_⟩
  rw[List.map_take] at hj
  have hlt:j<k:=by
   rcases Nat.lt_or_ge j k with h' | h'
   ·exact h'
   ·rw[List.getElem?_eq_none (by rw[List.length_take];omega)] at hj;cases hj
  rwa [List.getElem?_take_of_lt hlt] at hj
theorem partI_b {W:World} {base g:Nat} {l:List Int} {cap k:Nat} (hk:k≤l.length) (hc:l.length≤cap) (h:Own W base 3 (some ⟨g,0,none⟩) (l.map iv)):Cells W (if cap=k then (some (⟨g,0,none⟩:Addr)) else some ⟨g,k,none⟩) ((l.drop k).map iv):=by
 by_cases hck:cap=k
 ·left
  rw[List.map_eq_nil_iff,List.drop_eq_nil_iff];omega
 ·rw[if_neg hck]
  rcases h with⟨h0,_⟩|⟨g',sp,h1,_,hW⟩
  ·cases h0
  ·cases h1
   refine Or.inr ⟨g,k,rfl,fun j u hj=>?_⟩
   rw[List.map_drop,List.getElem?_drop] at hj
   exact hW.cell (by rw[List.getElem?_append_left (List.getElem?_eq_some_iff.1 hj).1];exact hj)
set_option maxHeartbeats 8000000 in
set_option maxRecDepth 100000 in
theorem specOrderDemands_any (v:Value) (n:Net) (v1:Value) (fm:List (Int × Int)) (v2:Value) (l:List Fib) (w:World) (h:NetIn w v n) (h1:FmIn w v1 fm) (h2:DmIn w v2 l) :
  Calls Tryz.prog 80 #[v,v1,v2] w fun e w'=>∃ p c,e=.returned (.tuple #[.slice p (odL (costL n fm l)).length c,.bool (costB n fm l)])∧Own w' w.heap.size 3 p ((odL (costL n fm l)).map iv)∧Fresh w w':=by
 obtain⟨pf,cf,rfl,hfm,hfl⟩:=h1
 obtain⟨p,c,rfl,hl,hln⟩:=h2
 have HN:=Lib.hid h
 have HP:=Lib.hid hfm
 have HL:=Lib.hid hl
 obtain⟨qn,cn,pn,cp,rfl,_,_,n1,_,_,_,_⟩:=h
 obtain⟨W2,hW2⟩:∃ W,W=(w.alloc (.cells #[.slice qn n.nodes.length cn,.slice pn n.fibers.length cp] 35)).alloc (.cells #[] 3):=⟨_,rfl⟩
 have hf2:Fresh w W2:=by rw[hW2];exact fnew (fnew (frefl _) _) _
 have hr0:RowAt W2 (w.heap.size+1) 3 []:=by
  rw[hW2]
  have:=RowAt.new (w.alloc (.cells #[.slice qn n.nodes.length cn,.slice pn n.fibers.length cp] 35)) 3 []
  simpa using this
 have HF2:=Lib.hid hf2
 have HW2:=Lib.hid hW2
 have HO2:Hid (W2.ownsRow w.heap.size 3 1 (.slice (some ⟨w.heap.size+1,0,none⟩) 0 0) 0 []):=ownsRow_zero hr0 (by omega)
 have HC:=Lib.hid (l10Costs_any (.agg #[.slice qn n.nodes.length cn,.slice pn n.fibers.length cp]) n pf cf fm p c l W2 (HN.out.keep hf2) (HP.out.keep hf2) hfl (HL.out.keep hf2) hln)
 unfold OutCo at HC
 have h12:=costL_len n fm l
 have HNO:Hid (costB n fm l=false→costL n fm l=[]):=costL_no
 obtain⟨M,hM⟩:∃ L,L=costL n fm l:=⟨_,rfl⟩
 obtain⟨ok,hok⟩:∃ b,b=costB n fm l:=⟨_,rfl⟩
 rw[← hM,← hok] at HC HNO
 rw[← hM] at h12
 rw[← hM,← hok]
 have hsz:=hf2.size
 clear hfm hl hf2 hr0 hW2 hM hok
 go_enter Tryz.func80,Tryz.ntmps80
 go_wp2_with fail
 rw[← HW2.out]
 refine(HC.out).mono ?_
 rintro e w3 ⟨L,q,k0,rfl,ho,hLM,hf⟩
 have HF3:=Lib.hid (fstep HF2.out hf)
 have HO3:=Lib.hid (ownsRow_keep HO2.out hf)
 have HCO:=Lib.hid ho
 have HLM:=Lib.hid hLM
 clear ho hf hLM HC
 cases ok
 ·have HM:=Lib.hid (HNO.out rfl)
  go_wp2
  go_ret2
  obtain⟨q9,k9,e9,ho⟩:=own_of_row HO3.out
  cases e9
  exact⟨_,_,by rw[HM.out];rfl,by rw[HM.out];exact ho,HF3.out⟩
 ·obtain rfl:L=M:=HLM.out rfl
  clear HLM HNO
  go_wp2
  go_loopw [8,11] (fun o i wr=>∃ j:Nat,j≤L.length∧i=.int .i64 j∧wr.ownsRow w.heap.size 3 1 o (odT L j).length ((odT L j).map iv)∧Ints wr q L∧Fresh w wr) (fun _ i _=>L.length - (intOf i).toNat)
  case atStart=>exact⟨0,Nat.zero_le _,rfl,HO3.out,HCO.out.ints,HF3.out⟩
  case round =>
   obtain⟨j,hj,rfl,hown,hci,hf⟩:=hrel
   obtain⟨wo,rfl⟩:∃ wo,wo=wr:=⟨_,rfl⟩
   by_cases hlt:j<L.length
   ·have hltz:(j:Int)<(L.length:Int):=by omega
    obtain⟨qo,co,rfl,hoo,hco1,hco2⟩:=owns_cap hown
    rw[odT_len] at hco1 ⊢
    have HOO:=Lib.hid hoo
    have HCI:=Lib.hid hci
    have HF:=Lib.hid hf
    obtain⟨pos,hpos⟩:∃ k,k=insAt (ltO (cfO L)) (ordS (ltO (cfO L)) j) j j:=⟨_,rfl⟩
    have HPOS:=Lib.hid hpos
    have hple:pos≤j:=by rw[hpos];exact insAt_le _ _ _ _
    have HSN:Hid (∀ i,i<j→ordS (ltO (cfO L)) j i<j):=fun i hi=>ordS_lt _ hi
    clear hown hoo hci hf hpos
    go_wp2
    go_loopw [12] (fun v wr=>∃ k:Nat,k≤j∧v=.int .i64 k∧Hid (insAt (ltO (cfO L)) (ordS (ltO (cfO L)) j) j k=pos)∧Fresh wo wr) (fun v _=>(intOf v).toNat)
    case atStart=>exact⟨j,Nat.le_refl _,rfl,HPOS.out.symm,frefl _⟩
    case round =>
     obtain⟨k,hkj,rfl,HIN,hfi⟩:=hrel
     have HFI:=Lib.hid hfi
     have hstep:(0<k∧ltO (cfO L) j (ordS (ltO (cfO L)) j (k - 1))=true)∨k=pos:=by
      have hin:=HIN.out
      cases k with
      | zero=>right;exact hin
      | succ kp =>
       cases hc:ltO (cfO L) j (ordS (ltO (cfO L)) j kp)
       ·right
        unfold insAt at hin
        rw[if_neg (by rw[hc];simp)] at hin
        exact hin
       ·left;exact⟨by omega,hc⟩
     rcases hstep with⟨hk0,hcmp⟩|hkp
     ·obtain⟨kp,hkp⟩:∃ kp,k=kp+1:=⟨k - 1,by omega⟩
      have ekp:k - 1=kp:=by omega
      rw[ekp] at hcmp
      have HIN2:Hid (insAt (ltO (cfO L)) (ordS (ltO (cfO L)) j) j kp=pos):=by
       have hin:=HIN.out
       rw[hkp] at hin
       unfold insAt at hin
       rwa [if_pos hcmp] at hin
      obtain⟨m,hm⟩:∃ m,m=ordS (ltO (cfO L)) j kp:=⟨_,rfl⟩
      have hmj:m<j:=by rw[hm];exact HSN.out kp (by omega)
      rw[← hm,ltO_cfO] at hcmp
      obtain⟨b1,o1,z,e1,hz,z0⟩:=(HOO.out.ints.keep hfi).at (k:=kp) (by rw[odT_len];omega)
      rw[odT_get (by omega),← hm] at hz
      cases hz
      obtain⟨b2,o2,x,e2,hx,x0⟩:=(HCI.out.keep hfi).at hlt
      obtain⟨b3,o3,y,e3,hy,y0⟩:=(HCI.out.keep hfi).at (show m<L.length by omega)
      subst e1
      subst e2
      cases e3
      have hxy:=of_decide_eq_true hcmp
      rw[kO_is hx,kO_is hy] at hxy
      have w1:IntKind.i64.wrap ((k:Int) - 1)=(k:Int) - 1:=by rw[IntKind.wrap_i64] <;> omega
      have t1:((k:Int) - 1).toNat=kp:=by omega
      have p1:(0:Int)≤(k:Int) - 1:=by omega
      have zk:(k:Int) - 1<(j:Int):=by omega
      have zm:(m:Int)<(L.length:Int):=by omega
      have hk0z:(0:Int)<(k:Int):=by omega
      have x0w:=fun xa:After wr=>akeep x0 xa
      have y0w:=fun xa:After wr=>akeep y0 xa
      have z0w:=fun xa:After wr=>akeep z0 xa
      have HKP:=Lib.hid hkp
      clear hx hy hm hcmp hfi hkp ekp HIN
      go_wp2
      refine wp_region_after (by kernel_rfl) (by kernel_rfl) ?_
      repeat (go_big_quiet_step (fail))
      refine wpQuiet_nil ?_
      rintro _ ⟨xa,rfl⟩
      have HXA:=Lib.hid xa.h
      clear x0 y0 z0 x0w y0w z0w
      go_wp2
      go_roundw
      case rel=>exact⟨kp,by have:=HKP.out;omega,by have:=HKP.out;rw[show(k:Int) - 1=(kp:Int) by omega],HIN2.out,fstep HFI.out HXA.out⟩
      case measure=>have:=HKP.out;simp[intOf];omega
     ·have HIN3:=HIN.out
      have hcmpf:∀ kp,k=kp+1→ltO (cfO L) j (ordS (ltO (cfO L)) j kp)=false:=by
       intro kp e
       cases hc:ltO (cfO L) j (ordS (ltO (cfO L)) j kp)
       ·rfl
       ·exfalso
        rw[e] at HIN3 hkp
        unfold insAt at HIN3
        rw[if_pos hc] at HIN3
        have:=insAt_le (ltO (cfO L)) (ordS (ltO (cfO L)) j) j kp
        omega
      clear HIN3 HIN
      subst hkp
      rcases Nat.eq_zero_or_pos k with hkz|hkz
      focus
       have hkd:¬ (0:Int)<(k:Int):=by omega
       have hkd2:decide (0<k)=false:=decide_eq_false (by omega)
       clear hcmpf hfi hkz
       go_wp2
       refine wp_region_after (by kernel_rfl) (by kernel_rfl) ?_
       repeat (go_big_quiet_step (fail))
       refine wpQuiet_nil ?_
       rintro _ ⟨xa,rfl⟩
       have hxa:=xa.h
       go_wp2
       clear hkd hkd2
      rotate_left
      focus
       obtain⟨kp,hkp⟩:∃ kp,k=kp+1:=⟨k - 1,by omega⟩
       have hcmp:=hcmpf kp hkp
       obtain⟨m,hm⟩:∃ m,m=ordS (ltO (cfO L)) j kp:=⟨_,rfl⟩
       have hmj:m<j:=by rw[hm];exact HSN.out kp (by omega)
       rw[← hm,ltO_cfO] at hcmp
       obtain⟨b1,o1,z,e1,hz,z0⟩:=(HOO.out.ints.keep hfi).at (k:=kp) (by rw[odT_len];omega)
       rw[odT_get (by omega),← hm] at hz
       cases hz
       obtain⟨b2,o2,x,e2,hx,x0⟩:=(HCI.out.keep hfi).at hlt
       obtain⟨b3,o3,y,e3,hy,y0⟩:=(HCI.out.keep hfi).at (show m<L.length by omega)
       subst e1
       subst e2
       cases e3
       have hxy:=of_decide_eq_false hcmp
       rw[kO_is hx,kO_is hy] at hxy
       have w1:IntKind.i64.wrap ((k:Int) - 1)=(k:Int) - 1:=by rw[IntKind.wrap_i64] <;> omega
       have t1:((k:Int) - 1).toNat=kp:=by omega
       have p1:(0:Int)≤(k:Int) - 1:=by omega
       have zk:(k:Int) - 1<(j:Int):=by omega
       have zm:(m:Int)<(L.length:Int):=by omega
       have hk0z:(0:Int)<(k:Int):=by omega
       have x0w:=fun xa:After wr=>akeep x0 xa
       have y0w:=fun xa:After wr=>akeep y0 xa
       have z0w:=fun xa:After wr=>akeep z0 xa
       clear hx hy hm hcmp hfi hkp hcmpf
       go_wp2
       refine wp_region_after (by kernel_rfl) (by kernel_rfl) ?_
       repeat (go_big_quiet_step (fail))
       refine wpQuiet_nil ?_
       rintro _ ⟨xa,rfl⟩
       have hxa:=xa.h
       go_wp2
       clear x0 y0 z0 x0w y0w z0w hxy w1 t1 p1 zk zm hk0z hmj hkz
       obtain⟨qo,hqo⟩:∃ q:Option Addr,q=some ⟨b1,o1,none⟩:=⟨_,rfl⟩
       rw[← hqo] at HOO ⊢
       clear hqo
      all_goals (
       obtain⟨W6,hW6⟩:∃ W,W=xa.w':=⟨_,rfl⟩
       have hf6:Fresh wo W6:=by rw[hW6];exact fstep HFI.out hxa
       rw[← hW6]
       have HO6:=Lib.hid (HOO.out.keep hf6)
       have HCI6:=Lib.hid (HCI.out.keep hf6)
       have HF6:=Lib.hid (fstep HF.out hf6)
       clear hxa hf6 hW6
       have HTK:Hid ((((odT L j).take k).map iv).length=k * 1):=by show _=_;rw[List.length_map,List.length_take,odT_len];omega
       have HDK:Hid ((((odT L j).drop k).map iv).length=(j - k) * 1):=by show _=_;rw[List.length_map,List.length_drop,odT_len];omega
       have b1:k≤co:=by omega
       have n1:k≤1048576:=by omega
       have n2:j - k≤1048576:=by omega
       obtain⟨A,hA,hPB⟩:∃ A:Option Addr,(∀ W,Own W w.heap.size 3 qo ((odT L j).map iv)→Cells W A (((odT L j).drop k).map iv))∧((qo=none∧A=none)∨∃ g,qo=some ⟨g,0,none⟩∧A=if co=k then (some (⟨g,0,none⟩:Addr)) else some ⟨g,k,none⟩):=by
        rcases HO6.out with⟨rfl,h0⟩|⟨g,sp,rfl,_,hW⟩
        ·refine⟨none,fun W hW=>?_,Or.inl ⟨rfl,rfl⟩⟩
         left
         have h2:odT L j=[]:=List.map_eq_nil_iff.1 h0
         rw[h2];simp
        ·exact⟨_,fun W hW=>partI_b (by rw[odT_len];exact hkj) (by rw[odT_len];exact hco1) hW,Or.inr ⟨g,rfl,rfl⟩⟩
       have HPB:=Lib.hid hA
       clear hA
       rcases hPB with⟨rfl,rfl⟩|⟨g,rfl,hA⟩
       rotate_left
       focus
        have hA':=hA.symm
        clear hA
       all_goals (
       refine hd_start (n:=12) (S:=fun _=>True) (by kernel_rfl) (by kernel_rfl) trivial (fun hHeld=>?_)
       obtain⟨c0,hc0⟩:∃ W,W=W6.drew:=⟨_,rfl⟩
       rw[← hc0]
       have fc0:Fresh W6 c0:=by rw[hc0];exact fdrew (frefl _)
       clear hc0
       refine hd_tk (i:=1) (v:=?_) rfl ?_ ?_
       rotate_left
       ·(intro w hSw;(try dsimp only at hSw);go_simp;first|done|with_reducible rfl)
       refine hd_tk (i:=2) (v:=?_) rfl ?_ ?_
       rotate_left
       ·(intro w hSw;(try dsimp only at hSw);go_simp;first|done|with_reducible rfl)
       refine hd_tk (i:=3) (v:=?_) rfl ?_ ?_
       rotate_left
       ·(intro w hSw;(try dsimp only at hSw);go_simp;first|done|with_reducible rfl)
       refine hd_tk (i:=5) (v:=?_) rfl ?_ ?_
       rotate_left
       ·(intro w hSw;(try dsimp only at hSw);go_simp;first|done|with_reducible rfl)
       refine hd_tk (i:=8) (v:=?_) rfl ?_ ?_
       rotate_left
       ·(intro w hSw;(try dsimp only at hSw);go_simp;first|done|with_reducible rfl)
       refine hd_tk (i:=9) (v:=?_) rfl ?_ ?_
       rotate_left
       ·(intro w hSw;(try dsimp only at hSw);go_simp;first|done|with_reducible rfl)
       refine hd_tk (i:=10) (v:=?_) rfl ?_ ?_
       rotate_left
       ·(intro w hSw;(try dsimp only at hSw);go_simp;first|done|with_reducible rfl)
       refine hd_ready (rs:=[0,6]) (by kernel_rfl) (by simp) ?_
       refine hd_cons (i:=0) rfl (by kernel_rfl) (fun K hK=>?_) ?_
       focus
        go_simp
        obtain⟨wa,hwa⟩:∃ W,W=c0.alloc (.cells #[] 3):=⟨_,rfl⟩
        rw[← hwa]
        have fa:Fresh W6 wa:=by rw[hwa];exact fnew fc0 _
        obtain⟨ga,hga⟩:∃ g,g=c0.heap.size:=⟨_,rfl⟩
        have ra:RowAt wa ga 3 []:=by rw[hwa,hga];exact RowAt.new _ _ _
        have hgl:W6.heap.size≤ga:=by rw[hga];exact fc0.size
        rw[← hga]
        have hal:c0.heap.size≤ga:=by rw[hga];exact Nat.le_refl _
        clear hwa hga
        refine hK.out _ _ trivial (fun hHeld=>?_)
        clear hK K
        try simp only[Act.put,List.getElem_toArray,List.getElem_cons_succ,List.getElem_cons_zero,List.setIfInBounds_toArray,List.set_cons_zero,List.set_cons_succ]
        refine hd_ready (rs:=[4,6]) (by kernel_rfl) (by simp) ?_
        refine hd_cons (i:=4) rfl (by kernel_rfl) (fun K hK=>?_) ?_
        focus
         refine step_app_mm (some 55) rfl Tryz.underlying29 infoInt rfl (by decide) (by decide) W6 (.slice (some ⟨ga,0,none⟩) 0 0) 0 [] _ k co (((odT L j).take k).map iv) rfl _ _ rfl rfl (ownsRow_zero ra hgl) rfl (partI_a k (HO6.out.keep fa)) HTK.out (ones_iv _) (by omega) n1 fa ?_
         rw[Nat.zero_add,List.nil_append]
         intro q1 c1 x1 own1 f1 hk1
         clear hk1
         refine hK.out _ _ trivial (fun hHeld=>?_)
         clear hK K
         try simp only[Act.put,List.getElem_toArray,List.getElem_cons_succ,List.getElem_cons_zero,List.setIfInBounds_toArray,List.set_cons_zero,List.set_cons_succ]
         refine hd_one (i:=6) rfl (by kernel_rfl) (by kernel_rfl) (fun K hK=>?_)
         go_simp
         obtain⟨x3,hwb⟩:∃ W,W=x1.alloc (.cells #[.int .i64 (j:Int)] 3):=⟨_,rfl⟩
         rw[← hwb]
         have f3:Fresh W6 x3:=by rw[hwb];exact fnew f1 _
         obtain⟨gb,hgb⟩:∃ g,g=x1.heap.size:=⟨_,rfl⟩
         have rb:RowAt x3 gb 3 [iv (j:Int)]:=by rw[hwb,hgb];exact RowAt.new _ _ _
         rw[← hgb]
         have own3:=ownsRow_keep own1 (show Fresh x1 x3 by rw[hwb];exact fnew (frefl _) _)
         clear hwb hgb
         refine hK.out _ _ trivial (fun hHeld=>?_)
         clear hK K
         try simp only[Act.put,List.getElem_toArray,List.getElem_cons_succ,List.getElem_cons_zero,List.setIfInBounds_toArray,List.set_cons_zero,List.set_cons_succ]
         clear own1 f1 fa ra hal hgl
        rotate_left
        focus
         refine hd_cons (i:=6) rfl (by kernel_rfl) (fun K hK=>?_) hd_nil
         go_simp
         obtain⟨x1,hwb⟩:∃ W,W=wa.alloc (.cells #[.int .i64 (j:Int)] 3):=⟨_,rfl⟩
         rw[← hwb]
         have f1:Fresh W6 x1:=by rw[hwb];exact fnew fa _
         obtain⟨gb,hgb⟩:∃ g,g=wa.heap.size:=⟨_,rfl⟩
         have rb1:RowAt x1 gb 3 [iv (j:Int)]:=by rw[hwb,hgb];exact RowAt.new _ _ _
         rw[← hgb]
         have ra1:=ra.keep (show Fresh wa x1 by rw[hwb];exact fnew (frefl _) _)
         have hne:ga≠gb:=by have:=ra.lt;omega
         clear hwb hgb
         refine hK.out _ _ trivial (fun hHeld=>?_)
         clear hK K
         try simp only[Act.put,List.getElem_toArray,List.getElem_cons_succ,List.getElem_cons_zero,List.setIfInBounds_toArray,List.set_cons_zero,List.set_cons_succ]
         refine hd_one (i:=4) rfl (by kernel_rfl) (by kernel_rfl) (fun K hK=>?_)
         refine step_app_mm (some 55) rfl Tryz.underlying29 infoInt rfl (by decide) (by decide) W6 (.slice (some ⟨ga,0,none⟩) 0 0) 0 [] _ k co (((odT L j).take k).map iv) rfl _ _ rfl rfl (ownsRow_zero ra1 hgl) rfl (partI_a k (HO6.out.keep f1)) HTK.out (ones_iv _) (by omega) n1 f1 ?_
         rw[Nat.zero_add,List.nil_append]
         intro q1 c1 x3 own3 f3 hk1
         have rb:=hk1 _ _ _ rb1 (Or.inr fun e=>hne (by simpa [Value.ownBlock] using e))
         clear hk1
         refine hK.out _ _ trivial (fun hHeld=>?_)
         clear hK K
         try simp only[Act.put,List.getElem_toArray,List.getElem_cons_succ,List.getElem_cons_zero,List.setIfInBounds_toArray,List.set_cons_zero,List.set_cons_succ]
         clear f1 fa ra ra1 rb1 hne hal hgl
       rotate_left 2
       focus
        refine hd_cons (i:=6) rfl (by kernel_rfl) (fun K hK=>?_) hd_nil
        go_simp
        obtain⟨wb,hwb⟩:∃ W,W=c0.alloc (.cells #[.int .i64 (j:Int)] 3):=⟨_,rfl⟩
        rw[← hwb]
        have fb:Fresh W6 wb:=by rw[hwb];exact fnew fc0 _
        obtain⟨gb,hgb⟩:∃ g,g=c0.heap.size:=⟨_,rfl⟩
        have rb0:RowAt wb gb 3 [iv (j:Int)]:=by rw[hwb,hgb];exact RowAt.new _ _ _
        rw[← hgb]
        clear hwb hgb
        refine hK.out _ _ trivial (fun hHeld=>?_)
        clear hK K
        try simp only[Act.put,List.getElem_toArray,List.getElem_cons_succ,List.getElem_cons_zero,List.setIfInBounds_toArray,List.set_cons_zero,List.set_cons_succ]
        refine hd_one (i:=0) rfl (by kernel_rfl) (by kernel_rfl) (fun K hK=>?_)
        go_simp
        obtain⟨x1,hwa⟩:∃ W,W=wb.alloc (.cells #[] 3):=⟨_,rfl⟩
        rw[← hwa]
        have f1:Fresh W6 x1:=by rw[hwa];exact fnew fb _
        obtain⟨ga,hga⟩:∃ g,g=wb.heap.size:=⟨_,rfl⟩
        have ra:RowAt x1 ga 3 []:=by rw[hwa,hga];exact RowAt.new _ _ _
        have hgl:W6.heap.size≤ga:=by rw[hga];exact fb.size
        rw[← hga]
        have hal:wb.heap.size≤ga:=by rw[hga];exact Nat.le_refl _
        have rb1:=rb0.keep (show Fresh wb x1 by rw[hwa];exact fnew (frefl _) _)
        have hne:ga≠gb:=by have:=rb0.lt;omega
        clear hwa hga
        refine hK.out _ _ trivial (fun hHeld=>?_)
        clear hK K
        try simp only[Act.put,List.getElem_toArray,List.getElem_cons_succ,List.getElem_cons_zero,List.setIfInBounds_toArray,List.set_cons_zero,List.set_cons_succ]
        refine hd_one (i:=4) rfl (by kernel_rfl) (by kernel_rfl) (fun K hK=>?_)
        refine step_app_mm (some 55) rfl Tryz.underlying29 infoInt rfl (by decide) (by decide) W6 (.slice (some ⟨ga,0,none⟩) 0 0) 0 [] _ k co (((odT L j).take k).map iv) rfl _ _ rfl rfl (ownsRow_zero ra hgl) rfl (partI_a k (HO6.out.keep f1)) HTK.out (ones_iv _) (by omega) n1 f1 ?_
        rw[Nat.zero_add,List.nil_append]
        intro q1 c1 x3 own3 f3 hk1
        have rb:=hk1 _ _ _ rb1 (Or.inr fun e=>hne (by simpa [Value.ownBlock] using e))
        clear hk1
        refine hK.out _ _ trivial (fun hHeld=>?_)
        clear hK K
        try simp only[Act.put,List.getElem_toArray,List.getElem_cons_succ,List.getElem_cons_zero,List.setIfInBounds_toArray,List.set_cons_zero,List.set_cons_succ]
        clear f1 fb ra rb0 rb1 hne hal hgl
       all_goals (
        refine hd_one (i:=7) rfl (by kernel_rfl) (by kernel_rfl) (fun K hK=>?_)
        (refine step_app_mm (some 58) rfl Tryz.underlying29 infoInt rfl (by decide) (by decide) W6 _ k (((odT L j).take k).map iv) (some ⟨gb,0,none⟩) 1 1 [iv (j:Int)] rfl _ _ rfl rfl own3 rfl rb.cells rfl (by intro u hu;simp at hu;subst hu;rfl) n1 (by decide) f3 ?_;intro q4 c4 x4 own4 f4 hk4)
        refine hK.out _ _ ?_ (fun hHeld=>?_)
        ·trivial
        clear hK K
        refine hd_one (i:=11) rfl (by kernel_rfl) (by kernel_rfl) (fun K hK=>?_)
        (refine step_app_mm (some 62) rfl Tryz.underlying29 infoInt rfl (by decide) (by decide) W6 _ (k+1) (((odT L j).take k).map iv++[iv (j:Int)]) _ (j - k) (co - k) (((odT L j).drop k).map iv) rfl _ _ rfl rfl own4 rfl (HPB.out _ (HO6.out.keep f4)) HDK.out (ones_iv _) (by omega) n2 f4 ?_;intro q5 c5 x5 own5 f5 hk5)
        refine hK.out _ _ ?_ (fun hHeld=>?_)
        ·trivial
        clear hK K
        refine hd_done (by kernel_rfl) ?_
        clear hHeld
        simp only[List.drop_succ_cons,List.drop_zero]
        have HO5:=Lib.hid own5
        have HF5:=Lib.hid f5
        clear own5 f5 own4 f4 own3 f3 rb hk4 hk5 fc0
        go_wp2
        go_roundw
        case rel =>
         refine⟨j+1,hlt,by go_num,?_,HCI6.out.keep HF5.out,fstep HF6.out HF5.out⟩
         have ho:=HO5.out
         rw[← List.map_singleton (f:=iv),← List.map_append,← List.map_append,odT_step HPOS.out] at ho
         rw[odT_len]
         have e9:k+1+(j - k)=j+1:=by omega
         rw[e9] at ho ⊢
         exact owns_mono ho HF6.out.size
        case measure=>simp[intOf];omega)))
   ·have hltz:¬ (j:Int)<(L.length:Int):=by omega
    have hje:j=L.length:=by omega
    subst hje
    have HO:=Lib.hid hown
    have HF:=Lib.hid hf
    clear hown hf
    go_wp2
    go_ret2
    obtain⟨q9,k9,e9,ho⟩:=own_of_row HO.out
    subst e9
    first|exact⟨_,_,rfl,ho,HF.out⟩|exact⟨_,⟨_,rfl⟩,ho,HF.out⟩
end Go.Proofs.YteckjlkhopkogaaGreat
