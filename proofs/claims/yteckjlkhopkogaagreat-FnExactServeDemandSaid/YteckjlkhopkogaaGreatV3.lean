/- Texts of mine laid together (St6, St7). -/
import Derived.Test.YteckjlkhopkogaaGreatV2
import Derived.BigRegion
import Derived.Deep.DeepCutAuto
import Derived.Test.YteckjlkhopkogaaGreatSt5
/- Contracts: the insertion sort of choices. -/
namespace Go.Proofs.YteckjlkhopkogaaGreat
open Go.RowKit Go.PlainAid
def Inc1 (s:Nat→Nat) (a b:Nat):Prop:=∀ i j,a ≤ i→i < j→j < b→s i < s j
theorem Inc1.cx {s s':Nat→Nat} {a b i:Nat} (h:Inc1 s a b) (hp:PI a i s s') (_hai:a ≤ i) (hi:i < b):Cx s' a i (i + 1):=by
 have h0:Cx s a i (i + 1):=fun x y h1 h2 h3 h4=>h x y h1 (by omega) (by omega)
 exact hp.cx h0 (Or.inl ⟨Nat.le_refl _,Nat.le_refl _⟩)
theorem rot_at (s:Nat→Nat) {j i:Nat} (h:j ≤ i):rot s j i (i + 1) j = s i:=by
 rw [rot_lo (by omega)]; congr 1; omega
theorem rot_be (s:Nat→Nat) {j i k:Nat} (h:j ≤ i) (hk:k < j):rot s j i (i + 1) k = s k:=rot_out ⟨h,by omega⟩ (by omega)
set_option maxHeartbeats 4000000 in
set_option maxRecDepth 100000 in
theorem insSort_any (g c n:Nat) (D:Nat→CV) (cf:Nat→Nat→Int) (hw:Swo (ltO cf)) (hc:CmpD D cf) (sp:List Value) (s:Nat→Nat) (a b:Nat) (w:World) (h:RowAt w g 150 (rowC D s n ++ sp)) (hab:a ≤ b) (hbn:b ≤ n) (hn:n ≤ 1048576) (hx:Inc1 s a b) :
  Calls Tryz.prog 217 #[.slice (some ⟨g,0,none⟩) n c, .int .i64 (a:Int), .int .i64 (b:Int), .func (.func 168) #[] #[]] w fun e w'=>e = .returned (.tuple #[])∧∃ s',RowAt w' g 150 (rowC D s' n ++ sp)∧PI a b s s'∧Sg (ltO cf) s' a b∧Srt g w w':=by
 have HR:=Lib.hid h
 have HC:=Lib.hid hc
 have HX:=Lib.hid hx
 have HW:=Lib.hid hw
 clear h hc hx hw
 have k1:IntKind.i64.wrap ((a:Int) + 1) = (a:Int) + 1:=by rw [IntKind.wrap_i64] <;> omega
 go_enter Tryz.func217,Tryz.ntmps217
 go_wp2
 clear k1
 go_loopw [8] (fun vi wr=>∃ i:Nat,a + 1 ≤ i∧(i ≤ b ∨ i = a + 1)∧vi = .int .i64 i∧∃ s1,RowAt wr g 150 (rowC D s1 n ++ sp)∧Hid (PI a i s s1∧Sg (ltO cf) s1 a i)∧Srt g w wr) (fun i _=>b - (intOf i).toNat)
 case atStart=>exact ⟨a + 1,Nat.le_refl _,Or.inr rfl,by go_num,s,HR.out,⟨PI.refl _ _ _,fun i j h1 h2 h3=>by omega⟩,Srt.refl _ _⟩
 case round =>
  obtain ⟨i,hi,hib,rfl,s1,hr,HI,hs⟩:=hrel
  by_cases hlt:i < b
  ·have hltz:(i:Int) < (b:Int):=by omega
   have HR1:=Lib.hid hr
   have HS1:=Lib.hid hs
   clear hr hs hib
   go_wp2
   go_loopw [9] (fun vk wr2=>∃ k:Nat,a ≤ k∧k ≤ i∧vk = .int .i64 k∧RowAt wr2 g 150 (rowC D (rot s1 k i (i + 1)) n ++ sp)∧Hid (k = i ∨ ltO cf (s1 i) (s1 k) = true)∧Srt g w wr2) (fun k _=>(intOf k).toNat)
   case atStart=>exact ⟨i,by omega,Nat.le_refl _,rfl,by rw [rot_id1 s1 i (i + 1)]; exact HR1.out,Or.inl rfl,HS1.out⟩
   case round =>
    obtain ⟨k,hak,hki,rfl,hr,HK,hs⟩:=hrel
    have w5:IntKind.i64.wrap ((i:Int) + 1) = (i:Int) + 1:=by rw [IntKind.wrap_i64] <;> omega
    by_cases hak2:a < k
    ·have hakz:(a:Int) < (k:Int):=by omega
     obtain ⟨kp,hkp⟩:∃ kp,k = kp + 1:=⟨k - 1,by omega⟩
     have hAn:k < n:=by omega
     have hBn:kp < n:=by omega
     have hAB:k ≠ kp:=by omega
     have hBA:kp ≠ k:=by omega
     have w1:IntKind.i64.wrap ((k:Int) - 1) = (k:Int) - 1:=by rw [IntKind.wrap_i64] <;> omega
     have e1:((k:Int) - 1).toNat = kp:=by omega
     have p1:(0:Int) ≤ (k:Int) - 1:=by omega
     have zA:(k:Int) < (n:Int):=by omega
     have zB:(k:Int) - 1 < (n:Int):=by omega
     have HS:=Lib.hid hs
     have HR2:=Lib.hid hr
     obtain ⟨x0,x1,x2⟩:=rowC_cells hr hAn
     obtain ⟨y0,y1,y2⟩:=rowC_cells hr hBn
     rw [rot_at s1 hki] at x0 x1 x2
     rw [rot_be s1 hki (show kp < k by omega)] at y0 y1 y2
     have HCC:=Lib.hid (HC.out (s1 i) (s1 kp))
     obtain ⟨x,hx⟩:∃ x,x = D (s1 i):=⟨_,rfl⟩
     obtain ⟨y,hy⟩:∃ y,y = D (s1 kp):=⟨_,rfl⟩
     rw [← hx] at x0 x1 x2 HCC
     rw [← hy] at y0 y1 y2 HCC
     clear hr hs
     have HKP:=Lib.hid hkp
     have HXX:=Lib.hid hx
     have HYY:=Lib.hid hy
     clear hkp hx hy
     obtain ⟨xs,xq,xn,xc,xk⟩:=x
     obtain ⟨ys,yq,yn,yc,yk⟩:=y
     simp only at x0 x1 x2 y0 y1 y2 HCC
     have x0w:=fun xa:After wr=>akeep x0 xa
     have x1w:=fun xa:After wr=>akeep x1 xa
     have x2w:=fun xa:After wr=>akeep x2 xa
     have y0w:=fun xa:After wr=>akeep y0 xa
     have y1w:=fun xa:After wr=>akeep y1 xa
     have y2w:=fun xa:After wr=>akeep y2 xa
     obtain ⟨cv,hcv⟩:∃ v,v = cf (s1 i) (s1 kp):=⟨_,rfl⟩
     rw [← hcv] at HCC
     have HCV:=Lib.hid hcv
     clear hcv
     go_wp2
     refine wp_region_after (by kernel_rfl) (by kernel_rfl) ?_
     repeat (go_big_quiet_step (first | (go_at_call 168; exact after_call (HCC.out _))))
     refine wpQuiet_nil ?_
     rintro _ ⟨xa,rfl⟩
     have hxa:=xa.h
     clear x0w x1w x2w y0w y1w y2w x0 x1 x2 y0 y1 y2 HCC
     obtain ⟨W5,hW5⟩:∃ W,W = xa.w':=⟨_,rfl⟩
     rw [← hW5] at hxa ⊢
     have hr:=HR2.out.keep hxa
     have hs:=HS.out.trans (Srt.fresh hxa)
     clear hxa hW5
     by_cases hg:cv < 0
     ·go_upto_region 6 with fail
      have HV:Hid (ltO cf (s1 i) (s1 kp) = true):=by show _ = true; simp; rw [← HCV.out]; exact hg
      obtain ⟨s2,hs2⟩:∃ s2,s2 = rot s1 k i (i + 1):=⟨_,rfl⟩
      have HS2:Hid (sw1 s2 k kp = rot s1 kp i (i + 1)):=by show _ = _; rw [hs2,HKP.out]; exact rot_dn s1 i kp (by have:=HKP.out; omega)
      rw [← hs2] at hr
      clear hs2
      obtain ⟨x0,x1,x2⟩:=rowC_cells hr hAn
      obtain ⟨y0,y1,y2⟩:=rowC_cells hr hBn
      have f0:=hr.frozen (k * 3)
      have f1:=hr.frozen (k * 3 + 1)
      have f2:=hr.frozen (k * 3 + 2)
      have g0:=hr.frozen (kp * 3)
      have g1:=hr.frozen (kp * 3 + 1)
      have g2:=hr.frozen (kp * 3 + 2)
      have hsw:Hid (RowAt (swW W5 g k kp (D (s2 kp)) (D (s2 k))).drew g 150 (rowC D (rot s1 kp i (i + 1)) n ++ sp)):=by
       show RowAt _ _ _ _
       rw [← HS2.out]
       exact (row_sw hr hAn hBn).keep (fdrew (frefl _))
      have hss:Hid (Srt g w (swW W5 g k kp (D (s2 kp)) (D (s2 k))).drew):=((hs.sw _ _ _ _).trans (Srt.fresh (fdrew (frefl _))))
      obtain ⟨x,hx⟩:∃ x,x = D (s2 k):=⟨_,rfl⟩
      obtain ⟨y,hy⟩:∃ y,y = D (s2 kp):=⟨_,rfl⟩
      rw [← hx] at x0 x1 x2
      rw [← hy] at y0 y1 y2
      rw [← hx,← hy] at hsw hss
      clear hx hy hr hs
      obtain ⟨xs,xq,xn,xc,xk⟩:=x
      obtain ⟨ys,yq,yn,yc,yk⟩:=y
      unfold swW at hsw hss
      simp only at x0 x1 x2 y0 y1 y2 hsw hss
      go_big_region
      go_wp2
      go_roundw
      case rel =>
       have hkp9:=HKP.out
       have ez:(k:Int) - 1 = (kp:Int):=by omega
       have l1:a ≤ kp:=by omega
       have l2:kp ≤ i:=by omega
       exact ⟨kp,l1,l2,by rw [ez],hsw.out,Or.inr HV.out,hss.out⟩
      case measure=>have:=HKP.out; simp [intOf]; omega
     ·have HV:Hid (ltO cf (s1 i) (s1 (k - 1)) = false):=by
       show _ = false
       have e2:k - 1 = kp:=by have:=HKP.out; omega
       rw [e2]; simp; rw [← HCV.out]; omega
      have HFIN:=Lib.hid (And.intro hr hs)
      clear hr hs
      go_wp2
      go_roundw
      case rel =>
       refine ⟨i + 1,by omega,Or.inl (by omega),by go_num,_,HFIN.out.1,⟨?_,?_⟩,HFIN.out.2⟩
       ·exact (HI.out.1.wide (Nat.le_refl _) (by omega)).trans ((rot_pi s1 k i (i + 1) ⟨hki,by omega⟩).wide hak (Nat.le_refl _))
       ·exact rot_last HW.out ⟨hak,hki⟩ HI.out.2 (HX.out.cx HI.out.1 (by omega) hlt) (Or.inr HV.out) HK.out
      case measure=>simp [intOf]; omega
    ·have hakz:decide (a < k) = false:=by simpa using hak2
     have hka:k = a:=by omega
     clear hak2
     have HFIN:=Lib.hid (And.intro hr hs)
     have HKA:=Lib.hid hka
     clear hr hs hka
     go_wp2
     refine wp_region_after (by kernel_rfl) (by kernel_rfl) ?_
     repeat (go_big_quiet_step (fail))
     refine wpQuiet_nil ?_
     rintro _ ⟨xa,rfl⟩
     have hxa:=xa.h
     obtain ⟨W5,hW5⟩:∃ W,W = xa.w':=⟨_,rfl⟩
     rw [← hW5] at hxa ⊢
     have HF5:=Lib.hid hxa
     clear hxa hW5
     go_wp2
     go_roundw
     case rel =>
      refine ⟨i + 1,by omega,Or.inl (by omega),by go_num,_,HFIN.out.1.keep HF5.out,⟨?_,?_⟩,HFIN.out.2.trans (Srt.fresh HF5.out)⟩
      ·exact (HI.out.1.wide (Nat.le_refl _) (by omega)).trans ((rot_pi s1 k i (i + 1) ⟨hki,by omega⟩).wide hak (Nat.le_refl _))
      ·exact rot_last HW.out ⟨hak,hki⟩ HI.out.2 (HX.out.cx HI.out.1 (by omega) hlt) (Or.inl HKA.out) HK.out
     case measure=>simp [intOf]; omega
  ·have hltz:¬ (i:Int) < (b:Int):=by omega
   have HFIN:=Lib.hid (And.intro hr hs)
   clear hr hs
   go_wp2
   refine bodyPost_end (results_none rfl _ _ _) rfl ?_
   refine ⟨rfl,s1,HFIN.out.1,?_,?_,HFIN.out.2⟩
   ·by_cases hib2:i = b
    ·rw [← hib2]; exact HI.out.1
    ·have hba:b = a:=by omega
     have hia:i = a + 1:=by omega
     obtain ⟨f,g',e1,e2,e3,e4⟩:=HI.out.1
     subst hba
     subst hia
     have hid1:∀ x,f x = x:=by
      intro x
      by_cases hx:b ≤ x∧x < b + 1
      ·have hxb:x = b:=by omega
       subst hxb
       by_cases hy:f x = x
       ·exact hy
       ·have h3:=e3 (f x) (by omega)
        have h4:=e1 (f x)
        rw [h3,e1 x] at h4
        exact (hy h4.symm).elim
      ·exact e3 x hx
     exact ⟨f,g',e1,e2,fun x _=>hid1 x,e4⟩
   ·intro x y h1 h2 h3
    exact HI.out.2 x y h1 h2 (by omega)
end Go.Proofs.YteckjlkhopkogaaGreat
/- Contracts: the stable sort of choices. -/
namespace Go.Proofs.YteckjlkhopkogaaGreat
open Go.RowKit Go.PlainAid
/-- What a stable sort of the row leaves. -/
def Sted (g n:Nat) (D:Nat→CV) (cf:Nat→Nat→Int) (sp:List Value) (w:World) (e:Ending) (w':World):Prop:=e = .returned (.tuple #[])∧RowAt w' g 150 (rowC D (ordS (ltO cf) n) n ++ sp)∧Srt g w w'
theorem Fst.inc {lt:Nat→Nat→Bool} {s:Nat→Nat} {q n a:Nat} (h:Fst lt s q n a) (b:Nat):Inc1 s a b:=fun i j h1 h2 _=>by rw [h.idy i h1,h.idy j (by omega)]; exact h2
theorem Bks.pair {lt:Nat→Nat→Bool} {s:Nat→Nat} {q n a b:Nat} (h:Bks lt s q n a) (ha:a % (2 * q) = 0) (hm:a + q < b) (hb:b = min (a + 2 * q) n):Sg lt s a (a + q)∧Sg lt s (a + q) b∧Cx s a (a + q) b:=by
 refine ⟨?_,?_,?_⟩
 ·have:=h.hi a (mod_two ha) (Nat.le_refl _) (by omega)
  rwa [Nat.min_eq_left (by omega)] at this
 ·have:=h.hi (a + q) (by rw [mod_add]; exact mod_two ha) (by omega) (by omega)
  have e:min (a + q + q) n = b:=by omega
  rwa [e] at this
 ·exact (h.cxh (a + q) (by rw [mod_add]; exact mod_two ha) (by omega) (by omega)).sub (Nat.zero_le _) (by omega)
set_option maxHeartbeats 8000000 in
set_option maxRecDepth 100000 in
theorem stable_any (g c n:Nat) (D:Nat→CV) (cf:Nat→Nat→Int) (hw:Swo (ltO cf)) (hc:CmpD D cf) (sp:List Value) (w:World) (h:RowAt w g 150 (rowC D id n ++ sp)) (hn:n ≤ 1048576) :
  Calls Tryz.prog 196 #[.slice (some ⟨g,0,none⟩) n c, .int .i64 (n:Int), .func (.func 168) #[] #[]] w (Sted g n D cf sp w):=by
 have HR:=Lib.hid h
 have HC:=Lib.hid hc
 have HW:=Lib.hid hw
 clear h hc hw
 go_enter Tryz.func196,Tryz.ntmps196
 go_wp2
 go_loopw [7,8] (fun va vb wr=>∃ a b:Nat,a ≤ n∧Hid (b = a + 20∧a % 20 = 0)∧va = .int .i64 a∧vb = .int .i64 b∧∃ s,RowAt wr g 150 (rowC D s n ++ sp)∧Hid (Fst (ltO cf) s 20 n a∧PI 0 n id s)∧Srt g w wr) (fun a _ _=>n + 1 - (intOf a).toNat)
 case atStart=>exact ⟨0,20,Nat.zero_le _,⟨rfl,rfl⟩,rfl,rfl,id,HR.out,⟨Fst.start _ _ _,PI.refl _ _ _⟩,Srt.refl _ _⟩
 case round =>
  obtain ⟨a,b,han,HB,rfl,rfl,s,hr,HF,hs⟩:=hrel
  have hb1:=HB.out.1
  by_cases hbn:b ≤ n
  ·have hbz:(b:Int) ≤ (n:Int):=by omega
   obtain ⟨b2,hb2⟩:∃ b2,b2 = b + 20:=⟨_,rfl⟩
   have w1:IntKind.i64.wrap ((b:Int) + 20) = (b2:Int):=by rw [IntKind.wrap_i64] <;> omega
   have HSO:=Lib.hid (insSort_any g c n D cf HW.out HC.out sp s a b wr hr (by omega) hbn hn (HF.out.1.inc b))
   have HS:=Lib.hid hs
   have HB2:=Lib.hid hb2
   have HB1:=Lib.hid hb1
   have HBN:=Lib.hid hbn
   clear hs hr hb2 hb1 hbn
   go_wp2_with fail
   refine (HSO.out).mono ?_
   rintro e W1 ⟨rfl,s',hr1,hp1,hg1,hs1⟩
   have HR1:=Lib.hid hr1
   have HP1:=Lib.hid hp1
   have HG1:=Lib.hid hg1
   have HS1:=Lib.hid (HS.out.trans hs1)
   clear hr1 hp1 hg1 hs1 HSO
   go_wp2
   go_roundw
   case rel =>
    have l1:=HB1.out
    have l2:=HB2.out
    have l3:=HBN.out
    refine ⟨b,b2,l3,⟨l2,?_⟩,rfl,rfl,s',HR1.out,⟨?_,HF.out.2.trans (HP1.out.wide (Nat.zero_le _) l3)⟩,HS1.out⟩
    ·rw [l1,mod_add]; exact HB.out.2
    ·rw [l1]; exact HF.out.1.step (b:=b) (by omega) HB.out.2 (by omega) HP1.out HG1.out
   case measure=>have l1:=HB1.out; have l3:=HBN.out; simp [intOf]; omega
  ·have hbz:¬ (b:Int) ≤ (n:Int):=by omega
   have HSO:=Lib.hid (insSort_any g c n D cf HW.out HC.out sp s a n wr hr han (Nat.le_refl _) hn (HF.out.1.inc n))
   have HS:=Lib.hid hs
   have HB1:=Lib.hid hb1
   have HBN:=Lib.hid hbn
   clear hs hr hb1 hbn
   go_wp2_with fail
   refine (HSO.out).mono ?_
   rintro e W1 ⟨rfl,s',hr1,hp1,hg1,hs1⟩
   have HBK:Hid (Bks (ltO cf) s' 20 n 0):=by
    show Bks _ _ _ _ _
    have l1:=HB1.out
    have l3:=HBN.out
    exact (HF.out.1.step (b:=n) (by omega) HB.out.2 (by omega) hp1 hg1).done (by omega)
   have HPI:=Lib.hid (HF.out.2.trans (hp1.wide (Nat.zero_le _) (Nat.le_refl _)))
   have HR1:=Lib.hid hr1
   have HS1:=Lib.hid (HS.out.trans hs1)
   clear hr1 hp1 hg1 hs1 HSO HS HF HB HB1 HBN hbz
   go_wp2
   go_loopw [6] (fun vq wr2=>∃ q:Nat,20 ≤ q∧(q = 20 ∨ q < 2 * n)∧vq = .int .i64 q∧∃ s,RowAt wr2 g 150 (rowC D s n ++ sp)∧Hid (Bks (ltO cf) s q n 0∧PI 0 n id s)∧Srt g w wr2) (fun q _=>n - (intOf q).toNat)
   case atStart=>exact ⟨20,Nat.le_refl _,Or.inl rfl,rfl,s',HR1.out,⟨HBK.out,HPI.out⟩,HS1.out⟩
   case round =>
    obtain ⟨q,hq,hq2,rfl,s2,hr2,HQ,hs2⟩:=hrel
    clear HBK HPI HR1 HS1
    by_cases hqn:q < n
    ·have hqz:(q:Int) < (n:Int):=by omega
     obtain ⟨q2,hqq⟩:∃ q2,q2 = 2 * q:=⟨_,rfl⟩
     have w2:IntKind.i64.wrap (2 * (q:Int)) = (q2:Int):=by rw [IntKind.wrap_i64] <;> omega
     have w3:IntKind.i64.wrap ((q:Int) * 2) = (q2:Int):=by rw [IntKind.wrap_i64] <;> omega
     have HQQ:=Lib.hid hqq
     have HRR:=Lib.hid hr2
     have HSS:=Lib.hid hs2
     have HQN:=Lib.hid hqn
     have HQ20:=Lib.hid hq
     clear hqq hr2 hs2 hqn hq2 hq
     go_wp2
     go_loopw [7,8] (fun va vb wr3=>∃ a b:Nat,a ≤ n∧Hid (b = a + 2 * q∧a % (2 * q) = 0)∧va = .int .i64 a∧vb = .int .i64 b∧∃ s,RowAt wr3 g 150 (rowC D s n ++ sp)∧Hid (Bks (ltO cf) s q n a∧PI 0 n id s)∧Srt g w wr3) (fun a _ _=>n + 1 - (intOf a).toNat)
     case atStart=>exact ⟨0,q2,Nat.zero_le _,⟨by rw [HQQ.out]; omega,Nat.zero_mod _⟩,rfl,rfl,s2,HRR.out,HQ.out,HSS.out⟩
     case round =>
      obtain ⟨a,b,han,HB,rfl,rfl,s,hr,HF,hs⟩:=hrel
      clear HRR HSS
      obtain ⟨m,hm⟩:∃ m,m = a + q:=⟨_,rfl⟩
      have w4:IntKind.i64.wrap ((a:Int) + (q:Int)) = (m:Int):=by have:=HQN.out; rw [IntKind.wrap_i64] <;> omega
      have hb1:=HB.out.1
      by_cases hbn:b ≤ n
      ·have hbz:(b:Int) ≤ (n:Int):=by omega
       obtain ⟨b2,hb2⟩:∃ b2,b2 = b + 2 * q:=⟨_,rfl⟩
       have w5:IntKind.i64.wrap ((b:Int) + (q2:Int)) = (b2:Int):=by have:=HQQ.out; have:=HQN.out; rw [IntKind.wrap_i64] <;> omega
       have hq:=HQ20.out
       have hpr:=HF.out.1.pair (b:=b) HB.out.2 (by omega) (by omega)
       rw [← hm] at hpr
       have HSO:=Lib.hid (symMerge_any g c n D cf HW.out HC.out sp hn (b - a) s a m b wr (Nat.le_refl _) hr (by omega) (by omega) hbn hpr.1 hpr.2.1 hpr.2.2)
       have HS:=Lib.hid hs
       have HB2:=Lib.hid hb2
       have HB1:=Lib.hid hb1
       have HBN:=Lib.hid hbn
       have HM:=Lib.hid hm
       clear hs hr hb2 hb1 hbn hpr hm hq
       go_wp2_with fail
       refine (HSO.out).mono ?_
       rintro e W1 ⟨rfl,s',hr1,hp1,hg1,hs1⟩
       have HR1:=Lib.hid hr1
       have HP1:=Lib.hid hp1
       have HG1:=Lib.hid hg1
       have HS1:=Lib.hid (HS.out.trans hs1)
       clear hr1 hp1 hg1 hs1 HSO
       go_wp2
       go_roundw
       case rel =>
        have l1:=HB1.out
        have l2:=HB2.out
        have l3:=HBN.out
        have l4:=HQ20.out
        refine ⟨b,b2,l3,⟨l2,?_⟩,rfl,rfl,s',HR1.out,⟨?_,HF.out.2.trans (HP1.out.wide (Nat.zero_le _) l3)⟩,HS1.out⟩
        ·rw [l1,mod_add]; exact HB.out.2
        ·rw [l1]; exact HF.out.1.step (b:=b) (by omega) HB.out.2 (by omega) han HP1.out HG1.out
       case measure=>have l1:=HB1.out; have l3:=HBN.out; have l4:=HQ20.out; simp [intOf]; omega
      ·have hbz:¬ (b:Int) ≤ (n:Int):=by omega
       have hq:=HQ20.out
       by_cases hmn:m < n
       ·have hmz:(m:Int) < (n:Int):=by omega
        have hpr:=HF.out.1.pair (b:=n) HB.out.2 (by omega) (by omega)
        rw [← hm] at hpr
        have HSO:=Lib.hid (symMerge_any g c n D cf HW.out HC.out sp hn (n - a) s a m n wr (Nat.le_refl _) hr (by omega) hmn (Nat.le_refl _) hpr.1 hpr.2.1 hpr.2.2)
        have HS:=Lib.hid hs
        have HB1:=Lib.hid hb1
        have HBN:=Lib.hid hbn
        have HM:=Lib.hid hm
        clear hs hr hb1 hbn hpr hm hq
        go_wp2_with fail
        refine (HSO.out).mono ?_
        rintro e W1 ⟨rfl,s',hr1,hp1,hg1,hs1⟩
        have HR1:=Lib.hid hr1
        have HP1:=Lib.hid hp1
        have HG1:=Lib.hid hg1
        have HS1:=Lib.hid (HS.out.trans hs1)
        clear hr1 hp1 hg1 hs1 HSO
        go_wp2
        go_roundw
        case rel =>
         have l1:=HB1.out
         have l3:=HBN.out
         have l4:=HQ20.out
         have l5:=HQN.out
         have l6:=HQQ.out
         refine ⟨q2,by omega,Or.inr (by omega),rfl,s',HR1.out,⟨?_,HF.out.2.trans (HP1.out.wide (Nat.zero_le _) (Nat.le_refl _))⟩,HS1.out⟩
         rw [l6]
         exact (HF.out.1.step (b:=n) (by omega) HB.out.2 (by omega) han HP1.out HG1.out).next (by omega) (by rw [mod_add]; exact HB.out.2) (by omega)
        case measure=>have l4:=HQ20.out; have l5:=HQN.out; have l6:=HQQ.out; simp [intOf]; omega
       ·have hmz:¬ (m:Int) < (n:Int):=by omega
        have HFIN:=Lib.hid (And.intro hr hs)
        have HM:=Lib.hid hm
        have HMN:=Lib.hid hmn
        clear hs hr hb1 hbn hm hq hmn
        go_wp2
        go_roundw
        case rel =>
         have l4:=HQ20.out
         have l5:=HQN.out
         have l6:=HQQ.out
         have l7:=HM.out
         have l8:=HMN.out
         refine ⟨q2,by omega,Or.inr (by omega),rfl,s,HFIN.out.1,⟨?_,HF.out.2⟩,HFIN.out.2⟩
         rw [l6]
         exact HF.out.1.next (by omega) HB.out.2 (by omega)
        case measure=>have l4:=HQ20.out; have l5:=HQN.out; have l6:=HQQ.out; simp [intOf]; omega
    ·have hqz:¬ (q:Int) < (n:Int):=by omega
     have HFIN:=Lib.hid (And.intro hr2 hs2)
     clear hr2 hs2
     go_wp2
     refine bodyPost_end (results_none rfl _ _ _) rfl ?_
     refine ⟨rfl,?_,HFIN.out.2⟩
     rw [← rowC_congr (sorted_is HW.out HQ.out.2 (HQ.out.1.all (by omega)))]
     exact HFIN.out.1
theorem sortStable_any (g c n:Nat) (D:Nat→CV) (cf:Nat→Nat→Int) (hw:Swo (ltO cf)) (hc:CmpD D cf) (sp:List Value) (w:World) (h:RowAt w g 150 (rowC D id n ++ sp)) (hn:n ≤ 1048576) :
  Calls Tryz.prog 167 #[.slice (some ⟨g,0,none⟩) n c, .func (.func 168) #[] #[]] w (Sted g n D cf sp w):=by
 have HS:=Lib.hid (stable_any g c n D cf hw hc sp w h hn)
 clear h hc hw
 go_enter Tryz.func167,Tryz.ntmps167
 go_wp2_with fail
 refine (HS.out).mono ?_
 rintro e W1 ⟨rfl,h1,h2⟩
 have HR:=Lib.hid (And.intro h1 h2)
 clear h1 h2
 go_wp2
 refine bodyPost_end (results_none rfl _ _ _) rfl ?_
 exact ⟨rfl,HR.out⟩
end Go.Proofs.YteckjlkhopkogaaGreat
