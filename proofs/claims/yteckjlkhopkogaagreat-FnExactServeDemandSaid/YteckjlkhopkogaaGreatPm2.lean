/- Contracts: the exact marks of a plan's lights, and of a plan. -/
import Derived.Test.YteckjlkhopkogaaGreatPm
namespace Go.Proofs.YteckjlkhopkogaaGreat
open Go.RowKit Go.PlainAid
abbrev inT:TypeId→Prop:=fun t=>t = 3
def QMk (base:Nat) (q:Option Addr) (w w':World):Prop:=w' = w ∨ ∃ g,q = some ⟨g,0,none⟩∧base ≤ g∧Mk inT g (g + 1) w w'
theorem QMk.row {base:Nat} {q:Option Addr} {w w':World} (h:QMk base q w w') {g:Nat} {t:TypeId} {cs:List Value} (hr:RowAt w g t cs) (ht:t ≠ 3):RowAt w' g t cs:=by
 rcases h with rfl | ⟨b,_,_,hb⟩
 ·exact hr
 ·exact hb.row _ _ _ hr ht
theorem QMk.below {base:Nat} {q:Option Addr} {w w':World} (h:QMk base q w w'):Below base w w':=by
 rcases h with rfl | ⟨b,_,hg,hb⟩
 ·exact Below.refl _ _
 ·exact hb.low.mono hg
theorem QMk.rowN {base base':Nat} {q q':Option Addr} {n:Nat} {w w':World} (h:QMk base q w w') (hr:RowN w base' 3 q' n) (hd:∀ g o h o',q = some ⟨g,o,none⟩→q' = some ⟨h,o',none⟩→g ≠ h):RowN w' base' 3 q' n:=by
 rcases h with rfl | ⟨b,hq,_,hb⟩
 ·exact hr
 ·exact hr.other hb fun h o e=>(hd b 0 h o hq e).symm
theorem QMk.mkRow {base base':Nat} {q q':Option Addr} {n:Nat} {mc:Nat→Value} {w w':World} (h:QMk base q w w') (hr:MkRow w base' 3 q' n mc) (hd:∀ g o h o',q = some ⟨g,o,none⟩→q' = some ⟨h,o',none⟩→g ≠ h):MkRow w' base' 3 q' n mc:=by
 rcases h with rfl | ⟨b,hq,_,hb⟩
 ·exact hr
 ·exact hr.other hb fun h o e=>(hd b 0 h o hq e).symm
theorem markIntS_q (q:Option Addr) (cap n base:Nat) (k0:Int) (w:World) (h:RowN w base 3 q n) (hn:n ≤ 1099511627776) (h0:0 ≤ k0) (h1:k0 ≤ 281474976710656) :
  Calls Tryz.prog 59 #[.slice q n cap, .int .i64 k0] w fun e w'=>e = .returned (.int .i64 (k0 + n))∧MkRow w' base 3 q n (fun t=>iv (k0 + (t:Int)))∧QMk base q w w':=by
 rcases h with rfl | ⟨g,cs,rfl,hg,hr,hl⟩
 ·refine (markIntS_z q cap k0 w).mono ?_
  rintro e w' ⟨rfl,rfl⟩
  exact ⟨by simp,Or.inl rfl,Or.inl rfl⟩
 ·refine (markIntS_p g cap n base cs k0 w hr hg hl hn h0 h1).mono ?_
  rintro e w' ⟨rfl,h2,h3⟩
  exact ⟨rfl,h2,Or.inr ⟨g,rfl,hg,h3⟩⟩
theorem RowN.setO {w:World} {base g:Nat} {t T:TypeId} {cs:List Value} {q:Option Addr} {n:Nat} (h:RowN w base t q n) (hr:RowAt w g T cs) (hT:t ≠ T) (i:Nat) (v:Value):RowN (w.setCell ⟨g,i,none⟩ v) base t q n:=by
 rcases h with h | ⟨b,cs',h1,h2,h3,h4⟩
 ·exact Or.inl h
 ·exact Or.inr ⟨b,cs',h1,h2,h3.setOther (fun e=>by subst e; exact hT (h3.inj hr).1) _,h4⟩
theorem MkRow.setO {w:World} {base g:Nat} {t T:TypeId} {cs:List Value} {q:Option Addr} {n:Nat} {mc:Nat→Value} (h:MkRow w base t q n mc) (hr:RowAt w g T cs) (hT:t ≠ T) (i:Nat) (v:Value):MkRow (w.setCell ⟨g,i,none⟩ v) base t q n mc:=by
 rcases h with h | ⟨b,cs',h1,h2,h3,h4⟩
 ·exact Or.inl h
 ·exact Or.inr ⟨b,cs',h1,h2,h3.setOther (fun e=>by subst e; exact hT (h3.inj hr).1) _,h4⟩
/-- Lights whose fibers lie in rows of their own. -/
def DistL (l:List LL):Prop:=∀ (i j:Nat) (x y:LL),i ≠ j→l[i]? = some x→l[j]? = some y→∀ g o h o',x.r.q = some ⟨g,o,none⟩→y.r.q = some ⟨h,o',none⟩→g ≠ h
def ltN (l:List LL):Nat→Nat
 | 0=>0
 | k + 1=>match l[k]? with | some x=>ltN l k + (4 + x.r.fibs.length) | none=>ltN l k
theorem ltN_step {l:List LL} {k:Nat} {x:LL} (h:l[k]? = some x):ltN l (k + 1) = ltN l k + (4 + x.r.fibs.length):=by
 show (match l[k]? with | some x=>ltN l k + (4 + x.r.fibs.length) | none=>ltN l k) = _
 rw [h]
theorem ltN_le {l:List LL} (h:LtsSmall l) (k:Nat):ltN l k ≤ 1048580 * k:=by
 induction k with
 | zero=>exact Nat.le_refl _
 | succ k ih =>
  cases hk:l[k]? with
  | none =>
   have e:ltN l (k + 1) = ltN l k:=by
    show (match l[k]? with | some x=>ltN l k + (4 + x.r.fibs.length) | none=>ltN l k) = _
    rw [hk]
   rw [e]; omega
  | some x =>
   have:=h.2 x (List.mem_of_getElem? hk)
   rw [ltN_step hk]; omega
def LtMk1 (w:World) (base:Nat) (k0:Int) (cs:List Value) (i:Nat) (x:LL) (k:Nat):Prop :=
 cs[i * 5]? = some (iv (k0 + k))∧cs[i * 5 + 1]? = some (iv (k0 + k + 1))∧cs[i * 5 + 3]? = some (iv (k0 + k + 1 + 1 + x.r.fibs.length))∧cs[i * 5 + 4]? = some (iv (k0 + k + 1 + 1 + x.r.fibs.length + 1)) ∧
  MkRow w base 3 x.r.q x.r.fibs.length fun t=>iv (k0 + k + 1 + 1 + (t:Int))
def LtMk (w:World) (base:Nat) (k0:Int) (r:Option Addr) (l:List LL):Prop:=l = [] ∨ ∃ g cs,r = some ⟨g,0,none⟩∧base ≤ g∧RowAt w g 94 cs∧l.length * 5 ≤ cs.length∧(∀ i x,l[i]? = some x→cs[i * 5 + 2]? = some (.slice x.r.q x.r.fibs.length x.r.cap))∧∀ i x,l[i]? = some x→LtMk1 w base k0 cs i x (ltN l i)
theorem LtMk.keep {w w':World} {base:Nat} {k0:Int} {r:Option Addr} {l:List LL} (h:LtMk w base k0 r l) (hb:Fresh w w'):LtMk w' base k0 r l:=by
 rcases h with h | ⟨g,cs,h1,h2,h3,h4,h5,h6⟩
 ·exact Or.inl h
 ·exact Or.inr ⟨g,cs,h1,h2,h3.keep hb,h4,h5,fun i x hx=>⟨(h6 i x hx).1,(h6 i x hx).2.1,(h6 i x hx).2.2.1,(h6 i x hx).2.2.2.1,(h6 i x hx).2.2.2.2.keep hb⟩⟩
theorem set_ne {cs:List Value} {i t:Nat} {v u:Value} (h:cs[t]? = some u) (hne:i ≠ t):(cs.set i v)[t]? = some u:=by rw [List.getElem?_set_ne hne]; exact h
set_option maxHeartbeats 4000000 in
set_option maxRecDepth 20000 in
theorem markLightS_p (r:Option Addr) (cap base:Nat) (l:List LL) (k0:Int) (w:World) (ho:Own w base 94 r (l.flatMap llC)) (hi:∀ x ∈ l,RowN w base 3 x.r.q x.r.fibs.length) (hd:DistL l) (hs:LtsSmall l) (h0:0 ≤ k0) (h1:k0 ≤ 1099511627776) :
  Calls Tryz.prog 28 #[.slice r l.length cap, .int .i64 k0] w fun e w'=>e = .returned (.int .i64 (k0 + ltN l l.length))∧LtMk w' base k0 r l∧Below base w w'∧(∀ g t cs,RowAt w g t cs→t ≠ 3→t ≠ 94→RowAt w' g t cs):=by
 have hn:=hs.1
 have HSM:=Lib.hid hs
 have HI:=Lib.hid hi
 have HD:=Lib.hid hd
 rcases ho with ⟨rfl,hnil⟩ | ⟨g,sp,rfl,hg,hr⟩
 ·have hl0:l = []:=by
   cases l with
   | nil=>rfl
   | cons a l=>simp [List.flatMap_cons] at hnil
  subst hl0
  clear hi hd hs
  go_enter Tryz.func28,Tryz.ntmps28
  go_wp2
  go_loop [1,5] (fun kk i=>i = .int .i64 0∧kk = .int .i64 k0) (fun _ _=>0)
  case atStart=>exact ⟨rfl,rfl⟩
  case round =>
   obtain ⟨rfl,rfl⟩:=hrel
   go_wp2
   go_ret
   exact ⟨by simp [ltN],Or.inl rfl,Below.refl _ _,fun _ _ _ h _ _=>h⟩
 have HR0:=Lib.hid hr
 clear hr hi hd hs
 go_enter Tryz.func28,Tryz.ntmps28
 go_wp2
 go_loopw [1,5] (fun kk i wr=>∃ (j:Nat) (cs:List Value),j ≤ l.length∧i = .int .i64 j∧kk = .int .i64 (k0 + ltN l j)∧RowAt wr g 94 cs∧l.length * 5 ≤ cs.length∧(∀ i x,l[i]? = some x→cs[i * 5 + 2]? = some (.slice x.r.q x.r.fibs.length x.r.cap))∧(∀ i x,i < j→l[i]? = some x→LtMk1 wr base k0 cs i x (ltN l i))∧(∀ i x,j ≤ i→l[i]? = some x→RowN wr base 3 x.r.q x.r.fibs.length)∧Below base w wr∧(∀ g t cs,RowAt w g t cs→t ≠ 3→t ≠ 94→RowAt wr g t cs)) (fun _ i _=>l.length - (intOf i).toNat)
 case atStart =>
  refine ⟨0,_,Nat.zero_le _,rfl,by simp [ltN],HR0.out,by rw [List.length_append,flat_len llC 5 (fun _=>rfl)]; omega,fun i x hx=>?_,fun i x hi=>by omega,fun i x _ hx=>HI.out x (List.mem_of_getElem? hx),Below.refl _ _,fun _ _ _ h _ _=>h⟩
  have hil:i < l.length:=by
   rcases Nat.lt_or_ge i l.length with h' | h'
   ·exact h'
   ·rw [List.getElem?_eq_none h'] at hx; cases hx
  rw [List.getElem?_append_left (by rw [flat_len llC 5 (fun _=>rfl)]; omega),ll_get hx 2 (by omega)]; rfl
 case round =>
  obtain ⟨j,cs,hj,rfl,rfl,hr,hcs,hsl,hmk,hun,hb,hrw⟩:=hrel
  by_cases hlt:j < l.length
  ·have hltz:(j:Int) < (l.length:Int):=by omega
   obtain ⟨x,hx⟩:∃ x,l[j]? = some x:=⟨_,List.getElem?_eq_getElem hlt⟩
   have hsm:=HSM.out.2 x (List.mem_of_getElem? hx)
   have hk:=ltN_le HSM.out j
   have HT:=Lib.hid (ltN_step hx)
   obtain ⟨kj,hkj⟩:∃ kj,kj = ltN l j:=⟨_,rfl⟩
   rw [← hkj] at hk HT ⊢
   have HKJ:=Lib.hid hkj
   have hc0:wr.cell? ⟨g,j * 5,none⟩ = some cs[j * 5]:=hr.cell (List.getElem?_eq_getElem (by omega))
   have hc1:wr.cell? ⟨g,j * 5 + 1,none⟩ = some cs[j * 5 + 1]:=hr.cell (List.getElem?_eq_getElem (by omega))
   have hc2:wr.cell? ⟨g,j * 5 + 2,none⟩ = some (.slice x.r.q x.r.fibs.length x.r.cap):=hr.cell (hsl j x hx)
   have hf0:=hr.frozen (j * 5)
   have hf1:=hr.frozen (j * 5 + 1)
   obtain ⟨w2,hw2⟩:∃ w2,w2 = (wr.setCell ⟨g,j * 5,none⟩ (.int .i64 (k0 + kj))).setCell ⟨g,j * 5 + 1,none⟩ (.int .i64 (k0 + kj + 1)):=⟨_,rfl⟩
   obtain ⟨cs2,hcs2⟩:∃ cs2,cs2 = (cs.set (j * 5) (iv (k0 + kj))).set (j * 5 + 1) (iv (k0 + kj + 1)):=⟨_,rfl⟩
   have hr1:=hr.set (j * 5) (iv (k0 + kj))
   have hr2:RowAt w2 g 94 cs2:=by rw [hw2,hcs2]; exact hr1.set (j * 5 + 1) (iv (k0 + kj + 1))
   have hl2:l.length * 5 ≤ cs2.length:=by rw [hcs2]; simpa using hcs
   have hsl2:∀ i x,l[i]? = some x→cs2[i * 5 + 2]? = some (.slice x.r.q x.r.fibs.length x.r.cap):=by
    intro i y hy; rw [hcs2]; exact set_ne (set_ne (hsl i y hy) (by omega)) (by omega)
   have hmk2:∀ i x,i < j→l[i]? = some x→LtMk1 w2 base k0 cs2 i x (ltN l i):=by
    intro i y hij hy
    obtain ⟨m0,m1,m3,m4,mr⟩:=hmk i y hij hy
    rw [hcs2,hw2]
    exact ⟨set_ne (set_ne m0 (by omega)) (by omega),set_ne (set_ne m1 (by omega)) (by omega),set_ne (set_ne m3 (by omega)) (by omega),set_ne (set_ne m4 (by omega)) (by omega),(mr.setO hr (by decide) _ _).setO hr1 (by decide) _ _⟩
   have hun2:∀ i x,j ≤ i→l[i]? = some x→RowN w2 base 3 x.r.q x.r.fibs.length:=by
    intro i y hij hy; rw [hw2]; exact ((hun i y hij hy).setO hr (by decide) _ _).setO hr1 (by decide) _ _
   have hb2:Below base w w2:=by rw [hw2]; exact (hb.setCell hg _).setCell hg _
   have hrw2:∀ g t cs,RowAt w g t cs→t ≠ 3→t ≠ 94→RowAt w2 g t cs:=by
    intro b t ds hds n1 n2
    rw [hw2]
    have h3:=hrw b t ds hds n1 n2
    have hne:b ≠ g:=fun e=>by subst e; exact n2 (h3.inj hr).1
    exact (h3.setOther hne _).setOther hne _
   have m0:cs2[j * 5]? = some (iv (k0 + kj)):=by rw [hcs2]; refine set_ne ?_ (by omega); rw [List.getElem?_set,if_pos rfl,if_pos (by omega)]
   have m1:cs2[j * 5 + 1]? = some (iv (k0 + kj + 1)):=by rw [hcs2,List.getElem?_set,if_pos rfl,if_pos (by simp; omega)]
   have HW:=Lib.hid hw2
   have HX:=Lib.hid hx
   have HC:=Lib.hid (markIntS_q x.r.q x.r.cap x.r.fibs.length base (k0 + kj + 1 + 1) w2 (hun2 j x (Nat.le_refl _) hx) (by omega) (by omega) (by omega))
   have HK:=Lib.hid (And.intro hr2 (And.intro hl2 (And.intro hsl2 (And.intro hmk2 (And.intro hun2 (And.intro hb2 (And.intro hrw2 (And.intro m0 m1))))))))
   clear hw2 hcs2 hr hr1 hr2 hl2 hsl hsl2 hmk hmk2 hun hun2 hb hb2 hrw hrw2 hx hkj m0 m1
   go_wp2_with fail
   rw [← HW.out]
   refine (HC.out).mono ?_
   rintro e w3 ⟨rfl,hm3,hq3⟩
   obtain ⟨hr2,hl2,hsl2,hmk2,hun2,hb2,hrw2,m0,m1⟩:=HK.out
   have hr3:=hq3.row hr2 (by decide)
   have hc3:w3.cell? ⟨g,j * 5 + 3,none⟩ = some cs2[j * 5 + 3]:=hr3.cell (List.getElem?_eq_getElem (by omega))
   have hc4:w3.cell? ⟨g,j * 5 + 4,none⟩ = some cs2[j * 5 + 4]:=hr3.cell (List.getElem?_eq_getElem (by omega))
   have hf3:=hr3.frozen (j * 5 + 3)
   have hf4:=hr3.frozen (j * 5 + 4)
   have HM3:=Lib.hid hm3
   have HQ3:=Lib.hid hq3
   have HR3:=Lib.hid hr3
   clear hr2 hsl2 hmk2 hun2 hb2 hrw2 m0 m1 hr3 hm3 hq3 HC hc0 hc1 hc2 hf0 hf1
   go_wp2
   go_roundw
   case rel =>
    obtain ⟨hr2,hl2,hsl2,hmk2,hun2,hb2,hrw2,m0,m1⟩:=HK.out
    have hr3:=HR3.out
    have hr4:=hr3.set (j * 5 + 3) (iv (k0 + kj + 1 + 1 + x.r.fibs.length))
    refine ⟨j + 1,(cs2.set (j * 5 + 3) (iv (k0 + kj + 1 + 1 + x.r.fibs.length))).set (j * 5 + 4) (iv (k0 + kj + 1 + 1 + x.r.fibs.length + 1)),by omega,by go_num,by rw [HT.out]; first | rfl | (congr 1; omega),hr4.set _ _,by simpa using hl2,fun i y hy=>set_ne (set_ne (hsl2 i y hy) (by omega)) (by omega),fun i y hij hy=>?_,fun i y hij hy=>?_,?_,?_⟩
    ·rcases Nat.lt_or_ge i j with h' | h'
     ·obtain ⟨n0,n1,n3,n4,nr⟩:=hmk2 i y h' hy
      exact ⟨set_ne (set_ne n0 (by omega)) (by omega),set_ne (set_ne n1 (by omega)) (by omega),set_ne (set_ne n3 (by omega)) (by omega),set_ne (set_ne n4 (by omega)) (by omega),
       ((HQ3.out.mkRow nr fun a o b o' e1 e2=>(HD.out i j y x (by omega) hy HX.out b o' a o e2 e1).symm).setO hr3 (by decide) _ _).setO hr4 (by decide) _ _⟩
     ·have:i = j:=by omega
      subst this
      rw [HX.out] at hy; cases hy
      rw [← HKJ.out]
      refine ⟨set_ne (set_ne m0 (by omega)) (by omega),set_ne (set_ne m1 (by omega)) (by omega),?_,?_,(HM3.out.setO hr3 (by decide) _ _).setO hr4 (by decide) _ _⟩
      ·refine set_ne ?_ (by omega); rw [List.getElem?_set,if_pos rfl,if_pos (by omega)]
      ·rw [List.getElem?_set,if_pos rfl,if_pos (by simp; omega)]
    ·exact ((HQ3.out.rowN (hun2 i y (by omega) hy) fun a o b o' e1 e2=>(HD.out i j y x (by omega) hy HX.out b o' a o e2 e1).symm).setO hr3 (by decide) _ _).setO hr4 (by decide) _ _
    ·exact ((hb2.trans HQ3.out.below).setCell hg _).setCell hg _
    ·intro b t ds hds n1 n2
     have h3:=HQ3.out.row (hrw2 b t ds hds n1 n2) n1
     have hne:b ≠ g:=fun e=>by subst e; exact n2 (h3.inj hr3).1
     exact (h3.setOther hne _).setOther hne _
   case measure=>simp [intOf]; omega
  ·have hjn:j = l.length:=by omega
   subst hjn
   have HK:=Lib.hid (And.intro hr (And.intro hcs (And.intro hsl (And.intro hmk (And.intro hb hrw)))))
   clear hr hcs hsl hmk hun hb hrw
   go_wp2
   go_ret
   obtain ⟨hr,hcs,hsl,hmk,hb,hrw⟩:=HK.out
   refine ⟨rfl,Or.inr ⟨g,cs,rfl,hg,hr,hcs,hsl,fun i x hx=>hmk i x ?_ hx⟩,hb,hrw⟩
   rcases Nat.lt_or_ge i l.length with h' | h'
   ·exact h'
   ·rw [List.getElem?_eq_none h'] at hx; cases hx
set_option maxHeartbeats 4000000 in
set_option maxRecDepth 20000 in
theorem heldLightS_p (r:Option Addr) (cap base:Nat) (l:List LL) (k0:Int) (w:World) (h:LtMk w base k0 r l) (hs:LtsSmall l) (hl:l.length ≤ 1024) (h0:0 ≤ k0) (h1:k0 ≤ 1073741824) :
  Calls Tryz.prog 29 #[.slice r l.length cap, .int .i64 k0] w fun e w'=>e = .returned (.int .i64 (k0 + ltN l l.length))∧Fresh w w':=by
 have hn:=hs.1
 have HSM:=Lib.hid hs
 have HM:=Lib.hid h
 clear h hs
 go_enter Tryz.func29,Tryz.ntmps29
 go_wp2
 go_loopw [1,5] (fun kk i wr=>∃ j:Nat,j ≤ l.length∧i = .int .i64 j∧kk = .int .i64 (k0 + ltN l j)∧Fresh w wr) (fun _ i _=>l.length - (intOf i).toNat)
 case atStart=>exact ⟨0,Nat.zero_le _,rfl,by simp [ltN],frefl _⟩
 case round =>
  obtain ⟨j,hj,rfl,rfl,hf⟩:=hrel
  have HF:=Lib.hid hf
  by_cases hlt:j < l.length
  ·have hltz:(j:Int) < (l.length:Int):=by omega
   rcases HM.out.keep hf with hnil | ⟨g,cs,rfl,hg,hr,hcs,hsl,hmk⟩
   ·rw [hnil] at hlt; simp at hlt
   obtain ⟨x,hx⟩:∃ x,l[j]? = some x:=⟨_,List.getElem?_eq_getElem hlt⟩
   have hsm:=HSM.out.2 x (List.mem_of_getElem? hx)
   have hk:=ltN_le HSM.out j
   have HT:=Lib.hid (ltN_step hx)
   obtain ⟨m0,m1,m3,m4,mr⟩:=hmk j x hx
   obtain ⟨kj,hkj⟩:∃ kj,kj = ltN l j:=⟨_,rfl⟩
   rw [← hkj] at hk HT m0 m1 m3 m4 mr ⊢
   have c0:=hr.cell m0
   have c1:=hr.cell m1
   have c2:wr.cell? ⟨g,j * 5 + 2,none⟩ = some (.slice x.r.q x.r.fibs.length x.r.cap):=hr.cell (hsl j x hx)
   have c3:=hr.cell m3
   have c4:=hr.cell m4
   have hneg:(k0 + (kj:Int) + 1 + 1 + (x.r.fibs.length:Int) < 0) = False:=eq_false (by omega)
   have HC:=Lib.hid (heldIntS_any x.r.q x.r.cap x.r.fibs.length (k0 + kj + 1 + 1) wr mr.ints (by omega) (by omega) (by omega))
   clear hr hsl hmk m0 m1 m3 m4 mr hx hkj hf
   go_wp2_with fail
   refine (HC.out).mono ?_
   rintro e w3 ⟨rfl,rfl⟩
   go_wp2
   go_roundw
   case rel=>exact ⟨j + 1,by omega,by go_num,by rw [HT.out]; first | rfl | (congr 1; omega),HF.out⟩
   case measure=>simp [intOf]; omega
  ·have hjn:j = l.length:=by omega
   subst hjn
   clear hf
   go_wp2
   go_ret
   exact ⟨rfl,HF.out⟩
end Go.Proofs.YteckjlkhopkogaaGreat
