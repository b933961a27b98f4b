/- Contracts: the exact marks of a plan that is a result. -/
import Derived.Test.YteckjlkhopkogaaGreatU4
import Derived.Test.YteckjlkhopkogaaGreatMl
namespace Go.Proofs.YteckjlkhopkogaaGreat
open Go.RowKit Go.PlainAid
/-- Some cells of a row of the call's own, of whatever content. -/
def RowN (w:World) (base:Nat) (T:TypeId) (q:Option Addr) (n:Nat):Prop:=n = 0 ∨ ∃ g cs,q = some ⟨g,0,none⟩∧base ≤ g∧RowAt w g T cs∧n ≤ cs.length
/-- Some cells of a row of the call's own, each as told. -/
def MkRow (w:World) (base:Nat) (T:TypeId) (q:Option Addr) (n:Nat) (mc:Nat→Value):Prop:=n = 0 ∨ ∃ g cs,q = some ⟨g,0,none⟩∧base ≤ g∧RowAt w g T cs∧n ≤ cs.length∧∀ t,t < n→cs[t]? = some (mc t)
theorem MkRow.keep {w w':World} {base:Nat} {T:TypeId} {q:Option Addr} {n:Nat} {mc:Nat→Value} (h:MkRow w base T q n mc) (hb:Fresh w w'):MkRow w' base T q n mc:=by
 rcases h with h | ⟨g,cs,h1,h2,h3,h4⟩
 ·exact Or.inl h
 ·exact Or.inr ⟨g,cs,h1,h2,h3.keep hb,h4⟩
theorem Own.rowN {w:World} {base:Nat} {T:TypeId} {q:Option Addr} {cs:List Value} (h:Own w base T q cs):RowN w base T q cs.length:=by
 rcases h with ⟨_,h⟩ | ⟨g,sp,h1,h2,h3⟩
 ·exact Or.inl (by simp [h])
 ·exact Or.inr ⟨g,cs ++ sp,h1,h2,h3,by simp⟩
/-- Rows of other types stay where rows of the types T are marked. -/
theorem RowN.typ {w w':World} {base lo hi:Nat} {t:TypeId} {T:TypeId→Prop} {q:Option Addr} {n:Nat} (h:RowN w base t q n) (hb:Mk T lo hi w w') (hd:¬ T t):RowN w' base t q n:=by
 rcases h with h | ⟨g,cs,h1,h2,h3,h4⟩
 ·exact Or.inl h
 ·exact Or.inr ⟨g,cs,h1,h2,hb.row _ _ _ h3 hd,h4⟩
theorem MkRow.typ {w w':World} {base lo hi:Nat} {t:TypeId} {T:TypeId→Prop} {q:Option Addr} {n:Nat} {mc:Nat→Value} (h:MkRow w base t q n mc) (hb:Mk T lo hi w w') (hd:¬ T t):MkRow w' base t q n mc:=by
 rcases h with h | ⟨g,cs,h1,h2,h3,h4⟩
 ·exact Or.inl h
 ·exact Or.inr ⟨g,cs,h1,h2,hb.row _ _ _ h3 hd,h4⟩
theorem Mk.other {w w':World} {g b:Nat} {t:TypeId} {T:TypeId→Prop} {cs:List Value} (hb:Mk T g (g + 1) w w') (hr:RowAt w b t cs) (hd:b ≠ g):RowAt w' b t cs:=by
 have:w'.heap[b]? = w.heap[b]?:=by
  rcases Nat.lt_or_ge b g with h' | h'
  ·exact hb.low.block b h'
  ·exact hb.up b (by omega) hr.lt
 unfold RowAt; rw [this]; exact hr
theorem RowN.other {w w':World} {base g:Nat} {t:TypeId} {T:TypeId→Prop} {q:Option Addr} {n:Nat} (h:RowN w base t q n) (hb:Mk T g (g + 1) w w') (hd:∀ h o,q = some ⟨h,o,none⟩→h ≠ g):RowN w' base t q n:=by
 rcases h with h | ⟨b,cs,h1,h2,h3,h4⟩
 ·exact Or.inl h
 ·exact Or.inr ⟨b,cs,h1,h2,hb.other h3 (hd b 0 h1),h4⟩
theorem MkRow.other {w w':World} {base g:Nat} {t:TypeId} {T:TypeId→Prop} {q:Option Addr} {n:Nat} {mc:Nat→Value} (h:MkRow w base t q n mc) (hb:Mk T g (g + 1) w w') (hd:∀ h o,q = some ⟨h,o,none⟩→h ≠ g):MkRow w' base t q n mc:=by
 rcases h with h | ⟨b,cs,h1,h2,h3,h4⟩
 ·exact Or.inl h
 ·exact Or.inr ⟨b,cs,h1,h2,hb.other h3 (hd b 0 h1),h4⟩
theorem set_pt1 {cs:List Value} {n:Nat} {v:Value} {mc:Nat→Value} (hi:n < cs.length) (hv:v = mc n) (h:∀ t,t < n→cs[t]? = some (mc t)):∀ t,t < n + 1→(cs.set n v)[t]? = some (mc t):=by
 intro t ht
 rw [List.getElem?_set]
 by_cases e:n = t
 ·subst e; rw [if_pos rfl,if_pos hi,hv]
 ·rw [if_neg e]; exact h t (by omega)
set_option maxHeartbeats 1000000 in
theorem markIntS_p (g cap n base:Nat) (cs:List Value) (k0:Int) (w:World) (hr:RowAt w g 3 cs) (hg:base ≤ g) (hl:n ≤ cs.length) (hn:n ≤ 1099511627776) (h0:0 ≤ k0) (h1:k0 ≤ 281474976710656) :
  Calls Tryz.prog 59 #[.slice (some ⟨g,0,none⟩) n cap, .int .i64 k0] w fun e w'=>e = .returned (.int .i64 (k0 + n))∧MkRow w' base 3 (some ⟨g,0,none⟩) n (fun t=>iv (k0 + (t:Int)))∧Mk (fun t=>t = 3) g (g + 1) w w':=by
 have HR0:=Lib.hid hr
 clear hr
 go_enter Tryz.func59,Tryz.ntmps59
 go_wp2
 go_loopw [1,5] (fun kk i wr=>∃ (j:Nat) (cs:List Value),j ≤ n∧i = .int .i64 j∧kk = .int .i64 (k0 + j)∧RowAt wr g 3 cs∧n ≤ cs.length∧(∀ t,t < j→cs[t]? = some (iv (k0 + (t:Int))))∧Mk (fun t=>t = 3) g (g + 1) w wr) (fun _ i _=>n - (intOf i).toNat)
 case atStart=>exact ⟨0,cs,Nat.zero_le _,rfl,by simp,HR0.out,hl,fun t ht=>by omega,Mk.refl _ _ _ _⟩
 case round =>
  obtain ⟨j,cs1,hj,rfl,rfl,hr,hl1,hp,hb⟩:=hrel
  have HB:=Lib.hid hb
  have HP:=Lib.hid hp
  clear hb hp
  by_cases hlt:j < n
  ·have hltz:(j:Int) < (n:Int):=by omega
   have hc:=hr.cell (show cs1[j]? = some cs1[j] from List.getElem?_eq_getElem (by omega))
   have hf:=hr.frozen j
   have HR:=Lib.hid hr
   clear hr
   go_wp2
   go_roundw
   case rel=>exact ⟨j + 1,cs1.set j (iv (k0 + (j:Int))),by omega,by go_num,by go_num,HR.out.set j _,by simpa using hl1,set_pt1 (mc:=fun t=>iv (k0 + (t:Int))) (by omega) rfl HP.out,HB.out.set HR.out rfl (Nat.le_refl _) (by omega) _ _⟩
   case measure=>simp [intOf]; omega
  ·have hjn:j = n:=by omega
   subst hjn
   have HR:=Lib.hid hr
   clear hr
   go_wp2
   go_ret
   exact ⟨rfl,Or.inr ⟨g,cs1,rfl,hg,HR.out,hl1,HP.out⟩,HB.out⟩
theorem markIntS_z (q:Option Addr) (cap:Nat) (k0:Int) (w:World) :
  Calls Tryz.prog 59 #[.slice q 0 cap, .int .i64 k0] w fun e w'=>e = .returned (.int .i64 k0)∧w = w':=by
 go_enter Tryz.func59,Tryz.ntmps59
 go_wp2
 go_loop [1,5] (fun kk i=>i = .int .i64 0∧kk = .int .i64 k0) (fun _ _=>0)
 case atStart=>exact ⟨rfl,rfl⟩
 case round =>
  obtain ⟨rfl,rfl⟩:=hrel
  go_wp2
  go_ret
  exact ⟨rfl,rfl⟩
set_option maxHeartbeats 1000000 in
theorem markStringS_p (p:Option Addr) (cap n base:Nat) (k0:Int) (w:World) (ho:RowN w base 9 p n) (hbs:base ≤ w.heap.size) (hn:n ≤ 1048576) (h0:0 ≤ k0) (h1:k0 ≤ 281474976710656) :
  Calls Tryz.prog 100 #[.slice p n cap, .int .i64 k0] w fun e w'=>e = .returned (.int .i64 (k0 + n))∧MkRow w' base 9 p n (fun t=>.string (mtxt (k0 + (t:Int))))∧∃ hi,Mk strT base hi w w':=by
 have HO:=Lib.hid ho
 clear ho
 rcases HO.out with hz | ⟨g,cs,rfl,hg,hr,hl⟩
 ·subst hz
  go_enter Tryz.func100,Tryz.ntmps100
  go_wp2
  go_loop [1,5] (fun kk i=>i = .int .i64 0∧kk = .int .i64 k0) (fun _ _=>0)
  case atStart=>exact ⟨rfl,rfl⟩
  case round =>
   obtain ⟨rfl,rfl⟩:=hrel
   go_wp2
   go_ret
   exact ⟨by simp,Or.inl rfl,0,Mk.refl _ _ _ _⟩
 have HR0:=Lib.hid hr
 clear hr
 go_enter Tryz.func100,Tryz.ntmps100
 go_wp2
 go_loopw [1,5] (fun kk i wr=>∃ (j:Nat) (cs:List Value),j ≤ n∧i = .int .i64 j∧kk = .int .i64 (k0 + j)∧RowAt wr g 9 cs∧n ≤ cs.length∧(∀ t,t < j→cs[t]? = some (.string (mtxt (k0 + (t:Int)))))∧Mk strT base (g + 1) w wr) (fun _ i _=>n - (intOf i).toNat)
 case atStart=>exact ⟨0,cs,Nat.zero_le _,rfl,by simp,HR0.out,hl,fun t ht=>by omega,Mk.refl _ _ _ _⟩
 case round =>
  obtain ⟨j,cs1,hj,rfl,rfl,hr,hl1,hp,hb⟩:=hrel
  have HB:=Lib.hid hb
  have HP:=Lib.hid hp
  clear hb hp
  by_cases hlt:j < n
  ·have hltz:(j:Int) < (n:Int):=by omega
   have HR:=Lib.hid hr
   clear hr
   go_wp2_with fail
   refine (markText_any _ _ (by omega) (by omega)).mono ?_
   rintro e w1 ⟨rfl,hb1⟩
   have hr1:=HR.out.keep hb1
   have hc:=hr1.cell (show cs1[j]? = some cs1[j] from List.getElem?_eq_getElem (by omega))
   have hf:=hr1.frozen j
   have HR1:=Lib.hid hr1
   have HB1:=Lib.hid (HB.out.trans (Mk.fresh (T:=strT) (hi:=g + 1) hb1 (Nat.le_trans hbs HB.out.low.size)))
   clear hr1 hb1 HR
   go_wp2
   go_roundw
   case rel=>exact ⟨j + 1,cs1.set j (.string (mtxt (k0 + (j:Int)))),by omega,by go_num,by go_num,HR1.out.set j _,by simpa using hl1,set_pt1 (mc:=fun t=>.string (mtxt (k0 + (t:Int)))) (by omega) rfl HP.out,HB1.out.set HR1.out rfl hg (by omega) _ _⟩
   case measure=>simp [intOf]; omega
  ·have hjn:j = n:=by omega
   subst hjn
   have HR:=Lib.hid hr
   clear hr
   go_wp2
   go_ret
   exact ⟨rfl,Or.inr ⟨g,cs1,rfl,hg,HR.out,hl1,HP.out⟩,g + 1,HB.out⟩
set_option maxHeartbeats 2000000 in
theorem markFiberS_p (p:Option Addr) (cap n base:Nat) (k0:Int) (w:World) (ho:RowN w base 163 p (n * 4)) (hn:n ≤ 1048576) (h0:0 ≤ k0) (h1:k0 ≤ 281474976710656) :
  Calls Tryz.prog 101 #[.slice p n cap, .int .i64 k0] w fun e w'=>e = .returned (.int .i64 (k0 + 4 * n))∧MkRow w' base 163 p (n * 4) (fun t=>iv (k0 + (t:Int)))∧∃ hi,Mk fibT base hi w w':=by
 have HO:=Lib.hid ho
 clear ho
 rcases HO.out with hz | ⟨g,cs,rfl,hg,hr,hl⟩
 ·have hz0:n = 0:=by omega
  subst hz0
  go_enter Tryz.func101,Tryz.ntmps101
  go_wp2
  go_loop [1,5] (fun kk i=>i = .int .i64 0∧kk = .int .i64 k0) (fun _ _=>0)
  case atStart=>exact ⟨rfl,rfl⟩
  case round =>
   obtain ⟨rfl,rfl⟩:=hrel
   go_wp2
   go_ret
   exact ⟨by simp,Or.inl rfl,0,Mk.refl _ _ _ _⟩
 have HR0:=Lib.hid hr
 clear hr
 go_enter Tryz.func101,Tryz.ntmps101
 go_wp2
 go_loopw [1,5] (fun kk i wr=>∃ (j:Nat) (cs:List Value),j ≤ n∧i = .int .i64 j∧kk = .int .i64 (k0 + 4 * j)∧RowAt wr g 163 cs∧n * 4 ≤ cs.length∧(∀ t,t < j * 4→cs[t]? = some (iv (k0 + (t:Int))))∧Mk fibT base (g + 1) w wr) (fun _ i _=>n - (intOf i).toNat)
 case atStart=>exact ⟨0,cs,Nat.zero_le _,rfl,by simp,HR0.out,hl,fun t ht=>by omega,Mk.refl _ _ _ _⟩
 case round =>
  obtain ⟨j,cs1,hj,rfl,rfl,hr,hl1,hp,hb⟩:=hrel
  have HB:=Lib.hid hb
  have HP:=Lib.hid hp
  clear hb hp
  by_cases hlt:j < n
  ·have hltz:(j:Int) < (n:Int):=by omega
   have hc0:wr.cell? ⟨g,j * 4,none⟩ = some cs1[j * 4]:=hr.cell (List.getElem?_eq_getElem (by omega))
   have hc1:wr.cell? ⟨g,j * 4 + 1,none⟩ = some cs1[j * 4 + 1]:=hr.cell (List.getElem?_eq_getElem (by omega))
   have hc2:wr.cell? ⟨g,j * 4 + 2,none⟩ = some cs1[j * 4 + 2]:=hr.cell (List.getElem?_eq_getElem (by omega))
   have hc3:wr.cell? ⟨g,j * 4 + 3,none⟩ = some cs1[j * 4 + 3]:=hr.cell (List.getElem?_eq_getElem (by omega))
   have hf0:=hr.frozen (j * 4)
   have hf1:=hr.frozen (j * 4 + 1)
   have hf2:=hr.frozen (j * 4 + 2)
   have hf3:=hr.frozen (j * 4 + 3)
   have HR:=Lib.hid hr
   clear hr
   go_wp2
   go_roundw
   case rel =>
    refine ⟨j + 1,(((cs1.set (j * 4) (iv (k0 + 4 * j))).set (j * 4 + 1) (iv (k0 + 4 * j + 1))).set (j * 4 + 2) (iv (k0 + 4 * j + 1 + 1))).set (j * 4 + 3) (iv (k0 + 4 * j + 1 + 1 + 1)),by omega,by go_num,by go_num,(((HR.out.set _ _).set _ _).set _ _).set _ _,by simpa using hl1,?_,?_⟩
    ·intro t ht
     have e0:=set_pt1 (cs:=cs1) (v:=iv (k0 + 4 * j)) (mc:=fun t=>iv (k0 + (t:Int))) (n:=j * 4) (by omega) (by simp; omega) HP.out
     have e1:=set_pt1 (v:=iv (k0 + 4 * j + 1)) (mc:=fun t=>iv (k0 + (t:Int))) (n:=j * 4 + 1) (by simp; omega) (by simp; omega) e0
     have e2:=set_pt1 (v:=iv (k0 + 4 * j + 1 + 1)) (mc:=fun t=>iv (k0 + (t:Int))) (n:=j * 4 + 2) (by simp; omega) (by simp; omega) e1
     have e3:=set_pt1 (v:=iv (k0 + 4 * j + 1 + 1 + 1)) (mc:=fun t=>iv (k0 + (t:Int))) (n:=j * 4 + 3) (by simp; omega) (by simp; omega) e2
     exact e3 t (by omega)
    ·exact (((HB.out.set HR.out rfl hg (by omega) _ _).set (HR.out.set _ _) rfl hg (by omega) _ _).set ((HR.out.set _ _).set _ _) rfl hg (by omega) _ _).set (((HR.out.set _ _).set _ _).set _ _) rfl hg (by omega) _ _
   case measure=>simp [intOf]; omega
  ·have hjn:j = n:=by omega
   subst hjn
   have HR:=Lib.hid hr
   clear hr
   go_wp2
   go_ret
   exact ⟨rfl,Or.inr ⟨g,cs1,rfl,hg,HR.out,hl1,HP.out⟩,g + 1,HB.out⟩
theorem MkRow.at {w:World} {base:Nat} {T:TypeId} {q:Option Addr} {n:Nat} {mc:Nat→Value} (h:MkRow w base T q n mc) {t:Nat} (ht:t < n):∃ g,q = some ⟨g,0,none⟩∧w.cell? ⟨g,t,none⟩ = some (mc t):=by
 rcases h with h | ⟨g,cs,h1,h2,h3,h4,h5⟩
 ·omega
 ·exact ⟨g,h1,h3.cell (h5 t ht)⟩
theorem MkRow.ints {w:World} {base:Nat} {q:Option Addr} {n:Nat} {k0:Int} (h:MkRow w base 3 q n fun t=>iv (k0 + (t:Int))):Ints w q (marks k0 n):=by
 rcases h with h | ⟨g,cs,h1,h2,h3,h4,h5⟩
 ·exact Or.inl (by subst h; rfl)
 ·refine Or.inr ⟨g,0,h1,fun i v hv=>?_⟩
  have hi:i < n:=by
   rcases Nat.lt_or_ge i n with h' | h'
   ·exact h'
   ·rw [List.getElem?_eq_none (by simp [marks_len]; exact h')] at hv; cases hv
  have hm:(marks k0 n)[i]? = some (k0 + (i:Int)):=by unfold marks; simp [hi]
  rw [List.getElem?_map,hm] at hv
  cases hv
  have:=h3.cell (h5 i hi)
  rw [Nat.zero_add]; exact this
set_option maxHeartbeats 1000000 in
theorem heldStringS_p (p:Option Addr) (cap n base:Nat) (k0:Int) (w:World) (h:MkRow w base 9 p n fun t=>.string (mtxt (k0 + (t:Int)))) (hn:n ≤ 1048576) (h0:0 ≤ k0) (h1:k0 ≤ 281474976710656) :
  Calls Tryz.prog 102 #[.slice p n cap, .int .i64 k0] w fun e w'=>e = .returned (.int .i64 (k0 + n))∧Fresh w w':=by
 have HM:=Lib.hid h
 clear h
 go_enter Tryz.func102,Tryz.ntmps102
 go_wp2
 go_loopw [1,5] (fun kk i wr=>∃ j:Nat,j ≤ n∧i = .int .i64 j∧kk = .int .i64 (k0 + j)∧Fresh w wr) (fun _ i _=>n - (intOf i).toNat)
 case atStart=>exact ⟨0,Nat.zero_le _,rfl,by simp,frefl _⟩
 case round =>
  obtain ⟨j,hj,rfl,rfl,hf⟩:=hrel
  have HF:=Lib.hid hf
  clear hf
  by_cases hlt:j < n
  ·have hltz:(j:Int) < (n:Int):=by omega
   obtain ⟨g,rfl,hc⟩:=(HM.out.keep HF.out).at hlt
   obtain ⟨tx,htx⟩:∃ tx,tx = mtxt (k0 + (j:Int)):=⟨_,rfl⟩
   have HC:Hid (∀ xa:After wr,Calls Tryz.prog 151 #[.int .i64 (k0 + (j:Int))] xa.w' fun e w'=>e = .returned (.string tx)∧Fresh xa.w' w'):=by rw [htx]; exact fun xa=>markText_any (k0 + (j:Int)) xa.w' (by omega) (by omega)
   rw [← htx] at hc
   have hne:(tx.toList == tx.toList) = true:=by simp
   have hc2:=fun xa:After wr=>akeep hc xa
   clear htx
   go_wp2
   refine wp_region_after (by kernel_rfl) (by kernel_rfl) ?_
   repeat (go_big_quiet_step ((go_at_call 151; exact after_call (HC.out _))))
   refine wpQuiet_nil ?_
   rintro _ ⟨xa,rfl⟩
   go_wp2
   go_roundw
   case rel=>exact ⟨j + 1,by omega,by go_num,by go_num,fstep HF.out xa.h⟩
   case measure=>simp [intOf]; omega
  ·have hjn:j = n:=by omega
   subst hjn
   go_wp2
   go_ret
   exact ⟨rfl,HF.out⟩
set_option maxHeartbeats 1000000 in
theorem heldFiberS_p (p:Option Addr) (cap n base:Nat) (k0:Int) (w:World) (h:MkRow w base 163 p (n * 4) fun t=>iv (k0 + (t:Int))) (hn:n ≤ 1048576) (h0:0 ≤ k0) (h1:k0 ≤ 281474976710656) :
  Calls Tryz.prog 103 #[.slice p n cap, .int .i64 k0] w fun e w'=>e = .returned (.int .i64 (k0 + 4 * n))∧w = w':=by
 have HM:=Lib.hid h
 clear h
 go_enter Tryz.func103,Tryz.ntmps103
 go_wp2
 go_loop [1,5] (fun kk i=>∃ j:Nat,j ≤ n∧i = .int .i64 j∧kk = .int .i64 (k0 + 4 * j)) (fun _ i=>n - (intOf i).toNat)
 case atStart=>exact ⟨0,Nat.zero_le _,rfl,by simp⟩
 case round =>
  obtain ⟨j,hj,rfl,rfl⟩:=hrel
  by_cases hlt:j < n
  ·have hltz:(j:Int) < (n:Int):=by omega
   obtain ⟨g,rfl,c0⟩:=HM.out.at (t:=j * 4) (by omega)
   obtain ⟨g1,e1,c1⟩:=HM.out.at (t:=j * 4 + 1) (by omega)
   cases e1
   obtain ⟨g1,e1,c2⟩:=HM.out.at (t:=j * 4 + 2) (by omega)
   cases e1
   obtain ⟨g1,e1,c3⟩:=HM.out.at (t:=j * 4 + 3) (by omega)
   cases e1
   simp only [show k0 + ((j * 4:Nat):Int) = k0 + 4 * (j:Int) by omega] at c0
   simp only [show k0 + ((j * 4 + 1:Nat):Int) = k0 + 4 * (j:Int) + 1 by omega] at c1
   simp only [show k0 + ((j * 4 + 2:Nat):Int) = k0 + 4 * (j:Int) + 1 + 1 by omega] at c2
   simp only [show k0 + ((j * 4 + 3:Nat):Int) = k0 + 4 * (j:Int) + 1 + 1 + 1 by omega] at c3
   go_wp2
   go_round
   case rel=>exact ⟨j + 1,by omega,by go_num,by go_num⟩
   case measure=>simp [intOf]; omega
  ·have hjn:j = n:=by omega
   subst hjn
   go_wp2
   go_ret
   exact ⟨rfl,rfl⟩
end Go.Proofs.YteckjlkhopkogaaGreat
