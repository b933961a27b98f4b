/- Contracts: the block that a rule finds, the reference's side; the order of choices by their cost; helpers. -/
import Derived.Test.YteckjlkhopkogaaGreatSq2
import Derived.Test.YteckjlkhopkogaaGreatY9
import Derived.Test.YteckjlkhopkogaaGreatY7
import Derived.Test.YteckjlkhopkogaaGreatSp
namespace Go.Proofs.YteckjlkhopkogaaGreat
open Go.RowKit Go.PlainAid
theorem bestB_F {m c:Int} (ha:askB m c = true):bestB m c = ((bestF m c).1,(bestF m c).2.1):=by
 by_cases h:(bestR c (runs m)).2 = 0
 ·rw [bestB_none h,bestF_none h]
 ·rw [bestB_some h,bestF_yes ha h]
theorem fits_len (m c:Int) (h1:1 ≤ c):(fits m c).length ≤ 25:=by
 unfold fits
 have:=fitsTo_len m c (25 - c).toNat
 omega
set_option maxHeartbeats 2000000 in
set_option maxRecDepth 20000 in
theorem l11Block_any {M:Nat} (hM:M < 16777216) (c fit:Int) (w:World) (h1:1 ≤ c) (h2:c ≤ 24) :
  Calls Tryz.prog 111 #[.int .i64 (M:Int), .int .i64 c, .int .i64 fit] w fun e w'=>e = .returned (.agg #[.int .i64 (fitF fit (M:Int) c).1, .int .i64 (fitF fit (M:Int) c).2.1])∧Fresh w w':=by
 have ha:=ask_ok hM h1 h2
 have hno:=fitF_no (fit:=fit) hM h1 h2
 have hm0:(0:Int) ≤ (M:Int):=by omega
 obtain ⟨m,hm⟩:∃ m:Int,m = (M:Int):=⟨_,rfl⟩
 rw [← hm] at ha hno hm0 ⊢
 clear hm hM
 obtain ⟨W2,hW2⟩:∃ W,W = w.alloc (.cells #[.int .i64 0, .int .i64 0] 92):=⟨_,rfl⟩
 have hf2:Fresh w W2:=by rw [hW2]; exact fnew (frefl _) _
 have hr2:RowAt W2 w.heap.size 92 [.int .i64 0, .int .i64 0]:=by rw [hW2]; exact RowAt.new _ _ _
 have HFT:=Lib.hid (l8Fits_any m c W2 h1 h2)
 have HBT:Hid (∀ W,Calls Tryz.prog 158 #[.int .i64 m, .int .i64 c] W fun e w'=>e = .returned (.agg #[.int .i64 (bestF m c).1, .int .i64 (bestF m c).2.1])∧Fresh W w'):=fun W=>by
  have:=l8Best_any m c W hm0 h1
  rw [bestB_F ha] at this
  exact this
 have hlen:=fits_len m c h1
 have HF2:=Lib.hid hf2
 have HR2:=Lib.hid hr2
 have HW2:=Lib.hid hW2
 have hsz:=hf2.size
 clear hf2 hr2 hW2
 rcases hL:fits m c with _ | ⟨x,l⟩
 ·have HV:=Lib.hid (hno hL)
  rw [HV.out]
  rw [hL] at HFT
  clear hno hlen HBT
  go_enter Tryz.func111,Tryz.ntmps111
  go_wp2_with fail
  rw [← HW2.out]
  refine (HFT.out).mono ?_
  rintro e w1 ⟨p,cap,rfl,_,hb⟩
  have hz:=HR2.out.keep hb
  have x0:=hz.cell (i:=0) rfl
  have u0:=hz.frozen 0
  have x1:=hz.cell (i:=1) rfl
  have u1:=hz.frozen 1
  have hfin:=(hz.set 0 (.int .i64 0)).set 1 (.int .i64 0)
  have k0:=hfin.cell (i:=0) rfl
  have k1:=hfin.cell (i:=1) rfl
  have HB:=Lib.hid (fstep HF2.out hb)
  clear hz hfin hb HFT
  go_wp2
  refine bodyPost_ret (v:=.agg #[.int .i64 0, .int .i64 0]) (by simp [results,Tryz.results111,go_sem,k0,k1]) rfl ?_
  exact ⟨rfl,fset (fset HB.out (by omega) _) (by omega) _⟩
 ·have hl25:l.length + 1 ≤ 25:=by rw [hL] at hlen; simpa using hlen
  have HD:Hid (fitF fit m c = if fit = 1 then (x,c,true) else if fit = 2 then (lastFi (x :: l),c,true) else bestF m c):=by
   show _ = _
   unfold fitF
   rw [pickF_some ha hL,pickF_some ha hL]; rfl
  rw [hL] at HFT
  clear hno hlen hL
  by_cases hf1:fit = 1
  ·have g1:(fit == 1) = true:=by simp [hf1]
   have HV:Hid (fitF fit m c = (x,c,true)):=by show _ = _; rw [HD.out]; simp [hf1]
   rw [HV.out]
   clear hf1 HBT
   go_enter Tryz.func111,Tryz.ntmps111
   go_wp2_with fail
   rw [← HW2.out]
   refine (HFT.out).mono ?_
   rintro e w1 ⟨p,cap,rfl,ho,hb⟩
   obtain ⟨b,off,rfl,hc⟩:=Own.ints (L:=x :: l) ho |>.at0
   have hz:=HR2.out.keep hb
   have x0:=hz.cell (i:=0) rfl
   have u0:=hz.frozen 0
   have x1:=hz.cell (i:=1) rfl
   have u1:=hz.frozen 1
   have hfin:=(hz.set 0 (.int .i64 x)).set 1 (.int .i64 c)
   have k0:=hfin.cell (i:=0) rfl
   have k1:=hfin.cell (i:=1) rfl
   have HB:=Lib.hid (fstep HF2.out hb)
   clear hz hfin hb HFT ho
   go_wp2
   refine bodyPost_ret (v:=.agg #[.int .i64 x, .int .i64 c]) (by simp [results,Tryz.results111,go_sem,k0,k1]) rfl ?_
   exact ⟨rfl,fset (fset HB.out (by omega) _) (by omega) _⟩
  ·have g1:(fit == 1) = false:=by simp [hf1]
   by_cases hf2:fit = 2
   ·have g2:(fit == 2) = true:=by simp [hf2]
    have HV:Hid (fitF fit m c = (lastFi (x :: l),c,true)):=by show _ = _; rw [HD.out]; simp [hf2]
    rw [HV.out]
    clear hf1 hf2 HBT
    go_enter Tryz.func111,Tryz.ntmps111
    go_wp2_with fail
    rw [← HW2.out]
    refine (HFT.out).mono ?_
    rintro e w1 ⟨p,cap,rfl,ho,hb⟩
    obtain ⟨b,off,y,rfl,hy,hc⟩:=Own.ints (L:=x :: l) ho |>.at (k:=l.length) (by simp)
    have HY:=Lib.hid hy
    have hz:=HR2.out.keep hb
    have x0:=hz.cell (i:=0) rfl
    have u0:=hz.frozen 0
    have x1:=hz.cell (i:=1) rfl
    have u1:=hz.frozen 1
    have hfin:=(hz.set 0 (.int .i64 y)).set 1 (.int .i64 c)
    have k0:=hfin.cell (i:=0) rfl
    have k1:=hfin.cell (i:=1) rfl
    have HB:=Lib.hid (fstep HF2.out hb)
    clear hz hfin hb HFT ho hy
    go_wp2
    refine bodyPost_ret (v:=.agg #[.int .i64 y, .int .i64 c]) (by simp [results,Tryz.results111,go_sem,k0,k1]) rfl ?_
    exact ⟨by rw [last_of HY.out],fset (fset HB.out (by omega) _) (by omega) _⟩
   ·have g2:(fit == 2) = false:=by simp [hf2]
    have HV:Hid (fitF fit m c = bestF m c):=by show _ = _; rw [HD.out]; simp [hf1,hf2]
    rw [HV.out]
    obtain ⟨⟨f4,n4,b4⟩,hr4⟩:∃ r,r = bestF m c:=⟨_,rfl⟩
    rw [← hr4] at HBT ⊢
    clear hf1 hf2 hr4
    go_enter Tryz.func111,Tryz.ntmps111
    go_wp2_with fail
    rw [← HW2.out]
    refine (HFT.out).mono ?_
    rintro e w1 ⟨p,cap,rfl,ho,hb⟩
    have HB1:=Lib.hid hb
    clear hb HFT ho
    go_wp2_with fail
    refine (HBT.out _).mono ?_
    rintro e w2 ⟨rfl,hb⟩
    have hz:=(HR2.out.keep HB1.out).keep hb
    have x0:=hz.cell (i:=0) rfl
    have u0:=hz.frozen 0
    have x1:=hz.cell (i:=1) rfl
    have u1:=hz.frozen 1
    have hfin:=(hz.set 0 (.int .i64 f4)).set 1 (.int .i64 n4)
    have k0:=hfin.cell (i:=0) rfl
    have k1:=hfin.cell (i:=1) rfl
    have HB:=Lib.hid (fstep HF2.out (fstep HB1.out hb))
    clear hz hfin hb
    go_wp2
    refine bodyPost_ret (v:=.agg #[.int .i64 f4, .int .i64 n4]) (by simp [results,Tryz.results111,go_sem,k0,k1]) rfl ?_
    exact ⟨rfl,fset (fset HB.out (by omega) _) (by omega) _⟩
/-- The order in which a list of choices is looked at. -/
def ltCC (l:List CH) (i j:Nat):Bool:=decide (kCH (l.getD i dCH) < kCH (l.getD j dCH))
def odG (lt:Nat→Nat→Bool) (j:Nat):List Int:=(List.range j).map fun i=>((ordS lt j i:Nat):Int)
theorem odG_len (lt:Nat→Nat→Bool) (j:Nat):(odG lt j).length = j:=by simp [odG]
theorem odG_get {lt:Nat→Nat→Bool} {j i:Nat} (h:i < j):(odG lt j)[i]? = some ((ordS lt j i:Nat):Int):=by
 unfold odG; rw [List.getElem?_map,List.getElem?_range h]; rfl
theorem odG_step {lt:Nat→Nat→Bool} {j k:Nat} (hk:k = insAt lt (ordS lt j) j j):(odG lt j).take k ++ [(j:Int)] ++ (odG lt j).drop k = odG lt (j + 1):=by
 have hle:k ≤ j:=by rw [hk]; exact insAt_le _ _ _ _
 have hlen:=odG_len lt j
 apply List.ext_getElem?
 intro t
 rcases Nat.lt_or_ge t (j + 1) with h | h
 ·rw [odG_get h]
  have e:ordS lt (j + 1) t = rot (ordS lt j) k j (j + 1) t:=by rw [hk]; rfl
  rw [e,List.append_assoc]
  rcases Nat.lt_trichotomy t k with h1 | h1 | h1
  ·rw [List.getElem?_append_left (by rw [List.length_take]; omega),List.getElem?_take_of_lt h1,odG_get (by omega),rot_be _ hle h1]
  ·subst h1
   rw [List.getElem?_append_right (by rw [List.length_take]; omega),List.length_take,Nat.min_eq_left (by omega),rot_at _ hle,ordS_out _ _ _ (Nat.le_refl _)]
   simp
  ·rw [List.getElem?_append_right (by rw [List.length_take]; omega),List.length_take,Nat.min_eq_left (by omega)]
   obtain ⟨u,hu⟩:∃ u,t - k = u + 1:=⟨t - k - 1,by omega⟩
   rw [hu,List.singleton_append,List.getElem?_cons_succ,List.getElem?_drop,odG_get (by omega),rot_hi (by omega)]
   congr 3
   omega
 ·rw [List.getElem?_eq_none (by rw [List.length_append,List.length_append,List.length_take,List.length_drop]; simp; omega),List.getElem?_eq_none (by rw [odG_len]; exact h)]
theorem ordH_at (l:List CH) {i:Nat} (h:i < l.length):(ordH l)[i]? = l[ordS (ltCC l) l.length i]?:=ordL_get kCH dCH l h
theorem onesI (l:List Int):∀ u ∈ l.map iv,u.oneCell' = true:=by
 intro u hu
 obtain ⟨x,_,rfl⟩:=List.mem_map.1 hu
 rfl
theorem partJ_a {W:World} {base:Nat} {r:Option Addr} {l:List Int} (k:Nat) (h:Own W base 3 r (l.map iv)):Cells W r ((l.take k).map iv):=by
 rcases h.cells with h | ⟨b,off,e,h⟩
 ·left
  have:l = []:=List.map_eq_nil_iff.1 h
  rw [this]; simp
 ·refine Or.inr ⟨b,off,e,fun j u hj=>h j u ?_⟩
  rw [List.map_take] at hj
  have hlt:j < k:=by
   rcases Nat.lt_or_ge j k with h' | h'
   ·exact h'
   ·rw [List.getElem?_eq_none (by rw [List.length_take]; omega)] at hj; cases hj
  rwa [List.getElem?_take_of_lt hlt] at hj
theorem partJ_b {W:World} {base g:Nat} {l:List Int} {cap k:Nat} (hk:k ≤ l.length) (hc:l.length ≤ cap) (h:Own W base 3 (some ⟨g,0,none⟩) (l.map iv)):Cells W (if cap = k then (some (⟨g,0,none⟩:Addr)) else some ⟨g,k,none⟩) ((l.drop k).map iv):=by
 by_cases hck:cap = k
 ·left
  rw [List.map_eq_nil_iff,List.drop_eq_nil_iff]; omega
 ·rw [if_neg hck]
  rcases h with ⟨h0,_⟩ | ⟨g',sp,h1,_,hW⟩
  ·cases h0
  ·cases h1
   refine Or.inr ⟨g,k,rfl,fun j u hj=>?_⟩
   rw [List.map_drop,List.getElem?_drop] at hj
   exact hW.cell (by rw [List.getElem?_append_left (List.getElem?_eq_some_iff.1 hj).1]; exact hj)
/-- The cells of a usable route and of its number. -/
theorem uss_at {w:World} {base:Nat} {p pk:Option Addr} {c ck:Nat} {l:List CH} (h:Uss w base (.slice p l.length c) pk ck l) {j:Nat} (hj:j < l.length) :
  ∃ g h x,p = some ⟨g,0,none⟩∧pk = some ⟨h,0,none⟩∧l[j]? = some x∧x ∈ l∧w.cell? ⟨g,j * 2,none⟩ = some (iv x.r.start)∧w.cell? ⟨g,j * 2 + 1,none⟩ = some (.slice x.r.q x.r.fibs.length x.r.cap)∧w.cell? ⟨h,j,none⟩ = some (iv x.k):=by
 obtain ⟨h1,h2⟩:=h
 have h1':Rts w base (.slice p (l.map CH.r).length c) (l.map CH.r):=by rw [List.length_map]; exact h1
 obtain ⟨g,y,rfl,hy,_,c0,c1⟩:=rts_at h1' (j:=j) (by rw [List.length_map]; exact hj)
 obtain ⟨x,hx⟩:∃ x,l[j]? = some x:=⟨l[j],List.getElem?_eq_getElem hj⟩
 have e:y = x.r:=by
  rw [List.getElem?_map,hx] at hy
  cases hy; rfl
 subst e
 obtain ⟨p',c',he,ho⟩:=own_of_row h2
 cases he
 rcases ho with ⟨_,h0⟩ | ⟨b,sp,rfl,_,hr⟩
 ·rw [List.map_eq_nil_iff] at h0
  rw [h0] at hj; cases hj
 ·refine ⟨g,b,x,rfl,rfl,hx,List.mem_of_getElem? hx,c0,c1,hr.cell ?_⟩
  rw [List.getElem?_append_left (by rw [List.length_map]; exact hj),List.getElem?_map,hx]; rfl
theorem Uss.typ {w w':World} {base:Nat} {V:Value} {pk:Option Addr} {ck:Nat} {l:List CH} (h:Uss w base V pk ck l) (hk:∀ g t cs,RowAt w g t cs→t ≠ 94→RowAt w' g t cs):Uss w' base V pk ck l :=
 ⟨h.rts.typ hk (by decide) (by decide),ownsRow_typ h.ks hk (by decide)⟩
theorem Uss.ints {w:World} {base:Nat} {V:Value} {pk:Option Addr} {ck:Nat} {l:List CH} (h:Uss w base V pk ck l) {x:CH} (hx:x ∈ l):Ints w x.r.q x.r.fibs:=(h.rts.fib x.r (List.mem_map_of_mem hx)).ints
theorem DistL.pw2 (l:List LL):DistL l ↔ l.Pairwise fun x y=>∀ g o h o',x.r.q = some ⟨g,o,none⟩→y.r.q = some ⟨h,o',none⟩→g ≠ h:=by
 rw [List.pairwise_iff_getElem]
 constructor
 ·intro h i j hi hj hij
  exact h i j l[i] l[j] (by omega) (List.getElem?_eq_getElem hi) (List.getElem?_eq_getElem hj)
 ·intro h i j x y hij hx hy g o g' o' e1 e2
  obtain ⟨hi,rfl⟩:=List.getElem?_eq_some_iff.1 hx
  obtain ⟨hj,rfl⟩:=List.getElem?_eq_some_iff.1 hy
  rcases Nat.lt_or_gt_of_ne hij with h1 | h1
  ·exact h i j hi hj h1 g o g' o' e1 e2
  ·exact (h j i hj hi h1 g' o' g o e2 e1).symm
theorem Lso.snoc {w w':World} {base b2:Nat} {V V':Value} {l:List LL} {y:LL} (h:Lso w base V l) (hrow:w'.ownsRow base 94 5 V' (l.length + 1) (l.flatMap llC ++ llC y)) (hk:∀ g t cs,RowAt w g t cs→t ≠ 94→RowAt w' g t cs) (ho:Own w' b2 3 y.r.q (y.r.fibs.map iv)) (hb2:w.heap.size ≤ b2) (hbase:base ≤ b2):Lso w' base V' (l ++ [y]):=by
 refine ⟨by rw [List.length_append,List.flatMap_append]; simpa using hrow,fun x hx=>?_,?_⟩
 ·rcases List.mem_append.1 hx with hx | hx
  ·exact (h.fib x hx).grown hk (by decide)
  ·rw [List.mem_singleton.1 hx]; exact ho.mono hbase
 ·rw [DistL.pw2,List.pairwise_append]
  refine ⟨(DistL.pw2 l).1 h.dist,List.pairwise_singleton _ _,fun a ha b hb g o h' o' e1 e2=>?_⟩
  rw [List.mem_singleton.1 hb] at e2
  have hg:g < w.heap.size:=by
   rcases h.fib a ha with ⟨h0,_⟩ | ⟨g',sp,h1,_,hr⟩
   ·rw [h0] at e1; cases e1
   ·rw [h1] at e1; cases e1; exact hr.lt
  have hh:b2 ≤ h':=by
   rcases ho with ⟨h0,_⟩ | ⟨g',sp,h1,hle,_⟩
   ·rw [h0] at e2; cases e2
   ·rw [h1] at e2; cases e2; exact hle
  omega
theorem fit_flag {fit:Int} {M:Nat} {c:Int} (hM:M < 16777216) (h1:1 ≤ c) (h2:c ≤ 24):((fitF fit (M:Int) c).2.2 = true∧0 < (fitF fit (M:Int) c).2.1) ∨ ((fitF fit (M:Int) c).2.2 = false∧¬ 0 < (fitF fit (M:Int) c).2.1):=by
 by_cases hn:fits (M:Int) c = []
 ·right; rw [fitF_no hM h1 h2 hn]; simp
 ·left
  obtain ⟨y,_,he⟩:=fitF_yes (fit:=fit) hM h1 h2 hn
  rw [he]; exact ⟨rfl,by show 0 < c; omega⟩
theorem consC_one (L:List LtV) (fit:Int) (x:CH) {y:LL} {f n:Int} (h:fitF fit (alongN L x.r.fibs:Int) x.k = (f,n,true)) (h2:y.val = (0,x.r.val,(f,n))):consC L fit x.val = [y.val]:=by
 unfold consC
 rw [show (alongN L x.val.1.2:Int) = (alongN L x.r.fibs:Int) from rfl,show x.val.2 = x.k from rfl,h,if_pos rfl,h2]
theorem consC_none (L:List LtV) (fit:Int) (x:CH) {f n:Int} (h:fitF fit (alongN L x.r.fibs:Int) x.k = (f,n,false)):consC L fit x.val = []:=by
 unfold consC
 rw [show (alongN L x.val.1.2:Int) = (alongN L x.r.fibs:Int) from rfl,show x.val.2 = x.k from rfl,h]
 rfl
end Go.Proofs.YteckjlkhopkogaaGreat
