/- Plain: serving a demand in a plan (no program in sight). -/
import Derived.Test.YteckjlkhopkogaaGreatMvP
import Derived.Test.YteckjlkhopkogaaGreatV4
import Derived.Test.YteckjlkhopkogaaGreatY9
namespace Go.Proofs.YteckjlkhopkogaaGreat
open Go.RowKit
/-- The block that a rule finds, and whether there is one. -/
def fitF (fit m c:Int):Int × Int × Bool:=if fit = 1 then pickF headI m c else if fit = 2 then pickF lastFi m c else bestF m c
theorem ask_ok {M:Nat} (hM:M < 16777216) {c:Int} (h1:1 ≤ c) (h2:c ≤ 24):askB (M:Int) c = true:=askB_iff.2 ⟨⟨by omega,by omega⟩,h1,h2⟩
theorem fitF_no {fit:Int} {M:Nat} {c:Int} (hM:M < 16777216) (h1:1 ≤ c) (h2:c ≤ 24) (h:fits (M:Int) c = []):fitF fit (M:Int) c = (0,0,false):=by
 unfold fitF
 split
 ·exact pickF_nil h
 ·split
  ·exact pickF_nil h
  ·refine bestF_none ?_
   by_cases hb:(bestR c (runs (M:Int))).2 = 0
   ·exact hb
   ·exact (((best_fits hM h1 h2).1.1 hb) h).elim
theorem lastD_mem:∀ (l:List Int) (x:Int),l.getLastD x ∈ x :: l
 | [],x=>by simp [List.getLastD]
 | y :: t,x=>by rw [List.getLastD_cons]; exact List.mem_cons_of_mem _ (lastD_mem t y)
theorem fitF_yes {fit:Int} {M:Nat} {c:Int} (hM:M < 16777216) (h1:1 ≤ c) (h2:c ≤ 24) (h:fits (M:Int) c ≠ []):∃ x ∈ fits (M:Int) c,fitF fit (M:Int) c = (x,c,true):=by
 have ha:=ask_ok hM h1 h2
 obtain ⟨x,l,hl⟩:∃ x l,fits (M:Int) c = x :: l:=by
  cases e:fits (M:Int) c with
  | nil=>exact (h e).elim
  | cons x l=>exact ⟨x,l,rfl⟩
 unfold fitF
 split
 ·exact ⟨x,by rw [hl]; exact List.mem_cons_self,by rw [pickF_some ha hl]; rfl⟩
 ·split
  ·refine ⟨lastFi (x :: l),?_,by rw [pickF_some ha hl]⟩
   rw [hl]
   unfold lastFi
   rw [List.getLastD_cons]
   exact lastD_mem l x
  ·have hb:=(best_fits hM h1 h2).1.2 h
   exact ⟨_,(best_fits hM h1 h2).2 hb,bestF_yes ha hb⟩
theorem fit_free {M:Nat} (hM:M < 16777216) {c x:Int} (h1:1 ≤ c) (h2:c ≤ 24) (h:x ∈ fits (M:Int) c):goodB x c = true∧M &&& mkN (x,c) = 0:=by
 obtain ⟨f,rfl,hf,hfr⟩:=mem_fits.1 h
 have hg:goodB (f:Int) c = true:=goodB_iff.2 ⟨by omega,h1,by omega⟩
 obtain ⟨e,_,e2⟩:=mkN_ok hg
 unfold freeAt at hfr
 rw [e,and_i64 M _ (lt63 hM) (lt63 e2),beq_iff_eq] at hfr
 exact ⟨hg,by omega⟩
/-- The light that a rule finds on a usable route. -/
def consC (L:List LtV) (fit:Int) (c:ChV):List LtV:=if (fitF fit (alongN L c.1.2:Int) c.2).2.2 = true then [(0,c.1,((fitF fit (alongN L c.1.2:Int) c.2).1,(fitF fit (alongN L c.1.2:Int) c.2).2.1))] else []
def consTo (L:List LtV) (fit:Int) (l:List ChV):List LtV:=l.flatMap (consC L fit)
theorem consTo_snoc (L:List LtV) (fit:Int) (l:List ChV) (c:ChV):consTo L fit (l ++ [c]) = consTo L fit l ++ consC L fit c:=by unfold consTo; rw [List.flatMap_append]; simp
theorem consC_len (L:List LtV) (fit:Int) (c:ChV):(consC L fit c).length ≤ 1:=by unfold consC; split <;> simp
theorem consTo_len (L:List LtV) (fit:Int):∀ l:List ChV,(consTo L fit l).length ≤ l.length
 | []=>Nat.le_refl _
 | c :: l=>by
  have h1:=consTo_len L fit l
  have h2:=consC_len L fit c
  unfold consTo at h1 ⊢
  rw [List.flatMap_cons,List.length_append,List.length_cons]; omega
def consL (P:PlanV) (fm:List (Int × Int)) (d:Fib) (fit:Int):List LtV:=consTo P.lights fit (ordV (usF P.net fm d).1)
theorem ordV_mem {l:List ChV} {x:ChV} (h:x ∈ ordV l):x ∈ l:=ordL_mem (K:=kCV) (d:=((0,[]),0)) h
theorem us_mem {n:Net} {fm:List (Int × Int)} {d:Fib} {c:ChV} (h:c ∈ (usF n fm d).1):usOk n fm d = true∧netB n = true∧1 ≤ c.2∧c.2 ≤ 24∧isVis n c.1.1 c.1.2 = true∧c.1.2.length ≤ 1048576∧∀ i ∈ c.1.2,0 ≤ i∧i < (n.fibers.length:Int):=by
 cases hok:usOk n fm d
 ·rw [usF_no hok] at h; cases h
 ·rw [usF_yes hok] at h
  have hu:usB n fm d = true:=by unfold usOk at hok; simp only [Bool.and_eq_true] at hok; exact hok.1
  obtain ⟨h1,h2,_,h3,_,h4,_,_⟩:=usB_at hu
  have hm2:c ∈ usL n fm d.len (allR n d.a d.b):=h
  obtain ⟨m1,m2,m3⟩:=usL_mem h2 h3 hm2
  obtain ⟨e1,g2⟩:=good_mem m1
  obtain ⟨a1,_,a3,a4,_⟩:=nodes_at h1 h4 g2
  refine ⟨rfl,h1,m2,m3,?_,by omega,(rt_ok h1 h4 g2).1⟩
  unfold isVis
  rw [visR_go (by rw [e1]; exact inB_iff.2 ⟨h4.1,by omega⟩) (by have:=g2.1; intro e; exact this (List.eq_nil_of_length_eq_zero e)),e1,a1]
  rfl
theorem goods {P:PlanV} (hp:planB P = true):∀ x ∈ P.lights,goodB x.2.2.1 x.2.2.2 = true:=fun x hx=>ltB_good (planB_lt hp x hx)
theorem cons_mem {P:PlanV} (hp:planB P = true) {fm:List (Int × Int)} {d:Fib} {fit:Int} {x:LtV} (h:x ∈ consL P fm d fit) :
  isVis P.net x.2.1.1 x.2.1.2 = true∧goodB x.2.2.1 x.2.2.2 = true∧alongN P.lights x.2.1.2 &&& mkN x.2.2 = 0∧x.2.1.2.length ≤ 1048576∧x.1 = 0:=by
 obtain ⟨c,hc,hx⟩:=List.mem_flatMap.1 h
 obtain ⟨_,_,m2,m3,hv,hl,_⟩:=us_mem (ordV_mem hc)
 have hM:alongN P.lights c.1.2 < 16777216:=along_lt (goods hp)
 unfold consC at hx
 split at hx
 ·next hf =>
  rw [List.mem_singleton] at hx
  subst hx
  by_cases hn:fits (alongN P.lights c.1.2:Int) c.2 = []
  ·rw [fitF_no hM m2 m3 hn] at hf; cases hf
  ·obtain ⟨y,hy,he⟩:=fitF_yes (fit:=fit) hM m2 m3 hn
   obtain ⟨g1,g2⟩:=fit_free hM m2 m3 hy
   simp only
   rw [he]
   exact ⟨hv,g1,g2,hl,by first | trivial | rfl⟩
 ·cases hx
/-- The smallest number that no light has. -/
def preI:List LtV→Nat→Nat
 | [],k=>k
 | x :: l,k=>if x.1 = (k:Int) + 1 then preI l (k + 1) else k
def idF (L:List LtV):Int:=(preI L 0:Int) + 1
theorem preI_le:∀ (L:List LtV) (k:Nat),k ≤ preI L k∧preI L k ≤ k + L.length
 | [],k=>⟨Nat.le_refl _,by simp [preI]⟩
 | x :: l,k=>by
  unfold preI
  split
  ·have:=preI_le l (k + 1); simp only [List.length_cons]; omega
  ·simp only [List.length_cons]; omega
theorem preI_at:∀ {L:List LtV} {k j:Nat},k + j < preI L k→∃ x,L[j]? = some x∧x.1 = ((k + j:Nat):Int) + 1
 | [],k,j,h=>by simp only [preI] at h; omega
 | x :: l,k,j,h=>by
  unfold preI at h
  split at h
  ·next he =>
   cases j with
   | zero=>exact ⟨x,rfl,by simpa using he⟩
   | succ j =>
    obtain ⟨y,h1,h2⟩:=preI_at (L:=l) (k:=k + 1) (j:=j) (by omega)
    exact ⟨y,h1,by rw [h2]; congr 2; omega⟩
  ·omega
theorem preI_stop:∀ {L:List LtV} {k:Nat} {x:LtV},L[preI L k - k]? = some x→x.1 ≠ (preI L k:Int) + 1
 | [],k,x,h=>by simp at h
 | y :: l,k,x,h=>by
  by_cases he:y.1 = (k:Int) + 1
  ·have e:preI (y :: l) k = preI l (k + 1):=by rw [preI,if_pos he]
   rw [e] at h ⊢
   have hle:=(preI_le l (k + 1)).1
   have e2:preI l (k + 1) - k = (preI l (k + 1) - (k + 1)) + 1:=by omega
   rw [e2,List.getElem?_cons_succ] at h
   exact preI_stop h
  ·have e:preI (y :: l) k = k:=by rw [preI,if_neg he]
   rw [e] at h ⊢
   rw [Nat.sub_self] at h
   simp only [List.getElem?_cons_zero,Option.some.injEq] at h
   rw [← h]; exact he
theorem inc_ge {L:List LtV} (hi:IncL L) (h1:∀ x ∈ L,1 ≤ x.1):∀ (j:Nat) (x:LtV),L[j]? = some x→(j:Int) + 1 ≤ x.1
 | 0,x,hx=>by have:=h1 x (List.mem_of_getElem? hx); simpa using this
 | j + 1,x,hx=>by
  have hlt:=(List.getElem?_eq_some_iff.1 hx).1
  obtain ⟨y,hy⟩:∃ y,L[j]? = some y:=⟨L[j],List.getElem?_eq_getElem (by omega)⟩
  have a:=inc_ge hi h1 j y hy
  have b:=hi j (j + 1) y x (by omega) hy hx
  omega
theorem findL_none {L:List LtV} {id:Int}:(∀ x ∈ L,x.1 ≠ id) ↔ findL L id < 0:=by
 constructor
 ·intro h
  have:=idxP_any L (fun x=>x.1 == id)
  have h1:L.any (fun x=>x.1 == id) = false:=by
   rw [List.any_eq_false]
   intro x hx
   simpa using h x hx
  rw [h1] at this
  unfold findL
  simpa using this
 ·exact findL_neg
theorem idF_new {L:List LtV} (hi:IncL L) (h1:∀ x ∈ L,1 ≤ x.1):∀ x ∈ L,x.1 ≠ idF L:=by
 intro x hx he
 obtain ⟨j,hj,rfl⟩:=List.getElem_of_mem hx
 have hx':L[j]? = some L[j]:=List.getElem?_eq_getElem hj
 obtain ⟨_,hle⟩:=preI_le L 0
 rcases Nat.lt_trichotomy j (preI L 0) with h | h | h
 ·obtain ⟨y,hy,e⟩:=preI_at (L:=L) (k:=0) (j:=j) (by omega)
  rw [hx'] at hy
  cases hy
  unfold idF at he
  rw [Nat.zero_add] at e
  omega
 ·have:=preI_stop (L:=L) (k:=0) (x:=L[j]) (by rw [Nat.sub_zero,← h]; exact hx')
  exact this he
 ·obtain ⟨y,hy⟩:∃ y,L[preI L 0]? = some y:=⟨L[preI L 0],List.getElem?_eq_getElem (by omega)⟩
  have a:=inc_ge hi h1 _ y hy
  have b:=hi _ _ y L[j] h hy hx'
  unfold idF at he
  omega
theorem idF_old {L:List LtV} {k:Nat} (h:k < preI L 0):¬ findL L ((k:Int) + 1) < 0:=by
 obtain ⟨y,hy,e⟩:=preI_at (L:=L) (k:=0) (j:=k) (by omega)
 intro hf
 rw [Nat.zero_add] at e
 exact findL_none.2 hf y (List.mem_of_getElem? hy) e
/-- A light that does not meet the others, put in. -/
theorem meet_and {x y:Int × Int} (hx:goodB x.1 x.2 = true) (hy:goodB y.1 y.2 = true) (h:mkN x &&& mkN y = 0):meetB x y = false:=by
 obtain ⟨e1,_,l1⟩:=mkN_ok hx
 obtain ⟨e2,_,l2⟩:=mkN_ok hy
 unfold meetB
 rw [e1,e2,and_i64 _ _ (lt63 l1) (lt63 l2)]
 have:mkN (x.1,x.2) &&& mkN (y.1,y.2) = 0:=h
 rw [this]; rfl
theorem used_bit {L:List LtV} {f:Int} {s:Nat}:∀ {x:LtV},x ∈ L→f ∈ x.2.1.2→(mkN x.2.2).testBit s = true→(usedN L f).testBit s = true:=by
 refine snocInd (P:=fun L=>∀ {x:LtV},x ∈ L→f ∈ x.2.1.2→(mkN x.2.2).testBit s = true→(usedN L f).testBit s = true) (fun h=>by cases h) ?_ L
 intro L a ih x hx hf hb
 rw [used_snoc]
 rcases List.mem_append.1 hx with hx | hx
 ·have:=ih hx hf hb
  split
  ·rw [Nat.testBit_or,this]; rfl
  ·exact this
 ·rw [List.mem_singleton.1 hx] at hf hb
  rw [if_pos hf,Nat.testBit_or,hb,Bool.or_true]
theorem along_bit {L:List LtV} {fs:List Int} {s:Nat} {f:Int}:f ∈ fs→(usedN L f).testBit s = true→(alongN L fs).testBit s = true:=by
 refine snocInd (P:=fun fs=>f ∈ fs→(usedN L f).testBit s = true→(alongN L fs).testBit s = true) (fun h=>by cases h) ?_ fs
 intro fs a ih hf hb
 have e:alongN L (fs ++ [a]) = alongN L fs ||| usedN L a:=by unfold alongN; simp
 rw [e,Nat.testBit_or]
 rcases List.mem_append.1 hf with h | h
 ·rw [ih h hb]; rfl
 ·rw [List.mem_singleton.1 h] at hb
  rw [hb,Bool.or_true]
theorem no_col {L:List LtV} (hg:∀ x ∈ L,goodB x.2.2.1 x.2.2.2 = true) {y:LtV} (hy:goodB y.2.2.1 y.2.2.2 = true) (h:alongN L y.2.1.2 &&& mkN y.2.2 = 0):∀ x ∈ L,colB x y = false∧colB y x = false:=by
 intro x hx
 cases hu:usesB x.2.1.2 y.2.1.2
 ·unfold colB
  rw [uses_comm y.2.1.2,hu,Bool.and_false,Bool.and_false]
  exact ⟨rfl,rfl⟩
 ·unfold usesB at hu
  rw [List.any_eq_true] at hu
  obtain ⟨f,hf1,hf2⟩:=hu
  have hf3:f ∈ y.2.1.2:=by simpa using hf2
  have h0:mkN x.2.2 &&& mkN y.2.2 = 0:=by
   apply Nat.eq_of_testBit_eq
   intro s
   rw [Nat.testBit_and,Nat.zero_testBit]
   cases hb:(mkN x.2.2).testBit s
   ·rfl
   ·have h1:=along_bit hf3 (used_bit hx hf1 hb)
    have h2:=congrArg (fun n=>Nat.testBit n s) h
    simp only [Nat.testBit_and,Nat.zero_testBit,h1,Bool.true_and] at h2
    rw [h2]; rfl
  have h0':mkN y.2.2 &&& mkN x.2.2 = 0:=by rw [Nat.and_comm]; exact h0
  unfold colB
  rw [meet_and (hg x hx) hy h0,meet_and hy (hg x hx) h0']
  exact ⟨rfl,rfl⟩
theorem planB_of {P:PlanV} (h1:netB P.net = true) (h2:P.lights.length ≤ 12) (h3:∀ x ∈ P.lights,ltB P.net x = true) (h4:IncL P.lights) (h5:∀ (i j:Nat) (x y:LtV),i < j→P.lights[i]? = some x→P.lights[j]? = some y→colB x y = false):planB P = true:=by
 refine planB_end h1 h2 fun k hk=>?_
 have hx:P.lights[k]? = some P.lights[k]:=List.getElem?_eq_getElem hk
 rw [ltAt_of hx]
 have a:=h3 _ (List.mem_of_getElem? hx)
 have b:orderB P.lights k P.lights[k] = true:=by
  rcases Nat.eq_zero_or_pos k with h0 | h0
  ·subst h0; exact order_first _ _
  ·have hy:P.lights[k - 1]? = some P.lights[k - 1]:=List.getElem?_eq_getElem (by omega)
   rw [order_next h0 hy]
   exact decide_eq_true (h4 _ _ _ _ (by omega) hy hx)
 have c:((P.lights.take k).any fun y=>colB y P.lights[k]) = false:=by
  rw [List.any_eq_false]
  intro y hy
  obtain ⟨i,hi,rfl⟩:=List.getElem_of_mem hy
  rw [List.length_take] at hi
  rw [List.getElem_take]
  rw [h5 i k _ _ (by omega) (List.getElem?_eq_getElem (by omega)) hx]
  simp
 rw [a,b,c]; rfl
theorem planB_no_col {P:PlanV} (h:planB P = true):∀ (i j:Nat) (x y:LtV),i < j→P.lights[i]? = some x→P.lights[j]? = some y→colB x y = false:=by
 intro i j x y hij hx hy
 obtain ⟨_,_,h3⟩:=planB_at h
 have:=h3 j (List.getElem?_eq_some_iff.1 hy).1
 rw [ltAt_of hy] at this
 simp only [Bool.and_eq_true] at this
 have h2:((P.lights.take j).any fun z=>colB z y) = false:=by simpa using this.2
 rw [List.any_eq_false] at h2
 have hm:x ∈ P.lights.take j:=List.mem_of_getElem? (i:=i) (by rw [List.getElem?_take_of_lt hij]; exact hx)
 simpa using h2 x hm
theorem ins_good {P:PlanV} (hp:planB P = true) {y:LtV} (hl:P.lights.length < 12) (hy:ltB P.net y = true) (hn:∀ x ∈ P.lights,x.1 ≠ y.1) (hc:∀ x ∈ P.lights,colB x y = false∧colB y x = false):planB ⟨P.net,insF P.lights y⟩ = true:=by
 obtain ⟨h1,_,_⟩:=planB_at hp
 have hpos:=posF_le P.lights y.1
 have hinc:=planB_inc hp
 refine planB_of h1 (by show (insF P.lights y).length ≤ 12; rw [ins_len]; omega) ?_ ?_ ?_
 ·intro x hx
  rcases mem_ins (show x ∈ P.lights.take (posF P.lights y.1) ++ y :: P.lights.drop (posF P.lights y.1) from hx) with rfl | hx
  ·exact hy
  ·exact planB_lt hp x hx
 ·intro i j a b hij ha hb
  rcases ins_get hpos ha with ⟨e1,rfl⟩ | ⟨e1,ga⟩
  ·rcases ins_get hpos hb with ⟨e2,rfl⟩ | ⟨e2,gb⟩
   ·omega
   ·rw [if_neg (by omega)] at gb
    have hst:∀ z,P.lights[posF P.lights a.1]? = some z→a.1 < z.1:=by
     intro z hz
     have h9:=posF_stop hz
     have h8:=hn z (List.mem_of_getElem? hz)
     omega
    obtain ⟨z,hz⟩:∃ z,P.lights[posF P.lights a.1]? = some z:=by
     have:=(List.getElem?_eq_some_iff.1 gb).1
     exact ⟨P.lights[posF P.lights a.1]'(by omega),List.getElem?_eq_getElem (by omega)⟩
    have h7:=hst z hz
    rcases Nat.lt_or_ge (posF P.lights a.1) (j - 1) with h | h
    ·have:=hinc _ _ z b h hz gb; omega
    ·have e3:j - 1 = posF P.lights a.1:=by omega
     rw [e3,hz] at gb
     cases gb; exact h7
  ·rcases ins_get hpos hb with ⟨e2,rfl⟩ | ⟨e2,gb⟩
   ·rw [if_pos (by omega)] at ga
    exact posF_at (by omega) ga
   ·refine hinc _ _ a b ?_ ga gb
    split <;> split <;> omega
 ·intro i j a b hij ha hb
  rcases ins_get hpos ha with ⟨e1,rfl⟩ | ⟨e1,ga⟩
  ·rcases ins_get hpos hb with ⟨e2,rfl⟩ | ⟨e2,gb⟩
   ·omega
   ·exact (hc b (List.mem_of_getElem? gb)).2
  ·rcases ins_get hpos hb with ⟨e2,rfl⟩ | ⟨e2,gb⟩
   ·exact (hc a (List.mem_of_getElem? ga)).1
   ·refine planB_no_col hp _ _ a b ?_ ga gb
    split <;> split <;> omega
/-- What serving a demand gives: the plan, the light's number (0: blocked), whether it could be asked. -/
def serveF (P:PlanV) (fm:List (Int × Int)) (d:Fib) (fit:Int):PlanV × Int × Bool :=
 if usOk P.net fm d = true then
  match consL P fm d fit with
  | []=>(P,0,true)
  | x :: _=>if P.lights.length = 12 then (P,0,true) else (⟨P.net,insF P.lights (idF P.lights,x.2)⟩,idF P.lights,true)
 else (zeroP,0,false)
theorem serveF_no {P:PlanV} {fm:List (Int × Int)} {d:Fib} {fit:Int} (h:usOk P.net fm d = false):serveF P fm d fit = (zeroP,0,false):=by unfold serveF; rw [if_neg (by rw [h]; simp)]
theorem serveF_nil {P:PlanV} {fm:List (Int × Int)} {d:Fib} {fit:Int} (h:usOk P.net fm d = true) (h2:consL P fm d fit = []):serveF P fm d fit = (P,0,true):=by unfold serveF; rw [if_pos h,h2]
theorem serveF_full {P:PlanV} {fm:List (Int × Int)} {d:Fib} {fit:Int} (h:usOk P.net fm d = true) (h2:P.lights.length = 12):serveF P fm d fit = (P,0,true):=by
 unfold serveF; rw [if_pos h]
 cases consL P fm d fit with
 | nil=>rfl
 | cons x l=>show (if P.lights.length = 12 then _ else _) = _; rw [if_pos h2]
theorem serveF_yes {P:PlanV} {fm:List (Int × Int)} {d:Fib} {fit:Int} {x:LtV} (h:usOk P.net fm d = true) (h2:P.lights.length ≠ 12) (h3:(consL P fm d fit)[0]? = some x):serveF P fm d fit = (⟨P.net,insF P.lights (idF P.lights,x.2)⟩,idF P.lights,true):=by
 unfold serveF; rw [if_pos h]
 cases e:consL P fm d fit with
 | nil=>rw [e] at h3; cases h3
 | cons y l =>
  rw [e] at h3
  cases h3
  show (if P.lights.length = 12 then _ else _) = _; rw [if_neg h2]
theorem idF_bd {P:PlanV} (hp:planB P = true):1 ≤ idF P.lights∧idF P.lights ≤ 13:=by
 obtain ⟨_,h2⟩:=preI_le P.lights 0
 have:=(planB_at hp).2.1
 unfold idF
 omega
theorem serve_good {P:PlanV} (hp:planB P = true) (fm:List (Int × Int)) (d:Fib) (fit:Int) (hok:(serveF P fm d fit).2.2 = true):planB (serveF P fm d fit).1 = true∧(serveF P fm d fit).1.net = P.net:=by
 cases h:usOk P.net fm d
 ·rw [serveF_no h] at hok; cases hok
 ·by_cases h12:P.lights.length = 12
  ·rw [serveF_full h h12]; exact ⟨hp,rfl⟩
  ·cases e:(consL P fm d fit)[0]? with
   | none =>
    have e2:consL P fm d fit = []:=by
     cases e3:consL P fm d fit with
     | nil=>rfl
     | cons a b=>rw [e3] at e; cases e
    rw [serveF_nil h e2]; exact ⟨hp,rfl⟩
   | some x =>
    rw [serveF_yes h h12 e]
    obtain ⟨c1,c2,c3,_,_⟩:=cons_mem hp (List.mem_of_getElem? e)
    have hb:=idF_bd hp
    refine ⟨ins_good hp (by have:=(planB_at hp).2.1; omega) ?_ (idF_new (planB_inc hp) (planB_ids hp)) (no_col (goods hp) (y:=(idF P.lights,x.2)) c2 c3),rfl⟩
    unfold ltB
    rw [inB_iff.2 ⟨by show 1 ≤ idF P.lights; omega,by show idF P.lights ≤ 999; omega⟩]
    show (true && isVis P.net x.2.1.1 x.2.1.2 && goodB x.2.2.1 x.2.2.2) = true
    rw [c1,c2]; rfl
end Go.Proofs.YteckjlkhopkogaaGreat
