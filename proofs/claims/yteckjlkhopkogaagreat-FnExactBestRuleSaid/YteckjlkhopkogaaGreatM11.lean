/- Texts of mine laid together (SqP, Sq, Sq2). -/
import Derived.Test.YteckjlkhopkogaaGreatM6
import Derived.Test.YteckjlkhopkogaaGreatM8
import Derived.Test.YteckjlkhopkogaaGreatY9
import Derived.Deep.DeepCutAuto
import Derived.Test.YteckjlkhopkogaaGreatM5
import Derived.Test.YteckjlkhopkogaaGreatY3
import Derived.BigRegion
namespace Go.Proofs.YteckjlkhopkogaaGreat
open Go.RowKit
def fitF (fit m c:Int):Int × Int × Bool:=if fit=1 then pickF headI m c else if fit=2 then pickF lastFi m c else bestF m c
theorem ask_ok {M:Nat} (hM:M<16777216) {c:Int} (h1:1≤c) (h2:c≤24):askB (M:Int) c=true:=askB_iff.2 ⟨⟨by omega,by omega⟩,h1,h2⟩
theorem fitF_no {fit:Int} {M:Nat} {c:Int} (hM:M<16777216) (h1:1≤c) (h2:c≤24) (h:fits (M:Int) c=[]):fitF fit (M:Int) c=(0,0,false):=by
 unfold fitF
 split
 ·exact pickF_nil h
 ·split
  ·exact pickF_nil h
  ·refine bestF_none ?_
   by_cases hb:(bestR c (runs (M:Int))).2=0
   ·exact hb
   ·exact(((best_fits hM h1 h2).1.1 hb) h).elim
theorem lastD_mem:∀ (l:List Int) (x:Int),l.getLastD x∈x :: l
 | [],x=>by simp[List.getLastD]
 | y :: t,x=>by rw[List.getLastD_cons];exact List.mem_cons_of_mem _ (lastD_mem t y)
theorem fitF_yes {fit:Int} {M:Nat} {c:Int} (hM:M<16777216) (h1:1≤c) (h2:c≤24) (h:fits (M:Int) c≠[]):∃ x∈fits (M:Int) c,fitF fit (M:Int) c=(x,c,true):=by
 have ha:=ask_ok hM h1 h2
 obtain⟨x,l,hl⟩:∃ x l,fits (M:Int) c=x :: l:=by
  cases e:fits (M:Int) c with
  | nil=>exact(h e).elim
  | cons x l=>exact⟨x,l,rfl⟩
 unfold fitF
 split
 ·exact⟨x,by rw[hl];exact List.mem_cons_self,by rw[pickF_some ha hl];rfl⟩
 ·split
  ·refine⟨lastFi (x :: l),?_,by rw[pickF_some ha hl]⟩
   rw[hl]
   unfold lastFi
   rw[List.getLastD_cons]
   exact lastD_mem l x
  ·have hb:=(best_fits hM h1 h2).1.2 h
   exact⟨_,(best_fits hM h1 h2).2 hb,bestF_yes ha hb⟩
theorem fit_free {M:Nat} (hM:M<16777216) {c x:Int} (h1:1≤c) (h2:c≤24) (h:x∈fits (M:Int) c):goodB x c=true∧M &&& mkN (x,c)=0:=by
 obtain⟨f,rfl,hf,hfr⟩:=mem_fits.1 h
 have hg:goodB (f:Int) c=true:=goodB_iff.2 ⟨by omega,h1,by omega⟩
 obtain⟨e,_,e2⟩:=mkN_ok hg
 unfold freeAt at hfr
 rw[e,and_i64 M _ (lt63 hM) (lt63 e2),beq_iff_eq] at hfr
 exact⟨hg,by omega⟩
def consC (L:List LtV) (fit:Int) (c:ChV):List LtV:=if (fitF fit (alongN L c.1.2:Int) c.2).2.2=true then [(0,c.1,((fitF fit (alongN L c.1.2:Int) c.2).1,(fitF fit (alongN L c.1.2:Int) c.2).2.1))] else []
def consTo (L:List LtV) (fit:Int) (l:List ChV):List LtV:=l.flatMap (consC L fit)
theorem consTo_snoc (L:List LtV) (fit:Int) (l:List ChV) (c:ChV):consTo L fit (l++[c])=consTo L fit l++consC L fit c:=by unfold consTo;rw[List.flatMap_append];simp
theorem consC_len (L:List LtV) (fit:Int) (c:ChV):(consC L fit c).length≤1:=by unfold consC;split <;> simp
theorem consTo_len (L:List LtV) (fit:Int):∀ l:List ChV,(consTo L fit l).length≤l.length
 | []=>Nat.le_refl _
 | c :: l=>by
  have h1:=consTo_len L fit l
  have h2:=consC_len L fit c
  unfold consTo at h1 ⊢
  rw[List.flatMap_cons,List.length_append,List.length_cons];omega
def consL (P:PlanV) (fm:List (Int × Int)) (d:Fib) (fit:Int):List LtV:=consTo P.lights fit (ordV (usF P.net fm d).1)
theorem ordV_mem {l:List ChV} {x:ChV} (h:x∈ordV l):x∈l:=ordL_mem (K:=kCV) (d:=((0,[]),0)) h
theorem us_mem {n:Net} {fm:List (Int × Int)} {d:Fib} {c:ChV} (h:c∈(usF n fm d).1):usOk n fm d=true∧netB n=true∧1≤c.2∧c.2≤24∧isVis n c.1.1 c.1.2=true∧c.1.2.length≤1048576∧∀ i∈c.1.2,0≤i∧i<(n.fibers.length:Int):=by
 cases hok:usOk n fm d
 ·rw[usF_no hok] at h;cases h
 ·rw[usF_yes hok] at h
  have hu:usB n fm d=true:=by unfold usOk at hok;simp only[Bool.and_eq_true] at hok;exact hok.1
  obtain⟨h1,h2,_,h3,_,h4,_,_⟩:=usB_at hu
  have hm2:c∈usL n fm d.len (allR n d.a d.b):=h
  obtain⟨m1,m2,m3⟩:=usL_mem h2 h3 hm2
  obtain⟨e1,g2⟩:=good_mem m1
  obtain⟨a1,_,a3,a4,_⟩:=nodes_at h1 h4 g2
  refine⟨rfl,h1,m2,m3,?_,by omega,(rt_ok h1 h4 g2).1⟩
  unfold isVis
  rw[visR_go (by rw[e1];exact inB_iff.2 ⟨h4.1,by omega⟩) (by have:=g2.1;intro e;exact this (List.eq_nil_of_length_eq_zero e)),e1,a1]
  rfl
theorem goods {P:PlanV} (hp:planB P=true):∀ x∈P.lights,goodB x.2.2.1 x.2.2.2=true:=fun x hx=>ltB_good (planB_lt hp x hx)
theorem cons_mem {P:PlanV} (hp:planB P=true) {fm:List (Int × Int)} {d:Fib} {fit:Int} {x:LtV} (h:x∈consL P fm d fit) :
  isVis P.net x.2.1.1 x.2.1.2=true∧goodB x.2.2.1 x.2.2.2=true∧alongN P.lights x.2.1.2 &&& mkN x.2.2=0∧x.2.1.2.length≤1048576∧x.1=0:=by
 obtain⟨c,hc,hx⟩:=List.mem_flatMap.1 h
 obtain⟨_,_,m2,m3,hv,hl,_⟩:=us_mem (ordV_mem hc)
 have hM:alongN P.lights c.1.2<16777216:=along_lt (goods hp)
 unfold consC at hx
 split at hx
 ·next hf =>
  rw[List.mem_singleton] at hx
  subst hx
  by_cases hn:fits (alongN P.lights c.1.2:Int) c.2=[]
  ·rw[fitF_no hM m2 m3 hn] at hf;cases hf
  ·obtain⟨y,hy,he⟩:=fitF_yes (fit:=fit) hM m2 m3 hn
   obtain⟨g1,g2⟩:=fit_free hM m2 m3 hy
   simp only
   rw[he]
   exact⟨hv,g1,g2,hl,by first|trivial|rfl⟩
 ·cases hx
def preI:List LtV→Nat→Nat
 | [],k=>k
 | x :: l,k=>if x.1=(k:Int)+1 then preI l (k+1) else k
def idF (L:List LtV):Int:=(preI L 0:Int)+1
theorem preI_le:∀ (L:List LtV) (k:Nat),k≤preI L k∧preI L k≤k+L.length
 | [],k=>⟨Nat.le_refl _,by simp[preI]⟩
 | x :: l,k=>by
  unfold preI
  split
  ·have:=preI_le l (k+1);simp only[List.length_cons];omega
  ·simp only[List.length_cons];omega
theorem preI_at:∀ {L:List LtV} {k j:Nat},k+j<preI L k→∃ x,L[j]?=some x∧x.1=((k+j:Nat):Int)+1
 | [],k,j,h=>by simp only[preI] at h;omega
 | x :: l,k,j,h=>by
  unfold preI at h
  split at h
  ·next he =>
   cases j with
   | zero=>exact⟨x,rfl,by simpa using he⟩
   | succ j =>
    obtain⟨y,h1,h2⟩:=preI_at (L:=l) (k:=k+1) (j:=j) (by omega)
    exact⟨y,h1,by rw[h2];congr 2;omega⟩
  ·omega
theorem preI_stop:∀ {L:List LtV} {k:Nat} {x:LtV},L[preI L k - k]?=some x→x.1≠(preI L k:Int)+1
 | [],k,x,h=>by simp at h
 | y :: l,k,x,h=>by
  by_cases he:y.1=(k:Int)+1
  ·have e:preI (y :: l) k=preI l (k+1):=by rw[preI,if_pos he]
   rw[e] at h ⊢
   have hle:=(preI_le l (k+1)).1
   have e2:preI l (k+1) - k=(preI l (k+1) - (k+1))+1:=by omega
   rw[e2,List.getElem?_cons_succ] at h
   exact preI_stop h
  ·have e:preI (y :: l) k=k:=by rw[preI,if_neg he]
   rw[e] at h ⊢
   rw[Nat.sub_self] at h
   simp only[List.getElem?_cons_zero,Option.some.injEq] at h
   rw[← h];exact he
theorem inc_ge {L:List LtV} (hi:IncL L) (h1:∀ x∈L,1≤x.1):∀ (j:Nat) (x:LtV),L[j]?=some x→(j:Int)+1≤x.1
 | 0,x,hx=>by have:=h1 x (List.mem_of_getElem? hx);simpa using this
 | j+1,x,hx=>by
  have hlt:=(List.getElem?_eq_some_iff.1 hx).1
  obtain⟨y,hy⟩:∃ y,L[j]?=some y:=⟨L[j],List.getElem?_eq_getElem (by omega)⟩
  have a:=inc_ge hi h1 j y hy
  have b:=hi j (j+1) y x (by omega) hy hx
  omega
theorem findL_none {L:List LtV} {id:Int}:(∀ x∈L,x.1≠id)↔findL L id<0:=by
 constructor
 ·intro h
  have:=idxP_any L (fun x=>x.1 == id)
  have h1:L.any (fun x=>x.1 == id)=false:=by
   rw[List.any_eq_false]
   intro x hx
   simpa using h x hx
  rw[h1] at this
  unfold findL
  simpa using this
 ·exact findL_neg
theorem idF_new {L:List LtV} (hi:IncL L) (h1:∀ x∈L,1≤x.1):∀ x∈L,x.1≠idF L:=by
 intro x hx he
 obtain⟨j,hj,rfl⟩:=List.getElem_of_mem hx
 have hx':L[j]?=some L[j]:=List.getElem?_eq_getElem hj
 obtain⟨_,hle⟩:=preI_le L 0
 rcases Nat.lt_trichotomy j (preI L 0) with h|h|h
 ·obtain⟨y,hy,e⟩:=preI_at (L:=L) (k:=0) (j:=j) (by omega)
  rw[hx'] at hy
  cases hy
  unfold idF at he
  rw[Nat.zero_add] at e
  omega
 ·have:=preI_stop (L:=L) (k:=0) (x:=L[j]) (by rw[Nat.sub_zero,← h];exact hx')
  exact this he
 ·obtain⟨y,hy⟩:∃ y,L[preI L 0]?=some y:=⟨L[preI L 0],List.getElem?_eq_getElem (by omega)⟩
  have a:=inc_ge hi h1 _ y hy
  have b:=hi _ _ y L[j] h hy hx'
  unfold idF at he
  omega
theorem idF_old {L:List LtV} {k:Nat} (h:k<preI L 0):¬ findL L ((k:Int)+1)<0:=by
 obtain⟨y,hy,e⟩:=preI_at (L:=L) (k:=0) (j:=k) (by omega)
 intro hf
 rw[Nat.zero_add] at e
 exact findL_none.2 hf y (List.mem_of_getElem? hy) e
theorem meet_and {x y:Int × Int} (hx:goodB x.1 x.2=true) (hy:goodB y.1 y.2=true) (h:mkN x &&& mkN y=0):meetB x y=false:=by
 obtain⟨e1,_,l1⟩:=mkN_ok hx
 obtain⟨e2,_,l2⟩:=mkN_ok hy
 unfold meetB
 rw[e1,e2,and_i64 _ _ (lt63 l1) (lt63 l2)]
 have:mkN (x.1,x.2) &&& mkN (y.1,y.2)=0:=h
 rw[this];rfl
theorem used_bit {L:List LtV} {f:Int} {s:Nat}:∀ {x:LtV},x∈L→f∈x.2.1.2→(mkN x.2.2).testBit s=true→(usedN L f).testBit s=true:=by
 refine snocInd (P:=fun L=>∀ {x:LtV},x∈L→f∈x.2.1.2→(mkN x.2.2).testBit s=true→(usedN L f).testBit s=true) (fun h=>by cases h) ?_ L
 intro L a ih x hx hf hb
 rw[used_snoc]
 rcases List.mem_append.1 hx with hx|hx
 ·have:=ih hx hf hb
  split
  ·rw[Nat.testBit_or,this];rfl
  ·exact this
 ·rw[List.mem_singleton.1 hx] at hf hb
  rw[if_pos hf,Nat.testBit_or,hb,Bool.or_true]
theorem along_bit {L:List LtV} {fs:List Int} {s:Nat} {f:Int}:f∈fs→(usedN L f).testBit s=true→(alongN L fs).testBit s=true:=by
 refine snocInd (P:=fun fs=>f∈fs→(usedN L f).testBit s=true→(alongN L fs).testBit s=true) (fun h=>by cases h) ?_ fs
 intro fs a ih hf hb
 have e:alongN L (fs++[a])=alongN L fs ||| usedN L a:=by unfold alongN;simp
 rw[e,Nat.testBit_or]
 rcases List.mem_append.1 hf with h|h
 ·rw[ih h hb];rfl
 ·rw[List.mem_singleton.1 h] at hb
  rw[hb,Bool.or_true]
theorem no_col {L:List LtV} (hg:∀ x∈L,goodB x.2.2.1 x.2.2.2=true) {y:LtV} (hy:goodB y.2.2.1 y.2.2.2=true) (h:alongN L y.2.1.2 &&& mkN y.2.2=0):∀ x∈L,colB x y=false∧colB y x=false:=by
 intro x hx
 cases hu:usesB x.2.1.2 y.2.1.2
 ·unfold colB
  rw[uses_comm y.2.1.2,hu,Bool.and_false,Bool.and_false]
  exact⟨rfl,rfl⟩
 ·unfold usesB at hu
  rw[List.any_eq_true] at hu
  obtain⟨f,hf1,hf2⟩:=hu
  have hf3:f∈y.2.1.2:=by simpa using hf2
  have h0:mkN x.2.2 &&& mkN y.2.2=0:=by
   apply Nat.eq_of_testBit_eq
   intro s
   rw[Nat.testBit_and,Nat.zero_testBit]
   cases hb:(mkN x.2.2).testBit s
   ·rfl
   ·have h1:=along_bit hf3 (used_bit hx hf1 hb)
    have h2:=congrArg (fun n=>Nat.testBit n s) h
    simp only[Nat.testBit_and,Nat.zero_testBit,h1,Bool.true_and] at h2
    rw[h2];rfl
  have h0':mkN y.2.2 &&& mkN x.2.2=0:=by rw[Nat.and_comm];exact h0
  unfold colB
  rw[meet_and (hg x hx) hy h0,meet_and hy (hg x hx) h0']
  exact⟨rfl,rfl⟩
theorem planB_of {P:PlanV} (h1:netB P.net=true) (h2:P.lights.length≤12) (h3:∀ x∈P.lights,ltB P.net x=true) (h4:IncL P.lights) (h5:∀ (i j:Nat) (x y:LtV),i<j→P.lights[i]?=some x→P.lights[j]?=some y→colB x y=false):planB P=true:=by
 refine planB_end h1 h2 fun k hk=>?_
 have hx:P.lights[k]?=some P.lights[k]:=List.getElem?_eq_getElem hk
 rw[ltAt_of hx]
 have a:=h3 _ (List.mem_of_getElem? hx)
 have b:orderB P.lights k P.lights[k]=true:=by
  rcases Nat.eq_zero_or_pos k with h0|h0
  ·subst h0;exact order_first _ _
  ·have hy:P.lights[k - 1]?=some P.lights[k - 1]:=List.getElem?_eq_getElem (by omega)
   rw[order_next h0 hy]
   exact decide_eq_true (h4 _ _ _ _ (by omega) hy hx)
 have c:((P.lights.take k).any fun y=>colB y P.lights[k])=false:=by
  rw[List.any_eq_false]
  intro y hy
  obtain⟨i,hi,rfl⟩:=List.getElem_of_mem hy
  rw[List.length_take] at hi
  rw[List.getElem_take]
  rw[h5 i k _ _ (by omega) (List.getElem?_eq_getElem (by omega)) hx]
  simp
 rw[a,b,c];rfl
theorem planB_no_col {P:PlanV} (h:planB P=true):∀ (i j:Nat) (x y:LtV),i<j→P.lights[i]?=some x→P.lights[j]?=some y→colB x y=false:=by
 intro i j x y hij hx hy
 obtain⟨_,_,h3⟩:=planB_at h
 have:=h3 j (List.getElem?_eq_some_iff.1 hy).1
 rw[ltAt_of hy] at this
 simp only[Bool.and_eq_true] at this
 have h2:((P.lights.take j).any fun z=>colB z y)=false:=by simpa using this.2
 rw[List.any_eq_false] at h2
 have hm:x∈P.lights.take j:=List.mem_of_getElem? (i:=i) (by rw[List.getElem?_take_of_lt hij];exact hx)
 simpa using h2 x hm
theorem ins_good {P:PlanV} (hp:planB P=true) {y:LtV} (hl:P.lights.length<12) (hy:ltB P.net y=true) (hn:∀ x∈P.lights,x.1≠y.1) (hc:∀ x∈P.lights,colB x y=false∧colB y x=false):planB ⟨P.net,insF P.lights y⟩=true:=by
 obtain⟨h1,_,_⟩:=planB_at hp
 have hpos:=posF_le P.lights y.1
 have hinc:=planB_inc hp
 refine planB_of h1 (by show(insF P.lights y).length≤12;rw[ins_len];omega) ?_ ?_ ?_
 ·intro x hx
  rcases mem_ins (show x∈P.lights.take (posF P.lights y.1)++y :: P.lights.drop (posF P.lights y.1) from hx) with rfl|hx
  ·exact hy
  ·exact planB_lt hp x hx
 ·intro i j a b hij ha hb
  rcases ins_get hpos ha with⟨e1,rfl⟩|⟨e1,ga⟩
  ·rcases ins_get hpos hb with⟨e2,rfl⟩|⟨e2,gb⟩
   ·omega
   ·rw[if_neg (by omega)] at gb
    have hst:∀ z,P.lights[posF P.lights a.1]?=some z→a.1<z.1:=by
     intro z hz
     have h9:=posF_stop hz
     have h8:=hn z (List.mem_of_getElem? hz)
     omega
    obtain⟨z,hz⟩:∃ z,P.lights[posF P.lights a.1]?=some z:=by
     have:=(List.getElem?_eq_some_iff.1 gb).1
     exact⟨P.lights[posF P.lights a.1]'(by omega),List.getElem?_eq_getElem (by omega)⟩
    have h7:=hst z hz
    rcases Nat.lt_or_ge (posF P.lights a.1) (j - 1) with h|h
    ·have:=hinc _ _ z b h hz gb;omega
    ·have e3:j - 1=posF P.lights a.1:=by omega
     rw[e3,hz] at gb
     cases gb;exact h7
  ·rcases ins_get hpos hb with⟨e2,rfl⟩|⟨e2,gb⟩
   ·rw[if_pos (by omega)] at ga
    exact posF_at (by omega) ga
   ·refine hinc _ _ a b ?_ ga gb
    split <;> split <;> omega
 ·intro i j a b hij ha hb
  rcases ins_get hpos ha with⟨e1,rfl⟩|⟨e1,ga⟩
  ·rcases ins_get hpos hb with⟨e2,rfl⟩|⟨e2,gb⟩
   ·omega
   ·exact(hc b (List.mem_of_getElem? gb)).2
  ·rcases ins_get hpos hb with⟨e2,rfl⟩|⟨e2,gb⟩
   ·exact(hc a (List.mem_of_getElem? ga)).1
   ·refine planB_no_col hp _ _ a b ?_ ga gb
    split <;> split <;> omega
def serveF (P:PlanV) (fm:List (Int × Int)) (d:Fib) (fit:Int):PlanV × Int × Bool :=
 if usOk P.net fm d=true then
  match consL P fm d fit with
  | []=>(P,0,true)
  | x :: _=>if P.lights.length=12 then (P,0,true) else (⟨P.net,insF P.lights (idF P.lights,x.2)⟩,idF P.lights,true)
 else (zeroP,0,false)
theorem serveF_no {P:PlanV} {fm:List (Int × Int)} {d:Fib} {fit:Int} (h:usOk P.net fm d=false):serveF P fm d fit=(zeroP,0,false):=by unfold serveF;rw[if_neg (by rw[h];simp)]
theorem serveF_nil {P:PlanV} {fm:List (Int × Int)} {d:Fib} {fit:Int} (h:usOk P.net fm d=true) (h2:consL P fm d fit=[]):serveF P fm d fit=(P,0,true):=by unfold serveF;rw[if_pos h,h2]
theorem serveF_full {P:PlanV} {fm:List (Int × Int)} {d:Fib} {fit:Int} (h:usOk P.net fm d=true) (h2:P.lights.length=12):serveF P fm d fit=(P,0,true):=by
 unfold serveF;rw[if_pos h]
 cases consL P fm d fit with
 | nil=>rfl
 | cons x l=>show(if P.lights.length=12 then _ else _)=_;rw[if_pos h2]
theorem serveF_yes {P:PlanV} {fm:List (Int × Int)} {d:Fib} {fit:Int} {x:LtV} (h:usOk P.net fm d=true) (h2:P.lights.length≠12) (h3:(consL P fm d fit)[0]?=some x):serveF P fm d fit=(⟨P.net,insF P.lights (idF P.lights,x.2)⟩,idF P.lights,true):=by
 unfold serveF;rw[if_pos h]
 cases e:consL P fm d fit with
 | nil=>rw[e] at h3;cases h3
 | cons y l =>
  rw[e] at h3
  cases h3
  show(if P.lights.length=12 then _ else _)=_;rw[if_neg h2]
theorem idF_bd {P:PlanV} (hp:planB P=true):1≤idF P.lights∧idF P.lights≤13:=by
 obtain⟨_,h2⟩:=preI_le P.lights 0
 have:=(planB_at hp).2.1
 unfold idF
 omega
theorem serve_good {P:PlanV} (hp:planB P=true) (fm:List (Int × Int)) (d:Fib) (fit:Int) (hok:(serveF P fm d fit).2.2=true):planB (serveF P fm d fit).1=true∧(serveF P fm d fit).1.net=P.net:=by
 cases h:usOk P.net fm d
 ·rw[serveF_no h] at hok;cases hok
 ·by_cases h12:P.lights.length=12
  ·rw[serveF_full h h12];exact⟨hp,rfl⟩
  ·cases e:(consL P fm d fit)[0]? with
   | none =>
    have e2:consL P fm d fit=[]:=by
     cases e3:consL P fm d fit with
     | nil=>rfl
     | cons a b=>rw[e3] at e;cases e
    rw[serveF_nil h e2];exact⟨hp,rfl⟩
   | some x =>
    rw[serveF_yes h h12 e]
    obtain⟨c1,c2,c3,_,_⟩:=cons_mem hp (List.mem_of_getElem? e)
    have hb:=idF_bd hp
    refine⟨ins_good hp (by have:=(planB_at hp).2.1;omega) ?_ (idF_new (planB_inc hp) (planB_ids hp)) (no_col (goods hp) (y:=(idF P.lights,x.2)) c2 c3),rfl⟩
    unfold ltB
    rw[inB_iff.2 ⟨by show 1≤idF P.lights;omega,by show idF P.lights≤999;omega⟩]
    show(true && isVis P.net x.2.1.1 x.2.1.2 && goodB x.2.2.1 x.2.2.2)=true
    rw[c1,c2];rfl
open Go.PlainAid
set_option maxHeartbeats 2000000 in
set_option maxRecDepth 20000 in
theorem fitting_any (m c fit:Int) (w:World):Calls Tryz.prog 119 #[.int .i64 m,.int .i64 c,.int .i64 fit] w fun e w'=>e=.returned (.tuple #[.agg #[.int .i64 (fitF fit m c).1,.int .i64 (fitF fit m c).2.1],.bool (fitF fit m c).2.2])∧Fresh w w':=by
 obtain⟨W2,hW2⟩:∃ W,W=w.alloc (.cells #[.int .i64 0,.int .i64 0] 92):=⟨_,rfl⟩
 have hf2:Fresh w W2:=by rw[hW2];exact fnew (frefl _) _
 have hr2:RowAt W2 w.heap.size 92 [.int .i64 0,.int .i64 0]:=by rw[hW2];exact RowAt.new _ _ _
 have HC1:=Lib.hid (implFirstFit_any m c W2)
 have HC2:=Lib.hid (implLastFit_any m c W2)
 have HC3:=Lib.hid (implBestFit_any m c W2)
 have HD:Hid (fitF fit m c=if fit=1 then pickF headI m c else if fit=2 then pickF lastFi m c else bestF m c):=rfl
 obtain⟨⟨f1,n1,b1⟩,hr1⟩:∃ r,r=pickF headI m c:=⟨_,rfl⟩
 obtain⟨⟨f3,n3,b3⟩,hr3⟩:∃ r,r=pickF lastFi m c:=⟨_,rfl⟩
 obtain⟨⟨f4,n4,b4⟩,hr4⟩:∃ r,r=bestF m c:=⟨_,rfl⟩
 rw[← hr1] at HC1 HD
 rw[← hr3] at HC2 HD
 rw[← hr4] at HC3 HD
 unfold blkRes at HC1 HC2 HC3
 simp only at HC1 HC2 HC3
 have HF2:=Lib.hid hf2
 have HR2:=Lib.hid hr2
 have HW2:=Lib.hid hW2
 have hsz:=hf2.size
 clear hf2 hr2 hW2 hr1 hr3 hr4
 by_cases h1:fit=1
 ·have g1:(fit == 1)=true:=by simp[h1]
  have HV:Hid (fitF fit m c=(f1,n1,b1)):=by show _=_;rw[HD.out];simp[h1]
  rw[HV.out]
  clear h1
  go_enter Tryz.func119,Tryz.ntmps119
  go_wp2_with fail
  rw[← HW2.out]
  refine(HC1.out).mono ?_
  rintro e w1 ⟨rfl,hb⟩
  have hz:=HR2.out.keep hb
  have x0:=hz.cell (i:=0) rfl
  have u0:=hz.frozen 0
  have x1:=hz.cell (i:=1) rfl
  have u1:=hz.frozen 1
  have hfin:=(hz.set 0 (.int .i64 f1)).set 1 (.int .i64 n1)
  have k0:=hfin.cell (i:=0) rfl
  have k1:=hfin.cell (i:=1) rfl
  have HB:=Lib.hid (fstep HF2.out hb)
  clear hz hfin hb HC1 HC2 HC3
  go_wp2
  refine bodyPost_ret (v:=.tuple #[.agg #[.int .i64 f1,.int .i64 n1],.bool b1]) (by simp[results,Tryz.results119,go_sem,k0,k1]) rfl ?_
  exact⟨rfl,fset (fset HB.out (by omega) _) (by omega) _⟩
 ·by_cases h2:fit=2
  ·have g1:(fit == 1)=false:=by simp[h1]
   have g2:(fit == 2)=true:=by simp[h2]
   have HV:Hid (fitF fit m c=(f3,n3,b3)):=by show _=_;rw[HD.out];simp[h2]
   rw[HV.out]
   clear h1 h2
   go_enter Tryz.func119,Tryz.ntmps119
   go_wp2_with fail
   rw[← HW2.out]
   refine(HC2.out).mono ?_
   rintro e w1 ⟨rfl,hb⟩
   have hz:=HR2.out.keep hb
   have x0:=hz.cell (i:=0) rfl
   have u0:=hz.frozen 0
   have x1:=hz.cell (i:=1) rfl
   have u1:=hz.frozen 1
   have hfin:=(hz.set 0 (.int .i64 f3)).set 1 (.int .i64 n3)
   have k0:=hfin.cell (i:=0) rfl
   have k1:=hfin.cell (i:=1) rfl
   have HB:=Lib.hid (fstep HF2.out hb)
   clear hz hfin hb HC1 HC2 HC3
   go_wp2
   refine bodyPost_ret (v:=.tuple #[.agg #[.int .i64 f3,.int .i64 n3],.bool b3]) (by simp[results,Tryz.results119,go_sem,k0,k1]) rfl ?_
   exact⟨rfl,fset (fset HB.out (by omega) _) (by omega) _⟩
  ·have g1:(fit == 1)=false:=by simp[h1]
   have g2:(fit == 2)=false:=by simp[h2]
   have HV:Hid (fitF fit m c=(f4,n4,b4)):=by show _=_;rw[HD.out];simp[h1,h2]
   rw[HV.out]
   clear h1 h2
   go_enter Tryz.func119,Tryz.ntmps119
   go_wp2_with fail
   rw[← HW2.out]
   refine(HC3.out).mono ?_
   rintro e w1 ⟨rfl,hb⟩
   have hz:=HR2.out.keep hb
   have x0:=hz.cell (i:=0) rfl
   have u0:=hz.frozen 0
   have x1:=hz.cell (i:=1) rfl
   have u1:=hz.frozen 1
   have hfin:=(hz.set 0 (.int .i64 f4)).set 1 (.int .i64 n4)
   have k0:=hfin.cell (i:=0) rfl
   have k1:=hfin.cell (i:=1) rfl
   have HB:=Lib.hid (fstep HF2.out hb)
   clear hz hfin hb HC1 HC2 HC3
   go_wp2
   refine bodyPost_ret (v:=.tuple #[.agg #[.int .i64 f4,.int .i64 n4],.bool b4]) (by simp[results,Tryz.results119,go_sem,k0,k1]) rfl ?_
   exact⟨rfl,fset (fset HB.out (by omega) _) (by omega) _⟩
set_option maxHeartbeats 2000000 in
set_option maxRecDepth 20000 in
theorem freeId_any (v:Value) (P:PlanV) (w:World) (h:PlIn w v P) (hp:planB P=true):Calls Tryz.prog 126 #[v] w fun e w'=>e=.returned (.int .i64 (idF P.lights))∧Fresh w w':=by
 have HP:=Lib.hid h
 obtain⟨q,m,c,p,k0,d,r,i0,e0,rfl⟩:=h.shape
 obtain⟨W2,hW2⟩:∃ W,W=w.alloc (.cells #[.slice q m c,.slice p k0 d,.slice r i0 e0] 38):=⟨_,rfl⟩
 have hf2:Fresh w W2:=by rw[hW2];exact fnew (frefl _) _
 have hr2:RowAt W2 w.heap.size 38 [.slice q m c,.slice p k0 d,.slice r i0 e0]:=by rw[hW2];exact RowAt.new _ _ _
 have h12:=(planB_at hp).2.1
 have hle:=(preI_le P.lights 0).2
 have HNEW:Hid (findL P.lights ((preI P.lights 0:Int)+1)<0):=findL_none.1 (idF_new (planB_inc hp) (planB_ids hp))
 have HOLD:Hid (∀ k,k<preI P.lights 0→¬ findL P.lights ((k:Int)+1)<0):=fun k hk=>idF_old hk
 have HC:Hid (∀ W id,Fresh W2 W→Calls Tryz.prog 52 #[.agg #[.slice q m c,.slice p k0 d,.slice r i0 e0],.int .i64 id] W fun e w'=>e=.returned (.int .i64 (findL P.lights id))∧Fresh W w'):=fun W id hW=>lightAt_any _ P id W (HP.out.keep (fstep hf2 hW))
 have HV:Hid (idF P.lights=(preI P.lights 0:Int)+1):=rfl
 rw[HV.out]
 obtain⟨K,hK⟩:∃ k,k=preI P.lights 0:=⟨_,rfl⟩
 rw[← hK] at HNEW HOLD hle ⊢
 have HF2:=Lib.hid hf2
 have HR2:=Lib.hid hr2
 have HW2:=Lib.hid hW2
 have hk12:K≤12:=by omega
 clear h hp hf2 hr2 hW2 hK hle HV h12
 go_enter Tryz.func126,Tryz.ntmps126
 go_wp2
 rw[← HW2.out]
 go_loopw [3] (fun vi wr=>∃ k:Nat,k≤K∧vi=.int .i64 ((k:Int)+1)∧Fresh W2 wr) (fun i _=>20 - (intOf i).toNat)
 case atStart=>exact⟨0,Nat.zero_le _,by go_num,frefl _⟩
 case round =>
  obtain⟨k,hk,rfl,hf⟩:=hrel
  have a0:=(HR2.out.keep hf).cell (i:=0) rfl
  have a1:=(HR2.out.keep hf).cell (i:=1) rfl
  have a2:=(HR2.out.keep hf).cell (i:=2) rfl
  have HCK:=Lib.hid (HC.out wr ((k:Int)+1) hf)
  have HF:=Lib.hid hf
  obtain⟨f,hfd⟩:∃ f,f=findL P.lights ((k:Int)+1):=⟨_,rfl⟩
  rw[← hfd] at HCK
  by_cases hlt:k<K
  ·have hge:¬ f<0:=by rw[hfd];have:=HOLD.out k hlt;omega
   have hge2:0≤f:=by omega
   have w1:IntKind.i64.wrap ((k:Int)+1+1)=(k:Int)+1+1:=by rw[IntKind.wrap_i64] <;> omega
   clear hf hfd
   go_wp2_with fail
   refine(HCK.out).mono ?_
   rintro e w1 ⟨rfl,hb⟩
   have HB:=Lib.hid (fstep HF.out hb)
   clear hb HCK a0 a1 a2
   go_wp2
   go_roundw
   case rel=>exact⟨k+1,by omega,by go_num,HB.out⟩
   case measure=>simp[intOf];omega
  ·have hke:k=K:=by omega
   have hlt0:f<0:=by rw[hfd,hke];exact HNEW.out
   have hge2:¬ 0≤f:=by omega
   have HKE:=Lib.hid hke
   clear hf hfd hke
   go_wp2_with fail
   refine(HCK.out).mono ?_
   rintro e w1 ⟨rfl,hb⟩
   have HB:=Lib.hid (fstep HF.out hb)
   clear hb HCK a0 a1 a2
   go_wp2
   go_ret
   exact⟨by rw[HKE.out];rfl,fstep HF2.out HB.out⟩
set_option maxHeartbeats 2000000 in
set_option maxRecDepth 20000 in
theorem l11Id_any (v:Value) (P:PlanV) (w:World) (h:PlIn w v P) (hp:planB P=true):Calls Tryz.prog 123 #[v] w fun e w'=>e=.returned (.int .i64 (idF P.lights))∧Fresh w w':=by
 obtain⟨q,c,p,d,r,e0,l,rfl,hN,hL,hs,hv,_,_⟩:=h.parts
 have h12:=(planB_at hp).2.1
 have hll:l.length=P.lights.length:=by rw[hv];simp
 obtain⟨W2,hW2⟩:∃ W,W=w.alloc (.cells #[.slice q P.net.nodes.length c,.slice p P.net.fibers.length d,.slice r l.length e0] 38):=⟨_,rfl⟩
 have hf2:Fresh w W2:=by rw[hW2];exact fnew (frefl _) _
 have hr2:RowAt W2 w.heap.size 38 [.slice q P.net.nodes.length c,.slice p P.net.fibers.length d,.slice r l.length e0]:=by rw[hW2];exact RowAt.new _ _ _
 have hle:=(preI_le P.lights 0).2
 have HAT:Hid (∀ j x,j<preI P.lights 0→l[j]?=some x→x.id=(j:Int)+1):=by
  intro j x hj hx
  obtain⟨y,hy,e⟩:=preI_at (L:=P.lights) (k:=0) (j:=j) (by omega)
  rw[hv,List.getElem?_map,hx] at hy
  cases hy
  rw[Nat.zero_add] at e
  exact e
 have HST:Hid (∀ x,l[preI P.lights 0]?=some x→x.id≠(preI P.lights 0:Int)+1):=by
  intro x hx
  refine preI_stop (L:=P.lights) (k:=0) (x:=x.val) ?_
  have e1:P.lights[preI P.lights 0 - 0]?=(l.map LL.val)[preI P.lights 0 - 0]?:=congrArg (fun z:List LtV=>z[preI P.lights 0 - 0]?) hv
  rw[e1,Nat.sub_zero,List.getElem?_map,hx]
  rfl
 have HV:Hid (idF P.lights=(preI P.lights 0:Int)+1):=rfl
 rw[HV.out]
 obtain⟨K,hK⟩:∃ k,k=preI P.lights 0:=⟨_,rfl⟩
 rw[← hK] at HAT HST hle ⊢
 have hkl:K≤l.length:=by omega
 have hl12:l.length≤12:=by omega
 have HL2:=Lib.hid (hL.keep hf2)
 have HF2:=Lib.hid hf2
 have HR2:=Lib.hid hr2
 have HW2:=Lib.hid hW2
 clear h hp hf2 hr2 hW2 hK hle HV h12 hll hv hL hs
 go_enter Tryz.func123,Tryz.ntmps123
 go_wp2
 rw[← HW2.out]
 go_loopw [3,4] (fun vi vj wr=>∃ k:Nat,k≤K∧vi=.int .i64 ((k:Int)+1)∧vj=.int .i64 (k:Int)∧Fresh W2 wr) (fun _ j _=>20 - (intOf j).toNat)
 case atStart=>exact⟨0,Nat.zero_le _,by go_num,rfl,frefl _⟩
 case round =>
  obtain⟨k,hk,rfl,rfl,hf⟩:=hrel
  have a2:=(HR2.out.keep hf).cell (i:=2) rfl
  have HF:=Lib.hid hf
  by_cases hlt:k<l.length
  ·obtain⟨b,off,x,hrr,hx,_,_,c0,_,_,_,_⟩:=(HL2.out.keep hf).at hlt
   have hltz:(k:Int)<(l.length:Int):=by omega
   subst hrr
   by_cases hkk:k<K
   ·have he:=HAT.out k x hkk hx
    have hxe:(x.id == (k:Int)+1)=true:=by simp[he]
    have w1:IntKind.i64.wrap ((k:Int)+1+1)=(k:Int)+1+1:=by rw[IntKind.wrap_i64] <;> omega
    clear hx he hf
    go_wp2
    go_roundw
    case rel=>exact⟨k+1,by omega,by go_num,by go_num,HF.out⟩
    case measure=>simp[intOf];omega
   ·have hke:k=K:=by omega
    have hne:(x.id == (k:Int)+1)=false:=by
     rw[hke]
     rw[hke] at hx
     simpa using HST.out x hx
    have HKE:=Lib.hid hke
    clear hx hf hke
    go_wp2
    go_ret
    exact⟨by rw[HKE.out];rfl,fstep HF2.out HF.out⟩
  ·have hltz:¬ (k:Int)<(l.length:Int):=by omega
   have hke:k=K:=by omega
   have HKE:=Lib.hid hke
   clear hf hke
   go_wp2
   go_ret
   exact⟨by rw[HKE.out];rfl,fstep HF2.out HF.out⟩
set_option maxHeartbeats 2000000 in
theorem insC0_any (p:Option Addr) (c:Nat) (w:World) :
  Calls Tryz.prog 217 #[.slice p 0 c,.int .i64 0,.int .i64 0,.func (.func 168) #[] #[]] w fun e w'=>e=.returned (.tuple #[])∧w'=w:=by
 go_enter Tryz.func217,Tryz.ntmps217
 go_wp2
 go_loopw [8] (fun vi wr=>vi=.int .i64 (1:Int)∧wr=w) (fun _ _=>0)
 case atStart=>exact⟨by go_num,rfl⟩
 case round =>
  obtain⟨rfl,rfl⟩:=hrel
  go_wp2
  refine bodyPost_end (results_none rfl _ _ _) rfl ?_
  exact⟨rfl,rfl⟩
set_option maxHeartbeats 2000000 in
theorem stableC0_any (p:Option Addr) (c:Nat) (w:World) :
  Calls Tryz.prog 196 #[.slice p 0 c,.int .i64 0,.func (.func 168) #[] #[]] w fun e w'=>e=.returned (.tuple #[])∧w'=w:=by
 have HSO:=Lib.hid (insC0_any p c w)
 go_enter Tryz.func196,Tryz.ntmps196
 go_wp2
 go_loopw [7,8] (fun va vb wr=>va=.int .i64 (0:Int)∧vb=.int .i64 (20:Int)∧wr=w) (fun _ _ _=>0)
 case atStart=>exact⟨rfl,rfl,rfl⟩
 case round =>
  obtain⟨rfl,rfl,rfl⟩:=hrel
  go_wp2_with fail
  refine(HSO.out).mono ?_
  rintro e W1 ⟨rfl,rfl⟩
  go_wp2
  go_loopw [6] (fun vq wr2=>vq=.int .i64 (20:Int)∧wr2=W1) (fun _ _=>0)
  case atStart=>exact⟨rfl,rfl⟩
  case round =>
   obtain⟨rfl,rfl⟩:=hrel
   go_wp2
   refine bodyPost_end (results_none rfl _ _ _) rfl ?_
   exact⟨rfl,rfl⟩
set_option maxHeartbeats 2000000 in
theorem sortC0_any (p:Option Addr) (c:Nat) (w:World) :
  Calls Tryz.prog 167 #[.slice p 0 c,.func (.func 168) #[] #[]] w fun e w'=>e=.returned (.tuple #[])∧w'=w:=by
 have HS:=Lib.hid (stableC0_any p c w)
 go_enter Tryz.func167,Tryz.ntmps167
 go_wp2_with fail
 refine(HS.out).mono ?_
 rintro e W1 ⟨rfl,rfl⟩
 go_wp2
 refine bodyPost_end (results_none rfl _ _ _) rfl ?_
 exact⟨rfl,rfl⟩
set_option maxHeartbeats 2000000 in
theorem byCost0_any (p:Option Addr) (c:Nat) (w:World):Calls Tryz.prog 118 #[.slice p 0 c] w fun e w'=>e=.returned (.slice p 0 c)∧w'=w:=by
 have HS:=Lib.hid (sortC0_any p c w)
 go_enter Tryz.func118,Tryz.ntmps118
 go_wp2_with fail
 refine(HS.out).mono ?_
 rintro e W1 ⟨rfl,rfl⟩
 go_wp2
 refine bodyPost_ret (v:=.slice p 0 c) (by simp[results,Tryz.results118,go_sem]) rfl ?_
 exact⟨rfl,rfl⟩
theorem ordH_nil:ordH []=[]:=rfl
set_option maxHeartbeats 2000000 in
set_option maxRecDepth 20000 in
theorem byCostK_any (w0:World) (p:Option Addr) (c:Nat) (l:List CH) (w:World) (h:Chs w w0.heap.size (.slice p l.length c) l) (hf:Fresh w0 w) (hne:0<l.length) (hl:l.length≤1048576) (hk:∀ x∈l,0≤x.k∧x.k≤24∧x.r.fibs.length≤1048576) :
  Calls Tryz.prog 118 #[.slice p l.length c] w fun e w'=>e=.returned (.slice p l.length c)∧Chs w' w0.heap.size (.slice p l.length c) (ordH l)∧Fresh w0 w'∧∀ h t cs,RowAt w h t cs→t≠150→RowAt w' h t cs:=by
 obtain⟨g,sp,rfl,hg,hr,hnc,hcm,hlen⟩:=owns_rowC h.row hne
 have hD:∀ i,CvOk (dOf l i):=by
  intro i
  unfold dOf
  rcases Nat.lt_or_ge i l.length with hi|hi
  ·rw[List.getD_eq_getElem?_getD,List.getElem?_eq_getElem hi]
   exact hk _ (List.getElem_mem hi)
  ·rw[List.getD_eq_getElem?_getD,List.getElem?_eq_none hi]
   exact⟨Int.le_refl _,by decide,by decide⟩
 have hs:=sortStable_any g c l.length (dOf l) (cfV (dOf l)) (swo_cfV _) (byCostClo_any _ hD) sp w (by rw[rowC_id];exact hr) hl
 have HS:=Lib.hid hs
 have HH:=Lib.hid h
 have HF:=Lib.hid hf
 have HR:=Lib.hid hr
 have HL:=Lib.hid hlen
 clear hs h hf hk hD hr hlen
 go_enter Tryz.func118,Tryz.ntmps118
 go_wp2_with fail
 refine(HS.out).mono ?_
 rintro e W1 ⟨rfl,h1,h2⟩
 have HR1:=Lib.hid h1
 have HS1:=Lib.hid h2
 clear h1 h2 HS
 go_wp2
 refine bodyPost_ret (v:=.slice (some ⟨g,0,none⟩) l.length c) (by simp[results,Tryz.results118,go_sem]) rfl ?_
 have hr1:=HR1.out
 rw[rowC_ord] at hr1
 have e3:((ordH l).flatMap chC).length=l.length * 3:=by rw[flat_len chC 3 (fun _=>rfl),ordH_len]
 have e4:(l.flatMap chC).length=l.length * 3:=flat_len chC 3 (fun _=>rfl) l
 have hlen:=HL.out
 rw[List.length_append,e4] at hlen
 have hkp:∀ h t cs,RowAt w h t cs→t≠150→RowAt W1 h t cs:=fun a t cs q1 q2=>HS1.out.1 a t cs q1 fun e=>by subst e;exact q2 (q1.inj HR.out).1
 refine⟨rfl,⟨?_,fun x hx=>(HH.out.fib x (ordL_mem hx)).grown hkp (by decide),HH.out.dist.ord,fun x hx=>HH.out.cap x (ordL_mem hx)⟩,HS1.out.2 w0 HF.out hg,hkp⟩
 rw[ordH_len]
 exact row_ownsC hg hr1 hnc hcm (by rw[List.length_append,e3];exact hlen) e3
theorem byCost_all (w0:World) (p:Option Addr) (c:Nat) (l:List CH) (w:World) (h:Chs w w0.heap.size (.slice p l.length c) l) (hf:Fresh w0 w) (hl:l.length≤1048576) (hk:∀ x∈l,0≤x.k∧x.k≤24∧x.r.fibs.length≤1048576) :
  Calls Tryz.prog 118 #[.slice p l.length c] w fun e w'=>e=.returned (.slice p l.length c)∧Chs w' w0.heap.size (.slice p l.length c) (ordH l)∧Fresh w0 w'∧∀ h t cs,RowAt w h t cs→t≠150→RowAt w' h t cs:=by
 rcases Nat.eq_zero_or_pos l.length with hz|hz
 ·have hl0:l=[]:=List.eq_nil_of_length_eq_zero hz
  subst hl0
  refine(byCost0_any p c w).mono ?_
  rintro e w' ⟨rfl,rfl⟩
  exact⟨rfl,by rw[ordH_nil];exact h,hf,fun _ _ _ h _=>h⟩
 ·exact byCostK_any w0 p c l w h hf hz hl hk
structure Lso (w:World) (base:Nat) (V:Value) (l:List LL):Prop where
 row:w.ownsRow base 94 5 V l.length (l.flatMap llC)
 fib:∀ x∈l,Own w base 3 x.r.q (x.r.fibs.map iv)
 dist:DistL l
theorem Lso.keep {w w':World} {base:Nat} {V:Value} {l:List LL} (h:Lso w base V l) (hb:Fresh w w'):Lso w' base V l:=⟨ownsRow_keep h.row hb,fun x hx=>(h.fib x hx).keep hb,h.dist⟩
theorem Lso.mono {w:World} {base base':Nat} {V:Value} {l:List LL} (h:Lso w base V l) (hb:base'≤base):Lso w base' V l:=⟨owns_mono h.row hb,fun x hx=>(h.fib x hx).mono hb,h.dist⟩
theorem Lso.nil (w:World) (base:Nat) {V:Value} (h:w.ownsRow base 94 5 V 0 []):Lso w base V []:=⟨h,(fun x hx=>by cases hx),(fun i j x y _ hx=>by simp at hx)⟩
def ltOf (fit:Int) (L:List LtV) (x:CH):List LL:=if (fitF fit (alongN L x.r.fibs:Int) x.k).2.2=true then [⟨0,x.r,(fitF fit (alongN L x.r.fibs:Int) x.k).1,(fitF fit (alongN L x.r.fibs:Int) x.k).2.1⟩] else []
def ltsOf (fit:Int) (L:List LtV) (l:List CH):List LL:=l.flatMap (ltOf fit L)
theorem ltsOf_val (fit:Int) (L:List LtV) (l:List CH):(ltsOf fit L l).map LL.val=consTo L fit (l.map CH.val):=by
 unfold ltsOf consTo
 rw[List.map_flatMap,List.flatMap_map]
 congr 1
 funext x
 show(ltOf fit L x).map LL.val=consC L fit x.val
 unfold ltOf consC
 simp only
 split <;> rfl
theorem ltsOf_snoc (fit:Int) (L:List LtV) (l:List CH) (x:CH):ltsOf fit L (l++[x])=ltsOf fit L l++ltOf fit L x:=by unfold ltsOf;rw[List.flatMap_append];simp
theorem ltsOf_mem {fit:Int} {L:List LtV} {l:List CH} {y:LL} (h:y∈ltsOf fit L l):∃ x∈l,y.r=x.r:=by
 obtain⟨x,hx,hy⟩:=List.mem_flatMap.1 h
 unfold ltOf at hy
 split at hy
 ·rw[List.mem_singleton] at hy
  exact⟨x,hx,by rw[hy]⟩
 ·cases hy
theorem ltsOf_len (fit:Int) (L:List LtV):∀ l:List CH,(ltsOf fit L l).length≤l.length
 | []=>Nat.le_refl _
 | x :: l=>by
  have h1:=ltsOf_len fit L l
  have h2:(ltOf fit L x).length≤1:=by unfold ltOf;split <;> simp
  unfold ltsOf at h1 ⊢
  rw[List.flatMap_cons,List.length_append,List.length_cons];omega
theorem ltsOf_dist (fit:Int) (L:List LtV):∀ {l:List CH},DistR (l.map CH.r)→DistL (ltsOf fit L l):=by
 have pw:∀ l:List LL,DistL l↔l.Pairwise fun x y=>∀ g o h o',x.r.q=some ⟨g,o,none⟩→y.r.q=some ⟨h,o',none⟩→g≠h:=by
  intro l
  rw[List.pairwise_iff_getElem]
  constructor
  ·intro h i j hi hj hij
   exact h i j l[i] l[j] (by omega) (List.getElem?_eq_getElem hi) (List.getElem?_eq_getElem hj)
  ·intro h i j x y hij hx hy g o g' o' e1 e2
   obtain⟨hi,rfl⟩:=List.getElem?_eq_some_iff.1 hx
   obtain⟨hj,rfl⟩:=List.getElem?_eq_some_iff.1 hy
   rcases Nat.lt_or_gt_of_ne hij with h1|h1
   ·exact h i j hi hj h1 g o g' o' e1 e2
   ·exact(h j i hj hi h1 g' o' g o e2 e1).symm
 intro l h
 rw[pw]
 have h2:=DistR.pw.1 h
 clear h
 induction l with
 | nil=>exact List.Pairwise.nil
 | cons x l ih =>
  rw[List.map_cons,List.pairwise_cons] at h2
  have ih2:=ih h2.2
  unfold ltsOf at ih2 ⊢
  rw[List.flatMap_cons,List.pairwise_append]
  refine⟨?_,ih2,fun a ha b hb=>?_⟩
  ·unfold ltOf
   split
   ·exact List.pairwise_singleton _ _
   ·exact List.Pairwise.nil
  ·have e1:a.r=x.r:=by
    unfold ltOf at ha
    split at ha
    ·rw[List.mem_singleton.1 ha]
    ·cases ha
   obtain⟨z,hz,e2⟩:=ltsOf_mem (fit:=fit) (L:=L) (l:=l) hb
   rw[e1,e2]
   exact h2.1 z.r (List.mem_map_of_mem hz)
theorem kq_33 {w1 w2:World} {a b:Nat} {u0 u1 u2 v0 v1 v2:Value} (h:w1.cell? ⟨a,0,none⟩=some u0∧w1.cell? ⟨a,1,none⟩=some u1∧w1.cell? ⟨a,2,none⟩=some u2∧w1.cell? ⟨b,0,none⟩=some v0∧w1.cell? ⟨b,1,none⟩=some v1∧w1.cell? ⟨b,2,none⟩=some v2) (hb:Fresh w1 w2) :
  w2.cell? ⟨a,0,none⟩=some u0∧w2.cell? ⟨a,1,none⟩=some u1∧w2.cell? ⟨a,2,none⟩=some u2∧w2.cell? ⟨b,0,none⟩=some v0∧w2.cell? ⟨b,1,none⟩=some v1∧w2.cell? ⟨b,2,none⟩=some v2 :=
 ⟨fkeep hb h.1,fkeep hb h.2.1,fkeep hb h.2.2.1,fkeep hb h.2.2.2.1,fkeep hb h.2.2.2.2.1,fkeep hb h.2.2.2.2.2⟩
theorem Chs.typ {w w':World} {base:Nat} {V:Value} {l:List CH} (h:Chs w base V l) (hk:∀ g t cs,RowAt w g t cs→t≠94→RowAt w' g t cs):Chs w' base V l :=
 ⟨ownsRow_typ h.row hk (by decide),fun x hx=>(h.fib x hx).grown hk (by decide),h.dist,h.cap⟩
def OutK (P:PlanV) (fm:List (Int × Int)) (d:Fib) (fit:Int) (w:World) (e:Ending) (w':World):Prop:=∃ (V:Value) (l:List LL),e=.returned (.tuple #[V,.bool (usOk P.net fm d)])∧Lso w' w.heap.size V l∧l.map LL.val=consL P fm d fit∧Fresh w w'
theorem consL_no {P:PlanV} {fm:List (Int × Int)} {d:Fib} {fit:Int} (h:usOk P.net fm d=false):consL P fm d fit=[]:=by unfold consL;rw[usF_no h];rfl
theorem PlIn.net {w:World} {P:PlanV} {q p r:Option Addr} {m c k d i e:Nat} (h:PlIn w (.agg #[.slice q m c,.slice p k d,.slice r i e]) P):NetIn w (.agg #[.slice q m c,.slice p k d]) P.net:=by
 obtain⟨q',m',c',p',k',d',r',e',l,h1,h2,_⟩:=h
 simp only[Value.agg.injEq] at h1
 have e1:=congrArg (fun a:Array Value=>a[0]?) h1
 have e2:=congrArg (fun a:Array Value=>a[1]?) h1
 simp at e1 e2
 obtain⟨rfl,rfl,rfl⟩:=e1
 obtain⟨rfl,rfl,rfl⟩:=e2
 exact h2
theorem outK_no {P:PlanV} {fm:List (Int × Int)} {d:Fib} {fit:Int} {w w':World} (h:usOk P.net fm d=false) (hf:Fresh w w'):OutK P fm d fit w (.returned (.tuple #[.slice none 0 0,.bool false])) w' :=
 ⟨_,[],by rw[h],Lso.nil _ _ ⟨rfl,Or.inl ⟨rfl,rfl⟩⟩,by rw[consL_no h];rfl,hf⟩
set_option maxHeartbeats 8000000 in
set_option maxRecDepth 100000 in
theorem considered_any (v:Value) (P:PlanV) (pf:Option Addr) (cf:Nat) (fm:List (Int × Int)) (d:Fib) (fit:Int) (w:World) (h:PlIn w v P) (hfm:Prs w pf fm) (hfl:fm.length≤1048576) (hp:planB P=true) :
  Calls Tryz.prog 69 #[v,.slice pf fm.length cf,fibV d,.int .i64 fit] w (OutK P fm d fit w):=by
 have HPL:=Lib.hid h
 have HPF:=Lib.hid hfm
 obtain⟨q,m,c,p,k0,e1,r,i0,e0,rfl⟩:=h.shape
 obtain⟨W2,hW2,hsz2,hf2,r1,r2⟩:=two_rows w [.slice q m c,.slice p k0 e1,.slice r i0 e0] [.int .i64 d.a,.int .i64 d.b,.int .i64 d.len,.int .i64 d.risk] 38 59
 have HU:=Lib.hid (usable_any (.agg #[.slice q m c,.slice p k0 e1]) P.net pf cf fm d W2 (HPL.out.net.keep hf2) (HPF.out.keep hf2) hfl)
 have HF2:=Lib.hid hf2
 have HR1:=Lib.hid r1
 have HW2:=Lib.hid hW2
 have HRM:Hid (∀ W (x:LR),Fresh W2 W→Ints W x.q x.fibs→x.fibs.length≤1048576→(∀ i∈x.fibs,0≤i∧i<(P.net.fibers.length:Int))→Calls Tryz.prog 120 #[.agg #[.slice q m c,.slice p k0 e1,.slice r i0 e0],.agg #[.int .i64 x.start,.slice x.q x.fibs.length x.cap]] W fun e w'=>e=.returned (.int .i64 (alongN P.lights x.fibs:Int))∧Fresh W w'):=fun W x hW hI hl hb=>routeMask_any _ P _ (x.start,x.fibs) W (HPL.out.keep (fstep hf2 hW)) ⟨x.start,x.q,x.cap,x.fibs,rfl,hI,hl,rfl⟩ hp hb
 have hsz:=hf2.size
 clear h hfm hf2 r1 r2 hW2 hp
 go_enter Tryz.func69,Tryz.ntmps69
 go_wp2_with fail
 rw[← HW2.out]
 refine(HU.out).mono ?_
 rintro e w3 ⟨V,l,rfl,hc,hv,hf⟩
 have HF3:=Lib.hid hf
 cases hok:usOk P.net fm d
 ·have HNO:=Lib.hid hok
  clear hok hf hc HU
  go_wp2
  go_ret2
  exact outK_no HNO.out (fstep HF2.out HF3.out)
 have HOK:=Lib.hid hok
 obtain⟨pc,cc,rfl,_,_,_⟩:=owns_cap hc.row
 have hll:=ch_len hv
 have HFIT:=Lib.hid (chs_fit hv hok)
 obtain⟨W4,hW4⟩:∃ W,W=w3.alloc (.cells #[] 94):=⟨_,rfl⟩
 have hf4:Fresh w3 W4:=by rw[hW4];exact fnew (frefl _) _
 have HRO:Hid (RowAt W4 w3.heap.size 94 []):=by show RowAt _ _ _ _;rw[hW4];exact RowAt.new _ _ _
 have HBC:=Lib.hid (byCost_all W2 pc cc l W4 (hc.keep hf4) (fstep hf hf4) (by omega) HFIT.out)
 have HV:=Lib.hid hv
 have HW4:=Lib.hid hW4
 have hsz3:=hf.size
 clear hc hv hf hf4 hok hW4 HU
 go_wp2_with fail
 rw[← HW4.out]
 refine(HBC.out).mono ?_
 rintro e w5 ⟨rfl,hc5,hf5,hk5⟩
 obtain⟨M,hM⟩:∃ M,M=ordH l:=⟨_,rfl⟩
 rw[← hM] at hc5
 have hMl:M.length=l.length:=by rw[hM,ordH_len]
 have HMV:Hid (M.map CH.val=ordV (usF P.net fm d).1):=by show _=_;rw[hM,ordH_val,HV.out]
 have HMF:Hid (∀ x∈M,0≤x.k∧x.k≤24∧x.r.fibs.length≤1048576):=fun x hx=>by rw[hM] at hx;exact HFIT.out x (ordL_mem (K:=kCH) (d:=dCH) hx)
 have HMR:Hid (∀ x∈M,∀ i∈x.r.fibs,0≤i∧i<(P.net.fibers.length:Int)):=by
  intro x hx
  have h1:x.val∈ordV (usF P.net fm d).1:=by rw[← HMV.out];exact List.mem_map_of_mem (f:=CH.val) hx
  exact(us_mem (ordV_mem h1)).2.2.2.2.2.2
 have HRO5:Hid (w5.ownsRow W2.heap.size 94 5 (.slice (some ⟨w3.heap.size,0,none⟩) 0 0) 0 []):=ownsRow_zero (hk5 _ _ _ HRO.out (by decide)) hsz3
 have HC5:=Lib.hid hc5
 have HF5:=Lib.hid hf5
 have hMl2:=hMl
 have HML:=Lib.hid hMl
 clear hc5 hf5 hk5 hM HBC HRO HV HFIT hMl2 hMl
 go_wp2
 go_loopw [12,31] (fun o i wr=>∃ j:Nat,j≤l.length∧i=.int .i64 j∧wr.ownsRow W2.heap.size 94 5 o (ltsOf fit P.lights (M.take j)).length ((ltsOf fit P.lights (M.take j)).flatMap llC)∧Chs wr W2.heap.size (.slice pc l.length cc) M∧Fresh W2 wr) (fun _ i _=>l.length - (intOf i).toNat)
 case atStart=>exact⟨0,Nat.zero_le _,rfl,HRO5.out,HC5.out,HF5.out⟩
 case round =>
  obtain⟨j,hj,rfl,hown,hch,hf⟩:=hrel
  clear HRO5 HC5 HF5
  by_cases hlt:j<l.length
  ·have hltz:(j:Int)<(l.length:Int):=by omega
   have hch2:=hch
   rw[← HML.out] at hch2
   obtain⟨g,x,hpe,hx,hm,c0,c1,c2⟩:=chs_at hch2 (by rw[HML.out];exact hlt)
   subst hpe
   have HTK:Hid (M.take (j+1)=M.take j++[x]):=by show _=_;rw[List.take_add_one,hx];rfl
   obtain⟨W5,hW5⟩:∃ W,W=wr.alloc (.cells #[.int .i64 x.r.start,.slice x.r.q x.r.fibs.length x.r.cap,.int .i64 x.k] 150):=⟨_,rfl⟩
   have hf5:Fresh wr W5:=by rw[hW5];exact fnew (frefl _) _
   have hr5:RowAt W5 wr.heap.size 150 [.int .i64 x.r.start,.slice x.r.q x.r.fibs.length x.r.cap,.int .i64 x.k]:=by rw[hW5];exact RowAt.new _ _ _
   have HF6:=Lib.hid (fstep hf hf5)
   have HO:=Lib.hid (ownsRow_keep hown hf5)
   have HCH:=Lib.hid (hch.keep hf5)
   have HBX:=Lib.hid hr5
   have hI:=((hch.keep hf5).fib x hm).ints
   have hxl:=(HMF.out x hm).2.2
   have HRMX:Hid (∀ W,Fresh W5 W→Calls Tryz.prog 120 #[.agg #[.slice q m c,.slice p k0 e1,.slice r i0 e0],.agg #[.int .i64 x.r.start,.slice x.r.q x.r.fibs.length x.r.cap]] W fun e w'=>e=.returned (.int .i64 (alongN P.lights x.r.fibs:Int))∧Fresh W w'):=fun W hW=>HRM.out W x.r (fstep HF6.out hW) (hI.keep hW) hxl (HMR.out x hm)
   obtain⟨⟨bf,bn,bb⟩,hb⟩:∃ z,z=fitF fit (alongN P.lights x.r.fibs:Int) x.k:=⟨_,rfl⟩
   have HFT:Hid (∀ W,Calls Tryz.prog 119 #[.int .i64 (alongN P.lights x.r.fibs:Int),.int .i64 x.k,.int .i64 fit] W fun e w'=>e=.returned (.tuple #[.agg #[.int .i64 bf,.int .i64 bn],.bool bb])∧Fresh W w'):=fun W=>by
    have:=fitting_any (alongN P.lights x.r.fibs:Int) x.k fit W
    rwa [← hb] at this
   have HLT:Hid (ltOf fit P.lights x=if bb=true then [⟨0,x.r,bf,bn⟩] else []):=by show _=_;unfold ltOf;rw[← hb]
   obtain⟨mk,hmk⟩:∃ z:Int,z=(alongN P.lights x.r.fibs:Int):=⟨_,rfl⟩
   rw[← hmk] at HRMX HFT
   obtain⟨I,hIe⟩:∃ I,I=ltsOf fit P.lights (M.take j):=⟨_,rfl⟩
   have hil:I.length≤1048576:=by
    have h1:=ltsOf_len fit P.lights (M.take j)
    rw[← hIe,List.length_take] at h1
    omega
   rw[← hIe] at HO
   have HIE:=Lib.hid hIe
   have HSS:W5.cell? ⟨w.heap.size,0,none⟩=some (.slice q m c)∧W5.cell? ⟨w.heap.size,1,none⟩=some (.slice p k0 e1)∧W5.cell? ⟨w.heap.size,2,none⟩=some (.slice r i0 e0)∧W5.cell? ⟨wr.heap.size,0,none⟩=some (.int .i64 x.r.start)∧W5.cell? ⟨wr.heap.size,1,none⟩=some (.slice x.r.q x.r.fibs.length x.r.cap)∧W5.cell? ⟨wr.heap.size,2,none⟩=some (.int .i64 x.k) :=
    ⟨(HR1.out.keep HF6.out).cell (i:=0) rfl,(HR1.out.keep HF6.out).cell (i:=1) rfl,(HR1.out.keep HF6.out).cell (i:=2) rfl,hr5.cell (i:=0) rfl,hr5.cell (i:=1) rfl,hr5.cell (i:=2) rfl⟩
   have HW5:=Lib.hid hW5
   clear hx hf5 hr5 hW5 hown hch hch2 hf hI hb hmk hIe hm
   go_wp2
   rw[← HW5.out]
   clear c0 c1 c2
   refine hd_start (n:=13) (S:=fun w'=>w'.cell? ⟨w.heap.size,0,none⟩=some (.slice q m c)∧w'.cell? ⟨w.heap.size,1,none⟩=some (.slice p k0 e1)∧w'.cell? ⟨w.heap.size,2,none⟩=some (.slice r i0 e0)∧w'.cell? ⟨wr.heap.size,0,none⟩=some (.int .i64 x.r.start)∧w'.cell? ⟨wr.heap.size,1,none⟩=some (.slice x.r.q x.r.fibs.length x.r.cap)∧w'.cell? ⟨wr.heap.size,2,none⟩=some (.int .i64 x.k)) (by kernel_rfl) (by kernel_rfl) (kq_33 HSS (fdrew (frefl _))) (fun hHeld=>?_)
   obtain⟨Wz,hWz⟩:∃ W,W=W5.drew:=⟨_,rfl⟩
   rw[← hWz] at hHeld ⊢
   have f0:Fresh W5 Wz:=by rw[hWz];exact fdrew (frefl _)
   clear hWz
   refine hd_tk (i:=0) (v:=?_) rfl ?_ ?_
   rotate_left
   ·(intro w hSw;(try dsimp only at hSw);go_simp;first|done|with_reducible rfl)
   refine hd_tk (i:=1) (v:=?_) rfl ?_ ?_
   rotate_left
   ·(intro w hSw;(try dsimp only at hSw);go_simp;first|done|with_reducible rfl)
   refine hd_tk (i:=2) (v:=?_) rfl ?_ ?_
   rotate_left
   ·(intro w hSw;(try dsimp only at hSw);go_simp;first|done|with_reducible rfl)
   refine hd_tk (i:=4) (v:=?_) rfl ?_ ?_
   rotate_left
   ·(intro w hSw;(try dsimp only at hSw);go_simp;first|done|with_reducible rfl)
   refine hd_tk (i:=5) (v:=?_) rfl ?_ ?_
   rotate_left
   ·(intro w hSw;(try dsimp only at hSw);go_simp;first|done|with_reducible rfl)
   refine hd_tk (i:=6) (v:=?_) rfl ?_ ?_
   rotate_left
   ·(intro w hSw;(try dsimp only at hSw);go_simp;first|done|with_reducible rfl)
   refine hd_ready (rs:=[3,11]) (by kernel_rfl) (by simp) ?_
   refine hd_cons (i:=3) rfl (by kernel_rfl) (fun K hK=>?_) ?_
   focus
    go_simp
    go_at_call 120
    refine(HRMX.out _ f0).mono ?_
    rintro e wk1 ⟨rfl,hb⟩
    have f1:=fstep f0 hb
    clear hb
    go_wp2_with fail
    refine hK.out _ _ ?_ (fun hHeld=>?_)
    ·exact kq_33 HSS f1
    clear hK K
    refine hd_ready (rs:=[7,11]) (by kernel_rfl) (by simp) ?_
    refine hd_cons (i:=7) rfl (by kernel_rfl) (fun K hK=>?_) ?_
    focus
     go_simp
     go_at_call 119
     refine(HFT.out _).mono ?_
     rintro e wk2 ⟨rfl,hb⟩
     have f2:=fstep f1 hb
     clear hb
     go_wp2_with fail
     refine hK.out _ _ ?_ (fun hHeld=>?_)
     ·exact kq_33 HSS f2
     clear hK K
     refine hd_tk (i:=8) (v:=?_) rfl ?_ ?_
     rotate_left
     ·(intro w hSw;(try dsimp only at hSw);go_simp;first|done|with_reducible rfl)
     refine hd_tk (i:=9) (v:=?_) rfl ?_ ?_
     rotate_left
     ·(intro w hSw;(try dsimp only at hSw);go_simp;first|done|with_reducible rfl)
     refine hd_tk (i:=10) (v:=?_) rfl ?_ ?_
     rotate_left
     ·(intro w hSw;(try dsimp only at hSw);go_simp;first|done|with_reducible rfl)
     refine hd_one (i:=11) rfl (by kernel_rfl) (by kernel_rfl) (fun K hK=>?_)
     go_simp
     obtain⟨wl,hwa⟩:∃ W,W=wk2.alloc (.cells #[.int .i64 0,.int .i64 0] 92):=⟨_,rfl⟩
     rw[← hwa]
     have hba:Fresh wk2 wl:=by rw[hwa];exact fnew (frefl _) _
     obtain⟨gb,hgb⟩:∃ g,g=wk2.heap.size:=⟨_,rfl⟩
     have ra:RowAt wl gb 92 [.int .i64 0,.int .i64 0]:=by rw[hwa,hgb];exact RowAt.new _ _ _
     have hga:W5.heap.size≤gb:=by rw[hgb];exact f2.size
     have f9:=fstep f2 hba
     rw[← hgb]
     clear hwa hgb hba
     refine hK.out _ _ ?_ (fun hHeld=>?_)
     ·exact kq_33 HSS f9
     clear hK K
     clear f1 f2
    rotate_left
    focus
     refine hd_cons (i:=11) rfl (by kernel_rfl) (fun K hK=>?_) hd_nil
     go_simp
     obtain⟨wk2,hwa⟩:∃ W,W=wk1.alloc (.cells #[.int .i64 0,.int .i64 0] 92):=⟨_,rfl⟩
     rw[← hwa]
     have hba:Fresh wk1 wk2:=by rw[hwa];exact fnew (frefl _) _
     obtain⟨gb,hgb⟩:∃ g,g=wk1.heap.size:=⟨_,rfl⟩
     have ra0:RowAt wk2 gb 92 [.int .i64 0,.int .i64 0]:=by rw[hwa,hgb];exact RowAt.new _ _ _
     have hga:W5.heap.size≤gb:=by rw[hgb];exact f1.size
     have f2:=fstep f1 hba
     rw[← hgb]
     clear hwa hgb hba
     refine hK.out _ _ ?_ (fun hHeld=>?_)
     ·exact kq_33 HSS f2
     clear hK K
     refine hd_one (i:=7) rfl (by kernel_rfl) (by kernel_rfl) (fun K hK=>?_)
     go_simp
     go_at_call 119
     refine(HFT.out _).mono ?_
     rintro e wl ⟨rfl,hb⟩
     have f9:=fstep f2 hb
     have ra:=ra0.keep hb
     clear hb
     go_wp2_with fail
     refine hK.out _ _ ?_ (fun hHeld=>?_)
     ·exact kq_33 HSS f9
     clear hK K
     refine hd_tk (i:=8) (v:=?_) rfl ?_ ?_
     rotate_left
     ·(intro w hSw;(try dsimp only at hSw);go_simp;first|done|with_reducible rfl)
     refine hd_tk (i:=9) (v:=?_) rfl ?_ ?_
     rotate_left
     ·(intro w hSw;(try dsimp only at hSw);go_simp;first|done|with_reducible rfl)
     refine hd_tk (i:=10) (v:=?_) rfl ?_ ?_
     rotate_left
     ·(intro w hSw;(try dsimp only at hSw);go_simp;first|done|with_reducible rfl)
     clear f1 f2 ra0
   rotate_left 2
   focus
    refine hd_cons (i:=11) rfl (by kernel_rfl) (fun K hK=>?_) hd_nil
    go_simp
    obtain⟨wk1,hwa⟩:∃ W,W=Wz.alloc (.cells #[.int .i64 0,.int .i64 0] 92):=⟨_,rfl⟩
    rw[← hwa]
    have hba:Fresh Wz wk1:=by rw[hwa];exact fnew (frefl _) _
    obtain⟨gb,hgb⟩:∃ g,g=Wz.heap.size:=⟨_,rfl⟩
    have ra0:RowAt wk1 gb 92 [.int .i64 0,.int .i64 0]:=by rw[hwa,hgb];exact RowAt.new _ _ _
    have hga:W5.heap.size≤gb:=by rw[hgb];exact f0.size
    have f1:=fstep f0 hba
    rw[← hgb]
    clear hwa hgb hba
    refine hK.out _ _ ?_ (fun hHeld=>?_)
    ·exact kq_33 HSS f1
    clear hK K
    refine hd_one (i:=3) rfl (by kernel_rfl) (by kernel_rfl) (fun K hK=>?_)
    go_simp
    go_at_call 120
    refine(HRMX.out _ f1).mono ?_
    rintro e wk2 ⟨rfl,hb⟩
    have f2:=fstep f1 hb
    have ra1:=ra0.keep hb
    clear hb
    go_wp2_with fail
    refine hK.out _ _ ?_ (fun hHeld=>?_)
    ·exact kq_33 HSS f2
    clear hK K
    refine hd_one (i:=7) rfl (by kernel_rfl) (by kernel_rfl) (fun K hK=>?_)
    go_simp
    go_at_call 119
    refine(HFT.out _).mono ?_
    rintro e wl ⟨rfl,hb⟩
    have f9:=fstep f2 hb
    have ra:=ra1.keep hb
    clear hb
    go_wp2_with fail
    refine hK.out _ _ ?_ (fun hHeld=>?_)
    ·exact kq_33 HSS f9
    clear hK K
    refine hd_tk (i:=8) (v:=?_) rfl ?_ ?_
    rotate_left
    ·(intro w hSw;(try dsimp only at hSw);go_simp;first|done|with_reducible rfl)
    refine hd_tk (i:=9) (v:=?_) rfl ?_ ?_
    rotate_left
    ·(intro w hSw;(try dsimp only at hSw);go_simp;first|done|with_reducible rfl)
    refine hd_tk (i:=10) (v:=?_) rfl ?_ ?_
    rotate_left
    ·(intro w hSw;(try dsimp only at hSw);go_simp;first|done|with_reducible rfl)
    clear f1 f2 ra0 ra1
   all_goals (
    have z0:=ra.cell (i:=0) rfl
    have z1:=ra.cell (i:=1) rfl
    have u0:=ra.frozen 0
    have u1:=ra.frozen 1
    have fs:=(fset (fset f9 hga (o:=0) (.int .i64 bf)) hga (o:=1) (.int .i64 bn))
    refine hd_one (i:=12) rfl (by kernel_rfl) (by kernel_rfl) (fun K hK=>?_)
    (go_simp)
    refine hK.out _ _ ?_ (fun hHeld=>?_)
    ·exact kq_33 HSS fs
    clear hK K
    refine hd_done (by kernel_rfl) ?_
    clear hHeld
    simp only[List.drop_succ_cons,List.drop_zero]
    obtain⟨W7,hW7⟩:∃ W,W=(wl.setCell ⟨gb,0,none⟩ (.int .i64 bf)).setCell ⟨gb,1,none⟩ (.int .i64 bn):=⟨_,rfl⟩
    rw[← hW7] at fs ⊢
    have hr7:RowAt W7 gb 92 [.int .i64 bf,.int .i64 bn]:=by rw[hW7];exact(ra.set 0 (.int .i64 bf)).set 1 (.int .i64 bn)
    have HF7:=Lib.hid (fstep HF6.out fs)
    have HO7:=Lib.hid (ownsRow_keep HO.out fs)
    have HCH7:=Lib.hid (HCH.out.keep fs)
    have hbx7:=HBX.out.keep fs
    clear z0 z1 u0 u1 ra hW7 f9 hga HSS HRMX HFT HO HCH HBX f0
    cases bb
    ·have HL2:Hid (ltsOf fit P.lights (M.take (j+1))=I):=by show _=_;rw[HTK.out,ltsOf_snoc,← HIE.out,HLT.out];simp
     clear fs hr7 hbx7
     go_wp2
     go_roundw
     case rel=>exact⟨j+1,hlt,by go_num,by rw[HL2.out];exact HO7.out,HCH7.out,HF7.out⟩
     case measure=>simp[intOf];omega
    ·have HL2:Hid (ltsOf fit P.lights (M.take (j+1))=I++[⟨0,x.r,bf,bn⟩]):=by show _=_;rw[HTK.out,ltsOf_snoc,← HIE.out,HLT.out];simp
     have b0:=hbx7.cell (i:=0) rfl
     have b1:=hbx7.cell (i:=1) rfl
     have t0:=hr7.cell (i:=0) rfl
     have t1:=hr7.cell (i:=1) rfl
     have hown7:=HO7.out
     clear fs hr7 hbx7
     go_wp2_with (at_builtin;refine wpList_app_g Tryz.underlying36 infoLt rfl (by decide) (by decide) W2 W7 _ I.length (I.flatMap llC) [.int .i64 0,.int .i64 x.r.start,.slice x.r.q x.r.fibs.length x.r.cap,.int .i64 bf,.int .i64 bn] _ rfl (one_lt ⟨0,x.r,bf,bn⟩) rfl _ _ rfl rfl hown7 rfl rfl hil HF7.out ?_;intro v' w9 hown9 hf9 hk9)
     have HO9:=Lib.hid hown9
     have HF9:=Lib.hid hf9
     have HK9:=Lib.hid hk9
     clear hown7 hown9 hf9 hk9 b0 b1 t0 t1
     go_wp2
     go_roundw
     case rel=>exact⟨j+1,hlt,by go_num,by rw[HL2.out,List.flatMap_append,List.length_append];exact HO9.out,HCH7.out.typ HK9.out,HF9.out⟩
     case measure=>simp[intOf];omega)
  ·have hltz:¬ (j:Int)<(l.length:Int):=by omega
   have hje:M.take j=M:=List.take_of_length_le (by rw[HML.out];omega)
   rw[hje] at hown
   have HO:=Lib.hid hown
   have HCH:=Lib.hid hch
   have HF:=Lib.hid hf
   clear hown hch hf hje
   go_wp2
   go_ret2
   refine⟨_,ltsOf fit P.lights M,by rw[HOK.out];first|done|rfl,⟨owns_mono HO.out hsz,fun y hy=>?_,ltsOf_dist _ _ HCH.out.dist⟩,by rw[ltsOf_val,HMV.out];rfl,fstep HF2.out HF.out⟩
   obtain⟨x,hx,e⟩:=ltsOf_mem hy
   rw[e]
   exact(HCH.out.fib x hx).mono hsz
end Go.Proofs.YteckjlkhopkogaaGreat
