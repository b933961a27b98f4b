/- Texts of mine laid together (Dl, Dl2, Wo, Wo2, PtP). -/
import Derived.Test.YteckjlkhopkogaaGreatY3
import Derived.Deep.RegionLaw
import Derived.Lib.SliceRun
import Derived.Test.YteckjlkhopkogaaGreatM5
import Derived.Deep.RegionHeld3
import Derived.Deep.DeepCutAuto
namespace Go.Proofs.YteckjlkhopkogaaGreat
open Go.RowKit Go.PlainAid
def spl (cs:List Value):Nat→List Value→List Value
 | _,[]=>cs
 | o,v :: r=>spl (cs.set o v) (o+1) r
theorem spl_len (vs:List Value):∀ (o:Nat) (cs:List Value),(spl cs o vs).length=cs.length:=by
 induction vs with
 | nil=>intro o cs;rfl
 | cons v r ih=>intro o cs;show(spl (cs.set o v) (o+1) r).length=_;rw[ih];simp
theorem spl_out (vs:List Value):∀ (o:Nat) (cs:List Value) (t:Nat),(t<o∨o+vs.length≤t)→(spl cs o vs)[t]?=cs[t]?:=by
 induction vs with
 | nil=>intro o cs t _;rfl
 | cons v r ih =>
  intro o cs t h
  show(spl (cs.set o v) (o+1) r)[t]?=_
  simp only[List.length_cons] at h
  rw[ih (o+1) _ t (by omega),List.getElem?_set_ne (by omega)]
theorem spl_in (vs:List Value):∀ (o:Nat) (cs:List Value) (j:Nat),j<vs.length→o+vs.length≤cs.length→(spl cs o vs)[o+j]?=vs[j]?:=by
 induction vs with
 | nil=>intro o cs j hj _;simp at hj
 | cons v r ih =>
  intro o cs j hj hl
  show(spl (cs.set o v) (o+1) r)[o+j]?=_
  simp only[List.length_cons] at hj hl
  cases j with
  | zero =>
   rw[spl_out r (o+1) _ (o+0) (by omega),Nat.add_zero,List.getElem?_set,if_pos rfl,if_pos (by omega)];rfl
  | succ j =>
   have:=ih (o+1) (cs.set o v) j (by omega) (by simp;omega)
   rw[show o+(j+1)=o+1+j by omega,this];rfl
theorem row_setCells (g:Nat) (t:TypeId) (vs:List Value):∀ (o:Nat) (w:World) (cs:List Value),RowAt w g t cs→RowAt (w.setCells g o vs) g t (spl cs o vs):=by
 induction vs with
 | nil=>intro o w cs h;exact h
 | cons v r ih=>intro o w cs h;exact ih (o+1) _ _ (h.set o v)
theorem row_setCells_ne (g:Nat) (vs:List Value):∀ (o:Nat) (w:World) {h:Nat} {t:TypeId} {cs:List Value},RowAt w h t cs→h≠g→RowAt (w.setCells g o vs) h t cs:=by
 induction vs with
 | nil=>intro o w h t cs hr _;exact hr
 | cons v r ih=>intro o w h t cs hr hne;exact ih (o+1) _ (hr.setOther hne _) hne
theorem fresh_setCells {w0:World} (g:Nat) (hg:w0.heap.size≤g) (vs:List Value):∀ (o:Nat) (w:World),Fresh w0 w→Fresh w0 (w.setCells g o vs):=by
 induction vs with
 | nil=>intro o w h;exact h
 | cons v r ih=>intro o w h;exact ih (o+1) _ (fset h hg _)
theorem step_app_m {T E:TypeId} {z:Value} {size bytes:Nat} {ops:Array Oper} {o:Oper} {a:Act} {w:World} {K:Act→World→Prop} {Q:Exit→Act→World→Prop} {F:Prop} (dd:Option Nat) (_hd:o.dst=dd) (hu:Tryz.prog.underlying T=some (.slice E)) (hinfo:(Tryz.prog.info? E).map (fun i=>(i.zero,i.size,i.bytes))=some (some z,size,bytes))
  (hzs:z.cells.size=size) (hsz:0<size) (hby:bytes≤128) (w0:World) (v:Value) (n:Nat) (xs:List Value) (p:Option Addr) (m c:Nat) (news:List Value)
  (hgd:o.guard=none) (s t:Operand) (ho:o.op=.call { callee:=.builtin .append,args:=#[s,t],argTypes:=#[T,T] }) (hs:a.eval s=v) (hown:w.ownsRow w0.heap.size E size v n xs)
  (hx:a.eval t=.slice p m c) (hc:Cells w p news) (hl:news.length=m * size) (hone:∀ u∈news,u.oneCell'=true) (hn:n≤1048576) (hm:m≤1048576) (hf:Fresh w0 w)
  (h:∀ q' c' w',w'.ownsRow w0.heap.size E size (.slice q' (n+m) c') (n+m) (xs++news)→Fresh w0 w'→(∀ g t cs,RowAt w g t cs→(t≠E∨v.ownBlock≠some g)→RowAt w' g t cs)→K (a.put o.dst (.slice q' (n+m) c')) w') :
  if Region.wanted o (yielded ops a.tmps)=true then Oper.wp Tryz.prog o a w K Q else F:=by
 have hw:Region.wanted o (yielded ops a.tmps)=true:=by simp[Region.wanted,hgd]
 rw[if_pos hw]
 obtain⟨i0,hi,hz0,hz1,hz2⟩:=info_parts hinfo
 rcases Nat.eq_zero_or_pos m with rfl|hm0
 ·have hnil:news=[]:=List.eq_nil_of_length_eq_zero (by simpa using hl)
  subst hnil
  have hrun:=run_append_zero (P:=Tryz.prog) (w:=w) w0.heap.size T o.type E i0 size hu hi v n xs hown p c
  obtain⟨q',c',hv,_,_⟩:=owns_cap hown
  unfold Oper.wp
  simp[execOp,ho,resolve,invoke,builtin,hs,hx,hrun,Result.andThen]
  rw[List.append_nil] at h
  rw[hv] at hown ⊢
  exact h q' c' w hown hf fun _ _ _ h _=>h
 ·rcases hc with rfl|⟨b,off,rfl,hc⟩
  ·exfalso
   have:m * size=0:=by simpa using hl.symm
   rcases Nat.mul_eq_zero.1 this with h' | h' <;> omega
  ·refine wp_append_own w s t T ho w0.heap.size E i0 z size bytes hu hi hz0 hz1 hz2 hzs hsz v n xs hs hown ⟨b,off,none⟩ m c news hx hl
    (fun j u hj=>by
     have h0:=hc j u hj
     unfold Addr.add
     split
     ·next e=>subst e;exact h0
     ·exact h0) hone (by unfold maxLen;omega) (Nat.le_trans (Nat.mul_le_mul (by omega:n+m≤2097152) hby) (by omega)) hf.size ?_
   intro v' w' hown' hgrow _
   obtain⟨q',c',rfl,_,_⟩:=owns_cap hown'
   refine h q' c' w' hown' (fgrown hf hgrow (own_block hown)) fun g t cs hr' ht=>?_
   rcases ht with ht|ht
   ·exact row_grown0 hown hgrow hr' ht
   ·unfold RowAt
    rw[hgrow.block g hr'.lt (fun he=>ht he.symm)]
    exact hr'
theorem Own.hk {w w':World} {base:Nat} {t E:TypeId} {q:Option Addr} {xs:List Value} {R:Nat→Prop} (h:Own w base t q xs) (hk:∀ g t cs,RowAt w g t cs→(t≠E∨R g)→RowAt w' g t cs) (ht:t≠E):Own w' base t q xs:=by
 rcases h with h|⟨b,sp,h1,h2,h3⟩
 ·exact Or.inl h
 ·exact Or.inr ⟨b,sp,h1,h2,hk _ _ _ h3 (Or.inl ht)⟩
def posF:List LtV→Int→Nat
 | [],_=>0
 | y :: r,id=>if y.1<id then posF r id+1 else 0
theorem posF_le:∀ (l:List LtV) (id:Int),posF l id≤l.length
 | [],_=>Nat.le_refl _
 | y :: r,id=>by
  unfold posF
  split
  ·have:=posF_le r id;simp;omega
  ·simp
theorem posF_at:∀ {l:List LtV} {id:Int} {k:Nat} {y:LtV},k<posF l id→l[k]?=some y→y.1<id
 | [],_,_,_,h,_=>by simp[posF] at h
 | a :: r,id,k,y,h,hy=>by
  unfold posF at h
  split at h
  ·next ha =>
   cases k with
   | zero=>simp at hy;rw[← hy];exact ha
   | succ k=>exact posF_at (l:=r) (k:=k) (by omega) (by simpa using hy)
  ·omega
theorem posF_stop:∀ {l:List LtV} {id:Int} {y:LtV},l[posF l id]?=some y→¬ y.1<id
 | [],_,_,h=>by simp at h
 | a :: r,id,y,h=>by
  unfold posF at h
  split at h
  ·next ha=>exact posF_stop (l:=r) (by simpa using h)
  ·next ha=>simp at h;rw[← h];exact ha
def insF (L:List LtV) (y:LtV):List LtV:=L.take (posF L y.1)++y :: L.drop (posF L y.1)
theorem ins_get {α:Type} {l:List α} {k t:Nat} {x y:α} (hk:k≤l.length) (h:(l.take k++x :: l.drop k)[t]?=some y):(t=k∧y=x)∨(t≠k∧l[if t<k then t else t - 1]?=some y):=by
 have hl:(l.take k).length=k:=by simp;omega
 rcases Nat.lt_or_ge t k with h1|h1
 ·right
  rw[List.getElem?_append_left (by omega),List.getElem?_take,if_pos h1] at h
  rw[if_pos h1]
  exact⟨by omega,h⟩
 ·rw[List.getElem?_append_right (by omega),hl] at h
  rcases Nat.eq_or_lt_of_le h1 with h2|h2
  ·left
   subst h2
   simp at h
   exact⟨rfl,h.symm⟩
  ·right
   rw[show t - k=(t - 1 - k)+1 by omega,List.getElem?_cons_succ,List.getElem?_drop,show k+(t - 1 - k)=t - 1 by omega] at h
   rw[if_neg (by omega)]
   exact⟨by omega,h⟩
theorem mem_ins {α:Type} {l:List α} {k:Nat} {x y:α} (h:y∈l.take k++x :: l.drop k):y=x∨y∈l:=by
 rcases List.mem_append.1 h with h|h
 ·exact Or.inr (List.mem_of_mem_take h)
 ·rcases List.mem_cons.1 h with h|h
  ·exact Or.inl h
  ·exact Or.inr (List.mem_of_mem_drop h)
theorem DistL.ins {l:List LL} (h:DistL l) {k:Nat} {x:LL} (hk:k≤l.length) (hx:∀ y∈l,∀ g o h' o',x.r.q=some ⟨g,o,none⟩→y.r.q=some ⟨h',o',none⟩→g≠h'):DistL (l.take k++x :: l.drop k):=by
 intro i j a b hij ha hb g o h' o' e1 e2
 rcases ins_get hk ha with⟨rfl,rfl⟩|⟨n1,h1⟩
 ·rcases ins_get hk hb with⟨rfl,rfl⟩|⟨n2,h2⟩
  ·omega
  ·exact hx b (List.mem_of_getElem? h2) g o h' o' e1 e2
 ·rcases ins_get hk hb with⟨rfl,rfl⟩|⟨n2,h2⟩
  ·exact(hx a (List.mem_of_getElem? h1) h' o' g o e2 e1).symm
  ·exact h _ _ a b (by split <;> split <;> omega) h1 h2 g o h' o' e1 e2
theorem owns_ge {w:World} {base:Nat} {E:TypeId} {size n:Nat} {v:Value} {xs:List Value} (h:w.ownsRow base E size v n xs) {g:Nat} (hv:v.ownBlock=some g):base≤g:=by
 rcases h.2 with⟨rfl,_⟩|⟨b,cap,cur,rfl,hb,_,_⟩
 ·cases hv
 ·simp only[Value.ownBlock,Option.some.injEq] at hv
  omega
theorem Own.blk {w:World} {base:Nat} {t:TypeId} {q:Option Addr} {xs:List Value} (h:Own w base t q xs):∀ g o,q=some ⟨g,o,none⟩→base≤g∧g<w.heap.size:=by
 intro g o e
 rcases h with⟨h0,_⟩|⟨b,sp,h1,h2,h3⟩
 ·rw[h0] at e;cases e
 ·rw[h1] at e;cases e;exact⟨h2,h3.lt⟩
theorem ones_ll (k:List LL):∀ u∈k.flatMap llC,u.oneCell'=true:=by
 intro u hu
 obtain⟨x,_,hx⟩:=List.mem_flatMap.1 hu
 exact one_lt x u hx
theorem part_a {W:World} {base:Nat} {r:Option Addr} {l:List LL} (k:Nat) (h:Own W base 94 r (l.flatMap llC)):Cells W r ((l.take k).flatMap llC):=by
 rcases h with⟨rfl,h0⟩|⟨g,sp,rfl,_,hW⟩
 ·left
  have h1:=congrArg List.length h0
  rw[flat_len llC 5 (fun _=>rfl)] at h1
  have h2:l=[]:=List.eq_nil_of_length_eq_zero (by simp at h1;omega)
  rw[h2];simp
 ·refine Or.inr ⟨g,0,rfl,fun j u hj=>?_⟩
  have hlt:j<((l.take k).flatMap llC).length:=by
   rcases Nat.lt_or_ge j ((l.take k).flatMap llC).length with h' | h'
   ·exact h'
   ·rw[List.getElem?_eq_none h'] at hj;cases hj
  have e:l.flatMap llC=(l.take k).flatMap llC++(l.drop k).flatMap llC:=by rw[← List.flatMap_append,List.take_append_drop]
  rw[Nat.zero_add]
  refine hW.cell ?_
  have:((l.take k).flatMap llC).length≤(l.flatMap llC).length:=by rw[e,List.length_append];omega
  rw[List.getElem?_append_left (by omega),e,List.getElem?_append_left hlt];exact hj
theorem part_b {W:World} {base g:Nat} {l:List LL} {cap k:Nat} (hk:k≤l.length) (hc:l.length≤cap) (h:Own W base 94 (some ⟨g,0,none⟩) (l.flatMap llC)):Cells W (if cap=k then (some (⟨g,0,none⟩:Addr)) else some ⟨g,k * 5,none⟩) ((l.drop k).flatMap llC):=by
 have hd5:((l.drop k).flatMap llC).length=(l.length - k) * 5:=by rw[flat_len llC 5 (fun _=>rfl)];simp
 by_cases hck:cap=k
 ·left
  exact List.eq_nil_of_length_eq_zero (by rw[hd5];omega)
 ·rw[if_neg hck]
  rcases h with⟨h0,_⟩|⟨g',sp,h1,_,hW⟩
  ·cases h0
  ·cases h1
   refine Or.inr ⟨g,k * 5,rfl,fun j u hj=>?_⟩
   have hlt:j<((l.drop k).flatMap llC).length:=by
    rcases Nat.lt_or_ge j ((l.drop k).flatMap llC).length with h' | h'
    ·exact h'
    ·rw[List.getElem?_eq_none h'] at hj;cases hj
   have e:l.flatMap llC=(l.take k).flatMap llC++(l.drop k).flatMap llC:=by rw[← List.flatMap_append,List.take_append_drop]
   have hl5:(l.flatMap llC).length=l.length * 5:=flat_len llC 5 (fun _=>rfl) l
   have ht6:((l.take k).flatMap llC).length=k * 5:=by rw[flat_len llC 5 (fun _=>rfl)];simp;omega
   refine hW.cell ?_
   rw[List.getElem?_append_left (by omega),e,List.getElem?_append_right (by omega),ht6,show k * 5+j - k * 5=j by omega];exact hj
end Go.Proofs.YteckjlkhopkogaaGreat
