/- An append of one element to a row of the call's own: rows of other types stay. Rows of rows of ints. -/
import Derived.Test.YteckjlkhopkogaaGreatU3
namespace Go.Proofs.YteckjlkhopkogaaGreat
open Go.RowKit Go.PlainAid
theorem row_grown {w1 w':World} {o:Obj} {base:Nat} {E:TypeId} {v:Value} {n size:Nat} {xs:List Value} (hown:w1.ownsRow base E size v n xs) (hg:(w1.alloc o).grownBy w' v.ownBlock) {g:Nat} {t:TypeId} {cs:List Value} (hr:RowAt w1 g t cs) (ht:t ≠ E):RowAt w' g t cs:=by
 have hba:=hr.alloc o
 have hne:∀ k,v.ownBlock = some k→k ≠ g:=by
  intro k hk he
  subst he
  obtain ⟨_,⟨rfl,_⟩ | ⟨g',cap,cur,rfl,_,hh,_⟩⟩:=hown
  ·cases hk
  ·simp only [Value.ownBlock,Option.some.injEq] at hk
   subst hk
   unfold RowAt at hr
   rw [hh] at hr
   simp only [Option.some.injEq,Obj.cells.injEq] at hr
   exact ht hr.2.1.symm
 unfold RowAt
 rw [hg.block g hba.lt (fun he=>hne g he.symm rfl)]
 exact hba
theorem Own.grown {w1 w':World} {base b2:Nat} {t:TypeId} {p:Option Addr} {cs:List Value} (h:Own w1 b2 t p cs) (hk:∀ g t cs,RowAt w1 g t cs→t ≠ base→RowAt w' g t cs) (ht:t ≠ base):Own w' b2 t p cs:=by
 rcases h with h | ⟨g,sp,hp,hg,hr⟩
 ·exact Or.inl h
 ·exact Or.inr ⟨g,sp,hp,hg,hk _ _ _ hr ht⟩
theorem add_new (w:World) (E:TypeId) (news:List Value) (j:Nat) (u:Value) (hj:news[j]? = some u):(w.alloc (.cells news.toArray E)).cell? ((⟨w.heap.size,0,none⟩:Addr).add j) = some u:=by
 have h0:=(RowAt.new w E news).cell hj
 unfold Addr.add
 split
 ·next e=>subst e; exact h0
 ·simpa only [Nat.zero_add] using h0
theorem wpList_app_g {T E:TypeId} {z:Value} {size bytes:Nat} (hu:Tryz.prog.underlying T = some (.slice E)) (hinfo:(Tryz.prog.info? E).map (fun i=>(i.zero,i.size,i.bytes)) = some (some z,size,bytes))
  (hzs:z.cells.size = size) (hsz:0 < size) (hby:bytes ≤ 128) {ops:Array Oper} {rest:List Oper} {o:Oper} {a:Act} {Q:Exit→Act→World→Prop} (w0 w1:World) (v:Value) (n:Nat) (xs news:List Value)
  (g0:Nat) (hl:news.length = size) (hone:∀ u ∈ news,u.oneCell' = true) (hgd:o.guard = none) (s t:Operand)
  (ho:o.op = .call { callee:=.builtin .append,args:=#[s,t],argTypes:=#[T,T] }) (hs:a.eval s = v) (hown:w1.ownsRow w0.heap.size E size v n xs)
  (hx:a.eval t = .slice (some ⟨g0,0,none⟩) 1 1) (hg0:g0 = w1.heap.size) (hn:n ≤ 1048576) (hf:Fresh w0 w1)
  (h:∀ v' w',w'.ownsRow w0.heap.size E size v' (n + 1) (xs ++ news)→Fresh w0 w'→(∀ g t cs,RowAt w1 g t cs→t ≠ E→RowAt w' g t cs)→wpList Tryz.prog ops Q rest (a.put o.dst v') w') :
  wpList Tryz.prog ops Q (o :: rest) a (w1.alloc (.cells news.toArray E)):=by
 subst hg0
 obtain ⟨i0,hi,hz0,hz1,hz2⟩:=info_parts hinfo
 refine wpList_append_own _ hgd s t T ho w0.heap.size E i0 z size bytes hu hi hz0 hz1 hz2 hzs hsz v n xs hs (hown.alloc _) ⟨w1.heap.size,0,none⟩ 1 1 news hx (by omega)
  (add_new w1 E news) hone (by unfold maxLen; omega) (Nat.le_trans (Nat.mul_le_mul (by omega:n + 1 ≤ 1048577) hby) (by omega)) (Nat.le_trans hf.size (by simp)) ?_
 intro v' w' hown' hgrow _
 exact h v' w' hown' (fgrown (fnew hf _) hgrow (own_block hown)) fun g t cs hr ht=>row_grown hown hgrow hr ht
theorem row_grown0 {w1 w':World} {base:Nat} {E:TypeId} {v:Value} {n size:Nat} {xs:List Value} (hown:w1.ownsRow base E size v n xs) (hg:w1.grownBy w' v.ownBlock) {g:Nat} {t:TypeId} {cs:List Value} (hr:RowAt w1 g t cs) (ht:t ≠ E):RowAt w' g t cs:=by
 have hne:∀ k,v.ownBlock = some k→k ≠ g:=by
  intro k hk he
  subst he
  obtain ⟨_,⟨rfl,_⟩ | ⟨g',cap,cur,rfl,_,hh,_⟩⟩:=hown
  ·cases hk
  ·simp only [Value.ownBlock,Option.some.injEq] at hk
   subst hk
   unfold RowAt at hr
   rw [hh] at hr
   simp only [Option.some.injEq,Obj.cells.injEq] at hr
   exact ht hr.2.1.symm
 unfold RowAt
 rw [hg.block g hr.lt (fun he=>hne g he.symm rfl)]
 exact hr
theorem run_append_zero {P:Program} {w:World} (base:Nat) (t ty e:TypeId) (i:TypeInfo) (size:Nat) (ht:P.underlying t = some (.slice e)) (hi:P.info? e = some i)
  (v:Value) (n:Nat) (xs:List Value) (hown:w.ownsRow base e size v n xs) (p:Option Addr) (c:Nat) :
  (Builtin.append_ #[t,t] ty #[v, .slice p 0 c]).run P w = .ok v w:=by
 rcases hown.2 with ⟨rfl,rfl⟩ | ⟨g,cap,cur,rfl,_,_,hnc,_⟩
 ·cases p <;> simp [Builtin.append_,run_underlying ht,sizeOf,typeInfo,hi,Builtin.lenOf,Builtin.firstCells,loadCells,loadCellsFrom]
 ·cases p <;> simp [Builtin.append_,run_underlying ht,sizeOf,typeInfo,hi,Builtin.lenOf,Builtin.firstCells,hnc,storeCells,loadCells,loadCellsFrom]
theorem wpList_append_zero {P:Program} {w:World} {ops:Array Oper} {rest:List Oper} {o:Oper} {a:Act} {Q:Exit→Act→World→Prop} (hgd:o.guard = none) (s x:Operand) (t:TypeId)
  (ho:o.op = .call { callee:=.builtin .append,args:=#[s,x],argTypes:=#[t,t] })
  (base:Nat) (e:TypeId) (i:TypeInfo) (size:Nat) (ht:P.underlying t = some (.slice e)) (hi:P.info? e = some i)
  (v:Value) (n:Nat) (xs:List Value) (hs:a.eval s = v) (hown:w.ownsRow base e size v n xs) (p:Option Addr) (c:Nat) (hx:a.eval x = .slice p 0 c)
  (h:wpList P ops Q rest (a.put o.dst v) w):wpList P ops Q (o :: rest) a w:=by
 refine wpList_plain hgd fun K hK=>?_
 have hrun:=run_append_zero (P:=P) (w:=w) base t o.type e i size ht hi v n xs hown p c
 unfold Oper.wp
 simp [execOp,ho,resolve,invoke,builtin,hs,hx,hrun,Result.andThen]
 exact hK _ _ h
/-- Many elements appended to a row of the call's own. -/
theorem wpList_app_many {T E:TypeId} {z:Value} {size bytes:Nat} (hu:Tryz.prog.underlying T = some (.slice E)) (hinfo:(Tryz.prog.info? E).map (fun i=>(i.zero,i.size,i.bytes)) = some (some z,size,bytes))
  (hzs:z.cells.size = size) (hsz:0 < size) (hby:bytes ≤ 128) {ops:Array Oper} {rest:List Oper} {o:Oper} {a:Act} {Q:Exit→Act→World→Prop} (w0 w1:World) (v:Value) (n:Nat) (xs:List Value) (p:Option Addr) (m c:Nat) (news:List Value)
  (hl:news.length = m * size) (hone:∀ u ∈ news,u.oneCell' = true) (hgd:o.guard = none) (s t:Operand)
  (ho:o.op = .call { callee:=.builtin .append,args:=#[s,t],argTypes:=#[T,T] }) (hs:a.eval s = v) (hown:w1.ownsRow w0.heap.size E size v n xs)
  (hx:a.eval t = .slice p m c) (hc:Cells w1 p news) (hn:n ≤ 1048576) (hm:m ≤ 1048576) (hf:Fresh w0 w1)
  (h:∀ v' w',w'.ownsRow w0.heap.size E size v' (n + m) (xs ++ news)→Fresh w0 w'→(∀ g t cs,RowAt w1 g t cs→t ≠ E→RowAt w' g t cs)→wpList Tryz.prog ops Q rest (a.put o.dst v') w') :
  wpList Tryz.prog ops Q (o :: rest) a w1:=by
 obtain ⟨i0,hi,hz0,hz1,hz2⟩:=info_parts hinfo
 rcases Nat.eq_zero_or_pos m with rfl | hm0
 ·have hnil:news = []:=List.eq_nil_of_length_eq_zero (by simpa using hl)
  subst hnil
  refine wpList_append_zero hgd s t T ho w0.heap.size E i0 size hu hi v n xs hs hown p c hx (h v w1 ?_ hf fun g t cs hr _=>hr)
  rw [List.append_nil]; exact hown
 ·rcases hc with rfl | ⟨b,off,rfl,hc⟩
  ·exfalso
   have:m * size = 0:=by simpa using hl.symm
   rcases Nat.mul_eq_zero.1 this with h' | h' <;> omega
  ·refine wpList_append_own _ hgd s t T ho w0.heap.size E i0 z size bytes hu hi hz0 hz1 hz2 hzs hsz v n xs hs hown ⟨b,off,none⟩ m c news hx hl
    (fun j u hj=>by
     have h0:=hc j u hj
     unfold Addr.add
     split
     ·next e=>subst e; exact h0
     ·exact h0) hone (by unfold maxLen; omega) (Nat.le_trans (Nat.mul_le_mul (by omega:n + m ≤ 2097152) hby) (by omega)) hf.size ?_
   intro v' w' hown' hgrow _
   exact h v' w' hown' (fgrown hf hgrow (own_block hown)) fun g t cs hr ht=>row_grown0 hown hgrow hr ht
theorem one_ints (l:List Int):∀ u ∈ l.map iv,u.oneCell' = true:=by
 intro u hu
 obtain ⟨x,_,rfl⟩:=List.mem_map.1 hu
 rfl
end Go.Proofs.YteckjlkhopkogaaGreat
