/- Contracts: a plan without one of its lights, the reference's side. -/
import Derived.Test.YteckjlkhopkogaaGreatWo
namespace Go.Proofs.YteckjlkhopkogaaGreat
open Go.RowKit Go.PlainAid
/-- Many elements appended to a row of the call's own, as a step of a region that draws its order. -/
theorem step_app_m {T E:TypeId} {z:Value} {size bytes:Nat} {ops:Array Oper} {o:Oper} {a:Act} {w:World} {K:Act→World→Prop} {Q:Exit→Act→World→Prop} {F:Prop} (dd:Option Nat) (_hd:o.dst = dd) (hu:Tryz.prog.underlying T = some (.slice E)) (hinfo:(Tryz.prog.info? E).map (fun i=>(i.zero,i.size,i.bytes)) = some (some z,size,bytes))
  (hzs:z.cells.size = size) (hsz:0 < size) (hby:bytes ≤ 128) (w0:World) (v:Value) (n:Nat) (xs:List Value) (p:Option Addr) (m c:Nat) (news:List Value)
  (hgd:o.guard = none) (s t:Operand) (ho:o.op = .call { callee:=.builtin .append,args:=#[s,t],argTypes:=#[T,T] }) (hs:a.eval s = v) (hown:w.ownsRow w0.heap.size E size v n xs)
  (hx:a.eval t = .slice p m c) (hc:Cells w p news) (hl:news.length = m * size) (hone:∀ u ∈ news,u.oneCell' = true) (hn:n ≤ 1048576) (hm:m ≤ 1048576) (hf:Fresh w0 w)
  (h:∀ q' c' w',w'.ownsRow w0.heap.size E size (.slice q' (n + m) c') (n + m) (xs ++ news)→Fresh w0 w'→(∀ g t cs,RowAt w g t cs→(t ≠ E ∨ v.ownBlock ≠ some g)→RowAt w' g t cs)→K (a.put o.dst (.slice q' (n + m) c')) w') :
  if Region.wanted o (yielded ops a.tmps) = true then Oper.wp Tryz.prog o a w K Q else F:=by
 have hw:Region.wanted o (yielded ops a.tmps) = true:=by simp [Region.wanted,hgd]
 rw [if_pos hw]
 obtain ⟨i0,hi,hz0,hz1,hz2⟩:=info_parts hinfo
 rcases Nat.eq_zero_or_pos m with rfl | hm0
 ·have hnil:news = []:=List.eq_nil_of_length_eq_zero (by simpa using hl)
  subst hnil
  have hrun:=run_append_zero (P:=Tryz.prog) (w:=w) w0.heap.size T o.type E i0 size hu hi v n xs hown p c
  obtain ⟨q',c',hv,_,_⟩:=owns_cap hown
  unfold Oper.wp
  simp [execOp,ho,resolve,invoke,builtin,hs,hx,hrun,Result.andThen]
  rw [List.append_nil] at h
  rw [hv] at hown ⊢
  exact h q' c' w hown hf fun _ _ _ h _=>h
 ·rcases hc with rfl | ⟨b,off,rfl,hc⟩
  ·exfalso
   have:m * size = 0:=by simpa using hl.symm
   rcases Nat.mul_eq_zero.1 this with h' | h' <;> omega
  ·refine wp_append_own w s t T ho w0.heap.size E i0 z size bytes hu hi hz0 hz1 hz2 hzs hsz v n xs hs hown ⟨b,off,none⟩ m c news hx hl
    (fun j u hj=>by
     have h0:=hc j u hj
     unfold Addr.add
     split
     ·next e=>subst e; exact h0
     ·exact h0) hone (by unfold maxLen; omega) (Nat.le_trans (Nat.mul_le_mul (by omega:n + m ≤ 2097152) hby) (by omega)) hf.size ?_
   intro v' w' hown' hgrow _
   obtain ⟨q',c',rfl,_,_⟩:=owns_cap hown'
   refine h q' c' w' hown' (fgrown hf hgrow (own_block hown)) fun g t cs hr' ht=>?_
   rcases ht with ht | ht
   ·exact row_grown0 hown hgrow hr' ht
   ·unfold RowAt
    rw [hgrow.block g hr'.lt (fun he=>ht he.symm)]
    exact hr'
theorem Own.hk {w w':World} {base:Nat} {t E:TypeId} {q:Option Addr} {xs:List Value} {R:Nat→Prop} (h:Own w base t q xs) (hk:∀ g t cs,RowAt w g t cs→(t ≠ E ∨ R g)→RowAt w' g t cs) (ht:t ≠ E):Own w' base t q xs:=by
 rcases h with h | ⟨b,sp,h1,h2,h3⟩
 ·exact Or.inl h
 ·exact Or.inr ⟨b,sp,h1,h2,hk _ _ _ h3 (Or.inl ht)⟩
end Go.Proofs.YteckjlkhopkogaaGreat
