/- Contracts: one light taken out of a row of the call's own (slices.Delete). -/
import Derived.Test.YteckjlkhopkogaaGreatY3
import Derived.Deep.RegionLaw
import Derived.Lib.SliceRun
namespace Go.Proofs.YteckjlkhopkogaaGreat
open Go.RowKit Go.PlainAid
/-- Cells laid over a row's own, from a place on. -/
def spl (cs:List Value):Nat→List Value→List Value
 | _,[]=>cs
 | o,v :: r=>spl (cs.set o v) (o + 1) r
theorem spl_len (vs:List Value):∀ (o:Nat) (cs:List Value),(spl cs o vs).length = cs.length:=by
 induction vs with
 | nil=>intro o cs; rfl
 | cons v r ih=>intro o cs; show (spl (cs.set o v) (o + 1) r).length = _; rw [ih]; simp
theorem spl_out (vs:List Value):∀ (o:Nat) (cs:List Value) (t:Nat),(t < o ∨ o + vs.length ≤ t)→(spl cs o vs)[t]? = cs[t]?:=by
 induction vs with
 | nil=>intro o cs t _; rfl
 | cons v r ih =>
  intro o cs t h
  show (spl (cs.set o v) (o + 1) r)[t]? = _
  simp only [List.length_cons] at h
  rw [ih (o + 1) _ t (by omega),List.getElem?_set_ne (by omega)]
theorem spl_in (vs:List Value):∀ (o:Nat) (cs:List Value) (j:Nat),j < vs.length→o + vs.length ≤ cs.length→(spl cs o vs)[o + j]? = vs[j]?:=by
 induction vs with
 | nil=>intro o cs j hj _; simp at hj
 | cons v r ih =>
  intro o cs j hj hl
  show (spl (cs.set o v) (o + 1) r)[o + j]? = _
  simp only [List.length_cons] at hj hl
  cases j with
  | zero =>
   rw [spl_out r (o + 1) _ (o + 0) (by omega),Nat.add_zero,List.getElem?_set,if_pos rfl,if_pos (by omega)]; rfl
  | succ j =>
   have:=ih (o + 1) (cs.set o v) j (by omega) (by simp; omega)
   rw [show o + (j + 1) = o + 1 + j by omega,this]; rfl
theorem row_setCells (g:Nat) (t:TypeId) (vs:List Value):∀ (o:Nat) (w:World) (cs:List Value),RowAt w g t cs→RowAt (w.setCells g o vs) g t (spl cs o vs):=by
 induction vs with
 | nil=>intro o w cs h; exact h
 | cons v r ih=>intro o w cs h; exact ih (o + 1) _ _ (h.set o v)
theorem row_setCells_ne (g:Nat) (vs:List Value):∀ (o:Nat) (w:World) {h:Nat} {t:TypeId} {cs:List Value},RowAt w h t cs→h ≠ g→RowAt (w.setCells g o vs) h t cs:=by
 induction vs with
 | nil=>intro o w h t cs hr _; exact hr
 | cons v r ih=>intro o w h t cs hr hne; exact ih (o + 1) _ (hr.setOther hne _) hne
theorem fresh_setCells {w0:World} (g:Nat) (hg:w0.heap.size ≤ g) (vs:List Value):∀ (o:Nat) (w:World),Fresh w0 w→Fresh w0 (w.setCells g o vs):=by
 induction vs with
 | nil=>intro o w h; exact h
 | cons v r ih=>intro o w h; exact ih (o + 1) _ (fset h hg _)
end Go.Proofs.YteckjlkhopkogaaGreat
