/- Contracts: the best pair of routes, the program's side. -/
import Derived.Test.YtlapicgeokjpjaaGreatBp
namespace Go.Proofs.YtlapicgeokjpjaaGreat
open Go.RowKit Go.PlainAid

/-- What the function called with each pair keeps. -/
def InvB (w0 : World) (qn pn : Option Addr) (cn cp : Nat) (n : Net) (l : List LR) (bn bl bx by' : Nat) (L : List (Nat × Nat)) (w : World) : Prop :=
  Fresh w0 w ∧ RowAt w bn 27 [.slice qn n.nodes.length cn, .slice pn n.fibers.length cp] ∧
    ((bestQ (sumP n (l.map LR.val)) L = none ∧ RowAt w bl 3 [.int .i64 (-1)] ∧ RowAt w bx 39 [.int .i64 0, .slice none 0 0] ∧ RowAt w by' 39 [.int .i64 0, .slice none 0 0]) ∨
     ∃ z x y, bestQ (sumP n (l.map LR.val)) L = some z ∧ l[z.1]? = some x ∧ l[z.2]? = some y ∧ RowAt w bl 3 [.int .i64 (lenR n.fibers x.fibs + lenR n.fibers y.fibs)] ∧ RowAt w bx 39 [.int .i64 x.start, .slice x.q x.fibs.length x.cap] ∧ RowAt w by' 39 [.int .i64 y.start, .slice y.q y.fibs.length y.cap])
theorem InvB.keep {w0 w w' : World} {qn pn : Option Addr} {cn cp : Nat} {n : Net} {l : List LR} {bn bl bx by' : Nat} {L : List (Nat × Nat)} (h : InvB w0 qn pn cn cp n l bn bl bx by' L w) (hb : Fresh w w') : InvB w0 qn pn cn cp n l bn bl bx by' L w' := by
  obtain ⟨h1, h2, h3⟩ := h
  refine ⟨fstep h1 hb, h2.keep hb, ?_⟩
  rcases h3 with ⟨a, b, c, d⟩ | ⟨z, x, y, a, b, c, d, e, f⟩
  · exact Or.inl ⟨a, b.keep hb, c.keep hb, d.keep hb⟩
  · exact Or.inr ⟨z, x, y, a, b, c, d.keep hb, e.keep hb, f.keep hb⟩
theorem rows_put {w : World} {bl bx by' : Nat} {u0 u1 u2 u3 u4 a0 a1 b0 b1 c0 : Value} {t1 t2 t3 : TypeId} (hl : RowAt w bl t3 [u4]) (hx : RowAt w bx t1 [u0, u1]) (hy : RowAt w by' t2 [u2, u3]) (n1 : bx ≠ by') (n2 : bl ≠ bx) (n3 : bl ≠ by') :
    RowAt (((((w.setCell ⟨bx, 0, none⟩ a0).setCell ⟨bx, 1, none⟩ a1).setCell ⟨by', 0, none⟩ b0).setCell ⟨by', 1, none⟩ b1).setCell ⟨bl, 0, none⟩ c0) bl t3 [c0] ∧
    RowAt (((((w.setCell ⟨bx, 0, none⟩ a0).setCell ⟨bx, 1, none⟩ a1).setCell ⟨by', 0, none⟩ b0).setCell ⟨by', 1, none⟩ b1).setCell ⟨bl, 0, none⟩ c0) bx t1 [a0, a1] ∧
    RowAt (((((w.setCell ⟨bx, 0, none⟩ a0).setCell ⟨bx, 1, none⟩ a1).setCell ⟨by', 0, none⟩ b0).setCell ⟨by', 1, none⟩ b1).setCell ⟨bl, 0, none⟩ c0) by' t2 [b0, b1] := by
  refine ⟨?_, ?_, ?_⟩
  · exact ((((hl.setOther n2 _).setOther n2 _).setOther n3 _).setOther n3 _).set 0 _
  · exact ((((hx.set 0 _).set 1 _).setOther n1 _).setOther n1 _).setOther n2.symm _
  · exact ((((hy.setOther n1.symm _).setOther n1.symm _).set 0 _).set 1 _).setOther n3.symm _
theorem rows_kp {w : World} {bl bx by' lo hi : Nat} {a0 a1 b0 b1 c0 : Value} (h1 : lo ≤ bl ∧ bl < hi) (h2 : lo ≤ bx ∧ bx < hi) (h3 : lo ≤ by' ∧ by' < hi) : Kp lo hi w (((((w.setCell ⟨bx, 0, none⟩ a0).setCell ⟨bx, 1, none⟩ a1).setCell ⟨by', 0, none⟩ b0).setCell ⟨by', 1, none⟩ b1).setCell ⟨bl, 0, none⟩ c0) := fun g t cs hr hg =>
  ((((hr.setOther (by omega) _).setOther (by omega) _).setOther (by omega) _).setOther (by omega) _).setOther (by omega) _
theorem bpStep_any (w0 : World) (qn pn : Option Addr) (cn cp : Nat) (n : Net) (l : List LR) (bn bl bx by' lo hi base : Nat) (V : Value) (L : List (Nat × Nat)) (i k : Nat) (x y : LR) (w : World) (hN : NetIn w0 (.agg #[.slice qn n.nodes.length cn, .slice pn n.fibers.length cp]) n) (hb : LenOk n) (hl : ∀ x ∈ l, RtOk n x.fibs ∧ x.fibs.length ≤ 100)
    (n1 : bx ≠ by') (n2 : bl ≠ bx) (n3 : bl ≠ by') (h1 : lo ≤ bl ∧ bl < hi) (h2 : lo ≤ bx ∧ bx < hi) (h3 : lo ≤ by' ∧ by' < hi) (g0 : w0.heap.size ≤ lo) (hbn : bn < lo)
    (hx : l[i]? = some x) (hy : l[k]? = some y) (st : InvB w0 qn pn cn cp n l bn bl bx by' L w) (hr : Rts w base V l) :
    Calls Tryz.prog 31 (#[.agg #[.int .i64 x.start, .slice x.q x.fibs.length x.cap], .agg #[.int .i64 y.start, .slice y.q y.fibs.length y.cap]] ++ #[.pointer (some ⟨bn, 0, none⟩), .pointer (some ⟨bl, 0, none⟩), .pointer (some ⟨bx, 0, none⟩), .pointer (some ⟨by', 0, none⟩)]) w fun e w' =>
      e = .returned (.tuple #[]) ∧ InvB w0 qn pn cn cp n l bn bl bx by' (L ++ [(i, k)]) w' ∧ Kp lo hi w w' := by
  obtain ⟨fr, hrn, hst⟩ := st
  have mx := List.mem_of_getElem? hx
  have my := List.mem_of_getElem? hy
  have hS : sumP n (l.map LR.val) (i, k) = lenR n.fibers x.fibs + lenR n.fibers y.fibs := sumP_at hx hy
  have fset5 : ∀ wa, Fresh w wa → Fresh w0 (((((wa.setCell ⟨bx, 0, none⟩ (.int .i64 x.start)).setCell ⟨bx, 1, none⟩ (.slice x.q x.fibs.length x.cap)).setCell ⟨by', 0, none⟩ (.int .i64 y.start)).setCell ⟨by', 1, none⟩ (.slice y.q y.fibs.length y.cap)).setCell ⟨bl, 0, none⟩ (.int .i64 (lenR n.fibers x.fibs + lenR n.fibers y.fibs))) := fun wa hf =>
    fset (fset (fset (fset (fset (fstep fr hf) (by omega) _) (by omega) _) (by omega) _) (by omega) _) (by omega) _
  rcases hst with ⟨e0, rl, rx, ry⟩ | ⟨z, x', y', e0, ex, ey, rl, rx, ry⟩
  · refine (bpClo_any qn pn cn cp n x y bn bl bx by' _ _ _ _ (-1) w (hN.keep fr) hb (hr.fib x mx).ints (hr.fib y my).ints (hl x mx).1 (hl y my).1 (hl x mx).2 (hl y my).2 hrn rl rx ry n1 n2 n3 (Or.inl rfl)).mono ?_
    rintro e w' ⟨rfl, wa, hf, hw⟩
    rw [if_pos (Or.inl (by omega))] at hw
    subst hw
    obtain ⟨a, b, c⟩ := rows_put (a0 := .int .i64 x.start) (a1 := .slice x.q x.fibs.length x.cap) (b0 := .int .i64 y.start) (b1 := .slice y.q y.fibs.length y.cap) (c0 := .int .i64 (lenR n.fibers x.fibs + lenR n.fibers y.fibs)) (rl.keep hf) (rx.keep hf) (ry.keep hf) n1 n2 n3
    refine ⟨rfl, ⟨fset5 wa hf, rows_kp h1 h2 h3 _ _ _ (hrn.keep hf) (Or.inl hbn), Or.inr ⟨(i, k), x, y, ?_, hx, hy, a, b, c⟩⟩, (Kp.fresh hf).trans (rows_kp h1 h2 h3)⟩
    rw [bestQ_snoc, e0]; rfl
  · have hz : sumP n (l.map LR.val) z = lenR n.fibers x'.fibs + lenR n.fibers y'.fibs := by
      have := sumP_at (n := n) ex ey
      exact this
    have b1 := lenR_bd (n := n) (l := x'.fibs) hb
    have b2 := lenR_bd (n := n) (l := y'.fibs) hb
    have l1 := (hl x' (List.mem_of_getElem? ex)).2
    have l2 := (hl y' (List.mem_of_getElem? ey)).2
    refine (bpClo_any qn pn cn cp n x y bn bl bx by' _ _ _ _ _ w (hN.keep fr) hb (hr.fib x mx).ints (hr.fib y my).ints (hl x mx).1 (hl y my).1 (hl x mx).2 (hl y my).2 hrn rl rx ry n1 n2 n3 (Or.inr (by omega))).mono ?_
    rintro e w' ⟨rfl, wa, hf, hw⟩
    by_cases hc : lenR n.fibers x.fibs + lenR n.fibers y.fibs < lenR n.fibers x'.fibs + lenR n.fibers y'.fibs
    · rw [if_pos (Or.inr hc)] at hw
      subst hw
      obtain ⟨a, b, c⟩ := rows_put (a0 := .int .i64 x.start) (a1 := .slice x.q x.fibs.length x.cap) (b0 := .int .i64 y.start) (b1 := .slice y.q y.fibs.length y.cap) (c0 := .int .i64 (lenR n.fibers x.fibs + lenR n.fibers y.fibs)) (rl.keep hf) (rx.keep hf) (ry.keep hf) n1 n2 n3
      refine ⟨rfl, ⟨fset5 wa hf, rows_kp h1 h2 h3 _ _ _ (hrn.keep hf) (Or.inl hbn), Or.inr ⟨(i, k), x, y, ?_, hx, hy, a, b, c⟩⟩, (Kp.fresh hf).trans (rows_kp h1 h2 h3)⟩
      rw [bestQ_snoc, e0]
      unfold bst
      simp only [hS, hz]
      rw [if_pos hc]
    · rw [if_neg (by omega)] at hw
      subst hw
      refine ⟨rfl, ⟨fstep fr hf, hrn.keep hf, Or.inr ⟨z, x', y', ?_, ex, ey, rl.keep hf, rx.keep hf, ry.keep hf⟩⟩, Kp.fresh hf⟩
      rw [bestQ_snoc, e0]
      unfold bst
      simp only [hS, hz]
      rw [if_neg hc]
end Go.Proofs.YtlapicgeokjpjaaGreat
