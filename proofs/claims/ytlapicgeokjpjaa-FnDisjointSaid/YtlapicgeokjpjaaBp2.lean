/- Contracts: the best pair of routes, the program's side. -/
import Derived.Test.YtlapicgeokjpjaaBp
namespace Go.Proofs.Ytlapicgeokjpjaa
open Go.RowKit Go.PlainAid

/-- What the function called with each pair keeps. -/
def InvB (w0 : World) (qn pn : Option Addr) (cn cp : Nat) (n : Net) (l : List LR) (bn bl bx by' : Nat) (L : List (Nat × Nat)) (w : World) : Prop :=
  Fresh w0 w ∧ RowAt w bn 27 [.slice qn n.nodes.length cn, .slice pn n.fibers.length cp] ∧
    ((bestQ (sumP n (l.map LR.val)) L = none ∧ RowAt w bl 3 [.int .i64 (-1)] ∧ RowAt w bx 30 [.int .i64 0, .slice none 0 0] ∧ RowAt w by' 30 [.int .i64 0, .slice none 0 0]) ∨
     ∃ z x y, bestQ (sumP n (l.map LR.val)) L = some z ∧ l[z.1]? = some x ∧ l[z.2]? = some y ∧ RowAt w bl 3 [.int .i64 (lenR n.fibers x.fibs + lenR n.fibers y.fibs)] ∧ RowAt w bx 30 [.int .i64 x.start, .slice x.q x.fibs.length x.cap] ∧ RowAt w by' 30 [.int .i64 y.start, .slice y.q y.fibs.length y.cap])
theorem InvB.keep {w0 w w' : World} {qn pn : Option Addr} {cn cp : Nat} {n : Net} {l : List LR} {bn bl bx by' : Nat} {L : List (Nat × Nat)} (h : InvB w0 qn pn cn cp n l bn bl bx by' L w) (hb : Fresh w w') : InvB w0 qn pn cn cp n l bn bl bx by' L w' := by
  obtain ⟨h1, h2, h3⟩ := h
  refine ⟨fstep h1 hb, h2.keep hb, ?_⟩
  rcases h3 with ⟨a, b, c, d⟩ | ⟨z, x, y, a, b, c, d, e, f⟩
  · exact Or.inl ⟨a, b.keep hb, c.keep hb, d.keep hb⟩
  · exact Or.inr ⟨z, x, y, a, b, c, d.keep hb, e.keep hb, f.keep hb⟩
theorem rows_put {w : World} {bl bx by' : Nat} {u0 u1 u2 u3 u4 a0 a1 b0 b1 c0 : Value} {t1 t2 t3 : TypeId} (hl : RowAt w bl t3 [u4]) (hx : RowAt w bx t1 [u0, u1]) (hy : RowAt w by' t2 [u2, u3]) (n1 : bx ≠ by') (n2 : bl ≠ bx) (n3 : bl ≠ by') :
    RowAt (((((w.setCell ⟨bx, 0, none⟩ a0).setCell ⟨bx, 1, none⟩ a1).setCell ⟨by', 0, none⟩ b0).setCell ⟨by', 1, none⟩ b1).setCell ⟨bl, 0, none⟩ c0) bl t3 [c0] ∧
    RowAt (((((w.setCell ⟨bx, 0, none⟩ a0).setCell ⟨bx, 1, none⟩ a1).setCell ⟨by', 0, none⟩ b0).setCell ⟨by', 1, none⟩ b1).setCell ⟨bl, 0, none⟩ c0) bx t1 [a0, a1] ∧
    RowAt (((((w.setCell ⟨bx, 0, none⟩ a0).setCell ⟨bx, 1, none⟩ a1).setCell ⟨by', 0, none⟩ b0).setCell ⟨by', 1, none⟩ b1).setCell ⟨bl, 0, none⟩ c0) by' t2 [b0, b1] := by
  refine ⟨?_, ?_, ?_⟩
  · exact ((((hl.setOther n2 _).setOther n2 _).setOther n3 _).setOther n3 _).set 0 _
  · exact ((((hx.set 0 _).set 1 _).setOther n1 _).setOther n1 _).setOther n2.symm _
  · exact ((((hy.setOther n1.symm _).setOther n1.symm _).set 0 _).set 1 _).setOther n3.symm _
theorem rows_kp {w : World} {bl bx by' lo hi : Nat} {a0 a1 b0 b1 c0 : Value} (h1 : lo ≤ bl ∧ bl < hi) (h2 : lo ≤ bx ∧ bx < hi) (h3 : lo ≤ by' ∧ by' < hi) : Kp lo hi w (((((w.setCell ⟨bx, 0, none⟩ a0).setCell ⟨bx, 1, none⟩ a1).setCell ⟨by', 0, none⟩ b0).setCell ⟨by', 1, none⟩ b1).setCell ⟨bl, 0, none⟩ c0) := fun g t cs hr hg =>
  ((((hr.setOther (by omega) _).setOther (by omega) _).setOther (by omega) _).setOther (by omega) _).setOther (by omega) _
end Go.Proofs.Ytlapicgeokjpjaa
