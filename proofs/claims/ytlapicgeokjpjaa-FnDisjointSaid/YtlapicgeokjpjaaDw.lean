/- Contracts: a network with two nodes and a kind is drawn, the reference's side. -/
import Derived.Test.YtlapicgeokjpjaaAn
namespace Go.Proofs.Ytlapicgeokjpjaa
open Go.RowKit Go.PlainAid

theorem an_net {w' : World} {b : Nat} {np : Option Addr} {N nc : Nat} {fp : Option Addr} {L : List Fib} {fc : Nat} {l : List ByteArray} (hN : N = l.length) (h16 : N ≤ 16) (ho : w'.ownsRow b 9 1 (.slice np N nc) N (l.map .string)) (hf : w'.ownsRow b 59 4 (.slice fp L.length fc) L.length (L.flatMap fibC)) (h20 : L.length ≤ 20) (hz : ∀ s ∈ l, s.size ≤ 16) :
    NetIn w' (.agg #[.slice np N nc, .slice fp L.length fc]) ⟨l, L⟩ := by
  subst hN
  obtain ⟨p1, c1, e1, h1, h2, h3⟩ := owns_cap ho
  obtain ⟨p2, c2, e2, g1, g2, g3⟩ := owns_cap hf
  cases e1
  cases e2
  exact ⟨_, _, _, _, rfl, h1.cells, g1.cells, by dsimp only; omega, by dsimp only; omega, h2, h3, fun s hs => Nat.le_trans (hz s hs) (by decide)⟩
/-- A network whose rows are the call's own. -/
def NetOw (w : World) (base : Nat) (v : Value) (n : Net) : Prop := ∃ (np : Option Addr) (nc : Nat) (fp : Option Addr) (fc : Nat), v = .agg #[.slice np n.nodes.length nc, .slice fp n.fibers.length fc] ∧ w.ownsRow base 9 1 (.slice np n.nodes.length nc) n.nodes.length (n.nodes.map .string) ∧ w.ownsRow base 59 4 (.slice fp n.fibers.length fc) n.fibers.length (n.fibers.flatMap fibC) ∧ n.nodes.length ≤ 16 ∧ n.fibers.length ≤ 20 ∧ ∀ s ∈ n.nodes, s.size ≤ 16
theorem NetOw.net {w : World} {base : Nat} {v : Value} {n : Net} (h : NetOw w base v n) : NetIn w v n := by
  obtain ⟨np, nc, fp, fc, rfl, h1, h2, h3, h4, h5⟩ := h
  exact an_net rfl h3 h1 h2 h4 h5
theorem NetOw.keep {w w' : World} {base : Nat} {v : Value} {n : Net} (h : NetOw w base v n) (hb : Fresh w w') : NetOw w' base v n := by
  obtain ⟨np, nc, fp, fc, hv, h1, h2, r⟩ := h
  exact ⟨np, nc, fp, fc, hv, ownsRow_keep h1 hb, ownsRow_keep h2 hb, r⟩
theorem NetOw.mono {w : World} {b b' : Nat} {v : Value} {n : Net} (h : NetOw w b v n) (hb : b' ≤ b) : NetOw w b' v n := by
  obtain ⟨np, nc, fp, fc, hv, h1, h2, r⟩ := h
  exact ⟨np, nc, fp, fc, hv, owns_mono h1 hb, owns_mono h2 hb, r⟩
theorem NetOw.setO {w : World} {base g : Nat} {v : Value} {n : Net} {cs : List Value} (h : NetOw w base v n) (hr : RowAt w g 27 cs) (i : Nat) (u : Value) : NetOw (w.setCell ⟨g, i, none⟩ u) base v n := by
  obtain ⟨np, nc, fp, fc, hv, h1, h2, r⟩ := h
  exact ⟨np, nc, fp, fc, hv, owns_setO h1 hr (by decide) i, owns_setO h2 hr (by decide) i, r⟩
theorem NetOw.grown {a b : World} {base r : Nat} {v : Value} {n : Net} (h : NetOw a base v n) (k : a.grownBy b (some r)) (hr : r < base) : NetOw b base v n := by
  obtain ⟨np, nc, fp, fc, hv, h1, h2, rr⟩ := h
  exact ⟨np, nc, fp, fc, hv, owns_grown h1 k hr, owns_grown h2 k hr, rr⟩
/-- A network and three numbers are handed back. -/
def OutDp (w : World) (e : Ending) (w' : World) : Prop := ∃ (v : Value) (n : Net) (a b k : Int), e = .returned (.tuple #[v, .int .i64 a, .int .i64 b, .int .i64 k]) ∧ NetOw w' w.heap.size v n ∧ Fresh w w'
def OutDk (w : World) (e : Ending) (w' : World) : Prop := ∃ (v : Value) (n : Net) (k : Int), e = .returned (.tuple #[v, .int .i64 k]) ∧ NetOw w' w.heap.size v n ∧ Fresh w w'
end Go.Proofs.Ytlapicgeokjpjaa
