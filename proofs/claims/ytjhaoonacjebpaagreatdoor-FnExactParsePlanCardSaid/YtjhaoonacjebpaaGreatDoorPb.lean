/- Contracts: a fiber's line is read, the program's side. -/
import Derived.Test.YtjhaoonacjebpaaGreatDoorPa
import Derived.Deep.RegionHeld3
namespace Go.Proofs.YtjhaoonacjebpaaGreatDoor
open Go.RowKit Go.PlainAid

/-- A fiber is handed back, and whether the line could be read: the right one where the line is a fiber's. -/
def OutRf (nodes : List ByteArray) (s : List UInt8) (w : World) (e : Ending) (w' : World) : Prop := ∃ (a b c d : Int) (k : Bool), e = .returned (.tuple #[.agg #[.int .i64 a, .int .i64 b, .int .i64 c, .int .i64 d], .bool k]) ∧ Fresh w w' ∧
  ∀ M : Net, netB M = true → M.nodes = nodes → ∀ g ∈ M.fibers, fibL nodes g = s → k = true ∧ g = ⟨a, b, c, d⟩
theorem idx_hit {M : Net} (h : netB M = true) {g : Fib} (hg : g ∈ M.fibers) : idxL M.nodes (ba (nmL M.nodes g.a)) = g.a ∧ idxL M.nodes (ba (nmL M.nodes g.b)) = g.b ∧ 0 ≤ g.a ∧ 0 ≤ g.b := by
  have hb := fibB_is (netB_fibs h g hg)
  obtain ⟨_, _, _, h1⟩ := node_idx h (k := g.a) (by omega) (by omega)
  obtain ⟨_, _, _, h2⟩ := node_idx h (k := g.b) (by omega) (by omega)
  exact ⟨h1, h2, by omega, by omega⟩
theorem fib_four {nodes : List ByteArray} {s x0 x1 x2 x3 : List UInt8} (hP : splitC 32 s = [x0, x1, x2, x3]) {M : Net} (h : netB M = true) (hn : M.nodes = nodes) {g : Fib} (hg : g ∈ M.fibers) (hs : fibL nodes g = s) :
    idxL nodes (ba x1) = g.a ∧ idxL nodes (ba x2) = g.b ∧ 0 ≤ g.a ∧ 0 ≤ g.b ∧ numF x3 = some g.len ∧ g.risk = 0 := by
  subst hn
  have hw := fib_words h hg
  have hb := fibB_is (netB_fibs h g hg)
  obtain ⟨i1, i2, i3, i4⟩ := idx_hit h hg
  rw [hs, hP] at hw
  by_cases hr : 0 < g.risk
  · rw [if_pos hr] at hw; simp at hw
  · rw [if_neg hr] at hw
    simp at hw
    obtain ⟨_, rfl, rfl, rfl⟩ := hw
    exact ⟨i1, i2, i3, i4, numF_iff.2 ⟨by omega, rfl⟩, by omega⟩
theorem fib_six {nodes : List ByteArray} {s x0 x1 x2 x3 x4 x5 : List UInt8} (hP : splitC 32 s = [x0, x1, x2, x3, x4, x5]) {M : Net} (h : netB M = true) (hn : M.nodes = nodes) {g : Fib} (hg : g ∈ M.fibers) (hs : fibL nodes g = s) :
    idxL nodes (ba x1) = g.a ∧ idxL nodes (ba x2) = g.b ∧ 0 ≤ g.a ∧ 0 ≤ g.b ∧ numF x3 = some g.len ∧ numF x5 = some g.risk ∧ x0 = [102, 105, 98, 101, 114] ∧ x4 = [114, 105, 115, 107] := by
  subst hn
  have hw := fib_words h hg
  have hb := fibB_is (netB_fibs h g hg)
  obtain ⟨i1, i2, i3, i4⟩ := idx_hit h hg
  rw [hs, hP] at hw
  by_cases hr : 0 < g.risk
  · rw [if_pos hr] at hw
    simp at hw
    obtain ⟨rfl, rfl, rfl, rfl, rfl, rfl⟩ := hw
    exact ⟨i1, i2, i3, i4, numF_iff.2 ⟨by omega, rfl⟩, numF_iff.2 ⟨by omega, rfl⟩, rfl, rfl⟩
  · rw [if_neg hr] at hw; simp at hw
theorem fib_len46 {nodes : List ByteArray} {s : List UInt8} {M : Net} (h : netB M = true) (hn : M.nodes = nodes) {g : Fib} (hg : g ∈ M.fibers) (hs : fibL nodes g = s) : (splitC 32 s).length = 4 ∨ (splitC 32 s).length = 6 := by
  subst hn
  have hw := fib_words h hg
  rw [hs] at hw
  rw [hw]
  split <;> simp
theorem idx_ok {nodes : List ByteArray} {s : ByteArray} {i g : Int} {b : Bool} (h1 : b = true → i = idxL nodes s ∧ i < nodes.length) (h2 : b = false → idxL nodes s = -1) (hg : idxL nodes s = g) (h0 : 0 ≤ g) : b = true ∧ i = g := by
  cases b with
  | true => exact ⟨rfl, by rw [(h1 rfl).1, hg]⟩
  | false => have := h2 rfl; omega
end Go.Proofs.YtjhaoonacjebpaaGreatDoor
