/- Contracts: the best pair of routes, the program's side: the walk. -/
import Derived.Test.YtlapicgeokjpjaaBp2
import Derived.Test.YtlapicgeokjpjaaM5
import Derived.Test.YtlapicgeokjpjaaTr
namespace Go.Proofs.Ytlapicgeokjpjaa
open Go.RowKit Go.PlainAid

theorem bestF_no {n : Net} {s t k : Int} (h : okK n s t k = false) : bestF n s t k = ((0, []), (0, []), false, false) := by unfold bestF; rw [h]; rfl
theorem bestF_none {n : Net} {s t k : Int} (h : okK n s t k = true) (h2 : bestP n s t k = none) : bestF n s t k = ((0, []), (0, []), false, true) := by unfold bestF; rw [h, h2]; rfl
theorem bestF_some {n : Net} {s t k : Int} {x : Nat × Nat} (h : okK n s t k = true) (h2 : bestP n s t k = some x) : bestF n s t k = (((allR n s t)[x.1]?).getD (0, []), ((allR n s t)[x.2]?).getD (0, []), true, true) := by unfold bestF; rw [h, h2]; rfl
theorem rt_zero (w : World) (base : Nat) : RtOwn w base (.agg #[.int .i64 0, .slice none 0 0]) (0, []) := ⟨none, 0, rfl, Or.inl ⟨rfl, rfl⟩⟩
theorem apart_zero : RtApart (.agg #[.int .i64 0, .slice none 0 0]) (.agg #[.int .i64 0, .slice none 0 0]) := by
  intro a q m c a' q' m' c' e e' g o h o' hq hq'
  simp at e
  obtain ⟨_, rfl, _⟩ := e
  cases hq
theorem rts_apart {w : World} {base : Nat} {V : Value} {l : List LR} (h : Rts w base V l) {i k : Nat} {x y : LR} (hik : i ≠ k) (hx : l[i]? = some x) (hy : l[k]? = some y) : RtApart (.agg #[.int .i64 x.start, .slice x.q x.fibs.length x.cap]) (.agg #[.int .i64 y.start, .slice y.q y.fibs.length y.cap]) := by
  intro a q m c a' q' m' c' e e' g o g' o' hq hq'
  simp at e e'
  obtain ⟨_, rfl, _⟩ := e
  obtain ⟨_, rfl, _⟩ := e'
  exact h.dist i k x y hik hx hy g o g' o' hq hq'
theorem rts_own {w : World} {base : Nat} {V : Value} {l : List LR} (h : Rts w base V l) {i : Nat} {x : LR} (hx : l[i]? = some x) : RtOwn w base (.agg #[.int .i64 x.start, .slice x.q x.fibs.length x.cap]) (((l.map LR.val)[i]?).getD (0, [])) := by
  rw [List.getElem?_map, hx]
  exact ⟨x.q, x.cap, rfl, h.fib x (List.mem_of_getElem? hx)⟩
theorem rts_small {n : Net} {s t : Int} {l : List LR} (hn : netB n = true) (hs : 0 ≤ s ∧ s < (n.nodes.length : Int)) (hl : ∀ x ∈ l, x.start = s ∧ RtGood n s t x.fibs) : ∀ x ∈ l, RtOk n x.fibs ∧ x.fibs.length ≤ 100 := by
  intro x hx
  have h2 := (hl x hx).2
  obtain ⟨_, _, a3, a4, _⟩ := nodes_at hn hs h2
  exact ⟨rt_ok hn hs h2, by omega⟩
theorem bestF_small (n : Net) (s t k : Int) : SmRt (bestF n s t k).1 ∧ SmRt (bestF n s t k).2.1 := by
  cases h : okK n s t k
  · rw [bestF_no h]; exact ⟨by simp [SmRt], by simp [SmRt]⟩
  · have hok : okA n s t = true := by unfold okK at h; simp only [Bool.and_eq_true] at h; exact h.1
    have hp := pairB_in (okA_pair hok)
    have hsm : ∀ i : Nat, SmRt (((allR n s t)[i]?).getD (0, [])) := by
      intro i
      cases hi : (allR n s t)[i]? with
      | none => simp [SmRt]
      | some R =>
        have hg := good_mem (List.mem_of_getElem? hi)
        obtain ⟨_, _, a3, a4, _⟩ := nodes_at hp.1 hp.2.1 hg.2
        simp [SmRt]; omega
    cases h2 : bestP n s t k with
    | none => rw [bestF_none h h2]; exact ⟨by simp [SmRt], by simp [SmRt]⟩
    | some x => rw [bestF_some h h2]; exact ⟨hsm _, hsm _⟩
theorem RtOwn.setO {w : World} {base : Nat} {v : Value} {R : Int × List Int} (h : RtOwn w base v R) {b : Nat} (hb : b < base) (o : Nat) (u : Value) : RtOwn (w.setCell ⟨b, o, none⟩ u) base v R := by
  obtain ⟨q, c, h1, h2⟩ := h
  exact ⟨q, c, h1, h2.setOther hb u⟩
/-- Three new boxes, in whatever order they were made. -/
theorem best_rows (w : World) (a b c : Obj) {t : TypeId} {xs : List Value} : (a = .cells xs.toArray t → RowAt (((w.alloc a).alloc b).alloc c).drew w.heap.size t xs) ∧ (b = .cells xs.toArray t → RowAt (((w.alloc a).alloc b).alloc c).drew (w.heap.size + 1) t xs) ∧ (c = .cells xs.toArray t → RowAt (((w.alloc a).alloc b).alloc c).drew (w.heap.size + 1 + 1) t xs) := by
  refine ⟨fun h => ?_, fun h => ?_, fun h => ?_⟩
  · subst h; exact ((RowAt.new w t xs).alloc b).alloc c
  · subst h
    have := RowAt.new (w.alloc a) t xs
    rw [show (w.alloc a).heap.size = w.heap.size + 1 by simp] at this
    exact this.alloc c
  · subst h
    have := RowAt.new ((w.alloc a).alloc b) t xs
    rw [show ((w.alloc a).alloc b).heap.size = w.heap.size + 1 + 1 by simp] at this
    exact this
def OutBp (n : Net) (s t k : Int) (w : World) (e : Ending) (w' : World) : Prop := ∃ vA vB, e = .returned (.tuple #[vA, vB, .bool (bestF n s t k).2.2.1, .bool (bestF n s t k).2.2.2]) ∧ (RtOwn w' w.heap.size vA (bestF n s t k).1 ∧ RtOwn w' w.heap.size vB (bestF n s t k).2.1 ∧ RtApart vA vB) ∧ Fresh w w'
end Go.Proofs.Ytlapicgeokjpjaa
