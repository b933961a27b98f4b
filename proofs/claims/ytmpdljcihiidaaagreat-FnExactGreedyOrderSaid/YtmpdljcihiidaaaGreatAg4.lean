/- Contracts: AssignGreedy, the reference's side. -/
import Derived.Test.YtmpdljcihiidaaaGreatAg3
namespace Go.Proofs.YtmpdljcihiidaaaGreat
open Go.RowKit Go.PlainAid

/-- A list of ints as an argument, its room known. -/
def IsIn (w : World) (v : Value) (l : List Int) : Prop := ∃ p cap, v = .slice p l.length cap ∧ Ints w p l ∧ l.length ≤ 1048576 ∧ l.length ≤ cap ∧ cap ≤ 9223372036854775807
theorem IsIn.keep {w w' : World} {v : Value} {l : List Int} (h : IsIn w v l) (hb : Fresh w w') : IsIn w' v l := by
  obtain ⟨p, cap, h1, h2, r⟩ := h
  exact ⟨p, cap, h1, h2.keep hb, r⟩
theorem reqs_one {n : Net} {L : List RqT} (h : reqsB n L = true) : CntOne L ∧ L.length ≤ 7 := by
  unfold reqsB at h
  simp only [Bool.and_eq_true, List.all_eq_true, decide_eq_true_eq] at h
  refine ⟨fun x hx => ?_, h.1.2⟩
  have := h.2 x hx
  unfold reqB at this
  rw [Bool.and_eq_true, inB_iff] at this
  exact this.2
theorem agF_no {n : Net} {L : List RqT} {order : List Int} (h : reqsB n L = false) : agF n L order = ([], 0, false) := by unfold agF; rw [if_neg (by simp [h])]
theorem agF_ord {n : Net} {L : List RqT} {order : List Int} (h : ordB order L.length = false) : agF n L order = ([], 0, false) := by unfold agF; rw [if_neg (by simp [h])]
theorem agF_yes {n : Net} {L : List RqT} {order : List Int} (h : reqsB n L = true) (h2 : ordB order L.length = true) : agF n L order = agR L order := by unfold agF agR; rw [if_pos ⟨h, h2⟩]; cases gTo L order order.length <;> rfl
theorem out_none (w : World) {w1 : World} (hf : Fresh w w1) : OutAg w ([], 0, false) (.returned (.tuple #[.slice (some ⟨w1.heap.size, 0, none⟩) 0 0, .int .i64 0, .bool false])) (w1.alloc (.cells #[] 71)) :=
  ⟨_, _, rfl, Or.inr ⟨w1.heap.size, [], rfl, hf.size, RowAt.new w1 _ []⟩, fnew hf _⟩

end Go.Proofs.YtmpdljcihiidaaaGreat
