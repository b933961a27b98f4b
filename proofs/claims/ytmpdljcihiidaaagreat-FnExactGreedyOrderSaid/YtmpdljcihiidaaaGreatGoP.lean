/- The first order whose greedy assignment has a height: the plain law (no program in sight). -/
import Derived.Test.YtmpdljcihiidaaaGreatAg7
import Derived.Test.YtmpdljcihiidaaaGreatAxP
namespace Go.Proofs.YtmpdljcihiidaaaGreat
open Go.RowKit

def grB (L : List RqT) (h : Int) (o : List Int) : Bool := match gTo L o o.length with | some B => decide (heightTo B = h) | none => false
theorem grB_none {L : List RqT} {h : Int} {o : List Int} (e : gTo L o o.length = none) : grB L h o = false := by unfold grB; rw [e]
theorem grB_some {L : List RqT} {h : Int} {o : List Int} {B : List (Int × Int)} (e : gTo L o o.length = some B) : grB L h o = decide (heightTo B = h) := by unfold grB; rw [e]
def goS (L : List RqT) (h : Int) : Nat → List Int → Option (List Int)
  | 0, pre => if grB L h pre = true then some pre else none
  | k + 1, pre => (List.range L.length).findSome? fun (i : Nat) => if (i : Int) ∈ pre then none else goS L h k (pre ++ [(i : Int)])
theorem goS_none {L : List RqT} {h : Int} {k : Nat} {pre : List Int} (hn : ∀ i : Nat, i < L.length → (i : Int) ∉ pre → goS L h k (pre ++ [(i : Int)]) = none) : goS L h (k + 1) pre = none := by
  unfold goS
  rw [List.findSome?_eq_none_iff]
  intro i hi
  have h2 := List.mem_range.1 hi
  split
  · rfl
  · rename_i hm
    exact hn i h2 hm
theorem goS_some {L : List RqT} {h : Int} {k i : Nat} {pre o : List Int} (hi : i < L.length) (hno : ∀ g : Nat, g < i → (g : Int) ∉ pre → goS L h k (pre ++ [(g : Int)]) = none) (hm : (i : Int) ∉ pre) (hs : goS L h k (pre ++ [(i : Int)]) = some o) : goS L h (k + 1) pre = some o := by
  unfold goS
  refine find_range (f := i) (fun g hg => ?_) (by rw [if_neg hm]; exact hs) L.length hi
  split
  · rfl
  · rename_i hm'
    exact hno g hg hm'
/-- An order so far: places of the list, none twice. -/
def PreOk (n : Nat) (pre : List Int) : Prop := (∀ i ∈ pre, 0 ≤ i ∧ i < (n : Int)) ∧ pre.Nodup
theorem PreOk.nil (n : Nat) : PreOk n [] := ⟨fun _ h => (by cases h), List.nodup_nil⟩
theorem PreOk.snoc {n i : Nat} {pre : List Int} (h : PreOk n pre) (hi : i < n) (hm : (i : Int) ∉ pre) : PreOk n (pre ++ [(i : Int)]) := by
  refine ⟨fun x hx => ?_, ?_⟩
  · rcases List.mem_append.1 hx with hx | hx
    · exact h.1 x hx
    · simp at hx; omega
  · rw [List.nodup_append]
    refine ⟨h.2, by simp, fun a ha b hb => ?_⟩
    simp at hb
    intro e
    subst e; subst hb
    exact hm ha
theorem goS_len {L : List RqT} {h : Int} : ∀ {k : Nat} {pre o : List Int}, goS L h k pre = some o → o.length = pre.length + k := by
  intro k
  induction k with
  | zero =>
    intro pre o e
    unfold goS at e
    split at e
    · cases e; rfl
    · cases e
  | succ k ih =>
    intro pre o e
    unfold goS at e
    obtain ⟨i, _, hi⟩ := List.exists_of_findSome?_eq_some e
    split at hi
    · cases hi
    · have := ih hi
      simp at this; omega
def goF (n : Net) (L : List RqT) : List Int × Bool := if reqsB n L = true then (match exA L with | some r => (match goS L r.2 L.length [] with | some o => (o, true) | none => ([], false)) | none => ([], false)) else ([], false)
theorem goF_no {n : Net} {L : List RqT} (h : reqsB n L = false) : goF n L = ([], false) := by unfold goF; rw [if_neg (by simp [h])]
theorem goF_ex {n : Net} {L : List RqT} (h : reqsB n L = true) (h2 : exA L = none) : goF n L = ([], false) := by unfold goF; rw [if_pos h, h2]
theorem goF_out {n : Net} {L : List RqT} {r : List (Int × Int) × Int} (h : reqsB n L = true) (h2 : exA L = some r) (h3 : goS L r.2 L.length [] = none) : goF n L = ([], false) := by unfold goF; rw [if_pos h, h2]; simp only [h3]
theorem goF_yes {n : Net} {L : List RqT} {r : List (Int × Int) × Int} {o : List Int} (h : reqsB n L = true) (h2 : exA L = some r) (h3 : goS L r.2 L.length [] = some o) : goF n L = (o, true) := by unfold goF; rw [if_pos h, h2]; simp only [h3]
theorem goF_len (n : Net) (L : List RqT) : (goF n L).1.length ≤ 1048576 := by
  cases h : reqsB n L
  · rw [goF_no h]; simp
  · cases h2 : exA L with
    | none => rw [goF_ex h h2]; simp
    | some r =>
      cases h3 : goS L r.2 L.length [] with
      | none => rw [goF_out h h2 h3]; simp
      | some o =>
        rw [goF_yes h h2 h3]
        have := goS_len h3
        have h7 := (reqs_one h).2
        simp at this ⊢; omega
end Go.Proofs.YtmpdljcihiidaaaGreat
