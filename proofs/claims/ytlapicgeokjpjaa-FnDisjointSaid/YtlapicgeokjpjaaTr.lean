/- Contracts: a first route with no partner, both sides. -/
import Derived.Test.YtlapicgeokjpjaaCt2
namespace Go.Proofs.Ytlapicgeokjpjaa
open Go.RowKit Go.PlainAid

def rtV : Option LR → Value
  | some y => .agg #[.int .i64 y.start, .slice y.q y.fibs.length y.cap]
  | none => .agg #[.int .i64 0, .slice none 0 0]
theorem rtV_shape (o : Option LR) : ∃ a q m c, rtV o = .agg #[.int .i64 a, .slice q m c] := by
  cases o with
  | none => exact ⟨_, _, _, _, rfl⟩
  | some y => exact ⟨_, _, _, _, rfl⟩
theorem find_at {α : Type} {l : List α} {P : α → Bool} {j : Nat} {x : α} (h : ∀ m y, m < j → l[m]? = some y → P y = false) (hx : l[j]? = some x) (hp : P x = true) : l.find? P = some x := by
  induction l generalizing j with
  | nil => simp at hx
  | cons a l ih =>
    cases j with
    | zero =>
      simp only [List.getElem?_cons_zero, Option.some.injEq] at hx
      subst hx
      exact List.find?_cons_of_pos hp
    | succ j =>
      rw [List.find?_cons_of_neg (by rw [h 0 a (by omega) rfl]; simp)]
      exact ih (j := j) (fun m y hm hy => h (m + 1) y (by omega) (by simpa using hy)) (by simpa using hx)
theorem find_no {α : Type} {l : List α} {P : α → Bool} (h : ∀ m y, m < l.length → l[m]? = some y → P y = false) : l.find? P = none := by
  rw [List.find?_eq_none]
  intro x hx
  obtain ⟨m, hm⟩ := List.getElem?_of_mem hx
  rw [h m x (List.getElem?_eq_some_iff.1 hm).1 hm]; simp
def firstP : List (Nat × Nat) → Bool
  | [] => false
  | x :: _ => decide (0 < x.1)
theorem mem_toI {d : Nat → Nat → Bool} {N i : Nat} {x : Nat × Nat} : x ∈ toI d N i ↔ x.1 < i ∧ x.1 < x.2 ∧ x.2 < N ∧ d x.1 x.2 = true := by
  unfold toI rowI
  simp only [List.mem_flatMap, List.mem_range, List.mem_map, List.mem_filter, Bool.and_eq_true, decide_eq_true_eq]
  constructor
  · rintro ⟨m, h1, k, ⟨h2, h3, h4⟩, rfl⟩
    exact ⟨h1, h3, h2, h4⟩
  · rintro ⟨h1, h2, h3, h4⟩
    exact ⟨x.1, h1, x.2, ⟨h3, h2, h4⟩, rfl⟩
theorem toI_head (d : Nat → Nat → Bool) {N i : Nat} (h : 0 < i) : ∃ r, toI d N i = rowI d 0 N ++ r := by
  unfold toI
  obtain ⟨i, rfl⟩ : ∃ k, i = k + 1 := ⟨i - 1, by omega⟩
  rw [List.range_succ_eq_map, List.flatMap_cons]
  exact ⟨_, rfl⟩
theorem trap_law {d : Nat → Nat → Bool} {N : Nat} (h0 : d 0 0 = false) (hne : toI d N N ≠ []) : firstP (toI d N N) = !((List.range N).any fun k => d 0 k) := by
  have hN : 0 < N := by
    rcases Nat.eq_zero_or_pos N with h | h
    · subst h; exact absurd rfl hne
    · exact h
  cases ha : (List.range N).any fun k => d 0 k
  · match hL : toI d N N, hne with
    | x :: r, _ =>
      have hx : x ∈ toI d N N := by rw [hL]; simp
      obtain ⟨h1, h2, h3, h4⟩ := mem_toI.1 hx
      unfold firstP
      rw [Bool.not_false, decide_eq_true_eq]
      rcases Nat.eq_zero_or_pos x.1 with h5 | h5
      · rw [List.any_eq_false] at ha
        rw [h5] at h4
        exact absurd h4 (ha x.2 (List.mem_range.2 h3))
      · exact h5
  · rw [List.any_eq_true] at ha
    obtain ⟨k, hk, hd⟩ := ha
    have hkN := List.mem_range.1 hk
    have hk0 : 0 < k := by
      rcases Nat.eq_zero_or_pos k with h | h
      · subst h; rw [h0] at hd; cases hd
      · exact h
    obtain ⟨r, hr⟩ := toI_head d (N := N) hN
    have hm : (0, k) ∈ rowI d 0 N := by
      unfold rowI
      exact List.mem_map.2 ⟨k, List.mem_filter.2 ⟨hk, by simp [hk0, hd]⟩, rfl⟩
    have hz : ∀ y ∈ rowI d 0 N, y.1 = 0 := by
      intro y hy
      unfold rowI at hy
      obtain ⟨m, _, rfl⟩ := List.mem_map.1 hy
      rfl
    rw [hr]
    match hL : rowI d 0 N, hm with
    | x :: r', _ =>
      have := hz x (by rw [hL]; simp)
      simp [firstP, this]
theorem disj_self {n : Net} {s t k : Int} {a : List Int} (h : RtGood n s t a) : disjB n s a a k = false := by
  obtain ⟨x, hx⟩ := List.exists_mem_of_ne_nil a h.1
  unfold disjB
  split
  · unfold apartF
    rw [Bool.not_eq_false', List.any_eq_true]
    exact ⟨x, hx, List.any_eq_true.2 ⟨x, hx, by simp [sameG]⟩⟩
  · have : usesB a a = true := by
      unfold usesB
      rw [List.any_eq_true]
      exact ⟨x, hx, by simpa using hx⟩
    rw [this]; rfl
theorem find_row {n : Net} {s k : Int} {l : List LR} {x : LR} (hx : l[0]? = some x) : (l.find? fun y => disjB n s x.fibs y.fibs k).isSome = (List.range l.length).any fun m => dP n s (l.map LR.val) k 0 m := by
  rw [Bool.eq_iff_iff, List.find?_isSome, List.any_eq_true]
  constructor
  · rintro ⟨y, hy, hd⟩
    obtain ⟨m, hm⟩ := List.getElem?_of_mem hy
    exact ⟨m, List.mem_range.2 (List.getElem?_eq_some_iff.1 hm).1, by rw [dP_at hx hm]; exact hd⟩
  · rintro ⟨m, hm, hd⟩
    have hlt := List.mem_range.1 hm
    have hm' : l[m]? = some l[m] := List.getElem?_eq_getElem hlt
    rw [dP_at hx hm'] at hd
    exact ⟨l[m], List.getElem_mem hlt, hd⟩
def trapF (n : Net) (s t k : Int) : Bool × Bool := if okK n s t k then (firstP (pairsF n s t k), true) else (false, false)
end Go.Proofs.Ytlapicgeokjpjaa
