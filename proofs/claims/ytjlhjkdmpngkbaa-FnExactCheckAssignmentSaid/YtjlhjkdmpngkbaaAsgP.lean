/- Plain laws: assignments of blocks to requests (no program in sight). -/
import Derived.Test.YtjlhjkdmpngkbaaKReq
import Derived.Test.YtjlhjkdmpngkbaaBits
import Derived.Test.YtjlhjkdmpngkbaaCom
namespace Go.Proofs.Ytjlhjkdmpngkbaa
open Go.RowKit

theorem uses_comm (a b : List Int) : usesB a b = usesB b a := by
  unfold usesB
  rw [Bool.eq_iff_iff, List.any_eq_true, List.any_eq_true]
  constructor
  · rintro ⟨x, hx, h⟩; exact ⟨x, by simpa using h, by simpa using hx⟩
  · rintro ⟨x, hx, h⟩; exact ⟨x, by simpa using h, by simpa using hx⟩
/-- Two requests conflict. -/
def confB (x y : (Int × List Int) × Int) : Bool := usesB x.1.2 y.1.2
theorem conf_comm (x y : (Int × List Int) × Int) : confB x y = confB y x := uses_comm _ _
/-- Request i and request k conflict. -/
def confAt (L : List ((Int × List Int) × Int)) (i k : Nat) : Bool := match L[i]?, L[k]? with | some x, some y => confB x y | _, _ => false
theorem confAt_comm (L : List ((Int × List Int) × Int)) (i k : Nat) : confAt L i k = confAt L k i := by
  unfold confAt
  cases L[i]? <;> cases L[k]? <;> simp [conf_comm]
theorem confAt_of {L : List ((Int × List Int) × Int)} {i k : Nat} {x y : (Int × List Int) × Int} (h : L[i]? = some x) (h2 : L[k]? = some y) : confAt L i k = confB x y := by unfold confAt; rw [h, h2]
/-- The mask of the block of a request (nothing where it has none). -/
def bmask (B : List (Int × Int)) (k : Nat) : Nat := match B[k]? with | some b => if 0 < b.2 then mkN b else 0 | none => 0
theorem bmask_of {B : List (Int × Int)} {k : Nat} {b : Int × Int} (h : B[k]? = some b) : bmask B k = if 0 < b.2 then mkN b else 0 := by unfold bmask; rw [h]
/-- The slots of the requests that conflict with one. -/
def takeStep (L : List ((Int × List Int) × Int)) (B : List (Int × Int)) (i : Nat) (a k : Nat) : Nat := if k ≠ i ∧ confAt L k i = true then a ||| bmask B k else a
def takenTo (L : List ((Int × List Int) × Int)) (B : List (Int × Int)) (i n : Nat) : Nat := (List.range n).foldl (takeStep L B i) 0
theorem takenTo_succ (L : List ((Int × List Int) × Int)) (B : List (Int × Int)) (i n : Nat) : takenTo L B i (n + 1) = takeStep L B i (takenTo L B i n) n := by unfold takenTo; rw [List.range_succ, List.foldl_append]; rfl
def BGood (B : List (Int × Int)) : Prop := ∀ b ∈ B, 0 < b.2 → goodB b.1 b.2 = true
theorem bmask_lt {B : List (Int × Int)} (h : BGood B) (k : Nat) : bmask B k < 16777216 := by
  unfold bmask
  split
  · next b hb =>
    split
    · next h2 => exact (mkN_ok (h b (List.mem_of_getElem? hb) h2)).2.2
    · omega
  · omega
theorem taken_lt {L : List ((Int × List Int) × Int)} {B : List (Int × Int)} (h : BGood B) (i n : Nat) : takenTo L B i n < 16777216 := by
  induction n with
  | zero => simp [takenTo]
  | succ n ih =>
    rw [takenTo_succ]; unfold takeStep
    split
    · exact or24 ih (bmask_lt h n)
    · exact ih
theorem taken_and (L : List ((Int × List Int) × Int)) (B : List (Int × Int)) (i m : Nat) : ∀ n, (takenTo L B i n &&& m = 0 ↔ ∀ k, k < n → k ≠ i → confAt L k i = true → bmask B k &&& m = 0) := by
  intro n
  induction n with
  | zero => simp [takenTo]
  | succ n ih =>
    rw [takenTo_succ]; unfold takeStep
    by_cases hc : n ≠ i ∧ confAt L n i = true
    · rw [if_pos hc, Nat.and_comm, Nat.and_or_distrib_left, Nat.or_eq_zero_iff, Nat.and_comm m, Nat.and_comm m, ih]
      constructor
      · rintro ⟨h1, h2⟩ k hk hki hck
        rcases Nat.lt_or_ge k n with h | h
        · exact h1 k h hki hck
        · have : k = n := by omega
          subst this; exact h2
      · intro h
        exact ⟨fun k hk => h k (by omega), h n (by omega) hc.1 hc.2⟩
    · rw [if_neg hc, ih]
      constructor
      · intro h k hk hki hck
        rcases Nat.lt_or_ge k n with h' | h'
        · exact h k h' hki hck
        · have : k = n := by omega
          subst this; exact absurd ⟨hki, hck⟩ hc
      · intro h k hk; exact h k (by omega)
/-- Block k is valid and fits its request. -/
def fitAt (L : List ((Int × List Int) × Int)) (B : List (Int × Int)) (k : Nat) : Bool := match B[k]?, L[k]? with | some b, some x => goodB b.1 b.2 && decide (b.2 = x.2) | _, _ => false
/-- No slot of a block is one of a treated request's that conflicts with request i. -/
def freeB (L : List ((Int × List Int) × Int)) (B : List (Int × Int)) (i : Nat) (b : Int × Int) (T : Nat → Bool) : Bool :=
  (List.range L.length).all fun k => !(decide (k ≠ i) && T k && confAt L i k && decide (mkN b &&& bmask B k ≠ 0))
def asgB (L : List ((Int × List Int) × Int)) (B : List (Int × Int)) : Bool :=
  decide (B.length = L.length) && (List.range L.length).all fun i => fitAt L B i && freeB L B i (B.getD i (0, 0)) fun k => decide (k < i)
theorem fit_good {L : List ((Int × List Int) × Int)} {B : List (Int × Int)} {k : Nat} (h : fitAt L B k = true) : ∃ b x, B[k]? = some b ∧ L[k]? = some x ∧ goodB b.1 b.2 = true ∧ b.2 = x.2 := by
  unfold fitAt at h
  cases hb : B[k]? with
  | none => rw [hb] at h; simp at h
  | some b =>
    cases hx : L[k]? with
    | none => rw [hb, hx] at h; simp at h
    | some x =>
      rw [hb, hx] at h
      simp only [Bool.and_eq_true, decide_eq_true_eq] at h
      exact ⟨b, x, rfl, rfl, h.1, h.2⟩
theorem good_pos {f c : Int} (h : goodB f c = true) : 0 < c := by obtain ⟨_, h2, _⟩ := goodB_iff.1 h; omega
/-- The reference's view: all blocks fit, and no block meets what the others have taken. -/
theorem asg_spec {L : List ((Int × List Int) × Int)} {B : List (Int × Int)} (hl : B.length = L.length) (hf : ∀ k, k < L.length → fitAt L B k = true) :
    asgB L B = true ↔ ∀ i, i < L.length → takenTo L B i L.length &&& bmask B i = 0 := by
  have hb : ∀ k, k < L.length → ∃ b, B[k]? = some b ∧ bmask B k = mkN b ∧ B.getD k (0, 0) = b := by
    intro k hk
    obtain ⟨b, x, h1, _, h3, _⟩ := fit_good (hf k hk)
    exact ⟨b, h1, by rw [bmask_of h1, if_pos (good_pos h3)], by rw [List.getD_eq_getElem?_getD, h1]; rfl⟩
  unfold asgB
  simp only [Bool.and_eq_true, decide_eq_true_eq, List.all_eq_true, List.mem_range, hl, true_and]
  constructor
  · intro h i hi
    rw [taken_and]
    intro k hk hki hc
    obtain ⟨bi, g1, g2, g3⟩ := hb i hi
    obtain ⟨bk, f1, f2, f3⟩ := hb k hk
    rcases Nat.lt_or_ge k i with hlt | hge
    · have h1 := (h i hi).2
      unfold freeB at h1
      rw [List.all_eq_true] at h1
      have h2 := h1 k (List.mem_range.2 hk)
      rw [g3] at h2
      rw [confAt_comm] at hc
      simp only [hc, hlt, decide_true, Bool.and_true, hki, ne_eq, not_false_eq_true, Bool.true_and, Bool.not_eq_true', decide_eq_false_iff_not, Decidable.not_not] at h2
      rw [g2, Nat.and_comm]; exact h2
    · have hlt : i < k := by omega
      have h1 := (h k hk).2
      unfold freeB at h1
      rw [List.all_eq_true] at h1
      have h2 := h1 i (List.mem_range.2 hi)
      rw [f3] at h2
      have hik : i ≠ k := by omega
      simp only [hc, hlt, decide_true, Bool.and_true, hik, ne_eq, not_false_eq_true, Bool.true_and, Bool.not_eq_true', decide_eq_false_iff_not, Decidable.not_not] at h2
      rw [f2]; exact h2
  · intro h i hi
    refine ⟨hf i hi, ?_⟩
    unfold freeB
    rw [List.all_eq_true]
    intro k hk
    rw [List.mem_range] at hk
    obtain ⟨bi, g1, g2, g3⟩ := hb i hi
    by_cases hki : k = i
    · simp [hki]
    · cases hc : confAt L i k
      · simp
      · have h1 := (taken_and L B i (bmask B i) L.length).1 (h i hi) k hk hki (by rw [confAt_comm]; exact hc)
        rw [g2, Nat.and_comm] at h1
        rw [g3]
        simp [h1]
theorem asg_good {L : List ((Int × List Int) × Int)} {B : List (Int × Int)} (h : asgB L B = true) : ∀ b ∈ B, goodB b.1 b.2 = true := by
  intro b hb
  unfold asgB at h
  simp only [Bool.and_eq_true, decide_eq_true_eq, List.all_eq_true, List.mem_range] at h
  obtain ⟨j, hj, rfl⟩ := List.getElem_of_mem hb
  obtain ⟨b', x', h1, _, h3, _⟩ := fit_good (h.2 j (by omega)).1
  rw [List.getElem?_eq_getElem hj] at h1
  cases h1; exact h3
/-- The height of blocks. -/
def heightTo (B : List (Int × Int)) : Int := B.foldl (fun a b => max a (b.1 + b.2)) 0
theorem height_step {B : List (Int × Int)} {k : Nat} {b : Int × Int} (h : B[k]? = some b) : heightTo (B.take (k + 1)) = max (heightTo (B.take k)) (b.1 + b.2) := by
  unfold heightTo; rw [List.take_add_one, h]; simp
def chkF (n : Net) (L : List ((Int × List Int) × Int)) (B : List (Int × Int)) : Int × Bool := if reqsB n L = true ∧ asgB L B = true then (heightTo B, true) else (0, false)
end Go.Proofs.Ytjlhjkdmpngkbaa
