/- Plain: texts in parts between bytes (no program in sight). -/
import Derived.Lib.SplitLaws
import Derived.Lib.IndexMore
namespace Go.Proofs.YtjhaoonacjebpaaGreatDoor

/-- The parts of a text between the bytes c. -/
def splitC (c : UInt8) : List UInt8 → List (List UInt8)
  | [] => [[]]
  | b :: r => if b = c then [] :: splitC c r else match splitC c r with
    | h :: t => (b :: h) :: t
    | [] => [[b]]
def joinC (c : UInt8) : List (List UInt8) → List UInt8
  | [] => []
  | [x] => x
  | x :: y :: t => x ++ c :: joinC c (y :: t)
theorem splitC_ne (c : UInt8) : ∀ l, splitC c l ≠ []
  | [] => by simp [splitC]
  | b :: r => by
    unfold splitC
    split
    · simp
    · split <;> simp
theorem splitC_none {c : UInt8} : ∀ {x : List UInt8}, c ∉ x → splitC c x = [x]
  | [], _ => rfl
  | b :: r, h => by
    have h1 : b ≠ c := fun e => h (by rw [e]; simp)
    rw [splitC, if_neg h1, splitC_none (fun e => h (List.mem_cons_of_mem _ e))]
theorem splitC_app {c : UInt8} : ∀ {x : List UInt8} {y : List UInt8}, c ∉ x → splitC c (x ++ c :: y) = x :: splitC c y
  | [], y, _ => by rw [List.nil_append, splitC, if_pos rfl]
  | b :: r, y, h => by
    have h1 : b ≠ c := fun e => h (by rw [e]; simp)
    rw [List.cons_append, splitC, if_neg h1, splitC_app (fun e => h (List.mem_cons_of_mem _ e))]
theorem joinC_cons (c : UInt8) (x : List UInt8) {t : List (List UInt8)} (h : t ≠ []) : joinC c (x :: t) = x ++ c :: joinC c t := by
  cases t with
  | nil => exact absurd rfl h
  | cons y t => rfl
theorem split_first {c : UInt8} : ∀ {l : List UInt8}, c ∈ l → ∃ x y, l = x ++ c :: y ∧ c ∉ x
  | [], h => by simp at h
  | b :: r, h => by
    by_cases e : b = c
    · exact ⟨[], r, by rw [e]; rfl, by simp⟩
    · have : c ∈ r := by rcases List.mem_cons.1 h with h | h; exact absurd h.symm e; exact h
      obtain ⟨x, y, h1, h2⟩ := split_first this
      exact ⟨b :: x, y, by rw [h1]; rfl, by simp [Ne.symm e, h2]⟩
theorem joinC_split (c : UInt8) : ∀ (n : Nat) (l : List UInt8), l.length ≤ n → joinC c (splitC c l) = l
  | 0, l, h => by
    have : l = [] := List.eq_nil_of_length_eq_zero (by omega)
    subst this; rfl
  | n + 1, l, h => by
    by_cases hc : c ∈ l
    · obtain ⟨x, y, h1, h2⟩ := split_first hc
      rw [h1, splitC_app h2, joinC_cons c x (splitC_ne c y), joinC_split c n y (by rw [h1] at h; simp at h; omega)]
    · rw [splitC_none hc]; rfl
theorem splitC_free (c : UInt8) : ∀ (n : Nat) (l : List UInt8), l.length ≤ n → ∀ p ∈ splitC c l, c ∉ p
  | 0, l, h => by
    have : l = [] := List.eq_nil_of_length_eq_zero (by omega)
    subst this; simp [splitC]
  | n + 1, l, h => by
    by_cases hc : c ∈ l
    · obtain ⟨x, y, h1, h2⟩ := split_first hc
      rw [h1, splitC_app h2]
      intro p hp
      rcases List.mem_cons.1 hp with rfl | hp
      · exact h2
      · exact splitC_free c n y (by rw [h1] at h; simp at h; omega) p hp
    · rw [splitC_none hc]
      intro p hp
      simp at hp; subst hp; exact hc
theorem splitC_joinC {c : UInt8} : ∀ {ps : List (List UInt8)}, ps ≠ [] → (∀ p ∈ ps, c ∉ p) → splitC c (joinC c ps) = ps
  | [], h, _ => absurd rfl h
  | [x], _, h => splitC_none (h x (by simp))
  | x :: y :: t, _, h => by
    rw [joinC_cons c x (by simp), splitC_app (h x (by simp)), splitC_joinC (by simp) (fun p hp => h p (List.mem_cons_of_mem _ hp))]
theorem occ_one {s : List UInt8} {c : UInt8} {i : Nat} : Lib.occAt s [c] i = decide (s[i]? = some c) := by
  unfold Lib.occAt
  cases h : s.drop i with
  | nil =>
    have : s[i]? = none := by rw [List.getElem?_eq_none_iff]; exact List.drop_eq_nil_iff.1 h
    rw [this]; rfl
  | cons b r =>
    have : s[i]? = some b := by
      have := congrArg List.head? h
      rw [List.head?_drop] at this; exact this
    rw [this]
    simp only [List.isPrefixOf, Bool.and_true, Option.some.injEq]
    by_cases e : c = b
    · subst e; simp
    · simp [e, Ne.symm e]
theorem index_one_hit {c : UInt8} {x y : List UInt8} (h : c ∉ x) : Lib.index (x ++ c :: y) [c] = (x.length : Int) := by
  refine Lib.index_first (by simp) ?_ ?_
  · rw [occ_one]; simp
  · intro j hj
    rw [occ_one, List.getElem?_append_left hj]
    simp only [decide_eq_false_iff_not]
    exact fun e => h (List.mem_of_getElem? e)
theorem index_one_miss {c : UInt8} {s : List UInt8} (h : c ∉ s) : Lib.index s [c] = -1 := by
  rcases Lib.index_spec s [c] with ⟨h1, _⟩ | ⟨i, _, _, h3, _⟩
  · exact h1
  · rw [occ_one] at h3
    exact absurd (List.mem_of_getElem? (of_decide_eq_true h3)) h
theorem split_eq (c : UInt8) : ∀ (n : Nat) (s : List UInt8), s.length ≤ n → Lib.split s [c] = splitC c s
  | 0, s, h => by
    have : s = [] := List.eq_nil_of_length_eq_zero (by omega)
    subst this
    unfold Lib.split
    rw [Lib.count_miss (by simp [Lib.index])]; rfl
  | n + 1, s, h => by
    by_cases hc : c ∈ s
    · obtain ⟨x, y, h1, h2⟩ := split_first hc
      have hi : Lib.index s [c] = (x.length : Int) := by rw [h1]; exact index_one_hit h2
      have hd : s.drop (x.length + [c].length) = y := by rw [h1]; simp
      unfold Lib.split
      rw [Lib.count_hit (by simp) hi, hd, Nat.add_comm]
      unfold Lib.splitK
      rw [if_neg (by rw [hi, beq_iff_eq]; omega), hi]
      have ht : s.take ((x.length : Int).toNat + 0) = x := by rw [h1]; simp
      have hd2 : s.drop ((x.length : Int).toNat + [c].length) = y := by rw [h1]; simp
      rw [ht, hd2]
      have := split_eq c n y (by rw [h1] at h; simp at h; omega)
      unfold Lib.split at this
      rw [this, h1, splitC_app h2]
    · unfold Lib.split
      rw [Lib.count_miss (index_one_miss hc), splitC_none hc]; rfl
theorem cut_hit {c : UInt8} {x y : List UInt8} (h : c ∉ x) : Lib.cut (x ++ c :: y) [c] = (x, y, true) := by
  unfold Lib.cut
  rw [index_one_hit h, if_pos (by omega)]
  simp
theorem cut_miss {c : UInt8} {s : List UInt8} (h : c ∉ s) : Lib.cut s [c] = (s, [], false) := by
  unfold Lib.cut
  rw [index_one_miss h, if_neg (by omega)]
end Go.Proofs.YtjhaoonacjebpaaGreatDoor
