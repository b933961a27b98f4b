/- Plain: all routes between two nodes, found depth first, put in their order. -/
import Derived.Test.YteckjlkhopkogaaGreatU3
namespace Go.Proofs.YteckjlkhopkogaaGreat
open Go.RowKit

/-- A comparison of things. -/
structure CmpOk {α : Type} (c : α → α → Int) : Prop where
  sw : ∀ a b, c a b < 0 ↔ 0 < c b a
  tr : ∀ a b x, c a b ≤ 0 → c b x ≤ 0 → c a x ≤ 0
theorem CmpOk.zero {α : Type} {c : α → α → Int} (h : CmpOk c) {a b : α} (e : c a b = 0) : c b a = 0 := by
  have h1 := h.sw a b; have h2 := h.sw b a; omega
theorem cmpI_ok : CmpOk cmpI := ⟨fun a b => by unfold cmpI; split <;> split <;> (try split) <;> omega, fun a b x => by unfold cmpI; split <;> split <;> (try split) <;> (try split) <;> (try split) <;> omega⟩
theorem CmpOk.on {α β : Type} {c : α → α → Int} (h : CmpOk c) (f : β → α) : CmpOk fun x y => c (f x) (f y) := ⟨fun _a _b => h.sw _ _, fun _a _b _x => h.tr _ _ _⟩
def orC {α : Type} (c d : α → α → Int) (a b : α) : Int := if c a b ≠ 0 then c a b else d a b
theorem CmpOk.both {α : Type} {c d : α → α → Int} (h : CmpOk c) (k : CmpOk d) : CmpOk (orC c d) := by
  refine ⟨fun a b => ?_, fun a b x h1 h2 => ?_⟩
  · have a1 := h.sw a b; have a2 := h.sw b a; have a3 := k.sw a b
    unfold orC
    split <;> split <;> omega
  · unfold orC at *
    have s1 := h.sw a b; have s2 := h.sw b a; have s3 := h.sw b x; have s4 := h.sw x b; have s5 := h.sw a x; have s6 := h.sw x a
    have t1 := h.tr a b x; have t2 := h.tr b x a; have t3 := h.tr x a b
    have u1 := k.tr a b x
    split at h1 <;> split at h2 <;> split <;> omega
def lexC : List Int → List Int → Int
  | [], [] => 0
  | [], _ :: _ => -1
  | _ :: _, [] => 1
  | x :: a, y :: b => if cmpI x y ≠ 0 then cmpI x y else lexC a b
theorem lexC_ok : CmpOk lexC := by
  refine ⟨?_, ?_⟩
  · intro a
    induction a with
    | nil => intro b; cases b <;> simp [lexC]
    | cons x a ih =>
      intro b
      cases b with
      | nil => simp [lexC]
      | cons y b =>
        have a1 := cmpI_ok.sw x y; have a2 := cmpI_ok.sw y x; have a3 := ih b
        simp only [lexC]
        split <;> split <;> omega
  · intro a
    induction a with
    | nil => intro b x h1 h2; cases b <;> cases x <;> simp [lexC] at *
    | cons p a ih =>
      intro b x h1 h2
      cases b with
      | nil => simp [lexC] at h1
      | cons q b =>
        cases x with
        | nil => simp [lexC] at h2
        | cons r x =>
          have h := cmpI_ok
          have s1 := h.sw p q; have s2 := h.sw q p; have s3 := h.sw q r; have s4 := h.sw r q; have s5 := h.sw p r; have s6 := h.sw r p
          have t1 := h.tr p q r; have t2 := h.tr q r p; have t3 := h.tr r p q
          have u1 := ih b x
          simp only [lexC] at *
          split at h1 <;> split at h2 <;> split <;> omega
theorem lexC_eq : ∀ {a b : List Int}, lexC a b = 0 → a = b
  | [], [], _ => rfl
  | [], _ :: _, h => by simp [lexC] at h
  | _ :: _, [], h => by simp [lexC] at h
  | x :: a, y :: b, h => by
    simp only [lexC] at h
    by_cases e : cmpI x y = 0
    · rw [if_neg (by simp [e])] at h
      rw [lexC_eq h]
      have : x = y := by unfold cmpI at e; split at e <;> (try split at e) <;> omega
      rw [this]
    · rw [if_pos e] at h; exact absurd h e
def ltC {α : Type} (c : α → α → Int) (a b : α) : Bool := decide (c a b < 0)
theorem CmpOk.asym {α : Type} {c : α → α → Int} (h : CmpOk c) : ∀ a b, ltC c a b = true → ltC c b a = false := by
  intro a b; have h1 := h.sw a b; have h2 := h.sw b a; simp only [ltC, decide_eq_true_eq, decide_eq_false_iff_not]; omega
theorem CmpOk.trn {α : Type} {c : α → α → Int} (h : CmpOk c) : ∀ a b x, ltC c b a = false → ltC c x b = false → ltC c x a = false := by
  intro a b x
  have h1 := h.sw a b; have h2 := h.sw b a; have h3 := h.sw b x; have h4 := h.sw x b; have h5 := h.sw a x; have h6 := h.sw x a
  have t := h.tr a b x
  simp only [ltC, decide_eq_false_iff_not]; omega
theorem CmpOk.par {α : Type} {c : α → α → Int} (h : CmpOk c) (he : ∀ a b, c a b = 0 → a = b) : ∀ a b, ltC c a b = false → ltC c b a = false → a = b := by
  intro a b
  have h1 := h.sw a b; have h2 := h.sw b a
  simp only [ltC, decide_eq_false_iff_not]
  intro n1 n2; exact he a b (by omega)
def keepTo {α : Type} (put : List α → α → List α) (m : Nat) (acc : List α) (L : List α) : List α := L.foldl (fun a x => if a.length ≤ m then put a x else a) acc
theorem keepTo_nil {α : Type} (put : List α → α → List α) (m : Nat) (acc : List α) : keepTo put m acc [] = acc := rfl
theorem keepTo_cons {α : Type} (put : List α → α → List α) (m : Nat) (acc : List α) (x : α) (L : List α) : keepTo put m acc (x :: L) = keepTo put m (if acc.length ≤ m then put acc x else acc) L := rfl
theorem keepTo_app {α : Type} (put : List α → α → List α) (m : Nat) (acc L M : List α) : keepTo put m acc (L ++ M) = keepTo put m (keepTo put m acc L) M := by unfold keepTo; rw [List.foldl_append]
theorem keepTo_full {α : Type} {put : List α → α → List α} {m : Nat} {acc : List α} (h : ¬ acc.length ≤ m) (L : List α) : keepTo put m acc L = acc := by
  induction L with
  | nil => rfl
  | cons x L ih => rw [keepTo_cons, if_neg h, ih]
theorem keepTo_len {α : Type} {put : List α → α → List α} (hp : ∀ a x, (put a x).length = a.length + 1) {m : Nat} : ∀ (L acc : List α), acc.length ≤ m + 1 → (keepTo put m acc L).length = min (acc.length + L.length) (m + 1) := by
  intro L
  induction L with
  | nil => intro acc h; rw [keepTo_nil]; simp; omega
  | cons x L ih =>
    intro acc h
    rw [keepTo_cons]
    by_cases h2 : acc.length ≤ m
    · rw [if_pos h2, ih _ (by rw [hp]; omega), hp]; simp; omega
    · rw [if_neg h2, keepTo_full h2]; simp; omega
theorem keepTo_all {α : Type} {put : List α → α → List α} (hp : ∀ a x, (put a x).length = a.length + 1) {m : Nat} : ∀ (L acc : List α), acc.length + L.length ≤ m + 1 → keepTo put m acc L = L.foldl put acc := by
  intro L
  induction L with
  | nil => intro acc h; rfl
  | cons x L ih =>
    intro acc h
    simp only [List.length_cons] at h
    rw [keepTo_cons, if_pos (by omega), ih _ (by rw [hp]; omega)]; rfl

/-- Where a search from behind stops. -/
def placeN {α : Type} (lt : α → α → Bool) (l : List α) (x : α) : Nat → Nat
  | 0 => 0
  | i + 1 => match l[i]? with
    | some y => if lt x y then placeN lt l x i else i + 1
    | none => i + 1
theorem placeN_le {α : Type} (lt : α → α → Bool) (l : List α) (x : α) : ∀ i, placeN lt l x i ≤ i
  | 0 => Nat.le_refl _
  | i + 1 => by
    unfold placeN
    split
    · split
      · have := placeN_le lt l x i; omega
      · omega
    · omega
theorem placeN_go {α : Type} {lt : α → α → Bool} {l : List α} {x y : α} {i : Nat} (hy : l[i]? = some y) (h : lt x y = true) : placeN lt l x (i + 1) = placeN lt l x i := by rw [placeN, hy]; simp [h]
theorem placeN_stop {α : Type} {lt : α → α → Bool} {l : List α} {x y : α} {i : Nat} (hy : l[i]? = some y) (h : lt x y = false) : placeN lt l x (i + 1) = i + 1 := by rw [placeN, hy]; simp [h]
theorem placeN_above {α : Type} {lt : α → α → Bool} {l : List α} {x : α} : ∀ {i j : Nat} {y : α}, placeN lt l x i ≤ j → j < i → l[j]? = some y → lt x y = true
  | 0, j, y, _, h, _ => by omega
  | i + 1, j, y, h1, h2, hy => by
    cases hi : l[i]? with
    | none => rw [placeN, hi] at h1; simp at h1; omega
    | some z =>
      cases hz : lt x z
      · rw [placeN_stop hi hz] at h1; omega
      · rw [placeN_go hi hz] at h1
        rcases Nat.lt_or_ge j i with h | h
        · exact placeN_above h1 h hy
        · obtain rfl : j = i := by omega
          rw [hi] at hy; cases hy; exact hz
theorem placeN_below {α : Type} {lt : α → α → Bool} {l : List α} {x : α} : ∀ {i : Nat} {y : α}, 0 < placeN lt l x i → i ≤ l.length → l[placeN lt l x i - 1]? = some y → lt x y = false
  | 0, y, h, _, _ => by simp [placeN] at h
  | i + 1, y, h, hn, hy => by
    cases hi : l[i]? with
    | none => have := List.getElem?_eq_none_iff.1 hi; omega
    | some z =>
      cases hz : lt x z
      · rw [placeN_stop hi hz] at hy
        simp only [Nat.add_sub_cancel] at hy
        rw [hi] at hy; cases hy; exact hz
      · rw [placeN_go hi hz] at h hy
        exact placeN_below h (by omega) hy
def putL {α : Type} (lt : α → α → Bool) (l : List α) (x : α) : List α := l.take (placeN lt l x l.length) ++ x :: l.drop (placeN lt l x l.length)
theorem putL_len {α : Type} (lt : α → α → Bool) (l : List α) (x : α) : (putL lt l x).length = l.length + 1 := by
  have := placeN_le lt l x l.length
  unfold putL; simp; omega
theorem putL_perm {α : Type} (lt : α → α → Bool) (l : List α) (x : α) : (putL lt l x).Perm (x :: l) := by
  unfold putL
  refine List.perm_middle.trans ?_
  rw [List.take_append_drop]
theorem putL_sorted {α : Type} {lt : α → α → Bool} (h : ∀ a b, lt a b = true → lt b a = false) (ht : ∀ a b c, lt b a = false → lt c b = false → lt c a = false) {l : List α} (hl : l.Pairwise fun a b => lt b a = false) (x : α) : (putL lt l x).Pairwise fun a b => lt b a = false := by
  unfold putL
  rw [List.pairwise_append]
  refine ⟨hl.sublist (List.take_sublist _ _), ?_, ?_⟩
  · rw [List.pairwise_cons]
    refine ⟨fun y hy => ?_, hl.sublist (List.drop_sublist _ _)⟩
    obtain ⟨j, hj⟩ := List.getElem?_of_mem hy
    rw [List.getElem?_drop] at hj
    have hlt : placeN lt l x l.length + j < l.length := (List.getElem?_eq_some_iff.1 hj).1
    exact h _ _ (placeN_above (i := l.length) (Nat.le_add_right _ j) hlt hj)
  · intro a ha b hb
    have hp := placeN_le lt l x l.length
    obtain ⟨j, hj⟩ := List.getElem?_of_mem ha
    rw [List.getElem?_take] at hj
    split at hj
    · next hjp =>
      have hax : lt x a = false := by
        have hlast : ∃ z, l[placeN lt l x l.length - 1]? = some z := ⟨_, List.getElem?_eq_getElem (by omega)⟩
        obtain ⟨z, hz⟩ := hlast
        have hxz := placeN_below (by omega) (Nat.le_refl _) hz
        rcases Nat.lt_or_ge j (placeN lt l x l.length - 1) with h1 | h1
        · have hza : lt z a = false := by
            have := List.pairwise_iff_getElem.1 hl j (placeN lt l x l.length - 1) (by omega) (by omega) h1
            obtain ⟨_, ej⟩ := List.getElem?_eq_some_iff.1 hj
            obtain ⟨_, ez⟩ := List.getElem?_eq_some_iff.1 hz
            rw [ej, ez] at this; exact this
          exact ht _ _ _ hza hxz
        · obtain rfl : j = placeN lt l x l.length - 1 := by omega
          rw [hj] at hz; cases hz; exact hxz
      rcases List.mem_cons.1 hb with rfl | hb
      · exact hax
      · obtain ⟨i, hi⟩ := List.getElem?_of_mem hb
        rw [List.getElem?_drop] at hi
        have hlt : placeN lt l x l.length + i < l.length := (List.getElem?_eq_some_iff.1 hi).1
        have := List.pairwise_iff_getElem.1 hl j (placeN lt l x l.length + i) (by omega) hlt (by omega)
        obtain ⟨_, ej⟩ := List.getElem?_eq_some_iff.1 hj
        obtain ⟨_, ei⟩ := List.getElem?_eq_some_iff.1 hi
        rw [ej, ei] at this; exact this
    · cases hj
theorem foldl_putL {α : Type} {lt : α → α → Bool} (h : ∀ a b, lt a b = true → lt b a = false) (ht : ∀ a b c, lt b a = false → lt c b = false → lt c a = false) : ∀ (L acc : List α), (acc.Pairwise fun a b => lt b a = false) → (L.foldl (putL lt) acc).Pairwise (fun a b => lt b a = false) ∧ (L.foldl (putL lt) acc).Perm (L ++ acc) := by
  intro L
  induction L with
  | nil => intro acc ha; exact ⟨ha, List.Perm.refl _⟩
  | cons x L ih =>
    intro acc ha
    obtain ⟨h1, h2⟩ := ih (putL lt acc x) (putL_sorted h ht ha x)
    refine ⟨h1, h2.trans ?_⟩
    exact (List.Perm.append_left L (putL_perm lt acc x)).trans List.perm_middle
theorem foldl_putL_sort {α : Type} {lt : α → α → Bool} (h : ∀ a b, lt a b = true → lt b a = false) (ht : ∀ a b c, lt b a = false → lt c b = false → lt c a = false) (he : ∀ a b, lt a b = false → lt b a = false → a = b) (L : List α) :
    L.foldl (putL lt) [] = L.mergeSort fun x y => !lt y x := by
  obtain ⟨h1, h2⟩ := foldl_putL h ht L [] List.Pairwise.nil
  rw [List.append_nil] at h2
  have h3 := List.pairwise_mergeSort (le := fun x y => !lt y x) (fun a b c h1 h2 => by simp only [Bool.not_eq_true'] at *; exact ht a b c h1 h2) (fun a b => by
    cases e : lt b a
    · simp
    · simp [h _ _ e]) L
  refine List.Perm.eq_of_pairwise (le := fun a b => lt b a = false) (fun a b _ _ h1 h2 => he a b h2 h1) h1 (h3.imp fun h => by simpa using h) (h2.trans (List.mergeSort_perm L _).symm)
/-- One fiber more behind a way, if it leads to a new node. -/
def kidR (F : List Fib) (seen fs : List Int) (i : Nat) : Option (List Int × List Int) :=
  match F[i]? with
  | some f => if other f (lastI seen) < 0 ∨ other f (lastI seen) ∈ seen then none else some (seen ++ [other f (lastI seen)], fs ++ [(i : Int)])
  | none => none
/-- All ways to a node that extend one, depth first. -/
def dfsR (F : List Fib) (to : Int) : Nat → List Int → List Int → List (List Int)
  | 0, _, _ => []
  | k + 1, seen, fs => if lastI seen = to then [fs] else (List.range F.length).flatMap fun i =>
      match kidR F seen fs i with
      | some c => dfsR F to k c.1 c.2
      | none => []
theorem kidR_at {F : List Fib} {seen fs : List Int} {i : Nat} {f : Fib} (hf : F[i]? = some f) (h : ¬ (other f (lastI seen) < 0 ∨ other f (lastI seen) ∈ seen)) : kidR F seen fs i = some (seen ++ [other f (lastI seen)], fs ++ [(i : Int)]) := by unfold kidR; rw [hf]; simp only [if_neg h]
theorem kidR_no {F : List Fib} {seen fs : List Int} {i : Nat} {f : Fib} (hf : F[i]? = some f) (h : other f (lastI seen) < 0 ∨ other f (lastI seen) ∈ seen) : kidR F seen fs i = none := by unfold kidR; rw [hf]; simp only [if_pos h]
theorem kidR_some {F : List Fib} {seen fs : List Int} {i : Nat} {c : List Int × List Int} (h : kidR F seen fs i = some c) : ∃ f, F[i]? = some f ∧ ¬ (other f (lastI seen) < 0 ∨ other f (lastI seen) ∈ seen) ∧ c = (seen ++ [other f (lastI seen)], fs ++ [(i : Int)]) := by
  unfold kidR at h
  split at h
  · next f hf =>
    split at h
    · cases h
    · next hn => cases h; exact ⟨f, hf, hn, rfl⟩
  · cases h
theorem kidR_step {F : List Fib} {seen fs : List Int} {i : Nat} {c : List Int × List Int} (h : kidR F seen fs i = some c) : stepR F seen (i : Int) = some c.1 ∧ c.2 = fs ++ [(i : Int)] := by
  obtain ⟨f, hf, hn, rfl⟩ := kidR_some h
  have hi : i < F.length := (List.getElem?_eq_some_iff.1 hf).1
  exact ⟨stepR_good (inB_t (by omega) (by omega)) (by simpa using hf) hn, rfl⟩
theorem walkR_snoc (F : List Fib) (s : Int) (fs : List Int) (i : Int) : walkR F s (fs ++ [i]) = (walkR F s fs).bind fun out => stepR F out i := by unfold walkR; rw [List.foldl_append]; rfl
theorem kid_walk {F : List Fib} {s : Int} {seen fs : List Int} {i : Nat} {c : List Int × List Int} (hw : walkR F s fs = some seen) (h : kidR F seen fs i = some c) : walkR F s c.2 = some c.1 := by
  obtain ⟨h1, h2⟩ := kidR_step h
  rw [h2, walkR_snoc, hw]; exact h1
theorem dfs_here {F : List Fib} {to : Int} {k : Nat} {seen fs : List Int} (h : lastI seen = to) : dfsR F to (k + 1) seen fs = [fs] := by rw [dfsR, if_pos h]
theorem dfs_on {F : List Fib} {to : Int} {k : Nat} {seen fs : List Int} (h : lastI seen ≠ to) : dfsR F to (k + 1) seen fs = (List.range F.length).flatMap fun i => match kidR F seen fs i with | some c => dfsR F to k c.1 c.2 | none => [] := by rw [dfsR, if_neg h]
theorem dfs_mem {F : List Fib} {to s : Int} : ∀ {k : Nat} {seen fs L : List Int}, walkR F s fs = some seen → L ∈ dfsR F to k seen fs → (∃ out, walkR F s L = some out ∧ lastI out = to) ∧ ∃ t, L = fs ++ t := by
  intro k
  induction k with
  | zero => intro seen fs L _ h; simp [dfsR] at h
  | succ k ih =>
    intro seen fs L hw h
    by_cases hl : lastI seen = to
    · rw [dfs_here hl] at h
      simp at h; subst h
      exact ⟨⟨seen, hw, hl⟩, [], by simp⟩
    · rw [dfs_on hl] at h
      obtain ⟨i, _, hi⟩ := List.mem_flatMap.1 h
      split at hi
      · next c hc =>
        obtain ⟨h1, t, h2⟩ := ih (kid_walk hw hc) hi
        exact ⟨h1, (i : Int) :: t, by rw [h2, (kidR_step hc).2]; simp⟩
      · simp at hi
theorem dfs_nodup {F : List Fib} {to s : Int} : ∀ {k : Nat} {seen fs : List Int}, walkR F s fs = some seen → (dfsR F to k seen fs).Nodup := by
  intro k
  induction k with
  | zero => intro seen fs _; simp [dfsR]
  | succ k ih =>
    intro seen fs hw
    by_cases hl : lastI seen = to
    · rw [dfs_here hl]; simp
    · rw [dfs_on hl, List.Nodup, List.pairwise_flatMap]
      refine ⟨fun i _ => ?_, ?_⟩
      · split
        · next c hc => exact ih (kid_walk hw hc)
        · exact List.Pairwise.nil
      · refine List.Pairwise.imp ?_ List.nodup_range
        intro i j hij x hx y hy e
        subst e
        split at hx
        · next c hc =>
          split at hy
          · next d hd =>
            obtain ⟨_, t, h1⟩ := dfs_mem (kid_walk hw hc) hx
            obtain ⟨_, u, h2⟩ := dfs_mem (kid_walk hw hd) hy
            rw [(kidR_step hc).2] at h1
            rw [(kidR_step hd).2, h1, List.append_assoc, List.append_assoc] at h2
            have := List.append_cancel_left h2
            simp at this; omega
          · simp at hy
        · simp at hx
theorem dfs_many {F : List Fib} {to : Int} : ∀ {k : Nat} {seen fs : List Int}, (dfsR F to k seen fs).length ≤ (F.length + 1) ^ k := by
  intro k
  induction k with
  | zero => intro seen fs; simp [dfsR]
  | succ k ih =>
    intro seen fs
    by_cases hl : lastI seen = to
    · rw [dfs_here hl]; exact Nat.one_le_pow _ _ (by omega)
    · rw [dfs_on hl, List.length_flatMap, Nat.pow_succ]
      have : ∀ (n : Nat), ((List.range n).map fun i => (match kidR F seen fs i with | some c => dfsR F to k c.1 c.2 | none => []).length).sum ≤ n * (F.length + 1) ^ k := by
        intro n
        induction n with
        | zero => simp
        | succ n ihn =>
          rw [List.range_succ, List.map_append, List.sum_append, Nat.add_mul, Nat.one_mul]
          have h2 : ([n].map fun i => (match kidR F seen fs i with | some c => dfsR F to k c.1 c.2 | none => []).length).sum ≤ (F.length + 1) ^ k := by
            simp only [List.map_cons, List.map_nil, List.sum_cons, List.sum_nil, Nat.add_zero]
            split
            · exact ih
            · simp
          omega
      have h3 := this F.length
      rw [Nat.mul_comm ((F.length + 1) ^ k)]
      exact Nat.le_trans h3 (Nat.mul_le_mul_right _ (by omega))
/-- A way's nodes are nodes of the network, and no two are one. -/
theorem stepR_in {N : Int} {F : List Fib} {out o2 : List Int} {i : Int} (hF : ∀ f ∈ F, 0 ≤ f.a ∧ f.a < f.b ∧ f.b < N) (h : stepR F out i = some o2) : ∃ x, o2 = out ++ [x] ∧ 0 ≤ x ∧ x < N ∧ x ∉ out := by
  unfold stepR at h
  split at h
  · split at h
    · next f hf =>
      split at h
      · cases h
      · next hn =>
        cases h
        refine ⟨_, rfl, by omega, ?_, fun e => hn (Or.inr e)⟩
        have := hF f (List.mem_of_getElem? hf)
        unfold other; split <;> (try split) <;> omega
    · cases h
  · cases h
theorem wkIn {N : Int} {F : List Fib} {s : Int} (hF : ∀ f ∈ F, 0 ≤ f.a ∧ f.a < f.b ∧ f.b < N) (hs : 0 ≤ s ∧ s < N) : ∀ {l out : List Int}, walkR F s l = some out → out.Nodup ∧ (∀ x ∈ out, 0 ≤ x ∧ x < N) ∧ out.length = l.length + 1 := by
  intro l
  induction hn : l.length generalizing l with
  | zero =>
    intro out h
    have : l = [] := List.eq_nil_of_length_eq_zero hn
    subst this
    simp [walkR] at h; subst h
    exact ⟨by simp, by simpa using hs, by simp⟩
  | succ n ih =>
    intro out h
    have hne : l ≠ [] := by intro e; subst e; simp at hn
    have hl : l = l.dropLast ++ [l.getLast hne] := (List.dropLast_concat_getLast hne).symm
    rw [hl, walkR_snoc] at h
    cases hw : walkR F s l.dropLast with
    | none => rw [hw] at h; cases h
    | some o =>
      rw [hw] at h
      obtain ⟨h1, h2, h3⟩ := ih (l := l.dropLast) (by simp [hn]) hw
      obtain ⟨x, rfl, a1, a2, a3⟩ := stepR_in hF h
      refine ⟨?_, ?_, by simp [h3]⟩
      · rw [List.nodup_append]
        refine ⟨h1, by simp, ?_⟩
        intro a ha b hb e
        simp at hb; subst hb; subst e; exact a3 ha
      · intro y hy
        rcases List.mem_append.1 hy with hy | hy
        · exact h2 y hy
        · simp at hy; subst hy; exact ⟨a1, a2⟩
theorem nodup_le {N : Nat} {l : List Int} (h : l.Nodup) (hb : ∀ x ∈ l, 0 ≤ x ∧ x < (N : Int)) : l.length ≤ N := by
  have h2 : (l.map Int.toNat).Nodup := by
    rw [List.Nodup, List.pairwise_map]
    refine List.Pairwise.imp_of_mem ?_ h
    intro a b ha hb' hab e
    have := hb a ha; have := hb b hb'
    omega
  have h3 : (l.map Int.toNat) ⊆ List.range N := by
    intro x hx
    obtain ⟨y, hy, rfl⟩ := List.mem_map.1 hx
    have := hb y hy
    simp; omega
  have := h2.length_le_of_subset h3
  simpa using this
def lenR (F : List Fib) (l : List Int) : Int := (l.map fun i => ((F[i.toNat]?).map Fib.len).getD 0).sum
theorem lenR_step {F : List Fib} {l : List Int} {k : Nat} {i : Int} {f : Fib} (hi : l[k]? = some i) (hf : F[i.toNat]? = some f) : lenR F (l.take (k + 1)) = lenR F (l.take k) + f.len := by
  unfold lenR
  rw [List.take_add_one, hi, List.map_append, List.sum_append]
  simp [hf]
/-- The order of routes. -/
def cmpR (F : List Fib) (A B : Int × List Int) : Int := orL [cmpI (lenR F A.2) (lenR F B.2), cmpI (A.2.length : Int) (B.2.length : Int), lexC A.2 B.2, cmpI A.1 B.1]
theorem cmpR_eq (F : List Fib) : cmpR F = orC (fun A B => cmpI (lenR F A.2) (lenR F B.2)) (orC (fun A B => cmpI (A.2.length : Int) (B.2.length : Int)) (orC (fun A B => lexC A.2 B.2) (fun A B => cmpI A.1 B.1))) := by
  funext A B
  unfold cmpR orC
  by_cases h1 : cmpI (lenR F A.2) (lenR F B.2) = 0
  · by_cases h2 : cmpI (A.2.length : Int) (B.2.length : Int) = 0
    · by_cases h3 : lexC A.2 B.2 = 0
      · by_cases h4 : cmpI A.1 B.1 = 0 <;> simp [orL, h1, h2, h3, h4]
      · simp [orL, h1, h2, h3]
    · simp [orL, h1, h2]
  · simp [orL, h1]
theorem cmpR_ok (F : List Fib) : CmpOk (cmpR F) := by
  rw [cmpR_eq]
  exact CmpOk.both (cmpI_ok.on fun A : Int × List Int => lenR F A.2) (CmpOk.both (cmpI_ok.on fun A : Int × List Int => (A.2.length : Int)) (CmpOk.both (lexC_ok.on fun A : Int × List Int => A.2) (cmpI_ok.on fun A : Int × List Int => A.1)))
theorem cmpI_eq {x y : Int} (h : cmpI x y = 0) : x = y := by unfold cmpI at h; split at h <;> (try split at h) <;> omega
theorem orC_zero {α : Type} {c d : α → α → Int} {a b : α} (h : orC c d a b = 0) : c a b = 0 ∧ d a b = 0 := by
  unfold orC at h
  split at h
  · next hn => exact absurd h hn
  · next hn => exact ⟨by omega, h⟩
theorem cmpR_zero {F : List Fib} {A B : Int × List Int} (h : cmpR F A B = 0) : A = B := by
  rw [cmpR_eq] at h
  obtain ⟨_, h⟩ := orC_zero h
  obtain ⟨_, h⟩ := orC_zero h
  obtain ⟨h1, h2⟩ := orC_zero h
  exact Prod.ext (cmpI_eq h2) (lexC_eq h1)
/-- All routes between two nodes, as they are found, and in their order. -/
def rawR (n : Net) (s t : Int) : List (Int × List Int) := if s = t then [] else (dfsR n.fibers t n.nodes.length [s] []).map fun L => (s, L)
def allR (n : Net) (s t : Int) : List (Int × List Int) := (rawR n s t).mergeSort fun x y => !ltC (cmpR n.fibers) y x
theorem allR_put (n : Net) (s t : Int) : (rawR n s t).foldl (putL (ltC (cmpR n.fibers))) [] = allR n s t :=
  foldl_putL_sort (cmpR_ok _).asym (cmpR_ok _).trn ((cmpR_ok _).par fun _ _ => cmpR_zero) _
theorem allR_mem {n : Net} {s t : Int} {R : Int × List Int} : R ∈ allR n s t ↔ R ∈ rawR n s t := by unfold allR; exact List.mem_mergeSort
theorem allR_len (n : Net) (s t : Int) : (allR n s t).length = (rawR n s t).length := by unfold allR; exact List.length_mergeSort _
theorem rawR_nodup (n : Net) (s t : Int) : (rawR n s t).Nodup := by
  unfold rawR
  split
  · exact List.Pairwise.nil
  · rw [List.Nodup, List.pairwise_map]
    exact (dfs_nodup (F := n.fibers) (s := s) (seen := [s]) (fs := []) rfl).imp fun h e => h (Prod.mk.inj e).2
/-- A route among all: its start, its nodes, its end. -/
theorem rawR_mem {n : Net} {s t : Int} {R : Int × List Int} (h : R ∈ rawR n s t) : R.1 = s ∧ R.2 ≠ [] ∧ ∃ out, walkR n.fibers s R.2 = some out ∧ lastI out = t := by
  unfold rawR at h
  split at h
  · simp at h
  · next hne =>
    obtain ⟨L, hL, rfl⟩ := List.mem_map.1 h
    obtain ⟨⟨out, h1, h2⟩, _⟩ := dfs_mem (F := n.fibers) (s := s) (seen := [s]) (fs := []) rfl hL
    refine ⟨rfl, ?_, out, h1, h2⟩
    rintro e
    simp only at e
    rw [e] at h1
    simp [walkR] at h1; subst h1
    exact hne h2
end Go.Proofs.YteckjlkhopkogaaGreat
