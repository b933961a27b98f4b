/- Texts of mine laid together (Rb, Rc, Rs, Re, Re2, Re3, Re4, Re5). -/
import Derived.Test.YtlapicgeokjpjaaU3
import Derived.Test.YtlapicgeokjpjaaU4
import Derived.Sort.Grow
import Derived.Test.YtlapicgeokjpjaaY3
import Derived.WalkSpells
import Derived.ArgAppend
import Derived.Deep.RegionLawGrows
import Derived.Test.YtlapicgeokjpjaaShelfS
import Derived.Laws.EntriesVeiled
/- Plain: all routes between two nodes, found depth first, put in their order. -/
namespace Go.Proofs.Ytlapicgeokjpjaa
open Go.RowKit

/-- A comparison of things. -/
structure CmpOk {α : Type} (c : α → α → Int) : Prop where
  sw : ∀ a b, c a b < 0 ↔ 0 < c b a
  tr : ∀ a b x, c a b ≤ 0 → c b x ≤ 0 → c a x ≤ 0
theorem CmpOk.zero {α : Type} {c : α → α → Int} (h : CmpOk c) {a b : α} (e : c a b = 0) : c b a = 0 := by
  have h1 := h.sw a b; have h2 := h.sw b a; omega
theorem cmpI_ok : CmpOk cmpI := ⟨fun a b => by unfold cmpI; split <;> split <;> (try split) <;> omega, fun a b x => by unfold cmpI; split <;> split <;> (try split) <;> (try split) <;> (try split) <;> omega⟩
theorem CmpOk.on {α β : Type} {c : α → α → Int} (h : CmpOk c) (f : β → α) : CmpOk fun x y => c (f x) (f y) := ⟨fun _ _ => h.sw _ _, fun _ _ _ => h.tr _ _ _⟩
def orC {α : Type} (c d : α → α → Int) (a b : α) : Int := if c a b ≠ 0 then c a b else d a b
theorem CmpOk.both {α : Type} {c d : α → α → Int} (h : CmpOk c) (k : CmpOk d) : CmpOk (orC c d) := by
  refine ⟨fun a b => ?_, fun a b x h1 h2 => ?_⟩
  · have a1 := h.sw a b; have a2 := h.sw b a; have a3 := k.sw a b
    unfold orC
    split <;> split <;> omega
  · unfold orC at *
    have s1 := h.sw a b; have s2 := h.sw b a; have s3 := h.sw b x; have s4 := h.sw x b; have s5 := h.sw a x; have s6 := h.sw x a
    have t1 := h.tr a b x; have t2 := h.tr b x a; have t3 := h.tr x a b
    have u1 := k.tr a b x
    split at h1 <;> split at h2 <;> split <;> omega
def lexC : List Int → List Int → Int
  | [], [] => 0
  | [], _ :: _ => -1
  | _ :: _, [] => 1
  | x :: a, y :: b => if cmpI x y ≠ 0 then cmpI x y else lexC a b
theorem lexC_ok : CmpOk lexC := by
  refine ⟨?_, ?_⟩
  · intro a
    induction a with
    | nil => intro b; cases b <;> simp [lexC]
    | cons x a ih =>
      intro b
      cases b with
      | nil => simp [lexC]
      | cons y b =>
        have a1 := cmpI_ok.sw x y; have a2 := cmpI_ok.sw y x; have a3 := ih b
        simp only [lexC]
        split <;> split <;> omega
  · intro a
    induction a with
    | nil => intro b x h1 h2; cases b <;> cases x <;> simp [lexC] at *
    | cons p a ih =>
      intro b x h1 h2
      cases b with
      | nil => simp [lexC] at h1
      | cons q b =>
        cases x with
        | nil => simp [lexC] at h2
        | cons r x =>
          have h := cmpI_ok
          have s1 := h.sw p q; have s2 := h.sw q p; have s3 := h.sw q r; have s4 := h.sw r q; have s5 := h.sw p r; have s6 := h.sw r p
          have t1 := h.tr p q r; have t2 := h.tr q r p; have t3 := h.tr r p q
          have u1 := ih b x
          simp only [lexC] at *
          split at h1 <;> split at h2 <;> split <;> omega
theorem lexC_eq : ∀ {a b : List Int}, lexC a b = 0 → a = b
  | [], [], _ => rfl
  | [], _ :: _, h => by simp [lexC] at h
  | _ :: _, [], h => by simp [lexC] at h
  | x :: a, y :: b, h => by
    simp only [lexC] at h
    by_cases e : cmpI x y = 0
    · rw [if_neg (by simp [e])] at h
      rw [lexC_eq h]
      have : x = y := by unfold cmpI at e; split at e <;> (try split at e) <;> omega
      rw [this]
    · rw [if_pos e] at h; exact absurd h e
def ltC {α : Type} (c : α → α → Int) (a b : α) : Bool := decide (c a b < 0)
theorem CmpOk.asym {α : Type} {c : α → α → Int} (h : CmpOk c) : ∀ a b, ltC c a b = true → ltC c b a = false := by
  intro a b; have h1 := h.sw a b; have h2 := h.sw b a; simp only [ltC, decide_eq_true_eq, decide_eq_false_iff_not]; omega
theorem CmpOk.trn {α : Type} {c : α → α → Int} (h : CmpOk c) : ∀ a b x, ltC c b a = false → ltC c x b = false → ltC c x a = false := by
  intro a b x
  have h1 := h.sw a b; have h2 := h.sw b a; have h3 := h.sw b x; have h4 := h.sw x b; have h5 := h.sw a x; have h6 := h.sw x a
  have t := h.tr a b x
  simp only [ltC, decide_eq_false_iff_not]; omega
theorem CmpOk.par {α : Type} {c : α → α → Int} (h : CmpOk c) (he : ∀ a b, c a b = 0 → a = b) : ∀ a b, ltC c a b = false → ltC c b a = false → a = b := by
  intro a b
  have h1 := h.sw a b; have h2 := h.sw b a
  simp only [ltC, decide_eq_false_iff_not]
  intro n1 n2; exact he a b (by omega)
def keepTo {α : Type} (put : List α → α → List α) (m : Nat) (acc : List α) (L : List α) : List α := L.foldl (fun a x => if a.length ≤ m then put a x else a) acc
theorem keepTo_nil {α : Type} (put : List α → α → List α) (m : Nat) (acc : List α) : keepTo put m acc [] = acc := rfl
theorem keepTo_cons {α : Type} (put : List α → α → List α) (m : Nat) (acc : List α) (x : α) (L : List α) : keepTo put m acc (x :: L) = keepTo put m (if acc.length ≤ m then put acc x else acc) L := rfl
theorem keepTo_app {α : Type} (put : List α → α → List α) (m : Nat) (acc L M : List α) : keepTo put m acc (L ++ M) = keepTo put m (keepTo put m acc L) M := by unfold keepTo; rw [List.foldl_append]
theorem keepTo_full {α : Type} {put : List α → α → List α} {m : Nat} {acc : List α} (h : ¬ acc.length ≤ m) (L : List α) : keepTo put m acc L = acc := by
  induction L with
  | nil => rfl
  | cons x L ih => rw [keepTo_cons, if_neg h, ih]
theorem keepTo_len {α : Type} {put : List α → α → List α} (hp : ∀ a x, (put a x).length = a.length + 1) {m : Nat} : ∀ (L acc : List α), acc.length ≤ m + 1 → (keepTo put m acc L).length = min (acc.length + L.length) (m + 1) := by
  intro L
  induction L with
  | nil => intro acc h; rw [keepTo_nil]; simp; omega
  | cons x L ih =>
    intro acc h
    rw [keepTo_cons]
    by_cases h2 : acc.length ≤ m
    · rw [if_pos h2, ih _ (by rw [hp]; omega), hp]; simp; omega
    · rw [if_neg h2, keepTo_full h2]; simp; omega
theorem keepTo_all {α : Type} {put : List α → α → List α} (hp : ∀ a x, (put a x).length = a.length + 1) {m : Nat} : ∀ (L acc : List α), acc.length + L.length ≤ m + 1 → keepTo put m acc L = L.foldl put acc := by
  intro L
  induction L with
  | nil => intro acc h; rfl
  | cons x L ih =>
    intro acc h
    simp only [List.length_cons] at h
    rw [keepTo_cons, if_pos (by omega), ih _ (by rw [hp]; omega)]; rfl

/-- Where a search from behind stops. -/
def placeN {α : Type} (lt : α → α → Bool) (l : List α) (x : α) : Nat → Nat
  | 0 => 0
  | i + 1 => match l[i]? with
    | some y => if lt x y then placeN lt l x i else i + 1
    | none => i + 1
theorem placeN_le {α : Type} (lt : α → α → Bool) (l : List α) (x : α) : ∀ i, placeN lt l x i ≤ i
  | 0 => Nat.le_refl _
  | i + 1 => by
    unfold placeN
    split
    · split
      · have := placeN_le lt l x i; omega
      · omega
    · omega
theorem placeN_go {α : Type} {lt : α → α → Bool} {l : List α} {x y : α} {i : Nat} (hy : l[i]? = some y) (h : lt x y = true) : placeN lt l x (i + 1) = placeN lt l x i := by rw [placeN, hy]; simp [h]
theorem placeN_stop {α : Type} {lt : α → α → Bool} {l : List α} {x y : α} {i : Nat} (hy : l[i]? = some y) (h : lt x y = false) : placeN lt l x (i + 1) = i + 1 := by rw [placeN, hy]; simp [h]
theorem placeN_above {α : Type} {lt : α → α → Bool} {l : List α} {x : α} : ∀ {i j : Nat} {y : α}, placeN lt l x i ≤ j → j < i → l[j]? = some y → lt x y = true
  | 0, j, y, _, h, _ => by omega
  | i + 1, j, y, h1, h2, hy => by
    cases hi : l[i]? with
    | none => rw [placeN, hi] at h1; simp at h1; omega
    | some z =>
      cases hz : lt x z
      · rw [placeN_stop hi hz] at h1; omega
      · rw [placeN_go hi hz] at h1
        rcases Nat.lt_or_ge j i with h | h
        · exact placeN_above h1 h hy
        · obtain rfl : j = i := by omega
          rw [hi] at hy; cases hy; exact hz
theorem placeN_below {α : Type} {lt : α → α → Bool} {l : List α} {x : α} : ∀ {i : Nat} {y : α}, 0 < placeN lt l x i → i ≤ l.length → l[placeN lt l x i - 1]? = some y → lt x y = false
  | 0, y, h, _, _ => by simp [placeN] at h
  | i + 1, y, h, hn, hy => by
    cases hi : l[i]? with
    | none => have := List.getElem?_eq_none_iff.1 hi; omega
    | some z =>
      cases hz : lt x z
      · rw [placeN_stop hi hz] at hy
        simp only [Nat.add_sub_cancel] at hy
        rw [hi] at hy; cases hy; exact hz
      · rw [placeN_go hi hz] at h hy
        exact placeN_below h (by omega) hy
def putL {α : Type} (lt : α → α → Bool) (l : List α) (x : α) : List α := l.take (placeN lt l x l.length) ++ x :: l.drop (placeN lt l x l.length)
theorem putL_len {α : Type} (lt : α → α → Bool) (l : List α) (x : α) : (putL lt l x).length = l.length + 1 := by
  have := placeN_le lt l x l.length
  unfold putL; simp; omega
theorem putL_perm {α : Type} (lt : α → α → Bool) (l : List α) (x : α) : (putL lt l x).Perm (x :: l) := by
  unfold putL
  refine List.perm_middle.trans ?_
  rw [List.take_append_drop]
theorem putL_sorted {α : Type} {lt : α → α → Bool} (h : ∀ a b, lt a b = true → lt b a = false) (ht : ∀ a b c, lt b a = false → lt c b = false → lt c a = false) {l : List α} (hl : l.Pairwise fun a b => lt b a = false) (x : α) : (putL lt l x).Pairwise fun a b => lt b a = false := by
  unfold putL
  rw [List.pairwise_append]
  refine ⟨hl.sublist (List.take_sublist _ _), ?_, ?_⟩
  · rw [List.pairwise_cons]
    refine ⟨fun y hy => ?_, hl.sublist (List.drop_sublist _ _)⟩
    obtain ⟨j, hj⟩ := List.getElem?_of_mem hy
    rw [List.getElem?_drop] at hj
    have hlt : placeN lt l x l.length + j < l.length := (List.getElem?_eq_some_iff.1 hj).1
    exact h _ _ (placeN_above (i := l.length) (Nat.le_add_right _ j) hlt hj)
  · intro a ha b hb
    have hp := placeN_le lt l x l.length
    obtain ⟨j, hj⟩ := List.getElem?_of_mem ha
    rw [List.getElem?_take] at hj
    split at hj
    · next hjp =>
      have hax : lt x a = false := by
        have hlast : ∃ z, l[placeN lt l x l.length - 1]? = some z := ⟨_, List.getElem?_eq_getElem (by omega)⟩
        obtain ⟨z, hz⟩ := hlast
        have hxz := placeN_below (by omega) (Nat.le_refl _) hz
        rcases Nat.lt_or_ge j (placeN lt l x l.length - 1) with h1 | h1
        · have hza : lt z a = false := by
            have := List.pairwise_iff_getElem.1 hl j (placeN lt l x l.length - 1) (by omega) (by omega) h1
            obtain ⟨_, ej⟩ := List.getElem?_eq_some_iff.1 hj
            obtain ⟨_, ez⟩ := List.getElem?_eq_some_iff.1 hz
            rw [ej, ez] at this; exact this
          exact ht _ _ _ hza hxz
        · obtain rfl : j = placeN lt l x l.length - 1 := by omega
          rw [hj] at hz; cases hz; exact hxz
      rcases List.mem_cons.1 hb with rfl | hb
      · exact hax
      · obtain ⟨i, hi⟩ := List.getElem?_of_mem hb
        rw [List.getElem?_drop] at hi
        have hlt : placeN lt l x l.length + i < l.length := (List.getElem?_eq_some_iff.1 hi).1
        have := List.pairwise_iff_getElem.1 hl j (placeN lt l x l.length + i) (by omega) hlt (by omega)
        obtain ⟨_, ej⟩ := List.getElem?_eq_some_iff.1 hj
        obtain ⟨_, ei⟩ := List.getElem?_eq_some_iff.1 hi
        rw [ej, ei] at this; exact this
    · cases hj
theorem foldl_putL {α : Type} {lt : α → α → Bool} (h : ∀ a b, lt a b = true → lt b a = false) (ht : ∀ a b c, lt b a = false → lt c b = false → lt c a = false) : ∀ (L acc : List α), (acc.Pairwise fun a b => lt b a = false) → (L.foldl (putL lt) acc).Pairwise (fun a b => lt b a = false) ∧ (L.foldl (putL lt) acc).Perm (L ++ acc) := by
  intro L
  induction L with
  | nil => intro acc ha; exact ⟨ha, List.Perm.refl _⟩
  | cons x L ih =>
    intro acc ha
    obtain ⟨h1, h2⟩ := ih (putL lt acc x) (putL_sorted h ht ha x)
    refine ⟨h1, h2.trans ?_⟩
    exact (List.Perm.append_left L (putL_perm lt acc x)).trans List.perm_middle
theorem foldl_putL_sort {α : Type} {lt : α → α → Bool} (h : ∀ a b, lt a b = true → lt b a = false) (ht : ∀ a b c, lt b a = false → lt c b = false → lt c a = false) (he : ∀ a b, lt a b = false → lt b a = false → a = b) (L : List α) :
    L.foldl (putL lt) [] = L.mergeSort fun x y => !lt y x := by
  obtain ⟨h1, h2⟩ := foldl_putL h ht L [] List.Pairwise.nil
  rw [List.append_nil] at h2
  have h3 := List.pairwise_mergeSort (le := fun x y => !lt y x) (fun a b c h1 h2 => by simp only [Bool.not_eq_true'] at *; exact ht a b c h1 h2) (fun a b => by
    cases e : lt b a
    · simp
    · simp [h _ _ e]) L
  refine List.Perm.eq_of_pairwise (le := fun a b => lt b a = false) (fun a b _ _ h1 h2 => he a b h2 h1) h1 (h3.imp fun h => by simpa using h) (h2.trans (List.mergeSort_perm L _).symm)
/-- One fiber more behind a way, if it leads to a new node. -/
def kidR (F : List Fib) (seen fs : List Int) (i : Nat) : Option (List Int × List Int) :=
  match F[i]? with
  | some f => if other f (lastI seen) < 0 ∨ other f (lastI seen) ∈ seen then none else some (seen ++ [other f (lastI seen)], fs ++ [(i : Int)])
  | none => none
/-- All ways to a node that extend one, depth first. -/
def dfsR (F : List Fib) (t9 : Int) : Nat → List Int → List Int → List (List Int)
  | 0, _, _ => []
  | k + 1, seen, fs => if lastI seen = t9 then [fs] else (List.range F.length).flatMap fun i =>
      match kidR F seen fs i with
      | some c => dfsR F t9 k c.1 c.2
      | none => []
theorem kidR_at {F : List Fib} {seen fs : List Int} {i : Nat} {f : Fib} (hf : F[i]? = some f) (h : ¬ (other f (lastI seen) < 0 ∨ other f (lastI seen) ∈ seen)) : kidR F seen fs i = some (seen ++ [other f (lastI seen)], fs ++ [(i : Int)]) := by unfold kidR; rw [hf]; simp only [if_neg h]
theorem kidR_no {F : List Fib} {seen fs : List Int} {i : Nat} {f : Fib} (hf : F[i]? = some f) (h : other f (lastI seen) < 0 ∨ other f (lastI seen) ∈ seen) : kidR F seen fs i = none := by unfold kidR; rw [hf]; simp only [if_pos h]
theorem kidR_some {F : List Fib} {seen fs : List Int} {i : Nat} {c : List Int × List Int} (h : kidR F seen fs i = some c) : ∃ f, F[i]? = some f ∧ ¬ (other f (lastI seen) < 0 ∨ other f (lastI seen) ∈ seen) ∧ c = (seen ++ [other f (lastI seen)], fs ++ [(i : Int)]) := by
  unfold kidR at h
  split at h
  · next f hf =>
    split at h
    · cases h
    · next hn => cases h; exact ⟨f, hf, hn, rfl⟩
  · cases h
theorem kidR_step {F : List Fib} {seen fs : List Int} {i : Nat} {c : List Int × List Int} (h : kidR F seen fs i = some c) : stepR F seen (i : Int) = some c.1 ∧ c.2 = fs ++ [(i : Int)] := by
  obtain ⟨f, hf, hn, rfl⟩ := kidR_some h
  have hi : i < F.length := (List.getElem?_eq_some_iff.1 hf).1
  exact ⟨stepR_good (inB_t (by omega) (by omega)) (by simpa using hf) hn, rfl⟩
theorem walkR_snoc (F : List Fib) (s : Int) (fs : List Int) (i : Int) : walkR F s (fs ++ [i]) = (walkR F s fs).bind fun out => stepR F out i := by unfold walkR; rw [List.foldl_append]; rfl
theorem kid_walk {F : List Fib} {s : Int} {seen fs : List Int} {i : Nat} {c : List Int × List Int} (hw : walkR F s fs = some seen) (h : kidR F seen fs i = some c) : walkR F s c.2 = some c.1 := by
  obtain ⟨h1, h2⟩ := kidR_step h
  rw [h2, walkR_snoc, hw]; exact h1
theorem dfs_here {F : List Fib} {t9 : Int} {k : Nat} {seen fs : List Int} (h : lastI seen = t9) : dfsR F t9 (k + 1) seen fs = [fs] := by rw [dfsR, if_pos h]
theorem dfs_on {F : List Fib} {t9 : Int} {k : Nat} {seen fs : List Int} (h : lastI seen ≠ t9) : dfsR F t9 (k + 1) seen fs = (List.range F.length).flatMap fun i => match kidR F seen fs i with | some c => dfsR F t9 k c.1 c.2 | none => [] := by rw [dfsR, if_neg h]
theorem dfs_mem {F : List Fib} {t9 s : Int} : ∀ {k : Nat} {seen fs L : List Int}, walkR F s fs = some seen → L ∈ dfsR F t9 k seen fs → (∃ out, walkR F s L = some out ∧ lastI out = t9) ∧ ∃ t, L = fs ++ t := by
  intro k
  induction k with
  | zero => intro seen fs L _ h; simp [dfsR] at h
  | succ k ih =>
    intro seen fs L hw h
    by_cases hl : lastI seen = t9
    · rw [dfs_here hl] at h
      simp at h; subst h
      exact ⟨⟨seen, hw, hl⟩, [], by simp⟩
    · rw [dfs_on hl] at h
      obtain ⟨i, _, hi⟩ := List.mem_flatMap.1 h
      split at hi
      · next c hc =>
        obtain ⟨h1, t, h2⟩ := ih (kid_walk hw hc) hi
        exact ⟨h1, (i : Int) :: t, by rw [h2, (kidR_step hc).2]; simp⟩
      · simp at hi
theorem dfs_nodup {F : List Fib} {t9 s : Int} : ∀ {k : Nat} {seen fs : List Int}, walkR F s fs = some seen → (dfsR F t9 k seen fs).Nodup := by
  intro k
  induction k with
  | zero => intro seen fs _; simp [dfsR]
  | succ k ih =>
    intro seen fs hw
    by_cases hl : lastI seen = t9
    · rw [dfs_here hl]; simp
    · rw [dfs_on hl, List.Nodup, List.pairwise_flatMap]
      refine ⟨fun i _ => ?_, ?_⟩
      · split
        · next c hc => exact ih (kid_walk hw hc)
        · exact List.Pairwise.nil
      · refine List.Pairwise.imp ?_ List.nodup_range
        intro i j hij x hx y hy e
        subst e
        split at hx
        · next c hc =>
          split at hy
          · next d hd =>
            obtain ⟨_, t, h1⟩ := dfs_mem (kid_walk hw hc) hx
            obtain ⟨_, u, h2⟩ := dfs_mem (kid_walk hw hd) hy
            rw [(kidR_step hc).2] at h1
            rw [(kidR_step hd).2, h1, List.append_assoc, List.append_assoc] at h2
            have := List.append_cancel_left h2
            simp at this; omega
          · simp at hy
        · simp at hx
theorem dfs_many {F : List Fib} {t9 : Int} : ∀ {k : Nat} {seen fs : List Int}, (dfsR F t9 k seen fs).length ≤ (F.length + 1) ^ k := by
  intro k
  induction k with
  | zero => intro seen fs; simp [dfsR]
  | succ k ih =>
    intro seen fs
    by_cases hl : lastI seen = t9
    · rw [dfs_here hl]; exact Nat.one_le_pow _ _ (by omega)
    · rw [dfs_on hl, List.length_flatMap, Nat.pow_succ]
      have : ∀ (n : Nat), ((List.range n).map fun i => (match kidR F seen fs i with | some c => dfsR F t9 k c.1 c.2 | none => []).length).sum ≤ n * (F.length + 1) ^ k := by
        intro n
        induction n with
        | zero => simp
        | succ n ihn =>
          rw [List.range_succ, List.map_append, List.sum_append, Nat.add_mul, Nat.one_mul]
          have h2 : ([n].map fun i => (match kidR F seen fs i with | some c => dfsR F t9 k c.1 c.2 | none => []).length).sum ≤ (F.length + 1) ^ k := by
            simp only [List.map_cons, List.map_nil, List.sum_cons, List.sum_nil, Nat.add_zero]
            split
            · exact ih
            · simp
          omega
      have h3 := this F.length
      rw [Nat.mul_comm ((F.length + 1) ^ k)]
      exact Nat.le_trans h3 (Nat.mul_le_mul_right _ (by omega))
/-- A way's nodes are nodes of the network, and no two are one. -/
theorem stepR_in {N : Int} {F : List Fib} {out o2 : List Int} {i : Int} (hF : ∀ f ∈ F, 0 ≤ f.a ∧ f.a < f.b ∧ f.b < N) (h : stepR F out i = some o2) : ∃ x, o2 = out ++ [x] ∧ 0 ≤ x ∧ x < N ∧ x ∉ out := by
  unfold stepR at h
  split at h
  · split at h
    · next f hf =>
      split at h
      · cases h
      · next hn =>
        cases h
        refine ⟨_, rfl, by omega, ?_, fun e => hn (Or.inr e)⟩
        have := hF f (List.mem_of_getElem? hf)
        unfold other; split <;> (try split) <;> omega
    · cases h
  · cases h
theorem wkIn {N : Int} {F : List Fib} {s : Int} (hF : ∀ f ∈ F, 0 ≤ f.a ∧ f.a < f.b ∧ f.b < N) (hs : 0 ≤ s ∧ s < N) : ∀ {l out : List Int}, walkR F s l = some out → out.Nodup ∧ (∀ x ∈ out, 0 ≤ x ∧ x < N) ∧ out.length = l.length + 1 := by
  intro l
  induction hn : l.length generalizing l with
  | zero =>
    intro out h
    have : l = [] := List.eq_nil_of_length_eq_zero hn
    subst this
    simp [walkR] at h; subst h
    exact ⟨by simp, by simpa using hs, by simp⟩
  | succ n ih =>
    intro out h
    have hne : l ≠ [] := by intro e; subst e; simp at hn
    have hl : l = l.dropLast ++ [l.getLast hne] := (List.dropLast_concat_getLast hne).symm
    rw [hl, walkR_snoc] at h
    cases hw : walkR F s l.dropLast with
    | none => rw [hw] at h; cases h
    | some o =>
      rw [hw] at h
      obtain ⟨h1, h2, h3⟩ := ih (l := l.dropLast) (by simp [hn]) hw
      obtain ⟨x, rfl, a1, a2, a3⟩ := stepR_in hF h
      refine ⟨?_, ?_, by simp [h3]⟩
      · rw [List.nodup_append]
        refine ⟨h1, by simp, ?_⟩
        intro a ha b hb e
        simp at hb; subst hb; subst e; exact a3 ha
      · intro y hy
        rcases List.mem_append.1 hy with hy | hy
        · exact h2 y hy
        · simp at hy; subst hy; exact ⟨a1, a2⟩
theorem nodup_le {N : Nat} {l : List Int} (h : l.Nodup) (hb : ∀ x ∈ l, 0 ≤ x ∧ x < (N : Int)) : l.length ≤ N := by
  have h2 : (l.map Int.toNat).Nodup := by
    rw [List.Nodup, List.pairwise_map]
    refine List.Pairwise.imp_of_mem ?_ h
    intro a b ha hb' hab e
    have := hb a ha; have := hb b hb'
    omega
  have h3 : (l.map Int.toNat) ⊆ List.range N := by
    intro x hx
    obtain ⟨y, hy, rfl⟩ := List.mem_map.1 hx
    have := hb y hy
    simp; omega
  have := h2.length_le_of_subset h3
  simpa using this
def lenR (F : List Fib) (l : List Int) : Int := (l.map fun i => ((F[i.toNat]?).map Fib.len).getD 0).sum
theorem lenR_step {F : List Fib} {l : List Int} {k : Nat} {i : Int} {f : Fib} (hi : l[k]? = some i) (hf : F[i.toNat]? = some f) : lenR F (l.take (k + 1)) = lenR F (l.take k) + f.len := by
  unfold lenR
  rw [List.take_add_one, hi, List.map_append, List.sum_append]
  simp [hf]
/-- The order of routes. -/
def cmpR (F : List Fib) (A B : Int × List Int) : Int := orL [cmpI (lenR F A.2) (lenR F B.2), cmpI (A.2.length : Int) (B.2.length : Int), lexC A.2 B.2, cmpI A.1 B.1]
theorem cmpR_eq (F : List Fib) : cmpR F = orC (fun A B => cmpI (lenR F A.2) (lenR F B.2)) (orC (fun A B => cmpI (A.2.length : Int) (B.2.length : Int)) (orC (fun A B => lexC A.2 B.2) (fun A B => cmpI A.1 B.1))) := by
  funext A B
  unfold cmpR orC
  by_cases h1 : cmpI (lenR F A.2) (lenR F B.2) = 0
  · by_cases h2 : cmpI (A.2.length : Int) (B.2.length : Int) = 0
    · by_cases h3 : lexC A.2 B.2 = 0
      · by_cases h4 : cmpI A.1 B.1 = 0 <;> simp [orL, h1, h2, h3, h4]
      · simp [orL, h1, h2, h3]
    · simp [orL, h1, h2]
  · simp [orL, h1]
theorem cmpR_ok (F : List Fib) : CmpOk (cmpR F) := by
  rw [cmpR_eq]
  exact CmpOk.both (cmpI_ok.on fun A : Int × List Int => lenR F A.2) (CmpOk.both (cmpI_ok.on fun A : Int × List Int => (A.2.length : Int)) (CmpOk.both (lexC_ok.on fun A : Int × List Int => A.2) (cmpI_ok.on fun A : Int × List Int => A.1)))
theorem cmpI_eq {x y : Int} (h : cmpI x y = 0) : x = y := by unfold cmpI at h; split at h <;> (try split at h) <;> omega
theorem orC_zero {α : Type} {c d : α → α → Int} {a b : α} (h : orC c d a b = 0) : c a b = 0 ∧ d a b = 0 := by
  unfold orC at h
  split at h
  · next hn => exact absurd h hn
  · next hn => exact ⟨by omega, h⟩
theorem cmpR_zero {F : List Fib} {A B : Int × List Int} (h : cmpR F A B = 0) : A = B := by
  rw [cmpR_eq] at h
  obtain ⟨_, h⟩ := orC_zero h
  obtain ⟨_, h⟩ := orC_zero h
  obtain ⟨h1, h2⟩ := orC_zero h
  exact Prod.ext (cmpI_eq h2) (lexC_eq h1)
/-- All routes between two nodes, as they are found, and in their order. -/
def rawR (n : Net) (s t : Int) : List (Int × List Int) := if s = t then [] else (dfsR n.fibers t n.nodes.length [s] []).map fun L => (s, L)
def allR (n : Net) (s t : Int) : List (Int × List Int) := (rawR n s t).mergeSort fun x y => !ltC (cmpR n.fibers) y x
theorem allR_put (n : Net) (s t : Int) : (rawR n s t).foldl (putL (ltC (cmpR n.fibers))) [] = allR n s t :=
  foldl_putL_sort (cmpR_ok _).asym (cmpR_ok _).trn ((cmpR_ok _).par fun _ _ => cmpR_zero) _
theorem allR_mem {n : Net} {s t : Int} {R : Int × List Int} : R ∈ allR n s t ↔ R ∈ rawR n s t := by unfold allR; exact List.mem_mergeSort
theorem allR_len (n : Net) (s t : Int) : (allR n s t).length = (rawR n s t).length := by unfold allR; exact List.length_mergeSort _
theorem rawR_nodup (n : Net) (s t : Int) : (rawR n s t).Nodup := by
  unfold rawR
  split
  · exact List.Pairwise.nil
  · rw [List.Nodup, List.pairwise_map]
    exact (dfs_nodup (F := n.fibers) (s := s) (seen := [s]) (fs := []) rfl).imp fun h e => h (Prod.mk.inj e).2
/-- A route among all: its start, its nodes, its end. -/
theorem rawR_mem {n : Net} {s t : Int} {R : Int × List Int} (h : R ∈ rawR n s t) : R.1 = s ∧ R.2 ≠ [] ∧ ∃ out, walkR n.fibers s R.2 = some out ∧ lastI out = t := by
  unfold rawR at h
  split at h
  · simp at h
  · next hne =>
    obtain ⟨L, hL, rfl⟩ := List.mem_map.1 h
    obtain ⟨⟨out, h1, h2⟩, _⟩ := dfs_mem (F := n.fibers) (s := s) (seen := [s]) (fs := []) rfl hL
    refine ⟨rfl, ?_, out, h1, h2⟩
    rintro e
    simp only at e
    rw [e] at h1
    simp [walkR] at h1; subst h1
    exact hne h2
end Go.Proofs.Ytlapicgeokjpjaa

/- Contracts: the order of routes, both sides; worlds that are what they were, with draws and blocks behind. -/
namespace Go.Proofs.Ytlapicgeokjpjaa
open Go.RowKit Go.PlainAid

/-- What was there is as it was, and no draw is undone. -/
def Laid (w w' : World) : Prop := Fresh w w' ∧ w.drawn ≤ w'.drawn
theorem Laid.refl (w : World) : Laid w w := ⟨frefl w, Nat.le_refl _⟩
theorem Laid.step {w a b : World} (h : Laid w a) (k : Laid a b) : Laid w b := ⟨fstep h.1 k.1, Nat.le_trans h.2 k.2⟩
theorem Laid.new {w a : World} (h : Laid w a) (o : Obj) : Laid w (a.alloc o) := ⟨fnew h.1 o, h.2⟩
theorem Laid.drew {w a : World} (h : Laid w a) : Laid w a.drew := ⟨fdrew h.1, Nat.le_trans h.2 (Nat.le_succ _)⟩
theorem Laid.drewN {w a : World} (h : Laid w a) (n : Nat) : Laid w (a.drewN n) := ⟨fdrewN h.1 n, Nat.le_trans h.2 (Nat.le_add_right _ _)⟩
theorem Laid.grow {w w' : World} (h : Laid w w') : ∃ q os, w' = Go.Sort.grow (w.drewN q) os := by
  obtain ⟨⟨h1, h2, h3, h4, h5⟩, h6⟩ := h
  refine ⟨w'.drawn - w.drawn, (w'.heap.toList.drop w.heap.size).toArray, ?_⟩
  obtain ⟨hp, tp, dr, os, ou⟩ := w'
  obtain ⟨hp0, tp0, dr0, os0, ou0⟩ := w
  simp only at h1 h2 h3 h4 h5 h6 ⊢
  subst h1 h2 h3
  unfold Go.Sort.grow World.drewN
  simp only [World.mk.injEq, and_true, true_and]
  refine ⟨?_, by omega⟩
  apply Array.ext_getElem?
  intro i
  rw [Array.getElem?_append]
  split
  · next hi => exact h5 i hi
  · next hi => simp; congr 1; omega
structure AfterD (w : World) where
  w' : World
  h : Laid w w'
instance (w : World) : Nonempty (AfterD w) := ⟨⟨w, Laid.refl w⟩⟩
theorem wp_region_afterD {P : Program} {id : Nat} {Q : Exit → Act → World → Prop} {a : Act} {w : World} {l : List Oper} (hm : P.follows .mixedOrders = true) (hB : Region.lexB .any l.toArray = true)
    (h : wpQuiet P l.toArray (fun w' => ∃ x : AfterD w, w' = x.w') (fun a' => ∀ w', (∃ x : AfterD w, w' = x.w') → Q .normal a' w') l a) : (Code.region id l.toArray true).wp P Q a w :=
  wp_region_quiet (C := fun w' => ∃ x : AfterD w, w' = x.w') hm hB ⟨⟨_, (Laid.refl _).drew⟩, rfl⟩ (by simpa using h)
theorem after_callD {P : Program} {f : FuncId} {args : Array Value} {w : World} {x : AfterD w} {v : Value} (h : Calls P f args x.w' fun e w' => e = .returned v ∧ Laid x.w' w') :
    Calls P f args x.w' fun e w'' => e = .returned v ∧ ∃ y : AfterD w, w'' = y.w' := h.mono fun _ w' ⟨he, hf⟩ => ⟨he, ⟨w', x.h.step hf⟩, rfl⟩
theorem akeepD {w : World} {b o : Nat} {v : Value} (hv : w.cell? ⟨b, o, none⟩ = some v) (x : AfterD w) : x.w'.cell? ⟨b, o, none⟩ = some v := fkeep x.h.1 hv
theorem wp_region_afterD_tail {P : Program} {id : Nat} {Q : Exit → Act → World → Prop} {a : Act} {w : World} {l : List Oper} (n : Nat) (hm : P.follows .mixedOrders = true) (hB : Region.lexTailB .any l.toArray n = true)
    (h : wpQuiet P l.toArray (fun w' => ∃ x : AfterD w, w' = x.w') (fun a' => ∀ x : AfterD w, wpList P l.toArray Q (l.drop n) a' x.w') (l.take n) a) : (Code.region id l.toArray true).wp P Q a w := by
  simp only [Region.lexTailB, Bool.and_eq_true, decide_eq_true_eq] at hB
  obtain ⟨⟨⟨⟨hsel, hn⟩, hs⟩, hc⟩, hlex⟩ := hB
  have hn' : n < l.length := by simpa using hn
  have htl : (l.take n).length = n := by simp; omega
  have hdl : (l.drop n).length = l.toArray.size - n := by simp
  have inv0 : HeadInv .any l.toArray n (Array.replicate l.toArray.size false) :=
    ⟨by simp, fun j oj _ hl => (by rw [getD_replicate_false] at hl; cases hl), fun t _ ht => getD_in (by simpa using ht) (getD_replicate_false _ _)⟩
  have H := headQ_lex (md := .any) (g := l.toArray.size - n) hsel hs hc hn (l.take n) 0 _ a (fun j hj => by
    have hj' : j < n := by rw [htl] at hj; exact hj
    simp [hj']) (by simpa using htl) inv0 (by rw [htl]; exact hlex) h
  refine wp_region_any hm ?_
  have := any_of_headQ (Q := Q) (g := l.toArray.size - n) (fun listed a' w' hw' hL => by
    obtain ⟨x, rfl⟩ := hw'
    have := wpAny_of_seq (md := .any) (Q' := Q) (l.drop n) n listed a' x.w' (fun j => by simp [List.getElem?_drop]) (by rw [hdl]; exact hL.1) (hL.2 x)
    rwa [hdl] at this) _ _ _ _ (⟨⟨_, (Laid.refl w).drew⟩, rfl⟩ : ∃ x : AfterD w, ({ w with drawn := w.drawn + 1 } : World) = x.w') H
  rw [htl, show n + (l.toArray.size - n) = l.toArray.size by omega] at this
  exact this

/-- Fibers of a network, and how long they are. -/
def RtOk (n : Net) (l : List Int) : Prop := (∀ i ∈ l, 0 ≤ i ∧ i < (n.fibers.length : Int)) ∧ l.length ≤ 1048576
def LenOk (n : Net) : Prop := ∀ f ∈ n.fibers, 0 ≤ f.len ∧ f.len ≤ 5000
theorem lenR_bd {n : Net} {l : List Int} (hb : LenOk n) : 0 ≤ lenR n.fibers l ∧ lenR n.fibers l ≤ 5000 * (l.length : Int) := by
  unfold lenR
  induction l with
  | nil => simp
  | cons i l ih =>
    rw [List.map_cons, List.sum_cons, List.length_cons]
    have : 0 ≤ ((n.fibers[i.toNat]?).map Fib.len).getD 0 ∧ ((n.fibers[i.toNat]?).map Fib.len).getD 0 ≤ 5000 := by
      cases hf : n.fibers[i.toNat]? with
      | none => simp
      | some f => simpa using hb f (List.mem_of_getElem? hf)
    omega
end Go.Proofs.Ytlapicgeokjpjaa

/- Contracts: the order of routes, the reference's side. -/
namespace Go.Proofs.Ytlapicgeokjpjaa
open Go.RowKit Go.PlainAid

theorem sgn_sub (x y : Int) : cmpI (x - y) 0 = cmpI x y := by unfold cmpI; split <;> split <;> (try split) <;> (try split) <;> omega
theorem cmpI_zero {x y : Int} : cmpI x y = 0 ↔ x = y := ⟨cmpI_eq, fun h => by subst h; unfold cmpI; simp⟩
theorem cmpR_1 {F : List Fib} {A B : Int × List Int} (h : lenR F A.2 - lenR F B.2 ≠ 0) : cmpR F A B = cmpI (lenR F A.2) (lenR F B.2) := by
  rw [cmpR_eq]; unfold orC; rw [if_pos]; intro e; have := cmpI_eq e; omega
theorem cmpR_2 {F : List Fib} {A B : Int × List Int} (h1 : lenR F A.2 - lenR F B.2 = 0) (h : (A.2.length : Int) - B.2.length ≠ 0) : cmpR F A B = cmpI (A.2.length : Int) B.2.length := by
  have e1 : cmpI (lenR F A.2) (lenR F B.2) = 0 := cmpI_zero.2 (by omega)
  have e2 : cmpI (A.2.length : Int) B.2.length ≠ 0 := fun e => by have := cmpI_eq e; omega
  rw [cmpR_eq]; unfold orC; rw [if_neg (by simp [e1]), if_pos e2]
theorem cmpR_3 {F : List Fib} {A B : Int × List Int} (h1 : lenR F A.2 - lenR F B.2 = 0) (h2 : (A.2.length : Int) - B.2.length = 0) : cmpR F A B = if lexC A.2 B.2 ≠ 0 then lexC A.2 B.2 else cmpI A.1 B.1 := by
  have e1 : cmpI (lenR F A.2) (lenR F B.2) = 0 := cmpI_zero.2 (by omega)
  have e2 : cmpI (A.2.length : Int) B.2.length = 0 := cmpI_zero.2 (by omega)
  rw [cmpR_eq]; unfold orC; rw [if_neg (by simp [e1]), if_neg (by simp [e2])]
set_option maxHeartbeats 400000 in
theorem l4Sign_any (x : Int) (w : World) : Calls Try.prog 93 #[.int .i64 x] w fun e w' => e = .returned (.int .i64 (cmpI x 0)) ∧ w = w' := by
  rcases Int.lt_trichotomy x 0 with h | h | h
  · have HE : Hid (cmpI x 0 = -1) := by show _ = _; unfold cmpI; rw [if_pos h]
    rw [HE.out]
    go_enter Try.func93, Try.ntmps93
    go_wp2
    go_ret
    exact ⟨rfl, rfl⟩
  · subst h
    go_enter Try.func93, Try.ntmps93
    go_wp2
    go_ret
    exact ⟨rfl, rfl⟩
  · have HE : Hid (cmpI x 0 = 1) := by show _ = _; unfold cmpI; rw [if_neg (by omega), if_pos h]
    have hn : ¬ x < 0 := by omega
    rw [HE.out]
    go_enter Try.func93, Try.ntmps93
    go_wp2
    go_ret
    exact ⟨rfl, rfl⟩
set_option maxHeartbeats 4000000 in
theorem l4Length_any (v : Value) (n : Net) (s : Int) (q : Option Addr) (cap : Nat) (l : List Int) (w : World) (h : NetIn w v n) (hI : Ints w q l) (hv : RtOk n l) (hb : LenOk n) :
    Calls Try.prog 92 #[v, .agg #[.int .i64 s, .slice q l.length cap]] w fun e w' => e = .returned (.int .i64 (lenR n.fibers l)) ∧ Fresh w w' := by
  obtain ⟨qn, c, p, d, rfl, _, hF, _, n2, _, _, _⟩ := h
  obtain ⟨W2, hW2, hsz2, hf2, r1, r2⟩ := two_rows w [.slice qn n.nodes.length c, .slice p n.fibers.length d] [.int .i64 s, .slice q l.length cap] 27 30
  have HF2 := Lib.hid hf2
  have HR1 := Lib.hid r1
  have HR2 := Lib.hid r2
  have HI := Lib.hid (hI.keep hf2)
  have HF := Lib.hid (hF.keep hf2)
  have HB := Lib.hid hb
  have HV := Lib.hid hv.1
  have hn := hv.2
  have HW2 := Lib.hid hW2
  clear hI hF hb hv hf2 r1 r2 hW2
  go_enter Try.func92, Try.ntmps92
  go_wp2
  rw [← HW2.out]
  go_loopw [5, 6] (fun a j wr => ∃ k : Nat, k ≤ l.length ∧ j = .int .i64 k ∧ a = .int .i64 (lenR n.fibers (l.take k)) ∧ Fresh W2 wr) (fun _ j _ => l.length - (intOf j).toNat)
  case atStart => exact ⟨0, Nat.zero_le _, rfl, rfl, frefl _⟩
  case round =>
    obtain ⟨k, hk, rfl, rfl, hf⟩ := hrel
    have HFR := Lib.hid hf
    have y1 := (HR1.out.keep hf).cell (i := 1) rfl
    have z1 := (HR2.out.keep hf).cell (i := 1) rfl
    by_cases hlt : k < l.length
    · have hltz : (k : Int) < (l.length : Int) := by omega
      obtain ⟨b, off, x, rfl, hx, hc0⟩ := (HI.out.keep hf).at hlt
      obtain ⟨hx0, hx1⟩ := HV.out x (List.mem_of_getElem? hx)
      obtain ⟨i, rfl⟩ : ∃ i : Nat, x = (i : Int) := ⟨x.toNat, by omega⟩
      have hil : i < n.fibers.length := by omega
      obtain ⟨b1, o1, fa, fb, fl, fr, rfl, hfb, _, _, d2, _⟩ := (HF.out.keep hf).at hil
      have HST := Lib.hid (lenR_step (F := n.fibers) hx (f := ⟨fa, fb, fl, fr⟩) (by simpa using hfb))
      obtain ⟨g1, g2⟩ := HB.out _ (List.mem_of_getElem? hfb)
      have h12 := lenR_bd (l := l.take k) HB.out
      rw [List.length_take, Nat.min_eq_left hk] at h12
      obtain ⟨h1, h2⟩ := h12
      obtain ⟨S, hS⟩ : ∃ S, S = lenR n.fibers (l.take k) := ⟨_, rfl⟩
      rw [← hS] at h1 h2 HST ⊢
      simp only at g1 g2
      clear hx hfb hS hf
      go_wp2
      go_region
      go_wp2
      go_roundw
      case rel => exact ⟨k + 1, by omega, by go_num, by rw [HST.out], fdrew HFR.out⟩
      case measure => simp [intOf]; omega
    · have hkn : k = l.length := by omega
      subst hkn
      have hltz : ¬ ((l.length : Nat) : Int) < (l.length : Int) := by omega
      clear hf
      go_wp2
      go_ret
      exact ⟨by simp, fstep HF2.out HFR.out⟩
set_option maxHeartbeats 4000000 in
set_option maxRecDepth 100000 in
theorem l4Compare_any (v : Value) (n : Net) (x y : LR) (w : World) (h : NetIn w v n) (hx : Ints w x.q x.fibs) (hy : Ints w y.q y.fibs) (vx : RtOk n x.fibs) (vy : RtOk n y.fibs) (hb : LenOk n) (bx : -1048576 ≤ x.start ∧ x.start ≤ 1048576) (by' : -1048576 ≤ y.start ∧ y.start ≤ 1048576) :
    Calls Try.prog 82 #[v, lrV x, lrV y] w fun e w' => e = .returned (.int .i64 (cmpR n.fibers x.val y.val)) ∧ Fresh w w' := by
  have HN := Lib.hid h
  have hnf : n.fibers.length ≤ 1048576 := by obtain ⟨_, _, _, _, _, _, _, _, n2, _⟩ := h; exact n2
  obtain ⟨qn, m, c, p, k, d, rfl⟩ := h.shape
  obtain ⟨sx, qx, cx, fx⟩ := x
  obtain ⟨sy, qy, cy, fy⟩ := y
  simp only at hx hy vx vy bx by' ⊢
  obtain ⟨bx1, bx2⟩ := bx
  obtain ⟨by1, by2⟩ := by'
  obtain ⟨W3, hW3, hsz3, hf3, r1, r2, r3⟩ := three_rows w [.slice qn m c, .slice p k d] [.int .i64 sx, .slice qx fx.length cx] [.int .i64 sy, .slice qy fy.length cy] 27 30 30
  have HF3 := Lib.hid hf3
  have HN3 := Lib.hid (HN.out.keep hf3)
  have HX3 := Lib.hid (hx.keep hf3)
  have HY3 := Lib.hid (hy.keep hf3)
  have hnx := vx.2
  have hny := vy.2
  have HVX := Lib.hid vx.1
  have HVY := Lib.hid vy.1
  have HR2 := Lib.hid r2
  have HR3 := Lib.hid r3
  have k0 := fun xa : After W3 => akeep (r1.cell (i := 0) rfl) xa
  have k1 := fun xa : After W3 => akeep (r1.cell (i := 1) rfl) xa
  have x0 := fun xa : After W3 => akeep (r2.cell (i := 0) rfl) xa
  have x1 := fun xa : After W3 => akeep (r2.cell (i := 1) rfl) xa
  have y0 := fun xa : After W3 => akeep (r3.cell (i := 0) rfl) xa
  have y1 := fun xa : After W3 => akeep (r3.cell (i := 1) rfl) xa
  obtain ⟨lx, hlx⟩ : ∃ t, t = lenR n.fibers fx := ⟨_, rfl⟩
  obtain ⟨ly, hly⟩ : ∃ t, t = lenR n.fibers fy := ⟨_, rfl⟩
  have hbx := lenR_bd (l := fx) hb
  have hby := lenR_bd (l := fy) hb
  rw [← hlx] at hbx
  rw [← hly] at hby
  obtain ⟨hbx0, hbx1⟩ := hbx
  obtain ⟨hby0, hby1⟩ := hby
  have HL1 : Hid (∀ xa : After W3, Calls Try.prog 92 #[.agg #[.slice qn m c, .slice p k d], .agg #[.int .i64 sx, .slice qx fx.length cx]] xa.w' fun e w' => e = .returned (.int .i64 lx) ∧ Fresh xa.w' w') := by
    intro xa; rw [hlx]; exact l4Length_any _ n sx qx cx fx xa.w' (HN3.out.keep xa.h) (HX3.out.keep xa.h) vx hb
  have HL2 : Hid (∀ xa : After W3, Calls Try.prog 92 #[.agg #[.slice qn m c, .slice p k d], .agg #[.int .i64 sy, .slice qy fy.length cy]] xa.w' fun e w' => e = .returned (.int .i64 ly) ∧ Fresh xa.w' w') := by
    intro xa; rw [hly]; exact l4Length_any _ n sy qy cy fy xa.w' (HN3.out.keep xa.h) (HY3.out.keep xa.h) vy hb
  obtain ⟨RR, hRR⟩ : ∃ r, r = cmpR n.fibers (sx, fx) (sy, fy) := ⟨_, rfl⟩
  have HRR := Lib.hid hRR
  have HLX := Lib.hid hlx
  have HLY := Lib.hid hly
  have HW3 := Lib.hid hW3
  show Calls _ _ _ _ fun e w' => e = .returned (.int .i64 (cmpR n.fibers (sx, fx) (sy, fy))) ∧ Fresh w w'
  rw [← hRR]
  have hsub : IntKind.i64.wrap (lx - ly) = lx - ly := by rw [IntKind.wrap_i64]; omega
  have HSUB := Lib.hid hsub
  have HSG := Lib.hid l4Sign_any
  clear h hx hy vx vy hb hf3 r1 r2 r3 hW3 hRR hlx hly hsub
  go_enter Try.func82, Try.ntmps82
  go_wp2
  rw [← HW3.out]
  refine wp_region_after (by kernel_rfl) (by kernel_rfl) ?_
  have hsub := HSUB.out
  repeat (go_big_quiet_step ((go_at_call 92; (first | with_reducible exact after_call (HL1.out _) | with_reducible exact after_call (HL2.out _)))))
  refine wpQuiet_nil ?_
  rintro _ ⟨xa, rfl⟩
  clear hsub
  have HXA := Lib.hid (fstep HF3.out xa.h)
  have HR2A := Lib.hid (HR2.out.keep xa.h)
  have HR3A := Lib.hid (HR3.out.keep xa.h)
  have HX4 := Lib.hid (HX3.out.keep xa.h)
  have HY4 := Lib.hid (HY3.out.keep xa.h)
  have e0 := x0 xa
  have e1 := x1 xa
  have f0 := y0 xa
  have f1 := y1 xa
  clear k0 k1 x0 x1 y0 y1
  by_cases hd1 : lx - ly = 0
  rotate_left
  · have hz1 : (lx - ly != 0) = true := by simp [hd1]
    have HE : Hid (RR = cmpI (lx - ly) 0) := by show _ = _; rw [HRR.out, cmpR_1 (by rw [← HLX.out, ← HLY.out]; exact hd1), sgn_sub, HLX.out, HLY.out]
    clear hd1
    go_wp2_with fail
    refine (HSG.out _ _).mono ?_
    rintro e w1 ⟨rfl, rfl⟩
    go_wp2
    go_ret
    exact ⟨by rw [HE.out]; (first | done | rfl), HXA.out⟩
  · have hz1 : (lx - ly != 0) = false := by simp [hd1]
    by_cases hd2 : (fx.length : Int) - (fy.length : Int) = 0
    rotate_left
    · have hz2 : ((fx.length : Int) - (fy.length : Int) != 0) = true := by simp [hd2]
      have HE : Hid (RR = cmpI ((fx.length : Int) - (fy.length : Int)) 0) := by show _ = _; rw [HRR.out, cmpR_2 (by rw [← HLX.out, ← HLY.out]; exact hd1) hd2, sgn_sub]
      clear hd1 hd2
      go_wp2_with fail
      refine (HSG.out _ _).mono ?_
      rintro e w1 ⟨rfl, rfl⟩
      go_wp2
      go_ret
      exact ⟨by rw [HE.out]; (first | done | rfl), HXA.out⟩
    · have hz2 : ((fx.length : Int) - (fy.length : Int) != 0) = false := by simp [hd2]
      have HE : Hid (RR = if lexC fx fy ≠ 0 then lexC fx fy else cmpI sx sy) := by show _ = _; rw [HRR.out, cmpR_3 (by rw [← HLX.out, ← HLY.out]; exact hd1) hd2]
      have hle : fx.length = fy.length := by omega
      have HLE := Lib.hid hle
      clear hd1 hd2 hle
      have hsw : IntKind.i64.wrap (sx - sy) = sx - sy := by rw [IntKind.wrap_i64]; omega
      have HSW := Lib.hid hsw
      clear hsw
      go_wp2
      clear e0 e1 f0 f1
      go_loopw [9] (fun j wr => ∃ k : Nat, k ≤ fx.length ∧ j = .int .i64 k ∧ lexC fx fy = lexC (fx.drop k) (fy.drop k) ∧ Fresh xa.w' wr) (fun j _ => fx.length - (intOf j).toNat)
      case atStart => exact ⟨0, Nat.zero_le _, rfl, rfl, frefl _⟩
      case round =>
        obtain ⟨k, hk, rfl, hl, hf⟩ := hrel
        have HL := Lib.hid hl
        have HF := Lib.hid hf
        have e0 := (HR2A.out.keep hf).cell (i := 0) rfl
        have e1 := (HR2A.out.keep hf).cell (i := 1) rfl
        have f0 := (HR3A.out.keep hf).cell (i := 0) rfl
        have f1 := (HR3A.out.keep hf).cell (i := 1) rfl
        by_cases hlt : k < fx.length
        · have hltz : (k : Int) < (fx.length : Int) := by omega
          have hlt2 : k < fy.length := by have := HLE.out; omega
          have hltz2 : (k : Int) < (fy.length : Int) := by omega
          obtain ⟨b1, o1, a, rfl, ha, c0⟩ := (HX4.out.keep hf).at hlt
          obtain ⟨b2, o2, b, rfl, hb, c1⟩ := (HY4.out.keep hf).at hlt2
          obtain ⟨ha0, ha1⟩ := HVX.out a (List.mem_of_getElem? ha)
          obtain ⟨hb0, hb1⟩ := HVY.out b (List.mem_of_getElem? hb)
          have hab : IntKind.i64.wrap (a - b) = a - b := by rw [IntKind.wrap_i64]; omega
          have eA : fx.drop k = a :: fx.drop (k + 1) := by
            obtain ⟨e1, e2⟩ := List.getElem?_eq_some_iff.1 ha
            rw [← e2]; exact (List.getElem_cons_drop (h := e1)).symm
          have eB : fy.drop k = b :: fy.drop (k + 1) := by
            obtain ⟨e1, e2⟩ := List.getElem?_eq_some_iff.1 hb
            rw [← e2]; exact (List.getElem_cons_drop (h := e1)).symm
          have HS : Hid (lexC fx fy = if cmpI a b ≠ 0 then cmpI a b else lexC (fx.drop (k + 1)) (fy.drop (k + 1))) := by show _ = _; rw [hl, eA, eB]; rfl
          have HAB := Lib.hid hab
          clear hl hf ha hb eA eB hab
          by_cases he : a = b
          · have hz : (a != b) = false := by simp [he]
            have HS2 : Hid (lexC fx fy = lexC (fx.drop (k + 1)) (fy.drop (k + 1))) := by show _ = _; rw [HS.out, if_neg (by rw [cmpI_zero.2 he]; simp)]
            clear he
            go_wp2
            go_region
            go_wp2
            go_roundw
            case rel => exact ⟨k + 1, by omega, by go_num, HS2.out, fdrew HF.out⟩
            case measure => simp [intOf]; omega
          · have hz : (a != b) = true := by simp [he]
            have hne : cmpI a b ≠ 0 := fun e => he (cmpI_eq e)
            have HS2 : Hid (RR = cmpI (a - b) 0) := by show _ = _; rw [HE.out, HS.out, if_pos hne, if_pos hne, sgn_sub]
            clear he hne
            go_wp2
            go_region
            have hab := HAB.out
            go_wp2
            refine wp_region_after (by kernel_rfl) (by kernel_rfl) ?_
            have g0 := fun xb : After wr.drew => akeep (fkeep (fdrew (frefl wr)) e1) xb
            have g1 := fun xb : After wr.drew => akeep (fkeep (fdrew (frefl wr)) f1) xb
            have g2 := fun xb : After wr.drew => akeep (fkeep (fdrew (frefl wr)) c0) xb
            have g3 := fun xb : After wr.drew => akeep (fkeep (fdrew (frefl wr)) c1) xb
            repeat (go_big_quiet_step ((go_at_call 93; exact after_same (HSG.out _ _))))
            refine wpQuiet_nil ?_
            rintro _ ⟨xb, rfl⟩
            clear hab g0 g1 g2 g3
            go_wp2
            go_ret
            exact ⟨by rw [HS2.out]; (first | done | rfl), fstep HXA.out (fstep (fdrew HF.out) xb.h)⟩
        · have hkn : k = fx.length := by omega
          have hltz : ¬ (k : Int) < (fx.length : Int) := by omega
          have HE2 : Hid (RR = cmpI (sx - sy) 0) := by
            have h2 : fy.drop k = [] := List.drop_of_length_le (by have := HLE.out; omega)
            have h1 : fx.drop k = [] := List.drop_of_length_le (by omega)
            show _ = _; rw [HE.out, hl, h1, h2, sgn_sub]; rfl
          have hsw := HSW.out
          clear hl hkn hf
          go_wp2_with fail
          refine (HSG.out _ _).mono ?_
          rintro e w1 ⟨rfl, rfl⟩
          clear hsw
          go_wp2
          go_ret
          exact ⟨by rw [HE2.out]; (first | done | rfl), fstep HXA.out HF.out⟩
end Go.Proofs.Ytlapicgeokjpjaa

/- Contracts: all routes between two nodes, the program's search (a closure that calls itself). -/
namespace Go.Proofs.Ytlapicgeokjpjaa
open Go.RowKit Go.PlainAid

/-- One more element at the end of a row of the call's own, however many there are. -/
theorem wpList_app_w {T E : TypeId} {z : Value} {size bytes : Nat} (hu : Try.prog.underlying T = some (.slice E)) (hinfo : (Try.prog.info? E).map (fun i => (i.zero, i.size, i.bytes)) = some (some z, size, bytes))
    (hzs : z.cells.size = size) (hsz : 0 < size) (hby : bytes ≤ 128) {ops : Array Oper} {rest : List Oper} {o : Oper} {a : Act} {Q : Exit → Act → World → Prop} (w0 w1 : World) (v : Value) (n : Nat) (xs news : List Value)
    (g0 : Nat) (hl : news.length = size) (hone : ∀ u ∈ news, u.oneCell' = true) (hgd : o.guard = none) (s t : Operand)
    (ho : o.op = .call { callee := .builtin .append, args := #[s, t], argTypes := #[T, T] }) (hs : a.eval s = v) (hown : w1.ownsRow w0.heap.size E size v n xs)
    (hx : a.eval t = .slice (some ⟨g0, 0, none⟩) 1 1) (hg0 : g0 = w1.heap.size) (hn : n ≤ 1099511627775) (hf : Fresh w0 w1)
    (h : ∀ v' w', w'.ownsRow w0.heap.size E size v' (n + 1) (xs ++ news) → Fresh w0 w' → (∀ g t cs, RowAt w1 g t cs → (t ≠ E ∨ v.ownBlock ≠ some g) → RowAt w' g t cs) → wpList Try.prog ops Q rest (a.put o.dst v') w') :
    wpList Try.prog ops Q (o :: rest) a (w1.alloc (.cells news.toArray E)) := by
  subst hg0
  obtain ⟨i0, hi, hz0, hz1, hz2⟩ := info_parts hinfo
  refine wpList_append_own _ hgd s t T ho w0.heap.size E i0 z size bytes hu hi hz0 hz1 hz2 hzs hsz v n xs hs (hown.alloc _) ⟨w1.heap.size, 0, none⟩ 1 1 news hx (by omega)
    (add_new w1 E news) hone (by unfold maxLen; omega) (Nat.le_trans (Nat.mul_le_mul (by omega : n + 1 ≤ 1099511627776) hby) (by omega)) (Nat.le_trans hf.size (by simp)) ?_
  intro v' w' hown' hgrow _
  refine h v' w' hown' (fgrown (fnew hf _) hgrow (own_block hown)) fun g t cs hr ht => ?_
  rcases ht with ht | ht
  · exact row_grown hown hgrow hr ht
  · have hba := hr.alloc (.cells news.toArray E)
    unfold RowAt
    rw [hgrow.block g hba.lt (fun he => ht he.symm)]
    exact hba
theorem infoRt : (Try.prog.info? 30).map (fun i => (i.zero, i.size, i.bytes)) = some (some (.agg #[iv 0, .slice none 0 0]), 2, 32) := by kernel_rfl
theorem one_rt (x : LR) : ∀ u ∈ lrC x, u.oneCell' = true := by
  intro u hu
  simp [lrC] at hu
  rcases hu with rfl | rfl <;> rfl
def DistR (l : List LR) : Prop := ∀ (i j : Nat) x y, i ≠ j → l[i]? = some x → l[j]? = some y → ∀ g o h o', x.q = some ⟨g, o, none⟩ → y.q = some ⟨h, o', none⟩ → g ≠ h
theorem DistR.nil : DistR [] := by intro i j x y _ hx; simp at hx
theorem DistR.snoc {l : List LR} (h : DistR l) {x : LR} (hx : ∀ y ∈ l, ∀ g o h o', x.q = some ⟨g, o, none⟩ → y.q = some ⟨h, o', none⟩ → g ≠ h) : DistR (l ++ [x]) := by
  have at' : ∀ (i : Nat) a, (l ++ [x])[i]? = some a → (i < l.length ∧ l[i]? = some a) ∨ (i = l.length ∧ a = x) := by
    intro i a ha
    rcases Nat.lt_or_ge i l.length with h1 | h1
    · rw [List.getElem?_append_left h1] at ha; exact Or.inl ⟨h1, ha⟩
    · rw [List.getElem?_append_right h1] at ha
      rcases Nat.eq_or_lt_of_le h1 with h2 | h2
      · rw [← h2] at ha; simp at ha; exact Or.inr ⟨h2.symm, ha.symm⟩
      · rw [List.getElem?_eq_none (by simp; omega)] at ha; cases ha
  intro i j a b hij ha hb g o h' o' e1 e2
  rcases at' i a ha with ⟨_, h1⟩ | ⟨hi, rfl⟩
  · rcases at' j b hb with ⟨_, h2⟩ | ⟨hj, rfl⟩
    · exact h i j a b hij h1 h2 g o h' o' e1 e2
    · exact (hx a (List.mem_of_getElem? h1) h' o' g o e2 e1).symm
  · rcases at' j b hb with ⟨_, h2⟩ | ⟨hj, rfl⟩
    · exact hx b (List.mem_of_getElem? h2) g o h' o' e1 e2
    · omega
/-- Routes in a row of the call's own. -/
structure Rts (w : World) (base : Nat) (V : Value) (l : List LR) : Prop where
  row : w.ownsRow base 30 2 V l.length (l.flatMap lrC)
  fib : ∀ x ∈ l, Own w base 3 x.q (x.fibs.map iv)
  dist : DistR l
  cap : ∀ x ∈ l, x.fibs.length ≤ x.cap ∧ x.cap ≤ 9223372036854775807
theorem Rts.keep {w w' : World} {base : Nat} {V : Value} {l : List LR} (h : Rts w base V l) (hb : Fresh w w') : Rts w' base V l := ⟨ownsRow_keep h.row hb, fun x hx => (h.fib x hx).keep hb, h.dist, h.cap⟩
theorem Rts.nil (w : World) (base : Nat) {V : Value} (h : w.ownsRow base 30 2 V 0 []) : Rts w base V [] := ⟨h, fun x hx => by simp at hx, DistR.nil, fun x hx => by simp at hx⟩
theorem Rts.blk {w : World} {base : Nat} {V : Value} {l : List LR} (h : Rts w base V l) : ∀ x ∈ l, ∀ g o, x.q = some ⟨g, o, none⟩ → g < w.heap.size := by
  intro x hx g o e
  rcases h.fib x hx with ⟨h0, _⟩ | ⟨b, sp, h1, h2, h3⟩
  · rw [h0] at e; cases e
  · rw [h1] at e; cases e; exact h3.lt
/-- Rows of other types than routes stay, but for the variable. -/
def KpR (bo : Nat) (w w' : World) : Prop := ∀ g t cs, RowAt w g t cs → t ≠ 30 → g ≠ bo → RowAt w' g t cs
theorem KpR.refl (bo : Nat) (w : World) : KpR bo w w := fun _ _ _ h _ _ => h
theorem KpR.trans {bo : Nat} {a b c : World} (h : KpR bo a b) (k : KpR bo b c) : KpR bo a c := fun g t cs hr n1 n2 => k g t cs (h g t cs hr n1 n2) n1 n2
theorem KpR.fresh {bo : Nat} {a b : World} (h : Fresh a b) : KpR bo a b := fun _ _ _ hr _ _ => hr.keep h
theorem KpR.own {bo : Nat} {a b : World} (h : KpR bo a b) {base : Nat} {q : Option Addr} {xs : List Value} (ho : Own a base 3 q xs) (hq : ∀ g o, q = some ⟨g, o, none⟩ → g ≠ bo) : Own b base 3 q xs := by
  rcases ho with ho | ⟨g, sp, h1, h2, h3⟩
  · exact Or.inl ho
  · exact Or.inr ⟨g, sp, h1, h2, h g _ _ h3 (by decide) (hq g 0 h1)⟩
/-- The nodes seen, as a number. -/
def MaskOf (m : Nat) (seen : List Int) : Prop := m < 256 ∧ ∀ x : Nat, x < 8 → (m / 2 ^ x % 2 = 1 ↔ (x : Int) ∈ seen)
theorem mask_bit (m x : Nat) : (m / 2 ^ x % 2 = 1) ↔ m.testBit x = true := by
  rw [Nat.testBit_eq_decide_div_mod_eq, decide_eq_true_eq]
theorem MaskOf.put {m x : Nat} {seen : List Int} (h : MaskOf m seen) (hx : x < 8) : MaskOf (m ||| 2 ^ x) (seen ++ [(x : Int)]) := by
  refine ⟨Nat.or_lt_two_pow (n := 8) h.1 (Nat.pow_lt_pow_right (by omega) hx), fun y hy => ?_⟩
  have h2 := h.2 y hy
  rw [mask_bit] at h2 ⊢
  rw [Nat.testBit_or, Nat.testBit_two_pow, Bool.or_eq_true, h2, List.mem_append, decide_eq_true_eq]
  simp
  constructor
  · rintro (h | h)
    · exact Or.inl h
    · exact Or.inr (by omega)
  · rintro (h | h)
    · exact Or.inl h
    · exact Or.inr (by omega)
theorem mask_one {x : Nat} (hx : x < 8) : MaskOf (2 ^ x) [(x : Int)] := by
  have := MaskOf.put (m := 0) (seen := []) ⟨by omega, fun y _ => by simp⟩ hx
  simpa using this
end Go.Proofs.Ytlapicgeokjpjaa

/- Contracts: all routes between two nodes, the program's search: the walk. -/
namespace Go.Proofs.Ytlapicgeokjpjaa
open Go.RowKit Go.PlainAid

theorem Rts.snoc {w w2 w3 : World} {base c' : Nat} {V v3 : Value} {l : List LR} {s : Int} {q' : Option Addr} {fs : List Int} (h : Rts w base V l) (hf : Fresh w w2) (hbw : base ≤ w.heap.size) (ho : Own w2 w.heap.size 3 q' (fs.map iv)) (hc1 : fs.length ≤ c') (hc2 : c' ≤ 9223372036854775807)
    (hown : w3.ownsRow base 30 2 v3 (l.length + 1) (l.flatMap lrC ++ [iv s, .slice q' fs.length c'])) (hk : ∀ g t cs, RowAt w2 g t cs → (t ≠ 30 ∨ V.ownBlock ≠ some g) → RowAt w3 g t cs) : Rts w3 base v3 (l ++ [⟨s, q', c', fs⟩]) := by
  have hS : ∀ {b : Nat} {pp : Option Addr} {cs : List Value}, Own w2 b 3 pp cs → Own w3 b 3 pp cs := by
    intro b pp cs h
    rcases h with h1 | ⟨g, sp, a1, a2, a3⟩
    · exact Or.inl h1
    · exact Or.inr ⟨g, sp, a1, a2, hk _ _ _ a3 (Or.inl (by decide))⟩
  refine ⟨?_, ?_, h.dist.snoc ?_, ?_⟩
  · rw [List.length_append, List.flatMap_append]; simpa using hown
  · intro x hx
    rcases List.mem_append.1 hx with hx | hx
    · exact hS ((h.fib x hx).keep hf)
    · rw [List.mem_singleton.1 hx]; exact (hS ho).mono hbw
  · intro y hy g o h' o' e1 e2
    have h1 := h.blk y hy h' o' e2
    rcases ho with ⟨e0, _⟩ | ⟨b, sp, e0, e3, e4⟩
    · simp only at e1; rw [e0] at e1; cases e1
    · simp only at e1; rw [e0] at e1; cases e1; omega
  · intro x hx
    rcases List.mem_append.1 hx with hx | hx
    · exact h.cap x hx
    · rw [List.mem_singleton.1 hx]; exact ⟨hc1, hc2⟩
theorem Rts.setO {w : World} {base g : Nat} {V u : Value} {l : List LR} {T : TypeId} {cs : List Value} (h : Rts w base V l) (hr : RowAt w g T cs) (h1 : 30 ≠ T) (h2 : 3 ≠ T) (i : Nat) : Rts (w.setCell ⟨g, i, none⟩ u) base V l :=
  ⟨owns_setO h.row hr h1 i, fun x hx => (h.fib x hx).setO hr h2 _ _, h.dist, h.cap⟩
theorem Own.holds {w : World} {base : Nat} {t : TypeId} {q : Option Addr} {xs : List Value} (h : Own w base t q xs) : ∀ b, q = some b → ∀ j u, xs[j]? = some u → w.cell? (b.add j) = some u := by
  intro b e j u hu
  rcases h with ⟨h0, _⟩ | ⟨g, sp, h1, _, h3⟩
  · rw [h0] at e; cases e
  · rw [h1] at e; cases e
    have hc := h3.cell (i := j) (v := u) (by rw [List.getElem?_append_left (List.getElem?_eq_some_iff.1 hu).1]; exact hu)
    unfold Addr.add
    split
    · next e => subst e; exact hc
    · simpa only [Nat.zero_add] using hc
theorem Own.isNone {w : World} {base : Nat} {t : TypeId} {q : Option Addr} {xs : List Value} (h : Own w base t q xs) (e : q = none) : xs = [] := by
  rcases h with ⟨_, h0⟩ | ⟨g, sp, h1, _⟩
  · exact h0
  · rw [h1] at e; cases e
theorem fgrow0 {w w' : World} (h : w.grownBy w' none) : Fresh w w' := (frefl w).grown h (Nat.le_refl _) (fun k hk => by cases hk)
theorem KpR.int {bo : Nat} {a b : World} (h : KpR bo a b) {base : Nat} {q : Option Addr} {xs cs : List Value} (ho : Own a base 3 q xs) (hr : RowAt a bo 45 cs) : Own b base 3 q xs :=
  h.own ho fun g o e he => by
    subst he
    rcases ho with ⟨h0, _⟩ | ⟨g', sp, e1, _, e3⟩
    · rw [h0] at e; cases e
    · rw [e1] at e; cases e; exact absurd (e3.inj hr).1 (by decide)
def kidsR (F : List Fib) (t : Int) (k : Nat) (seen fs : List Int) (i : Nat) : List (List Int) := match kidR F seen fs i with | some c => dfsR F t k c.1 c.2 | none => []
def partR (F : List Fib) (t : Int) (k : Nat) (seen fs : List Int) (i : Nat) : List (List Int) := (List.range i).flatMap (kidsR F t k seen fs)
theorem partR_succ (F : List Fib) (t : Int) (k : Nat) (seen fs : List Int) (i : Nat) : partR F t k seen fs (i + 1) = partR F t k seen fs i ++ kidsR F t k seen fs i := by unfold partR; rw [List.range_succ, List.flatMap_append]; simp
theorem partR_all {F : List Fib} {t : Int} {k : Nat} {seen fs : List Int} (h : lastI seen ≠ t) : dfsR F t (k + 1) seen fs = partR F t k seen fs F.length := by rw [dfs_on h]; rfl
theorem partR_le (F : List Fib) (t : Int) (k : Nat) (seen fs : List Int) {i j : Nat} (h : i ≤ j) : (partR F t k seen fs i).length ≤ (partR F t k seen fs j).length := by
  induction j with
  | zero =>
    have : i = 0 := by omega
    subst this; exact Nat.le_refl _
  | succ j ih =>
    rcases Nat.eq_or_lt_of_le h with h1 | h1
    · subst h1; exact Nat.le_refl _
    · rw [partR_succ, List.length_append]; have := ih (by omega); omega
end Go.Proofs.Ytlapicgeokjpjaa

/- Contracts: routes sorted (the library's sort at rows of two cells). -/
namespace Go.Proofs.Ytlapicgeokjpjaa
open Go.RowKit Go.PlainAid

section
variable {α : Type} [Inhabited α]
theorem flat_at (enc : α → List Value) (k : Nat) (hk : ∀ x, (enc x).length = k) (hk0 : 0 < k) (d : Array α) (j : Nat) (hj : j < d.size * k) : (d.toList.flatMap enc)[j]? = some ((Go.Sort.flatK enc k d)[j]!) := by
  rw [Go.Sort.get_flatK enc k d j hj]
  have hq : j / k < d.size := Nat.div_lt_of_lt_mul (by rw [Nat.mul_comm]; exact hj)
  have hr : j % k < k := Nat.mod_lt _ hk0
  have hd : d.toList[j / k]? = some d[j / k]! := by
    rw [List.getElem?_eq_getElem (by simpa using hq), getElem!_pos d _ hq]; simp
  have := flat_get enc k hk d.toList (j / k) (j % k) hr _ hd
  rw [show j / k * k + j % k = j by rw [Nat.mul_comm]; exact Nat.div_add_mod j k] at this
  rw [this]
  have hlen := hk d[j / k]!
  generalize enc d[j / k]! = e at hlen
  have hre : j % k < e.length := by rw [hlen]; exact hr
  rw [List.getElem?_eq_getElem hre, getElem!_pos e _ hre]
theorem sortK_other {enc : α → List Value} {k : Nat} {w : World} {b n g : Nat} {d' : Array α} {os : Array Obj} {t : TypeId} {cs : List Value} (hr : RowAt w g t cs) (hne : g ≠ b) : RowAt (sortWorldK enc k w b 0 n d' os) g t cs := by
  have hlt := hr.lt
  unfold RowAt at *
  unfold sortWorldK Go.Sort.grow Go.Sort.putRowK Go.Sort.putRow Go.Sort.mapBlock
  simp only [Go.Sort.ahead]
  rw [Array.getElem?_append_left (by simpa using hlt), Array.getElem?_modify, if_neg (Ne.symm hne)]
  exact hr
theorem sortK_fresh {enc : α → List Value} {k : Nat} {w0 w : World} {b n : Nat} {d' : Array α} {os : Array Obj} (hf : Fresh w0 w) (hb : w0.heap.size ≤ b) : Fresh w0 (sortWorldK enc k w b 0 n d' os) := by
  obtain ⟨h1, h2, h3, h4, h5⟩ := hf
  unfold sortWorldK Go.Sort.grow Go.Sort.putRowK Go.Sort.putRow Go.Sort.mapBlock
  refine ⟨h1, h2, h3, by simp [Go.Sort.ahead]; omega, fun i hi => ?_⟩
  simp only [Go.Sort.ahead]
  rw [Array.getElem?_append_left (by simp; omega), Array.getElem?_modify, if_neg (by omega)]
  exact h5 i hi
theorem sortK_row {enc : α → List Value} {k : Nat} (hk : ∀ x, (enc x).length = k) (hk0 : 0 < k) {w : World} {b n : Nat} {d d' : Array α} {os : Array Obj} {t : TypeId} {sp : List Value} (hr : RowAt w b t (d.toList.flatMap enc ++ sp)) (hs : d'.size = d.size) : RowAt (sortWorldK enc k w b 0 n d' os) b t (d'.toList.flatMap enc ++ sp) := by
  have hlt := hr.lt
  unfold RowAt at *
  unfold sortWorldK Go.Sort.grow Go.Sort.putRowK Go.Sort.putRow Go.Sort.mapBlock
  simp only [Go.Sort.ahead]
  rw [Array.getElem?_append_left (by simpa using hlt), Array.getElem?_modify, if_pos rfl, hr]
  simp only [Option.map_some, Go.Sort.onCells, Option.some.injEq, Obj.cells.injEq, and_true]
  have hl1 : (d.toList.flatMap enc).length = d.size * k := by rw [flat_len enc k hk]; simp
  have hl2 : (d'.toList.flatMap enc).length = d.size * k := by rw [flat_len enc k hk]; simp [hs]
  apply Array.ext_getElem?
  intro i
  simp only [Go.Sort.putCells, Array.getElem?_mapIdx, List.getElem?_toArray]
  rcases Nat.lt_or_ge i (d.size * k) with h | h
  · rw [List.getElem?_append_left (by omega), List.getElem?_append_left (by omega), flat_at enc k hk hk0 d i h, flat_at enc k hk hk0 d' i (by rw [hs]; exact h)]
    simp [hs, h]
  · rw [List.getElem?_append_right (by omega), List.getElem?_append_right (by omega), hl1, hl2]
    cases sp[i - d.size * k]? with
    | none => rfl
    | some v => simp only [Option.map_some]; rw [if_neg (by simp [hs]; omega)]
theorem holdsK_row {enc : α → List Value} {k : Nat} (hk : ∀ x, (enc x).length = k) (hk0 : 0 < k) {w : World} {b : Nat} {d : Array α} {t : TypeId} {sp : List Value} (hr : RowAt w b t (d.toList.flatMap enc ++ sp)) : Go.Sort.HoldsK enc k w b 0 d := by
  intro j hj
  rw [Go.Sort.size_flatK] at hj
  have hl1 : (d.toList.flatMap enc).length = d.size * k := by rw [flat_len enc k hk]; simp
  refine ⟨?_, hr.frozen _⟩
  have := hr.cell (i := 0 + j) (v := (Go.Sort.flatK enc k d)[j]!) (by rw [Nat.zero_add, List.getElem?_append_left (by omega)]; exact flat_at enc k hk hk0 d j hj)
  simpa using this
end
theorem owns_row {w : World} {base size n : Nat} {E : TypeId} {V : Value} {xs : List Value} (h : w.ownsRow base E size V n xs) (hn : 0 < n) : ∃ g cap sp, V = .slice (some ⟨g, 0, none⟩) n cap ∧ base ≤ g ∧ RowAt w g E (xs ++ sp) ∧ n ≤ cap ∧ cap ≤ maxLen ∧ (xs ++ sp).length = cap * size := by
  obtain ⟨h1, ⟨_, h2⟩ | ⟨g, cap, cur, hv, hb, hh, h3, h4, h5, h6⟩⟩ := h
  · omega
  · have e : cur.toList = xs ++ cur.toList.drop (n * size) := by rw [← h6, List.take_append_drop]
    refine ⟨g, cap, cur.toList.drop (n * size), hv, hb, ?_, h3, h4, ?_⟩
    · unfold RowAt; rw [hh, ← e]
    · rw [← e]; simpa using h5
theorem row_owns {w : World} {base size n g cap : Nat} {E : TypeId} {xs sp : List Value} (hb : base ≤ g) (hr : RowAt w g E (xs ++ sp)) (hn : n ≤ cap) (hc : cap ≤ maxLen) (hl : (xs ++ sp).length = cap * size) (hx : xs.length = n * size) : w.ownsRow base E size (.slice (some ⟨g, 0, none⟩) n cap) n xs :=
  ⟨hx, Or.inr ⟨g, cap, (xs ++ sp).toArray, rfl, hb, hr, hn, hc, by simpa using hl, by simp [← hx]⟩⟩
end Go.Proofs.Ytlapicgeokjpjaa

/- Contracts: routes sorted, in place. -/
namespace Go.Proofs.Ytlapicgeokjpjaa
open Go.RowKit Go.PlainAid

theorem ltOf_eq {α : Type} (c : α → α → Int) : ltOf c = ltC c := rfl
theorem CmpOk.swo {α : Type} {c : α → α → Int} (h : CmpOk c) : Go.Sort.SWO (ltOf c) := by
  refine ⟨fun x => ?_, fun x y z => ?_, fun x y z h1 h2 => ?_⟩
  · have := h.sw x x; simp only [ltOf, decide_eq_false_iff_not]; omega
  · have a1 := h.tr x y z; have a2 := h.tr y z x; have a3 := h.tr z x y
    have s1 := h.sw x y; have s2 := h.sw y x; have s3 := h.sw y z; have s4 := h.sw z y; have s5 := h.sw x z; have s6 := h.sw z x
    simp only [ltOf, decide_eq_true_eq]; omega
  · exact h.trn z y x h2 h1
theorem rts_sorted {w w' : World} {base g n cap : Nat} {sp : List Value} {l : List LR} (_hl : 0 < l.length) (h : Rts w base (.slice (some ⟨g, 0, none⟩) n cap) l) (hb : base ≤ g) (σ : List (Fin l.length)) (hσ : σ.Nodup) (hσl : σ.length = l.length)
    (hcap : l.length ≤ cap) (hc2 : cap ≤ maxLen) (hsz : (l.flatMap lrC ++ sp).length = cap * 2) (hn : n = l.length)
    (hr : RowAt w' g 30 ((σ.map fun i => l[i]).flatMap lrC ++ sp)) (hk : ∀ g' t cs, RowAt w g' t cs → t ≠ 30 → RowAt w' g' t cs) : Rts w' base (.slice (some ⟨g, 0, none⟩) n cap) (σ.map fun i => l[i]) := by
  have hS : ∀ {pp : Option Addr} {cs : List Value}, Own w base 3 pp cs → Own w' base 3 pp cs := by
    intro pp cs h
    rcases h with h1 | ⟨g', sp', a1, a2, a3⟩
    · exact Or.inl h1
    · exact Or.inr ⟨g', sp', a1, a2, hk _ _ _ a3 (by decide)⟩
  have hmem : ∀ x ∈ σ.map fun i => l[i], x ∈ l := by
    intro x hx
    obtain ⟨i, _, rfl⟩ := List.mem_map.1 hx
    exact List.getElem_mem i.isLt
  have hlen : (σ.map fun i => l[i]).length = l.length := by simpa using hσl
  refine ⟨?_, fun x hx => hS (h.fib x (hmem x hx)), ?_, fun x hx => h.cap x (hmem x hx)⟩
  · subst hn
    rw [hlen]
    refine row_owns hb hr hcap hc2 ?_ ?_
    · rw [List.length_append, flat_len lrC 2 (fun _ => rfl), hlen]
      rw [List.length_append, flat_len lrC 2 (fun _ => rfl)] at hsz
      exact hsz
    · rw [flat_len lrC 2 (fun _ => rfl), hlen]
  · intro i j x y hij hx hy
    rw [List.getElem?_map] at hx hy
    cases hi : σ[i]? with
    | none => rw [hi] at hx; cases hx
    | some a =>
      cases hj : σ[j]? with
      | none => rw [hj] at hy; cases hy
      | some b =>
        rw [hi] at hx
        rw [hj] at hy
        simp only [Option.map_some, Option.some.injEq] at hx hy
        have hab : a ≠ b := by
          intro e
          subst e
          obtain ⟨hi1, hi2⟩ := List.getElem?_eq_some_iff.1 hi
          obtain ⟨hj1, hj2⟩ := List.getElem?_eq_some_iff.1 hj
          rcases Nat.lt_or_gt_of_ne hij with h1 | h1
          · exact List.pairwise_iff_getElem.1 hσ i j hi1 hj1 h1 (by rw [hi2, hj2])
          · exact List.pairwise_iff_getElem.1 hσ j i hj1 hi1 h1 (by rw [hi2, hj2])
        exact h.dist a.val b.val x y (fun e => hab (Fin.ext e)) (by rw [← hx]; exact List.getElem?_eq_getElem a.isLt) (by rw [← hy]; exact List.getElem?_eq_getElem b.isLt)
end Go.Proofs.Ytlapicgeokjpjaa

/- Contracts: all routes between two nodes, the program's side. -/
namespace Go.Proofs.Ytlapicgeokjpjaa
open Go.RowKit Go.PlainAid

theorem six_rows (w : World) (xs ys zz us vs ts : List Value) (t1 t2 t3 t4 t5 t6 : TypeId) : ∃ W6, W6 = (((((w.alloc (.cells xs.toArray t1)).alloc (.cells ys.toArray t2)).alloc (.cells zz.toArray t3)).alloc (.cells us.toArray t4)).alloc (.cells vs.toArray t5)).alloc (.cells ts.toArray t6) ∧ W6.heap.size = w.heap.size + 1 + 1 + 1 + 1 + 1 + 1 ∧ Fresh w W6 ∧
    RowAt W6 w.heap.size t1 xs ∧ RowAt W6 (w.heap.size + 1) t2 ys ∧ RowAt W6 (w.heap.size + 1 + 1) t3 zz ∧ RowAt W6 (w.heap.size + 1 + 1 + 1) t4 us ∧ RowAt W6 (w.heap.size + 1 + 1 + 1 + 1) t5 vs ∧ RowAt W6 (w.heap.size + 1 + 1 + 1 + 1 + 1) t6 ts := by
  obtain ⟨W3, h3, hz3, hf3, a, b, c⟩ := three_rows w xs ys zz t1 t2 t3
  obtain ⟨W6, h6, hz6, hf6, d, e, f⟩ := three_rows W3 us vs ts t4 t5 t6
  rw [hz3] at d e f hz6
  exact ⟨W6, by rw [h6, h3], hz6, fstep hf3 hf6, a.keep hf6, b.keep hf6, c.keep hf6, d, e, f⟩
theorem net_at {n : Net} (h : netB n = true) : n.nodes.length ≤ 8 ∧ n.fibers.length ≤ 14 ∧ ∀ f ∈ n.fibers, fibB n.nodes.length f = true := by
  unfold netB at h
  simp only [Bool.and_eq_true, decide_eq_true_eq, List.all_eq_true, List.mem_range] at h
  obtain ⟨⟨⟨h1, h2⟩, _⟩, h4⟩ := h
  have := inB_iff.1 h1
  refine ⟨by omega, h2, fun f hf => ?_⟩
  obtain ⟨k, hk⟩ := List.getElem?_of_mem hf
  exact fibAt_good hk (h4 k (List.getElem?_eq_some_iff.1 hk).1)
theorem net_fib {n : Net} (h : netB n = true) : ∀ f ∈ n.fibers, 0 ≤ f.a ∧ f.a < f.b ∧ f.b < (n.nodes.length : Int) := by
  intro f hf
  have := (net_at h).2.2 f hf
  unfold fibB at this
  simp only [Bool.and_eq_true, decide_eq_true_eq] at this
  exact this.1.1
theorem net_len {n : Net} (h : netB n = true) : LenOk n := by
  intro f hf
  have := (net_at h).2.2 f hf
  unfold fibB at this
  simp only [Bool.and_eq_true, inB_iff] at this
  omega
theorem walk_idx {F : List Fib} {s : Int} : ∀ {l out : List Int}, walkR F s l = some out → ∀ i ∈ l, 0 ≤ i ∧ i < (F.length : Int) := by
  intro l
  induction hn : l.length generalizing l with
  | zero =>
    intro out _ i hi
    have : l = [] := List.eq_nil_of_length_eq_zero hn
    subst this; simp at hi
  | succ n ih =>
    intro out h i hi
    have hne : l ≠ [] := by intro e; subst e; simp at hn
    have hl : l = l.dropLast ++ [l.getLast hne] := (List.dropLast_concat_getLast hne).symm
    rw [hl, walkR_snoc] at h
    cases hw : walkR F s l.dropLast with
    | none => rw [hw] at h; cases h
    | some o =>
      rw [hw] at h
      rw [hl] at hi
      rcases List.mem_append.1 hi with hi | hi
      · exact ih (l := l.dropLast) (by simp [hn]) hw i hi
      · simp only [List.mem_singleton] at hi
        subst hi
        simp only [Option.bind_some] at h
        unfold stepR at h
        split at h
        · next hb => have := inB_iff.1 hb; omega
        · cases h
theorem raw_ok {n : Net} {s t : Int} (h : netB n = true) (hs : 0 ≤ s ∧ s < (n.nodes.length : Int)) {R : Int × List Int} (hR : R ∈ rawR n s t) : RtOk n R.2 := by
  obtain ⟨_, _, out, h1, _⟩ := rawR_mem hR
  obtain ⟨a, b, c⟩ := wkIn (net_fib h) hs h1
  have := nodup_le a b
  have h8 := (net_at h).1
  exact ⟨walk_idx h1, by omega⟩
theorem raw_many {n : Net} {s t : Int} (h : netB n = true) : (rawR n s t).length ≤ 1099511627775 := by
  obtain ⟨h1, h2, _⟩ := net_at h
  unfold rawR
  split
  · simp
  · rw [List.length_map]
    refine Nat.le_trans dfs_many ?_
    refine Nat.le_trans (Nat.pow_le_pow_left (by omega : n.fibers.length + 1 ≤ 15) _) ?_
    exact Nat.le_trans (Nat.pow_le_pow_right (by omega) h1) (by decide)
end Go.Proofs.Ytlapicgeokjpjaa

