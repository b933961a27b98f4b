/- Plain: the order of a plan's lights, the place of a light, lights let go. -/
import Derived.Test.YteckjlkhopkogaaGreatPtP
import Derived.Test.YteckjlkhopkogaaGreatRml
namespace Go.Proofs.YteckjlkhopkogaaGreat
open Go.RowKit

def okF (Q : PlanV) : PlanV × Bool := if planB Q = true then (Q, true) else (zeroP, false)
theorem okF_yes {Q : PlanV} (h : planB Q = true) : okF Q = (Q, true) := by unfold okF; rw [if_pos h]
theorem okF_no {Q : PlanV} (h : planB Q = false) : okF Q = (zeroP, false) := by unfold okF; rw [if_neg (by rw [h]; simp)]
theorem okF_small {Q : PlanV} (h : PlSmall Q) : SmPl (okF Q).1 := by
  cases hb : planB Q
  · rw [okF_no hb]; exact zeroP_small
  · rw [okF_yes hb]
    obtain ⟨_, h12, _⟩ := planB_at hb
    exact ⟨h, by show Q.lights.length ≤ 1024; omega⟩
def mvF (P : PlanV) (id : Int) (R : Int × List Int) (b : Int × Int) : PlanV × Bool := if planB P = true ∧ 0 ≤ findL P.lights id then okF ⟨P.net, P.lights.set (findL P.lights id).toNat (id, R, b)⟩ else (zeroP, false)
theorem mvF_no {P : PlanV} {id : Int} {R : Int × List Int} {b : Int × Int} (h : ¬ (planB P = true ∧ 0 ≤ findL P.lights id)) : mvF P id R b = (zeroP, false) := by unfold mvF; rw [if_neg h]
theorem mvF_yes {P : PlanV} {id : Int} {R : Int × List Int} {b : Int × Int} (h : planB P = true ∧ 0 ≤ findL P.lights id) : mvF P id R b = okF ⟨P.net, P.lights.set (findL P.lights id).toNat (id, R, b)⟩ := by unfold mvF; rw [if_pos h]
theorem set_small {L : List LtV} {i : Nat} {x : LtV} (h : LtSm L) (hx : x.2.1.2.length ≤ 1048576) : LtSm (L.set i x) := by
  refine ⟨by simpa using h.1, fun y hy => ?_⟩
  rcases List.mem_or_eq_of_mem_set hy with h1 | h1
  · exact h.2 y h1
  · rw [h1]; exact hx
theorem mvF_small (P : PlanV) (id : Int) (R : Int × List Int) (b : Int × Int) (hs : PlSmall P) (hr : R.2.length ≤ 1048576) : SmPl (mvF P id R b).1 := by
  by_cases h : planB P = true ∧ 0 ≤ findL P.lights id
  · rw [mvF_yes h]
    exact okF_small ⟨hs.1, set_small hs.2 hr⟩
  · rw [mvF_no h]; exact zeroP_small
theorem get3 {A B C : List Value} {a b : Nat} (ha : A.length = a) (hb : B.length = b) (t : Nat) : (A ++ (B ++ C))[t]? = if t < a then A[t]? else if t < a + b then B[t - a]? else C[t - a - b]? := by
  rcases Nat.lt_or_ge t a with h | h
  · rw [if_pos h, List.getElem?_append_left (by omega)]
  · rw [if_neg (by omega), List.getElem?_append_right (by omega), ha]
    rcases Nat.lt_or_ge t (a + b) with h2 | h2
    · rw [if_pos h2, List.getElem?_append_left (by omega)]
    · rw [if_neg (by omega), List.getElem?_append_right (by omega), hb]
/-- The lights stand in the order of their numbers. -/
def IncL (L : List LtV) : Prop := ∀ (i j : Nat) (x y : LtV), i < j → L[i]? = some x → L[j]? = some y → x.1 < y.1
theorem planB_inc {P : PlanV} (h : planB P = true) : IncL P.lights := by
  obtain ⟨_, _, h3⟩ := planB_at h
  have step : ∀ k x y, P.lights[k]? = some x → P.lights[k + 1]? = some y → x.1 < y.1 := by
    intro k x y hx hy
    have hk : k + 1 < P.lights.length := by
      rcases Nat.lt_or_ge (k + 1) P.lights.length with h' | h'
      · exact h'
      · rw [List.getElem?_eq_none h'] at hy; cases hy
    have h4 := h3 (k + 1) hk
    rw [ltAt_of hy] at h4
    simp only [Bool.and_eq_true] at h4
    have h5 := h4.1.2
    rw [order_next (by omega) (show P.lights[k + 1 - 1]? = some x from hx)] at h5
    simpa using h5
  intro i j x y hij
  induction j generalizing y with
  | zero => omega
  | succ j ih =>
    intro hx hy
    rcases Nat.lt_or_ge i j with h' | h'
    · obtain ⟨z, hz⟩ : ∃ z, P.lights[j]? = some z := by
        rcases Nat.lt_or_ge j P.lights.length with h9 | h9
        · exact ⟨_, List.getElem?_eq_getElem h9⟩
        · rw [List.getElem?_eq_none (by omega)] at hy; cases hy
      have h1 := ih z h' hx hz
      have h2 := step j z y hz hy
      omega
    · have : i = j := by omega
      subst this
      exact step i x y hx hy
theorem posF_eq : ∀ {l : List LtV} {id : Int} {k : Nat}, k ≤ l.length → (∀ j y, j < k → l[j]? = some y → y.1 < id) → (∀ y, l[k]? = some y → ¬ y.1 < id) → posF l id = k
  | [], _, k, h, _, _ => by simp at h; subst h; rfl
  | a :: r, id, k, hk, h1, h2 => by
    unfold posF
    cases k with
    | zero => rw [if_neg (h2 a rfl)]
    | succ k =>
      rw [if_pos (h1 0 a (by omega) rfl)]
      rw [posF_eq (l := r) (k := k) (by simpa using hk) (fun j y hj hy => h1 (j + 1) y (by omega) (by simpa using hy)) (fun y hy => h2 y (by simpa using hy))]
theorem erase_get {α : Type} (l : List α) (i j : Nat) : (l.eraseIdx i)[j]? = if j < i then l[j]? else l[j + 1]? := by
  rw [List.getElem?_eraseIdx]
theorem ins_erase {L : List LtV} (h : IncL L) {i : Nat} {x y : LtV} (hx : L[i]? = some x) (he : y.1 = x.1) : insF (L.eraseIdx i) y = L.set i y := by
  have hi : i < L.length := by
    rcases Nat.lt_or_ge i L.length with h' | h'
    · exact h'
    · rw [List.getElem?_eq_none h'] at hx; cases hx
  have hlen : (L.eraseIdx i).length = L.length - 1 := by rw [List.length_eraseIdx, if_pos hi]
  have hp : posF (L.eraseIdx i) y.1 = i := by
    refine posF_eq (by omega) (fun j z hj hz => ?_) (fun z hz => ?_)
    · rw [erase_get, if_pos hj] at hz
      rw [he]; exact h j i z x hj hz hx
    · rw [erase_get, if_neg (by omega)] at hz
      have := h i (i + 1) x z (by omega) hx hz
      omega
  unfold insF
  rw [hp, List.set_eq_take_append_cons_drop, if_pos hi, List.eraseIdx_eq_take_drop_succ]
  have ht : (L.take i).length = i := by simp; omega
  rw [List.take_append_of_le_length (by omega), List.take_of_length_le (by omega), List.drop_append_of_le_length (by omega), List.drop_of_length_le (by omega), List.nil_append]
theorem findL_get {L : List LtV} {id : Int} (h : 0 ≤ findL L id) : ∃ x, L[(findL L id).toNat]? = some x ∧ x.1 = id := by
  obtain ⟨x, hx, hf⟩ := idxP_get (l := L) (f := fun x => x.1 == id) h
  exact ⟨x, hx, by simpa using hf⟩
theorem mv_same {P : PlanV} (h : planB P = true) {id : Int} (hi : 0 ≤ findL P.lights id) (R : Int × List Int) (b : Int × Int) : insF (P.lights.eraseIdx (findL P.lights id).toNat) (id, R, b) = P.lights.set (findL P.lights id).toNat (id, R, b) := by
  obtain ⟨x, hx, he⟩ := findL_get hi
  exact ins_erase (planB_inc h) hx he.symm
/-- Letting a light go by its place is letting it go by its number. -/
theorem erase_filter {L : List LtV} (h : IncL L) {i : Nat} {x : LtV} (hx : L[i]? = some x) : L.eraseIdx i = L.filter fun y => !(y.1 == x.1) := by
  have hi : i < L.length := by
    rcases Nat.lt_or_ge i L.length with h' | h'
    · exact h'
    · rw [List.getElem?_eq_none h'] at hx; cases hx
  have hs : L = L.take i ++ x :: L.drop (i + 1) := by
    have e : L[i] = x := by rw [List.getElem?_eq_getElem hi] at hx; exact Option.some.inj hx
    rw [← e, List.getElem_cons_drop, List.take_append_drop]
  rw [List.eraseIdx_eq_take_drop_succ]
  conv => rhs; rw [hs]
  rw [List.filter_append, List.filter_cons]
  have h0 : (!(x.1 == x.1)) = false := by simp
  rw [if_neg (by rw [h0]; simp)]
  have a1 : (L.take i).filter (fun y => !(y.1 == x.1)) = L.take i := by
    rw [List.filter_eq_self]
    intro y hy
    obtain ⟨j, hj⟩ := List.mem_iff_getElem?.1 hy
    rw [List.getElem?_take] at hj
    split at hj
    · next hji =>
      have := h j i y x hji hj hx
      simp; omega
    · cases hj
  have a2 : (L.drop (i + 1)).filter (fun y => !(y.1 == x.1)) = L.drop (i + 1) := by
    rw [List.filter_eq_self]
    intro y hy
    obtain ⟨j, hj⟩ := List.mem_iff_getElem?.1 hy
    rw [List.getElem?_drop] at hj
    have := h i (i + 1 + j) x y (by omega) hx hj
    simp; omega
  rw [a1, a2]
theorem IncL.pw {L : List LtV} : IncL L ↔ L.Pairwise fun x y => x.1 < y.1 := by
  rw [List.pairwise_iff_getElem]
  constructor
  · intro h i j hi hj hij
    exact h i j L[i] L[j] hij (List.getElem?_eq_getElem hi) (List.getElem?_eq_getElem hj)
  · intro h i j x y hij hx hy
    obtain ⟨hi, rfl⟩ := List.getElem?_eq_some_iff.1 hx
    obtain ⟨hj, rfl⟩ := List.getElem?_eq_some_iff.1 hy
    exact h i j hi hj hij
theorem IncL.filter {L : List LtV} (h : IncL L) (p : LtV → Bool) : IncL (L.filter p) := IncL.pw.2 ((IncL.pw.1 h).sublist List.filter_sublist)
/-- The lights whose numbers are not among some. -/
def keepL (L : List LtV) (ids : List Int) : List LtV := L.filter fun x => !ids.contains x.1
theorem keepL_nil (L : List LtV) : keepL L [] = L := by
  unfold keepL
  rw [List.filter_eq_self]; intro x _; simp
theorem keepL_snoc (L : List LtV) (ids : List Int) (id : Int) : keepL L (ids ++ [id]) = (keepL L ids).filter fun y => !(y.1 == id) := by
  unfold keepL
  rw [List.filter_filter]
  congr 1
  funext x
  by_cases he : x.1 = id <;> simp [he]
theorem findL_neg {L : List LtV} {id : Int} (h : findL L id < 0) : ∀ x ∈ L, x.1 ≠ id := by
  intro x hx he
  have := idxP_any L (fun x => x.1 == id)
  have h1 : L.any (fun x => x.1 == id) = true := List.any_eq_true.2 ⟨x, hx, by simp [he]⟩
  rw [h1] at this
  have h2 : 0 ≤ idxP L (fun x => x.1 == id) := by simpa using this
  unfold findL at h
  omega
theorem keepL_none {L : List LtV} {ids : List Int} {id : Int} (h : findL (keepL L ids) id < 0) : keepL L (ids ++ [id]) = keepL L ids := by
  rw [keepL_snoc, List.filter_eq_self]
  intro y hy
  have := findL_neg h y hy
  simpa using this
theorem keepL_some {L : List LtV} (hL : IncL L) {ids : List Int} {id : Int} (h : 0 ≤ findL (keepL L ids) id) : keepL L (ids ++ [id]) = (keepL L ids).eraseIdx (findL (keepL L ids) id).toNat := by
  obtain ⟨x, hx, he⟩ := findL_get h
  rw [erase_filter (L := keepL L ids) (hL.filter _) hx, keepL_snoc, he]
theorem keepL_zero {L : List LtV} (h : ∀ x ∈ L, 1 ≤ x.1) (ids : List Int) : keepL L (ids ++ [0]) = keepL L ids := by
  rw [keepL_snoc, List.filter_eq_self]
  intro y hy
  have := h y (List.mem_filter.1 hy).1
  simp; omega
theorem planB_ids {P : PlanV} (h : planB P = true) : ∀ x ∈ P.lights, 1 ≤ x.1 := by
  intro x hx
  have := planB_lt h x hx
  unfold ltB at this
  simp only [Bool.and_eq_true, inB_iff] at this
  exact this.1.1.1
def relB (P : PlanV) (ids : List Int) : Bool := planB P && ids.all fun id => id == 0 || decide (0 ≤ findL P.lights id)
def relF (P : PlanV) (ids : List Int) : PlanV × Bool := if relB P ids = true then (⟨P.net, keepL P.lights ids⟩, true) else (zeroP, false)
theorem relF_yes {P : PlanV} {ids : List Int} (h : relB P ids = true) : relF P ids = (⟨P.net, keepL P.lights ids⟩, true) := by unfold relF; rw [if_pos h]
theorem relF_no {P : PlanV} {ids : List Int} (h : relB P ids = false) : relF P ids = (zeroP, false) := by unfold relF; rw [if_neg (by rw [h]; simp)]
theorem relB_plan {P : PlanV} {ids : List Int} (h : planB P = false) : relB P ids = false := by unfold relB; rw [h]; rfl
theorem relB_bad {P : PlanV} {ids : List Int} {id : Int} (hm : id ∈ ids) (h0 : id ≠ 0) (h : findL P.lights id < 0) : relB P ids = false := by
  unfold relB
  have : (ids.all fun id => id == 0 || decide (0 ≤ findL P.lights id)) = false := by
    rw [List.all_eq_false]
    exact ⟨id, hm, by simp [h0]; omega⟩
  rw [this, Bool.and_false]
theorem relB_end {P : PlanV} {ids : List Int} (hp : planB P = true) (h : ∀ id ∈ ids, id = 0 ∨ 0 ≤ findL P.lights id) : relB P ids = true := by
  unfold relB
  rw [hp, Bool.true_and, List.all_eq_true]
  intro id hid
  rcases h id hid with h | h <;> simp [h]
theorem relF_small (P : PlanV) (ids : List Int) (hs : PlSmall P) : SmPl (relF P ids).1 := by
  cases h : relB P ids
  · rw [relF_no h]; exact zeroP_small
  · rw [relF_yes h]
    have hp : planB P = true := by unfold relB at h; simp only [Bool.and_eq_true] at h; exact h.1
    obtain ⟨_, h12, _⟩ := planB_at hp
    have hle : (keepL P.lights ids).length ≤ P.lights.length := List.length_filter_le _ _
    refine ⟨⟨hs.1, ⟨Nat.le_trans hle hs.2.1, fun x hx => hs.2.2 x (List.mem_filter.1 hx).1⟩⟩, ?_⟩
    show (keepL P.lights ids).length ≤ 1024
    omega
def adF (P : PlanV) (X : LtV) : PlanV × Bool := if planB P = true then okF ⟨P.net, insF P.lights X⟩ else (zeroP, false)
theorem adF_no {P : PlanV} {X : LtV} (h : planB P = false) : adF P X = (zeroP, false) := by unfold adF; rw [if_neg (by rw [h]; simp)]
theorem adF_yes {P : PlanV} {X : LtV} (h : planB P = true) : adF P X = okF ⟨P.net, insF P.lights X⟩ := by unfold adF; rw [if_pos h]
theorem ins_len (L : List LtV) (X : LtV) : (insF L X).length = L.length + 1 := by
  unfold insF
  have := posF_le L X.1
  simp; omega
theorem adF_small (P : PlanV) (X : LtV) (hs : PlSmall P) (hx : X.2.1.2.length ≤ 1048576) : SmPl (adF P X).1 := by
  cases h : planB P
  · rw [adF_no h]; exact zeroP_small
  · rw [adF_yes h]
    obtain ⟨_, h12, _⟩ := planB_at h
    refine okF_small ⟨hs.1, ⟨by show (insF P.lights X).length ≤ _; rw [ins_len]; omega, fun y hy => ?_⟩⟩
    rcases mem_ins hy with h1 | h1
    · rw [h1]; exact hx
    · exact hs.2.2 y h1
end Go.Proofs.YteckjlkhopkogaaGreat
