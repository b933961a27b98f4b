/- Plain laws: assignment by an order (no program in sight). -/
import Derived.Test.YtmpdljcihiidaaaGreatU5
import Derived.Test.YtmpdljcihiidaaaGreatFit
namespace Go.Proofs.YtmpdljcihiidaaaGreat
open Go.RowKit

theorem fitsTo_none {m c : Int} {k : Nat} (h : ∀ f : Nat, f < k → freeAt m c f = false) : fitsTo m c k = [] := by
  induction k with
  | zero => rfl
  | succ k ih => rw [fitsTo_no (h k (by omega))]; exact ih fun f hf => h f (by omega)
theorem fitsTo_head {m c : Int} {f k : Nat} (h : ∀ g : Nat, g < f → freeAt m c g = false) (hf : freeAt m c f = true) (hk : f < k) : (fitsTo m c k).head? = some (f : Int) := by
  induction k with
  | zero => omega
  | succ k ih =>
    rcases Nat.lt_or_ge f k with hlt | hge
    · have := ih hlt
      cases hb : freeAt m c k
      · rw [fitsTo_no hb]; exact this
      · rw [fitsTo_yes hb, List.head?_append, this]; rfl
    · have : f = k := by omega
      subst this
      rw [fitsTo_yes hf, fitsTo_none h]; rfl
theorem fits_none {m c : Int} (h : ∀ f : Nat, (f : Int) + c ≤ 24 → freeAt m c f = false) : (fits m c).head? = none := by
  unfold fits
  rw [fitsTo_none fun f hf => h f (by omega)]
  rfl
theorem fits_head {m c : Int} {f : Nat} (h : ∀ g : Nat, g < f → freeAt m c g = false) (hf : freeAt m c f = true) (hk : (f : Int) + c ≤ 24) : (fits m c).head? = some (f : Int) := by
  unfold fits
  exact fitsTo_head h hf (by omega)
/-- Whether a request has a block. -/
def doneB (B : List (Int × Int)) (k : Nat) : Bool := decide (0 < (B.getD k (0, 0)).2)
theorem free_taken {L : List RqT} {B : List (Int × Int)} (hB : BGood B) (i : Nat) {f c : Int} (hg : goodB f c = true) : freeB L B i (f, c) (doneB B) = freeAt (takenTo L B i L.length : Int) c f := by
  obtain ⟨e1, _, e3⟩ := mkN_ok hg
  have ht := taken_lt (L := L) (i := i) (n := L.length) hB
  have hfa : freeAt (takenTo L B i L.length : Int) c f = decide (takenTo L B i L.length &&& mkN (f, c) = 0) := by
    unfold freeAt
    rw [e1, and_i64 _ _ (lt63 ht) (lt63 e3)]
    by_cases h : takenTo L B i L.length &&& mkN (f, c) = 0
    · rw [h, decide_eq_true rfl]; rfl
    · rw [decide_eq_false h, beq_eq_false_iff_ne]; omega
  rw [hfa, Bool.eq_iff_iff, decide_eq_true_eq, taken_and]
  unfold freeB
  rw [List.all_eq_true]
  constructor
  · intro h k hk hki hc
    have := h k (List.mem_range.2 hk)
    by_cases hd : doneB B k = true
    · rw [confAt_comm] at hc
      simp [hki, hd, hc] at this
      rw [Nat.and_comm]; exact this
    · unfold doneB at hd
      simp only [decide_eq_true_eq] at hd
      unfold bmask
      cases hb : B[k]? with
      | none => simp
      | some b =>
        rw [List.getD_eq_getElem?_getD, hb] at hd
        simp only [Option.getD_some] at hd
        simp [hd]
  · intro h k hk
    have := h k (List.mem_range.1 hk)
    by_cases hki : k = i
    · simp [hki]
    · cases hc : confAt L i k
      · simp
      · have h2 := this hki (by rw [confAt_comm]; exact hc)
        rw [Nat.and_comm] at h2
        simp [h2]
/-- One request after the other, each at its first place. -/
def gStep (L : List RqT) (B : List (Int × Int)) (i : Nat) : Option (List (Int × Int)) := ((fits (takenTo L B i L.length : Int) (cntOf L i)).head?).map fun f => B.set i (f, cntOf L i)
def gTo (L : List RqT) (order : List Int) (k : Nat) : Option (List (Int × Int)) := (order.take k).foldl (fun b i => b.bind fun B => gStep L B i.toNat) (some (List.replicate L.length (0, 0)))
theorem gTo_succ {L : List RqT} {order : List Int} {k : Nat} {i : Int} (h : order[k]? = some i) : gTo L order (k + 1) = (gTo L order k).bind fun B => gStep L B i.toNat := by
  unfold gTo; rw [List.take_add_one, h, List.foldl_append]; rfl
theorem gTo_none {L : List RqT} {order : List Int} {k : Nat} (h : gTo L order k = none) : ∀ m, k ≤ m → gTo L order m = none := by
  intro m hm
  induction m with
  | zero => have : k = 0 := by omega
            subst this; exact h
  | succ m ih =>
    rcases Nat.lt_or_ge k (m + 1) with hlt | hge
    · have h2 := ih (by omega)
      rcases Nat.lt_or_ge m order.length with hl | hl
      · rw [gTo_succ (List.getElem?_eq_getElem hl), h2]; rfl
      · unfold gTo at h2 ⊢
        rw [List.take_of_length_le (by omega)] at h2 ⊢
        exact h2
    · have : k = m + 1 := by omega
      subst this; exact h
/-- An order of all requests. -/
def ordB (order : List Int) (n : Nat) : Bool := decide (order.length = n) && order.all (fun i => inB i 0 ((n : Int) - 1)) && decide order.Nodup
def agF (n : Net) (L : List RqT) (order : List Int) : List (Int × Int) × Int × Bool :=
  if reqsB n L = true ∧ ordB order L.length = true then (match gTo L order order.length with | some B => (B, heightTo B, true) | none => ([], 0, false)) else ([], 0, false)
theorem ordB_iff {order : List Int} {n : Nat} : ordB order n = true ↔ order.length = n ∧ (∀ i ∈ order, 0 ≤ i ∧ i < n) ∧ order.Nodup := by
  unfold ordB
  simp only [Bool.and_eq_true, decide_eq_true_eq, List.all_eq_true, inB_iff]
  constructor
  · rintro ⟨⟨h1, h2⟩, h3⟩; exact ⟨h1, fun i hi => by have := h2 i hi; omega, h3⟩
  · rintro ⟨h1, h2, h3⟩; exact ⟨⟨h1, fun i hi => by have := h2 i hi; omega⟩, h3⟩
/-- The program's view: the order, sorted, rises strictly within the bounds. -/
def risesB (s : List Int) (n : Nat) : Bool := (List.range s.length).all fun k => match s[k]? with | some x => inB x 0 ((n : Int) - 1) && (decide (k = 0) || (match s[k - 1]? with | some y => decide (y < x) | none => true)) | none => true
theorem sortI_perm (l : List Int) : (sortI l).Perm l := by unfold sortI; exact List.mergeSort_perm _ _
theorem sortI_sorted (l : List Int) : (sortI l).Pairwise (fun x y => x ≤ y) := by
  have := List.pairwise_mergeSort (le := fun x y : Int => decide (x ≤ y)) (fun a b c h1 h2 => by simp at *; omega) (fun a b => by simp; omega) l
  unfold sortI
  exact this.imp (by intro a b h; simpa using h)
theorem rises_nodup {l : List Int} (h : (sortI l).Pairwise (· < ·)) : l.Nodup := by
  have : (sortI l).Nodup := h.imp (by intro a b h; omega)
  exact (sortI_perm l).nodup_iff.1 this
theorem nodup_rises {l : List Int} (h : l.Nodup) : (sortI l).Pairwise (· < ·) := by
  have h1 : (sortI l).Nodup := (sortI_perm l).nodup_iff.2 h
  have h2 := sortI_sorted l
  exact (h2.and h1).imp (by intro a b h; omega)
theorem pairwise_of_step {s : List Int} (h : ∀ k x y, s[k]? = some x → s[k + 1]? = some y → x < y) : s.Pairwise (· < ·) := by
  induction s with
  | nil => exact List.Pairwise.nil
  | cons a s ih =>
    have hs := ih fun k x y h1 h2 => h (k + 1) x y (by simpa using h1) (by simpa using h2)
    refine List.Pairwise.cons ?_ hs
    intro b hb
    cases s with
    | nil => cases hb
    | cons c s =>
      have hac : a < c := h 0 a c rfl rfl
      rcases List.mem_cons.1 hb with rfl | hb
      · exact hac
      · have := List.rel_of_pairwise_cons hs hb
        omega
theorem rises_iff (l : List Int) (n : Nat) : risesB (sortI l) n = true ↔ (∀ i ∈ l, 0 ≤ i ∧ i < n) ∧ l.Nodup := by
  constructor
  · intro h
    have hall := List.all_eq_true.1 h
    have h1 : ∀ i ∈ sortI l, 0 ≤ i ∧ i < n := by
      intro i hi
      obtain ⟨k, hk⟩ := List.mem_iff_getElem?.1 hi
      have hlt : k < (sortI l).length := by
        rcases Nat.lt_or_ge k (sortI l).length with h' | h'
        · exact h'
        · rw [List.getElem?_eq_none h'] at hk; cases hk
      have := hall k (List.mem_range.2 hlt)
      simp only [hk, Bool.and_eq_true, inB_iff] at this
      omega
    refine ⟨fun i hi => h1 i ((sortI_mem l i).2 hi), rises_nodup (pairwise_of_step fun k x y hx hy => ?_)⟩
    have hlt : k + 1 < (sortI l).length := by
      rcases Nat.lt_or_ge (k + 1) (sortI l).length with h' | h'
      · exact h'
      · rw [List.getElem?_eq_none h'] at hy; cases hy
    have := hall (k + 1) (List.mem_range.2 hlt)
    simp [hx, hy] at this
    exact this.2
  · rintro ⟨h1, h2⟩
    have hp := nodup_rises h2
    unfold risesB
    rw [List.all_eq_true]
    intro k hk
    have hlt := List.mem_range.1 hk
    have hx : (sortI l)[k]? = some (sortI l)[k] := List.getElem?_eq_getElem hlt
    have hb := h1 _ ((sortI_mem l _).1 (List.getElem_mem hlt))
    rw [hx]
    simp only [Bool.and_eq_true, inB_iff, Bool.or_eq_true, decide_eq_true_eq]
    refine ⟨by omega, ?_⟩
    by_cases h0 : k = 0
    · exact Or.inl h0
    · refine Or.inr ?_
      have hlt' : k - 1 < (sortI l).length := by omega
      rw [List.getElem?_eq_getElem hlt']
      exact decide_eq_true (List.pairwise_iff_getElem.1 hp (k - 1) k hlt' hlt (by omega))
end Go.Proofs.YtmpdljcihiidaaaGreat
