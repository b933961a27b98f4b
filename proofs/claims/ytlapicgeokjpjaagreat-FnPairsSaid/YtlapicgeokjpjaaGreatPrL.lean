/- Plain: the best pair is disjoint and has the smallest length of all partners of its first route (no program in sight). -/
import Derived.Test.YtlapicgeokjpjaaGreatTr2
import Derived.Test.YtlapicgeokjpjaaGreatBl
import Derived.Test.YtlapicgeokjpjaaGreatPo2
namespace Go.Proofs.YtlapicgeokjpjaaGreat
open Go.RowKit

theorem common_comm {x y : List Int} (hx : x.Nodup) (hy : y.Nodup) : (commonF x y).length = (commonF y x).length := by
  rw [common_nodup hx, common_nodup hy]
  refine Nat.le_antisymm ?_ ?_
  · have hf : (x.filter fun k => decide (k ∈ y)).Nodup := hx.filter _
    refine hf.length_le_of_subset fun z hz => ?_
    rw [List.mem_filter, decide_eq_true_eq] at hz ⊢
    exact ⟨hz.2, hz.1⟩
  · have hf : (y.filter fun k => decide (k ∈ x)).Nodup := hy.filter _
    refine hf.length_le_of_subset fun z hz => ?_
    rw [List.mem_filter, decide_eq_true_eq] at hz ⊢
    exact ⟨hz.2, hz.1⟩
theorem uses_cm (a b : List Int) : usesB a b = usesB b a := by
  unfold usesB
  rw [Bool.eq_iff_iff, List.any_eq_true, List.any_eq_true]
  constructor
  · rintro ⟨z, h1, h2⟩
    exact ⟨z, by simpa using h2, by simpa using h1⟩
  · rintro ⟨z, h1, h2⟩
    exact ⟨z, by simpa using h2, by simpa using h1⟩
theorem apart_comm (F : List Fib) (a b : List Int) : apartF F a b = apartF F b a := by
  unfold apartF
  congr 1
  rw [Bool.eq_iff_iff, List.any_eq_true, List.any_eq_true]
  constructor
  · rintro ⟨z, h1, h2⟩
    obtain ⟨u, h3, h4⟩ := List.any_eq_true.1 h2
    exact ⟨u, h3, List.any_eq_true.2 ⟨z, h1, by rw [sameG_symm]; exact h4⟩⟩
  · rintro ⟨z, h1, h2⟩
    obtain ⟨u, h3, h4⟩ := List.any_eq_true.1 h2
    exact ⟨u, h3, List.any_eq_true.2 ⟨z, h1, by rw [sameG_symm]; exact h4⟩⟩
theorem disj_comm {n : Net} {s t : Int} {a b : List Int} (k : Int) (hn : netB n = true) (hs : 0 ≤ s ∧ s < (n.nodes.length : Int)) (ha : RtGood n s t a) (hb : RtGood n s t b) : disjB n s a b k = disjB n s b a k := by
  have h1 := disj_two hn hs ha hb
  have h2 := disj_two hn hs hb ha
  obtain ⟨_, a2, _⟩ := nodes_at hn hs ha
  obtain ⟨_, b2, _⟩ := nodes_at hn hs hb
  rw [common_comm a2 b2, h2] at h1
  unfold disjB
  rw [apart_comm n.fibers a b, uses_cm a b]
  rw [← h1]
theorem good_vis {n : Net} {s t : Int} {a : List Int} (hs : 0 ≤ s ∧ s < (n.nodes.length : Int)) (h : RtGood n s t a) : isVis n s a = true ∧ endW n (s, a) = t := by
  obtain ⟨h0, out, h1, h2⟩ := h
  constructor
  · unfold isVis
    rw [visR_go (inB_t (by omega) (by omega)) (by intro e; exact h0 (List.eq_nil_of_length_eq_zero e)), h1]; rfl
  · unfold endW
    rw [h1]; exact h2
theorem bestQ_min {S : Nat × Nat → Int} : ∀ {L : List (Nat × Nat)} {y : Nat × Nat}, bestQ S L = some y → ∀ z ∈ L, S y ≤ S z := by
  intro L
  induction hn : L.length generalizing L with
  | zero =>
    intro y h
    have : L = [] := List.eq_nil_of_length_eq_zero hn
    subst this; cases h
  | succ n ih =>
    intro y h z hz
    have hne : L ≠ [] := by intro e; subst e; simp at hn
    have hl : L = L.dropLast ++ [L.getLast hne] := (List.dropLast_concat_getLast hne).symm
    rw [hl, bestQ_snoc] at h
    rw [hl] at hz
    cases hb : bestQ S L.dropLast with
    | none =>
      rw [hb] at h
      have h0 := bestQ_none hb
      rw [h0] at hz
      simp only [List.nil_append, List.mem_singleton] at hz
      have : y = L.getLast hne := by cases h; rfl
      rw [hz, this]; exact Int.le_refl _
    | some u =>
      rw [hb] at h
      have hu := ih (L := L.dropLast) (by simp [hn]) hb
      unfold bst at h
      simp only at h
      rcases List.mem_append.1 hz with hz | hz
      · have := hu z hz
        split at h <;> (cases h; omega)
      · simp only [List.mem_singleton] at hz
        rw [hz]
        split at h
        · cases h; exact Int.le_refl _
        · cases h; omega
theorem allR_sorted {n : Net} {s t : Int} {i j : Nat} {X Y : Int × List Int} (hij : i ≤ j) (hX : (allR n s t)[i]? = some X) (hY : (allR n s t)[j]? = some Y) : lenR n.fibers X.2 ≤ lenR n.fibers Y.2 := by
  rcases Nat.lt_or_ge i j with h | h
  · have hp : (allR n s t).Pairwise fun x y => (!ltC (cmpR n.fibers) y x) = true := by
      unfold allR
      exact List.pairwise_mergeSort (le := fun x y => !ltC (cmpR n.fibers) y x) (fun a b c h1 h2 => by simp only [Bool.not_eq_true'] at *; exact (cmpR_ok n.fibers).trn a b c h1 h2) (fun a b => by
        cases e : ltC (cmpR n.fibers) b a
        · simp
        · simp [(cmpR_ok n.fibers).asym _ _ e]) _
    obtain ⟨h1, e1⟩ := List.getElem?_eq_some_iff.1 hX
    obtain ⟨h2, e2⟩ := List.getElem?_eq_some_iff.1 hY
    have := List.pairwise_iff_getElem.1 hp i j h1 h2 h
    rw [e1, e2] at this
    have h3 : ¬ cmpR n.fibers Y X < 0 := by simpa [ltC] using this
    rcases Int.lt_or_le (lenR n.fibers Y.2) (lenR n.fibers X.2) with h4 | h4
    · exfalso
      refine h3 ?_
      have : cmpI (lenR n.fibers Y.2) (lenR n.fibers X.2) = -1 := by unfold cmpI; rw [if_pos h4]
      rw [cmpR_eq]
      unfold orC
      simp [this]
    · exact h4
  · have : i = j := by omega
    subst this
    rw [hX] at hY; cases hY; exact Int.le_refl _
theorem okK_parts {n : Net} {s t k : Int} (h : okK n s t k = true) : okA n s t = true ∧ kindB k = true ∧ netB n = true ∧ (0 ≤ s ∧ s < (n.nodes.length : Int)) := by
  unfold okK at h
  simp only [Bool.and_eq_true] at h
  have hp := pairB_in (okA_pair h.1)
  exact ⟨h.1, h.2, hp.1, hp.2.1⟩
theorem count_found {n : Net} {s t k : Int} : decide (0 < (countF n s t k).1) = (bestF n s t k).2.2.1 := by
  cases h : okK n s t k
  · rw [bestF_no h]; unfold countF; rw [h]; rfl
  · cases h2 : bestP n s t k with
    | none =>
      rw [bestF_none h h2]
      have := bestQ_none h2
      unfold countF; rw [h, this]; rfl
    | some x =>
      rw [bestF_some h h2]
      have hm := bestQ_mem h2
      have := List.length_pos_of_mem hm
      unfold countF; rw [h]
      simp only [if_true, decide_eq_true_eq]
      omega
theorem oks {n : Net} {s t k : Int} : (bestF n s t k).2.2.2 = okK n s t k ∧ (countF n s t k).2 = okK n s t k ∧ (plenF n s t k).2 = okK n s t k ∧ (trapF n s t k).2 = okK n s t k := by
  have h1 : (bestF n s t k).2.2.2 = okK n s t k := by
    cases h : okK n s t k
    · rw [bestF_no h]
    · cases h2 : bestP n s t k with
      | none => rw [bestF_none h h2]
      | some x => rw [bestF_some h h2]
  refine ⟨h1, ?_, ?_, ?_⟩
  · unfold countF; split <;> simp_all
  · unfold plenF; split <;> simp_all
  · unfold trapF; split <;> simp_all
theorem plen_zero {n : Net} {s t k : Int} (h : (bestF n s t k).2.2.1 = false) : (plenF n s t k).1 = 0 := by
  unfold plenF; rw [h]; simp
/-- What the law asks of a pair that is found. -/
theorem pair_found {n : Net} {s t k : Int} (h : (bestF n s t k).2.2.1 = true) :
    okK n s t k = true ∧ ∃ A B : List Int, (bestF n s t k).1 = (s, A) ∧ (bestF n s t k).2.1 = (s, B) ∧ RtGood n s t A ∧ RtGood n s t B ∧ disjB n s A B k = true ∧ lenR n.fibers A + lenR n.fibers B = (plenF n s t k).1 ∧
      ∃ P : List Int, partF n (s, A) k = ((s, P), true, true) ∧ RtGood n s t P ∧ lenR n.fibers P = lenR n.fibers B := by
  have hk : okK n s t k = true := by
    cases hk : okK n s t k
    · rw [bestF_no hk] at h; cases h
    · rfl
  refine ⟨hk, ?_⟩
  obtain ⟨hA, hkd, hn, hs⟩ := okK_parts hk
  cases h2 : bestP n s t k with
  | none => rw [bestF_none hk h2] at h; cases h
  | some x =>
    have hm := bestQ_mem h2
    obtain ⟨m1, m2, m3, m4⟩ := mem_toI.1 hm
    obtain ⟨X, hX⟩ : ∃ X, (allR n s t)[x.1]? = some X := ⟨_, List.getElem?_eq_getElem m1⟩
    obtain ⟨Y, hY⟩ : ∃ Y, (allR n s t)[x.2]? = some Y := ⟨_, List.getElem?_eq_getElem m3⟩
    have hd : disjB n s X.2 Y.2 k = true := by
      have := m4
      unfold dP at this; rw [hX, hY] at this; exact this
    obtain ⟨X1, gX⟩ := good_mem (List.mem_of_getElem? hX)
    obtain ⟨Y1, gY⟩ := good_mem (List.mem_of_getElem? hY)
    have eX : X = (s, X.2) := by rw [← X1]
    have eY : Y = (s, Y.2) := by rw [← Y1]
    have e1 : (bestF n s t k).1 = (s, X.2) := by rw [bestF_some hk h2]; show ((allR n s t)[x.1]?).getD (0, []) = _; rw [hX]; exact eX
    have e2 : (bestF n s t k).2.1 = (s, Y.2) := by rw [bestF_some hk h2]; show ((allR n s t)[x.2]?).getD (0, []) = _; rw [hY]; exact eY
    refine ⟨X.2, Y.2, e1, e2, gX, gY, hd, ?_, ?_⟩
    · rw [plen_some (by rw [oks.1, hk]) h, e1, e2]
    · obtain ⟨vX, wX⟩ := good_vis hs gX
      have hpB : partB n (s, X.2) k = true := by unfold partB; rw [hn, vX, hkd]; rfl
      have hpA : okA n s (endW n (s, X.2)) = true := by rw [wX]; exact hA
      rw [partF_yes hpB hpA]
      have hf : ∃ P, (allR n s t).find? (fun y => disjB n s X.2 y.2 k) = some P := by
        rw [← Option.isSome_iff_exists, List.find?_isSome]
        exact ⟨Y, List.mem_of_getElem? hY, hd⟩
      obtain ⟨P, hP⟩ := hf
      have hpr : prtF n (s, X.2) k = some P := by unfold prtF; rw [wX]; exact hP
      rw [hpr]
      have hPd := List.find?_some hP
      obtain ⟨P1, gP⟩ := good_mem (List.mem_of_find?_eq_some hP)
      refine ⟨P.2, by rw [← P1]; rfl, gP, ?_⟩
      obtain ⟨m, hmP⟩ := List.getElem?_of_mem (List.mem_of_find?_eq_some hP)
      have hfirst : ∃ m, m ≤ x.2 ∧ (allR n s t)[m]? = some P := by
        obtain ⟨_, l1, l2, hab, hno⟩ := List.find?_eq_some_iff_append.1 hP
        refine ⟨l1.length, ?_, by rw [hab]; simp⟩
        rcases Nat.lt_or_ge x.2 l1.length with hlt | hge
        · exfalso
          have : l1[x.2]? = some Y := by rw [← hY, hab, List.getElem?_append_left hlt]
          have := hno Y (List.mem_of_getElem? this)
          rw [hd] at this; cases this
        · exact hge
      clear hmP m
      obtain ⟨m, hmx, hmP⟩ := hfirst
      have hle := allR_sorted hmx hmP hY
      have hne : m ≠ x.1 := by
        intro e
        rw [e, hX] at hmP
        cases hmP
        have hPd' : disjB n s X.2 X.2 k = true := hPd
        rw [disj_self gX] at hPd'; cases hPd'
      have hmN := (List.getElem?_eq_some_iff.1 hmP).1
      have hmin := bestQ_min h2
      have hS : sumP n (allR n s t) x = lenR n.fibers X.2 + lenR n.fibers Y.2 := by unfold sumP; rw [hX, hY]; rfl
      rcases Nat.lt_or_ge m x.1 with hlt | hge
      · have hin : (m, x.1) ∈ pairsF n s t k := mem_toI.2 ⟨hmN, hlt, m1, by
          show dP n s (allR n s t) k m x.1 = true
          unfold dP; rw [hmP, hX]
          show disjB n s P.2 X.2 k = true
          rw [disj_comm k hn hs gP gX]; exact hPd⟩
        have := hmin _ hin
        have hS2 : sumP n (allR n s t) (m, x.1) = lenR n.fibers P.2 + lenR n.fibers X.2 := by unfold sumP; rw [hmP, hX]; rfl
        rw [hS, hS2] at this
        omega
      · have hin : (x.1, m) ∈ pairsF n s t k := mem_toI.2 ⟨m1, by omega, hmN, by
          show dP n s (allR n s t) k x.1 m = true
          unfold dP; rw [hX, hmP]
          exact hPd⟩
        have := hmin _ hin
        have hS2 : sumP n (allR n s t) (x.1, m) = lenR n.fibers X.2 + lenR n.fibers P.2 := by unfold sumP; rw [hX, hmP]; rfl
        rw [hS, hS2] at this
        omega
/-- The first of all routes. -/
def firstR (n : Net) (s t : Int) : Int × List Int := ((allA n s t)[0]?).getD (0, [])
theorem trap_found {n : Net} {s t k : Int} (h : (bestF n s t k).2.2.1 = true) : (trapF n s t k).1 = !(partF n (firstR n s t) k).2.1 := by
  obtain ⟨hk, A, B, _⟩ := pair_found h
  obtain ⟨hA, hkd, hn, hs⟩ := okK_parts hk
  have hne : pairsF n s t k ≠ [] := by
    intro e
    have := count_found (n := n) (s := s) (t := t) (k := k)
    rw [h] at this
    unfold countF at this; rw [hk, e] at this; simp at this
  have hpos : 0 < (allR n s t).length := by
    rcases Nat.eq_zero_or_pos (allR n s t).length with h0 | h0
    · exfalso; refine hne ?_
      unfold pairsF; rw [h0]; rfl
    · exact h0
  obtain ⟨R, hR⟩ : ∃ R, (allR n s t)[0]? = some R := ⟨_, List.getElem?_eq_getElem hpos⟩
  obtain ⟨R1, gR⟩ := good_mem (List.mem_of_getElem? hR)
  have eR : R = (s, R.2) := by rw [← R1]
  have hF : firstR n s t = (s, R.2) := by
    unfold firstR; rw [(okA_len hA).2, hR]; exact eR
  obtain ⟨vR, wR⟩ := good_vis hs gR
  have hpB : partB n (s, R.2) k = true := by unfold partB; rw [hn, vR, hkd]; rfl
  have hpA : okA n s (endW n (s, R.2)) = true := by rw [wR]; exact hA
  rw [hF, partF_yes hpB hpA]
  show (trapF n s t k).1 = !(prtF n (s, R.2) k).isSome
  have h0 : dP n s (allR n s t) k 0 0 = false := by unfold dP; rw [hR]; exact disj_self gR
  unfold trapF; rw [hk]
  show firstP (pairsF n s t k) = _
  have ht := trap_law (d := dP n s (allR n s t) k) (N := (allR n s t).length) h0 hne
  have ht' : firstP (pairsF n s t k) = _ := ht
  rw [ht']
  congr 1
  unfold prtF
  rw [wR, Bool.eq_iff_iff, List.any_eq_true, List.find?_isSome]
  constructor
  · rintro ⟨m, hm, hd⟩
    have hlt := List.mem_range.1 hm
    obtain ⟨Y, hY⟩ : ∃ Y, (allR n s t)[m]? = some Y := ⟨_, List.getElem?_eq_getElem hlt⟩
    unfold dP at hd; rw [hR, hY] at hd
    exact ⟨Y, List.mem_of_getElem? hY, hd⟩
  · rintro ⟨Y, hY, hd⟩
    obtain ⟨m, hm⟩ := List.getElem?_of_mem hY
    exact ⟨m, List.mem_range.2 (List.getElem?_eq_some_iff.1 hm).1, by unfold dP; rw [hR, hm]; exact hd⟩
end Go.Proofs.YtlapicgeokjpjaaGreat
