/- Plain laws: the smallest assignment within a height, searched both ways (no program in sight). -/
import Derived.Test.YtmpdljcihiidaaaGreatAgP
namespace Go.Proofs.YtmpdljcihiidaaaGreat
open Go.RowKit

theorem find_range {β : Type} {F : Nat → Option β} {b : β} {f : Nat} (h : ∀ g, g < f → F g = none) (hf : F f = some b) : ∀ m, f < m → (List.range m).findSome? F = some b := by
  intro m
  induction m with
  | zero => intro hm; omega
  | succ m ih =>
    intro hm
    rw [List.range_succ, List.findSome?_append]
    rcases Nat.lt_or_ge f m with h1 | h1
    · rw [ih h1]; rfl
    · have : f = m := by omega
      subst this
      have hn : (List.range f).findSome? F = none := by rw [List.findSome?_eq_none_iff]; intro g hg; exact h g (List.mem_range.1 hg)
      rw [hn]; simp [hf]
/-- The first assignment within a height that extends one of the first requests. -/
def exS (L : List RqT) (h : Int) : Nat → List (Int × Int) → Option (List (Int × Int))
  | 0, pre => some pre
  | k + 1, pre => (List.range (h - cntOf L pre.length + 1).toNat).findSome? fun (f : Nat) =>
      if freeAt (takenTo L pre pre.length L.length : Int) (cntOf L pre.length) f then exS L h k (pre ++ [((f : Int), cntOf L pre.length)]) else none
theorem exS_none {L : List RqT} {h c T : Int} {k : Nat} {pre : List (Int × Int)} (hc : cntOf L pre.length = c) (hT : (takenTo L pre pre.length L.length : Int) = T) (hn : ∀ f : Nat, (f : Int) + c ≤ h → freeAt T c f = true → exS L h k (pre ++ [((f : Int), c)]) = none) : exS L h (k + 1) pre = none := by
  unfold exS
  rw [List.findSome?_eq_none_iff]
  intro f hf
  rw [hc, hT]
  rw [hc] at hf
  split
  · next hfr => exact hn f (by have := List.mem_range.1 hf; omega) hfr
  · rfl
theorem exS_some {L : List RqT} {h c T : Int} {k f : Nat} {pre B : List (Int × Int)} (hc : cntOf L pre.length = c) (hT : (takenTo L pre pre.length L.length : Int) = T) (hf : (f : Int) + c ≤ h) (hfr : freeAt T c f = true) (hB : exS L h k (pre ++ [((f : Int), c)]) = some B)
    (hn : ∀ g : Nat, g < f → freeAt T c g = true → exS L h k (pre ++ [((g : Int), c)]) = none) : exS L h (k + 1) pre = some B := by
  unfold exS
  refine find_range (f := f) ?_ ?_ _ ?_
  · intro g hg
    rw [hc, hT]
    split
    · next hgr => exact hn g hg hgr
    · rfl
  · rw [hc, hT, if_pos hfr]; exact hB
  · rw [hc]; omega
theorem exS_len {L : List RqT} {h : Int} : ∀ {k : Nat} {pre B : List (Int × Int)}, exS L h k pre = some B → B.length = pre.length + k := by
  intro k
  induction k with
  | zero => intro pre B e; simp [exS] at e; rw [e]; rfl
  | succ k ih =>
    intro pre B e
    unfold exS at e
    obtain ⟨f, _, hf⟩ := List.exists_of_findSome?_eq_some e
    split at hf
    · have := ih hf; simp at this; omega
    · cases hf
/-- What lies behind the first blocks is none. -/
def padZ (n : Nat) (pre : List (Int × Int)) : List (Int × Int) := pre ++ List.replicate (n - pre.length) (0, 0)
theorem padZ_len {n : Nat} {pre : List (Int × Int)} (h : pre.length ≤ n) : (padZ n pre).length = n := by unfold padZ; simp; omega
theorem padZ_full {n : Nat} {pre : List (Int × Int)} (h : n ≤ pre.length) : padZ n pre = pre := by unfold padZ; rw [Nat.sub_eq_zero_of_le h]; simp
theorem padZ_set {n : Nat} {pre : List (Int × Int)} (h : pre.length < n) (b : Int × Int) : (padZ n pre).set pre.length b = padZ n (pre ++ [b]) := by
  unfold padZ
  rw [List.set_append_right _ _ (Nat.le_refl _), Nat.sub_self, show n - pre.length = (n - (pre ++ [b]).length) + 1 by simp; omega, List.replicate_succ]
  simp
theorem padZ_reset {n : Nat} {pre : List (Int × Int)} (h : pre.length < n) (b : Int × Int) : (padZ n (pre ++ [b])).set pre.length (0, 0) = padZ n pre := by
  rw [← padZ_set h, List.set_set]
  unfold padZ
  rw [List.set_append_right _ _ (Nat.le_refl _), Nat.sub_self, show n - pre.length = (n - (pre.length + 1)) + 1 by omega, List.replicate_succ]
  simp
theorem bmask_pad (n : Nat) (pre : List (Int × Int)) (k : Nat) : bmask (padZ n pre) k = bmask pre k := by
  unfold bmask padZ
  rcases Nat.lt_or_ge k pre.length with h | h
  · rw [List.getElem?_append_left h]
  · rw [List.getElem?_append_right h, List.getElem?_eq_none h, List.getElem?_replicate]
    split
    · next b hb =>
      split at hb
      · cases hb; simp
      · cases hb
    · rfl
theorem taken_congr (L : List RqT) {B C : List (Int × Int)} (h : ∀ k, bmask B k = bmask C k) (i n : Nat) : takenTo L B i n = takenTo L C i n := by
  induction n with
  | zero => rfl
  | succ n ih => rw [takenTo_succ, takenTo_succ, ih]; unfold takeStep; rw [h]
theorem taken_pad (L : List RqT) (n : Nat) (pre : List (Int × Int)) (i m : Nat) : takenTo L (padZ n pre) i m = takenTo L pre i m := taken_congr L (bmask_pad n pre) i m
/-- Blocks that are all valid. -/
def AGood (B : List (Int × Int)) : Prop := ∀ b ∈ B, goodB b.1 b.2 = true
theorem AGood.nil : AGood [] := by intro b hb; cases hb
theorem AGood.snoc {B : List (Int × Int)} (h : AGood B) {b : Int × Int} (hb : goodB b.1 b.2 = true) : AGood (B ++ [b]) := by
  intro x hx
  rcases List.mem_append.1 hx with hx | hx
  · exact h x hx
  · simp at hx; subst hx; exact hb
theorem AGood.bgood {B : List (Int × Int)} (h : AGood B) : BGood B := fun b hb _ => h b hb
theorem AGood.pad {B : List (Int × Int)} (h : AGood B) (n : Nat) : BGood (padZ n B) := by
  intro x hx h0
  rcases List.mem_append.1 hx with hx | hx
  · exact h x hx
  · rw [List.eq_of_mem_replicate hx] at h0; simp at h0
theorem free_pre {L : List RqT} {pre : List (Int × Int)} (hB : AGood pre) {f c : Int} (hg : goodB f c = true) : freeB L pre pre.length (f, c) (fun k => decide (k < pre.length)) = freeAt (takenTo L pre pre.length L.length : Int) c f := by
  rw [← free_taken hB.bgood pre.length hg]
  congr 1
  funext k
  unfold doneB
  rw [List.getD_eq_getElem?_getD]
  rcases Nat.lt_or_ge k pre.length with h | h
  · rw [List.getElem?_eq_getElem h]
    have := good_pos (hB _ (List.getElem_mem h))
    simp [h, this]
  · rw [List.getElem?_eq_none h]; simp; omega
theorem fits_at {m c : Int} {j : Nat} {f : Int} (h : (fits m c)[j]? = some f) : ∃ g : Nat, f = (g : Int) ∧ freeAt m c g = true ∧ (g : Int) + c ≤ 24 := by
  have hm : f ∈ fits m c := List.mem_of_getElem? h
  unfold fits fitsTo at hm
  obtain ⟨h3, h4⟩ := List.mem_filter.1 hm
  obtain ⟨k, hk, rfl⟩ := List.mem_map.1 h3
  have := List.mem_range.1 hk
  exact ⟨k, rfl, h4, by omega⟩
theorem fits_pairwise (m c : Int) : (fits m c).Pairwise (· < ·) := by
  unfold fits fitsTo
  refine List.Pairwise.filter _ ?_
  rw [List.pairwise_map]
  exact List.pairwise_lt_range.imp (by intro a b h; simp only [Int.ofNat_eq_natCast]; omega)
theorem fits_has {m c : Int} {g : Nat} (h : freeAt m c g = true) (h2 : (g : Int) + c ≤ 24) : ∃ j : Nat, (fits m c)[j]? = some (g : Int) := by
  have hm : (g : Int) ∈ fits m c := by
    unfold fits fitsTo
    exact List.mem_filter.2 ⟨List.mem_map.2 ⟨g, List.mem_range.2 (by omega), rfl⟩, h⟩
  obtain ⟨j, hj⟩ := List.getElem?_of_mem hm
  exact ⟨j, hj⟩
theorem fits_order {m c : Int} {i j : Nat} {f g : Int} (hi : (fits m c)[i]? = some f) (hj : (fits m c)[j]? = some g) (h : f < g) : i < j := by
  rcases Nat.lt_or_ge i j with h1 | h1
  · exact h1
  · exfalso
    obtain ⟨a1, a2⟩ := List.getElem?_eq_some_iff.1 hi
    obtain ⟨b1, b2⟩ := List.getElem?_eq_some_iff.1 hj
    rcases Nat.eq_or_lt_of_le h1 with h2 | h2
    · subst h2; rw [a2] at b2; omega
    · have := List.pairwise_iff_getElem.1 (fits_pairwise m c) j i b1 a1 h2
      rw [a2, b2] at this; omega
/-- The reference's search, over the places that fit. -/
theorem exS_fits_some {L : List RqT} {h c T : Int} {k j : Nat} {f : Int} {pre B : List (Int × Int)} (hc : cntOf L pre.length = c) (hT : (takenTo L pre pre.length L.length : Int) = T) (hh : h ≤ 24) (hj : (fits T c)[j]? = some f) (hf : f + c ≤ h) (hB : exS L h k (pre ++ [(f, c)]) = some B)
    (hn : ∀ i g, i < j → (fits T c)[i]? = some g → exS L h k (pre ++ [(g, c)]) = none) : exS L h (k + 1) pre = some B := by
  obtain ⟨g, rfl, h1, h2⟩ := fits_at hj
  refine exS_some hc hT hf h1 hB fun g' hg' hgr => ?_
  obtain ⟨i, hi⟩ := fits_has hgr (by omega)
  exact hn i _ (fits_order hi hj (by omega)) hi
theorem exS_fits_none {L : List RqT} {h c T : Int} {k j : Nat} {pre : List (Int × Int)} (hc : cntOf L pre.length = c) (hT : (takenTo L pre pre.length L.length : Int) = T) (hh : h ≤ 24) (hj : ∀ f, (fits T c)[j]? = some f → h < f + c)
    (hn : ∀ i g, i < j → (fits T c)[i]? = some g → exS L h k (pre ++ [(g, c)]) = none) : exS L h (k + 1) pre = none := by
  refine exS_none hc hT fun g hg hgr => ?_
  obtain ⟨i, hi⟩ := fits_has hgr (by omega)
  refine hn i _ ?_ hi
  rcases Nat.lt_or_ge i j with h1 | h1
  · exact h1
  · exfalso
    have hil := (List.getElem?_eq_some_iff.1 hi).1
    have hjl : j < (fits T c).length := by omega
    have hjf := List.getElem?_eq_getElem hjl
    have := hj _ hjf
    rcases Nat.eq_or_lt_of_le h1 with h2 | h2
    · subst h2; have e := Option.some.inj (hi.symm.trans hjf); omega
    · have := List.pairwise_iff_getElem.1 (fits_pairwise T c) j i hjl hil h2
      obtain ⟨_, e2⟩ := List.getElem?_eq_some_iff.1 hi
      rw [e2] at this; omega
/-- The least height for which there is an assignment. -/
def exH (L : List RqT) : Nat → Int → Option (List (Int × Int) × Int)
  | 0, _ => none
  | k + 1, h => match exS L h L.length [] with
    | some B => some (B, h)
    | none => exH L k (h + 1)
theorem exH_yes {L : List RqT} {k : Nat} {h : Int} {B : List (Int × Int)} (e : exS L h L.length [] = some B) : exH L (k + 1) h = some (B, h) := by unfold exH; rw [e]
theorem exH_no {L : List RqT} {k : Nat} {h : Int} (e : exS L h L.length [] = none) : exH L (k + 1) h = exH L k (h + 1) := by conv => lhs; unfold exH; rw [e]
def exA (L : List RqT) : Option (List (Int × Int) × Int) := exH L (25 - (bdR L (2 ^ L.length)).1).toNat (bdR L (2 ^ L.length)).1
def axF (n : Net) (L : List RqT) : List (Int × Int) × Int × Bool := if reqsB n L = true then (match exA L with | some r => (r.1, r.2, true) | none => ([], 0, false)) else ([], 0, false)
theorem exH_bd {L : List RqT} : ∀ {k : Nat} {h : Int} {r : List (Int × Int) × Int}, exH L k h = some r → r.1.length = L.length ∧ h ≤ r.2 ∧ r.2 < h + k := by
  intro k
  induction k with
  | zero => intro h r e; simp [exH] at e
  | succ k ih =>
    intro h r e
    cases hs : exS L h L.length [] with
    | none => rw [exH_no hs] at e; have := ih e; omega
    | some B => rw [exH_yes hs] at e; cases e; have := exS_len hs; simp at this; exact ⟨this, by omega, by omega⟩
end Go.Proofs.YtmpdljcihiidaaaGreat
