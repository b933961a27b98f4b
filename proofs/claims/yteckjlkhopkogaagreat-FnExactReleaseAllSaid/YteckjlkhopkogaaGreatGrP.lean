/- Plain laws: risk groups (no program in sight). -/
import Derived.Test.YteckjlkhopkogaaGreatU3
namespace Go.Proofs.YteckjlkhopkogaaGreat
open Go.RowKit

def riskAt (F : List Fib) (i : Nat) : Int := match F[i]? with | some f => f.risk | none => 0
theorem riskAt_of {F : List Fib} {i : Nat} {f : Fib} (h : F[i]? = some f) : riskAt F i = f.risk := by unfold riskAt; rw [h]
/-- The fibers of a risk among the first ones. -/
def ofRisk (F : List Fib) (r : Int) : Nat → List Int
  | 0 => []
  | k + 1 => if riskAt F k = r then ofRisk F r k ++ [(k : Int)] else ofRisk F r k
theorem ofRisk_yes {F : List Fib} {r : Int} {k : Nat} (h : riskAt F k = r) : ofRisk F r (k + 1) = ofRisk F r k ++ [(k : Int)] := by show (if _ then _ else _) = _; rw [if_pos h]
theorem ofRisk_no {F : List Fib} {r : Int} {k : Nat} (h : ¬ riskAt F k = r) : ofRisk F r (k + 1) = ofRisk F r k := by show (if _ then _ else _) = _; rw [if_neg h]
theorem ofRisk_len (F : List Fib) (r : Int) (k : Nat) : (ofRisk F r k).length ≤ k := by
  induction k with
  | zero => simp [ofRisk]
  | succ k ih =>
    by_cases h : riskAt F k = r
    · rw [ofRisk_yes h]; simp; exact ih
    · rw [ofRisk_no h]; omega
theorem ofRisk_mem (F : List Fib) (r : Int) (k : Nat) (i : Int) : i ∈ ofRisk F r k ↔ 0 ≤ i ∧ i < k ∧ riskAt F i.toNat = r := by
  induction k with
  | zero => simp [ofRisk]; omega
  | succ k ih =>
    by_cases h : riskAt F k = r
    · rw [ofRisk_yes h, List.mem_append, List.mem_singleton, ih]
      constructor
      · rintro (⟨a, b, c⟩ | rfl)
        · exact ⟨a, by omega, c⟩
        · exact ⟨by omega, by omega, by simpa using h⟩
      · rintro ⟨a, b, c⟩
        by_cases e : i = k
        · exact Or.inr e
        · exact Or.inl ⟨a, by omega, c⟩
    · rw [ofRisk_no h, ih]
      constructor
      · rintro ⟨a, b, c⟩; exact ⟨a, by omega, c⟩
      · rintro ⟨a, b, c⟩
        refine ⟨a, ?_, c⟩
        by_cases e : i = k
        · subst e; exact absurd (by simpa using c) h
        · omega
/-- The groups of the risks 1, 2, .. -/
def grpTo (F : List Fib) : Nat → List (List Int)
  | 0 => []
  | m + 1 => if (ofRisk F ((m : Int) + 1) F.length).length = 0 then grpTo F m else grpTo F m ++ [ofRisk F ((m : Int) + 1) F.length]
theorem grpTo_no {F : List Fib} {m : Nat} (h : (ofRisk F ((m : Int) + 1) F.length).length = 0) : grpTo F (m + 1) = grpTo F m := by show (if _ then _ else _) = _; rw [if_pos h]
theorem grpTo_yes {F : List Fib} {m : Nat} (h : ¬ (ofRisk F ((m : Int) + 1) F.length).length = 0) : grpTo F (m + 1) = grpTo F m ++ [ofRisk F ((m : Int) + 1) F.length] := by show (if _ then _ else _) = _; rw [if_neg h]
theorem grpTo_len (F : List Fib) (m : Nat) : (grpTo F m).length ≤ m := by
  induction m with
  | zero => simp [grpTo]
  | succ m ih =>
    by_cases h : (ofRisk F ((m : Int) + 1) F.length).length = 0
    · rw [grpTo_no h]; omega
    · rw [grpTo_yes h]; simp; exact ih
theorem grpTo_mem (F : List Fib) (m : Nat) (g : List Int) : g ∈ grpTo F m ↔ ∃ r : Nat, r < m ∧ g = ofRisk F ((r : Int) + 1) F.length ∧ g.length ≠ 0 := by
  induction m with
  | zero => simp [grpTo]
  | succ m ih =>
    by_cases h : (ofRisk F ((m : Int) + 1) F.length).length = 0
    · rw [grpTo_no h, ih]
      constructor
      · rintro ⟨r, a, b, c⟩; exact ⟨r, by omega, b, c⟩
      · rintro ⟨r, a, b, c⟩
        refine ⟨r, ?_, b, c⟩
        by_cases e : r = m
        · subst e; rw [b] at c; exact absurd h c
        · omega
    · rw [grpTo_yes h, List.mem_append, List.mem_singleton, ih]
      constructor
      · rintro (⟨r, a, b, c⟩ | rfl)
        · exact ⟨r, by omega, b, c⟩
        · exact ⟨m, by omega, rfl, h⟩
      · rintro ⟨r, a, b, c⟩
        by_cases e : r = m
        · subst e; exact Or.inr b
        · exact Or.inl ⟨r, by omega, b, c⟩
/-- The fibers without a risk, each alone. -/
def zerTo (F : List Fib) : Nat → List (List Int)
  | 0 => []
  | k + 1 => if riskAt F k = 0 then zerTo F k ++ [[(k : Int)]] else zerTo F k
theorem zerTo_yes {F : List Fib} {k : Nat} (h : riskAt F k = 0) : zerTo F (k + 1) = zerTo F k ++ [[(k : Int)]] := by show (if _ then _ else _) = _; rw [if_pos h]
theorem zerTo_no {F : List Fib} {k : Nat} (h : ¬ riskAt F k = 0) : zerTo F (k + 1) = zerTo F k := by show (if _ then _ else _) = _; rw [if_neg h]
theorem zerTo_len (F : List Fib) (k : Nat) : (zerTo F k).length ≤ k := by
  induction k with
  | zero => simp [zerTo]
  | succ k ih =>
    by_cases h : riskAt F k = 0
    · rw [zerTo_yes h]; simp; exact ih
    · rw [zerTo_no h]; omega
theorem zerTo_mem (F : List Fib) (k : Nat) (g : List Int) : g ∈ zerTo F k ↔ ∃ i : Nat, i < k ∧ riskAt F i = 0 ∧ g = [(i : Int)] := by
  induction k with
  | zero => simp [zerTo]
  | succ k ih =>
    by_cases h : riskAt F k = 0
    · rw [zerTo_yes h, List.mem_append, List.mem_singleton, ih]
      constructor
      · rintro (⟨r, a, b, c⟩ | rfl)
        · exact ⟨r, by omega, b, c⟩
        · exact ⟨k, by omega, h, rfl⟩
      · rintro ⟨r, a, b, c⟩
        by_cases e : r = k
        · subst e; exact Or.inr c
        · exact Or.inl ⟨r, by omega, b, c⟩
    · rw [zerTo_no h, ih]
      constructor
      · rintro ⟨r, a, b, c⟩; exact ⟨r, by omega, b, c⟩
      · rintro ⟨r, a, b, c⟩
        refine ⟨r, ?_, b, c⟩
        by_cases e : r = k
        · subst e; exact absurd b h
        · omega
def groupsL (F : List Fib) : List (List Int) := grpTo F 9 ++ zerTo F F.length
def gIdx (F : List Fib) (i : Int) : Int := idxP (groupsL F) fun l => decide (i ∈ l)
/-- Whether two fibers fail with each other. -/
def sameG (F : List Fib) (i j : Int) : Bool := decide (i = j) || (decide (riskAt F i.toNat ≠ 0) && decide (riskAt F i.toNat = riskAt F j.toNat))
theorem sameG_symm (F : List Fib) (i j : Int) : sameG F i j = sameG F j i := by
  unfold sameG
  rw [Bool.eq_iff_iff]
  simp only [Bool.or_eq_true, Bool.and_eq_true, decide_eq_true_eq]
  constructor
  · rintro (rfl | ⟨a, b⟩)
    · exact Or.inl rfl
    · exact Or.inr ⟨by rw [← b]; exact a, b.symm⟩
  · rintro (rfl | ⟨a, b⟩)
    · exact Or.inl rfl
    · exact Or.inr ⟨by rw [← b]; exact a, b.symm⟩
theorem group_key {F : List Fib} {g : List Int} {i j : Int} (hg : g ∈ groupsL F) (hi : i ∈ g) (h0 : 0 ≤ j) (h1 : j < F.length) : j ∈ g ↔ sameG F i j = true := by
  unfold sameG
  simp only [Bool.or_eq_true, Bool.and_eq_true, decide_eq_true_eq]
  unfold groupsL at hg
  rw [List.mem_append, grpTo_mem, zerTo_mem] at hg
  rcases hg with ⟨r, hr, rfl, _⟩ | ⟨k, hk, hz, rfl⟩
  · rw [ofRisk_mem] at hi ⊢
    obtain ⟨a, b, c⟩ := hi
    constructor
    · rintro ⟨_, _, d⟩; exact Or.inr ⟨by omega, by omega⟩
    · rintro (rfl | ⟨d, e⟩)
      · exact ⟨a, b, c⟩
      · exact ⟨h0, h1, by omega⟩
  · simp only [List.mem_singleton] at hi ⊢
    subst hi
    constructor
    · intro e; exact Or.inl e.symm
    · rintro (e | ⟨d, _⟩)
      · exact e.symm
      · exact absurd (by simpa using hz) d
def RiskOk (F : List Fib) : Prop := ∀ f ∈ F, 0 ≤ f.risk ∧ f.risk ≤ 9
theorem riskAt_bd {F : List Fib} (h : RiskOk F) (i : Nat) : 0 ≤ riskAt F i ∧ riskAt F i ≤ 9 := by
  unfold riskAt
  cases hx : F[i]? with
  | none => simp
  | some f => exact h f (List.mem_of_getElem? hx)
theorem group_ex {F : List Fib} (h : RiskOk F) {i : Int} (h0 : 0 ≤ i) (h1 : i < F.length) : ∃ g ∈ groupsL F, i ∈ g := by
  obtain ⟨a, b⟩ := riskAt_bd h i.toNat
  unfold groupsL
  by_cases hz : riskAt F i.toNat = 0
  · exact ⟨[(i.toNat : Int)], List.mem_append.2 (Or.inr ((zerTo_mem F _ _).2 ⟨i.toNat, by omega, hz, rfl⟩)), List.mem_singleton.2 (by omega)⟩
  · have hm : i ∈ ofRisk F (((riskAt F i.toNat).toNat - 1 : Nat) + 1) F.length := (ofRisk_mem _ _ _ _).2 ⟨h0, h1, by omega⟩
    exact ⟨_, List.mem_append.2 (Or.inl ((grpTo_mem F _ _).2 ⟨(riskAt F i.toNat).toNat - 1, by omega, rfl, by intro e; rw [List.length_eq_zero_iff] at e; rw [e] at hm; cases hm⟩)), hm⟩
theorem idxP_get {α : Type} {l : List α} {f : α → Bool} (h : 0 ≤ idxP l f) : ∃ x, l[(idxP l f).toNat]? = some x ∧ f x = true := by
  unfold idxP at h ⊢
  cases hx : l.findIdx? f with
  | none => rw [hx] at h; simp at h
  | some k =>
    obtain ⟨hk, hp, _⟩ := List.findIdx?_eq_some_iff_getElem.1 hx
    exact ⟨l[k], by simp [List.getElem?_eq_getElem hk], hp⟩
theorem idxP_congr {α : Type} {l : List α} {f g : α → Bool} (h : ∀ x ∈ l, f x = g x) : idxP l f = idxP l g := by
  have : l.findIdx? f = l.findIdx? g := by
    induction l with
    | nil => rfl
    | cons a l ih =>
      rw [List.findIdx?_cons, List.findIdx?_cons, h a (by simp), ih fun x hx => h x (by simp [hx])]
  unfold idxP; rw [this]
theorem gIdx_iff {F : List Fib} (h : RiskOk F) {i j : Int} (i0 : 0 ≤ i) (i1 : i < F.length) (j0 : 0 ≤ j) (j1 : j < F.length) : gIdx F i = gIdx F j ↔ sameG F i j = true := by
  constructor
  · intro e
    have hi : 0 ≤ gIdx F i := by
      obtain ⟨g, hg, hm⟩ := group_ex h i0 i1
      have := idxP_any (groupsL F) fun l => decide (i ∈ l)
      rw [List.any_eq_true.2 ⟨g, hg, decide_eq_true hm⟩] at this
      exact of_decide_eq_true this
    have hj : 0 ≤ gIdx F j := by omega
    obtain ⟨x, hx, hfx⟩ := idxP_get hi
    obtain ⟨y, hy, hfy⟩ := idxP_get hj
    have hx' : (groupsL F)[(gIdx F i).toNat]? = some x := hx
    have hy' : (groupsL F)[(gIdx F j).toNat]? = some y := hy
    rw [← e, hx'] at hy'
    cases hy'
    exact (group_key (List.mem_of_getElem? hx') (of_decide_eq_true hfx) j0 j1).1 (of_decide_eq_true hfy)
  · intro e
    refine idxP_congr fun g hg => ?_
    rw [Bool.eq_iff_iff, decide_eq_true_eq, decide_eq_true_eq]
    constructor
    · intro hm; exact (group_key hg hm j0 j1).2 e
    · intro hm; exact (group_key hg hm i0 i1).2 (by rw [sameG_symm]; exact e)
/-- Two lists of fibers of which no two fail with each other. -/
def apartF (F : List Fib) (a b : List Int) : Bool := !a.any fun i => b.any fun j => sameG F i j
def InF (F : List Fib) (a : List Int) : Prop := ∀ i ∈ a, 0 ≤ i ∧ i < (F.length : Int)
theorem any_congr {α : Type} {l : List α} {f g : α → Bool} (h : ∀ x ∈ l, f x = g x) : l.any f = l.any g := by
  induction l with
  | nil => rfl
  | cons a l ih => rw [List.any_cons, List.any_cons, h a (by simp), ih fun x hx => h x (by simp [hx])]
theorem apart_law {F : List Fib} (h : RiskOk F) {a b : List Int} (ha : InF F a) (hb : InF F b) : (!usesB (a.map (gIdx F)) (b.map (gIdx F))) = apartF F a b := by
  unfold usesB apartF
  congr 1
  rw [List.any_map]
  refine any_congr fun i hi => ?_
  rw [Bool.eq_iff_iff]
  simp only [Function.comp, decide_eq_true_eq, List.mem_map, List.any_eq_true]
  obtain ⟨i0, i1⟩ := ha i hi
  constructor
  · rintro ⟨j, hj, e⟩
    obtain ⟨j0, j1⟩ := hb j hj
    exact ⟨j, hj, (gIdx_iff h i0 i1 j0 j1).1 e.symm⟩
  · rintro ⟨j, hj, e⟩
    obtain ⟨j0, j1⟩ := hb j hj
    exact ⟨j, hj, ((gIdx_iff h i0 i1 j0 j1).2 e).symm⟩
/-- The reference's group of one fiber. -/
def groupL (F : List Fib) (i : Int) : List Int := if riskAt F i.toNat = 0 then [i] else ofRisk F (riskAt F i.toNat) F.length
theorem groupL_mem {F : List Fib} {i j : Int} (j0 : 0 ≤ j) (j1 : j < F.length) : decide (j ∈ groupL F i) = sameG F i j := by
  unfold groupL sameG
  by_cases hz : riskAt F i.toNat = 0
  · rw [if_pos hz, Bool.eq_iff_iff]
    simp only [decide_eq_true_eq, List.mem_singleton, Bool.or_eq_true, Bool.and_eq_true]
    constructor
    · intro e; exact Or.inl e.symm
    · rintro (e | ⟨d, _⟩)
      · exact e.symm
      · exact absurd hz d
  · rw [if_neg hz, Bool.eq_iff_iff]
    simp only [decide_eq_true_eq, Bool.or_eq_true, Bool.and_eq_true, ofRisk_mem]
    constructor
    · rintro ⟨_, _, e⟩; exact Or.inr ⟨hz, e.symm⟩
    · rintro (rfl | ⟨_, e⟩)
      · exact ⟨j0, j1, rfl⟩
      · exact ⟨j0, j1, e.symm⟩
theorem groupL_len (F : List Fib) (i : Int) : (groupL F i).length ≤ F.length + 1 := by
  unfold groupL
  split
  · simp
  · exact Nat.le_trans (ofRisk_len _ _ _) (by omega)
end Go.Proofs.YteckjlkhopkogaaGreat
