/- Texts of mine laid together (GrP, Ml, Pm, Pm2, Pm3, Gp). -/
import Derived.Test.YtlapicgeokjpjaaU3
import Derived.Test.YtlapicgeokjpjaaU4
/- Plain laws: risk groups (no program in sight). -/
namespace Go.Proofs.Ytlapicgeokjpjaa
open Go.RowKit

def riskAt (F : List Fib) (i : Nat) : Int := match F[i]? with | some f => f.risk | none => 0
theorem riskAt_of {F : List Fib} {i : Nat} {f : Fib} (h : F[i]? = some f) : riskAt F i = f.risk := by unfold riskAt; rw [h]
/-- The fibers of a risk among the first ones. -/
def ofRisk (F : List Fib) (r : Int) : Nat → List Int
  | 0 => []
  | k + 1 => if riskAt F k = r then ofRisk F r k ++ [(k : Int)] else ofRisk F r k
theorem ofRisk_yes {F : List Fib} {r : Int} {k : Nat} (h : riskAt F k = r) : ofRisk F r (k + 1) = ofRisk F r k ++ [(k : Int)] := by show (if _ then _ else _) = _; rw [if_pos h]
theorem ofRisk_no {F : List Fib} {r : Int} {k : Nat} (h : ¬ riskAt F k = r) : ofRisk F r (k + 1) = ofRisk F r k := by show (if _ then _ else _) = _; rw [if_neg h]
theorem ofRisk_len (F : List Fib) (r : Int) (k : Nat) : (ofRisk F r k).length ≤ k := by
  induction k with
  | zero => simp [ofRisk]
  | succ k ih =>
    by_cases h : riskAt F k = r
    · rw [ofRisk_yes h]; simp; exact ih
    · rw [ofRisk_no h]; omega
theorem ofRisk_mem (F : List Fib) (r : Int) (k : Nat) (i : Int) : i ∈ ofRisk F r k ↔ 0 ≤ i ∧ i < k ∧ riskAt F i.toNat = r := by
  induction k with
  | zero => simp [ofRisk]; omega
  | succ k ih =>
    by_cases h : riskAt F k = r
    · rw [ofRisk_yes h, List.mem_append, List.mem_singleton, ih]
      constructor
      · rintro (⟨a, b, c⟩ | rfl)
        · exact ⟨a, by omega, c⟩
        · exact ⟨by omega, by omega, by simpa using h⟩
      · rintro ⟨a, b, c⟩
        by_cases e : i = k
        · exact Or.inr e
        · exact Or.inl ⟨a, by omega, c⟩
    · rw [ofRisk_no h, ih]
      constructor
      · rintro ⟨a, b, c⟩; exact ⟨a, by omega, c⟩
      · rintro ⟨a, b, c⟩
        refine ⟨a, ?_, c⟩
        by_cases e : i = k
        · subst e; exact absurd (by simpa using c) h
        · omega
/-- The groups of the risks 1, 2, .. -/
def grpTo (F : List Fib) : Nat → List (List Int)
  | 0 => []
  | m + 1 => if (ofRisk F ((m : Int) + 1) F.length).length = 0 then grpTo F m else grpTo F m ++ [ofRisk F ((m : Int) + 1) F.length]
theorem grpTo_no {F : List Fib} {m : Nat} (h : (ofRisk F ((m : Int) + 1) F.length).length = 0) : grpTo F (m + 1) = grpTo F m := by show (if _ then _ else _) = _; rw [if_pos h]
theorem grpTo_yes {F : List Fib} {m : Nat} (h : ¬ (ofRisk F ((m : Int) + 1) F.length).length = 0) : grpTo F (m + 1) = grpTo F m ++ [ofRisk F ((m : Int) + 1) F.length] := by show (if _ then _ else _) = _; rw [if_neg h]
theorem grpTo_len (F : List Fib) (m : Nat) : (grpTo F m).length ≤ m := by
  induction m with
  | zero => simp [grpTo]
  | succ m ih =>
    by_cases h : (ofRisk F ((m : Int) + 1) F.length).length = 0
    · rw [grpTo_no h]; omega
    · rw [grpTo_yes h]; simp; exact ih
theorem grpTo_mem (F : List Fib) (m : Nat) (g : List Int) : g ∈ grpTo F m ↔ ∃ r : Nat, r < m ∧ g = ofRisk F ((r : Int) + 1) F.length ∧ g.length ≠ 0 := by
  induction m with
  | zero => simp [grpTo]
  | succ m ih =>
    by_cases h : (ofRisk F ((m : Int) + 1) F.length).length = 0
    · rw [grpTo_no h, ih]
      constructor
      · rintro ⟨r, a, b, c⟩; exact ⟨r, by omega, b, c⟩
      · rintro ⟨r, a, b, c⟩
        refine ⟨r, ?_, b, c⟩
        by_cases e : r = m
        · subst e; rw [b] at c; exact absurd h c
        · omega
    · rw [grpTo_yes h, List.mem_append, List.mem_singleton, ih]
      constructor
      · rintro (⟨r, a, b, c⟩ | rfl)
        · exact ⟨r, by omega, b, c⟩
        · exact ⟨m, by omega, rfl, h⟩
      · rintro ⟨r, a, b, c⟩
        by_cases e : r = m
        · subst e; exact Or.inr b
        · exact Or.inl ⟨r, by omega, b, c⟩
/-- The fibers without a risk, each alone. -/
def zerTo (F : List Fib) : Nat → List (List Int)
  | 0 => []
  | k + 1 => if riskAt F k = 0 then zerTo F k ++ [[(k : Int)]] else zerTo F k
theorem zerTo_yes {F : List Fib} {k : Nat} (h : riskAt F k = 0) : zerTo F (k + 1) = zerTo F k ++ [[(k : Int)]] := by show (if _ then _ else _) = _; rw [if_pos h]
theorem zerTo_no {F : List Fib} {k : Nat} (h : ¬ riskAt F k = 0) : zerTo F (k + 1) = zerTo F k := by show (if _ then _ else _) = _; rw [if_neg h]
theorem zerTo_len (F : List Fib) (k : Nat) : (zerTo F k).length ≤ k := by
  induction k with
  | zero => simp [zerTo]
  | succ k ih =>
    by_cases h : riskAt F k = 0
    · rw [zerTo_yes h]; simp; exact ih
    · rw [zerTo_no h]; omega
theorem zerTo_mem (F : List Fib) (k : Nat) (g : List Int) : g ∈ zerTo F k ↔ ∃ i : Nat, i < k ∧ riskAt F i = 0 ∧ g = [(i : Int)] := by
  induction k with
  | zero => simp [zerTo]
  | succ k ih =>
    by_cases h : riskAt F k = 0
    · rw [zerTo_yes h, List.mem_append, List.mem_singleton, ih]
      constructor
      · rintro (⟨r, a, b, c⟩ | rfl)
        · exact ⟨r, by omega, b, c⟩
        · exact ⟨k, by omega, h, rfl⟩
      · rintro ⟨r, a, b, c⟩
        by_cases e : r = k
        · subst e; exact Or.inr c
        · exact Or.inl ⟨r, by omega, b, c⟩
    · rw [zerTo_no h, ih]
      constructor
      · rintro ⟨r, a, b, c⟩; exact ⟨r, by omega, b, c⟩
      · rintro ⟨r, a, b, c⟩
        refine ⟨r, ?_, b, c⟩
        by_cases e : r = k
        · subst e; exact absurd b h
        · omega
def groupsL (F : List Fib) : List (List Int) := grpTo F 9 ++ zerTo F F.length
def gIdx (F : List Fib) (i : Int) : Int := idxP (groupsL F) fun l => decide (i ∈ l)
/-- Whether two fibers fail with each other. -/
def sameG (F : List Fib) (i j : Int) : Bool := decide (i = j) || (decide (riskAt F i.toNat ≠ 0) && decide (riskAt F i.toNat = riskAt F j.toNat))
theorem sameG_symm (F : List Fib) (i j : Int) : sameG F i j = sameG F j i := by
  unfold sameG
  rw [Bool.eq_iff_iff]
  simp only [Bool.or_eq_true, Bool.and_eq_true, decide_eq_true_eq]
  constructor
  · rintro (rfl | ⟨a, b⟩)
    · exact Or.inl rfl
    · exact Or.inr ⟨by rw [← b]; exact a, b.symm⟩
  · rintro (rfl | ⟨a, b⟩)
    · exact Or.inl rfl
    · exact Or.inr ⟨by rw [← b]; exact a, b.symm⟩
theorem group_key {F : List Fib} {g : List Int} {i j : Int} (hg : g ∈ groupsL F) (hi : i ∈ g) (h0 : 0 ≤ j) (h1 : j < F.length) : j ∈ g ↔ sameG F i j = true := by
  unfold sameG
  simp only [Bool.or_eq_true, Bool.and_eq_true, decide_eq_true_eq]
  unfold groupsL at hg
  rw [List.mem_append, grpTo_mem, zerTo_mem] at hg
  rcases hg with ⟨r, hr, rfl, _⟩ | ⟨k, hk, hz, rfl⟩
  · rw [ofRisk_mem] at hi ⊢
    obtain ⟨a, b, c⟩ := hi
    constructor
    · rintro ⟨_, _, d⟩; exact Or.inr ⟨by omega, by omega⟩
    · rintro (rfl | ⟨d, e⟩)
      · exact ⟨a, b, c⟩
      · exact ⟨h0, h1, by omega⟩
  · simp only [List.mem_singleton] at hi ⊢
    subst hi
    constructor
    · intro e; exact Or.inl e.symm
    · rintro (e | ⟨d, _⟩)
      · exact e.symm
      · exact absurd (by simpa using hz) d
def RiskOk (F : List Fib) : Prop := ∀ f ∈ F, 0 ≤ f.risk ∧ f.risk ≤ 9
theorem riskAt_bd {F : List Fib} (h : RiskOk F) (i : Nat) : 0 ≤ riskAt F i ∧ riskAt F i ≤ 9 := by
  unfold riskAt
  cases hx : F[i]? with
  | none => simp
  | some f => exact h f (List.mem_of_getElem? hx)
theorem group_ex {F : List Fib} (h : RiskOk F) {i : Int} (h0 : 0 ≤ i) (h1 : i < F.length) : ∃ g ∈ groupsL F, i ∈ g := by
  obtain ⟨a, b⟩ := riskAt_bd h i.toNat
  unfold groupsL
  by_cases hz : riskAt F i.toNat = 0
  · exact ⟨[(i.toNat : Int)], List.mem_append.2 (Or.inr ((zerTo_mem F _ _).2 ⟨i.toNat, by omega, hz, rfl⟩)), List.mem_singleton.2 (by omega)⟩
  · have hm : i ∈ ofRisk F (((riskAt F i.toNat).toNat - 1 : Nat) + 1) F.length := (ofRisk_mem _ _ _ _).2 ⟨h0, h1, by omega⟩
    exact ⟨_, List.mem_append.2 (Or.inl ((grpTo_mem F _ _).2 ⟨(riskAt F i.toNat).toNat - 1, by omega, rfl, by intro e; rw [List.length_eq_zero_iff] at e; rw [e] at hm; cases hm⟩)), hm⟩
theorem idxP_get {α : Type} {l : List α} {f : α → Bool} (h : 0 ≤ idxP l f) : ∃ x, l[(idxP l f).toNat]? = some x ∧ f x = true := by
  unfold idxP at h ⊢
  cases hx : l.findIdx? f with
  | none => rw [hx] at h; simp at h
  | some k =>
    obtain ⟨hk, hp, _⟩ := List.findIdx?_eq_some_iff_getElem.1 hx
    exact ⟨l[k], by simp [List.getElem?_eq_getElem hk], hp⟩
theorem idxP_congr {α : Type} {l : List α} {f g : α → Bool} (h : ∀ x ∈ l, f x = g x) : idxP l f = idxP l g := by
  have : l.findIdx? f = l.findIdx? g := by
    induction l with
    | nil => rfl
    | cons a l ih =>
      rw [List.findIdx?_cons, List.findIdx?_cons, h a (by simp), ih fun x hx => h x (by simp [hx])]
  unfold idxP; rw [this]
theorem gIdx_iff {F : List Fib} (h : RiskOk F) {i j : Int} (i0 : 0 ≤ i) (i1 : i < F.length) (j0 : 0 ≤ j) (j1 : j < F.length) : gIdx F i = gIdx F j ↔ sameG F i j = true := by
  constructor
  · intro e
    have hi : 0 ≤ gIdx F i := by
      obtain ⟨g, hg, hm⟩ := group_ex h i0 i1
      have := idxP_any (groupsL F) fun l => decide (i ∈ l)
      rw [List.any_eq_true.2 ⟨g, hg, decide_eq_true hm⟩] at this
      exact of_decide_eq_true this
    have hj : 0 ≤ gIdx F j := by omega
    obtain ⟨x, hx, hfx⟩ := idxP_get hi
    obtain ⟨y, hy, hfy⟩ := idxP_get hj
    have hx' : (groupsL F)[(gIdx F i).toNat]? = some x := hx
    have hy' : (groupsL F)[(gIdx F j).toNat]? = some y := hy
    rw [← e, hx'] at hy'
    cases hy'
    exact (group_key (List.mem_of_getElem? hx') (of_decide_eq_true hfx) j0 j1).1 (of_decide_eq_true hfy)
  · intro e
    refine idxP_congr fun g hg => ?_
    rw [Bool.eq_iff_iff, decide_eq_true_eq, decide_eq_true_eq]
    constructor
    · intro hm; exact (group_key hg hm j0 j1).2 e
    · intro hm; exact (group_key hg hm i0 i1).2 (by rw [sameG_symm]; exact e)
/-- Two lists of fibers of which no two fail with each other. -/
def apartF (F : List Fib) (a b : List Int) : Bool := !a.any fun i => b.any fun j => sameG F i j
def InF (F : List Fib) (a : List Int) : Prop := ∀ i ∈ a, 0 ≤ i ∧ i < (F.length : Int)
theorem any_congr {α : Type} {l : List α} {f g : α → Bool} (h : ∀ x ∈ l, f x = g x) : l.any f = l.any g := by
  induction l with
  | nil => rfl
  | cons a l ih => rw [List.any_cons, List.any_cons, h a (by simp), ih fun x hx => h x (by simp [hx])]
theorem apart_law {F : List Fib} (h : RiskOk F) {a b : List Int} (ha : InF F a) (hb : InF F b) : (!usesB (a.map (gIdx F)) (b.map (gIdx F))) = apartF F a b := by
  unfold usesB apartF
  congr 1
  rw [List.any_map]
  refine any_congr fun i hi => ?_
  rw [Bool.eq_iff_iff]
  simp only [Function.comp, decide_eq_true_eq, List.mem_map, List.any_eq_true]
  obtain ⟨i0, i1⟩ := ha i hi
  constructor
  · rintro ⟨j, hj, e⟩
    obtain ⟨j0, j1⟩ := hb j hj
    exact ⟨j, hj, (gIdx_iff h i0 i1 j0 j1).1 e.symm⟩
  · rintro ⟨j, hj, e⟩
    obtain ⟨j0, j1⟩ := hb j hj
    exact ⟨j, hj, ((gIdx_iff h i0 i1 j0 j1).2 e).symm⟩
/-- The reference's group of one fiber. -/
def groupL (F : List Fib) (i : Int) : List Int := if riskAt F i.toNat = 0 then [i] else ofRisk F (riskAt F i.toNat) F.length
theorem groupL_mem {F : List Fib} {i j : Int} (j0 : 0 ≤ j) (j1 : j < F.length) : decide (j ∈ groupL F i) = sameG F i j := by
  unfold groupL sameG
  by_cases hz : riskAt F i.toNat = 0
  · rw [if_pos hz, Bool.eq_iff_iff]
    simp only [decide_eq_true_eq, List.mem_singleton, Bool.or_eq_true, Bool.and_eq_true]
    constructor
    · intro e; exact Or.inl e.symm
    · rintro (e | ⟨d, _⟩)
      · exact e.symm
      · exact absurd hz d
  · rw [if_neg hz, Bool.eq_iff_iff]
    simp only [decide_eq_true_eq, Bool.or_eq_true, Bool.and_eq_true, ofRisk_mem]
    constructor
    · rintro ⟨_, _, e⟩; exact Or.inr ⟨hz, e.symm⟩
    · rintro (rfl | ⟨_, e⟩)
      · exact ⟨j0, j1, rfl⟩
      · exact ⟨j0, j1, e.symm⟩
theorem groupL_len (F : List Fib) (i : Int) : (groupL F i).length ≤ F.length + 1 := by
  unfold groupL
  split
  · simp
  · exact Nat.le_trans (ofRisk_len _ _ _) (by omega)
end Go.Proofs.Ytlapicgeokjpjaa

/- Marks of arguments: lights, plans. -/
namespace Go.Proofs.Ytlapicgeokjpjaa
open Go.RowKit Go.PlainAid

abbrev intT' : TypeId → Prop := fun t => t = 3
theorem and3 {a b c : Prop} (h : a ∧ b) (k : c) : a ∧ b ∧ c := ⟨h.1, h.2, k⟩
end Go.Proofs.Ytlapicgeokjpjaa

/- Contracts: the exact marks of a plan that is a result. -/
namespace Go.Proofs.Ytlapicgeokjpjaa
open Go.RowKit Go.PlainAid

/-- Some cells of a row of the call's own, of whatever content. -/
def RowN (w : World) (base : Nat) (T : TypeId) (q : Option Addr) (n : Nat) : Prop := n = 0 ∨ ∃ g cs, q = some ⟨g, 0, none⟩ ∧ base ≤ g ∧ RowAt w g T cs ∧ n ≤ cs.length
/-- Some cells of a row of the call's own, each as told. -/
def MkRow (w : World) (base : Nat) (T : TypeId) (q : Option Addr) (n : Nat) (mc : Nat → Value) : Prop := n = 0 ∨ ∃ g cs, q = some ⟨g, 0, none⟩ ∧ base ≤ g ∧ RowAt w g T cs ∧ n ≤ cs.length ∧ ∀ t, t < n → cs[t]? = some (mc t)
theorem MkRow.keep {w w' : World} {base : Nat} {T : TypeId} {q : Option Addr} {n : Nat} {mc : Nat → Value} (h : MkRow w base T q n mc) (hb : Fresh w w') : MkRow w' base T q n mc := by
  rcases h with h | ⟨g, cs, h1, h2, h3, h4⟩
  · exact Or.inl h
  · exact Or.inr ⟨g, cs, h1, h2, h3.keep hb, h4⟩
theorem Own.rowN {w : World} {base : Nat} {T : TypeId} {q : Option Addr} {cs : List Value} (h : Own w base T q cs) : RowN w base T q cs.length := by
  rcases h with ⟨_, h⟩ | ⟨g, sp, h1, h2, h3⟩
  · exact Or.inl (by simp [h])
  · exact Or.inr ⟨g, cs ++ sp, h1, h2, h3, by simp⟩
/-- Rows of other types stay where rows of the types T are marked. -/
theorem RowN.typ {w w' : World} {base lo hi : Nat} {t : TypeId} {T : TypeId → Prop} {q : Option Addr} {n : Nat} (h : RowN w base t q n) (hb : Mk T lo hi w w') (hd : ¬ T t) : RowN w' base t q n := by
  rcases h with h | ⟨g, cs, h1, h2, h3, h4⟩
  · exact Or.inl h
  · exact Or.inr ⟨g, cs, h1, h2, hb.row _ _ _ h3 hd, h4⟩
theorem MkRow.typ {w w' : World} {base lo hi : Nat} {t : TypeId} {T : TypeId → Prop} {q : Option Addr} {n : Nat} {mc : Nat → Value} (h : MkRow w base t q n mc) (hb : Mk T lo hi w w') (hd : ¬ T t) : MkRow w' base t q n mc := by
  rcases h with h | ⟨g, cs, h1, h2, h3, h4⟩
  · exact Or.inl h
  · exact Or.inr ⟨g, cs, h1, h2, hb.row _ _ _ h3 hd, h4⟩
theorem Mk.other {w w' : World} {g b : Nat} {t : TypeId} {T : TypeId → Prop} {cs : List Value} (hb : Mk T g (g + 1) w w') (hr : RowAt w b t cs) (hd : b ≠ g) : RowAt w' b t cs := by
  have : w'.heap[b]? = w.heap[b]? := by
    rcases Nat.lt_or_ge b g with h' | h'
    · exact hb.low.block b h'
    · exact hb.up b (by omega) hr.lt
  unfold RowAt; rw [this]; exact hr
theorem RowN.other {w w' : World} {base g : Nat} {t : TypeId} {T : TypeId → Prop} {q : Option Addr} {n : Nat} (h : RowN w base t q n) (hb : Mk T g (g + 1) w w') (hd : ∀ h o, q = some ⟨h, o, none⟩ → h ≠ g) : RowN w' base t q n := by
  rcases h with h | ⟨b, cs, h1, h2, h3, h4⟩
  · exact Or.inl h
  · exact Or.inr ⟨b, cs, h1, h2, hb.other h3 (hd b 0 h1), h4⟩
theorem MkRow.other {w w' : World} {base g : Nat} {t : TypeId} {T : TypeId → Prop} {q : Option Addr} {n : Nat} {mc : Nat → Value} (h : MkRow w base t q n mc) (hb : Mk T g (g + 1) w w') (hd : ∀ h o, q = some ⟨h, o, none⟩ → h ≠ g) : MkRow w' base t q n mc := by
  rcases h with h | ⟨b, cs, h1, h2, h3, h4⟩
  · exact Or.inl h
  · exact Or.inr ⟨b, cs, h1, h2, hb.other h3 (hd b 0 h1), h4⟩
theorem set_pt {cs : List Value} {i n : Nat} {v : Value} {mc : Nat → Value} (hi : i < cs.length) (hv : v = mc i) (h : ∀ t, t < n → cs[t]? = some (mc t)) : ∀ t, t < n → (cs.set i v)[t]? = some (mc t) := by
  intro t ht
  rw [List.getElem?_set]
  by_cases e : i = t
  · subst e; rw [if_pos rfl, if_pos hi, hv]
  · rw [if_neg e]; exact h t ht
theorem set_pt1 {cs : List Value} {n : Nat} {v : Value} {mc : Nat → Value} (hi : n < cs.length) (hv : v = mc n) (h : ∀ t, t < n → cs[t]? = some (mc t)) : ∀ t, t < n + 1 → (cs.set n v)[t]? = some (mc t) := by
  intro t ht
  rw [List.getElem?_set]
  by_cases e : n = t
  · subst e; rw [if_pos rfl, if_pos hi, hv]
  · rw [if_neg e]; exact h t (by omega)
theorem MkRow.at {w : World} {base : Nat} {T : TypeId} {q : Option Addr} {n : Nat} {mc : Nat → Value} (h : MkRow w base T q n mc) {t : Nat} (ht : t < n) : ∃ g, q = some ⟨g, 0, none⟩ ∧ w.cell? ⟨g, t, none⟩ = some (mc t) := by
  rcases h with h | ⟨g, cs, h1, h2, h3, h4, h5⟩
  · omega
  · exact ⟨g, h1, h3.cell (h5 t ht)⟩
theorem MkRow.ints {w : World} {base : Nat} {q : Option Addr} {n : Nat} {k0 : Int} (h : MkRow w base 3 q n fun t => iv (k0 + (t : Int))) : Ints w q (marks k0 n) := by
  rcases h with h | ⟨g, cs, h1, h2, h3, h4, h5⟩
  · exact Or.inl (by subst h; rfl)
  · refine Or.inr ⟨g, 0, h1, fun i v hv => ?_⟩
    have hi : i < n := by
      rcases Nat.lt_or_ge i n with h' | h'
      · exact h'
      · rw [List.getElem?_eq_none (by simp [marks_len]; exact h')] at hv; cases hv
    have hm : (marks k0 n)[i]? = some (k0 + (i : Int)) := by unfold marks; simp [hi]
    rw [List.getElem?_map, hm] at hv
    cases hv
    have := h3.cell (h5 i hi)
    rw [Nat.zero_add]; exact this
end Go.Proofs.Ytlapicgeokjpjaa

/- Contracts: the exact marks of a plan's lights, and of a plan. -/
namespace Go.Proofs.Ytlapicgeokjpjaa
open Go.RowKit Go.PlainAid

abbrev inT : TypeId → Prop := fun t => t = 3
def QMk (base : Nat) (q : Option Addr) (w w' : World) : Prop := w' = w ∨ ∃ g, q = some ⟨g, 0, none⟩ ∧ base ≤ g ∧ Mk inT g (g + 1) w w'
theorem QMk.row {base : Nat} {q : Option Addr} {w w' : World} (h : QMk base q w w') {g : Nat} {t : TypeId} {cs : List Value} (hr : RowAt w g t cs) (ht : t ≠ 3) : RowAt w' g t cs := by
  rcases h with rfl | ⟨b, _, _, hb⟩
  · exact hr
  · exact hb.row _ _ _ hr ht
theorem QMk.below {base : Nat} {q : Option Addr} {w w' : World} (h : QMk base q w w') : Below base w w' := by
  rcases h with rfl | ⟨b, _, hg, hb⟩
  · exact Below.refl _ _
  · exact hb.low.mono hg
theorem QMk.rowN {base base' : Nat} {q q' : Option Addr} {n : Nat} {w w' : World} (h : QMk base q w w') (hr : RowN w base' 3 q' n) (hd : ∀ g o h o', q = some ⟨g, o, none⟩ → q' = some ⟨h, o', none⟩ → g ≠ h) : RowN w' base' 3 q' n := by
  rcases h with rfl | ⟨b, hq, _, hb⟩
  · exact hr
  · exact hr.other hb fun h o e => (hd b 0 h o hq e).symm
theorem QMk.mkRow {base base' : Nat} {q q' : Option Addr} {n : Nat} {mc : Nat → Value} {w w' : World} (h : QMk base q w w') (hr : MkRow w base' 3 q' n mc) (hd : ∀ g o h o', q = some ⟨g, o, none⟩ → q' = some ⟨h, o', none⟩ → g ≠ h) : MkRow w' base' 3 q' n mc := by
  rcases h with rfl | ⟨b, hq, _, hb⟩
  · exact hr
  · exact hr.other hb fun h o e => (hd b 0 h o hq e).symm
theorem RowN.setO {w : World} {base g : Nat} {t T : TypeId} {cs : List Value} {q : Option Addr} {n : Nat} (h : RowN w base t q n) (hr : RowAt w g T cs) (hT : t ≠ T) (i : Nat) (v : Value) : RowN (w.setCell ⟨g, i, none⟩ v) base t q n := by
  rcases h with h | ⟨b, cs', h1, h2, h3, h4⟩
  · exact Or.inl h
  · exact Or.inr ⟨b, cs', h1, h2, h3.setOther (fun e => by subst e; exact hT (h3.inj hr).1) _, h4⟩
theorem MkRow.setO {w : World} {base g : Nat} {t T : TypeId} {cs : List Value} {q : Option Addr} {n : Nat} {mc : Nat → Value} (h : MkRow w base t q n mc) (hr : RowAt w g T cs) (hT : t ≠ T) (i : Nat) (v : Value) : MkRow (w.setCell ⟨g, i, none⟩ v) base t q n mc := by
  rcases h with h | ⟨b, cs', h1, h2, h3, h4⟩
  · exact Or.inl h
  · exact Or.inr ⟨b, cs', h1, h2, h3.setOther (fun e => by subst e; exact hT (h3.inj hr).1) _, h4⟩
/-- Lights whose fibers lie in rows of their own. -/
def DistL (l : List LL) : Prop := ∀ (i j : Nat) (x y : LL), i ≠ j → l[i]? = some x → l[j]? = some y → ∀ g o h o', x.r.q = some ⟨g, o, none⟩ → y.r.q = some ⟨h, o', none⟩ → g ≠ h
def ltN (l : List LL) : Nat → Nat
  | 0 => 0
  | k + 1 => match l[k]? with | some x => ltN l k + (4 + x.r.fibs.length) | none => ltN l k
theorem ltN_step {l : List LL} {k : Nat} {x : LL} (h : l[k]? = some x) : ltN l (k + 1) = ltN l k + (4 + x.r.fibs.length) := by
  show (match l[k]? with | some x => ltN l k + (4 + x.r.fibs.length) | none => ltN l k) = _
  rw [h]
theorem ltN_le {l : List LL} (h : LtsSmall l) (k : Nat) : ltN l k ≤ 1048580 * k := by
  induction k with
  | zero => exact Nat.le_refl _
  | succ k ih =>
    cases hk : l[k]? with
    | none =>
      have e : ltN l (k + 1) = ltN l k := by
        show (match l[k]? with | some x => ltN l k + (4 + x.r.fibs.length) | none => ltN l k) = _
        rw [hk]
      rw [e]; omega
    | some x =>
      have := h.2 x (List.mem_of_getElem? hk)
      rw [ltN_step hk]; omega
def LtMk1 (w : World) (base : Nat) (k0 : Int) (cs : List Value) (i : Nat) (x : LL) (k : Nat) : Prop :=
  cs[i * 5]? = some (iv (k0 + k)) ∧ cs[i * 5 + 1]? = some (iv (k0 + k + 1)) ∧ cs[i * 5 + 3]? = some (iv (k0 + k + 1 + 1 + x.r.fibs.length)) ∧ cs[i * 5 + 4]? = some (iv (k0 + k + 1 + 1 + x.r.fibs.length + 1)) ∧
    MkRow w base 3 x.r.q x.r.fibs.length fun t => iv (k0 + k + 1 + 1 + (t : Int))
theorem set_ne {cs : List Value} {i t : Nat} {v u : Value} (h : cs[t]? = some u) (hne : i ≠ t) : (cs.set i v)[t]? = some u := by rw [List.getElem?_set_ne hne]; exact h
end Go.Proofs.Ytlapicgeokjpjaa

/- Contracts: a result that is a plan, compared, marked, asked again. -/
namespace Go.Proofs.Ytlapicgeokjpjaa
open Go.RowKit Go.PlainAid

def SmPl (P : PlanV) : Prop := PlSmall P ∧ P.lights.length ≤ 1024
theorem lts_small {l : List LL} {P : PlanV} (h : P.lights = l.map LL.val) (hs : PlSmall P) : LtsSmall l := by
  obtain ⟨_, h1, h2⟩ := hs
  rw [h] at h1 h2
  exact ⟨by simpa using h1, fun x hx => h2 x.val (List.mem_map_of_mem hx)⟩
end Go.Proofs.Ytlapicgeokjpjaa

/- An append of one element to a row of the call's own: rows of other types stay. Rows of rows of ints. -/
namespace Go.Proofs.Ytlapicgeokjpjaa
open Go.RowKit Go.PlainAid

theorem row_grown {w1 w' : World} {o : Obj} {base : Nat} {E : TypeId} {v : Value} {n size : Nat} {xs : List Value} (hown : w1.ownsRow base E size v n xs) (hg : (w1.alloc o).grownBy w' v.ownBlock) {g : Nat} {t : TypeId} {cs : List Value} (hr : RowAt w1 g t cs) (ht : t ≠ E) : RowAt w' g t cs := by
  have hba := hr.alloc o
  have hne : ∀ k, v.ownBlock = some k → k ≠ g := by
    intro k hk he
    subst he
    obtain ⟨_, ⟨rfl, _⟩ | ⟨g', cap, cur, rfl, _, hh, _⟩⟩ := hown
    · cases hk
    · simp only [Value.ownBlock, Option.some.injEq] at hk
      subst hk
      unfold RowAt at hr
      rw [hh] at hr
      simp only [Option.some.injEq, Obj.cells.injEq] at hr
      exact ht hr.2.1.symm
  unfold RowAt
  rw [hg.block g hba.lt (fun he => hne g he.symm rfl)]
  exact hba
theorem Own.grown {w1 w' : World} {base b2 : Nat} {t : TypeId} {p : Option Addr} {cs : List Value} (h : Own w1 b2 t p cs) (hk : ∀ g t cs, RowAt w1 g t cs → t ≠ base → RowAt w' g t cs) (ht : t ≠ base) : Own w' b2 t p cs := by
  rcases h with h | ⟨g, sp, hp, hg, hr⟩
  · exact Or.inl h
  · exact Or.inr ⟨g, sp, hp, hg, hk _ _ _ hr ht⟩
theorem add_new (w : World) (E : TypeId) (news : List Value) (j : Nat) (u : Value) (hj : news[j]? = some u) : (w.alloc (.cells news.toArray E)).cell? ((⟨w.heap.size, 0, none⟩ : Addr).add j) = some u := by
  have h0 := (RowAt.new w E news).cell hj
  unfold Addr.add
  split
  · next e => subst e; exact h0
  · simpa only [Nat.zero_add] using h0
theorem wpList_app_g {T E : TypeId} {z : Value} {size bytes : Nat} (hu : Try.prog.underlying T = some (.slice E)) (hinfo : (Try.prog.info? E).map (fun i => (i.zero, i.size, i.bytes)) = some (some z, size, bytes))
    (hzs : z.cells.size = size) (hsz : 0 < size) (hby : bytes ≤ 128) {ops : Array Oper} {rest : List Oper} {o : Oper} {a : Act} {Q : Exit → Act → World → Prop} (w0 w1 : World) (v : Value) (n : Nat) (xs news : List Value)
    (g0 : Nat) (hl : news.length = size) (hone : ∀ u ∈ news, u.oneCell' = true) (hgd : o.guard = none) (s t : Operand)
    (ho : o.op = .call { callee := .builtin .append, args := #[s, t], argTypes := #[T, T] }) (hs : a.eval s = v) (hown : w1.ownsRow w0.heap.size E size v n xs)
    (hx : a.eval t = .slice (some ⟨g0, 0, none⟩) 1 1) (hg0 : g0 = w1.heap.size) (hn : n ≤ 1048576) (hf : Fresh w0 w1)
    (h : ∀ v' w', w'.ownsRow w0.heap.size E size v' (n + 1) (xs ++ news) → Fresh w0 w' → (∀ g t cs, RowAt w1 g t cs → t ≠ E → RowAt w' g t cs) → wpList Try.prog ops Q rest (a.put o.dst v') w') :
    wpList Try.prog ops Q (o :: rest) a (w1.alloc (.cells news.toArray E)) := by
  subst hg0
  obtain ⟨i0, hi, hz0, hz1, hz2⟩ := info_parts hinfo
  refine wpList_append_own _ hgd s t T ho w0.heap.size E i0 z size bytes hu hi hz0 hz1 hz2 hzs hsz v n xs hs (hown.alloc _) ⟨w1.heap.size, 0, none⟩ 1 1 news hx (by omega)
    (add_new w1 E news) hone (by unfold maxLen; omega) (Nat.le_trans (Nat.mul_le_mul (by omega : n + 1 ≤ 1048577) hby) (by omega)) (Nat.le_trans hf.size (by simp)) ?_
  intro v' w' hown' hgrow _
  exact h v' w' hown' (fgrown (fnew hf _) hgrow (own_block hown)) fun g t cs hr ht => row_grown hown hgrow hr ht
theorem wpList_app_i {ops : Array Oper} {rest : List Oper} {o : Oper} {a : Act} {Q : Exit → Act → World → Prop} (w0 w1 : World) (v : Value) (xs : List Int) (x : Int) (g0 : Nat) (hgd : o.guard = none) (s t : Operand)
    (ho : o.op = .call { callee := .builtin .append, args := #[s, t], argTypes := #[28, 28] }) (hs : a.eval s = v) (hown : w1.ownsRow w0.heap.size 3 1 v xs.length (xs.map iv))
    (hx : a.eval t = .slice (some ⟨g0, 0, none⟩) 1 1) (hg0 : g0 = w1.heap.size) (hn : xs.length ≤ 1048576) (hf : Fresh w0 w1)
    (h : ∀ v' w', w'.ownsRow w0.heap.size 3 1 v' (xs ++ [x]).length ((xs ++ [x]).map iv) → Fresh w0 w' → (∀ g t cs, RowAt w1 g t cs → t ≠ 3 → RowAt w' g t cs) → wpList Try.prog ops Q rest (a.put o.dst v') w') :
    wpList Try.prog ops Q (o :: rest) a (w1.alloc (.cells #[.int .i64 x] 3)) :=
  wpList_app_g Try.underlying28 infoInt rfl (by decide) (by decide) w0 w1 v xs.length (xs.map iv) [iv x] g0 rfl (by intro u hu; simp at hu; subst hu; rfl) hgd s t ho hs hown hx hg0 hn hf
    (fun v' w' h1 h2 h3 => h v' w' (by rw [List.map_append, List.length_append]; exact h1) h2 h3)
theorem row_grown0 {w1 w' : World} {base : Nat} {E : TypeId} {v : Value} {n size : Nat} {xs : List Value} (hown : w1.ownsRow base E size v n xs) (hg : w1.grownBy w' v.ownBlock) {g : Nat} {t : TypeId} {cs : List Value} (hr : RowAt w1 g t cs) (ht : t ≠ E) : RowAt w' g t cs := by
  have hne : ∀ k, v.ownBlock = some k → k ≠ g := by
    intro k hk he
    subst he
    obtain ⟨_, ⟨rfl, _⟩ | ⟨g', cap, cur, rfl, _, hh, _⟩⟩ := hown
    · cases hk
    · simp only [Value.ownBlock, Option.some.injEq] at hk
      subst hk
      unfold RowAt at hr
      rw [hh] at hr
      simp only [Option.some.injEq, Obj.cells.injEq] at hr
      exact ht hr.2.1.symm
  unfold RowAt
  rw [hg.block g hr.lt (fun he => hne g he.symm rfl)]
  exact hr
theorem run_append_zero {P : Program} {w : World} (base : Nat) (t ty e : TypeId) (i : TypeInfo) (size : Nat) (ht : P.underlying t = some (.slice e)) (hi : P.info? e = some i)
    (v : Value) (n : Nat) (xs : List Value) (hown : w.ownsRow base e size v n xs) (p : Option Addr) (c : Nat) :
    (Builtin.append_ #[t, t] ty #[v, .slice p 0 c]).run P w = .ok v w := by
  rcases hown.2 with ⟨rfl, rfl⟩ | ⟨g, cap, cur, rfl, _, _, hnc, _⟩
  · cases p <;> simp [Builtin.append_, run_underlying ht, sizeOf, typeInfo, hi, Builtin.lenOf, Builtin.firstCells, loadCells, loadCellsFrom]
  · cases p <;> simp [Builtin.append_, run_underlying ht, sizeOf, typeInfo, hi, Builtin.lenOf, Builtin.firstCells, hnc, storeCells, loadCells, loadCellsFrom]
theorem wpList_append_zero {P : Program} {w : World} {ops : Array Oper} {rest : List Oper} {o : Oper} {a : Act} {Q : Exit → Act → World → Prop} (hgd : o.guard = none) (s x : Operand) (t : TypeId)
    (ho : o.op = .call { callee := .builtin .append, args := #[s, x], argTypes := #[t, t] })
    (base : Nat) (e : TypeId) (i : TypeInfo) (size : Nat) (ht : P.underlying t = some (.slice e)) (hi : P.info? e = some i)
    (v : Value) (n : Nat) (xs : List Value) (hs : a.eval s = v) (hown : w.ownsRow base e size v n xs) (p : Option Addr) (c : Nat) (hx : a.eval x = .slice p 0 c)
    (h : wpList P ops Q rest (a.put o.dst v) w) : wpList P ops Q (o :: rest) a w := by
  refine wpList_plain hgd fun K hK => ?_
  have hrun := run_append_zero (P := P) (w := w) base t o.type e i size ht hi v n xs hown p c
  unfold Oper.wp
  simp [execOp, ho, resolve, invoke, builtin, hs, hx, hrun, Result.andThen]
  exact hK _ _ h
/-- Many elements appended to a row of the call's own. -/
theorem wpList_app_many {T E : TypeId} {z : Value} {size bytes : Nat} (hu : Try.prog.underlying T = some (.slice E)) (hinfo : (Try.prog.info? E).map (fun i => (i.zero, i.size, i.bytes)) = some (some z, size, bytes))
    (hzs : z.cells.size = size) (hsz : 0 < size) (hby : bytes ≤ 128) {ops : Array Oper} {rest : List Oper} {o : Oper} {a : Act} {Q : Exit → Act → World → Prop} (w0 w1 : World) (v : Value) (n : Nat) (xs : List Value) (p : Option Addr) (m c : Nat) (news : List Value)
    (hl : news.length = m * size) (hone : ∀ u ∈ news, u.oneCell' = true) (hgd : o.guard = none) (s t : Operand)
    (ho : o.op = .call { callee := .builtin .append, args := #[s, t], argTypes := #[T, T] }) (hs : a.eval s = v) (hown : w1.ownsRow w0.heap.size E size v n xs)
    (hx : a.eval t = .slice p m c) (hc : Cells w1 p news) (hn : n ≤ 1048576) (hm : m ≤ 1048576) (hf : Fresh w0 w1)
    (h : ∀ v' w', w'.ownsRow w0.heap.size E size v' (n + m) (xs ++ news) → Fresh w0 w' → (∀ g t cs, RowAt w1 g t cs → t ≠ E → RowAt w' g t cs) → wpList Try.prog ops Q rest (a.put o.dst v') w') :
    wpList Try.prog ops Q (o :: rest) a w1 := by
  obtain ⟨i0, hi, hz0, hz1, hz2⟩ := info_parts hinfo
  rcases Nat.eq_zero_or_pos m with rfl | hm0
  · have hnil : news = [] := List.eq_nil_of_length_eq_zero (by simpa using hl)
    subst hnil
    refine wpList_append_zero hgd s t T ho w0.heap.size E i0 size hu hi v n xs hs hown p c hx (h v w1 ?_ hf fun g t cs hr _ => hr)
    rw [List.append_nil]; exact hown
  · rcases hc with rfl | ⟨b, off, rfl, hc⟩
    · exfalso
      have : m * size = 0 := by simpa using hl.symm
      rcases Nat.mul_eq_zero.1 this with h' | h' <;> omega
    · refine wpList_append_own _ hgd s t T ho w0.heap.size E i0 z size bytes hu hi hz0 hz1 hz2 hzs hsz v n xs hs hown ⟨b, off, none⟩ m c news hx hl
        (fun j u hj => by
          have h0 := hc j u hj
          unfold Addr.add
          split
          · next e => subst e; exact h0
          · exact h0) hone (by unfold maxLen; omega) (Nat.le_trans (Nat.mul_le_mul (by omega : n + m ≤ 2097152) hby) (by omega)) hf.size ?_
      intro v' w' hown' hgrow _
      exact h v' w' hown' (fgrown hf hgrow (own_block hown)) fun g t cs hr ht => row_grown0 hown hgrow hr ht
theorem one_ints (l : List Int) : ∀ u ∈ l.map iv, u.oneCell' = true := by
  intro u hu
  obtain ⟨x, _, rfl⟩ := List.mem_map.1 hu
  rfl
/-- A slice of ints as an element. -/
structure LI where
  q : Option Addr
  cap : Nat
  xs : List Int
abbrev liV (x : LI) : Value := .slice x.q x.xs.length x.cap
def OwnS (w : World) (base : Nat) (l : List LI) : Prop := ∀ x ∈ l, Own w base 3 x.q (x.xs.map iv)
theorem OwnS.keep {w w' : World} {base : Nat} {l : List LI} (h : OwnS w base l) (hb : Fresh w w') : OwnS w' base l := fun x hx => (h x hx).keep hb
theorem OwnS.mono {w : World} {base base' : Nat} {l : List LI} (h : OwnS w base l) (hb : base' ≤ base) : OwnS w base' l := fun x hx => (h x hx).mono hb
theorem OwnS.snoc {w : World} {base : Nat} {l : List LI} (h : OwnS w base l) {x : LI} (hx : Own w base 3 x.q (x.xs.map iv)) : OwnS w base (l ++ [x]) := by
  intro y hy
  rcases List.mem_append.1 hy with hy | hy
  · exact h y hy
  · rw [List.mem_singleton.1 hy]; exact hx
theorem OwnS.grown {w1 w' : World} {E : TypeId} {b : Nat} {l : List LI} (h : OwnS w1 b l) (hk : ∀ g t cs, RowAt w1 g t cs → t ≠ E → RowAt w' g t cs) (ht : 3 ≠ E) : OwnS w' b l := fun x hx => (h x hx).grown hk ht
/-- Rows of ints behind a slice. -/
def IRows (w : World) (p : Option Addr) (l : List LI) : Prop := Cells w p (l.map liV) ∧ ∀ x ∈ l, Ints w x.q x.xs
theorem IRows.keep {w w' : World} {p : Option Addr} {l : List LI} (h : IRows w p l) (hb : Fresh w w') : IRows w' p l := ⟨h.1.keep hb, fun x hx => (h.2 x hx).keep hb⟩
theorem IRows.at {w : World} {p : Option Addr} {l : List LI} (h : IRows w p l) {k : Nat} (hk : k < l.length) :
    ∃ b off x, p = some ⟨b, off, none⟩ ∧ l[k]? = some x ∧ x ∈ l ∧ Ints w x.q x.xs ∧ w.cell? ⟨b, off + k, none⟩ = some (.slice x.q x.xs.length x.cap) := by
  obtain ⟨b, off, hp, hc⟩ := h.1.at (k := k) (by simpa using hk)
  have hx : l[k]? = some l[k] := List.getElem?_eq_getElem hk
  refine ⟨b, off, l[k], hp, hx, List.getElem_mem hk, h.2 _ (List.getElem_mem hk), hc k _ ?_⟩
  rw [List.getElem?_map, hx]; rfl
theorem infoIs : (Try.prog.info? 28).map (fun i => (i.zero, i.size, i.bytes)) = some (some (.slice none 0 0), 1, 24) := by kernel_rfl
end Go.Proofs.Ytlapicgeokjpjaa

