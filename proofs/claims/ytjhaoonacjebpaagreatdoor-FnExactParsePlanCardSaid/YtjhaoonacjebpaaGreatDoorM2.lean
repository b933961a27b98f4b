/- Texts of mine laid together (GrP, Ml, Pm, Pm2, Pm3, Gp). -/
import Derived.Test.YtjhaoonacjebpaaGreatDoorU3
import Derived.Test.YtjhaoonacjebpaaGreatDoorU4
/- Plain laws: risk groups (no program in sight). -/
namespace Go.Proofs.YtjhaoonacjebpaaGreatDoor
open Go.RowKit

def riskAt (F : List Fib) (i : Nat) : Int := match F[i]? with | some f => f.risk | none => 0
theorem riskAt_of {F : List Fib} {i : Nat} {f : Fib} (h : F[i]? = some f) : riskAt F i = f.risk := by unfold riskAt; rw [h]
/-- The fibers of a risk among the first ones. -/
def ofRisk (F : List Fib) (r : Int) : Nat → List Int
  | 0 => []
  | k + 1 => if riskAt F k = r then ofRisk F r k ++ [(k : Int)] else ofRisk F r k
theorem ofRisk_yes {F : List Fib} {r : Int} {k : Nat} (h : riskAt F k = r) : ofRisk F r (k + 1) = ofRisk F r k ++ [(k : Int)] := by show (if _ then _ else _) = _; rw [if_pos h]
theorem ofRisk_no {F : List Fib} {r : Int} {k : Nat} (h : ¬ riskAt F k = r) : ofRisk F r (k + 1) = ofRisk F r k := by show (if _ then _ else _) = _; rw [if_neg h]
theorem ofRisk_len (F : List Fib) (r : Int) (k : Nat) : (ofRisk F r k).length ≤ k := by
  induction k with
  | zero => simp [ofRisk]
  | succ k ih =>
    by_cases h : riskAt F k = r
    · rw [ofRisk_yes h]; simp; exact ih
    · rw [ofRisk_no h]; omega
theorem ofRisk_mem (F : List Fib) (r : Int) (k : Nat) (i : Int) : i ∈ ofRisk F r k ↔ 0 ≤ i ∧ i < k ∧ riskAt F i.toNat = r := by
  induction k with
  | zero => simp [ofRisk]; omega
  | succ k ih =>
    by_cases h : riskAt F k = r
    · rw [ofRisk_yes h, List.mem_append, List.mem_singleton, ih]
      constructor
      · rintro (⟨a, b, c⟩ | rfl)
        · exact ⟨a, by omega, c⟩
        · exact ⟨by omega, by omega, by simpa using h⟩
      · rintro ⟨a, b, c⟩
        by_cases e : i = k
        · exact Or.inr e
        · exact Or.inl ⟨a, by omega, c⟩
    · rw [ofRisk_no h, ih]
      constructor
      · rintro ⟨a, b, c⟩; exact ⟨a, by omega, c⟩
      · rintro ⟨a, b, c⟩
        refine ⟨a, ?_, c⟩
        by_cases e : i = k
        · subst e; exact absurd (by simpa using c) h
        · omega
/-- The groups of the risks 1, 2, .. -/
def grpTo (F : List Fib) : Nat → List (List Int)
  | 0 => []
  | m + 1 => if (ofRisk F ((m : Int) + 1) F.length).length = 0 then grpTo F m else grpTo F m ++ [ofRisk F ((m : Int) + 1) F.length]
theorem grpTo_no {F : List Fib} {m : Nat} (h : (ofRisk F ((m : Int) + 1) F.length).length = 0) : grpTo F (m + 1) = grpTo F m := by show (if _ then _ else _) = _; rw [if_pos h]
theorem grpTo_yes {F : List Fib} {m : Nat} (h : ¬ (ofRisk F ((m : Int) + 1) F.length).length = 0) : grpTo F (m + 1) = grpTo F m ++ [ofRisk F ((m : Int) + 1) F.length] := by show (if _ then _ else _) = _; rw [if_neg h]
theorem grpTo_len (F : List Fib) (m : Nat) : (grpTo F m).length ≤ m := by
  induction m with
  | zero => simp [grpTo]
  | succ m ih =>
    by_cases h : (ofRisk F ((m : Int) + 1) F.length).length = 0
    · rw [grpTo_no h]; omega
    · rw [grpTo_yes h]; simp; exact ih
theorem grpTo_mem (F : List Fib) (m : Nat) (g : List Int) : g ∈ grpTo F m ↔ ∃ r : Nat, r < m ∧ g = ofRisk F ((r : Int) + 1) F.length ∧ g.length ≠ 0 := by
  induction m with
  | zero => simp [grpTo]
  | succ m ih =>
    by_cases h : (ofRisk F ((m : Int) + 1) F.length).length = 0
    · rw [grpTo_no h, ih]
      constructor
      · rintro ⟨r, a, b, c⟩; exact ⟨r, by omega, b, c⟩
      · rintro ⟨r, a, b, c⟩
        refine ⟨r, ?_, b, c⟩
        by_cases e : r = m
        · subst e; rw [b] at c; exact absurd h c
        · omega
    · rw [grpTo_yes h, List.mem_append, List.mem_singleton, ih]
      constructor
      · rintro (⟨r, a, b, c⟩ | rfl)
        · exact ⟨r, by omega, b, c⟩
        · exact ⟨m, by omega, rfl, h⟩
      · rintro ⟨r, a, b, c⟩
        by_cases e : r = m
        · subst e; exact Or.inr b
        · exact Or.inl ⟨r, by omega, b, c⟩
/-- The fibers without a risk, each alone. -/
def zerTo (F : List Fib) : Nat → List (List Int)
  | 0 => []
  | k + 1 => if riskAt F k = 0 then zerTo F k ++ [[(k : Int)]] else zerTo F k
theorem zerTo_yes {F : List Fib} {k : Nat} (h : riskAt F k = 0) : zerTo F (k + 1) = zerTo F k ++ [[(k : Int)]] := by show (if _ then _ else _) = _; rw [if_pos h]
theorem zerTo_no {F : List Fib} {k : Nat} (h : ¬ riskAt F k = 0) : zerTo F (k + 1) = zerTo F k := by show (if _ then _ else _) = _; rw [if_neg h]
theorem zerTo_len (F : List Fib) (k : Nat) : (zerTo F k).length ≤ k := by
  induction k with
  | zero => simp [zerTo]
  | succ k ih =>
    by_cases h : riskAt F k = 0
    · rw [zerTo_yes h]; simp; exact ih
    · rw [zerTo_no h]; omega
theorem zerTo_mem (F : List Fib) (k : Nat) (g : List Int) : g ∈ zerTo F k ↔ ∃ i : Nat, i < k ∧ riskAt F i = 0 ∧ g = [(i : Int)] := by
  induction k with
  | zero => simp [zerTo]
  | succ k ih =>
    by_cases h : riskAt F k = 0
    · rw [zerTo_yes h, List.mem_append, List.mem_singleton, ih]
      constructor
      · rintro (⟨r, a, b, c⟩ | rfl)
        · exact ⟨r, by omega, b, c⟩
        · exact ⟨k, by omega, h, rfl⟩
      · rintro ⟨r, a, b, c⟩
        by_cases e : r = k
        · subst e; exact Or.inr c
        · exact Or.inl ⟨r, by omega, b, c⟩
    · rw [zerTo_no h, ih]
      constructor
      · rintro ⟨r, a, b, c⟩; exact ⟨r, by omega, b, c⟩
      · rintro ⟨r, a, b, c⟩
        refine ⟨r, ?_, b, c⟩
        by_cases e : r = k
        · subst e; exact absurd b h
        · omega
def groupsL (F : List Fib) : List (List Int) := grpTo F 9 ++ zerTo F F.length
def gIdx (F : List Fib) (i : Int) : Int := idxP (groupsL F) fun l => decide (i ∈ l)
/-- Whether two fibers fail with each other. -/
def sameG (F : List Fib) (i j : Int) : Bool := decide (i = j) || (decide (riskAt F i.toNat ≠ 0) && decide (riskAt F i.toNat = riskAt F j.toNat))
theorem sameG_symm (F : List Fib) (i j : Int) : sameG F i j = sameG F j i := by
  unfold sameG
  rw [Bool.eq_iff_iff]
  simp only [Bool.or_eq_true, Bool.and_eq_true, decide_eq_true_eq]
  constructor
  · rintro (rfl | ⟨a, b⟩)
    · exact Or.inl rfl
    · exact Or.inr ⟨by rw [← b]; exact a, b.symm⟩
  · rintro (rfl | ⟨a, b⟩)
    · exact Or.inl rfl
    · exact Or.inr ⟨by rw [← b]; exact a, b.symm⟩
theorem group_key {F : List Fib} {g : List Int} {i j : Int} (hg : g ∈ groupsL F) (hi : i ∈ g) (h0 : 0 ≤ j) (h1 : j < F.length) : j ∈ g ↔ sameG F i j = true := by
  unfold sameG
  simp only [Bool.or_eq_true, Bool.and_eq_true, decide_eq_true_eq]
  unfold groupsL at hg
  rw [List.mem_append, grpTo_mem, zerTo_mem] at hg
  rcases hg with ⟨r, hr, rfl, _⟩ | ⟨k, hk, hz, rfl⟩
  · rw [ofRisk_mem] at hi ⊢
    obtain ⟨a, b, c⟩ := hi
    constructor
    · rintro ⟨_, _, d⟩; exact Or.inr ⟨by omega, by omega⟩
    · rintro (rfl | ⟨d, e⟩)
      · exact ⟨a, b, c⟩
      · exact ⟨h0, h1, by omega⟩
  · simp only [List.mem_singleton] at hi ⊢
    subst hi
    constructor
    · intro e; exact Or.inl e.symm
    · rintro (e | ⟨d, _⟩)
      · exact e.symm
      · exact absurd (by simpa using hz) d
def RiskOk (F : List Fib) : Prop := ∀ f ∈ F, 0 ≤ f.risk ∧ f.risk ≤ 9
theorem riskAt_bd {F : List Fib} (h : RiskOk F) (i : Nat) : 0 ≤ riskAt F i ∧ riskAt F i ≤ 9 := by
  unfold riskAt
  cases hx : F[i]? with
  | none => simp
  | some f => exact h f (List.mem_of_getElem? hx)
theorem group_ex {F : List Fib} (h : RiskOk F) {i : Int} (h0 : 0 ≤ i) (h1 : i < F.length) : ∃ g ∈ groupsL F, i ∈ g := by
  obtain ⟨a, b⟩ := riskAt_bd h i.toNat
  unfold groupsL
  by_cases hz : riskAt F i.toNat = 0
  · exact ⟨[(i.toNat : Int)], List.mem_append.2 (Or.inr ((zerTo_mem F _ _).2 ⟨i.toNat, by omega, hz, rfl⟩)), List.mem_singleton.2 (by omega)⟩
  · have hm : i ∈ ofRisk F (((riskAt F i.toNat).toNat - 1 : Nat) + 1) F.length := (ofRisk_mem _ _ _ _).2 ⟨h0, h1, by omega⟩
    exact ⟨_, List.mem_append.2 (Or.inl ((grpTo_mem F _ _).2 ⟨(riskAt F i.toNat).toNat - 1, by omega, rfl, by intro e; rw [List.length_eq_zero_iff] at e; rw [e] at hm; cases hm⟩)), hm⟩
theorem idxP_get {α : Type} {l : List α} {f : α → Bool} (h : 0 ≤ idxP l f) : ∃ x, l[(idxP l f).toNat]? = some x ∧ f x = true := by
  unfold idxP at h ⊢
  cases hx : l.findIdx? f with
  | none => rw [hx] at h; simp at h
  | some k =>
    obtain ⟨hk, hp, _⟩ := List.findIdx?_eq_some_iff_getElem.1 hx
    exact ⟨l[k], by simp [List.getElem?_eq_getElem hk], hp⟩
theorem idxP_congr {α : Type} {l : List α} {f g : α → Bool} (h : ∀ x ∈ l, f x = g x) : idxP l f = idxP l g := by
  have : l.findIdx? f = l.findIdx? g := by
    induction l with
    | nil => rfl
    | cons a l ih =>
      rw [List.findIdx?_cons, List.findIdx?_cons, h a (by simp), ih fun x hx => h x (by simp [hx])]
  unfold idxP; rw [this]
theorem gIdx_iff {F : List Fib} (h : RiskOk F) {i j : Int} (i0 : 0 ≤ i) (i1 : i < F.length) (j0 : 0 ≤ j) (j1 : j < F.length) : gIdx F i = gIdx F j ↔ sameG F i j = true := by
  constructor
  · intro e
    have hi : 0 ≤ gIdx F i := by
      obtain ⟨g, hg, hm⟩ := group_ex h i0 i1
      have := idxP_any (groupsL F) fun l => decide (i ∈ l)
      rw [List.any_eq_true.2 ⟨g, hg, decide_eq_true hm⟩] at this
      exact of_decide_eq_true this
    have hj : 0 ≤ gIdx F j := by omega
    obtain ⟨x, hx, hfx⟩ := idxP_get hi
    obtain ⟨y, hy, hfy⟩ := idxP_get hj
    have hx' : (groupsL F)[(gIdx F i).toNat]? = some x := hx
    have hy' : (groupsL F)[(gIdx F j).toNat]? = some y := hy
    rw [← e, hx'] at hy'
    cases hy'
    exact (group_key (List.mem_of_getElem? hx') (of_decide_eq_true hfx) j0 j1).1 (of_decide_eq_true hfy)
  · intro e
    refine idxP_congr fun g hg => ?_
    rw [Bool.eq_iff_iff, decide_eq_true_eq, decide_eq_true_eq]
    constructor
    · intro hm; exact (group_key hg hm j0 j1).2 e
    · intro hm; exact (group_key hg hm i0 i1).2 (by rw [sameG_symm]; exact e)
/-- Two lists of fibers of which no two fail with each other. -/
def apartF (F : List Fib) (a b : List Int) : Bool := !a.any fun i => b.any fun j => sameG F i j
def InF (F : List Fib) (a : List Int) : Prop := ∀ i ∈ a, 0 ≤ i ∧ i < (F.length : Int)
theorem any_congr {α : Type} {l : List α} {f g : α → Bool} (h : ∀ x ∈ l, f x = g x) : l.any f = l.any g := by
  induction l with
  | nil => rfl
  | cons a l ih => rw [List.any_cons, List.any_cons, h a (by simp), ih fun x hx => h x (by simp [hx])]
theorem apart_law {F : List Fib} (h : RiskOk F) {a b : List Int} (ha : InF F a) (hb : InF F b) : (!usesB (a.map (gIdx F)) (b.map (gIdx F))) = apartF F a b := by
  unfold usesB apartF
  congr 1
  rw [List.any_map]
  refine any_congr fun i hi => ?_
  rw [Bool.eq_iff_iff]
  simp only [Function.comp, decide_eq_true_eq, List.mem_map, List.any_eq_true]
  obtain ⟨i0, i1⟩ := ha i hi
  constructor
  · rintro ⟨j, hj, e⟩
    obtain ⟨j0, j1⟩ := hb j hj
    exact ⟨j, hj, (gIdx_iff h i0 i1 j0 j1).1 e.symm⟩
  · rintro ⟨j, hj, e⟩
    obtain ⟨j0, j1⟩ := hb j hj
    exact ⟨j, hj, ((gIdx_iff h i0 i1 j0 j1).2 e).symm⟩
/-- The reference's group of one fiber. -/
def groupL (F : List Fib) (i : Int) : List Int := if riskAt F i.toNat = 0 then [i] else ofRisk F (riskAt F i.toNat) F.length
theorem groupL_mem {F : List Fib} {i j : Int} (j0 : 0 ≤ j) (j1 : j < F.length) : decide (j ∈ groupL F i) = sameG F i j := by
  unfold groupL sameG
  by_cases hz : riskAt F i.toNat = 0
  · rw [if_pos hz, Bool.eq_iff_iff]
    simp only [decide_eq_true_eq, List.mem_singleton, Bool.or_eq_true, Bool.and_eq_true]
    constructor
    · intro e; exact Or.inl e.symm
    · rintro (e | ⟨d, _⟩)
      · exact e.symm
      · exact absurd hz d
  · rw [if_neg hz, Bool.eq_iff_iff]
    simp only [decide_eq_true_eq, Bool.or_eq_true, Bool.and_eq_true, ofRisk_mem]
    constructor
    · rintro ⟨_, _, e⟩; exact Or.inr ⟨hz, e.symm⟩
    · rintro (rfl | ⟨_, e⟩)
      · exact ⟨j0, j1, rfl⟩
      · exact ⟨j0, j1, e.symm⟩
theorem groupL_len (F : List Fib) (i : Int) : (groupL F i).length ≤ F.length + 1 := by
  unfold groupL
  split
  · simp
  · exact Nat.le_trans (ofRisk_len _ _ _) (by omega)
end Go.Proofs.YtjhaoonacjebpaaGreatDoor

/- Marks of arguments: lights, plans. -/
namespace Go.Proofs.YtjhaoonacjebpaaGreatDoor
open Go.RowKit Go.PlainAid

abbrev ltT : TypeId → Prop := fun t => t = 3 ∨ t = 58
abbrev intT' : TypeId → Prop := fun t => t = 3
/-- Lights of the argument's own: the slices' heads stand in the row. -/
def LtsMine (w : World) (lo hi : Nat) (p : Option Addr) (l : List LL) : Prop := l = [] ∨ ∃ g cs, p = some ⟨g, 0, none⟩ ∧ lo ≤ g ∧ g < hi ∧ RowAt w g 58 cs ∧ l.length * 5 ≤ cs.length ∧
  ∀ i x, l[i]? = some x → cs[i * 5 + 2]? = some (.slice x.r.q x.r.fibs.length x.r.cap) ∧ OwnIn w lo hi 3 x.r.q x.r.fibs.length
theorem LtsMine.keep {w w' : World} {lo hi : Nat} {p : Option Addr} {l : List LL} (h : LtsMine w lo hi p l) (hb : Fresh w w') : LtsMine w' lo hi p l := by
  rcases h with h | ⟨g, cs, h1, h2, h3, h4, h5, h6⟩
  · exact Or.inl h
  · exact Or.inr ⟨g, cs, h1, h2, h3, h4.keep hb, h5, fun i x hx => ⟨(h6 i x hx).1, (h6 i x hx).2.keep hb⟩⟩
theorem LtsMine.mk {T : TypeId → Prop} (hT : ¬ T 58) {lo' hi' : Nat} {w w' : World} {lo hi : Nat} {p : Option Addr} {l : List LL} (h : LtsMine w lo hi p l) (hb : Mk T lo' hi' w w') : LtsMine w' lo hi p l := by
  rcases h with h | ⟨g, cs, h1, h2, h3, h4, h5, h6⟩
  · exact Or.inl h
  · exact Or.inr ⟨g, cs, h1, h2, h3, hb.row _ _ _ h4 hT, h5, fun i x hx => ⟨(h6 i x hx).1, (h6 i x hx).2.mk hb⟩⟩
theorem LtsMine.set {w : World} {lo hi g : Nat} {l : List LL} {cs : List Value} (h4 : RowAt w g 58 cs) (h2 : lo ≤ g) (h3 : g < hi) (h5 : l.length * 5 ≤ cs.length)
    (h6 : ∀ i x, l[i]? = some x → cs[i * 5 + 2]? = some (.slice x.r.q x.r.fibs.length x.r.cap) ∧ OwnIn w lo hi 3 x.r.q x.r.fibs.length) (j r : Nat) (hr : r ≠ 2) (hr5 : r < 5) (v : Value) :
    RowAt (w.setCell ⟨g, j * 5 + r, none⟩ v) g 58 (cs.set (j * 5 + r) v) ∧ l.length * 5 ≤ (cs.set (j * 5 + r) v).length ∧
    ∀ i x, l[i]? = some x → (cs.set (j * 5 + r) v)[i * 5 + 2]? = some (.slice x.r.q x.r.fibs.length x.r.cap) ∧ OwnIn (w.setCell ⟨g, j * 5 + r, none⟩ v) lo hi 3 x.r.q x.r.fibs.length := by
  refine ⟨h4.set (j * 5 + r) v, by simpa using h5, fun i x hx => ⟨?_, ?_⟩⟩
  · rw [List.getElem?_set_ne (by omega)]; exact (h6 i x hx).1
  · have hm : Mk (fun t => t = 58) lo hi w (w.setCell ⟨g, j * 5 + r, none⟩ v) := Mk.set (T := fun t => t = 58) (Mk.refl _ _ _ _) h4 rfl h2 h3 _ _
    exact (h6 i x hx).2.mk hm
set_option maxHeartbeats 4000000 in
theorem markLights_m (p : Option Addr) (cap : Nat) (l : List LL) (lo hi : Nat) (k0 : Int) (w : World) (h : LtsMine w lo hi p l) (hs : LtsSmall l) (h0 : 0 ≤ k0) (h1 : k0 ≤ 562949953421312) :
    Calls Tryz.prog 35 #[.slice p l.length cap, .int .i64 k0] w fun e w' => ∃ k1, e = .returned (.int .i64 k1) ∧ k0 ≤ k1 ∧ k1 ≤ k0 + 4398046511104 ∧ Mk ltT lo hi w w' := by
  have hn := hs.1
  have HSM := Lib.hid hs
  have HO := Lib.hid h
  clear hs h
  go_enter Tryz.func35, Tryz.ntmps35
  go_wp2
  go_loopw [1, 5] (fun kk i wr => ∃ (j : Nat) (k : Int), j ≤ l.length ∧ i = .int .i64 j ∧ kk = .int .i64 k ∧ k0 ≤ k ∧ k ≤ k0 + 1048580 * j ∧ LtsMine wr lo hi p l ∧ Mk ltT lo hi w wr) (fun _ i _ => l.length - (intOf i).toNat)
  case atStart => exact ⟨0, k0, Nat.zero_le _, rfl, rfl, by omega, by omega, HO.out, Mk.refl _ _ _ _⟩
  case round =>
    obtain ⟨j, k, hj, rfl, rfl, hk0, hk1, hm, hb⟩ := hrel
    have HB := Lib.hid hb
    clear hb
    by_cases hlt : j < l.length
    · rcases hm with hnil | ⟨g, cs, rfl, hl, hh, hr, hcs, hin⟩
      · rw [hnil] at hlt; simp at hlt
      · have hx : l[j]? = some l[j] := List.getElem?_eq_getElem hlt
        generalize hxe : l[j] = x at hx
        have hsm : x.r.fibs.length ≤ 1048576 := HSM.out.2 x (by rw [← hxe]; exact List.getElem_mem hlt)
        have hc0 : wr.cell? ⟨g, j * 5, none⟩ = some cs[j * 5] := hr.cell (List.getElem?_eq_getElem (by omega))
        have hc1 : wr.cell? ⟨g, j * 5 + 1, none⟩ = some cs[j * 5 + 1] := hr.cell (List.getElem?_eq_getElem (by omega))
        have hc2 : wr.cell? ⟨g, j * 5 + 2, none⟩ = some (.slice x.r.q x.r.fibs.length x.r.cap) := hr.cell (hin j x hx).1
        have hf0 := hr.frozen (j * 5)
        have hf1 := hr.frozen (j * 5 + 1)
        obtain ⟨hr1, hcs1, hin1⟩ := LtsMine.set hr hl hh hcs hin j 0 (by omega) (by omega) (iv k)
        have hm1 := Mk.set HB.out hr (Or.inr rfl) hl hh (j * 5 + 0) (iv k)
        obtain ⟨hr2, hcs2, hin2⟩ := LtsMine.set hr1 hl hh hcs1 hin1 j 1 (by omega) (by omega) (iv (k + 1))
        have hm2 := Mk.set hm1 hr1 (Or.inr rfl) hl hh (j * 5 + 1) (iv (k + 1))
        obtain ⟨cs2, hcs2e⟩ : ∃ cs2, cs2 = (cs.set (j * 5 + 0) (iv k)).set (j * 5 + 1) (iv (k + 1)) := ⟨_, rfl⟩
        obtain ⟨w2, hw2⟩ : ∃ w2, w2 = (wr.setCell ⟨g, j * 5, none⟩ (.int .i64 k)).setCell ⟨g, j * 5 + 1, none⟩ (.int .i64 (k + 1)) := ⟨_, rfl⟩
        replace hr2 : RowAt w2 g 58 cs2 := by rw [hw2, hcs2e]; exact hr2
        replace hcs2 : l.length * 5 ≤ cs2.length := by rw [hcs2e]; exact hcs2
        replace hin2 : ∀ i x, l[i]? = some x → cs2[i * 5 + 2]? = some (.slice x.r.q x.r.fibs.length x.r.cap) ∧ OwnIn w2 lo hi 3 x.r.q x.r.fibs.length := by rw [hw2, hcs2e]; exact hin2
        replace hm2 : Mk ltT lo hi w w2 := by rw [hw2]; exact hm2
        have ho2 := (hin2 j x hx).2
        have HW := Lib.hid hw2
        have HK := Lib.hid (And.intro hm2 (And.intro hr2 (And.intro hcs2 (And.intro hin2 ho2))))
        have HX := Lib.hid hx
        clear hw2 hm1 hm2 hr1 hr2 hcs1 hcs2 hin1 hin2 ho2 hr hin hxe hx hcs2e
        go_wp2_with fail
        rw [← HW.out]
        obtain ⟨hm2, hr2, hcs2, hin2, ho2⟩ := HK.out
        refine (markIntS_m _ _ _ lo hi (k + 1 + 1) _ ho2 (by omega) (by omega) (by omega)).mono ?_
        rintro e w3 ⟨rfl, hb3⟩
        have hr3 := hb3.row _ _ _ hr2 (by decide)
        have hin3 : ∀ i x, l[i]? = some x → cs2[i * 5 + 2]? = some (.slice x.r.q x.r.fibs.length x.r.cap) ∧ OwnIn w3 lo hi 3 x.r.q x.r.fibs.length := fun i x hx => ⟨(hin2 i x hx).1, (hin2 i x hx).2.mk hb3⟩
        have hc3 : w3.cell? ⟨g, j * 5 + 3, none⟩ = some cs2[j * 5 + 3] := hr3.cell (List.getElem?_eq_getElem (by omega))
        have hc4 : w3.cell? ⟨g, j * 5 + 4, none⟩ = some cs2[j * 5 + 4] := hr3.cell (List.getElem?_eq_getElem (by omega))
        have hf3 := hr3.frozen (j * 5 + 3)
        have hf4 := hr3.frozen (j * 5 + 4)
        have HK3 := Lib.hid (And.intro (hm2.trans (hb3.more (T' := ltT) (fun t h => Or.inl h))) (And.intro hr3 (And.intro hcs2 hin3)))
        clear hm2 hr2 hin2 ho2 hr3 hin3 hb3 HK HB hc0 hc1 hc2 hf0 hf1
        go_wp2
        go_roundw
        case rel =>
          obtain ⟨hm3, hr3, hcs3, hin3⟩ := HK3.out
          obtain ⟨hr4, hcs4, hin4⟩ := LtsMine.set hr3 hl hh hcs3 hin3 j 3 (by omega) (by omega) (iv (k + 1 + 1 + x.r.fibs.length))
          have hm4 := Mk.set hm3 hr3 (Or.inr rfl) hl hh (j * 5 + 3) (iv (k + 1 + 1 + x.r.fibs.length))
          obtain ⟨hr5, hcs5, hin5⟩ := LtsMine.set hr4 hl hh hcs4 hin4 j 4 (by omega) (by omega) (iv (k + 1 + 1 + x.r.fibs.length + 1))
          have hm5 := Mk.set hm4 hr4 (Or.inr rfl) hl hh (j * 5 + 4) (iv (k + 1 + 1 + x.r.fibs.length + 1))
          refine ⟨j + 1, k + 1 + 1 + x.r.fibs.length + 1 + 1, by omega, by go_num, by go_num, by omega, by omega, Or.inr ⟨g, _, rfl, hl, hh, ?_, hcs5, ?_⟩, ?_⟩
          · exact hr5
          · exact hin5
          · exact hm5
        case measure => simp [intOf]; omega
    · have hjn : j = l.length := by omega
      go_wp2
      go_ret
      exact ⟨k, rfl, hk0, by omega, HB.out⟩
/-- A plan of the argument's own. -/
def PlMine (w : World) (lo hi : Nat) (v : Value) : Prop := ∃ q m c p k d r e l, v = .agg #[.slice q m c, .slice p k d, .slice r l.length e] ∧ NetMine w lo hi (.agg #[.slice q m c, .slice p k d]) ∧ LtsMine w lo hi r l ∧ LtsSmall l
theorem PlMine.keep {w w' : World} {lo hi : Nat} {v : Value} (h : PlMine w lo hi v) (hb : Fresh w w') : PlMine w' lo hi v := by
  obtain ⟨q, m, c, p, k, d, r, e, l, h1, h2, h3, h4⟩ := h
  exact ⟨q, m, c, p, k, d, r, e, l, h1, h2.keep hb, h3.keep hb, h4⟩
abbrev plT : TypeId → Prop := fun t => netT t ∨ ltT t
set_option maxHeartbeats 2000000 in
theorem markPlan_m (v : Value) (lo hi : Nat) (k0 : Int) (w : World) (h : PlMine w lo hi v) (hlo : lo ≤ w.heap.size) (hhi : hi ≤ w.heap.size) (h0 : 0 ≤ k0) (h1 : k0 ≤ 281474976710656) :
    Calls Tryz.prog 12 #[v, .int .i64 k0] w fun e w' => ∃ k1, e = .returned (.int .i64 k1) ∧ k0 ≤ k1 ∧ k1 ≤ k0 + 17592186044416 ∧ Mk plT lo hi w w' := by
  obtain ⟨q, m, c, p, k, d, r, e0, l, rfl, hN, hL, hs⟩ := h
  obtain ⟨W1, hW1⟩ : ∃ W1, W1 = w.alloc (.cells #[.slice q m c, .slice p k d, .slice r l.length e0] 37) := ⟨_, rfl⟩
  have hf : Fresh w W1 := by rw [hW1]; exact fnew (frefl _) _
  have hr : RowAt W1 w.heap.size 37 [.slice q m c, .slice p k d, .slice r l.length e0] := by rw [hW1]; exact RowAt.new _ _ _
  have hz := hf.size
  have c0 := hr.cell (i := 0) rfl
  have c1 := hr.cell (i := 1) rfl
  have HW := Lib.hid hW1
  have HF := Lib.hid hf
  have HR := Lib.hid hr
  have HN := Lib.hid hN
  have HL := Lib.hid hL
  have HS := Lib.hid hs
  clear hW1 hf hr hN hL hs
  go_enter Tryz.func12, Tryz.ntmps12
  go_wp2_with fail
  rw [← HW.out]
  clear HW
  refine (markNet_m _ lo hi k0 _ (HN.out.keep HF.out) (by omega) (by omega) h0 (by omega)).mono ?_
  rintro e w1 ⟨k1, rfl, hk1, hk2, hb1⟩
  replace hk2 : k1 ≤ k0 + 8796093022208 := hk2
  have c2 := hb1.cell (Or.inr hhi) (HR.out.cell (i := 2) rfl)
  have HM := Lib.hid hb1
  clear hb1 c0 c1
  go_wp2_with fail
  refine (markLights_m r e0 l lo hi k1 _ ((HL.out.keep HF.out).mk (T := netT) (by decide) HM.out) HS.out (by omega) (by omega)).mono ?_
  rintro e w2 ⟨k2, rfl, hk3, hk4, hb2⟩
  have HM2 := Lib.hid hb2
  clear hb2 c2
  go_wp2
  go_ret
  refine ⟨_, rfl, by omega, by omega, ?_⟩
  exact (Mk.fresh HF.out hlo).trans ((HM.out.more (fun t h => Or.inl h)).trans (HM2.out.more (fun t h => Or.inr h)))

theorem and3 {a b c : Prop} (h : a ∧ b) (k : c) : a ∧ b ∧ c := ⟨h.1, h.2, k⟩
theorem plan_made {w' : World} {base b3 b4 g : Nat} {q m c p k d : _} {N : Net} {L : List LtV} {l' : List LL} (hn : NetOwn w' b3 (.agg #[.slice q m c, .slice p k d]) N) (hr : RowAt w' g 58 (l'.flatMap llC))
    (ho : ∀ x ∈ l', Own w' b4 3 x.r.q (x.r.fibs.map iv)) (h3 : base ≤ b3) (hg : base ≤ g) (h4 : base ≤ b4) (hs : PlSmall ⟨N, L⟩) (hv : l'.map LL.val = L) :
    PlIn w' (.agg #[.slice q m c, .slice p k d, .slice (some ⟨g, 0, none⟩) l'.length l'.length]) ⟨N, L⟩ ∧ PlMine w' base w'.heap.size (.agg #[.slice q m c, .slice p k d, .slice (some ⟨g, 0, none⟩) l'.length l'.length]) := by
  have hs' : LtsSmall l' := ltsm_to (by rw [hv]; exact hs.2)
  refine ⟨⟨q, m, c, p, k, d, _, _, l', rfl, hn.net hs.1, ⟨hr.cells, fun x hx => (ho x hx).cells⟩, hs', hv.symm, Nat.le_refl _, by have := hs'.1; omega⟩,
    ⟨q, m, c, p, k, d, _, _, l', rfl, (hn.mine hs.1).wide h3 (Nat.le_refl _), Or.inr ⟨g, _, rfl, hg, hr.lt, hr, ?_, fun i x hx => ⟨?_, ?_⟩⟩, hs'⟩⟩
  · rw [flat_len llC 5 (fun _ => rfl)]; exact Nat.le_refl _
  · rw [ll_get hx 2 (by omega)]; rfl
  · have := (ho x (List.mem_of_getElem? hx)).ownIn
    rw [List.length_map] at this
    exact this.wide h4 (Nat.le_refl _)
set_option maxHeartbeats 2000000 in
theorem toPlan_o (v : Value) (P : PlanV) (w : World) (h : PlIn w v P) : Calls Tryz.prog 7 #[v] w fun e w' => ∃ v', e = .returned v' ∧ PlIn w' v' P ∧ PlMine w' w.heap.size w'.heap.size v' ∧ Fresh w w' := by
  have HSM := Lib.hid h.isSmall
  obtain ⟨N, L⟩ := P
  obtain ⟨q, m, c, p, k, d, r, e, l, rfl, hN, hL, hs, hv, _⟩ := h
  simp only at hN hv ⊢
  obtain ⟨W3, hW3, hsz3, hf3, r1, r2, r3⟩ := three_rows w [.slice q m c, .slice p k d, .slice r l.length e] [.slice none 0 0, .slice none 0 0, .slice none 0 0] [.slice none 0 0, .slice none 0 0, .slice none 0 0] 28 37 37
  have HW3 := Lib.hid hW3
  have HN := Lib.hid hN
  have HL := Lib.hid hL
  have HSL := Lib.hid hs
  have HV := Lib.hid hv
  have HS := Lib.hid (And.intro hsz3 (And.intro hf3 (And.intro r1 (And.intro r2 r3))))
  clear hW3 hsz3 hf3 r1 r2 r3 hN hL hs hv
  go_enter Tryz.func7, Tryz.ntmps7
  go_wp2_with fail
  rw [← HW3.out]
  clear HW3
  obtain ⟨hsz3, hf3, r1, r2, r3⟩ := HS.out
  refine (toNetwork_any _ N _ (HN.out.keep hf3)).mono ?_
  rintro e1 w1 ⟨v1, rfl, hn1, hf⟩
  obtain ⟨g1, g2, hv1, _⟩ := id hn1
  subst hv1
  have s1 := r1.keep hf
  have s2 := r2.keep hf
  have s3 := r3.keep hf
  have k12 := s1.cell (i := 2) rfl
  have k30 := s3.cell (i := 0) rfl
  have k31 := s3.cell (i := 1) rfl
  have z30 := s3.frozen 0
  have z31 := s3.frozen 1
  obtain ⟨w2, hw2⟩ : ∃ w2, w2 = (w1.setCell ⟨w.heap.size + 1 + 1, 0, none⟩ (.slice (some ⟨g1, 0, none⟩) N.nodes.length N.nodes.length)).setCell ⟨w.heap.size + 1 + 1, 1, none⟩ (.slice (some ⟨g2, 0, none⟩) N.fibers.length N.fibers.length) := ⟨_, rfl⟩
  have hfw : Fresh w w2 := by rw [hw2]; exact fset (fset (fstep hf3 hf) (by omega) _) (by omega) _
  have hn2 : NetOwn w2 W3.heap.size (.agg #[.slice (some ⟨g1, 0, none⟩) N.nodes.length N.nodes.length, .slice (some ⟨g2, 0, none⟩) N.fibers.length N.fibers.length]) N := by
    rw [hw2]; exact (hn1.setOther (by omega) _).setOther (by omega) _
  have t2 : RowAt w2 (w.heap.size + 1) 37 [.slice none 0 0, .slice none 0 0, .slice none 0 0] := by rw [hw2]; exact (s2.setOther (by omega) _).setOther (by omega) _
  have t3 : RowAt w2 (w.heap.size + 1 + 1) 37 [.slice (some ⟨g1, 0, none⟩) N.nodes.length N.nodes.length, .slice (some ⟨g2, 0, none⟩) N.fibers.length N.fibers.length, .slice none 0 0] := by rw [hw2]; exact (s3.set 0 _).set 1 _
  have HW2 := Lib.hid hw2
  have HT := Lib.hid (And.intro hfw (And.intro hn2 (And.intro t2 (And.intro t3 hsz3))))
  clear s1 s2 s3 r1 r2 r3 hn1 hf hf3 HS hsz3 hw2 hfw hn2 t2 t3
  go_wp2_with fail
  rw [← HW2.out]
  clear HW2 k12 k30 k31 z30 z31
  refine (toLightS_any r e l _ (HL.out.keep HT.out.1) HSL.out).mono ?_
  rintro e2 w3 ⟨l', rfl, hlv, hrow, hown, hb⟩
  obtain ⟨hfw, hn2, t2, t3, hsz3⟩ := HT.out
  have hlt := t3.lt
  have u2 := t2.keep hb
  have u3 := t3.keep hb
  have k20 := u2.cell (i := 0) rfl
  have k21 := u2.cell (i := 1) rfl
  have k22 := u2.cell (i := 2) rfl
  have z20 := u2.frozen 0
  have z21 := u2.frozen 1
  have z22 := u2.frozen 2
  have k30 := u3.cell (i := 0) rfl
  have k31 := u3.cell (i := 1) rfl
  have k32 := u3.cell (i := 2) rfl
  have z32 := u3.frozen 2
  have HR := Lib.hid (And.intro (hn2.keep hb) (And.intro (fstep hfw hb) (And.intro hlv (And.intro hrow (And.intro hown (And.intro hlt hsz3))))))
  clear u2 u3 t2 t3 hn2 hfw hb HT hsz3 hlv hrow hown hlt
  go_wp2
  obtain ⟨hn3, hf, hlv, hrow, hown, hlt, hsz3⟩ := HR.out
  refine bodyPost_ret (v := .agg #[.slice (some ⟨g1, 0, none⟩) N.nodes.length N.nodes.length, .slice (some ⟨g2, 0, none⟩) N.fibers.length N.fibers.length, .slice (some ⟨w2.heap.size, 0, none⟩) l'.length l'.length]) (by simp [results, Tryz.results7, go_sem, k20, k21, k22]) rfl ?_
  refine ⟨_, rfl, and3 (plan_made (b3 := W3.heap.size) (b4 := w2.heap.size + 1) (g := w2.heap.size) ?_ ?_ ?_ (by omega) (by omega) (by omega) HSM.out (hlv.trans HV.out.symm)) ?_⟩
  · repeat (refine NetOwn.setOther ?_ (by omega) _)
    exact hn3
  · repeat (refine RowAt.setOther ?_ (by omega) _)
    exact hrow
  · intro x hx
    repeat (refine Own.setOther ?_ (by omega) _)
    exact hown x hx
  · repeat (refine fset ?_ (by omega) _)
    exact hf
end Go.Proofs.YtjhaoonacjebpaaGreatDoor

/- Contracts: the exact marks of a plan that is a result. -/
namespace Go.Proofs.YtjhaoonacjebpaaGreatDoor
open Go.RowKit Go.PlainAid

/-- Some cells of a row of the call's own, of whatever content. -/
def RowN (w : World) (base : Nat) (T : TypeId) (q : Option Addr) (n : Nat) : Prop := n = 0 ∨ ∃ g cs, q = some ⟨g, 0, none⟩ ∧ base ≤ g ∧ RowAt w g T cs ∧ n ≤ cs.length
/-- Some cells of a row of the call's own, each as told. -/
def MkRow (w : World) (base : Nat) (T : TypeId) (q : Option Addr) (n : Nat) (mc : Nat → Value) : Prop := n = 0 ∨ ∃ g cs, q = some ⟨g, 0, none⟩ ∧ base ≤ g ∧ RowAt w g T cs ∧ n ≤ cs.length ∧ ∀ t, t < n → cs[t]? = some (mc t)
theorem MkRow.keep {w w' : World} {base : Nat} {T : TypeId} {q : Option Addr} {n : Nat} {mc : Nat → Value} (h : MkRow w base T q n mc) (hb : Fresh w w') : MkRow w' base T q n mc := by
  rcases h with h | ⟨g, cs, h1, h2, h3, h4⟩
  · exact Or.inl h
  · exact Or.inr ⟨g, cs, h1, h2, h3.keep hb, h4⟩
theorem Own.rowN {w : World} {base : Nat} {T : TypeId} {q : Option Addr} {cs : List Value} (h : Own w base T q cs) : RowN w base T q cs.length := by
  rcases h with ⟨_, h⟩ | ⟨g, sp, h1, h2, h3⟩
  · exact Or.inl (by simp [h])
  · exact Or.inr ⟨g, cs ++ sp, h1, h2, h3, by simp⟩
/-- Rows of other types stay where rows of the types T are marked. -/
theorem RowN.typ {w w' : World} {base lo hi : Nat} {t : TypeId} {T : TypeId → Prop} {q : Option Addr} {n : Nat} (h : RowN w base t q n) (hb : Mk T lo hi w w') (hd : ¬ T t) : RowN w' base t q n := by
  rcases h with h | ⟨g, cs, h1, h2, h3, h4⟩
  · exact Or.inl h
  · exact Or.inr ⟨g, cs, h1, h2, hb.row _ _ _ h3 hd, h4⟩
theorem MkRow.typ {w w' : World} {base lo hi : Nat} {t : TypeId} {T : TypeId → Prop} {q : Option Addr} {n : Nat} {mc : Nat → Value} (h : MkRow w base t q n mc) (hb : Mk T lo hi w w') (hd : ¬ T t) : MkRow w' base t q n mc := by
  rcases h with h | ⟨g, cs, h1, h2, h3, h4⟩
  · exact Or.inl h
  · exact Or.inr ⟨g, cs, h1, h2, hb.row _ _ _ h3 hd, h4⟩
theorem Mk.other {w w' : World} {g b : Nat} {t : TypeId} {T : TypeId → Prop} {cs : List Value} (hb : Mk T g (g + 1) w w') (hr : RowAt w b t cs) (hd : b ≠ g) : RowAt w' b t cs := by
  have : w'.heap[b]? = w.heap[b]? := by
    rcases Nat.lt_or_ge b g with h' | h'
    · exact hb.low.block b h'
    · exact hb.up b (by omega) hr.lt
  unfold RowAt; rw [this]; exact hr
theorem RowN.other {w w' : World} {base g : Nat} {t : TypeId} {T : TypeId → Prop} {q : Option Addr} {n : Nat} (h : RowN w base t q n) (hb : Mk T g (g + 1) w w') (hd : ∀ h o, q = some ⟨h, o, none⟩ → h ≠ g) : RowN w' base t q n := by
  rcases h with h | ⟨b, cs, h1, h2, h3, h4⟩
  · exact Or.inl h
  · exact Or.inr ⟨b, cs, h1, h2, hb.other h3 (hd b 0 h1), h4⟩
theorem MkRow.other {w w' : World} {base g : Nat} {t : TypeId} {T : TypeId → Prop} {q : Option Addr} {n : Nat} {mc : Nat → Value} (h : MkRow w base t q n mc) (hb : Mk T g (g + 1) w w') (hd : ∀ h o, q = some ⟨h, o, none⟩ → h ≠ g) : MkRow w' base t q n mc := by
  rcases h with h | ⟨b, cs, h1, h2, h3, h4⟩
  · exact Or.inl h
  · exact Or.inr ⟨b, cs, h1, h2, hb.other h3 (hd b 0 h1), h4⟩
theorem set_pt {cs : List Value} {i n : Nat} {v : Value} {mc : Nat → Value} (hi : i < cs.length) (hv : v = mc i) (h : ∀ t, t < n → cs[t]? = some (mc t)) : ∀ t, t < n → (cs.set i v)[t]? = some (mc t) := by
  intro t ht
  rw [List.getElem?_set]
  by_cases e : i = t
  · subst e; rw [if_pos rfl, if_pos hi, hv]
  · rw [if_neg e]; exact h t ht
theorem set_pt1 {cs : List Value} {n : Nat} {v : Value} {mc : Nat → Value} (hi : n < cs.length) (hv : v = mc n) (h : ∀ t, t < n → cs[t]? = some (mc t)) : ∀ t, t < n + 1 → (cs.set n v)[t]? = some (mc t) := by
  intro t ht
  rw [List.getElem?_set]
  by_cases e : n = t
  · subst e; rw [if_pos rfl, if_pos hi, hv]
  · rw [if_neg e]; exact h t (by omega)
set_option maxHeartbeats 1000000 in
theorem markIntS_p (g cap n base : Nat) (cs : List Value) (k0 : Int) (w : World) (hr : RowAt w g 3 cs) (hg : base ≤ g) (hl : n ≤ cs.length) (hn : n ≤ 1099511627776) (h0 : 0 ≤ k0) (h1 : k0 ≤ 281474976710656) :
    Calls Tryz.prog 74 #[.slice (some ⟨g, 0, none⟩) n cap, .int .i64 k0] w fun e w' => e = .returned (.int .i64 (k0 + n)) ∧ MkRow w' base 3 (some ⟨g, 0, none⟩) n (fun t => iv (k0 + (t : Int))) ∧ Mk (fun t => t = 3) g (g + 1) w w' := by
  have HR0 := Lib.hid hr
  clear hr
  go_enter Tryz.func74, Tryz.ntmps74
  go_wp2
  go_loopw [1, 5] (fun kk i wr => ∃ (j : Nat) (cs : List Value), j ≤ n ∧ i = .int .i64 j ∧ kk = .int .i64 (k0 + j) ∧ RowAt wr g 3 cs ∧ n ≤ cs.length ∧ (∀ t, t < j → cs[t]? = some (iv (k0 + (t : Int)))) ∧ Mk (fun t => t = 3) g (g + 1) w wr) (fun _ i _ => n - (intOf i).toNat)
  case atStart => exact ⟨0, cs, Nat.zero_le _, rfl, by simp, HR0.out, hl, fun t ht => by omega, Mk.refl _ _ _ _⟩
  case round =>
    obtain ⟨j, cs1, hj, rfl, rfl, hr, hl1, hp, hb⟩ := hrel
    have HB := Lib.hid hb
    have HP := Lib.hid hp
    clear hb hp
    by_cases hlt : j < n
    · have hltz : (j : Int) < (n : Int) := by omega
      have hc := hr.cell (show cs1[j]? = some cs1[j] from List.getElem?_eq_getElem (by omega))
      have hf := hr.frozen j
      have HR := Lib.hid hr
      clear hr
      go_wp2
      go_roundw
      case rel => exact ⟨j + 1, cs1.set j (iv (k0 + (j : Int))), by omega, by go_num, by go_num, HR.out.set j _, by simpa using hl1, set_pt1 (mc := fun t => iv (k0 + (t : Int))) (by omega) rfl HP.out, HB.out.set HR.out rfl (Nat.le_refl _) (by omega) _ _⟩
      case measure => simp [intOf]; omega
    · have hjn : j = n := by omega
      subst hjn
      have HR := Lib.hid hr
      clear hr
      go_wp2
      go_ret
      exact ⟨rfl, Or.inr ⟨g, cs1, rfl, hg, HR.out, hl1, HP.out⟩, HB.out⟩
theorem markIntS_z (q : Option Addr) (cap : Nat) (k0 : Int) (w : World) :
    Calls Tryz.prog 74 #[.slice q 0 cap, .int .i64 k0] w fun e w' => e = .returned (.int .i64 k0) ∧ w = w' := by
  go_enter Tryz.func74, Tryz.ntmps74
  go_wp2
  go_loop [1, 5] (fun kk i => i = .int .i64 0 ∧ kk = .int .i64 k0) (fun _ _ => 0)
  case atStart => exact ⟨rfl, rfl⟩
  case round =>
    obtain ⟨rfl, rfl⟩ := hrel
    go_wp2
    go_ret
    exact ⟨rfl, rfl⟩
set_option maxHeartbeats 1000000 in
theorem markStringS_p (p : Option Addr) (cap n base : Nat) (k0 : Int) (w : World) (ho : RowN w base 9 p n) (hbs : base ≤ w.heap.size) (hn : n ≤ 1048576) (h0 : 0 ≤ k0) (h1 : k0 ≤ 281474976710656) :
    Calls Tryz.prog 72 #[.slice p n cap, .int .i64 k0] w fun e w' => e = .returned (.int .i64 (k0 + n)) ∧ MkRow w' base 9 p n (fun t => .string (mtxt (k0 + (t : Int)))) ∧ ∃ hi, Mk strT base hi w w' := by
  have HO := Lib.hid ho
  clear ho
  rcases HO.out with hz | ⟨g, cs, rfl, hg, hr, hl⟩
  · subst hz
    go_enter Tryz.func72, Tryz.ntmps72
    go_wp2
    go_loop [1, 5] (fun kk i => i = .int .i64 0 ∧ kk = .int .i64 k0) (fun _ _ => 0)
    case atStart => exact ⟨rfl, rfl⟩
    case round =>
      obtain ⟨rfl, rfl⟩ := hrel
      go_wp2
      go_ret
      exact ⟨by simp, Or.inl rfl, 0, Mk.refl _ _ _ _⟩
  have HR0 := Lib.hid hr
  clear hr
  go_enter Tryz.func72, Tryz.ntmps72
  go_wp2
  go_loopw [1, 5] (fun kk i wr => ∃ (j : Nat) (cs : List Value), j ≤ n ∧ i = .int .i64 j ∧ kk = .int .i64 (k0 + j) ∧ RowAt wr g 9 cs ∧ n ≤ cs.length ∧ (∀ t, t < j → cs[t]? = some (.string (mtxt (k0 + (t : Int))))) ∧ Mk strT base (g + 1) w wr) (fun _ i _ => n - (intOf i).toNat)
  case atStart => exact ⟨0, cs, Nat.zero_le _, rfl, by simp, HR0.out, hl, fun t ht => by omega, Mk.refl _ _ _ _⟩
  case round =>
    obtain ⟨j, cs1, hj, rfl, rfl, hr, hl1, hp, hb⟩ := hrel
    have HB := Lib.hid hb
    have HP := Lib.hid hp
    clear hb hp
    by_cases hlt : j < n
    · have hltz : (j : Int) < (n : Int) := by omega
      have HR := Lib.hid hr
      clear hr
      go_wp2_with fail
      refine (markText_any _ _ (by omega) (by omega)).mono ?_
      rintro e w1 ⟨rfl, hb1⟩
      have hr1 := HR.out.keep hb1
      have hc := hr1.cell (show cs1[j]? = some cs1[j] from List.getElem?_eq_getElem (by omega))
      have hf := hr1.frozen j
      have HR1 := Lib.hid hr1
      have HB1 := Lib.hid (HB.out.trans (Mk.fresh (T := strT) (hi := g + 1) hb1 (Nat.le_trans hbs HB.out.low.size)))
      clear hr1 hb1 HR
      go_wp2
      go_roundw
      case rel => exact ⟨j + 1, cs1.set j (.string (mtxt (k0 + (j : Int)))), by omega, by go_num, by go_num, HR1.out.set j _, by simpa using hl1, set_pt1 (mc := fun t => .string (mtxt (k0 + (t : Int)))) (by omega) rfl HP.out, HB1.out.set HR1.out rfl hg (by omega) _ _⟩
      case measure => simp [intOf]; omega
    · have hjn : j = n := by omega
      subst hjn
      have HR := Lib.hid hr
      clear hr
      go_wp2
      go_ret
      exact ⟨rfl, Or.inr ⟨g, cs1, rfl, hg, HR.out, hl1, HP.out⟩, g + 1, HB.out⟩
set_option maxHeartbeats 2000000 in
theorem markFiberS_p (p : Option Addr) (cap n base : Nat) (k0 : Int) (w : World) (ho : RowN w base 96 p (n * 4)) (hn : n ≤ 1048576) (h0 : 0 ≤ k0) (h1 : k0 ≤ 281474976710656) :
    Calls Tryz.prog 73 #[.slice p n cap, .int .i64 k0] w fun e w' => e = .returned (.int .i64 (k0 + 4 * n)) ∧ MkRow w' base 96 p (n * 4) (fun t => iv (k0 + (t : Int))) ∧ ∃ hi, Mk fibT base hi w w' := by
  have HO := Lib.hid ho
  clear ho
  rcases HO.out with hz | ⟨g, cs, rfl, hg, hr, hl⟩
  · have hz0 : n = 0 := by omega
    subst hz0
    go_enter Tryz.func73, Tryz.ntmps73
    go_wp2
    go_loop [1, 5] (fun kk i => i = .int .i64 0 ∧ kk = .int .i64 k0) (fun _ _ => 0)
    case atStart => exact ⟨rfl, rfl⟩
    case round =>
      obtain ⟨rfl, rfl⟩ := hrel
      go_wp2
      go_ret
      exact ⟨by simp, Or.inl rfl, 0, Mk.refl _ _ _ _⟩
  have HR0 := Lib.hid hr
  clear hr
  go_enter Tryz.func73, Tryz.ntmps73
  go_wp2
  go_loopw [1, 5] (fun kk i wr => ∃ (j : Nat) (cs : List Value), j ≤ n ∧ i = .int .i64 j ∧ kk = .int .i64 (k0 + 4 * j) ∧ RowAt wr g 96 cs ∧ n * 4 ≤ cs.length ∧ (∀ t, t < j * 4 → cs[t]? = some (iv (k0 + (t : Int)))) ∧ Mk fibT base (g + 1) w wr) (fun _ i _ => n - (intOf i).toNat)
  case atStart => exact ⟨0, cs, Nat.zero_le _, rfl, by simp, HR0.out, hl, fun t ht => by omega, Mk.refl _ _ _ _⟩
  case round =>
    obtain ⟨j, cs1, hj, rfl, rfl, hr, hl1, hp, hb⟩ := hrel
    have HB := Lib.hid hb
    have HP := Lib.hid hp
    clear hb hp
    by_cases hlt : j < n
    · have hltz : (j : Int) < (n : Int) := by omega
      have hc0 : wr.cell? ⟨g, j * 4, none⟩ = some cs1[j * 4] := hr.cell (List.getElem?_eq_getElem (by omega))
      have hc1 : wr.cell? ⟨g, j * 4 + 1, none⟩ = some cs1[j * 4 + 1] := hr.cell (List.getElem?_eq_getElem (by omega))
      have hc2 : wr.cell? ⟨g, j * 4 + 2, none⟩ = some cs1[j * 4 + 2] := hr.cell (List.getElem?_eq_getElem (by omega))
      have hc3 : wr.cell? ⟨g, j * 4 + 3, none⟩ = some cs1[j * 4 + 3] := hr.cell (List.getElem?_eq_getElem (by omega))
      have hf0 := hr.frozen (j * 4)
      have hf1 := hr.frozen (j * 4 + 1)
      have hf2 := hr.frozen (j * 4 + 2)
      have hf3 := hr.frozen (j * 4 + 3)
      have HR := Lib.hid hr
      clear hr
      go_wp2
      go_roundw
      case rel =>
        refine ⟨j + 1, (((cs1.set (j * 4) (iv (k0 + 4 * j))).set (j * 4 + 1) (iv (k0 + 4 * j + 1))).set (j * 4 + 2) (iv (k0 + 4 * j + 1 + 1))).set (j * 4 + 3) (iv (k0 + 4 * j + 1 + 1 + 1)), by omega, by go_num, by go_num, (((HR.out.set _ _).set _ _).set _ _).set _ _, by simpa using hl1, ?_, ?_⟩
        · intro t ht
          have e0 := set_pt1 (cs := cs1) (v := iv (k0 + 4 * j)) (mc := fun t => iv (k0 + (t : Int))) (n := j * 4) (by omega) (by simp; omega) HP.out
          have e1 := set_pt1 (v := iv (k0 + 4 * j + 1)) (mc := fun t => iv (k0 + (t : Int))) (n := j * 4 + 1) (by simp; omega) (by simp; omega) e0
          have e2 := set_pt1 (v := iv (k0 + 4 * j + 1 + 1)) (mc := fun t => iv (k0 + (t : Int))) (n := j * 4 + 2) (by simp; omega) (by simp; omega) e1
          have e3 := set_pt1 (v := iv (k0 + 4 * j + 1 + 1 + 1)) (mc := fun t => iv (k0 + (t : Int))) (n := j * 4 + 3) (by simp; omega) (by simp; omega) e2
          exact e3 t (by omega)
        · exact (((HB.out.set HR.out rfl hg (by omega) _ _).set (HR.out.set _ _) rfl hg (by omega) _ _).set ((HR.out.set _ _).set _ _) rfl hg (by omega) _ _).set (((HR.out.set _ _).set _ _).set _ _) rfl hg (by omega) _ _
      case measure => simp [intOf]; omega
    · have hjn : j = n := by omega
      subst hjn
      have HR := Lib.hid hr
      clear hr
      go_wp2
      go_ret
      exact ⟨rfl, Or.inr ⟨g, cs1, rfl, hg, HR.out, hl1, HP.out⟩, g + 1, HB.out⟩
theorem MkRow.at {w : World} {base : Nat} {T : TypeId} {q : Option Addr} {n : Nat} {mc : Nat → Value} (h : MkRow w base T q n mc) {t : Nat} (ht : t < n) : ∃ g, q = some ⟨g, 0, none⟩ ∧ w.cell? ⟨g, t, none⟩ = some (mc t) := by
  rcases h with h | ⟨g, cs, h1, h2, h3, h4, h5⟩
  · omega
  · exact ⟨g, h1, h3.cell (h5 t ht)⟩
theorem MkRow.ints {w : World} {base : Nat} {q : Option Addr} {n : Nat} {k0 : Int} (h : MkRow w base 3 q n fun t => iv (k0 + (t : Int))) : Ints w q (marks k0 n) := by
  rcases h with h | ⟨g, cs, h1, h2, h3, h4, h5⟩
  · exact Or.inl (by subst h; rfl)
  · refine Or.inr ⟨g, 0, h1, fun i v hv => ?_⟩
    have hi : i < n := by
      rcases Nat.lt_or_ge i n with h' | h'
      · exact h'
      · rw [List.getElem?_eq_none (by simp [marks_len]; exact h')] at hv; cases hv
    have hm : (marks k0 n)[i]? = some (k0 + (i : Int)) := by unfold marks; simp [hi]
    rw [List.getElem?_map, hm] at hv
    cases hv
    have := h3.cell (h5 i hi)
    rw [Nat.zero_add]; exact this
set_option maxHeartbeats 1000000 in
theorem heldStringS_p (p : Option Addr) (cap n base : Nat) (k0 : Int) (w : World) (h : MkRow w base 9 p n fun t => .string (mtxt (k0 + (t : Int)))) (hn : n ≤ 1048576) (h0 : 0 ≤ k0) (h1 : k0 ≤ 281474976710656) :
    Calls Tryz.prog 75 #[.slice p n cap, .int .i64 k0] w fun e w' => e = .returned (.int .i64 (k0 + n)) ∧ Fresh w w' := by
  have HM := Lib.hid h
  clear h
  go_enter Tryz.func75, Tryz.ntmps75
  go_wp2
  go_loopw [1, 5] (fun kk i wr => ∃ j : Nat, j ≤ n ∧ i = .int .i64 j ∧ kk = .int .i64 (k0 + j) ∧ Fresh w wr) (fun _ i _ => n - (intOf i).toNat)
  case atStart => exact ⟨0, Nat.zero_le _, rfl, by simp, frefl _⟩
  case round =>
    obtain ⟨j, hj, rfl, rfl, hf⟩ := hrel
    have HF := Lib.hid hf
    clear hf
    by_cases hlt : j < n
    · have hltz : (j : Int) < (n : Int) := by omega
      obtain ⟨g, rfl, hc⟩ := (HM.out.keep HF.out).at hlt
      obtain ⟨tx, htx⟩ : ∃ tx, tx = mtxt (k0 + (j : Int)) := ⟨_, rfl⟩
      have HC : Hid (∀ xa : After wr, Calls Tryz.prog 118 #[.int .i64 (k0 + (j : Int))] xa.w' fun e w' => e = .returned (.string tx) ∧ Fresh xa.w' w') := by rw [htx]; exact fun xa => markText_any (k0 + (j : Int)) xa.w' (by omega) (by omega)
      rw [← htx] at hc
      have hne : (tx.toList == tx.toList) = true := by simp
      have hc2 := fun xa : After wr => akeep hc xa
      clear htx
      go_wp2
      refine wp_region_after (by kernel_rfl) (by kernel_rfl) ?_
      repeat (go_big_quiet_step ((go_at_call 118; exact after_call (HC.out _))))
      refine wpQuiet_nil ?_
      rintro _ ⟨xa, rfl⟩
      go_wp2
      go_roundw
      case rel => exact ⟨j + 1, by omega, by go_num, by go_num, fstep HF.out xa.h⟩
      case measure => simp [intOf]; omega
    · have hjn : j = n := by omega
      subst hjn
      go_wp2
      go_ret
      exact ⟨rfl, HF.out⟩
set_option maxHeartbeats 1000000 in
theorem heldFiberS_p (p : Option Addr) (cap n base : Nat) (k0 : Int) (w : World) (h : MkRow w base 96 p (n * 4) fun t => iv (k0 + (t : Int))) (hn : n ≤ 1048576) (h0 : 0 ≤ k0) (h1 : k0 ≤ 281474976710656) :
    Calls Tryz.prog 76 #[.slice p n cap, .int .i64 k0] w fun e w' => e = .returned (.int .i64 (k0 + 4 * n)) ∧ w = w' := by
  have HM := Lib.hid h
  clear h
  go_enter Tryz.func76, Tryz.ntmps76
  go_wp2
  go_loop [1, 5] (fun kk i => ∃ j : Nat, j ≤ n ∧ i = .int .i64 j ∧ kk = .int .i64 (k0 + 4 * j)) (fun _ i => n - (intOf i).toNat)
  case atStart => exact ⟨0, Nat.zero_le _, rfl, by simp⟩
  case round =>
    obtain ⟨j, hj, rfl, rfl⟩ := hrel
    by_cases hlt : j < n
    · have hltz : (j : Int) < (n : Int) := by omega
      obtain ⟨g, rfl, c0⟩ := HM.out.at (t := j * 4) (by omega)
      obtain ⟨g1, e1, c1⟩ := HM.out.at (t := j * 4 + 1) (by omega)
      cases e1
      obtain ⟨g1, e1, c2⟩ := HM.out.at (t := j * 4 + 2) (by omega)
      cases e1
      obtain ⟨g1, e1, c3⟩ := HM.out.at (t := j * 4 + 3) (by omega)
      cases e1
      simp only [show k0 + ((j * 4 : Nat) : Int) = k0 + 4 * (j : Int) by omega] at c0
      simp only [show k0 + ((j * 4 + 1 : Nat) : Int) = k0 + 4 * (j : Int) + 1 by omega] at c1
      simp only [show k0 + ((j * 4 + 2 : Nat) : Int) = k0 + 4 * (j : Int) + 1 + 1 by omega] at c2
      simp only [show k0 + ((j * 4 + 3 : Nat) : Int) = k0 + 4 * (j : Int) + 1 + 1 + 1 by omega] at c3
      go_wp2
      go_round
      case rel => exact ⟨j + 1, by omega, by go_num, by go_num⟩
      case measure => simp [intOf]; omega
    · have hjn : j = n := by omega
      subst hjn
      go_wp2
      go_ret
      exact ⟨rfl, rfl⟩
end Go.Proofs.YtjhaoonacjebpaaGreatDoor

/- Contracts: the exact marks of a plan's lights, and of a plan. -/
namespace Go.Proofs.YtjhaoonacjebpaaGreatDoor
open Go.RowKit Go.PlainAid

abbrev inT : TypeId → Prop := fun t => t = 3
def QMk (base : Nat) (q : Option Addr) (w w' : World) : Prop := w' = w ∨ ∃ g, q = some ⟨g, 0, none⟩ ∧ base ≤ g ∧ Mk inT g (g + 1) w w'
theorem QMk.row {base : Nat} {q : Option Addr} {w w' : World} (h : QMk base q w w') {g : Nat} {t : TypeId} {cs : List Value} (hr : RowAt w g t cs) (ht : t ≠ 3) : RowAt w' g t cs := by
  rcases h with rfl | ⟨b, _, _, hb⟩
  · exact hr
  · exact hb.row _ _ _ hr ht
theorem QMk.below {base : Nat} {q : Option Addr} {w w' : World} (h : QMk base q w w') : Below base w w' := by
  rcases h with rfl | ⟨b, _, hg, hb⟩
  · exact Below.refl _ _
  · exact hb.low.mono hg
theorem QMk.rowN {base base' : Nat} {q q' : Option Addr} {n : Nat} {w w' : World} (h : QMk base q w w') (hr : RowN w base' 3 q' n) (hd : ∀ g o h o', q = some ⟨g, o, none⟩ → q' = some ⟨h, o', none⟩ → g ≠ h) : RowN w' base' 3 q' n := by
  rcases h with rfl | ⟨b, hq, _, hb⟩
  · exact hr
  · exact hr.other hb fun h o e => (hd b 0 h o hq e).symm
theorem QMk.mkRow {base base' : Nat} {q q' : Option Addr} {n : Nat} {mc : Nat → Value} {w w' : World} (h : QMk base q w w') (hr : MkRow w base' 3 q' n mc) (hd : ∀ g o h o', q = some ⟨g, o, none⟩ → q' = some ⟨h, o', none⟩ → g ≠ h) : MkRow w' base' 3 q' n mc := by
  rcases h with rfl | ⟨b, hq, _, hb⟩
  · exact hr
  · exact hr.other hb fun h o e => (hd b 0 h o hq e).symm
theorem markIntS_q (q : Option Addr) (cap n base : Nat) (k0 : Int) (w : World) (h : RowN w base 3 q n) (hn : n ≤ 1099511627776) (h0 : 0 ≤ k0) (h1 : k0 ≤ 281474976710656) :
    Calls Tryz.prog 74 #[.slice q n cap, .int .i64 k0] w fun e w' => e = .returned (.int .i64 (k0 + n)) ∧ MkRow w' base 3 q n (fun t => iv (k0 + (t : Int))) ∧ QMk base q w w' := by
  rcases h with rfl | ⟨g, cs, rfl, hg, hr, hl⟩
  · refine (markIntS_z q cap k0 w).mono ?_
    rintro e w' ⟨rfl, rfl⟩
    exact ⟨by simp, Or.inl rfl, Or.inl rfl⟩
  · refine (markIntS_p g cap n base cs k0 w hr hg hl hn h0 h1).mono ?_
    rintro e w' ⟨rfl, h2, h3⟩
    exact ⟨rfl, h2, Or.inr ⟨g, rfl, hg, h3⟩⟩
theorem RowN.setO {w : World} {base g : Nat} {t T : TypeId} {cs : List Value} {q : Option Addr} {n : Nat} (h : RowN w base t q n) (hr : RowAt w g T cs) (hT : t ≠ T) (i : Nat) (v : Value) : RowN (w.setCell ⟨g, i, none⟩ v) base t q n := by
  rcases h with h | ⟨b, cs', h1, h2, h3, h4⟩
  · exact Or.inl h
  · exact Or.inr ⟨b, cs', h1, h2, h3.setOther (fun e => by subst e; exact hT (h3.inj hr).1) _, h4⟩
theorem MkRow.setO {w : World} {base g : Nat} {t T : TypeId} {cs : List Value} {q : Option Addr} {n : Nat} {mc : Nat → Value} (h : MkRow w base t q n mc) (hr : RowAt w g T cs) (hT : t ≠ T) (i : Nat) (v : Value) : MkRow (w.setCell ⟨g, i, none⟩ v) base t q n mc := by
  rcases h with h | ⟨b, cs', h1, h2, h3, h4⟩
  · exact Or.inl h
  · exact Or.inr ⟨b, cs', h1, h2, h3.setOther (fun e => by subst e; exact hT (h3.inj hr).1) _, h4⟩
/-- Lights whose fibers lie in rows of their own. -/
def DistL (l : List LL) : Prop := ∀ (i j : Nat) (x y : LL), i ≠ j → l[i]? = some x → l[j]? = some y → ∀ g o h o', x.r.q = some ⟨g, o, none⟩ → y.r.q = some ⟨h, o', none⟩ → g ≠ h
def ltN (l : List LL) : Nat → Nat
  | 0 => 0
  | k + 1 => match l[k]? with | some x => ltN l k + (4 + x.r.fibs.length) | none => ltN l k
theorem ltN_step {l : List LL} {k : Nat} {x : LL} (h : l[k]? = some x) : ltN l (k + 1) = ltN l k + (4 + x.r.fibs.length) := by
  show (match l[k]? with | some x => ltN l k + (4 + x.r.fibs.length) | none => ltN l k) = _
  rw [h]
theorem ltN_le {l : List LL} (h : LtsSmall l) (k : Nat) : ltN l k ≤ 1048580 * k := by
  induction k with
  | zero => exact Nat.le_refl _
  | succ k ih =>
    cases hk : l[k]? with
    | none =>
      have e : ltN l (k + 1) = ltN l k := by
        show (match l[k]? with | some x => ltN l k + (4 + x.r.fibs.length) | none => ltN l k) = _
        rw [hk]
      rw [e]; omega
    | some x =>
      have := h.2 x (List.mem_of_getElem? hk)
      rw [ltN_step hk]; omega
def LtMk1 (w : World) (base : Nat) (k0 : Int) (cs : List Value) (i : Nat) (x : LL) (k : Nat) : Prop :=
  cs[i * 5]? = some (iv (k0 + k)) ∧ cs[i * 5 + 1]? = some (iv (k0 + k + 1)) ∧ cs[i * 5 + 3]? = some (iv (k0 + k + 1 + 1 + x.r.fibs.length)) ∧ cs[i * 5 + 4]? = some (iv (k0 + k + 1 + 1 + x.r.fibs.length + 1)) ∧
    MkRow w base 3 x.r.q x.r.fibs.length fun t => iv (k0 + k + 1 + 1 + (t : Int))
def LtMk (w : World) (base : Nat) (k0 : Int) (r : Option Addr) (l : List LL) : Prop := l = [] ∨ ∃ g cs, r = some ⟨g, 0, none⟩ ∧ base ≤ g ∧ RowAt w g 58 cs ∧ l.length * 5 ≤ cs.length ∧ (∀ i x, l[i]? = some x → cs[i * 5 + 2]? = some (.slice x.r.q x.r.fibs.length x.r.cap)) ∧ ∀ i x, l[i]? = some x → LtMk1 w base k0 cs i x (ltN l i)
theorem LtMk.keep {w w' : World} {base : Nat} {k0 : Int} {r : Option Addr} {l : List LL} (h : LtMk w base k0 r l) (hb : Fresh w w') : LtMk w' base k0 r l := by
  rcases h with h | ⟨g, cs, h1, h2, h3, h4, h5, h6⟩
  · exact Or.inl h
  · exact Or.inr ⟨g, cs, h1, h2, h3.keep hb, h4, h5, fun i x hx => ⟨(h6 i x hx).1, (h6 i x hx).2.1, (h6 i x hx).2.2.1, (h6 i x hx).2.2.2.1, (h6 i x hx).2.2.2.2.keep hb⟩⟩
theorem set_ne {cs : List Value} {i t : Nat} {v u : Value} (h : cs[t]? = some u) (hne : i ≠ t) : (cs.set i v)[t]? = some u := by rw [List.getElem?_set_ne hne]; exact h
set_option maxHeartbeats 4000000 in
set_option maxRecDepth 20000 in
theorem markLightS_p (r : Option Addr) (cap base : Nat) (l : List LL) (k0 : Int) (w : World) (ho : Own w base 58 r (l.flatMap llC)) (hi : ∀ x ∈ l, RowN w base 3 x.r.q x.r.fibs.length) (hd : DistL l) (hs : LtsSmall l) (h0 : 0 ≤ k0) (h1 : k0 ≤ 1099511627776) :
    Calls Tryz.prog 35 #[.slice r l.length cap, .int .i64 k0] w fun e w' => e = .returned (.int .i64 (k0 + ltN l l.length)) ∧ LtMk w' base k0 r l ∧ Below base w w' ∧ (∀ g t cs, RowAt w g t cs → t ≠ 3 → t ≠ 58 → RowAt w' g t cs) := by
  have hn := hs.1
  have HSM := Lib.hid hs
  have HI := Lib.hid hi
  have HD := Lib.hid hd
  rcases ho with ⟨rfl, hnil⟩ | ⟨g, sp, rfl, hg, hr⟩
  · have hl0 : l = [] := by
      cases l with
      | nil => rfl
      | cons a l => simp [List.flatMap_cons] at hnil
    subst hl0
    clear hi hd hs
    go_enter Tryz.func35, Tryz.ntmps35
    go_wp2
    go_loop [1, 5] (fun kk i => i = .int .i64 0 ∧ kk = .int .i64 k0) (fun _ _ => 0)
    case atStart => exact ⟨rfl, rfl⟩
    case round =>
      obtain ⟨rfl, rfl⟩ := hrel
      go_wp2
      go_ret
      exact ⟨by simp [ltN], Or.inl rfl, Below.refl _ _, fun _ _ _ h _ _ => h⟩
  have HR0 := Lib.hid hr
  clear hr hi hd hs
  go_enter Tryz.func35, Tryz.ntmps35
  go_wp2
  go_loopw [1, 5] (fun kk i wr => ∃ (j : Nat) (cs : List Value), j ≤ l.length ∧ i = .int .i64 j ∧ kk = .int .i64 (k0 + ltN l j) ∧ RowAt wr g 58 cs ∧ l.length * 5 ≤ cs.length ∧ (∀ i x, l[i]? = some x → cs[i * 5 + 2]? = some (.slice x.r.q x.r.fibs.length x.r.cap)) ∧ (∀ i x, i < j → l[i]? = some x → LtMk1 wr base k0 cs i x (ltN l i)) ∧ (∀ i x, j ≤ i → l[i]? = some x → RowN wr base 3 x.r.q x.r.fibs.length) ∧ Below base w wr ∧ (∀ g t cs, RowAt w g t cs → t ≠ 3 → t ≠ 58 → RowAt wr g t cs)) (fun _ i _ => l.length - (intOf i).toNat)
  case atStart =>
    refine ⟨0, _, Nat.zero_le _, rfl, by simp [ltN], HR0.out, by rw [List.length_append, flat_len llC 5 (fun _ => rfl)]; omega, fun i x hx => ?_, fun i x hi => by omega, fun i x _ hx => HI.out x (List.mem_of_getElem? hx), Below.refl _ _, fun _ _ _ h _ _ => h⟩
    have hil : i < l.length := by
      rcases Nat.lt_or_ge i l.length with h' | h'
      · exact h'
      · rw [List.getElem?_eq_none h'] at hx; cases hx
    rw [List.getElem?_append_left (by rw [flat_len llC 5 (fun _ => rfl)]; omega), ll_get hx 2 (by omega)]; rfl
  case round =>
    obtain ⟨j, cs, hj, rfl, rfl, hr, hcs, hsl, hmk, hun, hb, hrw⟩ := hrel
    by_cases hlt : j < l.length
    · have hltz : (j : Int) < (l.length : Int) := by omega
      obtain ⟨x, hx⟩ : ∃ x, l[j]? = some x := ⟨_, List.getElem?_eq_getElem hlt⟩
      have hsm := HSM.out.2 x (List.mem_of_getElem? hx)
      have hk := ltN_le HSM.out j
      have HT := Lib.hid (ltN_step hx)
      obtain ⟨kj, hkj⟩ : ∃ kj, kj = ltN l j := ⟨_, rfl⟩
      rw [← hkj] at hk HT ⊢
      have HKJ := Lib.hid hkj
      have hc0 : wr.cell? ⟨g, j * 5, none⟩ = some cs[j * 5] := hr.cell (List.getElem?_eq_getElem (by omega))
      have hc1 : wr.cell? ⟨g, j * 5 + 1, none⟩ = some cs[j * 5 + 1] := hr.cell (List.getElem?_eq_getElem (by omega))
      have hc2 : wr.cell? ⟨g, j * 5 + 2, none⟩ = some (.slice x.r.q x.r.fibs.length x.r.cap) := hr.cell (hsl j x hx)
      have hf0 := hr.frozen (j * 5)
      have hf1 := hr.frozen (j * 5 + 1)
      obtain ⟨w2, hw2⟩ : ∃ w2, w2 = (wr.setCell ⟨g, j * 5, none⟩ (.int .i64 (k0 + kj))).setCell ⟨g, j * 5 + 1, none⟩ (.int .i64 (k0 + kj + 1)) := ⟨_, rfl⟩
      obtain ⟨cs2, hcs2⟩ : ∃ cs2, cs2 = (cs.set (j * 5) (iv (k0 + kj))).set (j * 5 + 1) (iv (k0 + kj + 1)) := ⟨_, rfl⟩
      have hr1 := hr.set (j * 5) (iv (k0 + kj))
      have hr2 : RowAt w2 g 58 cs2 := by rw [hw2, hcs2]; exact hr1.set (j * 5 + 1) (iv (k0 + kj + 1))
      have hl2 : l.length * 5 ≤ cs2.length := by rw [hcs2]; simpa using hcs
      have hsl2 : ∀ i x, l[i]? = some x → cs2[i * 5 + 2]? = some (.slice x.r.q x.r.fibs.length x.r.cap) := by
        intro i y hy; rw [hcs2]; exact set_ne (set_ne (hsl i y hy) (by omega)) (by omega)
      have hmk2 : ∀ i x, i < j → l[i]? = some x → LtMk1 w2 base k0 cs2 i x (ltN l i) := by
        intro i y hij hy
        obtain ⟨m0, m1, m3, m4, mr⟩ := hmk i y hij hy
        rw [hcs2, hw2]
        exact ⟨set_ne (set_ne m0 (by omega)) (by omega), set_ne (set_ne m1 (by omega)) (by omega), set_ne (set_ne m3 (by omega)) (by omega), set_ne (set_ne m4 (by omega)) (by omega), (mr.setO hr (by decide) _ _).setO hr1 (by decide) _ _⟩
      have hun2 : ∀ i x, j ≤ i → l[i]? = some x → RowN w2 base 3 x.r.q x.r.fibs.length := by
        intro i y hij hy; rw [hw2]; exact ((hun i y hij hy).setO hr (by decide) _ _).setO hr1 (by decide) _ _
      have hb2 : Below base w w2 := by rw [hw2]; exact (hb.setCell hg _).setCell hg _
      have hrw2 : ∀ g t cs, RowAt w g t cs → t ≠ 3 → t ≠ 58 → RowAt w2 g t cs := by
        intro b t ds hds n1 n2
        rw [hw2]
        have h3 := hrw b t ds hds n1 n2
        have hne : b ≠ g := fun e => by subst e; exact n2 (h3.inj hr).1
        exact (h3.setOther hne _).setOther hne _
      have m0 : cs2[j * 5]? = some (iv (k0 + kj)) := by rw [hcs2]; refine set_ne ?_ (by omega); rw [List.getElem?_set, if_pos rfl, if_pos (by omega)]
      have m1 : cs2[j * 5 + 1]? = some (iv (k0 + kj + 1)) := by rw [hcs2, List.getElem?_set, if_pos rfl, if_pos (by simp; omega)]
      have HW := Lib.hid hw2
      have HX := Lib.hid hx
      have HC := Lib.hid (markIntS_q x.r.q x.r.cap x.r.fibs.length base (k0 + kj + 1 + 1) w2 (hun2 j x (Nat.le_refl _) hx) (by omega) (by omega) (by omega))
      have HK := Lib.hid (And.intro hr2 (And.intro hl2 (And.intro hsl2 (And.intro hmk2 (And.intro hun2 (And.intro hb2 (And.intro hrw2 (And.intro m0 m1))))))))
      clear hw2 hcs2 hr hr1 hr2 hl2 hsl hsl2 hmk hmk2 hun hun2 hb hb2 hrw hrw2 hx hkj m0 m1
      go_wp2_with fail
      rw [← HW.out]
      refine (HC.out).mono ?_
      rintro e w3 ⟨rfl, hm3, hq3⟩
      obtain ⟨hr2, hl2, hsl2, hmk2, hun2, hb2, hrw2, m0, m1⟩ := HK.out
      have hr3 := hq3.row hr2 (by decide)
      have hc3 : w3.cell? ⟨g, j * 5 + 3, none⟩ = some cs2[j * 5 + 3] := hr3.cell (List.getElem?_eq_getElem (by omega))
      have hc4 : w3.cell? ⟨g, j * 5 + 4, none⟩ = some cs2[j * 5 + 4] := hr3.cell (List.getElem?_eq_getElem (by omega))
      have hf3 := hr3.frozen (j * 5 + 3)
      have hf4 := hr3.frozen (j * 5 + 4)
      have HM3 := Lib.hid hm3
      have HQ3 := Lib.hid hq3
      have HR3 := Lib.hid hr3
      clear hr2 hsl2 hmk2 hun2 hb2 hrw2 m0 m1 hr3 hm3 hq3 HC hc0 hc1 hc2 hf0 hf1
      go_wp2
      go_roundw
      case rel =>
        obtain ⟨hr2, hl2, hsl2, hmk2, hun2, hb2, hrw2, m0, m1⟩ := HK.out
        have hr3 := HR3.out
        have hr4 := hr3.set (j * 5 + 3) (iv (k0 + kj + 1 + 1 + x.r.fibs.length))
        refine ⟨j + 1, (cs2.set (j * 5 + 3) (iv (k0 + kj + 1 + 1 + x.r.fibs.length))).set (j * 5 + 4) (iv (k0 + kj + 1 + 1 + x.r.fibs.length + 1)), by omega, by go_num, by rw [HT.out]; first | rfl | (congr 1; omega), hr4.set _ _, by simpa using hl2, fun i y hy => set_ne (set_ne (hsl2 i y hy) (by omega)) (by omega), fun i y hij hy => ?_, fun i y hij hy => ?_, ?_, ?_⟩
        · rcases Nat.lt_or_ge i j with h' | h'
          · obtain ⟨n0, n1, n3, n4, nr⟩ := hmk2 i y h' hy
            exact ⟨set_ne (set_ne n0 (by omega)) (by omega), set_ne (set_ne n1 (by omega)) (by omega), set_ne (set_ne n3 (by omega)) (by omega), set_ne (set_ne n4 (by omega)) (by omega),
              ((HQ3.out.mkRow nr fun a o b o' e1 e2 => (HD.out i j y x (by omega) hy HX.out b o' a o e2 e1).symm).setO hr3 (by decide) _ _).setO hr4 (by decide) _ _⟩
          · have : i = j := by omega
            subst this
            rw [HX.out] at hy; cases hy
            rw [← HKJ.out]
            refine ⟨set_ne (set_ne m0 (by omega)) (by omega), set_ne (set_ne m1 (by omega)) (by omega), ?_, ?_, (HM3.out.setO hr3 (by decide) _ _).setO hr4 (by decide) _ _⟩
            · refine set_ne ?_ (by omega); rw [List.getElem?_set, if_pos rfl, if_pos (by omega)]
            · rw [List.getElem?_set, if_pos rfl, if_pos (by simp; omega)]
        · exact ((HQ3.out.rowN (hun2 i y (by omega) hy) fun a o b o' e1 e2 => (HD.out i j y x (by omega) hy HX.out b o' a o e2 e1).symm).setO hr3 (by decide) _ _).setO hr4 (by decide) _ _
        · exact ((hb2.trans HQ3.out.below).setCell hg _).setCell hg _
        · intro b t ds hds n1 n2
          have h3 := HQ3.out.row (hrw2 b t ds hds n1 n2) n1
          have hne : b ≠ g := fun e => by subst e; exact n2 (h3.inj hr3).1
          exact (h3.setOther hne _).setOther hne _
      case measure => simp [intOf]; omega
    · have hjn : j = l.length := by omega
      subst hjn
      have HK := Lib.hid (And.intro hr (And.intro hcs (And.intro hsl (And.intro hmk (And.intro hb hrw)))))
      clear hr hcs hsl hmk hun hb hrw
      go_wp2
      go_ret
      obtain ⟨hr, hcs, hsl, hmk, hb, hrw⟩ := HK.out
      refine ⟨rfl, Or.inr ⟨g, cs, rfl, hg, hr, hcs, hsl, fun i x hx => hmk i x ?_ hx⟩, hb, hrw⟩
      rcases Nat.lt_or_ge i l.length with h' | h'
      · exact h'
      · rw [List.getElem?_eq_none h'] at hx; cases hx
set_option maxHeartbeats 4000000 in
set_option maxRecDepth 20000 in
theorem heldLightS_p (r : Option Addr) (cap base : Nat) (l : List LL) (k0 : Int) (w : World) (h : LtMk w base k0 r l) (hs : LtsSmall l) (hl : l.length ≤ 1024) (h0 : 0 ≤ k0) (h1 : k0 ≤ 1073741824) :
    Calls Tryz.prog 37 #[.slice r l.length cap, .int .i64 k0] w fun e w' => e = .returned (.int .i64 (k0 + ltN l l.length)) ∧ Fresh w w' := by
  have hn := hs.1
  have HSM := Lib.hid hs
  have HM := Lib.hid h
  clear h hs
  go_enter Tryz.func37, Tryz.ntmps37
  go_wp2
  go_loopw [1, 5] (fun kk i wr => ∃ j : Nat, j ≤ l.length ∧ i = .int .i64 j ∧ kk = .int .i64 (k0 + ltN l j) ∧ Fresh w wr) (fun _ i _ => l.length - (intOf i).toNat)
  case atStart => exact ⟨0, Nat.zero_le _, rfl, by simp [ltN], frefl _⟩
  case round =>
    obtain ⟨j, hj, rfl, rfl, hf⟩ := hrel
    have HF := Lib.hid hf
    by_cases hlt : j < l.length
    · have hltz : (j : Int) < (l.length : Int) := by omega
      rcases HM.out.keep hf with hnil | ⟨g, cs, rfl, hg, hr, hcs, hsl, hmk⟩
      · rw [hnil] at hlt; simp at hlt
      obtain ⟨x, hx⟩ : ∃ x, l[j]? = some x := ⟨_, List.getElem?_eq_getElem hlt⟩
      have hsm := HSM.out.2 x (List.mem_of_getElem? hx)
      have hk := ltN_le HSM.out j
      have HT := Lib.hid (ltN_step hx)
      obtain ⟨m0, m1, m3, m4, mr⟩ := hmk j x hx
      obtain ⟨kj, hkj⟩ : ∃ kj, kj = ltN l j := ⟨_, rfl⟩
      rw [← hkj] at hk HT m0 m1 m3 m4 mr ⊢
      have c0 := hr.cell m0
      have c1 := hr.cell m1
      have c2 : wr.cell? ⟨g, j * 5 + 2, none⟩ = some (.slice x.r.q x.r.fibs.length x.r.cap) := hr.cell (hsl j x hx)
      have c3 := hr.cell m3
      have c4 := hr.cell m4
      have hneg : (k0 + (kj : Int) + 1 + 1 + (x.r.fibs.length : Int) < 0) = False := eq_false (by omega)
      have HC := Lib.hid (heldIntS_any x.r.q x.r.cap x.r.fibs.length (k0 + kj + 1 + 1) wr mr.ints (by omega) (by omega) (by omega))
      clear hr hsl hmk m0 m1 m3 m4 mr hx hkj hf
      go_wp2_with fail
      refine (HC.out).mono ?_
      rintro e w3 ⟨rfl, rfl⟩
      go_wp2
      go_roundw
      case rel => exact ⟨j + 1, by omega, by go_num, by rw [HT.out]; first | rfl | (congr 1; omega), HF.out⟩
      case measure => simp [intOf]; omega
    · have hjn : j = l.length := by omega
      subst hjn
      clear hf
      go_wp2
      go_ret
      exact ⟨rfl, HF.out⟩
end Go.Proofs.YtjhaoonacjebpaaGreatDoor

/- Contracts: a result that is a plan, compared, marked, asked again. -/
namespace Go.Proofs.YtjhaoonacjebpaaGreatDoor
open Go.RowKit Go.PlainAid

def SmPl (P : PlanV) : Prop := PlSmall P ∧ P.lights.length ≤ 1024
def PlOwn (w : World) (base : Nat) (v : Value) (P : PlanV) : Prop := ∃ q c p d r e, ∃ l : List LL, v = .agg #[.slice q P.net.nodes.length c, .slice p P.net.fibers.length d, .slice r l.length e] ∧ Own w base 9 q (P.net.nodes.map Value.string) ∧ Own w base 96 p (P.net.fibers.flatMap fibC) ∧
  Own w base 58 r (l.flatMap llC) ∧ (∀ x ∈ l, Own w base 3 x.r.q (x.r.fibs.map iv)) ∧ DistL l ∧ P.lights = l.map LL.val ∧ P.net.nodes.length ≤ c ∧ c ≤ 9223372036854775807 ∧ l.length ≤ e ∧ e ≤ 9223372036854775807
def PlHeld (w : World) (lo hi : Nat) (v : Value) (P : PlanV) : Prop := ∃ q c p d r e, ∃ l : List LL, v = .agg #[.slice q P.net.nodes.length c, .slice p P.net.fibers.length d, .slice r l.length e] ∧ Held w lo hi 9 q (P.net.nodes.map Value.string) ∧ Held w lo hi 96 p (P.net.fibers.flatMap fibC) ∧
  Held w lo hi 58 r (l.flatMap llC) ∧ (∀ x ∈ l, Held w lo hi 3 x.r.q (x.r.fibs.map iv)) ∧ DistL l ∧ P.lights = l.map LL.val ∧ P.net.nodes.length ≤ c ∧ c ≤ 9223372036854775807 ∧ l.length ≤ e ∧ e ≤ 9223372036854775807
theorem PlOwn.keep {w w' : World} {base : Nat} {v : Value} {P : PlanV} (h : PlOwn w base v P) (hb : Fresh w w') : PlOwn w' base v P := by
  obtain ⟨q, c, p, d, r, e, l, h1, h2, h3, h4, h5, h6⟩ := h
  exact ⟨q, c, p, d, r, e, l, h1, h2.keep hb, h3.keep hb, h4.keep hb, fun x hx => (h5 x hx).keep hb, h6⟩
theorem PlOwn.mono {w : World} {base base' : Nat} {v : Value} {P : PlanV} (h : PlOwn w base v P) (hb : base' ≤ base) : PlOwn w base' v P := by
  obtain ⟨q, c, p, d, r, e, l, h1, h2, h3, h4, h5, h6⟩ := h
  exact ⟨q, c, p, d, r, e, l, h1, h2.mono hb, h3.mono hb, h4.mono hb, fun x hx => (h5 x hx).mono hb, h6⟩
theorem PlOwn.held {w : World} {lo : Nat} {v : Value} {P : PlanV} (h : PlOwn w lo v P) : PlHeld w lo w.heap.size v P := by
  obtain ⟨q, c, p, d, r, e, l, h1, h2, h3, h4, h5, h6⟩ := h
  exact ⟨q, c, p, d, r, e, l, h1, h2.held, h3.held, h4.held, fun x hx => (h5 x hx).held, h6⟩
theorem PlHeld.own {w : World} {lo hi : Nat} {v : Value} {P : PlanV} (h : PlHeld w lo hi v P) : PlOwn w lo v P := by
  obtain ⟨q, c, p, d, r, e, l, h1, h2, h3, h4, h5, h6⟩ := h
  exact ⟨q, c, p, d, r, e, l, h1, h2.1, h3.1, h4.1, fun x hx => (h5 x hx).1, h6⟩
theorem PlHeld.keep {w w' : World} {lo hi : Nat} {v : Value} {P : PlanV} (h : PlHeld w lo hi v P) (hb : Fresh w w') : PlHeld w' lo hi v P := by
  obtain ⟨q, c, p, d, r, e, l, h1, h2, h3, h4, h5, h6⟩ := h
  exact ⟨q, c, p, d, r, e, l, h1, h2.keep hb, h3.keep hb, h4.keep hb, fun x hx => (h5 x hx).keep hb, h6⟩
theorem PlHeld.wide {w : World} {lo hi lo' hi' : Nat} {v : Value} {P : PlanV} (h : PlHeld w lo hi v P) (hl : lo' ≤ lo) (hh : hi ≤ hi') : PlHeld w lo' hi' v P := by
  obtain ⟨q, c, p, d, r, e, l, h1, h2, h3, h4, h5, h6⟩ := h
  exact ⟨q, c, p, d, r, e, l, h1, h2.wide hl hh, h3.wide hl hh, h4.wide hl hh, fun x hx => (h5 x hx).wide hl hh, h6⟩
theorem PlHeld.mk {T : TypeId → Prop} {lo hi lo' hi' : Nat} {w w' : World} {v : Value} {P : PlanV} (h : PlHeld w lo hi v P) (hb : Mk T lo' hi' w w') (hd : hi ≤ lo' ∨ hi' ≤ lo) : PlHeld w' lo hi v P := by
  obtain ⟨q, c, p, d, r, e, l, h1, h2, h3, h4, h5, h6⟩ := h
  exact ⟨q, c, p, d, r, e, l, h1, h2.mk hb hd, h3.mk hb hd, h4.mk hb hd, fun x hx => (h5 x hx).mk hb hd, h6⟩
theorem PlHeld.below {lo hi base : Nat} {w w' : World} {v : Value} {P : PlanV} (h : PlHeld w lo hi v P) (hb : Below base w w') (hd : hi ≤ base) : PlHeld w' lo hi v P := by
  obtain ⟨q, c, p, d, r, e, l, h1, h2, h3, h4, h5, h6⟩ := h
  exact ⟨q, c, p, d, r, e, l, h1, h2.below hb hd, h3.below hb hd, h4.below hb hd, fun x hx => (h5 x hx).below hb hd, h6⟩
theorem lts_small {l : List LL} {P : PlanV} (h : P.lights = l.map LL.val) (hs : PlSmall P) : LtsSmall l := by
  obtain ⟨_, h1, h2⟩ := hs
  rw [h] at h1 h2
  exact ⟨by simpa using h1, fun x hx => h2 x.val (List.mem_map_of_mem hx)⟩
theorem PlOwn.plIn {w : World} {base : Nat} {v : Value} {P : PlanV} (h : PlOwn w base v P) (hs : PlSmall P) : PlIn w v P := by
  obtain ⟨q, c, p, d, r, e, l, h1, h2, h3, h4, h5, h6, h7, h8, h9, h10, h11⟩ := h
  exact ⟨q, _, c, p, _, d, r, e, l, h1, ⟨q, c, p, d, rfl, h2.cells, h3.cells, hs.1.1.1, hs.1.2, h8, h9, hs.1.1.2⟩, ⟨h4.cells, fun x hx => (h5 x hx).ints⟩, lts_small h7 hs, h7, h10, h11⟩
theorem eqPl_r (v v' : Value) (lo hi lo' hi' : Nat) (P : PlanV) (w : World) (h : PlHeld w lo hi v P) (h' : PlHeld w lo' hi' v' P) (hs : SmPl P) :
    Calls Tryz.prog 9 #[v, v'] w fun e w' => e = .returned (.bool true) ∧ Fresh w w' := eqPlan_k v v' P w (h.own.plIn hs.1) (h'.own.plIn hs.1)
def PlMk (w : World) (base : Nat) (k0 : Int) (N : Nat) (v : Value) (P : PlanV) : Prop := ∃ q c p d r e, ∃ l : List LL, v = .agg #[.slice q P.net.nodes.length c, .slice p P.net.fibers.length d, .slice r l.length e] ∧ MkRow w base 9 q P.net.nodes.length (fun t => .string (mtxt (k0 + (t : Int)))) ∧
  MkRow w base 96 p (P.net.fibers.length * 4) (fun t => iv (k0 + P.net.nodes.length + (t : Int))) ∧ LtMk w base (k0 + P.net.nodes.length + 4 * P.net.fibers.length) r l ∧ P.lights = l.map LL.val ∧ N = P.net.nodes.length + 4 * P.net.fibers.length + ltN l l.length
theorem PlMk.keep {w w' : World} {base : Nat} {k0 : Int} {N : Nat} {v : Value} {P : PlanV} (h : PlMk w base k0 N v P) (hb : Fresh w w') : PlMk w' base k0 N v P := by
  obtain ⟨q, c, p, d, r, e, l, h1, h2, h3, h4, h5⟩ := h
  exact ⟨q, c, p, d, r, e, l, h1, h2.keep hb, h3.keep hb, h4.keep hb, h5⟩
set_option maxHeartbeats 1000000 in
theorem markNetwork_p (q p : Option Addr) (c d nn nf base : Nat) (k0 : Int) (w : World) (hq : RowN w base 9 q nn) (hp : RowN w base 96 p (nf * 4)) (hbs : base ≤ w.heap.size) (h1 : nn ≤ 1048576) (h2 : nf ≤ 1048576) (h0 : 0 ≤ k0) (h3 : k0 ≤ 1024) :
    Calls Tryz.prog 34 #[.agg #[.slice q nn c, .slice p nf d], .int .i64 k0] w fun e w' => e = .returned (.int .i64 (k0 + nn + 4 * nf)) ∧ MkRow w' base 9 q nn (fun t => .string (mtxt (k0 + (t : Int)))) ∧ MkRow w' base 96 p (nf * 4) (fun t => iv (k0 + nn + (t : Int))) ∧
      Below base w w' ∧ (∀ g t cs, RowAt w g t cs → t ≠ 9 → t ≠ 96 → RowAt w' g t cs) := by
  obtain ⟨W1, hW1⟩ : ∃ W1, W1 = w.alloc (.cells #[.slice q nn c, .slice p nf d] 34) := ⟨_, rfl⟩
  have hf : Fresh w W1 := by rw [hW1]; exact fnew (frefl _) _
  have hr : RowAt W1 w.heap.size 34 [.slice q nn c, .slice p nf d] := by rw [hW1]; exact RowAt.new _ _ _
  have HF := Lib.hid hf
  have HR := Lib.hid hr
  have HW := Lib.hid hW1
  have hbs1 : base ≤ W1.heap.size := Nat.le_trans hbs hf.size
  have k1 : RowN W1 base 9 q nn := by
    rcases hq with h | ⟨g, cs, a1, a2, a3, a4⟩
    · exact Or.inl h
    · exact Or.inr ⟨g, cs, a1, a2, a3.keep hf, a4⟩
  have k2 : RowN W1 base 96 p (nf * 4) := by
    rcases hp with h | ⟨g, cs, a1, a2, a3, a4⟩
    · exact Or.inl h
    · exact Or.inr ⟨g, cs, a1, a2, a3.keep hf, a4⟩
  have HP := Lib.hid k2
  have HC := Lib.hid (markStringS_p q c nn base k0 W1 k1 hbs1 h1 h0 (by omega))
  clear hW1 hf hr hq hp k1 k2
  go_enter Tryz.func34, Tryz.ntmps34
  go_wp2_with fail
  rw [← HW.out]
  refine (HC.out).mono ?_
  rintro e w1 ⟨rfl, hm1, hi1, hk1⟩
  have HM1 := Lib.hid hm1
  have HK1 := Lib.hid hk1
  have d1 := (hk1.row _ _ _ HR.out (by decide)).cell (i := 1) rfl
  have HC2 := Lib.hid (markFiberS_p p d nf base (k0 + nn) w1 (HP.out.typ hk1 (by decide)) h2 (by omega) (by omega))
  clear hm1 hk1
  go_wp2_with fail
  refine (HC2.out).mono ?_
  rintro e w2 ⟨rfl, hm2, hi2, hk2⟩
  have HM2 := Lib.hid hm2
  have HK2 := Lib.hid hk2
  clear hm2 hk2 d1
  go_wp2
  go_ret
  exact ⟨rfl, HM1.out.typ HK2.out (by decide), HM2.out, (HF.out.mono hbs).trans (HK1.out.low.trans HK2.out.low), fun g t cs h n1 n2 => HK2.out.row _ _ _ (HK1.out.row _ _ _ (h.keep HF.out) n1) n2⟩
set_option maxHeartbeats 1000000 in
theorem markPl_r (v : Value) (base : Nat) (P : PlanV) (k0 : Int) (w : World) (h : PlOwn w base v P) (hbs : base ≤ w.heap.size) (hs : SmPl P) (h0 : 0 ≤ k0) (h1 : k0 ≤ 1024) :
    Calls Tryz.prog 12 #[v, .int .i64 k0] w fun e w' => ∃ N : Nat, e = .returned (.int .i64 (k0 + N)) ∧ PlMk w' base k0 N v P ∧ Below base w w' ∧ ∀ g t cs, RowAt w g t cs → t ≠ 9 → t ≠ 96 → t ≠ 58 → t ≠ 3 → RowAt w' g t cs := by
  obtain ⟨q, c, p, d, r, e, l, rfl, o1, o2, o3, o4, o5, o6, _⟩ := h
  have hls := lts_small o6 hs.1
  have hnn := hs.1.1.1.1
  have hnf := hs.1.1.2
  obtain ⟨nn, hnn0⟩ : ∃ nn, nn = P.net.nodes.length := ⟨_, rfl⟩
  obtain ⟨nf, hnf0⟩ : ∃ nf, nf = P.net.fibers.length := ⟨_, rfl⟩
  have r1 := o1.rowN
  have r2 := o2.rowN
  rw [List.length_map, ← hnn0] at r1
  rw [flat_len fibC 4 (fun _ => rfl), ← hnf0] at r2
  rw [← hnn0] at hnn
  rw [← hnf0] at hnf
  rw [← hnn0, ← hnf0]
  obtain ⟨W1, hW1⟩ : ∃ W1, W1 = w.alloc (.cells #[.slice q nn c, .slice p nf d, .slice r l.length e] 37) := ⟨_, rfl⟩
  have hf : Fresh w W1 := by rw [hW1]; exact fnew (frefl _) _
  have hr : RowAt W1 w.heap.size 37 [.slice q nn c, .slice p nf d, .slice r l.length e] := by rw [hW1]; exact RowAt.new _ _ _
  have HF := Lib.hid hf
  have HR := Lib.hid hr
  have HW := Lib.hid hW1
  have hbs1 : base ≤ W1.heap.size := Nat.le_trans hbs hf.size
  have k1 : RowN W1 base 9 q nn := by
    rcases r1 with h | ⟨g, cs, a1, a2, a3, a4⟩
    · exact Or.inl h
    · exact Or.inr ⟨g, cs, a1, a2, a3.keep hf, a4⟩
  have k2 : RowN W1 base 96 p (nf * 4) := by
    rcases r2 with h | ⟨g, cs, a1, a2, a3, a4⟩
    · exact Or.inl h
    · exact Or.inr ⟨g, cs, a1, a2, a3.keep hf, a4⟩
  have HO3 := Lib.hid (o3.keep hf)
  have HO4 : Hid (∀ x ∈ l, Own W1 base 3 x.r.q (x.r.fibs.map iv)) := fun x hx => (o4 x hx).keep hf
  have HD := Lib.hid o5
  have HV := Lib.hid o6
  have HLS := Lib.hid hls
  have HNN := Lib.hid hnn0
  have HNF := Lib.hid hnf0
  have HC := Lib.hid (markNetwork_p q p c d nn nf base k0 W1 k1 k2 hbs1 hnn hnf h0 h1)
  clear hW1 hf hr o1 o2 o3 o4 o5 o6 r1 r2 k1 k2 hls hnn0 hnf0
  go_enter Tryz.func12, Tryz.ntmps12
  go_wp2_with fail
  rw [← HW.out]
  refine (HC.out).mono ?_
  rintro e1 w1 ⟨rfl, hm1, hm2, hb1, hk1⟩
  have HM1 := Lib.hid hm1
  have HM2 := Lib.hid hm2
  have HB1 := Lib.hid hb1
  have HK1 := Lib.hid hk1
  have d2 := (hk1 _ _ _ HR.out (by decide) (by decide)).cell (i := 2) rfl
  have hown : Own w1 base 58 r (l.flatMap llC) := by
    rcases HO3.out with h | ⟨g, sp, a1, a2, a3⟩
    · exact Or.inl h
    · exact Or.inr ⟨g, sp, a1, a2, hk1 _ _ _ a3 (by decide) (by decide)⟩
  have hrn : ∀ x ∈ l, RowN w1 base 3 x.r.q x.r.fibs.length := by
    intro x hx
    have h := HO4.out x hx
    have h2 : Own w1 base 3 x.r.q (x.r.fibs.map iv) := by
      rcases h with h | ⟨g, sp, a1, a2, a3⟩
      · exact Or.inl h
      · exact Or.inr ⟨g, sp, a1, a2, hk1 _ _ _ a3 (by decide) (by decide)⟩
    have h3 := h2.rowN
    rw [List.length_map] at h3
    exact h3
  have HC2 := Lib.hid (markLightS_p r e base l (k0 + nn + 4 * nf) w1 hown hrn HD.out HLS.out (by omega) (by omega))
  clear hm1 hm2 hb1 hk1 hown hrn HC
  go_wp2_with fail
  refine (HC2.out).mono ?_
  rintro e2 w2 ⟨rfl, hl2, hb2, hk2⟩
  have HL2 := Lib.hid hl2
  have HB2 := Lib.hid hb2
  have HK2 := Lib.hid hk2
  clear hl2 hb2 hk2 d2
  go_wp2
  go_ret
  have e3 : MkRow w2 base 9 q nn (fun t => .string (mtxt (k0 + (t : Int)))) := by
    rcases HM1.out with h | ⟨g, cs, a1, a2, a3, a4⟩
    · exact Or.inl h
    · exact Or.inr ⟨g, cs, a1, a2, HK2.out _ _ _ a3 (by decide) (by decide), a4⟩
  have e4 : MkRow w2 base 96 p (nf * 4) (fun t => iv (k0 + nn + (t : Int))) := by
    rcases HM2.out with h | ⟨g, cs, a1, a2, a3, a4⟩
    · exact Or.inl h
    · exact Or.inr ⟨g, cs, a1, a2, HK2.out _ _ _ a3 (by decide) (by decide), a4⟩
  refine ⟨nn + 4 * nf + ltN l l.length, ?_, ⟨q, c, p, d, r, e, l, ?_, ?_, ?_, ?_, HV.out, ?_⟩, (HF.out.mono hbs).trans (HB1.out.trans HB2.out), fun g t cs h n1 n2 n3 n4 => HK2.out _ _ _ (HK1.out _ _ _ (h.keep HF.out) n1 n2) n4 n3⟩
  · exact ret_int (by omega)
  · rw [← HNN.out, ← HNF.out]
  · rw [← HNN.out]; exact e3
  · rw [← HNF.out, ← HNN.out]; exact e4
  · rw [← HNN.out, ← HNF.out]; exact HL2.out
  · rw [← HNN.out, ← HNF.out]
set_option maxHeartbeats 1000000 in
theorem heldPl_o (v : Value) (base : Nat) (P : PlanV) (k0 : Int) (N : Nat) (w : World) (h : PlMk w base k0 N v P) (hs : SmPl P) (h0 : 0 ≤ k0) (h1 : k0 ≤ 1024) :
    Calls Tryz.prog 13 #[v, .int .i64 k0] w fun e w' => e = .returned (.int .i64 (k0 + N)) ∧ Fresh w w' := by
  obtain ⟨q, c, p, d, r, e, l, rfl, m1, m2, m3, hv, hN⟩ := h
  have hls := lts_small hv hs.1
  have hl24 : l.length ≤ 1024 := by have := hs.2; rw [hv] at this; simpa using this
  have hnn := hs.1.1.1.1
  have hnf := hs.1.1.2
  obtain ⟨nn, hnn0⟩ : ∃ nn, nn = P.net.nodes.length := ⟨_, rfl⟩
  obtain ⟨nf, hnf0⟩ : ∃ nf, nf = P.net.fibers.length := ⟨_, rfl⟩
  rw [← hnn0] at hnn m1 m2 m3 hN ⊢
  rw [← hnf0] at hnf m2 m3 hN ⊢
  have HNV := Lib.hid hN
  have HM1 := Lib.hid m1
  have HM2 := Lib.hid m2
  have HM3 := Lib.hid m3
  have HLS := Lib.hid hls
  obtain ⟨W1, hW1⟩ : ∃ W1, W1 = w.alloc (.cells #[.slice q nn c, .slice p nf d, .slice r l.length e] 37) := ⟨_, rfl⟩
  have hf : Fresh w W1 := by rw [hW1]; exact fnew (frefl _) _
  have hr : RowAt W1 w.heap.size 37 [.slice q nn c, .slice p nf d, .slice r l.length e] := by rw [hW1]; exact RowAt.new _ _ _
  have HF := Lib.hid hf
  have HR := Lib.hid hr
  have HW := Lib.hid hW1
  clear hnn0 hnf0
  have HCN : Hid (∀ W, Fresh w W → Calls Tryz.prog 36 #[.agg #[.slice q nn c, .slice p nf d], .int .i64 k0] W fun e w' => e = .returned (.int .i64 (k0 + nn + 4 * nf)) ∧ Fresh W w') := by
    intro W hW
    obtain ⟨W2, hW2⟩ : ∃ W2, W2 = W.alloc (.cells #[.slice q nn c, .slice p nf d] 34) := ⟨_, rfl⟩
    have hf2 : Fresh W W2 := by rw [hW2]; exact fnew (frefl _) _
    have hr2 : RowAt W2 W.heap.size 34 [.slice q nn c, .slice p nf d] := by rw [hW2]; exact RowAt.new _ _ _
    have HF2 := Lib.hid hf2
    have HR2 := Lib.hid hr2
    have HW2 := Lib.hid hW2
    have HHW := Lib.hid hW
    have hn1 : (k0 + (nn : Int) < 0) = False := eq_false (by omega)
    have hn2 : (k0 + (nn : Int) + 4 * (nf : Int) < 0) = False := eq_false (by omega)
    clear hf2 hr2 hW2 hW hW1 hf hr
    go_enter Tryz.func36, Tryz.ntmps36
    go_wp2_with fail
    rw [← HW2.out]
    refine (heldStringS_p q c nn base k0 W2 (HM1.out.keep (fstep HHW.out HF2.out)) hnn h0 (by omega)).mono ?_
    rintro e w1 ⟨rfl, hb⟩
    have d1 := (HR2.out.keep hb).cell (i := 1) rfl
    have HB := Lib.hid (fstep HF2.out hb)
    clear hb
    go_wp2_with fail
    refine (heldFiberS_p p d nf base (k0 + nn) w1 (HM2.out.keep (fstep HHW.out HB.out)) hnf (by omega) (by omega)).mono ?_
    rintro e w2 ⟨rfl, rfl⟩
    go_wp2
    go_ret
    exact ⟨rfl, HB.out⟩
  have hn2 : (k0 + (nn : Int) + 4 * (nf : Int) < 0) = False := eq_false (by omega)
  have hn3 : (k0 + (nn : Int) + 4 * (nf : Int) + (ltN l l.length : Int) < 0) = False := eq_false (by omega)
  have HC2 : Hid (∀ W, Fresh w W → Calls Tryz.prog 37 #[.slice r l.length e, .int .i64 (k0 + nn + 4 * nf)] W fun e w' => e = .returned (.int .i64 (k0 + nn + 4 * nf + ltN l l.length)) ∧ Fresh W w') :=
    fun W hW => heldLightS_p r e base l (k0 + nn + 4 * nf) W (HM3.out.keep hW) HLS.out hl24 (by omega) (by omega)
  clear hW1 hf hr m1 m2 m3 hv hN hls
  go_enter Tryz.func13, Tryz.ntmps13
  go_wp2_with fail
  rw [← HW.out]
  refine (HCN.out _ HF.out).mono ?_
  rintro e1 w1 ⟨rfl, hb⟩
  have d2 := (HR.out.keep hb).cell (i := 2) rfl
  have HB := Lib.hid (fstep HF.out hb)
  clear hb
  go_wp2_with fail
  refine (HC2.out _ HB.out).mono ?_
  rintro e2 w2 ⟨rfl, hb⟩
  have HB2 := Lib.hid (fstep HB.out hb)
  clear hb d2
  go_wp2
  go_ret
  exact ⟨ret_int (by rw [HNV.out]; omega), HB2.out⟩
end Go.Proofs.YtjhaoonacjebpaaGreatDoor

/- An append of one element to a row of the call's own: rows of other types stay. Rows of rows of ints. -/
namespace Go.Proofs.YtjhaoonacjebpaaGreatDoor
open Go.RowKit Go.PlainAid

theorem row_grown {w1 w' : World} {o : Obj} {base : Nat} {E : TypeId} {v : Value} {n size : Nat} {xs : List Value} (hown : w1.ownsRow base E size v n xs) (hg : (w1.alloc o).grownBy w' v.ownBlock) {g : Nat} {t : TypeId} {cs : List Value} (hr : RowAt w1 g t cs) (ht : t ≠ E) : RowAt w' g t cs := by
  have hba := hr.alloc o
  have hne : ∀ k, v.ownBlock = some k → k ≠ g := by
    intro k hk he
    subst he
    obtain ⟨_, ⟨rfl, _⟩ | ⟨g', cap, cur, rfl, _, hh, _⟩⟩ := hown
    · cases hk
    · simp only [Value.ownBlock, Option.some.injEq] at hk
      subst hk
      unfold RowAt at hr
      rw [hh] at hr
      simp only [Option.some.injEq, Obj.cells.injEq] at hr
      exact ht hr.2.1.symm
  unfold RowAt
  rw [hg.block g hba.lt (fun he => hne g he.symm rfl)]
  exact hba
theorem Own.grown {w1 w' : World} {base b2 : Nat} {t : TypeId} {p : Option Addr} {cs : List Value} (h : Own w1 b2 t p cs) (hk : ∀ g t cs, RowAt w1 g t cs → t ≠ base → RowAt w' g t cs) (ht : t ≠ base) : Own w' b2 t p cs := by
  rcases h with h | ⟨g, sp, hp, hg, hr⟩
  · exact Or.inl h
  · exact Or.inr ⟨g, sp, hp, hg, hk _ _ _ hr ht⟩
theorem add_new (w : World) (E : TypeId) (news : List Value) (j : Nat) (u : Value) (hj : news[j]? = some u) : (w.alloc (.cells news.toArray E)).cell? ((⟨w.heap.size, 0, none⟩ : Addr).add j) = some u := by
  have h0 := (RowAt.new w E news).cell hj
  unfold Addr.add
  split
  · next e => subst e; exact h0
  · simpa only [Nat.zero_add] using h0
theorem wpList_app_g {T E : TypeId} {z : Value} {size bytes : Nat} (hu : Tryz.prog.underlying T = some (.slice E)) (hinfo : (Tryz.prog.info? E).map (fun i => (i.zero, i.size, i.bytes)) = some (some z, size, bytes))
    (hzs : z.cells.size = size) (hsz : 0 < size) (hby : bytes ≤ 128) {ops : Array Oper} {rest : List Oper} {o : Oper} {a : Act} {Q : Exit → Act → World → Prop} (w0 w1 : World) (v : Value) (n : Nat) (xs news : List Value)
    (g0 : Nat) (hl : news.length = size) (hone : ∀ u ∈ news, u.oneCell' = true) (hgd : o.guard = none) (s t : Operand)
    (ho : o.op = .call { callee := .builtin .append, args := #[s, t], argTypes := #[T, T] }) (hs : a.eval s = v) (hown : w1.ownsRow w0.heap.size E size v n xs)
    (hx : a.eval t = .slice (some ⟨g0, 0, none⟩) 1 1) (hg0 : g0 = w1.heap.size) (hn : n ≤ 1048576) (hf : Fresh w0 w1)
    (h : ∀ v' w', w'.ownsRow w0.heap.size E size v' (n + 1) (xs ++ news) → Fresh w0 w' → (∀ g t cs, RowAt w1 g t cs → t ≠ E → RowAt w' g t cs) → wpList Tryz.prog ops Q rest (a.put o.dst v') w') :
    wpList Tryz.prog ops Q (o :: rest) a (w1.alloc (.cells news.toArray E)) := by
  subst hg0
  obtain ⟨i0, hi, hz0, hz1, hz2⟩ := info_parts hinfo
  refine wpList_append_own _ hgd s t T ho w0.heap.size E i0 z size bytes hu hi hz0 hz1 hz2 hzs hsz v n xs hs (hown.alloc _) ⟨w1.heap.size, 0, none⟩ 1 1 news hx (by omega)
    (add_new w1 E news) hone (by unfold maxLen; omega) (Nat.le_trans (Nat.mul_le_mul (by omega : n + 1 ≤ 1048577) hby) (by omega)) (Nat.le_trans hf.size (by simp)) ?_
  intro v' w' hown' hgrow _
  exact h v' w' hown' (fgrown (fnew hf _) hgrow (own_block hown)) fun g t cs hr ht => row_grown hown hgrow hr ht
theorem wpList_app_i {ops : Array Oper} {rest : List Oper} {o : Oper} {a : Act} {Q : Exit → Act → World → Prop} (w0 w1 : World) (v : Value) (xs : List Int) (x : Int) (g0 : Nat) (hgd : o.guard = none) (s t : Operand)
    (ho : o.op = .call { callee := .builtin .append, args := #[s, t], argTypes := #[52, 52] }) (hs : a.eval s = v) (hown : w1.ownsRow w0.heap.size 3 1 v xs.length (xs.map iv))
    (hx : a.eval t = .slice (some ⟨g0, 0, none⟩) 1 1) (hg0 : g0 = w1.heap.size) (hn : xs.length ≤ 1048576) (hf : Fresh w0 w1)
    (h : ∀ v' w', w'.ownsRow w0.heap.size 3 1 v' (xs ++ [x]).length ((xs ++ [x]).map iv) → Fresh w0 w' → (∀ g t cs, RowAt w1 g t cs → t ≠ 3 → RowAt w' g t cs) → wpList Tryz.prog ops Q rest (a.put o.dst v') w') :
    wpList Tryz.prog ops Q (o :: rest) a (w1.alloc (.cells #[.int .i64 x] 3)) :=
  wpList_app_g Tryz.underlying52 infoInt rfl (by decide) (by decide) w0 w1 v xs.length (xs.map iv) [iv x] g0 rfl (by intro u hu; simp at hu; subst hu; rfl) hgd s t ho hs hown hx hg0 hn hf
    (fun v' w' h1 h2 h3 => h v' w' (by rw [List.map_append, List.length_append]; exact h1) h2 h3)
theorem row_grown0 {w1 w' : World} {base : Nat} {E : TypeId} {v : Value} {n size : Nat} {xs : List Value} (hown : w1.ownsRow base E size v n xs) (hg : w1.grownBy w' v.ownBlock) {g : Nat} {t : TypeId} {cs : List Value} (hr : RowAt w1 g t cs) (ht : t ≠ E) : RowAt w' g t cs := by
  have hne : ∀ k, v.ownBlock = some k → k ≠ g := by
    intro k hk he
    subst he
    obtain ⟨_, ⟨rfl, _⟩ | ⟨g', cap, cur, rfl, _, hh, _⟩⟩ := hown
    · cases hk
    · simp only [Value.ownBlock, Option.some.injEq] at hk
      subst hk
      unfold RowAt at hr
      rw [hh] at hr
      simp only [Option.some.injEq, Obj.cells.injEq] at hr
      exact ht hr.2.1.symm
  unfold RowAt
  rw [hg.block g hr.lt (fun he => hne g he.symm rfl)]
  exact hr
theorem run_append_zero {P : Program} {w : World} (base : Nat) (t ty e : TypeId) (i : TypeInfo) (size : Nat) (ht : P.underlying t = some (.slice e)) (hi : P.info? e = some i)
    (v : Value) (n : Nat) (xs : List Value) (hown : w.ownsRow base e size v n xs) (p : Option Addr) (c : Nat) :
    (Builtin.append_ #[t, t] ty #[v, .slice p 0 c]).run P w = .ok v w := by
  rcases hown.2 with ⟨rfl, rfl⟩ | ⟨g, cap, cur, rfl, _, _, hnc, _⟩
  · cases p <;> simp [Builtin.append_, run_underlying ht, sizeOf, typeInfo, hi, Builtin.lenOf, Builtin.firstCells, loadCells, loadCellsFrom]
  · cases p <;> simp [Builtin.append_, run_underlying ht, sizeOf, typeInfo, hi, Builtin.lenOf, Builtin.firstCells, hnc, storeCells, loadCells, loadCellsFrom]
theorem wpList_append_zero {P : Program} {w : World} {ops : Array Oper} {rest : List Oper} {o : Oper} {a : Act} {Q : Exit → Act → World → Prop} (hgd : o.guard = none) (s x : Operand) (t : TypeId)
    (ho : o.op = .call { callee := .builtin .append, args := #[s, x], argTypes := #[t, t] })
    (base : Nat) (e : TypeId) (i : TypeInfo) (size : Nat) (ht : P.underlying t = some (.slice e)) (hi : P.info? e = some i)
    (v : Value) (n : Nat) (xs : List Value) (hs : a.eval s = v) (hown : w.ownsRow base e size v n xs) (p : Option Addr) (c : Nat) (hx : a.eval x = .slice p 0 c)
    (h : wpList P ops Q rest (a.put o.dst v) w) : wpList P ops Q (o :: rest) a w := by
  refine wpList_plain hgd fun K hK => ?_
  have hrun := run_append_zero (P := P) (w := w) base t o.type e i size ht hi v n xs hown p c
  unfold Oper.wp
  simp [execOp, ho, resolve, invoke, builtin, hs, hx, hrun, Result.andThen]
  exact hK _ _ h
/-- Many elements appended to a row of the call's own. -/
theorem wpList_app_many {T E : TypeId} {z : Value} {size bytes : Nat} (hu : Tryz.prog.underlying T = some (.slice E)) (hinfo : (Tryz.prog.info? E).map (fun i => (i.zero, i.size, i.bytes)) = some (some z, size, bytes))
    (hzs : z.cells.size = size) (hsz : 0 < size) (hby : bytes ≤ 128) {ops : Array Oper} {rest : List Oper} {o : Oper} {a : Act} {Q : Exit → Act → World → Prop} (w0 w1 : World) (v : Value) (n : Nat) (xs : List Value) (p : Option Addr) (m c : Nat) (news : List Value)
    (hl : news.length = m * size) (hone : ∀ u ∈ news, u.oneCell' = true) (hgd : o.guard = none) (s t : Operand)
    (ho : o.op = .call { callee := .builtin .append, args := #[s, t], argTypes := #[T, T] }) (hs : a.eval s = v) (hown : w1.ownsRow w0.heap.size E size v n xs)
    (hx : a.eval t = .slice p m c) (hc : Cells w1 p news) (hn : n ≤ 1048576) (hm : m ≤ 1048576) (hf : Fresh w0 w1)
    (h : ∀ v' w', w'.ownsRow w0.heap.size E size v' (n + m) (xs ++ news) → Fresh w0 w' → (∀ g t cs, RowAt w1 g t cs → t ≠ E → RowAt w' g t cs) → wpList Tryz.prog ops Q rest (a.put o.dst v') w') :
    wpList Tryz.prog ops Q (o :: rest) a w1 := by
  obtain ⟨i0, hi, hz0, hz1, hz2⟩ := info_parts hinfo
  rcases Nat.eq_zero_or_pos m with rfl | hm0
  · have hnil : news = [] := List.eq_nil_of_length_eq_zero (by simpa using hl)
    subst hnil
    refine wpList_append_zero hgd s t T ho w0.heap.size E i0 size hu hi v n xs hs hown p c hx (h v w1 ?_ hf fun g t cs hr _ => hr)
    rw [List.append_nil]; exact hown
  · rcases hc with rfl | ⟨b, off, rfl, hc⟩
    · exfalso
      have : m * size = 0 := by simpa using hl.symm
      rcases Nat.mul_eq_zero.1 this with h' | h' <;> omega
    · refine wpList_append_own _ hgd s t T ho w0.heap.size E i0 z size bytes hu hi hz0 hz1 hz2 hzs hsz v n xs hs hown ⟨b, off, none⟩ m c news hx hl
        (fun j u hj => by
          have h0 := hc j u hj
          unfold Addr.add
          split
          · next e => subst e; exact h0
          · exact h0) hone (by unfold maxLen; omega) (Nat.le_trans (Nat.mul_le_mul (by omega : n + m ≤ 2097152) hby) (by omega)) hf.size ?_
      intro v' w' hown' hgrow _
      exact h v' w' hown' (fgrown hf hgrow (own_block hown)) fun g t cs hr ht => row_grown0 hown hgrow hr ht
theorem one_ints (l : List Int) : ∀ u ∈ l.map iv, u.oneCell' = true := by
  intro u hu
  obtain ⟨x, _, rfl⟩ := List.mem_map.1 hu
  rfl
/-- A slice of ints as an element. -/
structure LI where
  q : Option Addr
  cap : Nat
  xs : List Int
abbrev liV (x : LI) : Value := .slice x.q x.xs.length x.cap
def OwnS (w : World) (base : Nat) (l : List LI) : Prop := ∀ x ∈ l, Own w base 3 x.q (x.xs.map iv)
theorem OwnS.keep {w w' : World} {base : Nat} {l : List LI} (h : OwnS w base l) (hb : Fresh w w') : OwnS w' base l := fun x hx => (h x hx).keep hb
theorem OwnS.mono {w : World} {base base' : Nat} {l : List LI} (h : OwnS w base l) (hb : base' ≤ base) : OwnS w base' l := fun x hx => (h x hx).mono hb
theorem OwnS.snoc {w : World} {base : Nat} {l : List LI} (h : OwnS w base l) {x : LI} (hx : Own w base 3 x.q (x.xs.map iv)) : OwnS w base (l ++ [x]) := by
  intro y hy
  rcases List.mem_append.1 hy with hy | hy
  · exact h y hy
  · rw [List.mem_singleton.1 hy]; exact hx
theorem OwnS.grown {w1 w' : World} {E : TypeId} {b : Nat} {l : List LI} (h : OwnS w1 b l) (hk : ∀ g t cs, RowAt w1 g t cs → t ≠ E → RowAt w' g t cs) (ht : 3 ≠ E) : OwnS w' b l := fun x hx => (h x hx).grown hk ht
/-- Rows of ints behind a slice. -/
def IRows (w : World) (p : Option Addr) (l : List LI) : Prop := Cells w p (l.map liV) ∧ ∀ x ∈ l, Ints w x.q x.xs
theorem IRows.keep {w w' : World} {p : Option Addr} {l : List LI} (h : IRows w p l) (hb : Fresh w w') : IRows w' p l := ⟨h.1.keep hb, fun x hx => (h.2 x hx).keep hb⟩
theorem IRows.at {w : World} {p : Option Addr} {l : List LI} (h : IRows w p l) {k : Nat} (hk : k < l.length) :
    ∃ b off x, p = some ⟨b, off, none⟩ ∧ l[k]? = some x ∧ x ∈ l ∧ Ints w x.q x.xs ∧ w.cell? ⟨b, off + k, none⟩ = some (.slice x.q x.xs.length x.cap) := by
  obtain ⟨b, off, hp, hc⟩ := h.1.at (k := k) (by simpa using hk)
  have hx : l[k]? = some l[k] := List.getElem?_eq_getElem hk
  refine ⟨b, off, l[k], hp, hx, List.getElem_mem hk, h.2 _ (List.getElem_mem hk), hc k _ ?_⟩
  rw [List.getElem?_map, hx]; rfl
theorem infoIs : (Tryz.prog.info? 52).map (fun i => (i.zero, i.size, i.bytes)) = some (some (.slice none 0 0), 1, 24) := by kernel_rfl
end Go.Proofs.YtjhaoonacjebpaaGreatDoor

