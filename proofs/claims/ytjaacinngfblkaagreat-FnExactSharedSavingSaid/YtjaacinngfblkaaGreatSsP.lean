/- Plain laws: what shared spare routes save (no program in sight). -/
import Derived.Test.YtjaacinngfblkaaGreatSvP
namespace Go.Proofs.YtjaacinngfblkaaGreat
open Go.RowKit

theorem mkN_w {b : Int × Int} (h : BOk b) : mkF b.1 b.2 = ((mkN b : Nat) : Int) ∧ mkN b < 16777216 := by
  obtain ⟨m, e, hm, _⟩ := mkF_ok h
  unfold mkN
  rw [e]
  exact ⟨by simp, by simpa using hm⟩
/-- The working and the spare routes, as lights. -/
def wkL (L : List SvV) : List LtV := L.map fun x => (x.id, x.w, x.wb)
def spL (L : List SvV) : List LtV := L.map fun x => (x.id, x.s, x.sb)
theorem wk_at {L : List SvV} {k : Nat} {x : SvV} (h : L[k]? = some x) : (wkL L)[k]? = some (x.id, x.w, x.wb) := by unfold wkL; simp [h]
theorem sp_at {L : List SvV} {k : Nat} {x : SvV} (h : L[k]? = some x) : (spL L)[k]? = some (x.id, x.s, x.sb) := by unfold spL; simp [h]
theorem or_lt {a b : Nat} (ha : a < 16777216) (hb : b < 16777216) : a ||| b < 16777216 := Nat.or_lt_two_pow (n := 24) ha hb
theorem used_w {L : List LtV} (f : Int) (h : ∀ x ∈ L, BOk x.2.2) : usedN L f < 16777216 := by
  revert h
  refine snocInd (P := fun L => (∀ x ∈ L, BOk x.2.2) → usedN L f < 16777216) (fun _ => by simp [usedN]) ?_ L
  intro L x ih h
  rw [used_snoc]
  have h1 := ih fun y hy => h y (by simp [hy])
  split
  · exact or_lt h1 (mkN_w (h x (by simp))).2
  · exact h1
theorem wk_ok {n : Net} {L : List SvV} (h : ∀ x ∈ L, svB n x = true) : ∀ x ∈ wkL L, BOk x.2.2 := by
  intro x hx
  obtain ⟨y, hy, rfl⟩ := List.mem_map.1 hx
  exact Or.inl (svB_blocks (h y hy)).1
theorem sp_ok {n : Net} {L : List SvV} (h : ∀ x ∈ L, svB n x = true) : ∀ x ∈ spL L, BOk x.2.2 := by
  intro x hx
  obtain ⟨y, hy, rfl⟩ := List.mem_map.1 hx
  exact (svB_blocks (h y hy)).2
theorem svB_nodup {n : Net} {x : SvV} (h : svB n x = true) : (x.w.2.Nodup ∧ InF n.fibers x.w.2) ∧ (x.s.2.Nodup ∧ InF n.fibers x.s.2) := by
  obtain ⟨h1, h2⟩ := svB_routes h
  refine ⟨vis_nodupF h1, ?_⟩
  rcases h2 with h2 | h2
  · rw [h2]; exact ⟨List.nodup_nil, fun i hi => by cases hi⟩
  · exact vis_nodupF h2
def sumF (f : Nat → Int) : Nat → Int
  | 0 => 0
  | k + 1 => sumF f k + f k
theorem sumF_add (f g : Nat → Int) (m : Nat) : sumF (fun k => f k + g k) m = sumF f m + sumF g m := by
  induction m with
  | zero => rfl
  | succ m ih =>
    show sumF (fun k => f k + g k) m + (f m + g m) = (sumF f m + f m) + (sumF g m + g m)
    rw [ih]; omega
theorem sumF_congr {f g : Nat → Int} {m : Nat} (h : ∀ k, k < m → f k = g k) : sumF f m = sumF g m := by
  induction m with
  | zero => rfl
  | succ m ih => show sumF f m + f m = sumF g m + g m; rw [ih fun k hk => h k (by omega), h m (by omega)]
theorem sumF_zero (m : Nat) : sumF (fun _ => 0) m = 0 := by
  induction m with
  | zero => rfl
  | succ m ih => show sumF _ m + 0 = 0; rw [ih]; rfl
theorem sumF_one (a c : Int) (m : Nat) : sumF (fun k => if (k : Int) = a then c else 0) m = if 0 ≤ a ∧ a < (m : Int) then c else 0 := by
  induction m with
  | zero => show (0 : Int) = _; rw [if_neg (by omega)]
  | succ m ih =>
    show sumF _ m + (if (m : Int) = a then c else 0) = _
    rw [ih]
    by_cases h1 : (m : Int) = a
    · rw [if_pos h1, if_neg (by omega), if_pos (by omega)]; omega
    · rw [if_neg h1]
      by_cases h2 : 0 ≤ a ∧ a < (m : Int)
      · rw [if_pos h2, if_pos (by omega)]; omega
      · rw [if_neg h2, if_neg (by omega)]; omega
theorem sumF_list (c : Int) (m : Nat) (l : List Int) (hn : l.Nodup) (h : ∀ i ∈ l, 0 ≤ i ∧ i < (m : Int)) : sumF (fun k => if (k : Int) ∈ l then c else 0) m = (l.length : Int) * c := by
  induction l with
  | nil => rw [sumF_congr (g := fun _ => 0) (fun k _ => by simp), sumF_zero]; simp
  | cons a l ih =>
    obtain ⟨ha, hl⟩ := List.nodup_cons.1 hn
    have e : sumF (fun k => if (k : Int) ∈ a :: l then c else 0) m = sumF (fun k => (if (k : Int) = a then c else 0) + (if (k : Int) ∈ l then c else 0)) m := by
      refine sumF_congr fun k _ => ?_
      by_cases h1 : (k : Int) = a
      · subst h1; rw [if_pos (by simp), if_pos rfl, if_neg ha]; omega
      · by_cases h2 : (k : Int) ∈ l
        · rw [if_pos (by simp [h2]), if_neg h1, if_pos h2]; omega
        · rw [if_neg (by simp [h1, h2]), if_neg h1, if_neg h2]; rfl
    rw [e, sumF_add, sumF_one, if_pos (h a (by simp)), ih hl fun i hi => h i (by simp [hi])]
    simp only [List.length_cons]
    rw [Int.natCast_add, Int.add_mul]
    omega
/-- The slots of the spare routes at a fiber among the first services. -/
def inS (L : List SvV) (f : Nat) : Nat → Int
  | 0 => 0
  | k + 1 => match L[k]? with | some x => inS L f k + (if (f : Int) ∈ x.s.2 then x.sb.2 else 0) | none => inS L f k
def lenS (L : List SvV) : Nat → Int
  | 0 => 0
  | k + 1 => match L[k]? with | some x => lenS L k + (x.s.2.length : Int) * x.sb.2 | none => lenS L k
theorem inS_yes {L : List SvV} {f k : Nat} {x : SvV} (h : L[k]? = some x) (hm : (f : Int) ∈ x.s.2) : inS L f (k + 1) = inS L f k + x.sb.2 := by
  show (match L[k]? with | some x => inS L f k + (if (f : Int) ∈ x.s.2 then x.sb.2 else 0) | none => inS L f k) = _
  rw [h]
  show inS L f k + (if _ then _ else _) = _
  rw [if_pos hm]
theorem inS_no {L : List SvV} {f k : Nat} {x : SvV} (h : L[k]? = some x) (hm : ¬ (f : Int) ∈ x.s.2) : inS L f (k + 1) = inS L f k := by
  show (match L[k]? with | some x => inS L f k + (if (f : Int) ∈ x.s.2 then x.sb.2 else 0) | none => inS L f k) = _
  rw [h]
  show inS L f k + (if _ then _ else _) = _
  rw [if_neg hm]; omega
theorem lenS_step {L : List SvV} {k : Nat} {x : SvV} (h : L[k]? = some x) : lenS L (k + 1) = lenS L k + (x.s.2.length : Int) * x.sb.2 := by
  show (match L[k]? with | some x => lenS L k + (x.s.2.length : Int) * x.sb.2 | none => lenS L k) = _
  rw [h]
theorem sb_bound {n : Net} {x : SvV} (h : svB n x = true) : 0 ≤ x.sb.2 ∧ x.sb.2 ≤ 24 := by
  rcases (svB_blocks h).2 with h | h
  · obtain ⟨h1, h2, h3⟩ := goodB_iff.1 h
    omega
  · rw [h]; simp
theorem inS_bound {n : Net} {L : List SvV} (h : ∀ x ∈ L, svB n x = true) (f k : Nat) : 0 ≤ inS L f k ∧ inS L f k ≤ 24 * k := by
  induction k with
  | zero => exact ⟨Int.le_refl _, by simp [inS]⟩
  | succ k ih =>
    cases hx : L[k]? with
    | none =>
      have e : inS L f (k + 1) = inS L f k := by
        show (match L[k]? with | some x => inS L f k + (if (f : Int) ∈ x.s.2 then x.sb.2 else 0) | none => inS L f k) = _
        rw [hx]
      rw [e]; omega
    | some x =>
      have hb := sb_bound (h x (List.mem_of_getElem? hx))
      by_cases hm : (f : Int) ∈ x.s.2
      · rw [inS_yes hx hm]; omega
      · rw [inS_no hx hm]; omega
theorem lenS_bound {n : Net} {L : List SvV} (h : ∀ x ∈ L, svB n x = true) (hs : ∀ x ∈ L, x.s.2.length ≤ 1048576) (k : Nat) : 0 ≤ lenS L k ∧ lenS L k ≤ 25165824 * k := by
  induction k with
  | zero => exact ⟨Int.le_refl _, by simp [lenS]⟩
  | succ k ih =>
    cases hx : L[k]? with
    | none =>
      have e : lenS L (k + 1) = lenS L k := by
        show (match L[k]? with | some x => lenS L k + (x.s.2.length : Int) * x.sb.2 | none => lenS L k) = _
        rw [hx]
      rw [e]; omega
    | some x =>
      have hb := sb_bound (h x (List.mem_of_getElem? hx))
      have hl := hs x (List.mem_of_getElem? hx)
      rw [lenS_step hx]
      have h1 : 0 ≤ (x.s.2.length : Int) * x.sb.2 := Int.mul_nonneg (by omega) hb.1
      have h2 : (x.s.2.length : Int) * x.sb.2 ≤ 1048576 * 24 := by
        refine Int.le_trans (Int.mul_le_mul_of_nonneg_right (c := x.sb.2) (b := 1048576) (by omega) hb.1) ?_
        omega
      omega
theorem inS_sum {n : Net} {L : List SvV} (h : ∀ x ∈ L, svB n x = true) (k : Nat) : sumF (fun f => inS L f k) n.fibers.length = lenS L k := by
  induction k with
  | zero => exact sumF_zero _
  | succ k ih =>
    cases hx : L[k]? with
    | none =>
      have e : lenS L (k + 1) = lenS L k := by
        show (match L[k]? with | some x => lenS L k + (x.s.2.length : Int) * x.sb.2 | none => lenS L k) = _
        rw [hx]
      rw [e, ← ih]
      refine sumF_congr fun f _ => ?_
      show (match L[k]? with | some x => inS L f k + (if (f : Int) ∈ x.s.2 then x.sb.2 else 0) | none => inS L f k) = _
      rw [hx]
    | some x =>
      rw [lenS_step hx, ← ih, ← sumF_list x.sb.2 n.fibers.length x.s.2 (svB_nodup (h x (List.mem_of_getElem? hx))).2.1 (svB_nodup (h x (List.mem_of_getElem? hx))).2.2, ← sumF_add]
      refine sumF_congr fun f _ => ?_
      by_cases hm : (f : Int) ∈ x.s.2
      · rw [inS_yes hx hm, if_pos hm]
      · rw [inS_no hx hm, if_neg hm]; omega
theorem cntS24 {m : Nat} (h : m < 16777216) : pop.cnt m ≤ 24 := by rw [← pop.cntTo_24 m h]; exact pop.cntTo_le m 24
/-- The slots in use by spare routes at a fiber. -/
def popS (L : List SvV) (f : Nat) : Int := (pop.cnt (usedN (spL L) (f : Int)) : Int)
def ssTo (L : List SvV) (f : Nat) : Int := sumF (fun f => inS L f L.length - popS L f) f
def ssF (n : Net) (L : List SvV) : Int × Bool := if svsB n L = true then (ssTo L n.fibers.length, true) else (0, false)
theorem ssTo_law {n : Net} {L : List SvV} (h : ∀ x ∈ L, svB n x = true) : ssTo L n.fibers.length = lenS L L.length - sumF (popS L) n.fibers.length := by
  unfold ssTo
  have e : sumF (fun f => inS L f L.length - popS L f) n.fibers.length + sumF (popS L) n.fibers.length = lenS L L.length := by
    rw [← inS_sum h L.length, ← sumF_add]
    refine sumF_congr fun f _ => ?_
    omega
  omega
theorem popS_bound {n : Net} {L : List SvV} (h : ∀ x ∈ L, svB n x = true) (f : Nat) : 0 ≤ popS L f ∧ popS L f ≤ 24 := by
  unfold popS
  have := cntS24 (used_w (f : Int) (sp_ok h))
  omega
theorem popS_sum {n : Net} {L : List SvV} (h : ∀ x ∈ L, svB n x = true) (k : Nat) : 0 ≤ sumF (popS L) k ∧ sumF (popS L) k ≤ 24 * k := by
  induction k with
  | zero => exact ⟨Int.le_refl _, by simp [sumF]⟩
  | succ k ih =>
    have := popS_bound h k
    show 0 ≤ sumF (popS L) k + popS L k ∧ sumF (popS L) k + popS L k ≤ _
    omega
theorem ssTo_bound {n : Net} {L : List SvV} (h : ∀ x ∈ L, svB n x = true) (h8 : L.length ≤ 8) (k : Nat) : -(24 * k) ≤ ssTo L k ∧ ssTo L k ≤ 192 * k := by
  induction k with
  | zero => exact ⟨by simp [ssTo, sumF], by simp [ssTo, sumF]⟩
  | succ k ih =>
    have h1 := popS_bound h k
    have h2 := inS_bound h k L.length
    have e : ssTo L (k + 1) = ssTo L k + (inS L k L.length - popS L k) := rfl
    omega
end Go.Proofs.YtjaacinngfblkaaGreat
