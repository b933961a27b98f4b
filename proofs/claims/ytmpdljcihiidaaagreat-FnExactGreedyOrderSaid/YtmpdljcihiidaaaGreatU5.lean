/- Texts of mine laid together (FmP, Fm, AsgP, Asg, Asg2, Asg3, CqP, Cq, Cq2, Cb): contracts of functions and plain laws. -/
import Derived.Test.YtmpdljcihiidaaaGreatU4
import Derived.Test.YtmpdljcihiidaaaGreatU1
import Derived.Test.YtmpdljcihiidaaaGreatU3
/- Plain laws: masks of fibers (no program in sight). -/
namespace Go.Proofs.YtmpdljcihiidaaaGreat
open Go.RowKit

/-- The slots that lights occupy on a fiber. -/
def usedN (L : List LtV) (f : Int) : Nat := L.foldl (fun a x => if f ∈ x.2.1.2 then a ||| mkN x.2.2 else a) 0
theorem used_step {L : List LtV} {k : Nat} {x : LtV} (f : Int) (hx : L[k]? = some x) : usedN (L.take (k + 1)) f = if f ∈ x.2.1.2 then usedN (L.take k) f ||| mkN x.2.2 else usedN (L.take k) f := by
  unfold usedN; rw [List.take_add_one, hx]; simp
theorem used_snoc (L : List LtV) (x : LtV) (f : Int) : usedN (L ++ [x]) f = if f ∈ x.2.1.2 then usedN L f ||| mkN x.2.2 else usedN L f := by unfold usedN; simp
theorem snocInd {α : Type} {P : List α → Prop} (h0 : P []) (h1 : ∀ l a, P l → P (l ++ [a])) (l : List α) : P l := by
  have : ∀ l : List α, P l.reverse := by
    intro l
    induction l with
    | nil => exact h0
    | cons a l ih => rw [List.reverse_cons]; exact h1 _ _ ih
  have := this l.reverse
  rwa [List.reverse_reverse] at this
theorem used_lt {L : List LtV} (f : Int) (h : ∀ x ∈ L, goodB x.2.2.1 x.2.2.2 = true) : usedN L f < 16777216 := by
  revert h
  refine snocInd (P := fun L => (∀ x ∈ L, goodB x.2.2.1 x.2.2.2 = true) → usedN L f < 16777216) (fun _ => by simp [usedN]) ?_ L
  intro L a ih h
  have h1 := ih fun x hx => h x (List.mem_append_left _ hx)
  have h2 := (mkN_ok (h a (by simp))).2.2
  rw [used_snoc]
  split
  · exact or24 h1 h2
  · exact h1
/-- Masks laid fiber by fiber. -/
def tallyO (S : List Nat) (c : Nat) (fs : List Int) : List Nat := fs.foldl (fun S i => S.set i.toNat (S.getD i.toNat 0 ||| c)) S
theorem tallyO_step {S : List Nat} {c : Nat} {fs : List Int} {k : Nat} {i : Int} (hx : fs[k]? = some i) : tallyO S c (fs.take (k + 1)) = (tallyO S c (fs.take k)).set i.toNat ((tallyO S c (fs.take k)).getD i.toNat 0 ||| c) := by
  unfold tallyO; rw [List.take_add_one, hx]; simp
theorem tallyO_len (S : List Nat) (c : Nat) (fs : List Int) : (tallyO S c fs).length = S.length := by
  induction fs generalizing S with
  | nil => rfl
  | cons a fs ih => unfold tallyO at *; rw [List.foldl_cons, ih]; simp
def masksR (m : Nat) (L : List LtV) : List Nat := L.foldl (fun S x => tallyO S (mkN x.2.2) x.2.1.2) (List.replicate m 0)
theorem masks_step {m : Nat} {L : List LtV} {k : Nat} {x : LtV} (hx : L[k]? = some x) : masksR m (L.take (k + 1)) = tallyO (masksR m (L.take k)) (mkN x.2.2) x.2.1.2 := by
  unfold masksR; rw [List.take_add_one, hx]; simp
theorem masks_snoc (m : Nat) (L : List LtV) (x : LtV) : masksR m (L ++ [x]) = tallyO (masksR m L) (mkN x.2.2) x.2.1.2 := by unfold masksR; simp
theorem masks_len (m : Nat) (L : List LtV) : (masksR m L).length = m := by
  refine snocInd (P := fun L => (masksR m L).length = m) (by simp [masksR]) ?_ L
  intro L a ih; rw [masks_snoc, tallyO_len, ih]
theorem getDO_set (S : List Nat) (i j v : Nat) (hi : i < S.length) : (S.set i v).getD j 0 = if i = j then v else S.getD j 0 := by
  simp only [List.getD_eq_getElem?_getD, List.getElem?_set]
  split
  · simp [hi]
  · rfl
theorem tallyO_val (c : Nat) (fs : List Int) : ∀ (S : List Nat), fs.Nodup → (∀ i ∈ fs, 0 ≤ i ∧ i < S.length) → ∀ f : Nat, (tallyO S c fs).getD f 0 = if (f : Int) ∈ fs then S.getD f 0 ||| c else S.getD f 0 := by
  induction fs with
  | nil => intro S _ _ f; simp [tallyO]
  | cons a fs ih =>
    intro S hn hr f
    have ha := hr a List.mem_cons_self
    have e : tallyO S c (a :: fs) = tallyO (S.set a.toNat (S.getD a.toNat 0 ||| c)) c fs := rfl
    rw [List.nodup_cons] at hn
    rw [e, ih _ hn.2 (fun i hi => by rw [List.length_set]; exact hr i (List.mem_cons_of_mem _ hi)), getDO_set _ _ _ _ (by omega)]
    by_cases hf : a.toNat = f
    · have h1 : (f : Int) = a := by omega
      have h2 : ¬ (f : Int) ∈ fs := by rw [h1]; exact hn.1
      rw [if_neg h2, if_pos hf, if_pos (by rw [h1]; exact List.mem_cons_self), hf]
    · have h1 : (f : Int) ≠ a := by omega
      rw [if_neg hf]
      by_cases h2 : (f : Int) ∈ fs
      · rw [if_pos h2, if_pos (List.mem_cons_of_mem _ h2)]
      · rw [if_neg h2, if_neg (by simp [h1, h2])]
theorem masks_val (m : Nat) (L : List LtV) (h : ∀ x ∈ L, x.2.1.2.Nodup ∧ ∀ i ∈ x.2.1.2, 0 ≤ i ∧ i < m) (f : Nat) : (masksR m L).getD f 0 = usedN L f := by
  revert h
  refine snocInd (P := fun L => (∀ x ∈ L, x.2.1.2.Nodup ∧ ∀ i ∈ x.2.1.2, 0 ≤ i ∧ i < (m : Int)) → (masksR m L).getD f 0 = usedN L f) ?_ ?_ L
  · intro _; simp [masksR, usedN, List.getD_eq_getElem?_getD, List.getElem?_replicate]; split <;> rfl
  · intro L a ih h
    have ha := h a (by simp)
    rw [masks_snoc, tallyO_val _ _ _ ha.1 (by rw [masks_len]; exact ha.2), used_snoc, ih fun x hx => h x (List.mem_append_left _ hx)]
theorem tallyO_lt {S : List Nat} {c : Nat} {fs : List Int} (hc : c < 16777216) (hS : ∀ j : Nat, S.getD j 0 < 16777216) : ∀ j : Nat, (tallyO S c fs).getD j 0 < 16777216 := by
  refine snocInd (P := fun fs => ∀ j : Nat, (tallyO S c fs).getD j 0 < 16777216) (fun j => by simpa [tallyO] using hS j) ?_ fs
  intro fs a ih j
  have e : tallyO S c (fs ++ [a]) = (tallyO S c fs).set a.toNat ((tallyO S c fs).getD a.toNat 0 ||| c) := by unfold tallyO; simp
  rw [e]
  by_cases hl : a.toNat < (tallyO S c fs).length
  · rw [getDO_set _ _ _ _ hl]; split
    · exact or24 (ih _) hc
    · exact ih _
  · rw [List.set_eq_of_length_le (by omega)]; exact ih _
theorem masks_lt {m : Nat} {L : List LtV} (h : ∀ x ∈ L, goodB x.2.2.1 x.2.2.2 = true) : ∀ j : Nat, (masksR m L).getD j 0 < 16777216 := by
  revert h
  refine snocInd (P := fun L => (∀ x ∈ L, goodB x.2.2.1 x.2.2.2 = true) → ∀ j : Nat, (masksR m L).getD j 0 < 16777216) ?_ ?_ L
  · intro _ j; simp [masksR, List.getD_eq_getElem?_getD, List.getElem?_replicate]; split <;> simp
  · intro L a ih h
    rw [masks_snoc]
    exact tallyO_lt (mkN_ok (h a (by simp))).2.2 (ih fun x hx => h x (List.mem_append_left _ hx))
/-- A route that can be walked uses no fiber twice. -/
theorem walk_nodupF {F : List Fib} {s : Int} {l : List Int} : ∀ {k : Nat} {out : List Int}, k ≤ l.length → walkR F s (l.take k) = some out →
    (l.take k).Nodup ∧ ∀ i ∈ l.take k, 0 ≤ i ∧ i < F.length ∧ ∃ f, F[i.toNat]? = some f ∧ f.a ∈ out ∧ f.b ∈ out := by
  intro k
  induction k with
  | zero => intro out _ _; simp
  | succ k ih =>
    intro out hk h
    have hlen := walk_len hk h
    cases ho : walkR F s (l.take k) with
    | none =>
      have : walkR F s (l.take (k + 1)) = none := by
        have := walk_dead (F := F) (s := s) (l := l.take (k + 1)) (k := k) (by rw [List.take_take, Nat.min_eq_left (by omega)]; exact ho)
        exact this
      rw [this] at h; cases h
    | some o =>
      have hlo := walk_len (k := k) (by omega) ho
      obtain ⟨hnd, hal⟩ := ih (by omega) ho
      have hx : l[k]? = some l[k] := List.getElem?_eq_getElem (by omega)
      rw [walk_step ho hx] at h
      unfold stepR at h
      split at h
      · next hin =>
        split at h
        · next f hf =>
          split at h
          · cases h
          · next hb =>
            cases h
            obtain ⟨g1, g2⟩ := inB_iff.1 hin
            have hlast : lastI o ∈ o := by
              unfold lastI
              cases hg : o.getLast? with
              | none => rw [List.getLast?_eq_none_iff] at hg; subst hg; simp at hlo
              | some y => exact List.mem_of_getLast? hg
            have hoth : (lastI o = f.a ∧ other f (lastI o) = f.b) ∨ (lastI o = f.b ∧ other f (lastI o) = f.a) := by
              by_cases h1 : lastI o = f.a
              · exact Or.inl ⟨h1, by simp [other, h1]⟩
              · by_cases h2 : lastI o = f.b
                · exact Or.inr ⟨h2, by simp only [other, if_neg h1, if_pos h2]⟩
                · exfalso; apply hb; left; simp only [other, if_neg h1, if_neg h2]; omega
            have hnot : ¬ other f (lastI o) ∈ o := fun h => hb (Or.inr h)
            have hnew : ¬ l[k] ∈ l.take k := by
              intro hm
              obtain ⟨_, _, f', hf', ha, hb'⟩ := hal _ hm
              rw [hf] at hf'; cases hf'
              rcases hoth with ⟨_, e⟩ | ⟨_, e⟩ <;> rw [e] at hnot
              · exact hnot hb'
              · exact hnot ha
            rw [List.take_add_one, hx]
            refine ⟨?_, ?_⟩
            · rw [List.nodup_append]
              refine ⟨hnd, by simp, fun a ha b hb' => ?_⟩
              simp at hb'
              subst hb'
              intro e; subst e; exact hnew ha
            · intro i hi
              rw [List.mem_append] at hi
              rcases hi with hi | hi
              · obtain ⟨a1, a2, f', a3, a4, a5⟩ := hal i hi
                exact ⟨a1, a2, f', a3, List.mem_append_left _ a4, List.mem_append_left _ a5⟩
              · simp at hi
                subst hi
                refine ⟨g1, by omega, f, hf, ?_⟩
                rcases hoth with ⟨e1, e2⟩ | ⟨e1, e2⟩
                · exact ⟨by rw [← e1]; exact List.mem_append_left _ hlast, by rw [e2]; simp⟩
                · exact ⟨by rw [e2]; simp, by rw [← e1]; exact List.mem_append_left _ hlast⟩
        · cases h
      · cases h
theorem vis_nodupF {n : Net} {s : Int} {l : List Int} (h : isVis n s l = true) : l.Nodup ∧ ∀ i ∈ l, 0 ≤ i ∧ i < (n.fibers.length : Int) := by
  unfold isVis visR at h
  split at h
  · cases ho : walkR n.fibers s l with
    | none => rw [ho] at h; cases h
    | some o =>
      have := walk_nodupF (F := n.fibers) (s := s) (l := l) (k := l.length) (out := o) (Nat.le_refl _) (by rw [List.take_length]; exact ho)
      rw [List.take_length] at this
      exact ⟨this.1, fun i hi => ⟨(this.2 i hi).1, (this.2 i hi).2.1⟩⟩
  · cases h
theorem lt_route {n : Net} {x : LtV} (h : ltB n x = true) : x.2.1.2.Nodup ∧ ∀ i ∈ x.2.1.2, 0 ≤ i ∧ i < (n.fibers.length : Int) := by
  unfold ltB at h; simp only [Bool.and_eq_true] at h; exact vis_nodupF h.1.2
theorem masks_eq {P : PlanV} (h : planB P = true) : masksR P.net.fibers.length P.lights = (List.range P.net.fibers.length).map fun f : Nat => usedN P.lights f := by
  apply List.ext_getElem?
  intro j
  have hv := masks_val P.net.fibers.length P.lights (fun x hx => lt_route (planB_lt h x hx)) j
  have hl := masks_len P.net.fibers.length P.lights
  rcases Nat.lt_or_ge j P.net.fibers.length with hj | hj
  · rw [List.getD_eq_getElem?_getD, List.getElem?_eq_getElem (by omega)] at hv
    rw [List.getElem?_eq_getElem (by omega), List.getElem?_map, List.getElem?_range hj]
    simp only [Option.getD_some] at hv
    rw [hv]; rfl
  · rw [List.getElem?_eq_none (by omega), List.getElem?_eq_none (by simp; omega)]
/-- The slots that are occupied along fibers. -/
def alongN (L : List LtV) (fs : List Int) : Nat := fs.foldl (fun a i => a ||| usedN L i) 0
theorem along_step {L : List LtV} {fs : List Int} {k : Nat} {i : Int} (hx : fs[k]? = some i) : alongN L (fs.take (k + 1)) = alongN L (fs.take k) ||| usedN L i := by
  unfold alongN; rw [List.take_add_one, hx]; simp
theorem along_lt {L : List LtV} {fs : List Int} (h : ∀ x ∈ L, goodB x.2.2.1 x.2.2.2 = true) : alongN L fs < 16777216 := by
  refine snocInd (P := fun fs => alongN L fs < 16777216) (by simp [alongN]) ?_ fs
  intro fs a ih
  have e : alongN L (fs ++ [a]) = alongN L fs ||| usedN L a := by unfold alongN; simp
  rw [e]; exact or24 ih (used_lt a h)
def rmaskF (P : PlanV) (R : Int × List Int) : Int × Bool := if planB P = true ∧ isVis P.net R.1 R.2 = true then ((alongN P.lights R.2 : Int), true) else (0, false)
end Go.Proofs.YtmpdljcihiidaaaGreat

/- Contracts: the slots occupied on fibers and along routes, both sides. -/
namespace Go.Proofs.YtmpdljcihiidaaaGreat
open Go.RowKit Go.PlainAid

end Go.Proofs.YtmpdljcihiidaaaGreat

/- Plain laws: assignments of blocks to requests (no program in sight). -/
namespace Go.Proofs.YtmpdljcihiidaaaGreat
open Go.RowKit

theorem uses_comm (a b : List Int) : usesB a b = usesB b a := by
  unfold usesB
  rw [Bool.eq_iff_iff, List.any_eq_true, List.any_eq_true]
  constructor
  · rintro ⟨x, hx, h⟩; exact ⟨x, by simpa using h, by simpa using hx⟩
  · rintro ⟨x, hx, h⟩; exact ⟨x, by simpa using h, by simpa using hx⟩
/-- Two requests conflict. -/
def confB (x y : (Int × List Int) × Int) : Bool := usesB x.1.2 y.1.2
theorem conf_comm (x y : (Int × List Int) × Int) : confB x y = confB y x := uses_comm _ _
/-- Request i and request k conflict. -/
def confAt (L : List ((Int × List Int) × Int)) (i k : Nat) : Bool := match L[i]?, L[k]? with | some x, some y => confB x y | _, _ => false
theorem confAt_comm (L : List ((Int × List Int) × Int)) (i k : Nat) : confAt L i k = confAt L k i := by
  unfold confAt
  cases L[i]? <;> cases L[k]? <;> simp [conf_comm]
theorem confAt_of {L : List ((Int × List Int) × Int)} {i k : Nat} {x y : (Int × List Int) × Int} (h : L[i]? = some x) (h2 : L[k]? = some y) : confAt L i k = confB x y := by unfold confAt; rw [h, h2]
/-- The mask of the block of a request (nothing where it has none). -/
def bmask (B : List (Int × Int)) (k : Nat) : Nat := match B[k]? with | some b => if 0 < b.2 then mkN b else 0 | none => 0
theorem bmask_of {B : List (Int × Int)} {k : Nat} {b : Int × Int} (h : B[k]? = some b) : bmask B k = if 0 < b.2 then mkN b else 0 := by unfold bmask; rw [h]
/-- The slots of the requests that conflict with one. -/
def takeStep (L : List ((Int × List Int) × Int)) (B : List (Int × Int)) (i : Nat) (a k : Nat) : Nat := if k ≠ i ∧ confAt L k i = true then a ||| bmask B k else a
def takenTo (L : List ((Int × List Int) × Int)) (B : List (Int × Int)) (i n : Nat) : Nat := (List.range n).foldl (takeStep L B i) 0
theorem takenTo_succ (L : List ((Int × List Int) × Int)) (B : List (Int × Int)) (i n : Nat) : takenTo L B i (n + 1) = takeStep L B i (takenTo L B i n) n := by unfold takenTo; rw [List.range_succ, List.foldl_append]; rfl
def BGood (B : List (Int × Int)) : Prop := ∀ b ∈ B, 0 < b.2 → goodB b.1 b.2 = true
theorem bmask_lt {B : List (Int × Int)} (h : BGood B) (k : Nat) : bmask B k < 16777216 := by
  unfold bmask
  split
  · next b hb =>
    split
    · next h2 => exact (mkN_ok (h b (List.mem_of_getElem? hb) h2)).2.2
    · omega
  · omega
theorem taken_lt {L : List ((Int × List Int) × Int)} {B : List (Int × Int)} (h : BGood B) (i n : Nat) : takenTo L B i n < 16777216 := by
  induction n with
  | zero => simp [takenTo]
  | succ n ih =>
    rw [takenTo_succ]; unfold takeStep
    split
    · exact or24 ih (bmask_lt h n)
    · exact ih
theorem taken_and (L : List ((Int × List Int) × Int)) (B : List (Int × Int)) (i m : Nat) : ∀ n, (takenTo L B i n &&& m = 0 ↔ ∀ k, k < n → k ≠ i → confAt L k i = true → bmask B k &&& m = 0) := by
  intro n
  induction n with
  | zero => simp [takenTo]
  | succ n ih =>
    rw [takenTo_succ]; unfold takeStep
    by_cases hc : n ≠ i ∧ confAt L n i = true
    · rw [if_pos hc, Nat.and_comm, Nat.and_or_distrib_left, Nat.or_eq_zero_iff, Nat.and_comm m, Nat.and_comm m, ih]
      constructor
      · rintro ⟨h1, h2⟩ k hk hki hck
        rcases Nat.lt_or_ge k n with h | h
        · exact h1 k h hki hck
        · have : k = n := by omega
          subst this; exact h2
      · intro h
        exact ⟨fun k hk => h k (by omega), h n (by omega) hc.1 hc.2⟩
    · rw [if_neg hc, ih]
      constructor
      · intro h k hk hki hck
        rcases Nat.lt_or_ge k n with h' | h'
        · exact h k h' hki hck
        · have : k = n := by omega
          subst this; exact absurd ⟨hki, hck⟩ hc
      · intro h k hk; exact h k (by omega)
/-- Block k is valid and fits its request. -/
def fitAt (L : List ((Int × List Int) × Int)) (B : List (Int × Int)) (k : Nat) : Bool := match B[k]?, L[k]? with | some b, some x => goodB b.1 b.2 && decide (b.2 = x.2) | _, _ => false
/-- No slot of a block is one of a treated request's that conflicts with request i. -/
def freeB (L : List ((Int × List Int) × Int)) (B : List (Int × Int)) (i : Nat) (b : Int × Int) (T : Nat → Bool) : Bool :=
  (List.range L.length).all fun k => !(decide (k ≠ i) && T k && confAt L i k && decide (mkN b &&& bmask B k ≠ 0))
def asgB (L : List ((Int × List Int) × Int)) (B : List (Int × Int)) : Bool :=
  decide (B.length = L.length) && (List.range L.length).all fun i => fitAt L B i && freeB L B i (B.getD i (0, 0)) fun k => decide (k < i)
theorem fit_good {L : List ((Int × List Int) × Int)} {B : List (Int × Int)} {k : Nat} (h : fitAt L B k = true) : ∃ b x, B[k]? = some b ∧ L[k]? = some x ∧ goodB b.1 b.2 = true ∧ b.2 = x.2 := by
  unfold fitAt at h
  cases hb : B[k]? with
  | none => rw [hb] at h; simp at h
  | some b =>
    cases hx : L[k]? with
    | none => rw [hb, hx] at h; simp at h
    | some x =>
      rw [hb, hx] at h
      simp only [Bool.and_eq_true, decide_eq_true_eq] at h
      exact ⟨b, x, rfl, rfl, h.1, h.2⟩
theorem good_pos {f c : Int} (h : goodB f c = true) : 0 < c := by obtain ⟨_, h2, _⟩ := goodB_iff.1 h; omega
/-- The reference's view: all blocks fit, and no block meets what the others have taken. -/
theorem asg_spec {L : List ((Int × List Int) × Int)} {B : List (Int × Int)} (hl : B.length = L.length) (hf : ∀ k, k < L.length → fitAt L B k = true) :
    asgB L B = true ↔ ∀ i, i < L.length → takenTo L B i L.length &&& bmask B i = 0 := by
  have hb : ∀ k, k < L.length → ∃ b, B[k]? = some b ∧ bmask B k = mkN b ∧ B.getD k (0, 0) = b := by
    intro k hk
    obtain ⟨b, x, h1, _, h3, _⟩ := fit_good (hf k hk)
    exact ⟨b, h1, by rw [bmask_of h1, if_pos (good_pos h3)], by rw [List.getD_eq_getElem?_getD, h1]; rfl⟩
  unfold asgB
  simp only [Bool.and_eq_true, decide_eq_true_eq, List.all_eq_true, List.mem_range, hl, true_and]
  constructor
  · intro h i hi
    rw [taken_and]
    intro k hk hki hc
    obtain ⟨bi, g1, g2, g3⟩ := hb i hi
    obtain ⟨bk, f1, f2, f3⟩ := hb k hk
    rcases Nat.lt_or_ge k i with hlt | hge
    · have h1 := (h i hi).2
      unfold freeB at h1
      rw [List.all_eq_true] at h1
      have h2 := h1 k (List.mem_range.2 hk)
      rw [g3] at h2
      rw [confAt_comm] at hc
      simp only [hc, hlt, decide_true, Bool.and_true, hki, ne_eq, not_false_eq_true, Bool.true_and, Bool.not_eq_true', decide_eq_false_iff_not, Decidable.not_not] at h2
      rw [g2, Nat.and_comm]; exact h2
    · have hlt : i < k := by omega
      have h1 := (h k hk).2
      unfold freeB at h1
      rw [List.all_eq_true] at h1
      have h2 := h1 i (List.mem_range.2 hi)
      rw [f3] at h2
      have hik : i ≠ k := by omega
      simp only [hc, hlt, decide_true, Bool.and_true, hik, ne_eq, not_false_eq_true, Bool.true_and, Bool.not_eq_true', decide_eq_false_iff_not, Decidable.not_not] at h2
      rw [f2]; exact h2
  · intro h i hi
    refine ⟨hf i hi, ?_⟩
    unfold freeB
    rw [List.all_eq_true]
    intro k hk
    rw [List.mem_range] at hk
    obtain ⟨bi, g1, g2, g3⟩ := hb i hi
    by_cases hki : k = i
    · simp [hki]
    · cases hc : confAt L i k
      · simp
      · have h1 := (taken_and L B i (bmask B i) L.length).1 (h i hi) k hk hki (by rw [confAt_comm]; exact hc)
        rw [g2, Nat.and_comm] at h1
        rw [g3]
        simp [h1]
theorem asg_good {L : List ((Int × List Int) × Int)} {B : List (Int × Int)} (h : asgB L B = true) : ∀ b ∈ B, goodB b.1 b.2 = true := by
  intro b hb
  unfold asgB at h
  simp only [Bool.and_eq_true, decide_eq_true_eq, List.all_eq_true, List.mem_range] at h
  obtain ⟨j, hj, rfl⟩ := List.getElem_of_mem hb
  obtain ⟨b', x', h1, _, h3, _⟩ := fit_good (h.2 j (by omega)).1
  rw [List.getElem?_eq_getElem hj] at h1
  cases h1; exact h3
/-- The height of blocks. -/
def heightTo (B : List (Int × Int)) : Int := B.foldl (fun a b => max a (b.1 + b.2)) 0
theorem height_step {B : List (Int × Int)} {k : Nat} {b : Int × Int} (h : B[k]? = some b) : heightTo (B.take (k + 1)) = max (heightTo (B.take k)) (b.1 + b.2) := by
  unfold heightTo; rw [List.take_add_one, h]; simp
def chkF (n : Net) (L : List ((Int × List Int) × Int)) (B : List (Int × Int)) : Int × Bool := if reqsB n L = true ∧ asgB L B = true then (heightTo B, true) else (0, false)
end Go.Proofs.YtmpdljcihiidaaaGreat

/- Contracts: assignments of blocks, the reference's side. -/
namespace Go.Proofs.YtmpdljcihiidaaaGreat
open Go.RowKit Go.PlainAid

theorem rq_at {l : List LQ} {k : Nat} {x : LQ} (hx : l[k]? = some x) : (l.map LQ.val)[k]? = some x.val := by simp [hx]
set_option maxHeartbeats 1000000 in
theorem l12Conflict_any (x y : LQ) (w : World) (hI : Ints w x.r.q x.r.fibs) (hJ : Ints w y.r.q y.r.fibs) (hn : x.r.fibs.length ≤ 1048576) (hm : y.r.fibs.length ≤ 1048576) :
    Calls Tryz.prog 164 #[lqV x, lqV y] w fun e w' => e = .returned (.bool (confB x.val y.val)) ∧ Fresh w w' := by
  obtain ⟨⟨s, q, cap, l⟩, c⟩ := x
  obtain ⟨⟨s', q', cap', l'⟩, c'⟩ := y
  simp only at hI hJ hn hm ⊢
  obtain ⟨W2, hW2, hsz2, hf2, r1, r2⟩ := two_rows w [.int .i64 s, .slice q l.length cap, .int .i64 c] [.int .i64 s', .slice q' l'.length cap', .int .i64 c'] 106 106
  have HW2 := Lib.hid hW2
  have HF2 := Lib.hid hf2
  have HI := Lib.hid (hI.keep hf2)
  have HJ := Lib.hid (hJ.keep hf2)
  have HE : Hid (confB ((s, l), c) ((s', l'), c') = usesB l l') := rfl
  clear hW2 hsz2 hf2 r1 r2 hI hJ
  go_enter Tryz.func164, Tryz.ntmps164
  go_wp2_with fail
  rw [← HW2.out]
  refine (l4Uses_any s q q' cap cap' l l' _ HI.out HJ.out hn hm).mono ?_
  rintro e w1 ⟨rfl, hb⟩
  have HF := Lib.hid (fstep HF2.out hb)
  clear hb
  go_wp2
  go_ret
  exact ⟨ret_bool HE.out.symm, HF.out⟩

set_option maxHeartbeats 4000000 in
set_option maxRecDepth 100000 in
theorem l12Taken_any (p pb : Option Addr) (cap cb : Nat) (l : List LQ) (B : List (Int × Int)) (i : Nat) (w : World) (hl : Reqs w p l) (hs : ReqsSmall l) (hB : Prs w pb B) (hg : BGood B) (hlen : l.length ≤ B.length) (hi : i < l.length) (hbn : B.length ≤ 1048576) :
    Calls Tryz.prog 146 #[.slice p l.length cap, .slice pb B.length cb, .int .i64 (i : Int)] w fun e w' => e = .returned (.int .i64 (takenTo (l.map LQ.val) B i l.length : Int)) ∧ Fresh w w' := by
  have hn := hs.1
  have HSM := Lib.hid hs
  have HL := Lib.hid hl
  have HB := Lib.hid hB
  have HG := Lib.hid hg
  clear hs hl hB hg
  go_enter Tryz.func146, Tryz.ntmps146
  go_wp2
  go_loopw [7, 8] (fun a j wr => ∃ k : Nat, k ≤ l.length ∧ j = .int .i64 k ∧ a = .int .i64 (takenTo (l.map LQ.val) B i k : Int) ∧ Fresh w wr) (fun _ j _ => l.length - (intOf j).toNat)
  case atStart => exact ⟨0, Nat.zero_le _, rfl, rfl, frefl _⟩
  case round =>
    obtain ⟨k, hk, rfl, rfl, hf⟩ := hrel
    have HF := Lib.hid hf
    clear hf
    by_cases hlt : k < l.length
    · have hltz : (k : Int) < (l.length : Int) := by omega
      have hkb : (k : Int) < (B.length : Int) := by omega
      have hiz : (i : Int) < (l.length : Int) := by omega
      obtain ⟨b1, o1, x, hp1, hx, hxm, hxi, c10, c11, c12⟩ := (HL.out.keep HF.out).at hlt
      obtain ⟨b1', o1', y, hp1', hy, hym, hyi, c20, c21, c22⟩ := (HL.out.keep HF.out).at hi
      subst hp1
      cases hp1'
      obtain ⟨b3, o3, f, c, hp3, hbk, d0, d1⟩ := (HB.out.keep HF.out).at (k := k) (by omega)
      subst hp3
      have HST := Lib.hid (takenTo_succ (l.map LQ.val) B i k)
      have htl := taken_lt (L := l.map LQ.val) (i := i) (n := k) HG.out
      have hbl := bmask_lt HG.out k
      have hbm := bmask_of hbk
      have hcf := confAt_of (rq_at hx) (rq_at hy)
      have HGB := Lib.hid (HG.out _ (List.mem_of_getElem? hbk))
      obtain ⟨T, hT⟩ : ∃ T, T = takenTo (l.map LQ.val) B i k := ⟨_, rfl⟩
      rw [← hT] at htl HST ⊢
      have HBM := Lib.hid hbm
      have HCF := Lib.hid hcf
      have hsx := HSM.out.2 x hxm
      have hsy := HSM.out.2 y hym
      have HC : Hid (∀ xa : After wr, Calls Tryz.prog 164 #[lqV x, lqV y] xa.w' fun e w' => e = .returned (.bool (confB x.val y.val)) ∧ Fresh xa.w' w') :=
        fun xa => l12Conflict_any x y xa.w' (hxi.keep xa.h) (hyi.keep xa.h) hsx hsy
      have i0 := fun xa : After wr => akeep c10 xa
      have i1 := fun xa : After wr => akeep c11 xa
      have i2 := fun xa : After wr => akeep c12 xa
      have j0 := fun xa : After wr => akeep c20 xa
      have j1 := fun xa : After wr => akeep c21 xa
      have j2 := fun xa : After wr => akeep c22 xa
      have k0 := fun xa : After wr => akeep d0 xa
      have k1 := fun xa : After wr => akeep d1 xa
      clear hx hxm hxi hy hym hyi hbk hT hbm hcf
      by_cases hki : k = i
      · have hne : ((k : Int) != (i : Int)) = false := by simp [hki]
        have HN : Hid (takenTo (l.map LQ.val) B i (k + 1) = T) := by show _ = _; rw [HST.out]; unfold takeStep; rw [if_neg (by simp [hki])]
        clear hki
        go_wp2
        refine wp_region_after (by kernel_rfl) (by kernel_rfl) ?_
        repeat (go_big_quiet_step ((go_at_call 164; exact after_call (HC.out _))))
        refine wpQuiet_nil ?_
        rintro _ ⟨xa, rfl⟩
        go_wp2
        go_roundw
        case rel => exact ⟨k + 1, by omega, by go_num, by rw [HN.out], fstep HF.out xa.h⟩
        case measure => simp [intOf]; omega
      · have hne : ((k : Int) != (i : Int)) = true := by simp; omega
        by_cases hc0 : 0 < c
        · have hcd : decide (0 < c) = true := decide_eq_true hc0
          have hgb := HGB.out hc0
          obtain ⟨g1, g2, g3⟩ := goodB_iff.1 hgb
          obtain ⟨e1, _, e3⟩ := mkN_ok hgb
          have HOR := Lib.hid (or_i64 T (mkN (f, c)) (lt63 htl) (lt63 e3))
          have HE1 := Lib.hid e1
          clear e1 hgb
          simp only at g1 g2 g3
          cases hcc : confB x.val y.val
          · have HN : Hid (takenTo (l.map LQ.val) B i (k + 1) = T) := by show _ = _; rw [HST.out]; unfold takeStep; rw [if_neg (by rw [HCF.out, hcc]; simp)]
            rw [hcc] at HC
            clear hcc hki
            go_wp2
            refine wp_region_after (by kernel_rfl) (by kernel_rfl) ?_
            repeat (go_big_quiet_step ((go_at_call 164; exact after_call (HC.out _))))
            refine wpQuiet_nil ?_
            rintro _ ⟨xa, rfl⟩
            go_wp2
            go_roundw
            case rel => exact ⟨k + 1, by omega, by go_num, by rw [HN.out], fstep HF.out xa.h⟩
            case measure => simp [intOf]; omega
          · have HN : Hid (takenTo (l.map LQ.val) B i (k + 1) = T ||| mkN (f, c)) := by
              show _ = _; rw [HST.out]; unfold takeStep; rw [if_pos ⟨hki, by rw [HCF.out, hcc]⟩, HBM.out, if_pos hc0]
            rw [hcc] at HC
            clear hcc hki
            go_wp2
            refine wp_region_after (by kernel_rfl) (by kernel_rfl) ?_
            repeat (go_big_quiet_step ((go_at_call 164; exact after_call (HC.out _))))
            refine wpQuiet_nil ?_
            rintro _ ⟨xa, rfl⟩
            go_wp2_with (go_at_call 156; refine (l8Bits_any _ _ _ (by omega) (by omega) (by omega)).mono ?_; rintro e w3 ⟨rfl, hb3⟩)
            have HF3 := Lib.hid (fstep (fstep HF.out xa.h) hb3)
            clear hb3
            go_roundw
            case rel => exact ⟨k + 1, by omega, by go_num, by rw [HN.out, HE1.out, HOR.out], HF3.out⟩
            case measure => simp [intOf]; omega
        · have hcd : decide (0 < c) = false := decide_eq_false hc0
          have HN : Hid (takenTo (l.map LQ.val) B i (k + 1) = T) := by
            show _ = _; rw [HST.out]; unfold takeStep; rw [HBM.out, if_neg hc0]; split <;> simp
          clear hki
          go_wp2
          refine wp_region_after (by kernel_rfl) (by kernel_rfl) ?_
          repeat (go_big_quiet_step ((go_at_call 164; exact after_call (HC.out _))))
          refine wpQuiet_nil ?_
          rintro _ ⟨xa, rfl⟩
          go_wp2
          go_roundw
          case rel => exact ⟨k + 1, by omega, by go_num, by rw [HN.out], fstep HF.out xa.h⟩
          case measure => simp [intOf]; omega
    · have hkn : k = l.length := by omega
      have hltz : ¬ (k : Int) < (l.length : Int) := by omega
      subst hkn
      go_wp2
      go_ret
      exact ⟨rfl, HF.out⟩

set_option maxHeartbeats 400000 in
theorem l1Most_k (a b : Int) (w : World) : Calls Tryz.prog 168 #[.int .i64 a, .int .i64 b] w fun e w' => e = .returned (.int .i64 (max a b)) ∧ w = w' := by
  by_cases h : b < a
  · have HE : Hid (max a b = a) := by show max a b = a; omega
    go_enter Tryz.func168, Tryz.ntmps168
    go_wp2
    go_ret
    exact ⟨ret_int HE.out.symm, rfl⟩
  · have HE : Hid (max a b = b) := by show max a b = b; omega
    go_enter Tryz.func168, Tryz.ntmps168
    go_wp2
    go_ret
    exact ⟨ret_int HE.out.symm, rfl⟩
theorem height_bd {B : List (Int × Int)} (h : ∀ b ∈ B, goodB b.1 b.2 = true) (k : Nat) : 0 ≤ heightTo (B.take k) ∧ heightTo (B.take k) ≤ 24 := by
  induction k with
  | zero => simp [heightTo]
  | succ k ih =>
    rcases Nat.lt_or_ge k B.length with hk | hk
    · have hb := List.getElem?_eq_getElem hk
      obtain ⟨h1, h2, h3⟩ := goodB_iff.1 (h _ (List.getElem_mem hk))
      rw [height_step hb]; omega
    · rw [List.take_of_length_le (by omega)]; rw [List.take_of_length_le (by omega)] at ih; exact ih
set_option maxHeartbeats 1000000 in
theorem l12Height_any (pb : Option Addr) (cb : Nat) (B : List (Int × Int)) (w : World) (hB : Prs w pb B) (hg : ∀ b ∈ B, goodB b.1 b.2 = true) (hbn : B.length ≤ 1048576) :
    Calls Tryz.prog 157 #[.slice pb B.length cb] w fun e w' => e = .returned (.int .i64 (heightTo B)) ∧ Fresh w w' := by
  have HG := Lib.hid hg
  have HB := Lib.hid hB
  clear hg hB
  go_enter Tryz.func157, Tryz.ntmps157
  go_wp2
  go_loopw [3, 4] (fun a j wr => ∃ k : Nat, k ≤ B.length ∧ j = .int .i64 k ∧ a = .int .i64 (heightTo (B.take k)) ∧ Fresh w wr) (fun _ j _ => B.length - (intOf j).toNat)
  case atStart => exact ⟨0, Nat.zero_le _, rfl, rfl, frefl _⟩
  case round =>
    obtain ⟨k, hk, rfl, rfl, hf⟩ := hrel
    have HF := Lib.hid hf
    clear hf
    by_cases hlt : k < B.length
    · have hltz : (k : Int) < (B.length : Int) := by omega
      obtain ⟨b3, o3, f, c, hp3, hbk, d0, d1⟩ := (HB.out.keep HF.out).at hlt
      subst hp3
      obtain ⟨g1, g2, g3⟩ := goodB_iff.1 (HG.out _ (List.mem_of_getElem? hbk))
      have HST := Lib.hid (height_step hbk)
      obtain ⟨h1, h2⟩ := height_bd HG.out k
      obtain ⟨H, hH⟩ : ∃ H, H = heightTo (B.take k) := ⟨_, rfl⟩
      rw [← hH] at h1 h2 HST ⊢
      simp only at g1 g2 g3
      have k0 := fun xa : After wr => akeep d0 xa
      have k1 := fun xa : After wr => akeep d1 xa
      have hsum : IntKind.i64.wrap (f + c) = f + c := by rw [IntKind.wrap_i64]; omega
      have HSUM := Lib.hid hsum
      clear hbk hH
      go_wp2
      refine wp_region_after (by kernel_rfl) (by kernel_rfl) ?_
      repeat (go_big_quiet_step ((go_at_call 168; exact after_same (l1Most_k _ _ _))))
      refine wpQuiet_nil ?_
      rintro _ ⟨xa, rfl⟩
      go_wp2
      go_roundw
      case rel => exact ⟨k + 1, by omega, by go_num, by rw [HST.out], fstep HF.out xa.h⟩
      case measure => simp [intOf]; omega
    · have hkn : k = B.length := by omega
      have hltz : ¬ (k : Int) < (B.length : Int) := by omega
      subst hkn
      go_wp2
      go_ret
      exact ⟨by simp, HF.out⟩

end Go.Proofs.YtmpdljcihiidaaaGreat

/- Contracts: assignments of blocks, the program's side. -/
namespace Go.Proofs.YtmpdljcihiidaaaGreat
open Go.RowKit Go.PlainAid

set_option maxHeartbeats 1000000 in
theorem conflict_any (x y : LQ) (w : World) (hI : Ints w x.r.q x.r.fibs) (hJ : Ints w y.r.q y.r.fibs) (hn : x.r.fibs.length ≤ 1048576) (hm : y.r.fibs.length ≤ 1048576) :
    Calls Tryz.prog 152 #[lqV x, lqV y] w fun e w' => e = .returned (.bool (confB x.val y.val)) ∧ Fresh w w' := by
  obtain ⟨⟨s, q, cap, l⟩, c⟩ := x
  obtain ⟨⟨s', q', cap', l'⟩, c'⟩ := y
  simp only at hI hJ hn hm ⊢
  obtain ⟨W2, hW2, hsz2, hf2, r1, r2⟩ := two_rows w [.int .i64 s, .slice q l.length cap, .int .i64 c] [.int .i64 s', .slice q' l'.length cap', .int .i64 c'] 106 106
  have HW2 := Lib.hid hW2
  have HF2 := Lib.hid hf2
  have HI := Lib.hid (hI.keep hf2)
  have HJ := Lib.hid (hJ.keep hf2)
  have HE : Hid (confB ((s, l), c) ((s', l'), c') = decide (0 < (commonF l l').length)) := by
    show confB _ _ = _
    have := common_pos l l'
    simp only [Int.natCast_pos] at this
    rw [this]; rfl
  clear hW2 hsz2 hf2 r1 r2 hI hJ
  go_enter Tryz.func152, Tryz.ntmps152
  go_wp2_with fail
  rw [← HW2.out]
  refine (common_any q q' cap cap' l l' _ HI.out HJ.out hn hm).mono ?_
  rintro e w1 ⟨pc, cc, rfl, _, hb⟩
  have HF := Lib.hid (fstep HF2.out hb)
  clear hb
  go_wp2
  go_ret
  exact ⟨ret_bool HE.out.symm, HF.out⟩

theorem freeB_bad {L : List ((Int × List Int) × Int)} {B : List (Int × Int)} {i : Nat} {b : Int × Int} {T : Nat → Bool} {k : Nat} (hk : k < L.length) (h1 : k ≠ i) (h2 : T k = true) (h3 : confAt L i k = true) (h4 : mkN b &&& bmask B k ≠ 0) : freeB L B i b T = false :=
  rall_bad hk (by simp [h1, h2, h3, h4])
theorem freeB_all {L : List ((Int × List Int) × Int)} {B : List (Int × Int)} {i : Nat} {b : Int × Int} {T : Nat → Bool} {n : Nat} (hn : L.length = n) (h : ∀ k, k < n → (decide (k ≠ i) && T k && confAt L i k && decide (mkN b &&& bmask B k ≠ 0)) = false) : freeB L B i b T = true := by
  unfold freeB; rw [hn]; exact rall_end fun k hk => by rw [h k hk]; rfl
theorem allStep {f : Nat → Bool} {k : Nat} (h : ∀ j, j < k → f j = false) (hk : f k = false) : ∀ j, j < k + 1 → f j = false := by
  intro j hj
  rcases Nat.lt_or_ge j k with h' | h'
  · exact h j h'
  · have : j = k := by omega
    subst this; exact hk

set_option maxHeartbeats 4000000 in
set_option maxRecDepth 100000 in
theorem isFree_any (cl : FuncId) (cp : Array Value) (p pb : Option Addr) (cap cb : Nat) (l : List LQ) (B : List (Int × Int)) (i : Nat) (f c : Int) (T : Nat → Bool) (w : World) (hl : Reqs w p l) (hs : ReqsSmall l) (hB : Prs w pb B) (hi : i < l.length) (hbn : B.length ≤ 1048576) (hg : goodB f c = true)
    (hT : ∀ k, k < l.length → k ≠ i → T k = true → ∃ b, B[k]? = some b ∧ goodB b.1 b.2 = true) (eg : ∀ args w, (callFunc cl args).run Tryz.prog w = .ok (.enter cl args) w)
    (hcl : ∀ k, k < l.length → ∀ (w' : World), Fresh w w' → Calls Tryz.prog cl (#[.int .i64 (k : Int)] ++ cp) w' fun e w'' => e = .returned (.bool (T k)) ∧ Fresh w' w'') :
    Calls Tryz.prog 113 #[.slice p l.length cap, .slice pb B.length cb, .int .i64 (i : Int), .agg #[.int .i64 f, .int .i64 c], .func (.func cl) #[] cp] w fun e w' => e = .returned (.bool (freeB (l.map LQ.val) B i (f, c) T)) ∧ Fresh w w' := by
  have hn := hs.1
  have HSM := Lib.hid hs
  have HL := Lib.hid hl
  have HB := Lib.hid hB
  have HT := Lib.hid hT
  have HCL := Lib.hid hcl
  have HML : Hid ((l.map LQ.val).length = l.length) := by show _ = _; simp
  obtain ⟨g1, g2, g3⟩ := goodB_iff.1 hg
  obtain ⟨e1, _, e3⟩ := mkN_ok hg
  have HE1 := Lib.hid e1
  have hiz : (i : Int) < (l.length : Int) := by omega
  obtain ⟨W1, hW1⟩ : ∃ W1, W1 = w.alloc (.cells #[.int .i64 f, .int .i64 c] 71) := ⟨_, rfl⟩
  have HF1 : Hid (Fresh w W1) := by show Fresh w W1; rw [hW1]; exact fnew (frefl _) _
  have HR1 : Hid (RowAt W1 w.heap.size 71 [.int .i64 f, .int .i64 c]) := by show RowAt W1 _ _ _; rw [hW1]; exact RowAt.new w _ _
  have HW1 := Lib.hid hW1
  clear hs hl hB hT hcl hW1 e1 hg
  go_enter Tryz.func113, Tryz.ntmps113
  go_wp2
  rw [← HW1.out]
  clear HW1
  go_loopw [14] (fun j wr => ∃ k : Nat, k ≤ l.length ∧ j = .int .i64 k ∧ (∀ j, j < k → (decide (j ≠ i) && T j && confAt (l.map LQ.val) i j && decide (mkN (f, c) &&& bmask B j ≠ 0)) = false) ∧ Fresh W1 wr) (fun j _ => l.length - (intOf j).toNat)
  case atStart => exact ⟨0, Nat.zero_le _, rfl, fun j hj => by omega, frefl _⟩
  case round =>
    obtain ⟨k, hk, rfl, hall, hf⟩ := hrel
    have HA := Lib.hid hall
    have HF := Lib.hid hf
    have HFW := Lib.hid (fstep HF1.out hf)
    have q0 := (HR1.out.keep hf).cell (i := 0) rfl
    have q1 := (HR1.out.keep hf).cell (i := 1) rfl
    have m0 := fun xa : After wr => akeep q0 xa
    have m1 := fun xa : After wr => akeep q1 xa
    clear hall hf q0 q1
    by_cases hlt : k < l.length
    · have hltz : (k : Int) < (l.length : Int) := by omega
      obtain ⟨b1, o1, x, hp1, hx, hxm, hxi, c10, c11, c12⟩ := (HL.out.keep HFW.out).at hlt
      obtain ⟨b1', o1', y, hp1', hy, hym, hyi, c20, c21, c22⟩ := (HL.out.keep HFW.out).at hi
      subst hp1
      cases hp1'
      have hcf := confAt_of (rq_at hy) (rq_at hx)
      have HCF := Lib.hid hcf
      have hsx := HSM.out.2 x hxm
      have hsy := HSM.out.2 y hym
      have HC : Hid (∀ xa : After wr, Calls Tryz.prog 152 #[lqV y, lqV x] xa.w' fun e w' => e = .returned (.bool (confB y.val x.val)) ∧ Fresh xa.w' w') :=
        fun xa => conflict_any y x xa.w' (hyi.keep xa.h) (hxi.keep xa.h) hsy hsx
      have HTC : Hid (∀ xa : After wr, Calls Tryz.prog cl (#[.int .i64 (k : Int)] ++ cp) xa.w' fun e w' => e = .returned (.bool (T k)) ∧ Fresh xa.w' w') :=
        fun xa => HCL.out k hlt xa.w' (fstep HFW.out xa.h)
      have i0 := fun xa : After wr => akeep c10 xa
      have i1 := fun xa : After wr => akeep c11 xa
      have i2 := fun xa : After wr => akeep c12 xa
      have j0 := fun xa : After wr => akeep c20 xa
      have j1 := fun xa : After wr => akeep c21 xa
      have j2 := fun xa : After wr => akeep c22 xa
      clear hx hxm hxi hy hym hyi hcf c10 c11 c12 c20 c21 c22
      have HK := Lib.hid hlt
      by_cases hki : k = i
      · have hne : ((k : Int) != (i : Int)) = false := by simp [hki]
        have HN := Lib.hid (allStep HA.out (show (decide (k ≠ i) && T k && confAt (l.map LQ.val) i k && decide (mkN (f, c) &&& bmask B k ≠ 0)) = false by simp [hki]))
        clear hki
        go_wp2
        refine wp_region_after (by kernel_rfl) (by kernel_rfl) ?_
        repeat (go_big_quiet_step ((first | (go_at_call 152; exact after_call (HC.out _)) | (go_at_call 153; exact after_call (maskOf_any _ _ _ (by omega) (by omega) (by omega))) | exact after_call (HTC.out _))))
        refine wpQuiet_nil ?_
        rintro _ ⟨xa, rfl⟩
        go_wp2
        go_roundw
        case rel => exact ⟨k + 1, by omega, by go_num, HN.out, fstep HF.out xa.h⟩
        case measure => simp [intOf]; omega
      · have hne : ((k : Int) != (i : Int)) = true := by simp; omega
        have HKI := Lib.hid hki
        clear hki
        cases htk : T k
        · have HN := Lib.hid (allStep HA.out (show (decide (k ≠ i) && T k && confAt (l.map LQ.val) i k && decide (mkN (f, c) &&& bmask B k ≠ 0)) = false by rw [htk]; simp))
          rw [htk] at HTC
          clear htk
          go_wp2
          refine wp_region_after (by kernel_rfl) (by kernel_rfl) ?_
          repeat (go_big_quiet_step ((first | (go_at_call 152; exact after_call (HC.out _)) | (go_at_call 153; exact after_call (maskOf_any _ _ _ (by omega) (by omega) (by omega))) | exact after_call (HTC.out _))))
          refine wpQuiet_nil ?_
          rintro _ ⟨xa, rfl⟩
          go_wp2
          go_roundw
          case rel => exact ⟨k + 1, by omega, by go_num, HN.out, fstep HF.out xa.h⟩
          case measure => simp [intOf]; omega
        · rw [htk] at HTC
          have HTK := Lib.hid htk
          clear htk
          obtain ⟨⟨bf, bc⟩, hbk, hgb⟩ := HT.out k hlt HKI.out HTK.out
          have hkb : k < B.length := by
            rcases Nat.lt_or_ge k B.length with h' | h'
            · exact h'
            · rw [List.getElem?_eq_none h'] at hbk; cases hbk
          have hkbz : (k : Int) < (B.length : Int) := by omega
          obtain ⟨b3, o3, bf', bc', hp3, hbk', d0, d1⟩ := (HB.out.keep HFW.out).at (k := k) hkb
          subst hp3
          rw [hbk] at hbk'
          simp only [Option.some.injEq, Prod.mk.injEq] at hbk'
          obtain ⟨rfl, rfl⟩ := hbk'
          have k0 := fun xa : After wr => akeep d0 xa
          have k1 := fun xa : After wr => akeep d1 xa
          have hbm := bmask_of hbk
          rw [if_pos (good_pos hgb)] at hbm
          simp only at hgb
          obtain ⟨t1, t2, t3⟩ := goodB_iff.1 hgb
          obtain ⟨u1, _, u3⟩ := mkN_ok hgb
          have hand := andn_i64 (mkN (f, c)) (mkN (bf, bc)) (lt63 e3) (lt63 u3)
          rw [← HE1.out, ← u1] at hand
          have HAND := Lib.hid hand
          have HBM := Lib.hid hbm
          clear hbk hbm hgb u1 hand d0 d1 hkb
          cases hcc : confB y.val x.val
          · have HN := Lib.hid (allStep HA.out (show (decide (k ≠ i) && T k && confAt (l.map LQ.val) i k && decide (mkN (f, c) &&& bmask B k ≠ 0)) = false by rw [HCF.out, hcc]; simp))
            rw [hcc] at HC
            clear hcc
            go_wp2
            refine wp_region_after (by kernel_rfl) (by kernel_rfl) ?_
            repeat (go_big_quiet_step ((first | (go_at_call 152; exact after_call (HC.out _)) | (go_at_call 153; exact after_call (maskOf_any _ _ _ (by omega) (by omega) (by omega))) | exact after_call (HTC.out _))))
            refine wpQuiet_nil ?_
            rintro _ ⟨xa, rfl⟩
            go_wp2
            go_roundw
            case rel => exact ⟨k + 1, by omega, by go_num, HN.out, fstep HF.out xa.h⟩
            case measure => simp [intOf]; omega
          · rw [hcc] at HC
            by_cases hz : mkN (f, c) &&& mkN (bf, bc) = 0
            · have HN := Lib.hid (allStep HA.out (show (decide (k ≠ i) && T k && confAt (l.map LQ.val) i k && decide (mkN (f, c) &&& bmask B k ≠ 0)) = false by rw [HBM.out, hz]; simp))
              have hbz : (bits BinOp.and IntKind.i64 (mkF f c) (mkF bf bc) != 0) = false := by rw [HAND.out, hz]; rfl
              clear hcc hz
              go_wp2
              refine wp_region_after (by kernel_rfl) (by kernel_rfl) ?_
              repeat (go_big_quiet_step ((first | (go_at_call 152; exact after_call (HC.out _)) | (go_at_call 153; exact after_call (maskOf_any _ _ _ (by omega) (by omega) (by omega))) | exact after_call (HTC.out _))))
              refine wpQuiet_nil ?_
              rintro _ ⟨xa, rfl⟩
              go_wp2
              go_roundw
              case rel => exact ⟨k + 1, by omega, by go_num, HN.out, fstep HF.out xa.h⟩
              case measure => simp [intOf]; omega
            · have HE := Lib.hid (freeB_bad (L := l.map LQ.val) (B := B) (i := i) (b := (f, c)) (T := T) (k := k) (by rw [HML.out]; exact HK.out) HKI.out HTK.out (by rw [HCF.out, hcc]) (by rw [HBM.out]; exact hz))
              have hbz : (bits BinOp.and IntKind.i64 (mkF f c) (mkF bf bc) != 0) = true := by rw [HAND.out, bne_iff_ne]; simp; exact hz
              clear hcc hz
              go_wp2
              refine wp_region_after (by kernel_rfl) (by kernel_rfl) ?_
              repeat (go_big_quiet_step ((first | (go_at_call 152; exact after_call (HC.out _)) | (go_at_call 153; exact after_call (maskOf_any _ _ _ (by omega) (by omega) (by omega))) | exact after_call (HTC.out _))))
              refine wpQuiet_nil ?_
              rintro _ ⟨xa, rfl⟩
              go_wp2
              go_ret
              exact ⟨ret_bool HE.out.symm, fstep HFW.out xa.h⟩
    · have hkn : k = l.length := by omega
      have hltz : ¬ (k : Int) < (l.length : Int) := by omega
      have HE := Lib.hid (freeB_all (L := l.map LQ.val) (B := B) (i := i) (b := (f, c)) (T := T) HML.out (by rw [← hkn]; exact HA.out))
      go_wp2
      go_ret
      exact ⟨ret_bool HE.out.symm, HFW.out⟩

set_option maxHeartbeats 1000000 in
theorem heightOf_any (pb : Option Addr) (cb : Nat) (B : List (Int × Int)) (w : World) (hB : Prs w pb B) (hg : ∀ b ∈ B, goodB b.1 b.2 = true) (hbn : B.length ≤ 1048576) :
    Calls Tryz.prog 84 #[.slice pb B.length cb] w fun e w' => e = .returned (.int .i64 (heightTo B)) ∧ Fresh w w' := by
  have HG := Lib.hid hg
  have HB := Lib.hid hB
  clear hg hB
  go_enter Tryz.func84, Tryz.ntmps84
  go_wp2
  go_loopw [3, 8] (fun a j wr => ∃ k : Nat, k ≤ B.length ∧ j = .int .i64 k ∧ a = .int .i64 (heightTo (B.take k)) ∧ Fresh w wr) (fun _ j _ => B.length - (intOf j).toNat)
  case atStart => exact ⟨0, Nat.zero_le _, rfl, rfl, frefl _⟩
  case round =>
    obtain ⟨k, hk, rfl, rfl, hf⟩ := hrel
    have HF := Lib.hid hf
    clear hf
    by_cases hlt : k < B.length
    · have hltz : (k : Int) < (B.length : Int) := by omega
      obtain ⟨b3, o3, f, c, hp3, hbk, d0, d1⟩ := (HB.out.keep HF.out).at hlt
      subst hp3
      obtain ⟨g1, g2, g3⟩ := goodB_iff.1 (HG.out _ (List.mem_of_getElem? hbk))
      have HST := Lib.hid (height_step hbk)
      obtain ⟨h1, h2⟩ := height_bd HG.out k
      obtain ⟨H, hH⟩ : ∃ H, H = heightTo (B.take k) := ⟨_, rfl⟩
      rw [← hH] at h1 h2 HST ⊢
      simp only at g1 g2 g3
      clear hbk hH
      go_wp2
      go_roundw
      case rel => exact ⟨k + 1, by omega, by go_num, by first | (rw [HST.out]; done) | (rw [HST.out]; congr 1; rw [Int.max_def]; split <;> split <;> omega), fnew HF.out _⟩
      case measure => simp [intOf]; omega
    · have hkn : k = B.length := by omega
      have hltz : ¬ (k : Int) < (B.length : Int) := by omega
      subst hkn
      go_wp2
      go_ret
      exact ⟨by simp, HF.out⟩

end Go.Proofs.YtmpdljcihiidaaaGreat

/- Contracts: CheckAssignment, the program's side. -/
namespace Go.Proofs.YtmpdljcihiidaaaGreat
open Go.RowKit Go.PlainAid

theorem asgB_end {L : List ((Int × List Int) × Int)} {B : List (Int × Int)} (hl : B.length = L.length) (h : ∀ i, i < L.length → (fitAt L B i && freeB L B i (B.getD i (0, 0)) fun k => decide (k < i)) = true) : asgB L B = true := by
  unfold asgB; rw [decide_eq_true hl, rall_end h]; rfl
theorem asgB_bad {L : List ((Int × List Int) × Int)} {B : List (Int × Int)} {k : Nat} (hk : k < L.length) (h : (fitAt L B k && freeB L B k (B.getD k (0, 0)) fun j => decide (j < k)) = false) : asgB L B = false := by
  unfold asgB; rw [rall_bad hk h, Bool.and_false]
theorem fitAt_of {L : List ((Int × List Int) × Int)} {B : List (Int × Int)} {k : Nat} {b : Int × Int} {x : (Int × List Int) × Int} (h1 : B[k]? = some b) (h2 : L[k]? = some x) : fitAt L B k = (goodB b.1 b.2 && decide (b.2 = x.2)) := by unfold fitAt; rw [h1, h2]

end Go.Proofs.YtmpdljcihiidaaaGreat

/- Plain laws: sets of requests of which every two conflict (no program in sight). -/
namespace Go.Proofs.YtmpdljcihiidaaaGreat
open Go.RowKit

abbrev RqT := (Int × List Int) × Int
/-- Bit k of a mask. -/
def bitB (m k : Nat) : Bool := decide (m / 2 ^ k % 2 = 1)
theorem bitB_cases (m k : Nat) : (bitB m k = true ∧ m / 2 ^ k % 2 = 1) ∨ (bitB m k = false ∧ m / 2 ^ k % 2 = 0) := by
  have : m / 2 ^ k % 2 < 2 := Nat.mod_lt _ (by omega)
  unfold bitB
  by_cases h : m / 2 ^ k % 2 = 1
  · exact Or.inl ⟨decide_eq_true h, h⟩
  · exact Or.inr ⟨decide_eq_false h, by omega⟩
theorem bitB_zero (k : Nat) : bitB 0 k = false := by unfold bitB; simp
/-- All of the first n requests of a set conflict with one. -/
def cqRow (L : List RqT) (m i : Nat) (n : Nat) : Bool := (List.range n).all fun k => !(bitB m k) || confAt L i k
def cqTo (L : List RqT) (m n : Nat) : Bool := (List.range n).all fun i => !(bitB m i) || cqRow L m i i
def cqB (L : List RqT) (m : Nat) : Bool := cqTo L m L.length
theorem cqRow_succ (L : List RqT) (m i n : Nat) : cqRow L m i (n + 1) = (cqRow L m i n && (!(bitB m n) || confAt L i n)) := by unfold cqRow; rw [List.range_succ, List.all_append]; simp
theorem cqTo_succ (L : List RqT) (m n : Nat) : cqTo L m (n + 1) = (cqTo L m n && (!(bitB m n) || cqRow L m n n)) := by unfold cqTo; rw [List.range_succ, List.all_append]; simp
theorem cqRow_bad {L : List RqT} {m i k n : Nat} (hk : k < n) (h1 : bitB m k = true) (h2 : confAt L i k = false) : cqRow L m i n = false := by
  unfold cqRow; rw [List.all_eq_false]; exact ⟨k, List.mem_range.2 hk, by simp [h1, h2]⟩
theorem cqTo_bad {L : List RqT} {m i n : Nat} (hi : i < n) (h1 : bitB m i = true) (h2 : cqRow L m i i = false) : cqTo L m n = false := by
  unfold cqTo; rw [List.all_eq_false]; exact ⟨i, List.mem_range.2 hi, by simp [h1, h2]⟩
theorem cqB_bad {L : List RqT} {m i k : Nat} (hi : i < L.length) (h1 : bitB m i = true) (hk : k < i) (h2 : bitB m k = true) (h3 : confAt L i k = false) : cqB L m = false := cqTo_bad hi h1 (cqRow_bad hk h2 h3)
theorem cqTo_ok {L : List RqT} {m n : Nat} (h : cqTo L m n = true) (h2 : bitB m n = false ∨ cqRow L m n n = true) : cqTo L m (n + 1) = true := by
  rw [cqTo_succ, h]; rcases h2 with h2 | h2 <;> simp [h2]
theorem cqRow_ok {L : List RqT} {m i n : Nat} (h : cqRow L m i n = true) (h2 : bitB m n = false ∨ confAt L i n = true) : cqRow L m i (n + 1) = true := by
  rw [cqRow_succ, h]; rcases h2 with h2 | h2 <;> simp [h2]
/-- The slots that the first n requests of a set want. -/
def cntOf (L : List RqT) (i : Nat) : Int := match L[i]? with | some x => x.2 | none => 0
theorem cntOf_of {L : List RqT} {i : Nat} {x : RqT} (h : L[i]? = some x) : cntOf L i = x.2 := by unfold cntOf; rw [h]
def sumTo (L : List RqT) (m : Nat) : Nat → Int
  | 0 => 0
  | n + 1 => if bitB m n = true then sumTo L m n + cntOf L n else sumTo L m n
theorem sumTo_yes {L : List RqT} {m n : Nat} (h : bitB m n = true) : sumTo L m (n + 1) = sumTo L m n + cntOf L n := by show (if _ then _ else _) = _; rw [if_pos h]
theorem sumTo_no {L : List RqT} {m n : Nat} (h : bitB m n = false) : sumTo L m (n + 1) = sumTo L m n := by show (if _ then _ else _) = _; rw [if_neg (by simp [h])]
def CntSm (L : List RqT) : Prop := ∀ x ∈ L, 0 ≤ x.2 ∧ x.2 ≤ 24
theorem cntOf_bd {L : List RqT} (h : CntSm L) (i : Nat) : 0 ≤ cntOf L i ∧ cntOf L i ≤ 24 := by
  unfold cntOf
  split
  · next x hx => exact h x (List.mem_of_getElem? hx)
  · omega
theorem sumTo_bd {L : List RqT} (h : CntSm L) (m n : Nat) : 0 ≤ sumTo L m n ∧ sumTo L m n ≤ 24 * n := by
  induction n with
  | zero => simp [sumTo]
  | succ n ih =>
    have := cntOf_bd h n
    cases hb : bitB m n
    · rw [sumTo_no hb]; omega
    · rw [sumTo_yes hb]; omega
def sumM (L : List RqT) (m : Nat) : Int := sumTo L m L.length
theorem sumM_zero (L : List RqT) : sumM L 0 = 0 := by
  unfold sumM
  generalize L.length = n
  induction n with
  | zero => rfl
  | succ n ih => rw [sumTo_no (bitB_zero n), ih]
def bdStep (L : List RqT) (acc : Int × Nat) (m : Nat) : Int × Nat := if acc.1 < sumM L m ∧ cqB L m = true then (sumM L m, m) else acc
def bdR (L : List RqT) (n : Nat) : Int × Nat := (List.range n).foldl (bdStep L) (0, 0)
theorem bdR_succ (L : List RqT) (n : Nat) : bdR L (n + 1) = bdStep L (bdR L n) n := by unfold bdR; rw [List.range_succ, List.foldl_append]; rfl
theorem bdR_one (L : List RqT) : bdR L 1 = (0, 0) := by
  rw [bdR_succ]; show bdStep L (0, 0) 0 = _
  unfold bdStep; rw [if_neg]; rw [sumM_zero]; simp
theorem bdR_bd {L : List RqT} (h : CntSm L) (n : Nat) : 0 ≤ (bdR L n).1 ∧ (bdR L n).1 ≤ 24 * L.length ∧ (bdR L n).2 ≤ n := by
  induction n with
  | zero => simp [bdR]; omega
  | succ n ih =>
    have := sumTo_bd h n L.length
    rw [bdR_succ]; unfold bdStep sumM
    split
    · simp only; omega
    · omega
/-- The numbers of a set's requests. -/
def idsTo (m n : Nat) : List Int := ((List.range n).filter fun k => bitB m k).map fun (k : Nat) => (k : Int)
theorem idsTo_yes {m n : Nat} (h : bitB m n = true) : idsTo m (n + 1) = idsTo m n ++ [(n : Int)] := by unfold idsTo; rw [List.range_succ, List.filter_append, List.map_append]; simp [h]
theorem idsTo_no {m n : Nat} (h : bitB m n = false) : idsTo m (n + 1) = idsTo m n := by unfold idsTo; rw [List.range_succ, List.filter_append, List.map_append]; simp [h]
theorem idsTo_len (m n : Nat) : (idsTo m n).length ≤ n := by
  unfold idsTo
  rw [List.length_map]
  exact Nat.le_trans (List.length_filter_le _ _) (by simp)
def cbF (n : Net) (L : List RqT) : Int × List Int × Bool := if reqsB n L = true then ((bdR L (2 ^ L.length)).1, idsTo (bdR L (2 ^ L.length)).2 L.length, true) else (0, [], false)
theorem reqs_cnt {n : Net} {L : List RqT} (h : reqsB n L = true) : CntSm L ∧ L.length ≤ 7 := by
  unfold reqsB at h
  simp only [Bool.and_eq_true, List.all_eq_true, decide_eq_true_eq] at h
  refine ⟨fun x hx => ?_, h.1.2⟩
  have := h.2 x hx
  unfold reqB at this
  rw [Bool.and_eq_true, inB_iff] at this
  omega
theorem pow7 {n : Nat} (h : n ≤ 7) : 2 ^ n ≤ 128 := Nat.le_trans (Nat.pow_le_pow_right (by omega) h) (by decide)
end Go.Proofs.YtmpdljcihiidaaaGreat

/- Contracts: sets of requests of which every two conflict, both sides. -/
namespace Go.Proofs.YtmpdljcihiidaaaGreat
open Go.RowKit Go.PlainAid

set_option maxHeartbeats 4000000 in
set_option maxRecDepth 100000 in
theorem l12Clique_any (p : Option Addr) (cap : Nat) (l : List LQ) (m : Nat) (w : World) (hl : Reqs w p l) (hs : ReqsSmall l) (hc : CntSm (l.map LQ.val)) (hm : m < 128) (h7 : l.length ≤ 7) :
    Calls Tryz.prog 144 #[.slice p l.length cap, .int .i64 (m : Int)] w fun e w' => e = .returned (.int .i64 (if cqB (l.map LQ.val) m = true then sumM (l.map LQ.val) m else -1)) ∧ Fresh w w' := by
  have h63 : m < 2 ^ 63 := Nat.lt_trans hm (by decide)
  have hn := hs.1
  obtain ⟨o, ho⟩ : ∃ o : Int, o = if cqB (l.map LQ.val) m = true then sumM (l.map LQ.val) m else -1 := ⟨_, rfl⟩
  have hlen : (l.map LQ.val).length = l.length := by simp
  have HLEN := Lib.hid hlen
  have HOY : Hid (cqTo (l.map LQ.val) m l.length = true → sumTo (l.map LQ.val) m l.length = o) := by
    intro h; rw [ho]; unfold cqB sumM; rw [hlen, if_pos h]
  have HON : Hid (cqB (l.map LQ.val) m = false → o = -1) := by
    intro h; rw [ho, if_neg (by simp [h])]
  rw [← ho]
  have HSM := Lib.hid hs
  have HL := Lib.hid hl
  have HC := Lib.hid hc
  clear hs hl hc ho hlen
  go_enter Tryz.func144, Tryz.ntmps144
  go_wp2
  go_loopw [5, 6] (fun a j wr => ∃ k : Nat, k ≤ l.length ∧ j = .int .i64 k ∧ a = .int .i64 (sumTo (l.map LQ.val) m k) ∧ cqTo (l.map LQ.val) m k = true ∧ Fresh w wr) (fun _ j _ => l.length - (intOf j).toNat)
  case atStart => exact ⟨0, Nat.zero_le _, rfl, rfl, rfl, frefl _⟩
  case round =>
    obtain ⟨wo, rfl⟩ : ∃ wo : World, wo = wr := ⟨_, rfl⟩
    obtain ⟨i, hi, rfl, rfl, hcq, hf⟩ := hrel
    have HCQ := Lib.hid hcq
    have HF := Lib.hid hf
    clear hcq hf
    by_cases hlt : i < l.length
    · have hltz : (i : Int) < (l.length : Int) := by omega
      obtain ⟨b1, o1, x, rfl, hx, hxm, hxi, c10, c11, c12⟩ := (HL.out.keep HF.out).at hlt
      have ht := and_one m i h63
      have hsb := sumTo_bd HC.out m i
      have hcb := cntOf_bd HC.out i
      have hce := cntOf_of (rq_at hx)
      have HXI := Lib.hid hxi
      have HXV := Lib.hid (rq_at hx)
      have hsx := HSM.out.2 x hxm
      clear hxi hx hxm
      rcases bitB_cases m i with ⟨hb, hbe⟩ | ⟨hb, hbe⟩
      · have HSY := Lib.hid (sumTo_yes (L := l.map LQ.val) hb)
        have HB := Lib.hid hb
        rw [hbe] at ht
        rw [hce] at hcb HSY
        simp only [LQ.val] at hcb
        obtain ⟨S, hS⟩ : ∃ S, S = sumTo (l.map LQ.val) m i := ⟨_, rfl⟩
        rw [← hS] at hsb HSY ⊢
        clear hS hce hb hbe
        go_wp2
        go_loopw [7] (fun j wr => ∃ k : Nat, k ≤ i ∧ j = .int .i64 k ∧ cqRow (l.map LQ.val) m i k = true ∧ Fresh w wr) (fun j _ => i - (intOf j).toNat)
        case atStart => exact ⟨0, Nat.zero_le _, rfl, rfl, HF.out⟩
        case round =>
          obtain ⟨k, hk, rfl, hrow, hf⟩ := hrel
          have HRW := Lib.hid hrow
          have HF2 := Lib.hid hf
          clear hrow hf c10 c11 c12
          by_cases hlt2 : k < i
          · have hkz : (k : Int) < (i : Int) := by omega
            have hkl : k < l.length := by omega
            have hklz : (k : Int) < (l.length : Int) := by omega
            obtain ⟨b2, o2, x', hp2, hx', hxm', hxi', d10, d11, d12⟩ := (HL.out.keep HF2.out).at hlt
            cases hp2
            obtain ⟨b3, o3, y, hp3, hy, hym, hyi, e10, e11, e12⟩ := (HL.out.keep HF2.out).at hkl
            cases hp3
            have ht2 := and_one m k h63
            have hcf := confAt_of (rq_at hx') (rq_at hy)
            have hsx' := HSM.out.2 x' hxm'
            have hsy := HSM.out.2 y hym
            have HC2 : Hid (∀ xa : After wr, Calls Tryz.prog 164 #[lqV x', lqV y] xa.w' fun e w' => e = .returned (.bool (confB x'.val y.val)) ∧ Fresh xa.w' w') :=
              fun xa => l12Conflict_any x' y xa.w' (hxi'.keep xa.h) (hyi.keep xa.h) hsx' hsy
            have HCF := Lib.hid hcf
            have i0 := fun xa : After wr => akeep d10 xa
            have i1 := fun xa : After wr => akeep d11 xa
            have i2 := fun xa : After wr => akeep d12 xa
            have j0 := fun xa : After wr => akeep e10 xa
            have j1 := fun xa : After wr => akeep e11 xa
            have j2 := fun xa : After wr => akeep e12 xa
            clear hx' hxm' hxi' hy hym hyi hcf
            rcases bitB_cases m k with ⟨hb2, hbe2⟩ | ⟨hb2, hbe2⟩
            · rw [hbe2] at ht2
              have HB2 := Lib.hid hb2
              clear hb2 hbe2
              cases hcc : confB x'.val y.val
              · have HE := Lib.hid (HON.out (cqB_bad (by rw [HLEN.out]; exact hlt) HB.out hlt2 HB2.out (by rw [HCF.out, hcc])))
                rw [hcc] at HC2
                clear hcc
                go_wp2
                refine wp_region_after (by kernel_rfl) (by kernel_rfl) ?_
                repeat (go_big_quiet_step ((go_at_call 164; exact after_call (HC2.out _))))
                refine wpQuiet_nil ?_
                rintro _ ⟨xa, rfl⟩
                go_wp2
                go_ret
                exact ⟨by rw [HE.out]; rfl, fstep HF2.out xa.h⟩
              · have HN := Lib.hid (cqRow_ok HRW.out (Or.inr (by rw [HCF.out, hcc])))
                rw [hcc] at HC2
                clear hcc
                go_wp2
                refine wp_region_after (by kernel_rfl) (by kernel_rfl) ?_
                repeat (go_big_quiet_step ((go_at_call 164; exact after_call (HC2.out _))))
                refine wpQuiet_nil ?_
                rintro _ ⟨xa, rfl⟩
                go_wp2
                go_roundw
                case rel => exact ⟨k + 1, by omega, by go_num, HN.out, fstep HF2.out xa.h⟩
                case measure => simp [intOf]; omega
            · rw [hbe2] at ht2
              have HN := Lib.hid (cqRow_ok HRW.out (Or.inl hb2))
              clear hb2 hbe2
              go_wp2
              refine wp_region_after (by kernel_rfl) (by kernel_rfl) ?_
              repeat (go_big_quiet_step ((go_at_call 164; exact after_call (HC2.out _))))
              refine wpQuiet_nil ?_
              rintro _ ⟨xa, rfl⟩
              go_wp2
              go_roundw
              case rel => exact ⟨k + 1, by omega, by go_num, HN.out, fstep HF2.out xa.h⟩
              case measure => simp [intOf]; omega
          · have hki : k = i := by omega
            subst hki
            have HCN := Lib.hid (cqTo_ok HCQ.out (Or.inr HRW.out))
            go_wp2
            go_roundw
            case rel => exact ⟨k + 1, by omega, by go_num, by rw [HSY.out], HCN.out, HF2.out⟩
            case measure => simp [intOf]; omega
      · have HSN := Lib.hid (sumTo_no (L := l.map LQ.val) hb)
        have HCN := Lib.hid (cqTo_ok HCQ.out (Or.inl hb))
        rw [hbe] at ht
        clear hce hb hbe
        go_wp2
        go_roundw
        case rel => exact ⟨i + 1, by omega, by go_num, by rw [HSN.out], HCN.out, HF.out⟩
        case measure => simp [intOf]; omega
    · have hk : i = l.length := by omega
      subst hk
      have HE := Lib.hid (HOY.out HCQ.out)
      go_wp2
      go_ret
      exact ⟨by rw [HE.out]; rfl, HF.out⟩
end Go.Proofs.YtmpdljcihiidaaaGreat

/- Contracts: the greatest set of requests of which every two conflict, the reference's side. -/
namespace Go.Proofs.YtmpdljcihiidaaaGreat
open Go.RowKit Go.PlainAid

set_option maxHeartbeats 4000000 in
set_option maxRecDepth 100000 in
theorem l12Bound_any (p : Option Addr) (cap : Nat) (l : List LQ) (w : World) (hl : Reqs w p l) (hs : ReqsSmall l) (hc : CntSm (l.map LQ.val)) (h7 : l.length ≤ 7) :
    Calls Tryz.prog 103 #[.slice p l.length cap] w fun e w' => e = .returned (.tuple #[.int .i64 (bdR (l.map LQ.val) (2 ^ l.length)).1, .int .i64 ((bdR (l.map LQ.val) (2 ^ l.length)).2 : Int)]) ∧ Fresh w w' := by
  have hn := hs.1
  have hN := pow7 h7
  have hN1 : 1 ≤ 2 ^ l.length := Nat.one_le_two_pow
  obtain ⟨N, hNe⟩ : ∃ N : Nat, N = 2 ^ l.length := ⟨_, rfl⟩
  have hpow : (2 : Int) ^ l.length = (N : Int) := by rw [hNe, Int.natCast_pow]; rfl
  rw [← hNe] at hN hN1 ⊢
  have hlen : (l.map LQ.val).length = l.length := by simp
  have HLEN := Lib.hid hlen
  have HSM := Lib.hid hs
  have HL := Lib.hid hl
  have HC := Lib.hid hc
  clear hs hl hc hlen hNe
  go_enter Tryz.func103, Tryz.ntmps103
  go_wp2
  go_loopw [4, 5, 6] (fun a b j wr => ∃ m : Nat, 1 ≤ m ∧ m ≤ N ∧ j = .int .i64 m ∧ a = .int .i64 (bdR (l.map LQ.val) m).1 ∧ b = .int .i64 ((bdR (l.map LQ.val) m).2 : Int) ∧ Fresh w wr) (fun _ _ j _ => N - (intOf j).toNat)
  case atStart => exact ⟨1, by omega, hN1, rfl, by rw [bdR_one], by rw [bdR_one]; rfl, frefl _⟩
  case round =>
    obtain ⟨m, hm1, hm, rfl, rfl, rfl, hf⟩ := hrel
    obtain ⟨hb0, hb1, hb2⟩ := bdR_bd HC.out m
    rw [HLEN.out] at hb1
    have HF := Lib.hid hf
    clear hf
    by_cases hlt : m < N
    · have hltz : (m : Int) < (N : Int) := by omega
      have HST := Lib.hid (bdR_succ (l.map LQ.val) m)
      have HCL := Lib.hid (l12Clique_any p cap l m _ (HL.out.keep HF.out) HSM.out HC.out (by omega) h7)
      have hsb := sumTo_bd HC.out m (l.map LQ.val).length
      rw [HLEN.out] at hsb
      obtain ⟨A, hA⟩ : ∃ A, A = bdR (l.map LQ.val) m := ⟨_, rfl⟩
      obtain ⟨S, hS⟩ : ∃ S, S = sumM (l.map LQ.val) m := ⟨_, rfl⟩
      have hSe : S = sumTo (l.map LQ.val) m l.length := by rw [hS]; unfold sumM; rw [HLEN.out]
      rw [← hSe] at hsb
      have hstep : bdR (l.map LQ.val) (m + 1) = if A.1 < S ∧ cqB (l.map LQ.val) m = true then (S, m) else A := by rw [HST.out, hA, hS]; rfl
      have HSTEP := Lib.hid hstep
      have HCL2 : Hid (Calls Tryz.prog 144 #[.slice p l.length cap, .int .i64 (m : Int)] wr fun e w' => e = .returned (.int .i64 (if cqB (l.map LQ.val) m = true then S else -1)) ∧ Fresh wr w') := by rw [hS]; exact HCL.out
      rw [← hA] at hb0 hb1 hb2 ⊢
      obtain ⟨a1, a2⟩ := A
      clear hA hS hSe hstep HST HCL
      simp only at hb0 hb1 hb2 HSTEP ⊢
      cases hcq : cqB (l.map LQ.val) m
      · rw [hcq] at HCL2 HSTEP
        rw [if_neg (by simp)] at HCL2
        rw [if_neg (by simp)] at HSTEP
        clear hcq
        go_wp2_with fail
        refine (HCL2.out).mono ?_
        rintro e w1 ⟨rfl, hb⟩
        have HF1 := Lib.hid (fstep HF.out hb)
        clear hb
        go_wp2
        go_roundw
        case rel => exact ⟨m + 1, by omega, by omega, by go_num, by rw [HSTEP.out], by rw [HSTEP.out], HF1.out⟩
        case measure => simp [intOf]; omega
      · rw [hcq] at HCL2 HSTEP
        rw [if_pos rfl] at HCL2
        clear hcq
        by_cases hgt : a1 < S
        · rw [if_pos ⟨hgt, rfl⟩] at HSTEP
          go_wp2_with fail
          refine (HCL2.out).mono ?_
          rintro e w1 ⟨rfl, hb⟩
          have HF1 := Lib.hid (fstep HF.out hb)
          clear hb
          go_wp2
          go_roundw
          case rel => exact ⟨m + 1, by omega, by omega, by go_num, by rw [HSTEP.out], by rw [HSTEP.out], HF1.out⟩
          case measure => simp [intOf]; omega
        · rw [if_neg (fun h => hgt h.1)] at HSTEP
          go_wp2_with fail
          refine (HCL2.out).mono ?_
          rintro e w1 ⟨rfl, hb⟩
          have HF1 := Lib.hid (fstep HF.out hb)
          clear hb
          go_wp2
          go_roundw
          case rel => exact ⟨m + 1, by omega, by omega, by go_num, by rw [HSTEP.out], by rw [HSTEP.out], HF1.out⟩
          case measure => simp [intOf]; omega
    · have hmN : m = N := by omega
      subst hmN
      go_wp2
      go_ret2
      exact ⟨rfl, HF.out⟩

/-- What CliqueBound hands back. -/
def OutCb (w : World) (r : Int × List Int × Bool) (e : Ending) (w' : World) : Prop := ∃ p c, e = .returned (.tuple #[.int .i64 r.1, .slice p r.2.1.length c, .bool r.2.2]) ∧ Own w' w.heap.size 3 p (r.2.1.map iv) ∧ Fresh w w'

end Go.Proofs.YtmpdljcihiidaaaGreat

/- Contracts: the greatest set of requests of which every two conflict, the program's side. -/
namespace Go.Proofs.YtmpdljcihiidaaaGreat
open Go.RowKit Go.PlainAid

set_option maxHeartbeats 4000000 in
set_option maxRecDepth 100000 in
theorem isClique_any (p : Option Addr) (cap : Nat) (l : List LQ) (m : Nat) (w : World) (hl : Reqs w p l) (hs : ReqsSmall l) (hm : m < 128) (h7 : l.length ≤ 7) :
    Calls Tryz.prog 111 #[.slice p l.length cap, .int .i64 (m : Int)] w fun e w' => e = .returned (.bool (cqB (l.map LQ.val) m)) ∧ Fresh w w' := by
  have h63 : m < 2 ^ 63 := Nat.lt_trans hm (by decide)
  have hn := hs.1
  obtain ⟨o, ho⟩ : ∃ o : Bool, o = cqB (l.map LQ.val) m := ⟨_, rfl⟩
  have hlen : (l.map LQ.val).length = l.length := by simp
  have HLEN := Lib.hid hlen
  have HOY : Hid (cqTo (l.map LQ.val) m l.length = true → o = true) := by
    intro h; rw [ho]; unfold cqB; rw [hlen, h]
  have HON : Hid (cqB (l.map LQ.val) m = false → o = false) := by
    intro h; rw [ho, h]
  rw [← ho]
  have HSM := Lib.hid hs
  have HL := Lib.hid hl
  clear hs hl ho hlen
  go_enter Tryz.func111, Tryz.ntmps111
  go_wp2
  go_loopw [9] (fun j wr => ∃ k : Nat, k ≤ l.length ∧ j = .int .i64 k ∧ cqTo (l.map LQ.val) m k = true ∧ Fresh w wr) (fun j _ => l.length - (intOf j).toNat)
  case atStart => exact ⟨0, Nat.zero_le _, rfl, rfl, frefl _⟩
  case round =>
    obtain ⟨wo, rfl⟩ : ∃ wo : World, wo = wr := ⟨_, rfl⟩
    obtain ⟨i, hi, rfl, hcq, hf⟩ := hrel
    have HCQ := Lib.hid hcq
    have HF := Lib.hid hf
    clear hcq hf
    by_cases hlt : i < l.length
    · have hltz : (i : Int) < (l.length : Int) := by omega
      have ht := and_one m i h63
      obtain ⟨tb, htb⟩ : ∃ tb : Nat, tb = m / 2 ^ i % 2 := ⟨_, rfl⟩
      rw [← htb] at ht
      have HBI : Hid ((bitB m i = true ∧ tb = 1) ∨ (bitB m i = false ∧ tb = 0)) := by rw [htb]; exact bitB_cases m i
      clear htb
      go_wp2
      go_loopw [13] (fun j wr => ∃ k : Nat, k ≤ i ∧ j = .int .i64 k ∧ (bitB m i = true → cqRow (l.map LQ.val) m i k = true) ∧ Fresh w wr) (fun j _ => i - (intOf j).toNat)
      case atStart => exact ⟨0, Nat.zero_le _, rfl, fun _ => rfl, HF.out⟩
      case round =>
        obtain ⟨k, hk, rfl, hrow, hf⟩ := hrel
        have HRW := Lib.hid hrow
        have HF2 := Lib.hid hf
        clear hrow hf
        by_cases hlt2 : k < i
        · have hkz : (k : Int) < (i : Int) := by omega
          have hkl : k < l.length := by omega
          have hklz : (k : Int) < (l.length : Int) := by omega
          obtain ⟨b2, o2, x', rfl, hx', hxm', hxi', d10, d11, d12⟩ := (HL.out.keep HF2.out).at hlt
          obtain ⟨b3, o3, y, hp3, hy, hym, hyi, e10, e11, e12⟩ := (HL.out.keep HF2.out).at hkl
          cases hp3
          have ht2 := and_one m k h63
          have hcf := confAt_of (rq_at hx') (rq_at hy)
          have hsx' := HSM.out.2 x' hxm'
          have hsy := HSM.out.2 y hym
          have HC2 : Hid (∀ xa : After wr, Calls Tryz.prog 152 #[lqV x', lqV y] xa.w' fun e w' => e = .returned (.bool (confB x'.val y.val)) ∧ Fresh xa.w' w') :=
            fun xa => conflict_any x' y xa.w' (hxi'.keep xa.h) (hyi.keep xa.h) hsx' hsy
          have HCF := Lib.hid hcf
          have i0 := fun xa : After wr => akeep d10 xa
          have i1 := fun xa : After wr => akeep d11 xa
          have i2 := fun xa : After wr => akeep d12 xa
          have j0 := fun xa : After wr => akeep e10 xa
          have j1 := fun xa : After wr => akeep e11 xa
          have j2 := fun xa : After wr => akeep e12 xa
          clear hx' hxm' hxi' hy hym hyi hcf
          rcases HBI.out with ⟨hbi, rfl⟩ | ⟨hbi, rfl⟩
          · have HB := Lib.hid hbi
            clear hbi
            rcases bitB_cases m k with ⟨hb2, hbe2⟩ | ⟨hb2, hbe2⟩
            · rw [hbe2] at ht2
              have HB2 := Lib.hid hb2
              clear hb2 hbe2
              cases hcc : confB x'.val y.val
              · have HE := Lib.hid (HON.out (cqB_bad (by rw [HLEN.out]; exact hlt) HB.out hlt2 HB2.out (by rw [HCF.out, hcc])))
                rw [hcc] at HC2
                clear hcc
                go_wp2
                refine wp_region_after (by kernel_rfl) (by kernel_rfl) ?_
                repeat (go_big_quiet_step ((go_at_call 152; exact after_call (HC2.out _))))
                refine wpQuiet_nil ?_
                rintro _ ⟨xa, rfl⟩
                go_wp2
                go_ret
                exact ⟨by rw [HE.out]; rfl, fstep HF2.out xa.h⟩
              · have HN := Lib.hid (cqRow_ok (HRW.out HB.out) (Or.inr (by rw [HCF.out, hcc])))
                rw [hcc] at HC2
                clear hcc
                go_wp2
                refine wp_region_after (by kernel_rfl) (by kernel_rfl) ?_
                repeat (go_big_quiet_step ((go_at_call 152; exact after_call (HC2.out _))))
                refine wpQuiet_nil ?_
                rintro _ ⟨xa, rfl⟩
                go_wp2
                go_roundw
                case rel => exact ⟨k + 1, by omega, by go_num, fun _ => HN.out, fstep HF2.out xa.h⟩
                case measure => simp [intOf]; omega
            · rw [hbe2] at ht2
              have HN := Lib.hid (cqRow_ok (HRW.out HB.out) (Or.inl hb2))
              clear hb2 hbe2
              go_wp2
              refine wp_region_after (by kernel_rfl) (by kernel_rfl) ?_
              repeat (go_big_quiet_step ((go_at_call 152; exact after_call (HC2.out _))))
              refine wpQuiet_nil ?_
              rintro _ ⟨xa, rfl⟩
              go_wp2
              go_roundw
              case rel => exact ⟨k + 1, by omega, by go_num, fun _ => HN.out, fstep HF2.out xa.h⟩
              case measure => simp [intOf]; omega
          · have HB := Lib.hid hbi
            clear hbi
            go_wp2
            refine wp_region_after (by kernel_rfl) (by kernel_rfl) ?_
            repeat (go_big_quiet_step ((go_at_call 152; exact after_call (HC2.out _))))
            refine wpQuiet_nil ?_
            rintro _ ⟨xa, rfl⟩
            go_wp2
            go_roundw
            case rel => exact ⟨k + 1, by omega, by go_num, (fun h => by rw [HB.out] at h; cases h), fstep HF2.out xa.h⟩
            case measure => simp [intOf]; omega
        · have hki : k = i := by omega
          subst hki
          have HCN : Hid (cqTo (l.map LQ.val) m (k + 1) = true) := by
            refine cqTo_ok HCQ.out ?_
            cases hb : bitB m k
            · exact Or.inl rfl
            · exact Or.inr (HRW.out hb)
          go_wp2
          go_roundw
          case rel => exact ⟨k + 1, by omega, by go_num, HCN.out, HF2.out⟩
          case measure => simp [intOf]; omega
    · have hk : i = l.length := by omega
      subst hk
      have HE := Lib.hid (HOY.out HCQ.out)
      go_wp2
      go_ret
      exact ⟨by rw [HE.out]; rfl, HF.out⟩

set_option maxHeartbeats 4000000 in
set_option maxRecDepth 100000 in
theorem cliqueBound_any (p : Option Addr) (cap : Nat) (l : List LQ) (w : World) (hl : Reqs w p l) (hs : ReqsSmall l) (hc : CntSm (l.map LQ.val)) (h7 : l.length ≤ 7) :
    Calls Tryz.prog 62 #[.slice p l.length cap] w fun e w' => e = .returned (.tuple #[.int .i64 (bdR (l.map LQ.val) (2 ^ l.length)).1, .int .i64 ((bdR (l.map LQ.val) (2 ^ l.length)).2 : Int)]) ∧ Fresh w w' := by
  have hn := hs.1
  have hN := pow7 h7
  have hN1 : 1 ≤ 2 ^ l.length := Nat.one_le_two_pow
  obtain ⟨N, hNe⟩ : ∃ N : Nat, N = 2 ^ l.length := ⟨_, rfl⟩
  have hpow : (2 : Int) ^ l.length = (N : Int) := by rw [hNe, Int.natCast_pow]; rfl
  rw [← hNe] at hN hN1 ⊢
  have hlen : (l.map LQ.val).length = l.length := by simp
  have HLEN := Lib.hid hlen
  have HSM := Lib.hid hs
  have HL := Lib.hid hl
  have HC := Lib.hid hc
  clear hs hl hc hlen hNe
  go_enter Tryz.func62, Tryz.ntmps62
  go_wp2
  go_loopw [4, 5, 13] (fun a b j wr => ∃ m : Nat, m ≤ N ∧ j = .int .i64 m ∧ a = .int .i64 (bdR (l.map LQ.val) m).1 ∧ b = .int .i64 ((bdR (l.map LQ.val) m).2 : Int) ∧ Fresh w wr) (fun _ _ j _ => N - (intOf j).toNat)
  case atStart => exact ⟨0, by omega, rfl, rfl, rfl, frefl _⟩
  case round =>
    obtain ⟨wo, rfl⟩ : ∃ wo : World, wo = wr := ⟨_, rfl⟩
    obtain ⟨m, hm, rfl, rfl, rfl, hf⟩ := hrel
    obtain ⟨hb0, hb1, hb2⟩ := bdR_bd HC.out m
    rw [HLEN.out] at hb1
    have HF := Lib.hid hf
    clear hf
    by_cases hlt : m < N
    · have hltz : (m : Int) < (N : Int) := by omega
      have h63 : m < 2 ^ 63 := Nat.lt_of_lt_of_le hlt (Nat.le_trans hN (by decide))
      have HST := Lib.hid (bdR_succ (l.map LQ.val) m)
      have HQ : Hid (∀ w', Fresh w w' → Calls Tryz.prog 111 #[.slice p l.length cap, .int .i64 (m : Int)] w' fun e w2 => e = .returned (.bool (cqB (l.map LQ.val) m)) ∧ Fresh w' w2) :=
        fun w' hf' => isClique_any p cap l m w' (HL.out.keep hf') HSM.out (by omega) h7
      obtain ⟨A, hA⟩ : ∃ A, A = bdR (l.map LQ.val) m := ⟨_, rfl⟩
      have hstep : bdR (l.map LQ.val) (m + 1) = if A.1 < sumTo (l.map LQ.val) m l.length ∧ cqB (l.map LQ.val) m = true then (sumTo (l.map LQ.val) m l.length, m) else A := by
        rw [HST.out, hA]; unfold bdStep sumM; rw [HLEN.out]
      have HSTEP := Lib.hid hstep
      rw [← hA] at hb0 hb1 hb2 ⊢
      obtain ⟨a1, a2⟩ := A
      clear hA hstep HST
      simp only at hb0 hb1 hb2 HSTEP ⊢
      go_wp2
      go_loopw [7, 18] (fun a j wr => ∃ k : Nat, k ≤ l.length ∧ j = .int .i64 k ∧ a = .int .i64 (sumTo (l.map LQ.val) m k) ∧ Fresh w wr) (fun _ j _ => l.length - (intOf j).toNat)
      case atStart => exact ⟨0, by omega, rfl, rfl, HF.out⟩
      case round =>
        obtain ⟨i, hi, rfl, rfl, hf⟩ := hrel
        have HF2 := Lib.hid hf
        have hsb := sumTo_bd HC.out m i
        clear hf
        by_cases hlt2 : i < l.length
        · have hltz2 : (i : Int) < (l.length : Int) := by omega
          obtain ⟨b1, o1, x, rfl, hx, hxm, hxi, c10, c11, c12⟩ := (HL.out.keep HF2.out).at hlt2
          have ht := and_one m i h63
          have hcb := cntOf_bd HC.out i
          have hce := cntOf_of (rq_at hx)
          rw [hce] at hcb
          simp only [LQ.val] at hcb
          have HXV := Lib.hid hce
          clear hx hxm hxi hce
          rcases bitB_cases m i with ⟨hb, hbe⟩ | ⟨hb, hbe⟩
          · have HSY := Lib.hid (sumTo_yes (L := l.map LQ.val) hb)
            rw [hbe] at ht
            rw [HXV.out] at HSY
            obtain ⟨S, hS⟩ : ∃ S, S = sumTo (l.map LQ.val) m i := ⟨_, rfl⟩
            rw [← hS] at hsb HSY ⊢
            clear hS hb hbe
            go_wp2
            go_roundw
            case rel => exact ⟨i + 1, by omega, by go_num, by rw [HSY.out], fnew HF2.out _⟩
            case measure => simp [intOf]; omega
          · have HSN := Lib.hid (sumTo_no (L := l.map LQ.val) hb)
            rw [hbe] at ht
            clear hb hbe
            go_wp2
            go_roundw
            case rel => exact ⟨i + 1, by omega, by go_num, by rw [HSN.out], fnew HF2.out _⟩
            case measure => simp [intOf]; omega
        · have hil : i = l.length := by omega
          subst hil
          obtain ⟨S, hS⟩ : ∃ S, S = sumTo (l.map LQ.val) m l.length := ⟨_, rfl⟩
          rw [← hS] at hsb HSTEP ⊢
          clear hS
          by_cases hgt : a1 < S
          · cases hcq : cqB (l.map LQ.val) m
            · rw [hcq] at HQ HSTEP
              rw [if_neg (by simp)] at HSTEP
              clear hcq
              go_wp2_with fail
              refine (HQ.out _ HF2.out).mono ?_
              rintro e w2 ⟨rfl, hb⟩
              have HF4 := Lib.hid (fstep HF2.out hb)
              clear hb
              go_wp2
              go_roundw
              case rel => exact ⟨m + 1, by omega, by go_num, by rw [HSTEP.out], by rw [HSTEP.out], HF4.out⟩
              case measure => simp [intOf]; omega
            · rw [hcq] at HQ HSTEP
              rw [if_pos ⟨hgt, rfl⟩] at HSTEP
              clear hcq
              go_wp2_with fail
              refine (HQ.out _ HF2.out).mono ?_
              rintro e w2 ⟨rfl, hb⟩
              have HF4 := Lib.hid (fstep HF2.out hb)
              clear hb
              go_wp2
              go_roundw
              case rel => exact ⟨m + 1, by omega, by go_num, by rw [HSTEP.out], by rw [HSTEP.out], HF4.out⟩
              case measure => simp [intOf]; omega
          · rw [if_neg (fun h => hgt h.1)] at HSTEP
            go_wp2
            go_roundw
            case rel => exact ⟨m + 1, by omega, by go_num, by rw [HSTEP.out], by rw [HSTEP.out], HF2.out⟩
            case measure => simp [intOf]; omega
    · have hmN : m = N := by omega
      subst hmN
      go_wp2
      go_ret2
      exact ⟨rfl, HF.out⟩
theorem cbF_len (n : Net) (L : List RqT) : (cbF n L).2.1.length ≤ 1048576 := by
  unfold cbF
  split
  · next h => exact Nat.le_trans (idsTo_len _ _) (Nat.le_trans (reqs_cnt h).2 (by omega))
  · simp
end Go.Proofs.YtmpdljcihiidaaaGreat

