/- Texts of mine laid together (FmP, Fm, AsgP, Asg, Asg2, Asg3, CqP, Cq, Cq2, Cb): contracts of functions and plain laws. -/
import Derived.Test.YtlapicgeokjpjaaU4
import Derived.Test.YtlapicgeokjpjaaU1
import Derived.Test.YtlapicgeokjpjaaU3
/- Plain laws: masks of fibers (no program in sight). -/
namespace Go.Proofs.Ytlapicgeokjpjaa
open Go.RowKit

/-- The slots that lights occupy on a fiber. -/
def usedN (L : List LtV) (f : Int) : Nat := L.foldl (fun a x => if f ∈ x.2.1.2 then a ||| mkN x.2.2 else a) 0
theorem used_step {L : List LtV} {k : Nat} {x : LtV} (f : Int) (hx : L[k]? = some x) : usedN (L.take (k + 1)) f = if f ∈ x.2.1.2 then usedN (L.take k) f ||| mkN x.2.2 else usedN (L.take k) f := by
  unfold usedN; rw [List.take_add_one, hx]; simp
theorem used_snoc (L : List LtV) (x : LtV) (f : Int) : usedN (L ++ [x]) f = if f ∈ x.2.1.2 then usedN L f ||| mkN x.2.2 else usedN L f := by unfold usedN; simp
theorem snocInd {α : Type} {P : List α → Prop} (h0 : P []) (h1 : ∀ l a, P l → P (l ++ [a])) (l : List α) : P l := by
  have : ∀ l : List α, P l.reverse := by
    intro l
    induction l with
    | nil => exact h0
    | cons a l ih => rw [List.reverse_cons]; exact h1 _ _ ih
  have := this l.reverse
  rwa [List.reverse_reverse] at this
theorem used_lt {L : List LtV} (f : Int) (h : ∀ x ∈ L, goodB x.2.2.1 x.2.2.2 = true) : usedN L f < 16777216 := by
  revert h
  refine snocInd (P := fun L => (∀ x ∈ L, goodB x.2.2.1 x.2.2.2 = true) → usedN L f < 16777216) (fun _ => by simp [usedN]) ?_ L
  intro L a ih h
  have h1 := ih fun x hx => h x (List.mem_append_left _ hx)
  have h2 := (mkN_ok (h a (by simp))).2.2
  rw [used_snoc]
  split
  · exact or24 h1 h2
  · exact h1
/-- Masks laid fiber by fiber. -/
def tallyO (S : List Nat) (c : Nat) (fs : List Int) : List Nat := fs.foldl (fun S i => S.set i.toNat (S.getD i.toNat 0 ||| c)) S
theorem tallyO_step {S : List Nat} {c : Nat} {fs : List Int} {k : Nat} {i : Int} (hx : fs[k]? = some i) : tallyO S c (fs.take (k + 1)) = (tallyO S c (fs.take k)).set i.toNat ((tallyO S c (fs.take k)).getD i.toNat 0 ||| c) := by
  unfold tallyO; rw [List.take_add_one, hx]; simp
theorem tallyO_len (S : List Nat) (c : Nat) (fs : List Int) : (tallyO S c fs).length = S.length := by
  induction fs generalizing S with
  | nil => rfl
  | cons a fs ih => unfold tallyO at *; rw [List.foldl_cons, ih]; simp
def masksR (m : Nat) (L : List LtV) : List Nat := L.foldl (fun S x => tallyO S (mkN x.2.2) x.2.1.2) (List.replicate m 0)
theorem masks_step {m : Nat} {L : List LtV} {k : Nat} {x : LtV} (hx : L[k]? = some x) : masksR m (L.take (k + 1)) = tallyO (masksR m (L.take k)) (mkN x.2.2) x.2.1.2 := by
  unfold masksR; rw [List.take_add_one, hx]; simp
theorem masks_snoc (m : Nat) (L : List LtV) (x : LtV) : masksR m (L ++ [x]) = tallyO (masksR m L) (mkN x.2.2) x.2.1.2 := by unfold masksR; simp
theorem masks_len (m : Nat) (L : List LtV) : (masksR m L).length = m := by
  refine snocInd (P := fun L => (masksR m L).length = m) (by simp [masksR]) ?_ L
  intro L a ih; rw [masks_snoc, tallyO_len, ih]
theorem getDO_set (S : List Nat) (i j v : Nat) (hi : i < S.length) : (S.set i v).getD j 0 = if i = j then v else S.getD j 0 := by
  simp only [List.getD_eq_getElem?_getD, List.getElem?_set]
  split
  · simp
  · rfl
theorem tallyO_val (c : Nat) (fs : List Int) : ∀ (S : List Nat), fs.Nodup → (∀ i ∈ fs, 0 ≤ i ∧ i < S.length) → ∀ f : Nat, (tallyO S c fs).getD f 0 = if (f : Int) ∈ fs then S.getD f 0 ||| c else S.getD f 0 := by
  induction fs with
  | nil => intro S _ _ f; simp [tallyO]
  | cons a fs ih =>
    intro S hn hr f
    have ha := hr a List.mem_cons_self
    have e : tallyO S c (a :: fs) = tallyO (S.set a.toNat (S.getD a.toNat 0 ||| c)) c fs := rfl
    rw [List.nodup_cons] at hn
    rw [e, ih _ hn.2 (fun i hi => by rw [List.length_set]; exact hr i (List.mem_cons_of_mem _ hi)), getDO_set _ _ _ _ (by omega)]
    by_cases hf : a.toNat = f
    · have h1 : (f : Int) = a := by omega
      have h2 : ¬ (f : Int) ∈ fs := by rw [h1]; exact hn.1
      rw [if_neg h2, if_pos hf, if_pos (by rw [h1]; exact List.mem_cons_self), hf]
    · have h1 : (f : Int) ≠ a := by omega
      rw [if_neg hf]
      by_cases h2 : (f : Int) ∈ fs
      · rw [if_pos h2, if_pos (List.mem_cons_of_mem _ h2)]
      · rw [if_neg h2, if_neg (by simp [h1, h2])]
theorem masks_val (m : Nat) (L : List LtV) (h : ∀ x ∈ L, x.2.1.2.Nodup ∧ ∀ i ∈ x.2.1.2, 0 ≤ i ∧ i < m) (f : Nat) : (masksR m L).getD f 0 = usedN L f := by
  revert h
  refine snocInd (P := fun L => (∀ x ∈ L, x.2.1.2.Nodup ∧ ∀ i ∈ x.2.1.2, 0 ≤ i ∧ i < (m : Int)) → (masksR m L).getD f 0 = usedN L f) ?_ ?_ L
  · intro _; simp [masksR, usedN, List.getD_eq_getElem?_getD, List.getElem?_replicate]; split <;> rfl
  · intro L a ih h
    have ha := h a (by simp)
    rw [masks_snoc, tallyO_val _ _ _ ha.1 (by rw [masks_len]; exact ha.2), used_snoc, ih fun x hx => h x (List.mem_append_left _ hx)]
theorem tallyO_lt {S : List Nat} {c : Nat} {fs : List Int} (hc : c < 16777216) (hS : ∀ j : Nat, S.getD j 0 < 16777216) : ∀ j : Nat, (tallyO S c fs).getD j 0 < 16777216 := by
  refine snocInd (P := fun fs => ∀ j : Nat, (tallyO S c fs).getD j 0 < 16777216) (fun j => by simpa [tallyO] using hS j) ?_ fs
  intro fs a ih j
  have e : tallyO S c (fs ++ [a]) = (tallyO S c fs).set a.toNat ((tallyO S c fs).getD a.toNat 0 ||| c) := by unfold tallyO; simp
  rw [e]
  by_cases hl : a.toNat < (tallyO S c fs).length
  · rw [getDO_set _ _ _ _ hl]; split
    · exact or24 (ih _) hc
    · exact ih _
  · rw [List.set_eq_of_length_le (by omega)]; exact ih _
theorem masks_lt {m : Nat} {L : List LtV} (h : ∀ x ∈ L, goodB x.2.2.1 x.2.2.2 = true) : ∀ j : Nat, (masksR m L).getD j 0 < 16777216 := by
  revert h
  refine snocInd (P := fun L => (∀ x ∈ L, goodB x.2.2.1 x.2.2.2 = true) → ∀ j : Nat, (masksR m L).getD j 0 < 16777216) ?_ ?_ L
  · intro _ j; simp [masksR, List.getD_eq_getElem?_getD, List.getElem?_replicate]; split <;> simp
  · intro L a ih h
    rw [masks_snoc]
    exact tallyO_lt (mkN_ok (h a (by simp))).2.2 (ih fun x hx => h x (List.mem_append_left _ hx))
/-- A route that can be walked uses no fiber twice. -/
theorem walk_nodupF {F : List Fib} {s : Int} {l : List Int} : ∀ {k : Nat} {out : List Int}, k ≤ l.length → walkR F s (l.take k) = some out →
    (l.take k).Nodup ∧ ∀ i ∈ l.take k, 0 ≤ i ∧ i < F.length ∧ ∃ f, F[i.toNat]? = some f ∧ f.a ∈ out ∧ f.b ∈ out := by
  intro k
  induction k with
  | zero => intro out _ _; simp
  | succ k ih =>
    intro out hk h
    have hlen := walk_len hk h
    cases ho : walkR F s (l.take k) with
    | none =>
      have : walkR F s (l.take (k + 1)) = none := by
        have := walk_dead (F := F) (s := s) (l := l.take (k + 1)) (k := k) (by rw [List.take_take, Nat.min_eq_left (by omega)]; exact ho)
        exact this
      rw [this] at h; cases h
    | some o =>
      have hlo := walk_len (k := k) (by omega) ho
      obtain ⟨hnd, hal⟩ := ih (by omega) ho
      have hx : l[k]? = some l[k] := List.getElem?_eq_getElem (by omega)
      rw [walk_step ho hx] at h
      unfold stepR at h
      split at h
      · next hin =>
        split at h
        · next f hf =>
          split at h
          · cases h
          · next hb =>
            cases h
            obtain ⟨g1, g2⟩ := inB_iff.1 hin
            have hlast : lastI o ∈ o := by
              unfold lastI
              cases hg : o.getLast? with
              | none => rw [List.getLast?_eq_none_iff] at hg; subst hg; simp at hlo
              | some y => exact List.mem_of_getLast? hg
            have hoth : (lastI o = f.a ∧ other f (lastI o) = f.b) ∨ (lastI o = f.b ∧ other f (lastI o) = f.a) := by
              by_cases h1 : lastI o = f.a
              · exact Or.inl ⟨h1, by simp [other, h1]⟩
              · by_cases h2 : lastI o = f.b
                · exact Or.inr ⟨h2, by simp only [other, if_neg h1, if_pos h2]⟩
                · exfalso; apply hb; left; simp only [other, if_neg h1, if_neg h2]; omega
            have hnot : ¬ other f (lastI o) ∈ o := fun h => hb (Or.inr h)
            have hnew : ¬ l[k] ∈ l.take k := by
              intro hm
              obtain ⟨_, _, f', hf', ha, hb'⟩ := hal _ hm
              rw [hf] at hf'; cases hf'
              rcases hoth with ⟨_, e⟩ | ⟨_, e⟩ <;> rw [e] at hnot
              · exact hnot hb'
              · exact hnot ha
            rw [List.take_add_one, hx]
            refine ⟨?_, ?_⟩
            · rw [List.nodup_append]
              refine ⟨hnd, by simp, fun a ha b hb' => ?_⟩
              simp at hb'
              subst hb'
              intro e; subst e; exact hnew ha
            · intro i hi
              rw [List.mem_append] at hi
              rcases hi with hi | hi
              · obtain ⟨a1, a2, f', a3, a4, a5⟩ := hal i hi
                exact ⟨a1, a2, f', a3, List.mem_append_left _ a4, List.mem_append_left _ a5⟩
              · simp at hi
                subst hi
                refine ⟨g1, by omega, f, hf, ?_⟩
                rcases hoth with ⟨e1, e2⟩ | ⟨e1, e2⟩
                · exact ⟨by rw [← e1]; exact List.mem_append_left _ hlast, by rw [e2]; simp⟩
                · exact ⟨by rw [e2]; simp, by rw [← e1]; exact List.mem_append_left _ hlast⟩
        · cases h
      · cases h
theorem vis_nodupF {n : Net} {s : Int} {l : List Int} (h : isVis n s l = true) : l.Nodup ∧ ∀ i ∈ l, 0 ≤ i ∧ i < (n.fibers.length : Int) := by
  unfold isVis visR at h
  split at h
  · cases ho : walkR n.fibers s l with
    | none => rw [ho] at h; cases h
    | some o =>
      have := walk_nodupF (F := n.fibers) (s := s) (l := l) (k := l.length) (out := o) (Nat.le_refl _) (by rw [List.take_length]; exact ho)
      rw [List.take_length] at this
      exact ⟨this.1, fun i hi => ⟨(this.2 i hi).1, (this.2 i hi).2.1⟩⟩
  · cases h
theorem lt_route {n : Net} {x : LtV} (h : ltB n x = true) : x.2.1.2.Nodup ∧ ∀ i ∈ x.2.1.2, 0 ≤ i ∧ i < (n.fibers.length : Int) := by
  unfold ltB at h; simp only [Bool.and_eq_true] at h; exact vis_nodupF h.1.2
theorem masks_eq {P : PlanV} (h : planB P = true) : masksR P.net.fibers.length P.lights = (List.range P.net.fibers.length).map fun f : Nat => usedN P.lights f := by
  apply List.ext_getElem?
  intro j
  have hv := masks_val P.net.fibers.length P.lights (fun x hx => lt_route (planB_lt h x hx)) j
  have hl := masks_len P.net.fibers.length P.lights
  rcases Nat.lt_or_ge j P.net.fibers.length with hj | hj
  · rw [List.getD_eq_getElem?_getD, List.getElem?_eq_getElem (by omega)] at hv
    rw [List.getElem?_eq_getElem (by omega), List.getElem?_map, List.getElem?_range hj]
    simp only [Option.getD_some] at hv
    rw [hv]; rfl
  · rw [List.getElem?_eq_none (by omega), List.getElem?_eq_none (by simp; omega)]
/-- The slots that are occupied along fibers. -/
def alongN (L : List LtV) (fs : List Int) : Nat := fs.foldl (fun a i => a ||| usedN L i) 0
theorem along_step {L : List LtV} {fs : List Int} {k : Nat} {i : Int} (hx : fs[k]? = some i) : alongN L (fs.take (k + 1)) = alongN L (fs.take k) ||| usedN L i := by
  unfold alongN; rw [List.take_add_one, hx]; simp
theorem along_lt {L : List LtV} {fs : List Int} (h : ∀ x ∈ L, goodB x.2.2.1 x.2.2.2 = true) : alongN L fs < 16777216 := by
  refine snocInd (P := fun fs => alongN L fs < 16777216) (by simp [alongN]) ?_ fs
  intro fs a ih
  have e : alongN L (fs ++ [a]) = alongN L fs ||| usedN L a := by unfold alongN; simp
  rw [e]; exact or24 ih (used_lt a h)
def rmaskF (P : PlanV) (R : Int × List Int) : Int × Bool := if planB P = true ∧ isVis P.net R.1 R.2 = true then ((alongN P.lights R.2 : Int), true) else (0, false)
end Go.Proofs.Ytlapicgeokjpjaa

/- Contracts: the slots occupied on fibers and along routes, both sides. -/
namespace Go.Proofs.Ytlapicgeokjpjaa
open Go.RowKit Go.PlainAid

end Go.Proofs.Ytlapicgeokjpjaa

/- Plain laws: assignments of blocks to requests (no program in sight). -/
namespace Go.Proofs.Ytlapicgeokjpjaa
open Go.RowKit

theorem uses_comm (a b : List Int) : usesB a b = usesB b a := by
  unfold usesB
  rw [Bool.eq_iff_iff, List.any_eq_true, List.any_eq_true]
  constructor
  · rintro ⟨x, hx, h⟩; exact ⟨x, by simpa using h, by simpa using hx⟩
  · rintro ⟨x, hx, h⟩; exact ⟨x, by simpa using h, by simpa using hx⟩
/-- Two requests conflict. -/
def confB (x y : (Int × List Int) × Int) : Bool := usesB x.1.2 y.1.2
theorem conf_comm (x y : (Int × List Int) × Int) : confB x y = confB y x := uses_comm _ _
/-- Request i and request k conflict. -/
def confAt (L : List ((Int × List Int) × Int)) (i k : Nat) : Bool := match L[i]?, L[k]? with | some x, some y => confB x y | _, _ => false
theorem confAt_comm (L : List ((Int × List Int) × Int)) (i k : Nat) : confAt L i k = confAt L k i := by
  unfold confAt
  cases L[i]? <;> cases L[k]? <;> simp [conf_comm]
theorem confAt_of {L : List ((Int × List Int) × Int)} {i k : Nat} {x y : (Int × List Int) × Int} (h : L[i]? = some x) (h2 : L[k]? = some y) : confAt L i k = confB x y := by unfold confAt; rw [h, h2]
/-- The mask of the block of a request (nothing where it has none). -/
def bmask (B : List (Int × Int)) (k : Nat) : Nat := match B[k]? with | some b => if 0 < b.2 then mkN b else 0 | none => 0
theorem bmask_of {B : List (Int × Int)} {k : Nat} {b : Int × Int} (h : B[k]? = some b) : bmask B k = if 0 < b.2 then mkN b else 0 := by unfold bmask; rw [h]
/-- The slots of the requests that conflict with one. -/
def takeStep (L : List ((Int × List Int) × Int)) (B : List (Int × Int)) (i : Nat) (a k : Nat) : Nat := if k ≠ i ∧ confAt L k i = true then a ||| bmask B k else a
def takenTo (L : List ((Int × List Int) × Int)) (B : List (Int × Int)) (i n : Nat) : Nat := (List.range n).foldl (takeStep L B i) 0
theorem takenTo_succ (L : List ((Int × List Int) × Int)) (B : List (Int × Int)) (i n : Nat) : takenTo L B i (n + 1) = takeStep L B i (takenTo L B i n) n := by unfold takenTo; rw [List.range_succ, List.foldl_append]; rfl
def BGood (B : List (Int × Int)) : Prop := ∀ b ∈ B, 0 < b.2 → goodB b.1 b.2 = true
theorem bmask_lt {B : List (Int × Int)} (h : BGood B) (k : Nat) : bmask B k < 16777216 := by
  unfold bmask
  split
  · next b hb =>
    split
    · next h2 => exact (mkN_ok (h b (List.mem_of_getElem? hb) h2)).2.2
    · omega
  · omega
theorem taken_lt {L : List ((Int × List Int) × Int)} {B : List (Int × Int)} (h : BGood B) (i n : Nat) : takenTo L B i n < 16777216 := by
  induction n with
  | zero => simp [takenTo]
  | succ n ih =>
    rw [takenTo_succ]; unfold takeStep
    split
    · exact or24 ih (bmask_lt h n)
    · exact ih
theorem taken_and (L : List ((Int × List Int) × Int)) (B : List (Int × Int)) (i m : Nat) : ∀ n, (takenTo L B i n &&& m = 0 ↔ ∀ k, k < n → k ≠ i → confAt L k i = true → bmask B k &&& m = 0) := by
  intro n
  induction n with
  | zero => simp [takenTo]
  | succ n ih =>
    rw [takenTo_succ]; unfold takeStep
    by_cases hc : n ≠ i ∧ confAt L n i = true
    · rw [if_pos hc, Nat.and_comm, Nat.and_or_distrib_left, Nat.or_eq_zero_iff, Nat.and_comm m, Nat.and_comm m, ih]
      constructor
      · rintro ⟨h1, h2⟩ k hk hki hck
        rcases Nat.lt_or_ge k n with h | h
        · exact h1 k h hki hck
        · have : k = n := by omega
          subst this; exact h2
      · intro h
        exact ⟨fun k hk => h k (by omega), h n (by omega) hc.1 hc.2⟩
    · rw [if_neg hc, ih]
      constructor
      · intro h k hk hki hck
        rcases Nat.lt_or_ge k n with h' | h'
        · exact h k h' hki hck
        · have : k = n := by omega
          subst this; exact absurd ⟨hki, hck⟩ hc
      · intro h k hk; exact h k (by omega)
/-- Block k is valid and fits its request. -/
def fitAt (L : List ((Int × List Int) × Int)) (B : List (Int × Int)) (k : Nat) : Bool := match B[k]?, L[k]? with | some b, some x => goodB b.1 b.2 && decide (b.2 = x.2) | _, _ => false
/-- No slot of a block is one of a treated request's that conflicts with request i. -/
def freeB (L : List ((Int × List Int) × Int)) (B : List (Int × Int)) (i : Nat) (b : Int × Int) (T : Nat → Bool) : Bool :=
  (List.range L.length).all fun k => !(decide (k ≠ i) && T k && confAt L i k && decide (mkN b &&& bmask B k ≠ 0))
def asgB (L : List ((Int × List Int) × Int)) (B : List (Int × Int)) : Bool :=
  decide (B.length = L.length) && (List.range L.length).all fun i => fitAt L B i && freeB L B i (B.getD i (0, 0)) fun k => decide (k < i)
theorem fit_good {L : List ((Int × List Int) × Int)} {B : List (Int × Int)} {k : Nat} (h : fitAt L B k = true) : ∃ b x, B[k]? = some b ∧ L[k]? = some x ∧ goodB b.1 b.2 = true ∧ b.2 = x.2 := by
  unfold fitAt at h
  cases hb : B[k]? with
  | none => rw [hb] at h; simp at h
  | some b =>
    cases hx : L[k]? with
    | none => rw [hb, hx] at h; simp at h
    | some x =>
      rw [hb, hx] at h
      simp only [Bool.and_eq_true, decide_eq_true_eq] at h
      exact ⟨b, x, rfl, rfl, h.1, h.2⟩
theorem good_pos {f c : Int} (h : goodB f c = true) : 0 < c := by obtain ⟨_, h2, _⟩ := goodB_iff.1 h; omega
/-- The reference's view: all blocks fit, and no block meets what the others have taken. -/
theorem asg_spec {L : List ((Int × List Int) × Int)} {B : List (Int × Int)} (hl : B.length = L.length) (hf : ∀ k, k < L.length → fitAt L B k = true) :
    asgB L B = true ↔ ∀ i, i < L.length → takenTo L B i L.length &&& bmask B i = 0 := by
  have hb : ∀ k, k < L.length → ∃ b, B[k]? = some b ∧ bmask B k = mkN b ∧ B.getD k (0, 0) = b := by
    intro k hk
    obtain ⟨b, x, h1, _, h3, _⟩ := fit_good (hf k hk)
    exact ⟨b, h1, by rw [bmask_of h1, if_pos (good_pos h3)], by rw [List.getD_eq_getElem?_getD, h1]; rfl⟩
  unfold asgB
  simp only [Bool.and_eq_true, decide_eq_true_eq, List.all_eq_true, List.mem_range, hl, true_and]
  constructor
  · intro h i hi
    rw [taken_and]
    intro k hk hki hc
    obtain ⟨bi, g1, g2, g3⟩ := hb i hi
    obtain ⟨bk, f1, f2, f3⟩ := hb k hk
    rcases Nat.lt_or_ge k i with hlt | hge
    · have h1 := (h i hi).2
      unfold freeB at h1
      rw [List.all_eq_true] at h1
      have h2 := h1 k (List.mem_range.2 hk)
      rw [g3] at h2
      rw [confAt_comm] at hc
      simp only [hc, hlt, decide_true, Bool.and_true, hki, ne_eq, not_false_eq_true, Bool.true_and, Bool.not_eq_true', decide_eq_false_iff_not, Decidable.not_not] at h2
      rw [g2, Nat.and_comm]; exact h2
    · have hlt : i < k := by omega
      have h1 := (h k hk).2
      unfold freeB at h1
      rw [List.all_eq_true] at h1
      have h2 := h1 i (List.mem_range.2 hi)
      rw [f3] at h2
      have hik : i ≠ k := by omega
      simp only [hc, hlt, decide_true, Bool.and_true, hik, ne_eq, not_false_eq_true, Bool.true_and, Bool.not_eq_true', decide_eq_false_iff_not, Decidable.not_not] at h2
      rw [f2]; exact h2
  · intro h i hi
    refine ⟨hf i hi, ?_⟩
    unfold freeB
    rw [List.all_eq_true]
    intro k hk
    rw [List.mem_range] at hk
    obtain ⟨bi, g1, g2, g3⟩ := hb i hi
    by_cases hki : k = i
    · simp [hki]
    · cases hc : confAt L i k
      · simp
      · have h1 := (taken_and L B i (bmask B i) L.length).1 (h i hi) k hk hki (by rw [confAt_comm]; exact hc)
        rw [g2, Nat.and_comm] at h1
        rw [g3]
        simp [h1]
theorem asg_good {L : List ((Int × List Int) × Int)} {B : List (Int × Int)} (h : asgB L B = true) : ∀ b ∈ B, goodB b.1 b.2 = true := by
  intro b hb
  unfold asgB at h
  simp only [Bool.and_eq_true, decide_eq_true_eq, List.all_eq_true, List.mem_range] at h
  obtain ⟨j, hj, rfl⟩ := List.getElem_of_mem hb
  obtain ⟨b', x', h1, _, h3, _⟩ := fit_good (h.2 j (by omega)).1
  rw [List.getElem?_eq_getElem hj] at h1
  cases h1; exact h3
/-- The height of blocks. -/
def heightTo (B : List (Int × Int)) : Int := B.foldl (fun a b => max a (b.1 + b.2)) 0
theorem height_step {B : List (Int × Int)} {k : Nat} {b : Int × Int} (h : B[k]? = some b) : heightTo (B.take (k + 1)) = max (heightTo (B.take k)) (b.1 + b.2) := by
  unfold heightTo; rw [List.take_add_one, h]; simp
def chkF (n : Net) (L : List ((Int × List Int) × Int)) (B : List (Int × Int)) : Int × Bool := if reqsB n L = true ∧ asgB L B = true then (heightTo B, true) else (0, false)
end Go.Proofs.Ytlapicgeokjpjaa

/- Contracts: assignments of blocks, the reference's side. -/
namespace Go.Proofs.Ytlapicgeokjpjaa
open Go.RowKit Go.PlainAid

theorem rq_at {l : List LQ} {k : Nat} {x : LQ} (hx : l[k]? = some x) : (l.map LQ.val)[k]? = some x.val := by simp [hx]
set_option maxHeartbeats 400000 in
theorem l1Most_k (a b : Int) (w : World) : Calls Try.prog 52 #[.int .i64 a, .int .i64 b] w fun e w' => e = .returned (.int .i64 (max a b)) ∧ w = w' := by
  by_cases h : b < a
  · have HE : Hid (max a b = a) := by show max a b = a; omega
    go_enter Try.func52, Try.ntmps52
    go_wp2
    go_ret
    exact ⟨ret_int HE.out.symm, rfl⟩
  · have HE : Hid (max a b = b) := by show max a b = b; omega
    go_enter Try.func52, Try.ntmps52
    go_wp2
    go_ret
    exact ⟨ret_int HE.out.symm, rfl⟩
theorem height_bd {B : List (Int × Int)} (h : ∀ b ∈ B, goodB b.1 b.2 = true) (k : Nat) : 0 ≤ heightTo (B.take k) ∧ heightTo (B.take k) ≤ 24 := by
  induction k with
  | zero => simp [heightTo]
  | succ k ih =>
    rcases Nat.lt_or_ge k B.length with hk | hk
    · have hb := List.getElem?_eq_getElem hk
      obtain ⟨h1, h2, h3⟩ := goodB_iff.1 (h _ (List.getElem_mem hk))
      rw [height_step hb]; omega
    · rw [List.take_of_length_le (by omega)]; rw [List.take_of_length_le (by omega)] at ih; exact ih
end Go.Proofs.Ytlapicgeokjpjaa

/- Contracts: assignments of blocks, the program's side. -/
namespace Go.Proofs.Ytlapicgeokjpjaa
open Go.RowKit Go.PlainAid

theorem freeB_bad {L : List ((Int × List Int) × Int)} {B : List (Int × Int)} {i : Nat} {b : Int × Int} {T : Nat → Bool} {k : Nat} (hk : k < L.length) (h1 : k ≠ i) (h2 : T k = true) (h3 : confAt L i k = true) (h4 : mkN b &&& bmask B k ≠ 0) : freeB L B i b T = false :=
  rall_bad hk (by simp [h1, h2, h3, h4])
theorem freeB_all {L : List ((Int × List Int) × Int)} {B : List (Int × Int)} {i : Nat} {b : Int × Int} {T : Nat → Bool} {n : Nat} (hn : L.length = n) (h : ∀ k, k < n → (decide (k ≠ i) && T k && confAt L i k && decide (mkN b &&& bmask B k ≠ 0)) = false) : freeB L B i b T = true := by
  unfold freeB; rw [hn]; exact rall_end fun k hk => by rw [h k hk]; rfl
theorem allStep {f : Nat → Bool} {k : Nat} (h : ∀ j, j < k → f j = false) (hk : f k = false) : ∀ j, j < k + 1 → f j = false := by
  intro j hj
  rcases Nat.lt_or_ge j k with h' | h'
  · exact h j h'
  · have : j = k := by omega
    subst this; exact hk

end Go.Proofs.Ytlapicgeokjpjaa

/- Contracts: CheckAssignment, the program's side. -/
namespace Go.Proofs.Ytlapicgeokjpjaa
open Go.RowKit Go.PlainAid

theorem asgB_end {L : List ((Int × List Int) × Int)} {B : List (Int × Int)} (hl : B.length = L.length) (h : ∀ i, i < L.length → (fitAt L B i && freeB L B i (B.getD i (0, 0)) fun k => decide (k < i)) = true) : asgB L B = true := by
  unfold asgB; rw [decide_eq_true hl, rall_end h]; rfl
theorem asgB_bad {L : List ((Int × List Int) × Int)} {B : List (Int × Int)} {k : Nat} (hk : k < L.length) (h : (fitAt L B k && freeB L B k (B.getD k (0, 0)) fun j => decide (j < k)) = false) : asgB L B = false := by
  unfold asgB; rw [rall_bad hk h, Bool.and_false]
theorem fitAt_of {L : List ((Int × List Int) × Int)} {B : List (Int × Int)} {k : Nat} {b : Int × Int} {x : (Int × List Int) × Int} (h1 : B[k]? = some b) (h2 : L[k]? = some x) : fitAt L B k = (goodB b.1 b.2 && decide (b.2 = x.2)) := by unfold fitAt; rw [h1, h2]

end Go.Proofs.Ytlapicgeokjpjaa

/- Plain laws: sets of requests of which every two conflict (no program in sight). -/
namespace Go.Proofs.Ytlapicgeokjpjaa
open Go.RowKit

abbrev RqT := (Int × List Int) × Int
/-- Bit k of a mask. -/
def bitB (m k : Nat) : Bool := decide (m / 2 ^ k % 2 = 1)
theorem bitB_cases (m k : Nat) : (bitB m k = true ∧ m / 2 ^ k % 2 = 1) ∨ (bitB m k = false ∧ m / 2 ^ k % 2 = 0) := by
  have : m / 2 ^ k % 2 < 2 := Nat.mod_lt _ (by omega)
  unfold bitB
  by_cases h : m / 2 ^ k % 2 = 1
  · exact Or.inl ⟨decide_eq_true h, h⟩
  · exact Or.inr ⟨decide_eq_false h, by omega⟩
theorem bitB_zero (k : Nat) : bitB 0 k = false := by unfold bitB; simp
/-- All of the first n requests of a set conflict with one. -/
def cqRow (L : List RqT) (m i : Nat) (n : Nat) : Bool := (List.range n).all fun k => !(bitB m k) || confAt L i k
def cqTo (L : List RqT) (m n : Nat) : Bool := (List.range n).all fun i => !(bitB m i) || cqRow L m i i
def cqB (L : List RqT) (m : Nat) : Bool := cqTo L m L.length
theorem cqRow_succ (L : List RqT) (m i n : Nat) : cqRow L m i (n + 1) = (cqRow L m i n && (!(bitB m n) || confAt L i n)) := by unfold cqRow; rw [List.range_succ, List.all_append]; simp
theorem cqTo_succ (L : List RqT) (m n : Nat) : cqTo L m (n + 1) = (cqTo L m n && (!(bitB m n) || cqRow L m n n)) := by unfold cqTo; rw [List.range_succ, List.all_append]; simp
theorem cqRow_bad {L : List RqT} {m i k n : Nat} (hk : k < n) (h1 : bitB m k = true) (h2 : confAt L i k = false) : cqRow L m i n = false := by
  unfold cqRow; rw [List.all_eq_false]; exact ⟨k, List.mem_range.2 hk, by simp [h1, h2]⟩
theorem cqTo_bad {L : List RqT} {m i n : Nat} (hi : i < n) (h1 : bitB m i = true) (h2 : cqRow L m i i = false) : cqTo L m n = false := by
  unfold cqTo; rw [List.all_eq_false]; exact ⟨i, List.mem_range.2 hi, by simp [h1, h2]⟩
theorem cqB_bad {L : List RqT} {m i k : Nat} (hi : i < L.length) (h1 : bitB m i = true) (hk : k < i) (h2 : bitB m k = true) (h3 : confAt L i k = false) : cqB L m = false := cqTo_bad hi h1 (cqRow_bad hk h2 h3)
theorem cqTo_ok {L : List RqT} {m n : Nat} (h : cqTo L m n = true) (h2 : bitB m n = false ∨ cqRow L m n n = true) : cqTo L m (n + 1) = true := by
  rw [cqTo_succ, h]; rcases h2 with h2 | h2 <;> simp [h2]
theorem cqRow_ok {L : List RqT} {m i n : Nat} (h : cqRow L m i n = true) (h2 : bitB m n = false ∨ confAt L i n = true) : cqRow L m i (n + 1) = true := by
  rw [cqRow_succ, h]; rcases h2 with h2 | h2 <;> simp [h2]
/-- The slots that the first n requests of a set want. -/
def cntOf (L : List RqT) (i : Nat) : Int := match L[i]? with | some x => x.2 | none => 0
theorem cntOf_of {L : List RqT} {i : Nat} {x : RqT} (h : L[i]? = some x) : cntOf L i = x.2 := by unfold cntOf; rw [h]
def sumTo (L : List RqT) (m : Nat) : Nat → Int
  | 0 => 0
  | n + 1 => if bitB m n = true then sumTo L m n + cntOf L n else sumTo L m n
theorem sumTo_yes {L : List RqT} {m n : Nat} (h : bitB m n = true) : sumTo L m (n + 1) = sumTo L m n + cntOf L n := by show (if _ then _ else _) = _; rw [if_pos h]
theorem sumTo_no {L : List RqT} {m n : Nat} (h : bitB m n = false) : sumTo L m (n + 1) = sumTo L m n := by show (if _ then _ else _) = _; rw [if_neg (by simp [h])]
def CntSm (L : List RqT) : Prop := ∀ x ∈ L, 0 ≤ x.2 ∧ x.2 ≤ 24
theorem cntOf_bd {L : List RqT} (h : CntSm L) (i : Nat) : 0 ≤ cntOf L i ∧ cntOf L i ≤ 24 := by
  unfold cntOf
  split
  · next x hx => exact h x (List.mem_of_getElem? hx)
  · omega
theorem sumTo_bd {L : List RqT} (h : CntSm L) (m n : Nat) : 0 ≤ sumTo L m n ∧ sumTo L m n ≤ 24 * n := by
  induction n with
  | zero => simp [sumTo]
  | succ n ih =>
    have := cntOf_bd h n
    cases hb : bitB m n
    · rw [sumTo_no hb]; omega
    · rw [sumTo_yes hb]; omega
def sumM (L : List RqT) (m : Nat) : Int := sumTo L m L.length
theorem sumM_zero (L : List RqT) : sumM L 0 = 0 := by
  unfold sumM
  generalize L.length = n
  induction n with
  | zero => rfl
  | succ n ih => rw [sumTo_no (bitB_zero n), ih]
def bdStep (L : List RqT) (acc : Int × Nat) (m : Nat) : Int × Nat := if acc.1 < sumM L m ∧ cqB L m = true then (sumM L m, m) else acc
def bdR (L : List RqT) (n : Nat) : Int × Nat := (List.range n).foldl (bdStep L) (0, 0)
theorem bdR_succ (L : List RqT) (n : Nat) : bdR L (n + 1) = bdStep L (bdR L n) n := by unfold bdR; rw [List.range_succ, List.foldl_append]; rfl
theorem bdR_one (L : List RqT) : bdR L 1 = (0, 0) := by
  rw [bdR_succ]; show bdStep L (0, 0) 0 = _
  unfold bdStep; rw [if_neg]; rw [sumM_zero]; simp
theorem bdR_bd {L : List RqT} (h : CntSm L) (n : Nat) : 0 ≤ (bdR L n).1 ∧ (bdR L n).1 ≤ 24 * L.length ∧ (bdR L n).2 ≤ n := by
  induction n with
  | zero => simp [bdR]; omega
  | succ n ih =>
    have := sumTo_bd h n L.length
    rw [bdR_succ]; unfold bdStep sumM
    split
    · simp only; omega
    · omega
/-- The numbers of a set's requests. -/
def idsTo (m n : Nat) : List Int := ((List.range n).filter fun k => bitB m k).map fun (k : Nat) => (k : Int)
theorem idsTo_yes {m n : Nat} (h : bitB m n = true) : idsTo m (n + 1) = idsTo m n ++ [(n : Int)] := by unfold idsTo; rw [List.range_succ, List.filter_append, List.map_append]; simp [h]
theorem idsTo_no {m n : Nat} (h : bitB m n = false) : idsTo m (n + 1) = idsTo m n := by unfold idsTo; rw [List.range_succ, List.filter_append, List.map_append]; simp [h]
theorem idsTo_len (m n : Nat) : (idsTo m n).length ≤ n := by
  unfold idsTo
  rw [List.length_map]
  exact Nat.le_trans (List.length_filter_le _ _) (by simp)
def cbF (n : Net) (L : List RqT) : Int × List Int × Bool := if reqsB n L = true then ((bdR L (2 ^ L.length)).1, idsTo (bdR L (2 ^ L.length)).2 L.length, true) else (0, [], false)
theorem reqs_cnt {n : Net} {L : List RqT} (h : reqsB n L = true) : CntSm L ∧ L.length ≤ 7 := by
  unfold reqsB at h
  simp only [Bool.and_eq_true, List.all_eq_true, decide_eq_true_eq] at h
  refine ⟨fun x hx => ?_, h.1.2⟩
  have := h.2 x hx
  unfold reqB at this
  rw [Bool.and_eq_true, inB_iff] at this
  omega
theorem pow7 {n : Nat} (h : n ≤ 7) : 2 ^ n ≤ 128 := Nat.le_trans (Nat.pow_le_pow_right (by omega) h) (by decide)
end Go.Proofs.Ytlapicgeokjpjaa

/- Contracts: sets of requests of which every two conflict, both sides. -/
namespace Go.Proofs.Ytlapicgeokjpjaa
open Go.RowKit Go.PlainAid

end Go.Proofs.Ytlapicgeokjpjaa

/- Contracts: the greatest set of requests of which every two conflict, the reference's side. -/
namespace Go.Proofs.Ytlapicgeokjpjaa
open Go.RowKit Go.PlainAid

/-- What CliqueBound hands back. -/
def OutCb (w : World) (r : Int × List Int × Bool) (e : Ending) (w' : World) : Prop := ∃ p c, e = .returned (.tuple #[.int .i64 r.1, .slice p r.2.1.length c, .bool r.2.2]) ∧ Own w' w.heap.size 3 p (r.2.1.map iv) ∧ Fresh w w'

end Go.Proofs.Ytlapicgeokjpjaa

/- Contracts: the greatest set of requests of which every two conflict, the program's side. -/
namespace Go.Proofs.Ytlapicgeokjpjaa
open Go.RowKit Go.PlainAid

theorem cbF_len (n : Net) (L : List RqT) : (cbF n L).2.1.length ≤ 1048576 := by
  unfold cbF
  split
  · next h => exact Nat.le_trans (idsTo_len _ _) (Nat.le_trans (reqs_cnt h).2 (by omega))
  · simp
end Go.Proofs.Ytlapicgeokjpjaa

