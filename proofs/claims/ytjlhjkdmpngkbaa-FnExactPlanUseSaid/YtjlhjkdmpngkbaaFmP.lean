/- Plain laws: masks of fibers (no program in sight). -/
import Derived.Test.YtjlhjkdmpngkbaaPv3
import Derived.Test.YtjlhjkdmpngkbaaBits
namespace Go.Proofs.Ytjlhjkdmpngkbaa
open Go.RowKit

/-- The slots that lights occupy on a fiber. -/
def usedN (L : List LtV) (f : Int) : Nat := L.foldl (fun a x => if f ∈ x.2.1.2 then a ||| mkN x.2.2 else a) 0
theorem used_step {L : List LtV} {k : Nat} {x : LtV} (f : Int) (hx : L[k]? = some x) : usedN (L.take (k + 1)) f = if f ∈ x.2.1.2 then usedN (L.take k) f ||| mkN x.2.2 else usedN (L.take k) f := by
  unfold usedN; rw [List.take_add_one, hx]; simp
theorem used_snoc (L : List LtV) (x : LtV) (f : Int) : usedN (L ++ [x]) f = if f ∈ x.2.1.2 then usedN L f ||| mkN x.2.2 else usedN L f := by unfold usedN; simp
theorem snocInd {α : Type} {P : List α → Prop} (h0 : P []) (h1 : ∀ l a, P l → P (l ++ [a])) (l : List α) : P l := by
  have : ∀ l : List α, P l.reverse := by
    intro l
    induction l with
    | nil => exact h0
    | cons a l ih => rw [List.reverse_cons]; exact h1 _ _ ih
  have := this l.reverse
  rwa [List.reverse_reverse] at this
theorem used_lt {L : List LtV} (f : Int) (h : ∀ x ∈ L, goodB x.2.2.1 x.2.2.2 = true) : usedN L f < 16777216 := by
  revert h
  refine snocInd (P := fun L => (∀ x ∈ L, goodB x.2.2.1 x.2.2.2 = true) → usedN L f < 16777216) (fun _ => by simp [usedN]) ?_ L
  intro L a ih h
  have h1 := ih fun x hx => h x (List.mem_append_left _ hx)
  have h2 := (mkN_ok (h a (by simp))).2.2
  rw [used_snoc]
  split
  · exact or24 h1 h2
  · exact h1
/-- Masks laid fiber by fiber. -/
def tallyO (S : List Nat) (c : Nat) (fs : List Int) : List Nat := fs.foldl (fun S i => S.set i.toNat (S.getD i.toNat 0 ||| c)) S
theorem tallyO_step {S : List Nat} {c : Nat} {fs : List Int} {k : Nat} {i : Int} (hx : fs[k]? = some i) : tallyO S c (fs.take (k + 1)) = (tallyO S c (fs.take k)).set i.toNat ((tallyO S c (fs.take k)).getD i.toNat 0 ||| c) := by
  unfold tallyO; rw [List.take_add_one, hx]; simp
theorem tallyO_len (S : List Nat) (c : Nat) (fs : List Int) : (tallyO S c fs).length = S.length := by
  induction fs generalizing S with
  | nil => rfl
  | cons a fs ih => unfold tallyO at *; rw [List.foldl_cons, ih]; simp
def masksR (m : Nat) (L : List LtV) : List Nat := L.foldl (fun S x => tallyO S (mkN x.2.2) x.2.1.2) (List.replicate m 0)
theorem masks_step {m : Nat} {L : List LtV} {k : Nat} {x : LtV} (hx : L[k]? = some x) : masksR m (L.take (k + 1)) = tallyO (masksR m (L.take k)) (mkN x.2.2) x.2.1.2 := by
  unfold masksR; rw [List.take_add_one, hx]; simp
theorem masks_snoc (m : Nat) (L : List LtV) (x : LtV) : masksR m (L ++ [x]) = tallyO (masksR m L) (mkN x.2.2) x.2.1.2 := by unfold masksR; simp
theorem masks_len (m : Nat) (L : List LtV) : (masksR m L).length = m := by
  refine snocInd (P := fun L => (masksR m L).length = m) (by simp [masksR]) ?_ L
  intro L a ih; rw [masks_snoc, tallyO_len, ih]
theorem getDO_set (S : List Nat) (i j v : Nat) (hi : i < S.length) : (S.set i v).getD j 0 = if i = j then v else S.getD j 0 := by
  simp only [List.getD_eq_getElem?_getD, List.getElem?_set]
  split
  · simp [hi]
  · rfl
theorem tallyO_val (c : Nat) (fs : List Int) : ∀ (S : List Nat), fs.Nodup → (∀ i ∈ fs, 0 ≤ i ∧ i < S.length) → ∀ f : Nat, (tallyO S c fs).getD f 0 = if (f : Int) ∈ fs then S.getD f 0 ||| c else S.getD f 0 := by
  induction fs with
  | nil => intro S _ _ f; simp [tallyO]
  | cons a fs ih =>
    intro S hn hr f
    have ha := hr a List.mem_cons_self
    have e : tallyO S c (a :: fs) = tallyO (S.set a.toNat (S.getD a.toNat 0 ||| c)) c fs := rfl
    rw [List.nodup_cons] at hn
    rw [e, ih _ hn.2 (fun i hi => by rw [List.length_set]; exact hr i (List.mem_cons_of_mem _ hi)), getDO_set _ _ _ _ (by omega)]
    by_cases hf : a.toNat = f
    · have h1 : (f : Int) = a := by omega
      have h2 : ¬ (f : Int) ∈ fs := by rw [h1]; exact hn.1
      rw [if_neg h2, if_pos hf, if_pos (by rw [h1]; exact List.mem_cons_self), hf]
    · have h1 : (f : Int) ≠ a := by omega
      rw [if_neg hf]
      by_cases h2 : (f : Int) ∈ fs
      · rw [if_pos h2, if_pos (List.mem_cons_of_mem _ h2)]
      · rw [if_neg h2, if_neg (by simp [h1, h2])]
theorem masks_val (m : Nat) (L : List LtV) (h : ∀ x ∈ L, x.2.1.2.Nodup ∧ ∀ i ∈ x.2.1.2, 0 ≤ i ∧ i < m) (f : Nat) : (masksR m L).getD f 0 = usedN L f := by
  revert h
  refine snocInd (P := fun L => (∀ x ∈ L, x.2.1.2.Nodup ∧ ∀ i ∈ x.2.1.2, 0 ≤ i ∧ i < (m : Int)) → (masksR m L).getD f 0 = usedN L f) ?_ ?_ L
  · intro _; simp [masksR, usedN, List.getD_eq_getElem?_getD, List.getElem?_replicate]; split <;> rfl
  · intro L a ih h
    have ha := h a (by simp)
    rw [masks_snoc, tallyO_val _ _ _ ha.1 (by rw [masks_len]; exact ha.2), used_snoc, ih fun x hx => h x (List.mem_append_left _ hx)]
theorem tallyO_lt {S : List Nat} {c : Nat} {fs : List Int} (hc : c < 16777216) (hS : ∀ j : Nat, S.getD j 0 < 16777216) : ∀ j : Nat, (tallyO S c fs).getD j 0 < 16777216 := by
  refine snocInd (P := fun fs => ∀ j : Nat, (tallyO S c fs).getD j 0 < 16777216) (fun j => by simpa [tallyO] using hS j) ?_ fs
  intro fs a ih j
  have e : tallyO S c (fs ++ [a]) = (tallyO S c fs).set a.toNat ((tallyO S c fs).getD a.toNat 0 ||| c) := by unfold tallyO; simp
  rw [e]
  by_cases hl : a.toNat < (tallyO S c fs).length
  · rw [getDO_set _ _ _ _ hl]; split
    · exact or24 (ih _) hc
    · exact ih _
  · rw [List.set_eq_of_length_le (by omega)]; exact ih _
theorem masks_lt {m : Nat} {L : List LtV} (h : ∀ x ∈ L, goodB x.2.2.1 x.2.2.2 = true) : ∀ j : Nat, (masksR m L).getD j 0 < 16777216 := by
  revert h
  refine snocInd (P := fun L => (∀ x ∈ L, goodB x.2.2.1 x.2.2.2 = true) → ∀ j : Nat, (masksR m L).getD j 0 < 16777216) ?_ ?_ L
  · intro _ j; simp [masksR, List.getD_eq_getElem?_getD, List.getElem?_replicate]; split <;> simp
  · intro L a ih h
    rw [masks_snoc]
    exact tallyO_lt (mkN_ok (h a (by simp))).2.2 (ih fun x hx => h x (List.mem_append_left _ hx))
/-- A route that can be walked uses no fiber twice. -/
theorem walk_nodupF {F : List Fib} {s : Int} {l : List Int} : ∀ {k : Nat} {out : List Int}, k ≤ l.length → walkR F s (l.take k) = some out →
    (l.take k).Nodup ∧ ∀ i ∈ l.take k, 0 ≤ i ∧ i < F.length ∧ ∃ f, F[i.toNat]? = some f ∧ f.a ∈ out ∧ f.b ∈ out := by
  intro k
  induction k with
  | zero => intro out _ _; simp
  | succ k ih =>
    intro out hk h
    have hlen := walk_len hk h
    cases ho : walkR F s (l.take k) with
    | none =>
      have : walkR F s (l.take (k + 1)) = none := by
        have := walk_dead (F := F) (s := s) (l := l.take (k + 1)) (k := k) (by rw [List.take_take, Nat.min_eq_left (by omega)]; exact ho)
        exact this
      rw [this] at h; cases h
    | some o =>
      have hlo := walk_len (k := k) (by omega) ho
      obtain ⟨hnd, hal⟩ := ih (by omega) ho
      have hx : l[k]? = some l[k] := List.getElem?_eq_getElem (by omega)
      rw [walk_step ho hx] at h
      unfold stepR at h
      split at h
      · next hin =>
        split at h
        · next f hf =>
          split at h
          · cases h
          · next hb =>
            cases h
            obtain ⟨g1, g2⟩ := inB_iff.1 hin
            have hlast : lastI o ∈ o := by
              unfold lastI
              cases hg : o.getLast? with
              | none => rw [List.getLast?_eq_none_iff] at hg; subst hg; simp at hlo
              | some y => exact List.mem_of_getLast? hg
            have hoth : (lastI o = f.a ∧ other f (lastI o) = f.b) ∨ (lastI o = f.b ∧ other f (lastI o) = f.a) := by
              by_cases h1 : lastI o = f.a
              · exact Or.inl ⟨h1, by simp [other, h1]⟩
              · by_cases h2 : lastI o = f.b
                · exact Or.inr ⟨h2, by simp only [other, if_neg h1, if_pos h2]⟩
                · exfalso; apply hb; left; simp only [other, if_neg h1, if_neg h2]; omega
            have hnot : ¬ other f (lastI o) ∈ o := fun h => hb (Or.inr h)
            have hnew : ¬ l[k] ∈ l.take k := by
              intro hm
              obtain ⟨_, _, f', hf', ha, hb'⟩ := hal _ hm
              rw [hf] at hf'; cases hf'
              rcases hoth with ⟨_, e⟩ | ⟨_, e⟩ <;> rw [e] at hnot
              · exact hnot hb'
              · exact hnot ha
            rw [List.take_add_one, hx]
            refine ⟨?_, ?_⟩
            · rw [List.nodup_append]
              refine ⟨hnd, by simp, fun a ha b hb' => ?_⟩
              simp at hb'
              subst hb'
              intro e; subst e; exact hnew ha
            · intro i hi
              rw [List.mem_append] at hi
              rcases hi with hi | hi
              · obtain ⟨a1, a2, f', a3, a4, a5⟩ := hal i hi
                exact ⟨a1, a2, f', a3, List.mem_append_left _ a4, List.mem_append_left _ a5⟩
              · simp at hi
                subst hi
                refine ⟨g1, by omega, f, hf, ?_⟩
                rcases hoth with ⟨e1, e2⟩ | ⟨e1, e2⟩
                · exact ⟨by rw [← e1]; exact List.mem_append_left _ hlast, by rw [e2]; simp⟩
                · exact ⟨by rw [e2]; simp, by rw [← e1]; exact List.mem_append_left _ hlast⟩
        · cases h
      · cases h
theorem vis_nodupF {n : Net} {s : Int} {l : List Int} (h : isVis n s l = true) : l.Nodup ∧ ∀ i ∈ l, 0 ≤ i ∧ i < (n.fibers.length : Int) := by
  unfold isVis visR at h
  split at h
  · cases ho : walkR n.fibers s l with
    | none => rw [ho] at h; cases h
    | some o =>
      have := walk_nodupF (F := n.fibers) (s := s) (l := l) (k := l.length) (out := o) (Nat.le_refl _) (by rw [List.take_length]; exact ho)
      rw [List.take_length] at this
      exact ⟨this.1, fun i hi => ⟨(this.2 i hi).1, (this.2 i hi).2.1⟩⟩
  · cases h
theorem lt_route {n : Net} {x : LtV} (h : ltB n x = true) : x.2.1.2.Nodup ∧ ∀ i ∈ x.2.1.2, 0 ≤ i ∧ i < (n.fibers.length : Int) := by
  unfold ltB at h; simp only [Bool.and_eq_true] at h; exact vis_nodupF h.1.2
theorem masks_eq {P : PlanV} (h : planB P = true) : masksR P.net.fibers.length P.lights = (List.range P.net.fibers.length).map fun f : Nat => usedN P.lights f := by
  apply List.ext_getElem?
  intro j
  have hv := masks_val P.net.fibers.length P.lights (fun x hx => lt_route (planB_lt h x hx)) j
  have hl := masks_len P.net.fibers.length P.lights
  rcases Nat.lt_or_ge j P.net.fibers.length with hj | hj
  · rw [List.getD_eq_getElem?_getD, List.getElem?_eq_getElem (by omega)] at hv
    rw [List.getElem?_eq_getElem (by omega), List.getElem?_map, List.getElem?_range hj]
    simp only [Option.getD_some] at hv
    rw [hv]; rfl
  · rw [List.getElem?_eq_none (by omega), List.getElem?_eq_none (by simp; omega)]
/-- The slots that are occupied along fibers. -/
def alongN (L : List LtV) (fs : List Int) : Nat := fs.foldl (fun a i => a ||| usedN L i) 0
theorem along_step {L : List LtV} {fs : List Int} {k : Nat} {i : Int} (hx : fs[k]? = some i) : alongN L (fs.take (k + 1)) = alongN L (fs.take k) ||| usedN L i := by
  unfold alongN; rw [List.take_add_one, hx]; simp
theorem along_lt {L : List LtV} {fs : List Int} (h : ∀ x ∈ L, goodB x.2.2.1 x.2.2.2 = true) : alongN L fs < 16777216 := by
  refine snocInd (P := fun fs => alongN L fs < 16777216) (by simp [alongN]) ?_ fs
  intro fs a ih
  have e : alongN L (fs ++ [a]) = alongN L fs ||| usedN L a := by unfold alongN; simp
  rw [e]; exact or24 ih (used_lt a h)
def rmaskF (P : PlanV) (R : Int × List Int) : Int × Bool := if planB P = true ∧ isVis P.net R.1 R.2 = true then ((alongN P.lights R.2 : Int), true) else (0, false)
end Go.Proofs.Ytjlhjkdmpngkbaa
