/- Texts of mine laid together (FbP, Fb, Fb2, Ln, Rm, Pu): contracts of functions and plain laws. -/
import Derived.Test.YtlapicgeokjpjaaU3
import Derived.StillTailTactics
import Derived.Test.YtlapicgeokjpjaaU4
import Derived.Test.YtlapicgeokjpjaaU5
import Derived.Test.YtlapicgeokjpjaaU1
/- Plain laws: the sums of slots on fibers (no program in sight). -/
namespace Go.Proofs.Ytlapicgeokjpjaa
open Go.RowKit

/-- A route as such, and its count. -/
abbrev RqV := (Int × List Int) × Int
/-- The slots that the requests want on a fiber. -/
def cntAt (L : List RqV) (f : Int) : Int := L.foldl (fun a x => if f ∈ x.1.2 then a + x.2 else a) 0
theorem cnt_step {L : List RqV} {k : Nat} {x : RqV} (f : Int) (hx : L[k]? = some x) : cntAt (L.take (k + 1)) f = if f ∈ x.1.2 then cntAt (L.take k) f + x.2 else cntAt (L.take k) f := by
  unfold cntAt; rw [List.take_add_one, hx]; simp
theorem cnt_snoc (L : List RqV) (x : RqV) (f : Int) : cntAt (L ++ [x]) f = if f ∈ x.1.2 then cntAt L f + x.2 else cntAt L f := by unfold cntAt; simp
theorem snoc_ind {α : Type} {P : List α → Prop} (h0 : P []) (h1 : ∀ l a, P l → P (l ++ [a])) (l : List α) : P l := by
  have : ∀ l : List α, P l.reverse := by
    intro l
    induction l with
    | nil => exact h0
    | cons a l ih => rw [List.reverse_cons]; exact h1 _ _ ih
  have := this l.reverse
  rwa [List.reverse_reverse] at this
theorem cnt_bd {L : List RqV} (f : Int) (h : ∀ x ∈ L, 0 ≤ x.2 ∧ x.2 ≤ 24) : 0 ≤ cntAt L f ∧ cntAt L f ≤ 24 * L.length := by
  revert h
  refine snoc_ind (P := fun L => (∀ x ∈ L, 0 ≤ x.2 ∧ x.2 ≤ 24) → 0 ≤ cntAt L f ∧ cntAt L f ≤ 24 * L.length) ?_ ?_ L
  · intro _; simp [cntAt]
  · intro L a ih h
    have h1 := ih fun x hx => h x (List.mem_append_left _ hx)
    have h2 := h a (by simp)
    rw [cnt_snoc, List.length_append, List.length_singleton]
    split <;> omega
/-- The greatest sum and the first fiber with it. -/
def fbStep (L : List RqV) (acc : Int × Int) (f : Nat) : Int × Int := if acc.1 < cntAt L f then (cntAt L f, (f : Int)) else acc
def fbR (L : List RqV) (m : Nat) : Int × Int := (List.range m).foldl (fbStep L) (0, 0)
theorem fbR_succ (L : List RqV) (m : Nat) : fbR L (m + 1) = fbStep L (fbR L m) m := by unfold fbR; rw [List.range_succ, List.foldl_append]; rfl
def fiberBoundF (n : Net) (L : List RqV) : Int × Int × Bool := if reqsB n L = true then ((fbR L n.fibers.length).1, (fbR L n.fibers.length).2, true) else (0, 0, false)

/-- Sums laid fiber by fiber. -/
def tallyR (S : List Int) (c : Int) (fs : List Int) : List Int := fs.foldl (fun S i => S.set i.toNat (S.getD i.toNat 0 + c)) S
theorem tally_step {S : List Int} {c : Int} {fs : List Int} {k : Nat} {i : Int} (hx : fs[k]? = some i) : tallyR S c (fs.take (k + 1)) = (tallyR S c (fs.take k)).set i.toNat ((tallyR S c (fs.take k)).getD i.toNat 0 + c) := by
  unfold tallyR; rw [List.take_add_one, hx]; simp
theorem tally_len (S : List Int) (c : Int) (fs : List Int) : (tallyR S c fs).length = S.length := by
  induction fs generalizing S with
  | nil => rfl
  | cons a fs ih => unfold tallyR at *; rw [List.foldl_cons, ih]; simp
def sumsR (m : Nat) (L : List RqV) : List Int := L.foldl (fun S x => tallyR S x.2 x.1.2) (List.replicate m 0)
theorem sums_step {m : Nat} {L : List RqV} {k : Nat} {x : RqV} (hx : L[k]? = some x) : sumsR m (L.take (k + 1)) = tallyR (sumsR m (L.take k)) x.2 x.1.2 := by
  unfold sumsR; rw [List.take_add_one, hx]; simp
theorem sums_snoc (m : Nat) (L : List RqV) (x : RqV) : sumsR m (L ++ [x]) = tallyR (sumsR m L) x.2 x.1.2 := by unfold sumsR; simp
theorem sums_len (m : Nat) (L : List RqV) : (sumsR m L).length = m := by
  refine snoc_ind (P := fun L => (sumsR m L).length = m) (by simp [sumsR]) ?_ L
  intro L a ih; rw [sums_snoc, tally_len, ih]
theorem getD_set (S : List Int) (i j : Nat) (v : Int) (hi : i < S.length) : (S.set i v).getD j 0 = if i = j then v else S.getD j 0 := by
  simp only [List.getD_eq_getElem?_getD, List.getElem?_set]
  split
  · simp
  · rfl
theorem tally_val (c : Int) (fs : List Int) : ∀ (S : List Int), fs.Nodup → (∀ i ∈ fs, 0 ≤ i ∧ i < S.length) → ∀ f : Nat, (tallyR S c fs).getD f 0 = if (f : Int) ∈ fs then S.getD f 0 + c else S.getD f 0 := by
  induction fs with
  | nil => intro S _ _ f; simp [tallyR]
  | cons a fs ih =>
    intro S hn hr f
    have ha := hr a List.mem_cons_self
    have e : tallyR S c (a :: fs) = tallyR (S.set a.toNat (S.getD a.toNat 0 + c)) c fs := rfl
    rw [List.nodup_cons] at hn
    rw [e, ih _ hn.2 (fun i hi => by rw [List.length_set]; exact hr i (List.mem_cons_of_mem _ hi)), getD_set _ _ _ _ (by omega)]
    by_cases hf : a.toNat = f
    · have h1 : (f : Int) = a := by omega
      have h2 : ¬ (f : Int) ∈ fs := by rw [h1]; exact hn.1
      rw [if_neg h2, if_pos hf, if_pos (by rw [h1]; exact List.mem_cons_self), hf]
    · have h1 : (f : Int) ≠ a := by omega
      rw [if_neg hf]
      by_cases h2 : (f : Int) ∈ fs
      · rw [if_pos h2, if_pos (List.mem_cons_of_mem _ h2)]
      · rw [if_neg h2, if_neg (by simp [h1, h2])]
theorem sums_val (m : Nat) (L : List RqV) (h : ∀ x ∈ L, x.1.2.Nodup ∧ ∀ i ∈ x.1.2, 0 ≤ i ∧ i < m) (f : Nat) : (sumsR m L).getD f 0 = cntAt L f := by
  revert h
  refine snoc_ind (P := fun L => (∀ x ∈ L, x.1.2.Nodup ∧ ∀ i ∈ x.1.2, 0 ≤ i ∧ i < (m : Int)) → (sumsR m L).getD f 0 = cntAt L f) ?_ ?_ L
  · intro _; simp [sumsR, cntAt, List.getD_eq_getElem?_getD, List.getElem?_replicate]; split <;> rfl
  · intro L a ih h
    have ha := h a (by simp)
    rw [sums_snoc, tally_val _ _ _ ha.1 (by rw [sums_len]; exact ha.2), cnt_snoc, ih fun x hx => h x (List.mem_append_left _ hx)]
/-- No entry outgrows what has been laid. -/
theorem tally_bd {S : List Int} {c B : Int} {fs : List Int} (hc : 0 ≤ c ∧ c ≤ 24) (_hB : 0 ≤ B) (hS : ∀ j : Nat, 0 ≤ S.getD j 0 ∧ S.getD j 0 ≤ B) : ∀ j : Nat, 0 ≤ (tallyR S c fs).getD j 0 ∧ (tallyR S c fs).getD j 0 ≤ B + 24 * fs.length := by
  refine snoc_ind (P := fun fs => ∀ j : Nat, 0 ≤ (tallyR S c fs).getD j 0 ∧ (tallyR S c fs).getD j 0 ≤ B + 24 * fs.length) ?_ ?_ fs
  · intro j; have := hS j; simp [tallyR]; simpa using this
  · intro fs a ih j
    have e : tallyR S c (fs ++ [a]) = (tallyR S c fs).set a.toNat ((tallyR S c fs).getD a.toNat 0 + c) := by unfold tallyR; simp
    have h1 := ih j
    have h2 := ih a.toNat
    rw [e, List.length_append, List.length_singleton]
    by_cases hl : a.toNat < (tallyR S c fs).length
    · rw [getD_set _ _ _ _ hl]; split <;> omega
    · rw [List.set_eq_of_length_le (by omega)]; omega
theorem sums_bd {m : Nat} {L : List RqV} (h : ∀ x ∈ L, (0 ≤ x.2 ∧ x.2 ≤ 24) ∧ x.1.2.length ≤ 1048576) : ∀ j : Nat, 0 ≤ (sumsR m L).getD j 0 ∧ (sumsR m L).getD j 0 ≤ 25165824 * L.length := by
  revert h
  refine snoc_ind (P := fun L => (∀ x ∈ L, (0 ≤ x.2 ∧ x.2 ≤ 24) ∧ x.1.2.length ≤ 1048576) → ∀ j : Nat, 0 ≤ (sumsR m L).getD j 0 ∧ (sumsR m L).getD j 0 ≤ 25165824 * L.length) ?_ ?_ L
  · intro _ j; simp [sumsR, List.getD_eq_getElem?_getD, List.getElem?_replicate]; split <;> simp
  · intro L a ih h j
    have ha := h a (by simp)
    have := tally_bd (S := sumsR m L) (c := a.2) (B := 25165824 * L.length) (fs := a.1.2) ha.1 (by omega) (fun j => ih (fun x hx => h x (List.mem_append_left _ hx)) j) j
    rw [sums_snoc, List.length_append, List.length_singleton]
    omega

/-- A route that can be walked uses no fiber twice. -/
theorem walk_nodup {F : List Fib} {s : Int} {l : List Int} : ∀ {k : Nat} {out : List Int}, k ≤ l.length → walkR F s (l.take k) = some out →
    (l.take k).Nodup ∧ ∀ i ∈ l.take k, 0 ≤ i ∧ i < F.length ∧ ∃ f, F[i.toNat]? = some f ∧ f.a ∈ out ∧ f.b ∈ out := by
  intro k
  induction k with
  | zero => intro out _ _; simp
  | succ k ih =>
    intro out hk h
    have hlen := walk_len hk h
    cases ho : walkR F s (l.take k) with
    | none =>
      have : walkR F s (l.take (k + 1)) = none := by
        have := walk_dead (F := F) (s := s) (l := l.take (k + 1)) (k := k) (by rw [List.take_take, Nat.min_eq_left (by omega)]; exact ho)
        exact this
      rw [this] at h; cases h
    | some o =>
      have hlo := walk_len (k := k) (by omega) ho
      obtain ⟨hnd, hal⟩ := ih (by omega) ho
      have hx : l[k]? = some l[k] := List.getElem?_eq_getElem (by omega)
      rw [walk_step ho hx] at h
      unfold stepR at h
      split at h
      · next hin =>
        split at h
        · next f hf =>
          split at h
          · cases h
          · next hb =>
            cases h
            obtain ⟨g1, g2⟩ := inB_iff.1 hin
            have hlast : lastI o ∈ o := by
              unfold lastI
              cases hg : o.getLast? with
              | none => rw [List.getLast?_eq_none_iff] at hg; subst hg; simp at hlo
              | some y => exact List.mem_of_getLast? hg
            have hoth : (lastI o = f.a ∧ other f (lastI o) = f.b) ∨ (lastI o = f.b ∧ other f (lastI o) = f.a) := by
              by_cases h1 : lastI o = f.a
              · exact Or.inl ⟨h1, by simp [other, h1]⟩
              · by_cases h2 : lastI o = f.b
                · exact Or.inr ⟨h2, by simp only [other, if_neg h1, if_pos h2]⟩
                · exfalso; apply hb; left; simp only [other, if_neg h1, if_neg h2]; omega
            have hnot : ¬ other f (lastI o) ∈ o := fun h => hb (Or.inr h)
            have hnew : ¬ l[k] ∈ l.take k := by
              intro hm
              obtain ⟨_, _, f', hf', ha, hb'⟩ := hal _ hm
              rw [hf] at hf'; cases hf'
              rcases hoth with ⟨_, e⟩ | ⟨_, e⟩ <;> rw [e] at hnot
              · exact hnot hb'
              · exact hnot ha
            rw [List.take_add_one, hx]
            refine ⟨?_, ?_⟩
            · rw [List.nodup_append]
              refine ⟨hnd, by simp, fun a ha b hb' => ?_⟩
              simp at hb'
              subst hb'
              intro e; subst e; exact hnew ha
            · intro i hi
              rw [List.mem_append] at hi
              rcases hi with hi | hi
              · obtain ⟨a1, a2, f', a3, a4, a5⟩ := hal i hi
                exact ⟨a1, a2, f', a3, List.mem_append_left _ a4, List.mem_append_left _ a5⟩
              · simp at hi
                subst hi
                refine ⟨g1, by omega, f, hf, ?_⟩
                rcases hoth with ⟨e1, e2⟩ | ⟨e1, e2⟩
                · exact ⟨by rw [← e1]; exact List.mem_append_left _ hlast, by rw [e2]; simp⟩
                · exact ⟨by rw [e2]; simp, by rw [← e1]; exact List.mem_append_left _ hlast⟩
        · cases h
      · cases h
theorem vis_nodup {n : Net} {s : Int} {l : List Int} (h : isVis n s l = true) : l.Nodup ∧ ∀ i ∈ l, 0 ≤ i ∧ i < (n.fibers.length : Int) := by
  unfold isVis visR at h
  split at h
  · cases ho : walkR n.fibers s l with
    | none => rw [ho] at h; cases h
    | some o =>
      have := walk_nodup (F := n.fibers) (s := s) (l := l) (k := l.length) (out := o) (Nat.le_refl _) (by rw [List.take_length]; exact ho)
      rw [List.take_length] at this
      exact ⟨this.1, fun i hi => ⟨(this.2 i hi).1, (this.2 i hi).2.1⟩⟩
  · cases h
theorem reqs_mem {n : Net} {L : List RqV} (h : reqsB n L = true) : ∀ x ∈ L, (1 ≤ x.2 ∧ x.2 ≤ 24) ∧ isVis n x.1.1 x.1.2 = true := by
  intro x hx
  unfold reqsB at h
  simp only [Bool.and_eq_true, List.all_eq_true, reqB] at h
  have := h.2 x hx
  exact ⟨inB_iff.1 this.2, this.1⟩

/-- The greatest of numbers. -/
def maxL (l : List Int) : Int := l.tail.foldl max (l.headD 0)
theorem max_step {l : List Int} {k : Nat} {x : Int} (h0 : 0 < k) (hx : l[k]? = some x) : maxL (l.take (k + 1)) = max (maxL (l.take k)) x := by
  cases l with
  | nil => simp at hx
  | cons a l =>
    obtain ⟨k, rfl⟩ : ∃ j, k = j + 1 := ⟨k - 1, by omega⟩
    simp only [List.getElem?_cons_succ] at hx
    unfold maxL
    rw [List.take_succ_cons, List.take_succ_cons]
    simp only [List.tail_cons, List.headD_cons]
    rw [List.take_add_one, hx]; simp
theorem foldl_max_ge (l : List Int) : ∀ a : Int, a ≤ l.foldl max a ∧ (∀ x ∈ l, x ≤ l.foldl max a) ∧ (l.foldl max a = a ∨ l.foldl max a ∈ l) := by
  induction l with
  | nil => intro a; simp
  | cons b l ih =>
    intro a
    obtain ⟨h1, h2, h3⟩ := ih (max a b)
    rw [List.foldl_cons]
    refine ⟨by omega, ?_, ?_⟩
    · intro x hx
      rcases List.mem_cons.1 hx with rfl | hx
      · omega
      · exact h2 x hx
    · rcases h3 with h3 | h3
      · rw [h3]
        by_cases hab : a ≤ b
        · rw [Int.max_eq_right hab]; exact Or.inr (by simp)
        · rw [Int.max_eq_left (by omega)]; exact Or.inl rfl
      · exact Or.inr (List.mem_cons_of_mem _ h3)
theorem maxL_spec {l : List Int} (h : 0 < l.length) : maxL l ∈ l ∧ ∀ x ∈ l, x ≤ maxL l := by
  cases l with
  | nil => simp at h
  | cons a l =>
    obtain ⟨h1, h2, h3⟩ := foldl_max_ge l a
    unfold maxL
    simp only [List.tail_cons, List.headD_cons]
    refine ⟨?_, ?_⟩
    · rcases h3 with h3 | h3
      · rw [h3]; simp
      · exact List.mem_cons_of_mem _ h3
    · intro x hx
      rcases List.mem_cons.1 hx with rfl | hx
      · exact h1
      · exact h2 x hx
theorem fbR_spec (L : List RqV) (hL : ∀ f : Nat, 0 ≤ cntAt L f) (m : Nat) : 0 ≤ (fbR L m).1 ∧ (∀ j : Nat, j < m → cntAt L j ≤ (fbR L m).1) ∧
    (0 < m → ∃ a : Nat, a < m ∧ (fbR L m).2 = (a : Int) ∧ cntAt L a = (fbR L m).1 ∧ ∀ j : Nat, j < a → cntAt L j ≠ (fbR L m).1) := by
  induction m with
  | zero => refine ⟨by simp [fbR], fun j hj => by omega, fun h => by omega⟩
  | succ m ih =>
    obtain ⟨h1, h2, h3⟩ := ih
    rw [fbR_succ]
    unfold fbStep
    by_cases hlt : (fbR L m).1 < cntAt L m
    · rw [if_pos hlt]
      refine ⟨hL m, ?_, fun _ => ⟨m, by omega, rfl, rfl, ?_⟩⟩
      · intro j hj
        rcases Nat.lt_or_ge j m with h | h
        · have := h2 j h; show _ ≤ cntAt L m; omega
        · have : j = m := by omega
          subst this; exact Int.le_refl _
      · intro j hj; have := h2 j hj; show _ ≠ cntAt L m; omega
    · rw [if_neg hlt]
      refine ⟨h1, ?_, fun _ => ?_⟩
      · intro j hj
        rcases Nat.lt_or_ge j m with h | h
        · exact h2 j h
        · have : j = m := by omega
          subst this; omega
      · rcases Nat.eq_zero_or_pos m with h | h
        · subst h
          have e : fbR L 0 = (0, 0) := rfl
          have h0 := hL 0
          rw [e] at hlt ⊢
          refine ⟨0, by omega, rfl, ?_, fun j hj => by omega⟩
          simp only at hlt ⊢
          have : cntAt L (0 : Nat) = cntAt L 0 := rfl
          omega
        · obtain ⟨a, a1, a2, a3, a4⟩ := h3 h
          exact ⟨a, by omega, a2, a3, a4⟩
theorem fb_law {n : Net} {L : List RqV} (h : reqsB n L = true) (hm : 0 < n.fibers.length) :
    fbR L n.fibers.length = (maxL (sumsR n.fibers.length L), idxL (sumsR n.fibers.length L) (maxL (sumsR n.fibers.length L))) := by
  have hv := reqs_mem h
  have hc : ∀ f : Nat, 0 ≤ cntAt L f := fun f => (cnt_bd f fun x hx => ⟨by have := (hv x hx).1; omega, (hv x hx).1.2⟩).1
  obtain ⟨h1, h2, h3⟩ := fbR_spec L hc n.fibers.length
  obtain ⟨a, a1, a2, a3, a4⟩ := h3 hm
  have hlen := sums_len n.fibers.length L
  have hval : ∀ f : Nat, f < n.fibers.length → (sumsR n.fibers.length L)[f]? = some (cntAt L f) := by
    intro f hf
    have := sums_val n.fibers.length L (fun x hx => vis_nodup (hv x hx).2) f
    rw [← this, List.getD_eq_getElem?_getD, List.getElem?_eq_getElem (by omega)]; rfl
  obtain ⟨m1, m2⟩ := maxL_spec (l := sumsR n.fibers.length L) (by omega)
  have e : maxL (sumsR n.fibers.length L) = (fbR L n.fibers.length).1 := by
    have g1 : maxL (sumsR n.fibers.length L) ≤ (fbR L n.fibers.length).1 := by
      obtain ⟨j, hj, e⟩ := List.getElem_of_mem m1
      have := hval j (by omega)
      rw [List.getElem?_eq_getElem hj, e] at this
      rw [Option.some.inj this]
      exact h2 j (by omega)
    have g2 := m2 (cntAt L a) (List.mem_of_getElem? (hval a a1))
    omega
  have hi : idxL (sumsR n.fibers.length L) (fbR L n.fibers.length).1 = (a : Int) := by
    refine idxL_at ?_ ?_
    · intro j hj he
      rw [hval j (by omega)] at he
      exact a4 j hj (Option.some.inj he)
    · rw [hval a a1, a3]
  rw [e, hi, ← a2]
end Go.Proofs.Ytlapicgeokjpjaa

/- Contracts: FiberBound, the reference's side; slices.Max. -/
namespace Go.Proofs.Ytlapicgeokjpjaa
open Go.RowKit Go.PlainAid

end Go.Proofs.Ytlapicgeokjpjaa

/- Contracts: FiberBound, the program's side. -/
namespace Go.Proofs.Ytlapicgeokjpjaa
open Go.RowKit Go.PlainAid

end Go.Proofs.Ytlapicgeokjpjaa

/- Contracts: the number of a light, both sides. -/
namespace Go.Proofs.Ytlapicgeokjpjaa
open Go.RowKit Go.PlainAid

def findL (L : List LtV) (id : Int) : Int := idxP L fun x => x.1 == id
theorem idxP_map {α β : Type} (l : List α) (f : α → β) (g : β → Bool) : idxP (l.map f) g = idxP l fun x => g (f x) := by
  unfold idxP; rw [List.findIdx?_map]; rfl
theorem idxP_lo {α : Type} (l : List α) (g : α → Bool) : -1 ≤ idxP l g ∧ idxP l g ≤ l.length := by
  unfold idxP
  split
  · next k h => rw [List.findIdx?_eq_some_iff_getElem] at h; obtain ⟨h1, _⟩ := h; omega
  · omega
def lnumF (P : PlanV) (id : Int) : Int × Bool := if planB P = true ∧ 0 ≤ findL P.lights id then (findL P.lights id, true) else (0, false)

end Go.Proofs.Ytlapicgeokjpjaa

/- Contracts: RouteMask, both sides; valid routes, the program's side. -/
namespace Go.Proofs.Ytlapicgeokjpjaa
open Go.RowKit Go.PlainAid

theorem PlIn.shapeN {w : World} {v : Value} {P : PlanV} (h : PlIn w v P) : ∃ q m c p k d r i e, v = .agg #[.slice q m c, .slice p k d, .slice r i e] ∧ NetIn w (.agg #[.slice q m c, .slice p k d]) P.net := by
  obtain ⟨q, m, c, p, k, d, r, e, l, h1, h2, _⟩ := h
  exact ⟨_, _, _, _, _, _, _, _, _, h1, h2⟩
set_option maxHeartbeats 2000000 in
theorem implRouteNodes_any (v : Value) (n : Net) (v2 : Value) (R : Int × List Int) (w : World) (h : NetIn w v n) (h2 : RtIn w v2 R) :
    Calls Try.prog 59 #[v, v2] w (OutWalk w (if netB n then visR n.nodes.length n.fibers R.1 R.2 else none)) := by
  have HN := Lib.hid h
  obtain ⟨q, m, c, p, k0, d, rfl⟩ := h.shape
  obtain ⟨s, qr, cr, fs, rfl, hI, hn, rfl⟩ := h2
  clear h
  obtain ⟨W2, hW2, hsz2, hf2, r1, r2⟩ := two_rows w [.slice q m c, .slice p k0 d] [.int .i64 s, .slice qr fs.length cr] 27 30
  have HW2 := Lib.hid hW2
  have HF2 := Lib.hid hf2
  have HR1 := Lib.hid r1
  have HR2 := Lib.hid r2
  have HI := Lib.hid (hI.keep hf2)
  clear hW2 hsz2 hf2 r1 r2 hI
  obtain ⟨o, ho⟩ : ∃ o, o = (if netB n then visR n.nodes.length n.fibers s fs else none) := ⟨_, rfl⟩
  rw [← ho]
  have HO := Lib.hid ho
  clear ho
  go_enter Try.func59, Try.ntmps59
  go_wp2_with fail
  rw [← HW2.out]
  clear HW2
  refine (implIsValidNetwork_any _ n _ (HN.out.keep HF2.out)).mono ?_
  rintro e w1 ⟨rfl, hb⟩
  have a0 := (HR1.out.keep hb).cell (i := 0) rfl
  have a1 := (HR1.out.keep hb).cell (i := 1) rfl
  have b0 := (HR2.out.keep hb).cell (i := 0) rfl
  have b1 := (HR2.out.keep hb).cell (i := 1) rfl
  have HF := Lib.hid (fstep HF2.out hb)
  have HI1 := Lib.hid (HI.out.keep hb)
  clear hb
  cases hnet : netB n
  · have HON : Hid (o = none) := by show o = none; rw [HO.out, if_neg (by simp [hnet])]
    clear hnet
    go_wp2
    go_ret2
    exact ⟨none, 0, [], by rw [HON.out]; rfl, HF.out, fun out h => by rw [HON.out] at h; cases h⟩
  · have HON : Hid (o = visR n.nodes.length n.fibers s fs) := by show o = _; rw [HO.out, if_pos hnet]
    clear hnet
    go_wp2_with fail
    refine (visited_any _ n s qr cr fs _ (HN.out.keep HF.out) HI1.out hn).mono ?_
    rintro e w2 ⟨p2, c2, xs, rfl, hb, ho⟩
    have HO2 := Lib.hid ho
    have HF2' := Lib.hid (fstep HF.out hb)
    have HSZ := Lib.hid HF.out.size
    clear hb ho a0 a1 b0 b1
    go_wp2
    go_ret2
    exact ⟨p2, c2, xs, by rw [HON.out]; rfl, HF2'.out, fun out h => by
      rw [HON.out] at h
      obtain ⟨e1, e2⟩ := HO2.out out h
      exact ⟨e1, e2.mono HSZ.out⟩⟩

set_option maxHeartbeats 2000000 in
theorem implIsValidRoute_any (v : Value) (n : Net) (v2 : Value) (R : Int × List Int) (w : World) (h : NetIn w v n) (h2 : RtIn w v2 R) :
    Calls Try.prog 38 #[v, v2] w fun e w' => e = .returned (.bool (netB n && isVis n R.1 R.2)) ∧ Fresh w w' := by
  have HN := Lib.hid h
  have HR := Lib.hid h2
  obtain ⟨q, m, c, p, k0, d, rfl⟩ := h.shape
  obtain ⟨s, qr, mr, cr, rfl⟩ := h2.shape
  clear h h2
  obtain ⟨W2, hW2, hsz2, hf2, r1, r2⟩ := two_rows w [.slice q m c, .slice p k0 d] [.int .i64 s, .slice qr mr cr] 27 30
  have HW2 := Lib.hid hW2
  have HF2 := Lib.hid hf2
  have HE : Hid ((if netB n then visR n.nodes.length n.fibers R.1 R.2 else none).isSome = (netB n && isVis n R.1 R.2)) := by
    show _ = _; unfold isVis; cases netB n <;> simp
  clear hW2 hsz2 hf2 r1 r2
  go_enter Try.func38, Try.ntmps38
  go_wp2_with fail
  rw [← HW2.out]
  clear HW2
  have hcc := implRouteNodes_any _ n _ R _ (HN.out.keep HF2.out) (HR.out.keep HF2.out)
  obtain ⟨o, ho⟩ : ∃ o, o = (if netB n then visR n.nodes.length n.fibers R.1 R.2 else none) := ⟨_, rfl⟩
  rw [← ho] at hcc HE
  clear ho
  refine hcc.mono ?_
  clear hcc
  rintro e w2 ⟨p2, c2, xs, rfl, hb, _⟩
  have HF := Lib.hid (fstep HF2.out hb)
  clear hb
  go_wp2
  go_ret
  exact ⟨ret_bool HE.out, HF.out⟩

end Go.Proofs.Ytlapicgeokjpjaa

/- Contracts: PlanUse, both sides. -/
namespace Go.Proofs.Ytlapicgeokjpjaa
open Go.RowKit Go.PlainAid

def useStep (L : List LtV) (a : Nat × Nat) (f : Nat) : Nat × Nat := (a.1 + pop.cnt (usedN L f), a.2 ||| usedN L f)
def useTo (L : List LtV) (k : Nat) : Nat × Nat := (List.range k).foldl (useStep L) (0, 0)
theorem useTo_succ (L : List LtV) (k : Nat) : useTo L (k + 1) = (( useTo L k).1 + pop.cnt (usedN L k), (useTo L k).2 ||| usedN L k) := by unfold useTo; rw [List.range_succ, List.foldl_append]; rfl
theorem cnt24 {m : Nat} (h : m < 16777216) : pop.cnt m ≤ 24 := by rw [← pop.cntTo_24 m h]; exact pop.cntTo_le m 24
theorem useTo_bd {L : List LtV} (h : ∀ x ∈ L, goodB x.2.2.1 x.2.2.2 = true) (k : Nat) : (useTo L k).1 ≤ 24 * k ∧ (useTo L k).2 < 16777216 := by
  induction k with
  | zero => simp [useTo]
  | succ k ih =>
    have h1 := used_lt (k : Int) h
    have h2 := cnt24 h1
    rw [useTo_succ]
    refine ⟨by simp only; omega, or24 ih.2 h1⟩
def planuseF (P : PlanV) : Int × Int × Bool := if planB P = true then (((useTo P.lights P.net.fibers.length).1 : Int), (pop.cnt (useTo P.lights P.net.fibers.length).2 : Int), true) else (0, 0, false)

end Go.Proofs.Ytlapicgeokjpjaa

