/- Plain: the smallest connected node, found in as many rounds as there are nodes (no program in sight). -/
import Derived.Test.YtlapicgeokjpjaaGreatMgP
namespace Go.Proofs.YtlapicgeokjpjaaGreat
open Go.RowKit

theorem Con.refl (F : List Fib) (g : List Int) (a : Int) : Con F g a a := ⟨[], rfl, by simp⟩
theorem Con.symm {F : List Fib} {g : List Int} {a b : Int} (h : Con F g a b) : Con F g b a := by
  obtain ⟨l, h1, h2⟩ := h
  exact ⟨l.reverse, h1.rev, fun i hi => h2 i (List.mem_reverse.1 hi)⟩
theorem Con.trans {F : List Fib} {g : List Int} {a b c : Int} (h : Con F g a b) (k : Con F g b c) : Con F g a c := by
  obtain ⟨l, h1, h2⟩ := h
  obtain ⟨m, k1, k2⟩ := k
  refine ⟨l ++ m, h1.app k1, fun i hi => ?_⟩
  rcases List.mem_append.1 hi with hi | hi
  · exact h2 i hi
  · exact k2 i hi
theorem Con.edge {F : List Fib} {g : List Int} {i a b : Int} (h : Ej F i a b) (hi : i ∉ g) : Con F g a b := ⟨[i], Wk.one h, fun j hj => by simp at hj; subst hj; exact hi⟩
/-- A node's label. -/
def lab (L : List Int) (v : Int) : Int := L.getD v.toNat 0
def stepC (F : List Fib) (gone : List Int) (L : List Int) (i : Nat) : List Int :=
  if (i : Int) ∈ gone then L else match F[i]? with
    | some f => (L.set f.a.toNat (min (lab L f.a) (lab L f.b))).set f.b.toNat (min (lab L f.a) (lab L f.b))
    | none => L
def roundTo (F : List Fib) (gone : List Int) (L : List Int) (k : Nat) : List Int := (List.range k).foldl (stepC F gone) L
theorem roundTo_succ (F : List Fib) (gone L : List Int) (k : Nat) : roundTo F gone L (k + 1) = stepC F gone (roundTo F gone L k) k := by unfold roundTo; rw [List.range_succ, List.foldl_append]; rfl
def startC (N : Nat) : List Int := (List.range N).map fun v : Nat => (v : Int)
def compTo (F : List Fib) (gone : List Int) (N : Nat) : Nat → List Int
  | 0 => startC N
  | k + 1 => roundTo F gone (compTo F gone N k) F.length
def compC (F : List Fib) (gone : List Int) (N : Nat) : List Int := compTo F gone N N
theorem stepC_len (F : List Fib) (gone L : List Int) (i : Nat) : (stepC F gone L i).length = L.length := by
  unfold stepC
  split
  · rfl
  · split <;> simp
theorem roundTo_len (F : List Fib) (gone L : List Int) (k : Nat) : (roundTo F gone L k).length = L.length := by
  induction k with
  | zero => rfl
  | succ k ih => rw [roundTo_succ, stepC_len, ih]
theorem compTo_len (F : List Fib) (gone : List Int) (N k : Nat) : (compTo F gone N k).length = N := by
  induction k with
  | zero => unfold compTo startC; simp
  | succ k ih => rw [compTo, roundTo_len, ih]
theorem lab_set {L : List Int} {a v x : Int} (ha : 0 ≤ a ∧ a < (L.length : Int)) (hv : 0 ≤ v) : lab (L.set a.toNat x) v = if v = a then x else lab L v := by
  unfold lab
  rw [List.getD_eq_getElem?_getD, List.getD_eq_getElem?_getD, List.getElem?_set]
  by_cases h : v = a
  · subst h
    rw [if_pos rfl, if_pos (by omega), if_pos rfl]; rfl
  · rw [if_neg (by omega), if_neg h]
theorem stepC_lab {N : Int} {F : List Fib} {gone L : List Int} {i : Nat} {f : Fib} {v : Int} (hF : ∀ f ∈ F, 0 ≤ f.a ∧ f.a < f.b ∧ f.b < N) (hL : (L.length : Int) = N) (hi : (i : Int) ∉ gone) (hf : F[i]? = some f) (hv : 0 ≤ v) :
    lab (stepC F gone L i) v = if v = f.a ∨ v = f.b then min (lab L f.a) (lab L f.b) else lab L v := by
  have hb := hF f (List.mem_of_getElem? hf)
  unfold stepC
  rw [if_neg hi, hf]
  show lab ((L.set f.a.toNat _).set f.b.toNat _) v = _
  rw [lab_set (by rw [List.length_set]; omega) hv, lab_set (by omega) hv]
  by_cases h1 : v = f.b
  · rw [if_pos h1, if_pos (Or.inr h1)]
  · rw [if_neg h1]
    by_cases h2 : v = f.a
    · rw [if_pos h2, if_pos (Or.inl h2)]
    · rw [if_neg h2, if_neg (by omega)]
/-- Labels go down. -/
theorem stepC_le {N : Int} {F : List Fib} {gone L : List Int} (hF : ∀ f ∈ F, 0 ≤ f.a ∧ f.a < f.b ∧ f.b < N) (hL : (L.length : Int) = N) (i : Nat) {v : Int} (hv : 0 ≤ v) : lab (stepC F gone L i) v ≤ lab L v := by
  by_cases hi : (i : Int) ∈ gone
  · unfold stepC; rw [if_pos hi]; exact Int.le_refl _
  · cases hf : F[i]? with
    | none => unfold stepC; rw [if_neg hi, hf]; exact Int.le_refl _
    | some f =>
      rw [stepC_lab hF hL hi hf hv]
      split
      · next h => rcases h with h | h <;> subst h <;> omega
      · exact Int.le_refl _
theorem roundTo_le {N : Int} {F : List Fib} {gone L : List Int} (hF : ∀ f ∈ F, 0 ≤ f.a ∧ f.a < f.b ∧ f.b < N) (hL : (L.length : Int) = N) {v : Int} (hv : 0 ≤ v) {j : Nat} : ∀ k, j ≤ k → lab (roundTo F gone L k) v ≤ lab (roundTo F gone L j) v := by
  intro k
  induction k with
  | zero =>
    intro h
    obtain rfl : j = 0 := by omega
    exact Int.le_refl _
  | succ k ih =>
    intro h
    rcases Nat.lt_or_ge k j with hk | hk
    · obtain rfl : j = k + 1 := by omega
      exact Int.le_refl _
    · rw [roundTo_succ]
      exact Int.le_trans (stepC_le hF (by rw [roundTo_len]; exact hL) k hv) (ih hk)
/-- Along a fiber that is there a label goes over in one round. -/
theorem round_edge {N : Int} {F : List Fib} {gone L : List Int} (hF : ∀ f ∈ F, 0 ≤ f.a ∧ f.a < f.b ∧ f.b < N) (hL : (L.length : Int) = N) {i u v : Int} (h : Ej F i u v) (hi : i ∉ gone) : lab (roundTo F gone L F.length) v ≤ lab L u := by
  obtain ⟨f, f1, f2, f3⟩ := h
  have hlt : i.toNat < F.length := (List.getElem?_eq_some_iff.1 f2).1
  have hb := hF f (List.mem_of_getElem? f2)
  have hi2 : ((i.toNat : Nat) : Int) ∉ gone := by rw [show ((i.toNat : Nat) : Int) = i by omega]; exact hi
  have hu : 0 ≤ u := by omega
  have hv : 0 ≤ v := by omega
  have h1 := roundTo_le (gone := gone) hF hL hv (j := i.toNat + 1) F.length (by omega)
  have h2 := roundTo_le (gone := gone) hF hL hu (j := 0) i.toNat (by omega)
  rw [roundTo_succ, stepC_lab hF (by rw [roundTo_len]; exact hL) hi2 f2 hv, if_pos (by omega)] at h1
  have h3 : lab (roundTo F gone L 0) u = lab L u := rfl
  rw [h3] at h2
  refine Int.le_trans h1 (Int.le_trans ?_ h2)
  rcases f3 with ⟨e1, e2⟩ | ⟨e1, e2⟩
  · rw [e1]; omega
  · rw [e2]; omega
/-- Every label is a node that is connected. -/
def LabOk (F : List Fib) (gone : List Int) (N : Nat) (L : List Int) : Prop := L.length = N ∧ ∀ v : Int, 0 ≤ v → v < (N : Int) → 0 ≤ lab L v ∧ lab L v ≤ v ∧ Con F gone (lab L v) v
theorem startC_ok (F : List Fib) (gone : List Int) (N : Nat) : LabOk F gone N (startC N) := by
  refine ⟨by unfold startC; simp, fun v h0 h1 => ?_⟩
  have : lab (startC N) v = v := by
    unfold lab startC
    rw [List.getD_eq_getElem?_getD, List.getElem?_map, List.getElem?_range (by omega)]
    simp only [Option.map_some, Option.getD_some]
    omega
  rw [this]
  exact ⟨h0, Int.le_refl _, Con.refl _ _ _⟩
theorem stepC_ok {F : List Fib} {gone : List Int} {N : Nat} {L : List Int} (hF : ∀ f ∈ F, 0 ≤ f.a ∧ f.a < f.b ∧ f.b < (N : Int)) (h : LabOk F gone N L) (i : Nat) : LabOk F gone N (stepC F gone L i) := by
  obtain ⟨hL, hv⟩ := h
  by_cases hi : (i : Int) ∈ gone
  · unfold stepC; rw [if_pos hi]; exact ⟨hL, hv⟩
  · cases hf : F[i]? with
    | none => unfold stepC; rw [if_neg hi, hf]; exact ⟨hL, hv⟩
    | some f =>
      have hb := hF f (List.mem_of_getElem? hf)
      have hej : Ej F (i : Int) f.a f.b := ⟨f, by omega, by simpa using hf, Or.inl ⟨rfl, rfl⟩⟩
      refine ⟨by rw [stepC_len]; exact hL, fun v h0 h1 => ?_⟩
      rw [stepC_lab hF (by omega) hi hf h0]
      split
      · next hv2 =>
        obtain ⟨a0, a1, a2⟩ := hv f.a (by omega) (by omega)
        obtain ⟨b0, b1, b2⟩ := hv f.b (by omega) (by omega)
        have hc : Con F gone (min (lab L f.a) (lab L f.b)) f.a := by
          rcases Int.le_total (lab L f.a) (lab L f.b) with h | h
          · rw [Int.min_eq_left h]; exact a2
          · rw [Int.min_eq_right h]; exact b2.trans (Con.edge hej hi).symm
        rcases hv2 with e | e
        · rw [e]; exact ⟨by omega, by omega, hc⟩
        · rw [e]; exact ⟨by omega, by omega, hc.trans (Con.edge hej hi)⟩
      · exact hv v h0 h1
theorem roundTo_ok {F : List Fib} {gone : List Int} {N : Nat} {L : List Int} (hF : ∀ f ∈ F, 0 ≤ f.a ∧ f.a < f.b ∧ f.b < (N : Int)) (h : LabOk F gone N L) : ∀ k, LabOk F gone N (roundTo F gone L k)
  | 0 => h
  | k + 1 => by rw [roundTo_succ]; exact stepC_ok hF (roundTo_ok hF h k) k
theorem compTo_ok {F : List Fib} {gone : List Int} {N : Nat} (hF : ∀ f ∈ F, 0 ≤ f.a ∧ f.a < f.b ∧ f.b < (N : Int)) : ∀ k, LabOk F gone N (compTo F gone N k)
  | 0 => startC_ok F gone N
  | k + 1 => roundTo_ok hF (compTo_ok hF k) _
theorem compTo_dist {F : List Fib} {gone : List Int} {N : Nat} (hF : ∀ f ∈ F, 0 ≤ f.a ∧ f.a < f.b ∧ f.b < (N : Int)) {m : Int} (m0 : 0 ≤ m) (m1 : m < (N : Int)) : ∀ (k : Nat) {l : List Int} {v : Int}, Wk F l v m → (∀ i ∈ l, i ∉ gone) → l.length ≤ k → 0 ≤ v → v < (N : Int) → lab (compTo F gone N k) v ≤ m := by
  intro k
  induction k with
  | zero =>
    intro l v h _ hk h0 h1
    have : l = [] := List.eq_nil_of_length_eq_zero (by omega)
    subst this
    have e : v = m := h
    subst e
    exact ((compTo_ok hF 0).2 v h0 h1).2.1
  | succ k ih =>
    intro l v h hg hk h0 h1
    cases l with
    | nil =>
      have e : v = m := h
      subst e
      exact ((compTo_ok hF (k + 1)).2 v h0 h1).2.1
    | cons i l =>
      obtain ⟨u, e1, e2⟩ := h
      have hub : 0 ≤ u ∧ u < (N : Int) := by
        obtain ⟨f, _, f2, f3⟩ := e1
        have hb := hF f (List.mem_of_getElem? f2)
        omega
      have h3 := ih e2 (fun j hj => hg j (List.mem_cons_of_mem _ hj)) (by simp at hk; omega) hub.1 hub.2
      rw [compTo]
      exact Int.le_trans (round_edge hF (by rw [compTo_len]) e1.symm (hg i (List.mem_cons_self ..))) h3
theorem Sp.len {F : List Fib} : ∀ {l : List Int} {u w : Int} {vs : List Int}, Sp F l u w vs → vs.length = l.length + 1 ∧ vs.Nodup
  | [], _, _, _, h => by rw [h.2]; simp
  | _ :: _, _, _, _, ⟨_, _, _, h2, h3, h4⟩ => by
    obtain ⟨a, b⟩ := Sp.len h2
    rw [h4]
    exact ⟨by simp [a], List.nodup_cons.2 ⟨h3, b⟩⟩
theorem Sp.rng {N : Int} {F : List Fib} (hF : ∀ f ∈ F, 0 ≤ f.a ∧ f.a < f.b ∧ f.b < N) : ∀ {l : List Int} {u w : Int} {vs : List Int}, Sp F l u w vs → 0 ≤ u → u < N → ∀ x ∈ vs, 0 ≤ x ∧ x < N
  | [], _, _, _, h, h0, h1 => by rw [h.2]; intro x hx; simp at hx; subst hx; exact ⟨h0, h1⟩
  | _ :: _, _, _, _, ⟨v, _, h1, h2, _, h4⟩, u0, u1 => by
    rw [h4]
    intro x hx
    rcases List.mem_cons.1 hx with rfl | hx
    · exact ⟨u0, u1⟩
    · obtain ⟨f, _, f2, f3⟩ := h1
      have hb := hF f (List.mem_of_getElem? f2)
      exact Sp.rng hF h2 (by omega) (by omega) x hx
theorem nodup_fit {N : Nat} {l : List Int} (h : l.Nodup) (hb : ∀ x ∈ l, 0 ≤ x ∧ x < (N : Int)) : l.length ≤ N := by
  have h2 : (l.map Int.toNat).Nodup := by
    rw [List.Nodup, List.pairwise_map]
    refine List.Pairwise.imp_of_mem ?_ h
    intro a b ha hb' hab e
    have := hb a ha; have := hb b hb'
    omega
  have h3 : (l.map Int.toNat) ⊆ List.range N := by
    intro x hx
    obtain ⟨y, hy, rfl⟩ := List.mem_map.1 hx
    have := hb y hy
    simp; omega
  have := h2.length_le_of_subset h3
  simpa using this
theorem least_ex {P : Nat → Prop} : ∀ n, P n → ∃ m, P m ∧ ∀ k, P k → m ≤ k := by
  intro n
  induction n using Nat.strongRecOn with
  | ind n ih =>
    intro hn
    by_cases h : ∃ k, k < n ∧ P k
    · obtain ⟨k, hk, hp⟩ := h
      exact ih k hk hp
    · refine ⟨n, hn, fun k hk => ?_⟩
      rcases Nat.lt_or_ge k n with h2 | h2
      · exact absurd ⟨k, h2, hk⟩ h
      · exact h2
/-- Two labels are one exactly where the nodes are connected. -/
theorem compC_iff {F : List Fib} {gone : List Int} {N : Nat} (hF : ∀ f ∈ F, 0 ≤ f.a ∧ f.a < f.b ∧ f.b < (N : Int)) {a b : Int} (ha : 0 ≤ a ∧ a < (N : Int)) (hb : 0 ≤ b ∧ b < (N : Int)) : lab (compC F gone N) a = lab (compC F gone N) b ↔ Con F gone a b := by
  constructor
  · intro h
    have h1 := ((compTo_ok (gone := gone) hF N).2 a ha.1 ha.2).2.2
    have h2 := ((compTo_ok (gone := gone) hF N).2 b hb.1 hb.2).2.2
    unfold compC at h
    rw [h] at h1
    exact h1.symm.trans h2
  · intro h
    have key : ∀ v : Int, 0 ≤ v → v < (N : Int) → Con F gone a v → ∀ m : Nat, (Con F gone a (m : Int) ∧ m < N) → (∀ k : Nat, (Con F gone a (k : Int) ∧ k < N) → m ≤ k) → lab (compC F gone N) v = m := by
      intro v v0 v1 hv m hm hmin
      obtain ⟨l, l1, l2⟩ := hv.symm.trans hm.1
      obtain ⟨p, vs, p1, p2⟩ := wk_sp l1
      obtain ⟨q1, q2⟩ := p1.len
      have q3 := nodup_fit q2 (p1.rng hF v0 v1)
      have hle : lab (compC F gone N) v ≤ m := compTo_dist hF (by omega) (by omega) N p1.wk (fun i hi => l2 i (p2 hi)) (by omega) v0 v1
      obtain ⟨c0, c1, c2⟩ := (compTo_ok (gone := gone) hF N).2 v v0 v1
      have hge := hmin (lab (compC F gone N) v).toNat ⟨by
        rw [show (((lab (compC F gone N) v).toNat : Nat) : Int) = lab (compC F gone N) v by unfold compC; omega]
        exact hv.trans c2.symm, by unfold compC; omega⟩
      have c0' : 0 ≤ lab (compC F gone N) v := c0
      omega
    obtain ⟨m, hm, hmin⟩ := least_ex (P := fun m : Nat => Con F gone a (m : Int) ∧ m < N) a.toNat ⟨by rw [show ((a.toNat : Nat) : Int) = a by omega]; exact Con.refl _ _ _, by omega⟩
    rw [key a ha.1 ha.2 (Con.refl _ _ _) m hm hmin, key b hb.1 hb.2 h m hm hmin]
end Go.Proofs.YtlapicgeokjpjaaGreat
