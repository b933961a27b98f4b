/- Plain: no pair of routes without a common fiber is counted exactly where some one fiber, or none, separates two nodes (no program in sight). -/
import Derived.Test.YtlapicgeokjpjaaMgP
import Derived.Test.YtlapicgeokjpjaaCt
namespace Go.Proofs.Ytlapicgeokjpjaa
open Go.RowKit

theorem ej_other {f : Fib} {u v : Int} (h : f.a = u ∧ f.b = v ∨ f.a = v ∧ f.b = u) : other f u = v := by
  unfold other
  split <;> (try split) <;> omega
theorem Sp.head {F : List Fib} : ∀ {l : List Int} {u w : Int} {vs : List Int}, Sp F l u w vs → u ∈ vs
  | [], _, _, _, h => by rw [h.2]; simp
  | _ :: _, _, _, _, ⟨_, _, _, _, _, h⟩ => by rw [h]; simp
theorem sp_fold {N : Int} {F : List Fib} (hF : ∀ f ∈ F, 0 ≤ f.a ∧ f.a < f.b ∧ f.b < N) : ∀ {l : List Int} {v w : Int} {vs : List Int}, Sp F l v w vs → ∀ out, lastI out = v → (∀ x ∈ vs, x ≠ v → x ∉ out) →
    ∃ o2, l.foldl (fun acc i => acc.bind fun out => stepR F out i) (some out) = some o2 ∧ lastI o2 = w
  | [], v, w, vs, h, out, ho, _ => ⟨out, rfl, by rw [ho]; exact h.1⟩
  | i :: l, v, w, vs, h, out, ho, hout => by
    obtain ⟨x, us, h1, h2, h3, h4⟩ := h
    subst h4
    obtain ⟨f, f1, f2, f3⟩ := h1
    have hi : i.toNat < F.length := (List.getElem?_eq_some_iff.1 f2).1
    have hb := hF f (List.mem_of_getElem? f2)
    have hx : x ∈ us := Sp.head h2
    have hxv : x ≠ v := fun e => h3 (e ▸ hx)
    have hst : stepR F out i = some (out ++ [x]) := by
      have := stepR_good (F := F) (out := out) (i := i) (inB_t (by omega) (by omega)) f2 (by
        rw [ho, ej_other f3]
        intro hh
        rcases hh with hh | hh
        · omega
        · exact hout x (List.mem_cons_of_mem _ hx) hxv hh)
      rw [ho, ej_other f3] at this
      exact this
    rw [List.foldl_cons]
    show ∃ o2, List.foldl _ (stepR F out i) l = some o2 ∧ lastI o2 = w
    rw [hst]
    refine sp_fold hF h2 (out ++ [x]) (lastI_app _ _) fun y hy hyx hm => ?_
    rcases List.mem_append.1 hm with hm | hm
    · exact hout y (List.mem_cons_of_mem _ hy) (fun e => h3 (e ▸ hy)) hm
    · simp at hm; exact hyx hm
theorem sp_good {n : Net} {a b : Int} {l vs : List Int} (hn : netB n = true) (hab : a ≠ b) (h : Sp n.fibers l a b vs) : RtGood n a b l := by
  refine ⟨?_, ?_⟩
  · rintro rfl; exact hab h.1
  · exact sp_fold (net_fib hn) h [a] (by rfl) fun x _ hx hm => by simp at hm; exact hx hm
theorem good_wk {F : List Fib} {s : Int} : ∀ {l out : List Int}, walkR F s l = some out → Wk F l s (lastI out) := by
  intro l
  induction hk : l.length generalizing l with
  | zero =>
    intro out h
    have : l = [] := List.eq_nil_of_length_eq_zero hk
    subst this
    simp [walkR] at h; subst h
    rfl
  | succ k ih =>
    intro out h
    have hne : l ≠ [] := by intro e; subst e; simp at hk
    have hl : l = l.dropLast ++ [l.getLast hne] := (List.dropLast_concat_getLast hne).symm
    rw [hl, walkR_snoc] at h
    rw [hl]
    cases hw : walkR F s l.dropLast with
    | none => rw [hw] at h; cases h
    | some o =>
      rw [hw] at h
      have h1 := ih (l := l.dropLast) (by simp [hk]) hw
      have h2 : stepR F o (l.getLast hne) = some out := h
      unfold stepR at h2
      split at h2
      · next hin =>
        split at h2
        · next f hf =>
          split at h2
          · cases h2
          · next hno =>
            cases h2
            rw [lastI_app]
            refine h1.app (Wk.one ⟨f, (inB_iff.1 hin).1, hf, ?_⟩)
            unfold other at hno ⊢
            split <;> (try split) <;> (try split at hno) <;> (try split at hno) <;> omega
        · cases h2
      · cases h2
theorem rt_wk {n : Net} {a b : Int} {l : List Int} (h : RtGood n a b l) : Wk n.fibers l a b := by
  obtain ⟨_, out, h1, h2⟩ := h
  rw [← h2]; exact good_wk h1
theorem walk_more {N : Int} {F : List Fib} (hF : ∀ f ∈ F, 0 ≤ f.a ∧ f.a < f.b ∧ f.b < N) : ∀ {r seen out : List Int}, r.foldl (fun acc i => acc.bind fun out => stepR F out i) (some seen) = some out →
    ∃ ys, out = seen ++ ys ∧ ys.length = r.length ∧ ∀ y ∈ ys, y ∉ seen
  | [], seen, out, h => by cases h; exact ⟨[], by simp, rfl, by simp⟩
  | i :: r, seen, out, h => by
    rw [List.foldl_cons] at h
    have h' : List.foldl (fun acc i => acc.bind fun out => stepR F out i) (stepR F seen i) r = some out := h
    cases hs : stepR F seen i with
    | none => rw [hs, walk_none] at h'; cases h'
    | some o =>
      rw [hs] at h'
      obtain ⟨x, rfl, _, _, hx⟩ := stepR_in hF hs
      obtain ⟨ys, e, e2, e3⟩ := walk_more hF h'
      refine ⟨x :: ys, by rw [e]; simp, by simp [e2], fun y hy => ?_⟩
      rcases List.mem_cons.1 hy with rfl | hy
      · exact hx
      · exact fun hm => e3 y hy (List.mem_append_left _ hm)
theorem kid_of {F : List Fib} {seen fs o : List Int} {i : Int} (h : stepR F seen i = some o) : i.toNat < F.length ∧ kidR F seen fs i.toNat = some (o, fs ++ [i]) := by
  unfold stepR at h
  split at h
  · next hin =>
    split at h
    · next f hf =>
      split at h
      · cases h
      · next hno =>
        cases h
        have hi := (inB_iff.1 hin).1
        refine ⟨(List.getElem?_eq_some_iff.1 hf).1, ?_⟩
        rw [kidR_at hf hno]
        have : ((i.toNat : Nat) : Int) = i := by omega
        rw [this]
    · cases h
  · cases h
theorem dfs_all {N t9 s : Int} {F : List Fib} (hF : ∀ f ∈ F, 0 ≤ f.a ∧ f.a < f.b ∧ f.b < N) : ∀ {r fs seen out : List Int} {k : Nat}, walkR F s fs = some seen → seen ≠ [] → r.foldl (fun acc i => acc.bind fun out => stepR F out i) (some seen) = some out → lastI out = t9 → r.length < k →
    fs ++ r ∈ dfsR F t9 k seen fs
  | [], fs, seen, out, k + 1, _, _, h2, h3, _ => by
    cases h2
    rw [dfs_here h3]; simp
  | i :: r, fs, seen, out, k + 1, h1, h0, h2, h3, h4 => by
    obtain ⟨ys, e, e2, e3⟩ := walk_more hF h2
    have hne : lastI seen ≠ t9 := by
      intro hh
      have hy : lastI out ∈ ys := by
        rw [e]
        have : ys ≠ [] := by intro e0; rw [e0] at e2; simp at e2
        have : lastI (seen ++ ys) = lastI ys := by
          unfold lastI
          rw [List.getLast?_append]
          cases hg : ys.getLast? with
          | none => exact absurd (List.getLast?_eq_none_iff.1 hg) this
          | some a => rfl
        rw [this]; exact last_mem (by intro e0; rw [e0] at e2; simp at e2)
      exact e3 _ hy (by rw [h3, ← hh]; exact last_mem h0)
    rw [List.foldl_cons] at h2
    have h' : List.foldl (fun acc i => acc.bind fun out => stepR F out i) (stepR F seen i) r = some out := h2
    cases hs : stepR F seen i with
    | none => rw [hs, walk_none] at h'; cases h'
    | some o =>
      rw [hs] at h'
      obtain ⟨hi, hk⟩ := kid_of (fs := fs) hs
      rw [dfs_on hne]
      refine List.mem_flatMap.2 ⟨i.toNat, List.mem_range.2 hi, ?_⟩
      rw [hk]
      show fs ++ i :: r ∈ dfsR F t9 k o (fs ++ [i])
      have hw := kid_walk h1 hk
      have := dfs_all (t9 := t9) hF (r := r) (k := k) hw (by obtain ⟨x, rfl, _⟩ := stepR_in hF hs; simp) h' h3 (by simp at h4; omega)
      simpa using this
theorem allR_all {n : Net} {a b : Int} {l : List Int} (hn : netB n = true) (ha : 0 ≤ a ∧ a < (n.nodes.length : Int)) (hab : a ≠ b) (h : RtGood n a b l) : (a, l) ∈ allR n a b := by
  obtain ⟨_, out, h1, h2⟩ := h
  obtain ⟨a1, a2, a3⟩ := wkIn (net_fib hn) ha h1
  have hN := nodup_le a1 a2
  rw [allR_mem]
  unfold rawR
  rw [if_neg hab]
  refine List.mem_map.2 ⟨l, ?_, rfl⟩
  have := dfs_all (s := a) (r := l) (fs := []) (seen := [a]) (k := n.nodes.length) (net_fib hn) rfl (by simp) h1 h2 (by omega)
  simpa using this
theorem rowI_mem {d : Nat → Nat → Bool} {i N : Nat} {x : Nat × Nat} : x ∈ rowI d i N ↔ x.1 = i ∧ x.2 < N ∧ i < x.2 ∧ d i x.2 = true := by
  unfold rowI
  rw [List.mem_map]
  constructor
  · rintro ⟨m, hm, rfl⟩
    rw [List.mem_filter, List.mem_range] at hm
    simp only [Bool.and_eq_true, decide_eq_true_eq] at hm
    exact ⟨rfl, hm.1, hm.2.1, hm.2.2⟩
  · rintro ⟨h1, h2, h3, h4⟩
    refine ⟨x.2, ?_, by rw [← h1]⟩
    rw [List.mem_filter, List.mem_range]
    simp only [Bool.and_eq_true, decide_eq_true_eq]
    exact ⟨h2, h3, h4⟩
theorem toI_mem {d : Nat → Nat → Bool} {N M : Nat} {x : Nat × Nat} : x ∈ toI d N M ↔ x.1 < M ∧ x.2 < N ∧ x.1 < x.2 ∧ d x.1 x.2 = true := by
  unfold toI
  rw [List.mem_flatMap]
  constructor
  · rintro ⟨m, hm, hx⟩
    obtain ⟨h1, h2, h3, h4⟩ := rowI_mem.1 hx
    rw [← h1] at h3 h4 hm
    exact ⟨List.mem_range.1 hm, h2, h3, h4⟩
  · rintro ⟨h1, h2, h3, h4⟩
    exact ⟨x.1, List.mem_range.2 h1, rowI_mem.2 ⟨rfl, h2, h3, h4⟩⟩
theorem uses_false {a b : List Int} : usesB a b = false ↔ ∀ i ∈ a, i ∉ b := by
  unfold usesB
  rw [List.any_eq_false]
  simp
theorem disj_one {n : Net} {s : Int} {a b : List Int} : disjB n s a b 1 = true ↔ ∀ i ∈ a, i ∉ b := by
  unfold disjB
  rw [if_neg (by decide)]
  simp only [beq_self_eq_true, Bool.true_or, Bool.and_true, Bool.not_eq_true']
  exact uses_false
theorem okK_pair {n : Net} {a b k : Int} (h : okK n a b k = true) : pairB n a b = true := by
  unfold okK at h
  simp only [Bool.and_eq_true] at h
  exact okA_pair h.1
/-- No pair of routes is counted exactly where there are no two ways without a common fiber. -/
theorem count_two {n : Net} {a b : Int} (h : okK n a b 1 = true) : (countF n a b 1).1 = 0 ↔ ¬ Two n.fibers a b := by
  obtain ⟨hn, ha, hb, hab⟩ := pairB_in (okK_pair h)
  unfold countF
  rw [if_pos h]
  show (((pairsF n a b 1).length : Int) = 0) ↔ _
  have e : (((pairsF n a b 1).length : Int) = 0) ↔ pairsF n a b 1 = [] := by
    constructor
    · intro h; exact List.eq_nil_of_length_eq_zero (by omega)
    · intro h; rw [h]; rfl
  rw [e]
  constructor
  · rintro h0 ⟨l, m, h1, h2, hd⟩
    obtain ⟨l2, vs, k1, k2⟩ := wk_sp h1
    obtain ⟨m2, us, k3, k4⟩ := wk_sp h2
    have g1 := sp_good hn hab k1
    have g2 := sp_good hn hab k3
    obtain ⟨i, hi⟩ := List.getElem?_of_mem (allR_all hn ha hab g1)
    obtain ⟨j, hj⟩ := List.getElem?_of_mem (allR_all hn ha hab g2)
    have dd : ∀ x ∈ l2, x ∉ m2 := fun x hx hy => hd x (k2 hx) (k4 hy)
    have hlen1 := (List.getElem?_eq_some_iff.1 hi).1
    have hlen2 := (List.getElem?_eq_some_iff.1 hj).1
    rcases Nat.lt_trichotomy i j with hij | hij | hij
    · have : (i, j) ∈ pairsF n a b 1 := by
        refine toI_mem.2 ⟨hlen1, hlen2, hij, ?_⟩
        show dP n a (allR n a b) 1 i j = true
        unfold dP
        rw [hi, hj]
        exact disj_one.2 dd
      rw [h0] at this; simp at this
    · subst hij
      rw [hi] at hj
      cases hj
      cases hl : l2 with
      | nil => exact g1.1 hl
      | cons x l3 => exact dd x (by rw [hl]; simp) (by rw [hl]; simp)
    · have : (j, i) ∈ pairsF n a b 1 := by
        refine toI_mem.2 ⟨hlen2, hlen1, hij, ?_⟩
        show dP n a (allR n a b) 1 j i = true
        unfold dP
        rw [hi, hj]
        exact disj_one.2 fun x hx hy => dd x hy hx
      rw [h0] at this; simp at this
  · intro h2
    rw [List.eq_nil_iff_forall_not_mem]
    intro x hx
    obtain ⟨h3, h4, h5, h6⟩ := toI_mem.1 hx
    unfold dP at h6
    split at h6
    · next X Y hX hY =>
      obtain ⟨_, g1⟩ := good_mem (List.mem_of_getElem? hX)
      obtain ⟨_, g2⟩ := good_mem (List.mem_of_getElem? hY)
      exact h2 ⟨X.2, Y.2, rt_wk g1, rt_wk g2, disj_one.1 h6⟩
    · cases h6
/-- A set of fibers that separates two nodes. -/
def CutK (n : Net) (a b : Int) (k : Nat) : Prop := ∃ gone : List Int, gone.length = k ∧ gone.Pairwise (· < ·) ∧ (∀ i ∈ gone, 0 ≤ i ∧ i < (n.fibers.length : Int)) ∧ ¬ Con n.fibers gone a b
theorem Wk.idx {F : List Fib} : ∀ {l : List Int} {u w : Int}, Wk F l u w → ∀ i ∈ l, 0 ≤ i ∧ i < (F.length : Int)
  | [], _, _, _ => by simp
  | j :: l, u, w, ⟨v, h1, h2⟩ => by
    intro i hi
    rcases List.mem_cons.1 hi with e | hi
    · subst e
      obtain ⟨f, f1, f2, _⟩ := h1
      have := (List.getElem?_eq_some_iff.1 f2).1
      exact ⟨f1, by omega⟩
    · exact Wk.idx h2 i hi
theorem two_cut {n : Net} {a b : Int} : ¬ Two n.fibers a b ↔ CutK n a b 0 ∨ CutK n a b 1 := by
  rw [two_iff]
  constructor
  · intro h
    rw [Classical.not_forall] at h
    obtain ⟨e, he⟩ := h
    by_cases hi : 0 ≤ e ∧ e < (n.fibers.length : Int)
    · exact Or.inr ⟨[e], rfl, by simp, by simpa using hi, he⟩
    · refine Or.inl ⟨[], rfl, by simp, by simp, ?_⟩
      rintro ⟨l, h1, _⟩
      exact he ⟨l, h1, fun i hi2 hm => by simp at hm; subst hm; exact hi (h1.idx i hi2)⟩
  · rintro (⟨g, g1, _, _, g2⟩ | ⟨g, g1, _, _, g2⟩)
    · have : g = [] := List.eq_nil_of_length_eq_zero g1
      subst this
      intro h
      obtain ⟨l, h1, _⟩ := h 0
      exact g2 ⟨l, h1, by simp⟩
    · match g, g1 with
      | [e], _ => exact fun h => g2 (h e)
end Go.Proofs.Ytlapicgeokjpjaa
