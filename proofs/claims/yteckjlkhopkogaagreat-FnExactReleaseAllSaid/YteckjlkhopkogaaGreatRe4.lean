/- Contracts: routes sorted, in place. -/
import Derived.Test.YteckjlkhopkogaaGreatRe3
namespace Go.Proofs.YteckjlkhopkogaaGreat
open Go.RowKit Go.PlainAid

theorem ltOf_eq {α : Type} (c : α → α → Int) : ltOf c = ltC c := rfl
theorem CmpOk.swo {α : Type} {c : α → α → Int} (h : CmpOk c) : Go.Sort.SWO (ltOf c) := by
  refine ⟨fun x => ?_, fun x y z => ?_, fun x y z h1 h2 => ?_⟩
  · have := h.sw x x; simp only [ltOf, decide_eq_false_iff_not]; omega
  · have a1 := h.tr x y z; have a2 := h.tr y z x; have a3 := h.tr z x y
    have s1 := h.sw x y; have s2 := h.sw y x; have s3 := h.sw y z; have s4 := h.sw z y; have s5 := h.sw x z; have s6 := h.sw z x
    simp only [ltOf, decide_eq_true_eq]; omega
  · exact h.trn z y x h2 h1
theorem rts_sorted {w w' : World} {base g n cap : Nat} {sp : List Value} {l : List LR} (_hl : 0 < l.length) (h : Rts w base (.slice (some ⟨g, 0, none⟩) n cap) l) (hb : base ≤ g) (σ : List (Fin l.length)) (hσ : σ.Nodup) (hσl : σ.length = l.length)
    (hcap : l.length ≤ cap) (hc2 : cap ≤ maxLen) (hsz : (l.flatMap lrC ++ sp).length = cap * 2) (hn : n = l.length)
    (hr : RowAt w' g 90 ((σ.map fun i => l[i]).flatMap lrC ++ sp)) (hk : ∀ g' t cs, RowAt w g' t cs → t ≠ 90 → RowAt w' g' t cs) : Rts w' base (.slice (some ⟨g, 0, none⟩) n cap) (σ.map fun i => l[i]) := by
  have hS : ∀ {pp : Option Addr} {cs : List Value}, Own w base 3 pp cs → Own w' base 3 pp cs := by
    intro pp cs h
    rcases h with h1 | ⟨g', sp', a1, a2, a3⟩
    · exact Or.inl h1
    · exact Or.inr ⟨g', sp', a1, a2, hk _ _ _ a3 (by decide)⟩
  have hmem : ∀ x ∈ σ.map fun i => l[i], x ∈ l := by
    intro x hx
    obtain ⟨i, _, rfl⟩ := List.mem_map.1 hx
    exact List.getElem_mem i.isLt
  have hlen : (σ.map fun i => l[i]).length = l.length := by simpa using hσl
  refine ⟨?_, fun x hx => hS (h.fib x (hmem x hx)), ?_, fun x hx => h.cap x (hmem x hx)⟩
  · subst hn
    rw [hlen]
    refine row_owns hb hr hcap hc2 ?_ ?_
    · rw [List.length_append, flat_len lrC 2 (fun _ => rfl), hlen]
      rw [List.length_append, flat_len lrC 2 (fun _ => rfl)] at hsz
      exact hsz
    · rw [flat_len lrC 2 (fun _ => rfl), hlen]
  · intro i j x y hij hx hy
    rw [List.getElem?_map] at hx hy
    cases hi : σ[i]? with
    | none => rw [hi] at hx; cases hx
    | some a =>
      cases hj : σ[j]? with
      | none => rw [hj] at hy; cases hy
      | some b =>
        rw [hi] at hx
        rw [hj] at hy
        simp only [Option.map_some, Option.some.injEq] at hx hy
        have hab : a ≠ b := by
          intro e
          subst e
          obtain ⟨hi1, hi2⟩ := List.getElem?_eq_some_iff.1 hi
          obtain ⟨hj1, hj2⟩ := List.getElem?_eq_some_iff.1 hj
          rcases Nat.lt_or_gt_of_ne hij with h1 | h1
          · exact List.pairwise_iff_getElem.1 hσ i j hi1 hj1 h1 (by rw [hi2, hj2])
          · exact List.pairwise_iff_getElem.1 hσ j i hj1 hi1 h1 (by rw [hi2, hj2])
        exact h.dist a.val b.val x y (fun e => hab (Fin.ext e)) (by rw [← hx]; exact List.getElem?_eq_getElem a.isLt) (by rw [← hy]; exact List.getElem?_eq_getElem b.isLt)
set_option maxHeartbeats 1000000 in
theorem sortRts_any (w0 w : World) (bn : Nat) (qn pn : Option Addr) (m c k d : Nat) (V : Value) (n : Net) (l : List LR) (hR : Rts w w0.heap.size V l) (hf : Fresh w0 w) (hN : NetIn w0 (.agg #[.slice qn m c, .slice pn k d]) n) (hbox : RowAt w bn 35 [.slice qn m c, .slice pn k d])
    (hv : ∀ x ∈ l, RtOk n x.fibs) (hb : LenOk n) (hnd : (l.map LR.val).Nodup) (hlen : l.length ≤ 1099511627775) :
    Calls Tryz.prog 214 #[V, .func (.func 215) #[] #[.pointer (some ⟨bn, 0, none⟩)]] w fun e w' => e = .returned (.tuple #[]) ∧ ∃ l', Rts w' w0.heap.size V l' ∧ l'.map LR.val = ((l.map LR.val).mergeSort fun x y => !ltC (cmpR n.fibers) y x) ∧ Fresh w0 w' ∧
      ∀ g t cs, RowAt w g t cs → t ≠ 90 → RowAt w' g t cs := by
  rcases Nat.eq_zero_or_pos l.length with h0 | h0
  · have hl : l = [] := List.eq_nil_of_length_eq_zero h0
    subst hl
    obtain ⟨p, cap, rfl, _⟩ := own_of_row hR.row
    have hcon := AnyF.slices_SortFunc_none { Tryz.sortR with } p cap (.func (.func 215) #[] #[.pointer (some ⟨bn, 0, none⟩)]) w
    change Calls Tryz.prog 214 _ _ _ at hcon
    refine hcon.mono ?_
    rintro e w' ⟨rfl, rfl⟩
    exact ⟨rfl, [], hR, by simp, hf, fun _ _ _ h _ => h⟩
  · obtain ⟨g, cap, sp, rfl, hbg, hr, hc1, hc2, hsz⟩ := owns_row hR.row h0
    haveI : Inhabited (Fin l.length) := ⟨⟨0, h0⟩⟩
    let enc : Fin l.length → List Value := fun i => lrC l[i]
    let D : Array (Fin l.length) := (List.finRange l.length).toArray
    have hDs : D.size = l.length := by simp [D]
    have hfl : D.toList.flatMap enc = l.flatMap lrC := by
      have e1 : (List.finRange l.length).map (fun i => l[i]) = l := by
        apply List.ext_getElem
        · simp
        · intro i h1 h2; simp
      show (List.finRange l.length).flatMap (fun i => lrC l[i]) = _
      have e2 : (List.finRange l.length).flatMap (fun i => lrC l[i]) = ((List.finRange l.length).map (fun i => l[i])).flatMap lrC := by rw [List.flatMap_map]
      rw [e2, e1]
    have hr2 : RowAt w g 90 (D.toList.flatMap enc ++ sp) := by rw [hfl]; exact hr
    let cf : Fin l.length → Fin l.length → Int := fun i j => cmpR n.fibers l[i].val l[j].val
    have hok : CmpOk cf := (cmpR_ok n.fibers).on fun i : Fin l.length => l[i].val
    have htot : ∀ x y : Fin l.length, ltOf cf x y = false → ltOf cf y x = false → x = y := by
      refine hok.par fun x y e => ?_
      have e2 := cmpR_zero e
      apply Fin.ext
      have h1 : (l.map LR.val)[x.val]? = some l[x].val := by simp
      have h2 : (l.map LR.val)[y.val]? = some l[y].val := by simp
      rcases Nat.lt_trichotomy x.val y.val with h | h | h
      · exact absurd e2 (by have := List.pairwise_iff_getElem.1 hnd x.val y.val (by simp) (by simp) h; simpa using this)
      · exact h
      · exact absurd e2.symm (by have := List.pairwise_iff_getElem.1 hnd y.val x.val (by simp) (by simp) h; simpa using this)
    have hoth : ∀ (mm : Nat) (os : Array Obj) (dk : Array (Fin l.length)) (g' : Nat) (t : TypeId) (cs : List Value), RowAt w g' t cs → t ≠ 90 → RowAt (sortWorldK enc 2 w g 0 mm dk os) g' t cs := fun mm os dk g' t cs h1 h2 =>
      sortK_other h1 (fun e => by subst e; exact h2 (h1.inj hr).1)
    have hcmp : CmpLays Tryz.prog 215 #[.pointer (some ⟨bn, 0, none⟩)] enc 2 cf g 0 D.size w := by
      intro mm os dk hdk x y
      have hfW := sortK_fresh (enc := enc) (k := 2) (n := mm) (d' := dk) (os := os) hf hbg
      have hI : ∀ i : Fin l.length, Ints (sortWorldK enc 2 w g 0 mm dk os) l[i].q l[i].fibs := fun i => by
        have hx := hR.fib l[i] (List.getElem_mem i.isLt)
        rcases hx with ⟨_, h2⟩ | ⟨g', sp', e1, e2, e3⟩
        · exact Or.inl h2
        · have hO : Own (sortWorldK enc 2 w g 0 mm dk os) w0.heap.size 3 l[i].q (l[i].fibs.map iv) := Or.inr ⟨g', sp', e1, e2, hoth mm os dk _ _ _ e3 (by decide)⟩
          exact hO.ints
      have hc := cmpClo_d bn qn pn m c k d n l[x] l[y] (sortWorldK enc 2 w g 0 mm dk os) (hoth mm os dk _ _ _ hbox (by decide)) (hN.keep hfW) (hI x) (hI y) (hv _ (List.getElem_mem x.isLt)) (hv _ (List.getElem_mem y.isLt)) hb
      refine Calls.mono hc ?_
      rintro e w' ⟨rfl, hl⟩
      exact ⟨rfl, hl.grow⟩
    have hcon := AnyQ.slices_SortFunc_total Tryz.sortR 2 Tryz.isAgg90 Tryz.sizeOf90 enc (fun _ => rfl) (fun x v hv => one_rt l[x] v hv) cf hok.swo 215 #[.pointer (some ⟨bn, 0, none⟩)] g 0 cap D w enters_89 hcmp (holdsK_row (k := 2) (fun _ => rfl) (by decide) hr2) hr.lt (by rw [hDs]; omega) htot
    change Calls Tryz.prog 214 _ _ _ at hcon
    rw [hDs] at hcon
    refine hcon.mono ?_
    rintro e w' ⟨rfl, nn, os, rfl⟩
    have hperm : (D.toList.mergeSort fun x y => !(ltOf cf) y x).Perm (List.finRange l.length) := List.mergeSort_perm _ _
    have hrow := sortK_row (enc := enc) (k := 2) (n := nn) (os := os) (fun _ => rfl) (by decide) (d' := (D.toList.mergeSort fun x y => !(ltOf cf) y x).toArray) hr2 (by rw [hDs]; simp [hperm.length_eq])
    refine ⟨rfl, (D.toList.mergeSort fun x y => !(ltOf cf) y x).map fun i => l[i], ?_, ?_, sortK_fresh hf hbg, fun g' t cs h1 h2 => hoth nn os _ g' t cs h1 h2⟩
    · refine rts_sorted h0 hR hbg _ (hperm.nodup_iff.2 (List.nodup_finRange _)) (by rw [hperm.length_eq]; simp) hc1 hc2 hsz rfl ?_ fun g' t cs h1 h2 => hoth nn os _ g' t cs h1 h2
      rw [List.flatMap_map]
      exact hrow
    · rw [List.map_map]
      have e1 : (List.finRange l.length).map (LR.val ∘ fun i => l[i]) = l.map LR.val := by
        apply List.ext_getElem
        · simp
        · intro i h1 h2; simp
      rw [← e1, List.map_mergeSort]
      intro a _ b _
      rfl
end Go.Proofs.YteckjlkhopkogaaGreat
