/- Contracts: a first route with no partner, both sides: the walk. -/
import Derived.Test.YtlapicgeokjpjaaGreatTr
namespace Go.Proofs.YtlapicgeokjpjaaGreat
open Go.RowKit Go.PlainAid

def OutTr (n : Net) (s t k : Int) (w : World) (e : Ending) (w' : World) : Prop := e = .returned (.tuple #[.bool (trapF n s t k).1, .bool (trapF n s t k).2]) ∧ Fresh w w'
set_option maxHeartbeats 4000000 in
set_option maxRecDepth 20000 in
theorem implIsTrap_any (v : Value) (n : Net) (s t k : Int) (w : World) (h : NetIn w v n) :
    Calls Tryz.prog 18 #[v, .int .i64 s, .int .i64 t, .int .i64 k] w fun e w' => e = .returned (.tuple #[.bool (trapF n s t k).1, .bool (trapF n s t k).2]) ∧ Fresh w w' := by
  have HN := Lib.hid h
  obtain ⟨qn, cn, pn, cp, rfl, _, _, n1, _, _, _, _⟩ := h
  obtain ⟨W2, hW2⟩ : ∃ W, W = w.alloc (.cells #[.slice qn n.nodes.length cn, .slice pn n.fibers.length cp] 27) := ⟨_, rfl⟩
  have hf2 : Fresh w W2 := by rw [hW2]; exact fnew (frefl _) _
  have hr2 : RowAt W2 w.heap.size 27 [.slice qn n.nodes.length cn, .slice pn n.fibers.length cp] := by rw [hW2]; exact RowAt.new _ _ _
  have HF2 := Lib.hid hf2
  have HR2 := Lib.hid hr2
  have HW2 := Lib.hid hW2
  have HCP := Lib.hid (implCountPairs_any _ n s t k W2 (HN.out.keep hf2))
  clear hf2 hr2 hW2
  cases hok : okK n s t k
  · have HDEF : Hid (trapF n s t k = (false, false)) := by show _ = _; unfold trapF; rw [hok]; rfl
    have HC2 : Hid (countF n s t k = (0, false)) := by show _ = _; unfold countF; rw [hok]; rfl
    rw [HC2.out] at HCP
    clear hok
    go_enter Tryz.func18, Tryz.ntmps18
    go_wp2_with fail
    rw [← HW2.out]
    refine (HCP.out).mono ?_
    rintro e w3 ⟨rfl, hf⟩
    have HF := Lib.hid (fstep HF2.out hf)
    clear hf HCP
    go_wp2
    go_ret2
    exact ⟨by rw [HDEF.out]; (first | done | rfl), HF.out⟩
  · have hok2 : okA n s t = true ∧ kindB k = true := by unfold okK at hok; simpa using hok
    have HOK := Lib.hid hok2
    have HC2 : Hid (countF n s t k = (((pairsF n s t k).length : Int), true)) := by show _ = _; unfold countF; rw [hok]; rfl
    have HDEF : Hid (trapF n s t k = (firstP (pairsF n s t k), true)) := by show _ = _; unfold trapF; rw [hok]; rfl
    rw [HC2.out] at HCP
    clear hok hok2
    by_cases hnil : pairsF n s t k = []
    · rw [hnil] at HCP HDEF
      clear hnil
      go_enter Tryz.func18, Tryz.ntmps18
      go_wp2_with fail
      rw [← HW2.out]
      refine (HCP.out).mono ?_
      rintro e w3 ⟨rfl, hf⟩
      have HF := Lib.hid (fstep HF2.out hf)
      clear hf HCP
      go_wp2
      go_ret2
      exact ⟨by rw [HDEF.out]; (first | done | rfl), HF.out⟩
    · have hcz : (((pairsF n s t k).length : Int) == 0) = false := by
        rw [beq_eq_false_iff_ne]
        have := List.length_pos_iff.2 hnil
        omega
      have HNIL := Lib.hid hnil
      clear hnil
      go_enter Tryz.func18, Tryz.ntmps18
      go_wp2_with fail
      rw [← HW2.out]
      refine (HCP.out).mono ?_
      rintro e w3 ⟨rfl, hf⟩
      have HF := Lib.hid (fstep HF2.out hf)
      have HR3 := Lib.hid (HR2.out.keep hf)
      have c0 := HR3.out.cell (i := 0) rfl
      have c1 := HR3.out.cell (i := 1) rfl
      clear hf HCP
      go_wp2_with fail
      refine (routesBetween_any _ n s t w3 (HN.out.keep HF.out) (pairB_in (okA_pair HOK.out.1)).1 (pairB_in (okA_pair HOK.out.1)).2.1).mono ?_
      rintro e w4 ⟨V, l, rfl, hr, hv, hf4⟩
      obtain ⟨p, c, rfl, hown, _, _⟩ := owns_cap hr.row
      have hll : l.length = (allR n s t).length := by rw [← hv]; simp
      have HF4 := Lib.hid (fstep HF.out hf4)
      have hl200 : l.length ≤ 200 := by rw [hll]; exact (okA_len HOK.out.1).1
      have HLP : Hid (pairsF n s t k = toI (dP n s (l.map LR.val) k) l.length l.length) := by show _ = _; rw [hll, hv]; rfl
      have hl0 : 0 < l.length := by
        rcases Nat.eq_zero_or_pos l.length with h | h
        · exfalso
          refine HNIL.out ?_
          rw [HLP.out, h]; rfl
        · exact h
      have hlz : (0 : Int) < (l.length : Int) := by omega
      obtain ⟨x, hx⟩ : ∃ x, l[0]? = some x := ⟨l[0], List.getElem?_eq_getElem hl0⟩
      rcases hown.cells with hnil | ⟨b, off, rfl, hcl⟩
      · exfalso
        have := congrArg List.length hnil
        rw [flat_len lrC 2 (fun _ => rfl)] at this
        simp at this; omega
      have x0 := hcl (0 * 2 + 0) _ (flat_get lrC 2 (fun _ => rfl) l 0 0 (by omega) x hx)
      have x1 := hcl (0 * 2 + 1) _ (flat_get lrC 2 (fun _ => rfl) l 0 1 (by omega) x hx)
      rw [show off + (0 * 2 + 0) = off by omega] at x0
      rw [show off + (0 * 2 + 1) = off + 1 by omega] at x1
      replace c0 := (HR3.out.keep hf4).cell (i := 0) rfl
      replace c1 := (HR3.out.keep hf4).cell (i := 1) rfl
      have hgood := rts_good (n := n) (s := s) (t := t) hv
      have hxg := hgood x (List.mem_of_getElem? hx)
      obtain ⟨a1, q1, m1, c1', hsh⟩ := rtV_shape (l.find? fun y => disjB n s x.fibs y.fibs k)
      obtain ⟨fb, hfb⟩ : ∃ fb, fb = (l.find? fun y => disjB n s x.fibs y.fibs k).isSome := ⟨_, rfl⟩
      have HFB : Hid (firstP (pairsF n s t k) = !fb) := by
        show _ = _
        have hd0 : dP n s (l.map LR.val) k 0 0 = false := by rw [dP_at hx hx]; exact disj_self hxg.2
        rw [HLP.out, trap_law hd0 (by rw [← HLP.out]; exact HNIL.out), hfb, find_row hx]
      have HPT : Hid (∀ W, Fresh w4 W → Calls Tryz.prog 43 #[.agg #[.slice qn n.nodes.length cn, .slice pn n.fibers.length cp], .slice (some ⟨b, off, none⟩) l.length c, .agg #[.int .i64 x.start, .slice x.q x.fibs.length x.cap], .int .i64 k] W fun e w' => e = .returned (.tuple #[.agg #[.int .i64 a1, .slice q1 m1 c1'], .bool fb]) ∧ Fresh W w') := fun W hW => by
        have := partner_any _ n s t k (some ⟨b, off, none⟩) c l x.q x.cap x.fibs w3.heap.size W (HN.out.keep (fstep HF4.out hW)) (pairB_in (okA_pair HOK.out.1)).1 (pairB_in (okA_pair HOK.out.1)).2.1 (kindB_in HOK.out.2) hgood (by omega) (hr.keep hW) hxg.2 ((hr.fib x (List.mem_of_getElem? hx)).keep hW).ints
        rw [hsh, ← hfb] at this
        rw [hxg.1]
        exact this
      clear hr hv hf4 hown hx hcl hgood hxg hsh hfb hll
      go_wp2
      refine hd_start (n := 12) (S := fun w' => w'.cell? ⟨w.heap.size, 0, none⟩ = some (.slice qn n.nodes.length cn) ∧ w'.cell? ⟨w.heap.size, 1, none⟩ = some (.slice pn n.fibers.length cp) ∧ w'.cell? ⟨b, off, none⟩ = some (.int .i64 x.start) ∧ w'.cell? ⟨b, off + 1, none⟩ = some (.slice x.q x.fibs.length x.cap)) (by kernel_rfl) (by kernel_rfl) ⟨fkeep (fdrew (frefl _)) c0, fkeep (fdrew (frefl _)) c1, fkeep (fdrew (frefl _)) x0, fkeep (fdrew (frefl _)) x1⟩ (fun hHeld => ?_)
      obtain ⟨W0, hW0⟩ : ∃ W, W = w4.drew := ⟨_, rfl⟩
      rw [← hW0] at hHeld ⊢
      have f0 : Fresh w4 W0 := by rw [hW0]; exact fdrew (frefl _)
      clear hW0
      refine hd_tk (i := 0) (v := ?_) rfl ?_ ?_
      rotate_left
      · (intro w hSw; (try dsimp only at hSw); go_simp; first | done | with_reducible rfl)
      try simp only [PU]
      refine hd_tk (i := 1) (v := ?_) rfl ?_ ?_
      rotate_left
      · (intro w hSw; (try dsimp only at hSw); go_simp; first | done | with_reducible rfl)
      try simp only [PU]
      refine hd_tk (i := 2) (v := ?_) rfl ?_ ?_
      rotate_left
      · (intro w hSw; (try dsimp only at hSw); go_simp; first | done | with_reducible rfl)
      try simp only [PU]
      refine hd_tk (i := 3) (v := ?_) rfl ?_ ?_
      rotate_left
      · (intro w hSw; (try dsimp only at hSw); go_simp; first | done | with_reducible rfl)
      try simp only [PU]
      refine hd_tk (i := 4) (v := ?_) rfl ?_ ?_
      rotate_left
      · (intro w hSw; (try dsimp only at hSw); go_simp; first | done | with_reducible rfl)
      try simp only [PU]
      refine hd_tk (i := 5) (v := ?_) rfl ?_ ?_
      rotate_left
      · (intro w hSw; (try dsimp only at hSw); go_simp; first | done | with_reducible rfl)
      try simp only [PU]
      refine hd_ready (rs := [6, 10]) (by kernel_rfl) (by simp) ?_
      refine hd_cons (i := 6) rfl (by kernel_rfl) (fun K hK => ?_) ?_
      · skip
        go_simp
        go_at_call 43
        refine (HPT.out _ f0).mono ?_
        rintro e w5 ⟨rfl, hb5⟩
        have f5 : Fresh w4 w5 := fstep f0 hb5
        go_wp2_with fail
        refine hK.out _ _ ?_ (fun hHeld => ?_)
        · exact ⟨fkeep f5 c0, fkeep f5 c1, fkeep f5 x0, fkeep f5 x1⟩
        clear hK K
        try simp only [Act.put, List.getElem_toArray, List.getElem_cons_succ, List.getElem_cons_zero, List.setIfInBounds_toArray, List.set_cons_zero, List.set_cons_succ]
        refine hd_tk (i := 7) (v := ?_) rfl ?_ ?_
        rotate_left
        · (intro w hSw; (try dsimp only at hSw); go_simp; first | done | with_reducible rfl)
        try simp only [PU]
        refine hd_tk (i := 8) (v := ?_) rfl ?_ ?_
        rotate_left
        · (intro w hSw; (try dsimp only at hSw); go_simp; first | done | with_reducible rfl)
        try simp only [PU]
        refine hd_tk (i := 9) (v := ?_) rfl ?_ ?_
        rotate_left
        · (intro w hSw; (try dsimp only at hSw); go_simp; first | done | with_reducible rfl)
        try simp only [PU]
        refine hd_one (i := 10) rfl (by kernel_rfl) (by kernel_rfl) (fun K hK => ?_)
        (go_simp; obtain ⟨wa, hwa⟩ : ∃ W, W = w5.alloc (.cells #[.int .i64 0, .slice none 0 0] 39) := ⟨_, rfl⟩; rw [← hwa]; have fa : Fresh w4 wa := (by rw [hwa]; exact fnew f5 _); have ra : RowAt wa w5.heap.size 39 [.int .i64 0, .slice none 0 0] := (by rw [hwa]; exact RowAt.new _ _ _); have z0 := ra.frozen 0; have z1 := ra.frozen 1; have v0 := ra.cell (i := 0) rfl; have v1 := ra.cell (i := 1) rfl; have hg5 : w4.heap.size ≤ w5.heap.size := f5.size; clear hwa)
        refine hK.out _ _ ?_ (fun hHeld => ?_)
        · exact ⟨fkeep fa c0, fkeep fa c1, fkeep fa x0, fkeep fa x1⟩
        clear hK K
        try simp only [PU]
        have fz : ∀ u u', Fresh w4 ((wa.setCell ⟨w5.heap.size, 0, none⟩ u).setCell ⟨w5.heap.size, 1, none⟩ u') := fun u u' => fset (fset fa hg5 _) hg5 _
        have HFZ := Lib.hid fz
        refine hd_one (i := 11) rfl (by kernel_rfl) (by kernel_rfl) (fun K hK => ?_)
        (go_simp)
        refine hK.out _ _ ?_ (fun hHeld => ?_)
        · exact ⟨fkeep (fz _ _) c0, fkeep (fz _ _) c1, fkeep (fz _ _) x0, fkeep (fz _ _) x1⟩
        clear hK K
        try simp only [PU]
        refine hd_done (by kernel_rfl) ?_
        clear hHeld c0 c1 x0 x1
        simp only [List.drop_succ_cons, List.drop_zero]
        go_wp2
        go_ret2
        exact ⟨by rw [HDEF.out, HFB.out]; (first | done | rfl), fstep HF4.out (HFZ.out _ _)⟩
      refine hd_cons (i := 10) rfl (by kernel_rfl) (fun K hK => ?_) ?_
      · skip
        go_simp
        obtain ⟨wa, hwa⟩ : ∃ W, W = W0.alloc (.cells #[.int .i64 0, .slice none 0 0] 39) := ⟨_, rfl⟩
        rw [← hwa]
        have fa : Fresh w4 wa := by rw [hwa]; exact fnew f0 _
        have ra : RowAt wa W0.heap.size 39 [.int .i64 0, .slice none 0 0] := by rw [hwa]; exact RowAt.new _ _ _
        have hg5 : w4.heap.size ≤ W0.heap.size := f0.size
        clear hwa
        refine hK.out _ _ ?_ (fun hHeld => ?_)
        · exact ⟨fkeep fa c0, fkeep fa c1, fkeep fa x0, fkeep fa x1⟩
        clear hK K
        try simp only [Act.put, List.getElem_toArray, List.getElem_cons_succ, List.getElem_cons_zero, List.setIfInBounds_toArray, List.set_cons_zero, List.set_cons_succ]
        refine hd_one (i := 6) rfl (by kernel_rfl) (by kernel_rfl) (fun K hK => ?_)
        (go_simp; go_at_call 43; refine (HPT.out _ fa).mono ?_; rintro e w5 ⟨rfl, hb5⟩; have f5 : Fresh w4 w5 := fstep fa hb5; have ra5 := ra.keep hb5; have z0 := ra5.frozen 0; have z1 := ra5.frozen 1; have v0 := ra5.cell (i := 0) rfl; have v1 := ra5.cell (i := 1) rfl; go_wp2_with fail)
        refine hK.out _ _ ?_ (fun hHeld => ?_)
        · exact ⟨fkeep f5 c0, fkeep f5 c1, fkeep f5 x0, fkeep f5 x1⟩
        clear hK K
        try simp only [PU]
        refine hd_tk (i := 7) (v := ?_) rfl ?_ ?_
        rotate_left
        · (intro w hSw; (try dsimp only at hSw); go_simp; first | done | with_reducible rfl)
        try simp only [PU]
        refine hd_tk (i := 8) (v := ?_) rfl ?_ ?_
        rotate_left
        · (intro w hSw; (try dsimp only at hSw); go_simp; first | done | with_reducible rfl)
        try simp only [PU]
        refine hd_tk (i := 9) (v := ?_) rfl ?_ ?_
        rotate_left
        · (intro w hSw; (try dsimp only at hSw); go_simp; first | done | with_reducible rfl)
        try simp only [PU]
        have fz : ∀ u u', Fresh w4 ((w5.setCell ⟨W0.heap.size, 0, none⟩ u).setCell ⟨W0.heap.size, 1, none⟩ u') := fun u u' => fset (fset f5 hg5 _) hg5 _
        have HFZ := Lib.hid fz
        refine hd_one (i := 11) rfl (by kernel_rfl) (by kernel_rfl) (fun K hK => ?_)
        (go_simp)
        refine hK.out _ _ ?_ (fun hHeld => ?_)
        · exact ⟨fkeep (fz _ _) c0, fkeep (fz _ _) c1, fkeep (fz _ _) x0, fkeep (fz _ _) x1⟩
        clear hK K
        try simp only [PU]
        refine hd_done (by kernel_rfl) ?_
        clear hHeld c0 c1 x0 x1
        simp only [List.drop_succ_cons, List.drop_zero]
        go_wp2
        go_ret2
        exact ⟨by rw [HDEF.out, HFB.out]; (first | done | rfl), fstep HF4.out (HFZ.out _ _)⟩
      exact hd_nil
end Go.Proofs.YtlapicgeokjpjaaGreat
