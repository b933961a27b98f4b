/- Contracts: GreedyOrder, the reference's side. -/
import Derived.Test.YtmpdljcihiidaaaGreatGo3
namespace Go.Proofs.YtmpdljcihiidaaaGreat
open Go.RowKit Go.PlainAid

theorem outGo_new {w w' : World} (hf : Fresh w w') : OutGo w ([], false) (.returned (.tuple #[.slice (some ⟨w'.heap.size, 0, none⟩) 0 0, .bool false])) (w'.alloc (.cells #[] 3)) :=
  ⟨_, _, rfl, Or.inr ⟨w'.heap.size, [], rfl, hf.size, RowAt.new w' _ []⟩, fnew hf _⟩
set_option maxHeartbeats 4000000 in
set_option maxRecDepth 20000 in
theorem specGreedyOrder_any (v : Value) (n : Net) (u : Value) (L : List RqT) (w : World) (h : NetIn w v n) (hu : RqIn w u L) :
    Calls Tryz.prog 29 #[v, u] w (OutGo w (goF n L)) := by
  obtain ⟨p, cap, l, rfl, hl, hs, hL⟩ := hu
  have HN := Lib.hid h
  have HL := Lib.hid hl
  have HSM := Lib.hid hs
  obtain ⟨q, m, c, p', k', d', rfl⟩ := h.shape
  obtain ⟨W1, hW1⟩ : ∃ W1, W1 = w.alloc (.cells #[.slice q m c, .slice p' k' d'] 34) := ⟨_, rfl⟩
  have hf1 : Fresh w W1 := by rw [hW1]; exact fnew (frefl _) _
  have HF1 := Lib.hid hf1
  have HW1 := Lib.hid hW1
  have HOK := Lib.hid (l12Good_any _ n p cap l W1 (HN.out.keep hf1) (HL.out.keep hf1) hs)
  subst hL
  clear h hl hs hf1 hW1
  cases hok : reqsB n (l.map LQ.val)
  · have HDEF := Lib.hid (goF_no hok)
    rw [hok] at HOK
    clear hok
    go_enter Tryz.func29, Tryz.ntmps29
    go_wp2_with fail
    rw [← HW1.out]
    refine (HOK.out).mono ?_
    rintro e w2 ⟨rfl, hf⟩
    have HF := Lib.hid (fstep HF1.out hf)
    clear hf
    go_wp2
    go_ret2
    rw [HDEF.out]
    exact outGo_new HF.out
  · have hone := reqs_one hok
    have hcs := reqs_cnt hok
    have h7 : l.length ≤ 7 := by have := hone.2; simpa using this
    have HB := Lib.hid hok
    have HONE := Lib.hid hone.1
    have HCS := Lib.hid hcs.1
    have HLE : Hid ((l.map LQ.val).length = l.length) := by show _ = _; simp
    rw [hok] at HOK
    clear hone hcs hok
    cases hex : exA (l.map LQ.val) with
    | none =>
      have HDEF := Lib.hid (goF_ex HB.out hex)
      have HEQ := Lib.hid (axF_ex HB.out hex)
      clear hex
      go_enter Tryz.func29, Tryz.ntmps29
      go_wp2_with fail
      rw [← HW1.out]
      refine (HOK.out).mono ?_
      rintro e w2 ⟨rfl, hf⟩
      have HF := Lib.hid (fstep HF1.out hf)
      have HE := l12Exact_any p cap l w2 n (HL.out.keep HF.out) HSM.out HONE.out HCS.out h7 HB.out
      unfold OutAg at HE
      rw [HEQ.out] at HE
      have HEX := Lib.hid HE
      clear hf HE
      go_wp2_with fail
      refine (HEX.out).mono ?_
      rintro e w3 ⟨p3, c3, rfl, _, hf3⟩
      have HF3 := Lib.hid (fstep HF.out hf3)
      clear hf3 HEX
      go_wp2
      go_ret2
      rw [HDEF.out]
      exact outGo_new HF3.out
    | some r =>
      obtain ⟨B, hh⟩ := r
      have HRE := Lib.hid hex
      have HEQ := Lib.hid (axF_yes HB.out hex)
      clear hex
      go_enter Tryz.func29, Tryz.ntmps29
      go_wp2_with fail
      rw [← HW1.out]
      refine (HOK.out).mono ?_
      rintro e w2 ⟨rfl, hf⟩
      have HF := Lib.hid (fstep HF1.out hf)
      have HE := l12Exact_any p cap l w2 n (HL.out.keep HF.out) HSM.out HONE.out HCS.out h7 HB.out
      unfold OutAg at HE
      rw [HEQ.out] at HE
      have HEX := Lib.hid HE
      clear hf HE
      go_wp2_with fail
      refine (HEX.out).mono ?_
      rintro e w3 ⟨p3, c3, rfl, _, hf3⟩
      have HF3 := Lib.hid (fstep HF.out hf3)
      clear hf3 HEX
      obtain ⟨W4, hW4⟩ : ∃ W, W = w3.alloc (.cells #[] 3) := ⟨_, rfl⟩
      have hf4 : Fresh w3 W4 := by rw [hW4]; exact fnew (frefl _) _
      have ho4 : Own W4 w.heap.size 3 (some ⟨w3.heap.size, 0, none⟩) [] := by rw [hW4]; exact Or.inr ⟨w3.heap.size, [], rfl, HF3.out.size, RowAt.new w3 _ []⟩
      have HF4 := Lib.hid (fstep HF3.out hf4)
      have HC := Lib.hid (l12First_any w p cap l hh HL.out HSM.out HONE.out h7 l.length [] (some ⟨w3.heap.size, 0, none⟩) 0 W4 (by simp) (PreOk.nil _) HF4.out ho4)
      obtain ⟨R, hR⟩ : ∃ R, R = goS (l.map LQ.val) hh l.length [] := ⟨_, rfl⟩
      rw [← hR] at HC
      have HR := Lib.hid hR
      have HW4 := Lib.hid hW4
      clear hR hW4 hf4 ho4
      go_wp2_with fail
      rw [← HW4.out]
      refine (HC.out).mono ?_
      rintro e w5 ⟨q5, c5, rfl, ho5, hf5⟩
      have HF5 := Lib.hid (fstep HF4.out hf5)
      cases R with
      | none =>
        have HDEF := Lib.hid (goF_out HB.out HRE.out (by rw [HLE.out]; exact HR.out.symm))
        clear ho5 hf5 HC
        simp only [Option.getD_none, Option.isSome_none]
        go_wp2
        go_ret2
        rw [HDEF.out]
        exact outGo_new HF5.out
      | some o =>
        have HDEF := Lib.hid (goF_yes HB.out HRE.out (by rw [HLE.out]; exact HR.out.symm))
        have HO5 := Lib.hid ho5
        clear ho5 hf5 HC
        simp only [Option.getD_some, Option.isSome_some] at HO5 ⊢
        go_wp2
        go_ret2
        rw [HDEF.out]
        exact ⟨q5, c5, rfl, HO5.out, HF5.out⟩
theorem implGreedyOrder_l (v : Value) (n : Net) (u : Value) (L : List RqT) (w : World) (h : NetIn w v n) (hu : RqIn w u L) :
    Calls Tryz.prog 30 #[v, u] w fun e w' => ∃ p c, e = .returned (.tuple #[.slice p (goF n L).1.length c, .bool (goF n L).2]) ∧ Own w' w.heap.size 3 p ((goF n L).1.map iv) ∧ Fresh w w' := implGreedyOrder_any v n u L w h hu
theorem specGreedyOrder_l (v : Value) (n : Net) (u : Value) (L : List RqT) (w : World) (h : NetIn w v n) (hu : RqIn w u L) :
    Calls Tryz.prog 29 #[v, u] w fun e w' => ∃ p c, e = .returned (.tuple #[.slice p (goF n L).1.length c, .bool (goF n L).2]) ∧ Own w' w.heap.size 3 p ((goF n L).1.map iv) ∧ Fresh w w' := specGreedyOrder_any v n u L w h hu
end Go.Proofs.YtmpdljcihiidaaaGreat
