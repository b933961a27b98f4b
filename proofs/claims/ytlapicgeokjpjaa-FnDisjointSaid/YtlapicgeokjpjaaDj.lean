/- Contracts: disjoint routes, both sides. -/
import Derived.Test.YtlapicgeokjpjaaY7
import Derived.Test.YtlapicgeokjpjaaGr4
namespace Go.Proofs.Ytlapicgeokjpjaa
open Go.RowKit Go.PlainAid

def kindB (k : Int) : Bool := inB k 1 3
theorem isKind_any (k : Int) (w : World) : Calls Try.prog 19 #[.int .i64 k] w fun e w' => e = .returned (.bool (kindB k)) ∧ w = w' := by
  go_enter Try.func19, Try.ntmps19
  go_wp2_with (go_at_call 39; refine (within_any _ _ _ _).mono ?_; rintro e w1 ⟨rfl, rfl⟩)
  go_ret
  exact ⟨rfl, rfl⟩
theorem l7Kind_any (k : Int) (w : World) : Calls Try.prog 22 #[.int .i64 k] w fun e w' => e = .returned (.bool (kindB k)) ∧ w = w' := by
  go_enter Try.func22, Try.ntmps22
  go_wp2_with (go_at_call 42; refine (l1In_any _ _ _ _).mono ?_; rintro e w1 ⟨rfl, rfl⟩)
  go_ret
  exact ⟨rfl, rfl⟩
set_option maxHeartbeats 2000000 in
set_option maxRecDepth 20000 in
theorem disjoint_any (v : Value) (n : Net) (s t : Int) (qa qb : Option Addr) (ca cb : Nat) (a b : List Int) (k : Int) (w : World) (h : NetIn w v n) (hnet : netB n = true) (hs : 0 ≤ s ∧ s < (n.nodes.length : Int)) (hk : 1 ≤ k ∧ k ≤ 3) (ga : RtGood n s t a) (gb : RtGood n s t b) (ha : Ints w qa a) (hb : Ints w qb b) :
    Calls Try.prog 21 #[v, .agg #[.int .i64 s, .slice qa a.length ca], .agg #[.int .i64 s, .slice qb b.length cb], .int .i64 k] w fun e w' => e = .returned (.bool (disjB n s a b k)) ∧ Fresh w w' := by
  have HN := Lib.hid h
  have HA := Lib.hid ha
  have HB := Lib.hid hb
  have HOA := Lib.hid (rt_ok hnet hs ga)
  have HOB := Lib.hid (rt_ok hnet hs gb)
  have HNA := Lib.hid (nodes_at hnet hs ga)
  have HNB := Lib.hid (nodes_at hnet hs gb)
  have HTWO := Lib.hid (disj_two hnet hs ga gb)
  have HZ := Lib.hid (common_zero a b)
  have hinb : inB s 0 ((n.nodes.length : Int) - 1) = true := inB_iff.2 (by omega)
  have HVA : Hid (visR n.nodes.length n.fibers s a = some (nodesR n s a)) := by
    show _ = _; rw [visR_go hinb (by intro e; exact ga.1 (List.eq_nil_of_length_eq_zero e))]; exact HNA.out.1
  have HVB : Hid (visR n.nodes.length n.fibers s b = some (nodesR n s b)) := by
    show _ = _; rw [visR_go hinb (by intro e; exact gb.1 (List.eq_nil_of_length_eq_zero e))]; exact HNB.out.1
  obtain ⟨qn, cn, pn, cp, rfl, _, _, n1, _, _, _, _⟩ := h
  obtain ⟨W3, hW3, hsz3, hf3, r1, r2, r3⟩ := three_rows w [.slice qn n.nodes.length cn, .slice pn n.fibers.length cp] [.int .i64 s, .slice qa a.length ca] [.int .i64 s, .slice qb b.length cb] 27 30 30
  have HF3 := Lib.hid hf3
  have HW3 := Lib.hid hW3
  have HR1 := Lib.hid r1
  have HR2 := Lib.hid r2
  have HR3 := Lib.hid r3
  by_cases h2 : k = 2
  · subst h2
    have HAP := Lib.hid (apart_any _ n qa qb ca cb a b W3 (HN.out.keep hf3) (net_at hnet).2.1 (risk_ok hnet) (HA.out.keep hf3) HOA.out.2 (HB.out.keep hf3) HOB.out.2 HOA.out.1 HOB.out.1)
    have HD : Hid (disjB n s a b 2 = apartF n.fibers a b) := by show _ = _; unfold disjB; rw [if_pos rfl]
    clear ha hb ga gb hs hnet hinb hk hf3 hW3 hsz3 r1 r2 r3
    go_enter Try.func21, Try.ntmps21
    go_wp2_with fail
    rw [← HW3.out]
    refine (HAP.out).mono ?_
    rintro e w4 ⟨rfl, hf⟩
    have HF := Lib.hid hf
    clear hf
    go_wp2
    go_ret
    exact ⟨ret_bool HD.out.symm, fstep HF3.out HF.out⟩
  · have hz : (k == 2) = false := by rw [beq_eq_false_iff_ne]; exact h2
    have HD : Hid (disjB n s a b k = (!usesB a b && (k == 1 || !shareB (nodesR n s a) (nodesR n s b)))) := by show _ = _; unfold disjB; rw [if_neg h2]
    have HV1 := Lib.hid (visited_any _ n s qa ca a W3 (HN.out.keep hf3) (HA.out.keep hf3) HOA.out.2)
    rw [HVA.out] at HV1
    clear ha hb ga gb hs hnet hinb hf3 hW3 hsz3 r1 r2 r3 h2
    go_enter Try.func21, Try.ntmps21
    go_wp2_with fail
    rw [← HW3.out]
    refine (HV1.out).mono ?_
    rintro e w4 ⟨px, cx, xs, rfl, hf4, hx⟩
    obtain ⟨rfl, hxo⟩ := hx _ rfl
    have HF4 := Lib.hid hf4
    have HX4 := Lib.hid hxo
    have c0 := (HR1.out.keep hf4).cell (i := 0) rfl
    have c1 := (HR1.out.keep hf4).cell (i := 1) rfl
    have c2 := (HR3.out.keep hf4).cell (i := 0) rfl
    have c3 := (HR3.out.keep hf4).cell (i := 1) rfl
    have HV2 := Lib.hid (visited_any _ n s qb cb b w4 (HN.out.keep (fstep HF3.out hf4)) ((HB.out.keep HF3.out).keep hf4) HOB.out.2)
    rw [HVB.out] at HV2
    clear hf4 hx hxo HV1
    go_wp2_with fail
    refine (HV2.out).mono ?_
    rintro e w5 ⟨py, cy, ys, rfl, hf5, hy⟩
    obtain ⟨rfl, hyo⟩ := hy _ rfl
    have HF5 := Lib.hid (fstep HF4.out hf5)
    have HX5 := Lib.hid (HX4.out.keep hf5)
    have HY5 := Lib.hid hyo
    replace c1 := fkeep hf5 ((HR2.out.keep HF4.out).cell (i := 1) rfl)
    replace c3 := fkeep hf5 c3
    have HC1 := Lib.hid (common_any qa qb ca cb a b w5 ((HA.out.keep HF3.out).keep HF5.out) ((HB.out.keep HF3.out).keep HF5.out) HOA.out.2 HOB.out.2)
    have HC2 : Hid (∀ W, Fresh w5 W → Calls Try.prog 24 #[.slice px (nodesR n s a).length cx, .slice py (nodesR n s b).length cy] W (OutInts W (commonF (nodesR n s a) (nodesR n s b)))) := fun W hW =>
      common_any px py cx cy _ _ W (HX5.out.keep hW).ints (HY5.out.keep hW).ints (by have := HNA.out.2.2.2.1; omega) (by have := HNB.out.2.2.2.1; omega)
    clear hf5 hy hyo HV2 c0 c2
    have hz0 := HZ.out
    have hz2 := HTWO.out
    have HU := Lib.hid HD.out
    cases hu : usesB a b
    · rw [hu] at hz0 HU
      by_cases h1 : k = 1
      · have hk1 : (k == 1) = true := by simp [h1]
        have HRES : Hid (disjB n s a b k = true) := by show _ = _; rw [HU.out, hk1]; rfl
        clear hz2 h1
        go_wp2_with (go_at_call 24; refine (HC1.out).mono ?_; rintro e w6 ⟨p6, c6, rfl, ho6, hf6⟩; have HF6 := Lib.hid hf6; clear ho6 hf6)
        go_ret
        exact ⟨ret_bool HRES.out.symm, fstep (fstep HF3.out HF5.out) HF6.out⟩
      · have hk1 : (k == 1) = false := by rw [beq_eq_false_iff_ne]; exact h1
        have HRES : Hid (disjB n s a b k = !shareB (nodesR n s a) (nodesR n s b)) := by show _ = _; rw [HU.out, hk1]; rfl
        clear h1
        go_wp2_with fail
        refine (HC1.out).mono ?_
        rintro e w6 ⟨p6, c6, rfl, ho6, hf6⟩
        have HF6 := Lib.hid hf6
        clear ho6 hf6
        go_wp2_with fail
        refine (HC2.out _ HF6.out).mono ?_
        rintro e w7 ⟨p7, c7, rfl, ho7, hf7⟩
        have HF7 := Lib.hid hf7
        clear ho7 hf7
        go_wp2
        go_ret
        exact ⟨ret_bool HRES.out.symm, fstep (fstep (fstep HF3.out HF5.out) HF6.out) HF7.out⟩
    · rw [hu] at hz0 HU
      have HRES : Hid (disjB n s a b k = false) := by show _ = _; rw [HU.out]; rfl
      clear hz2
      go_wp2_with (go_at_call 24; refine (HC1.out).mono ?_; rintro e w6 ⟨p6, c6, rfl, ho6, hf6⟩; have HF6 := Lib.hid hf6; clear ho6 hf6)
      go_ret
      exact ⟨ret_bool HRES.out.symm, fstep (fstep HF3.out HF5.out) HF6.out⟩
end Go.Proofs.Ytlapicgeokjpjaa
