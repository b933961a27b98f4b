/- Contracts: the first order whose greedy assignment has a height, the reference's search. -/
import Derived.Test.YtmpdljcihiidaaaGreatGo
import Derived.Test.YtmpdljcihiidaaaGreatPc3
namespace Go.Proofs.YtmpdljcihiidaaaGreat
open Go.RowKit Go.PlainAid

set_option maxHeartbeats 2000000 in
theorem l1OwnG_any (q : Option Addr) (cap : Nat) (l : List Int) (w : World) (hI : Ints w q l) (hn : l.length ≤ 1048576) :
    Calls Tryz.prog 124 #[.slice q l.length cap] w fun e w' => ∃ q' c', e = .returned (.slice q' l.length c') ∧ w'.ownsRow w.heap.size 3 1 (.slice q' l.length c') l.length (l.map iv) ∧ Fresh w w' := by
  have HI := Lib.hid hI
  clear hI
  go_enter Tryz.func124, Tryz.ntmps124
  go_wp2_with (at_builtin; refine wpList_app_many Tryz.underlying58 infoInt rfl (by decide) (by decide) w _ _ 0 [] q l.length cap (l.map iv) (by simp) (one_ints l) rfl _ _ rfl rfl (World.ownsRow_made w #[] 0 (Nat.le_refl _) (by simp [maxLen]) rfl) rfl (HI.out.keep (fnew (frefl _) _)) (by omega) hn (fnew (frefl _) _) ?_; intro v' w' hown3 hf3 _)
  have HO := Lib.hid hown3
  have HF := Lib.hid hf3
  clear hown3 hf3
  go_wp2
  go_ret
  have := HO.out
  rw [Nat.zero_add, List.nil_append] at this
  obtain ⟨q', c', hv, _, _, _⟩ := owns_cap this
  exact ⟨q', c', by rw [hv]; (first | done | rfl), by rw [← hv]; exact this, HF.out⟩
set_option maxHeartbeats 8000000 in
set_option maxRecDepth 100000 in
theorem l12First_any (w0 : World) (p : Option Addr) (cap : Nat) (l : List LQ) (h : Int) (hl : Reqs w0 p l) (hs : ReqsSmall l) (hc : CntOne (l.map LQ.val)) (h7 : l.length ≤ 7) :
    ∀ (k : Nat) (pre : List Int) (q : Option Addr) (cq : Nat) (w : World), pre.length + k = l.length → PreOk l.length pre → Fresh w0 w → Own w w0.heap.size 3 q (pre.map iv) →
      Calls Tryz.prog 81 #[.slice p l.length cap, .slice q pre.length cq, .int .i64 h] w fun e w' => ∃ q' c', e = .returned (.tuple #[.slice q' ((goS (l.map LQ.val) h k pre).getD pre).length c', .bool (goS (l.map LQ.val) h k pre).isSome]) ∧ Own w' w0.heap.size 3 q' (((goS (l.map LQ.val) h k pre).getD pre).map iv) ∧ Fresh w w' := by
  have HL := Lib.hid hl
  have HSM := Lib.hid hs
  have HC := Lib.hid hc
  have HML : Hid ((l.map LQ.val).length = l.length) := by show _ = _; simp
  clear hl hs hc
  intro k
  induction k with
  | zero =>
    intro pre q cq w hk hg fr ho
    have hz : ((pre.length : Int) == (l.length : Int)) = true := by simp; omega
    have HGR := Lib.hid (l12Greedy_any p q cap cq l pre w (HL.out.keep fr) HSM.out HC.out h7 ho.ints (by omega) hg.1)
    obtain ⟨R, hR⟩ : ∃ R, R = goS (l.map LQ.val) h 0 pre := ⟨_, rfl⟩
    have HR := Lib.hid hR
    have HO := Lib.hid ho
    rw [← hR]
    clear hk hg hR ho
    unfold OutAg agR at HGR
    cases hgt : gTo (l.map LQ.val) pre pre.length with
    | none =>
      have HRN : Hid (R = none) := by show _ = _; rw [HR.out]; unfold goS; rw [grB_none hgt]; rfl
      rw [hgt] at HGR
      clear hgt
      simp only at HGR
      go_enter Tryz.func81, Tryz.ntmps81
      go_wp2_with fail
      refine (HGR.out).mono ?_
      rintro e w2 ⟨pg, cg, rfl, _, hf⟩
      have HF := Lib.hid hf
      clear hf
      go_wp2
      go_ret2
      rw [HRN.out]
      exact ⟨q, cq, rfl, HO.out.keep HF.out, HF.out⟩
    | some B =>
      have HRS : Hid (R = if decide (heightTo B = h) = true then some pre else none) := by show _ = _; rw [HR.out]; unfold goS; rw [grB_some hgt]
      rw [hgt] at HGR
      clear hgt
      simp only at HGR
      by_cases hh : heightTo B = h
      · have hhb : (heightTo B == h) = true := by simp [hh]
        have HRT : Hid (R = some pre) := by show _ = _; rw [HRS.out]; simp [hh]
        clear hh
        go_enter Tryz.func81, Tryz.ntmps81
        go_wp2_with fail
        refine (HGR.out).mono ?_
        rintro e w2 ⟨pg, cg, rfl, _, hf⟩
        have HF := Lib.hid hf
        clear hf
        go_wp2
        go_ret2
        rw [HRT.out]
        exact ⟨q, cq, rfl, HO.out.keep HF.out, HF.out⟩
      · have hhb : (heightTo B == h) = false := by simp [hh]
        have HRT : Hid (R = none) := by show _ = _; rw [HRS.out]; simp [hh]
        clear hh
        go_enter Tryz.func81, Tryz.ntmps81
        go_wp2_with fail
        refine (HGR.out).mono ?_
        rintro e w2 ⟨pg, cg, rfl, _, hf⟩
        have HF := Lib.hid hf
        clear hf
        go_wp2
        go_ret2
        rw [HRT.out]
        exact ⟨q, cq, rfl, HO.out.keep HF.out, HF.out⟩
  | succ k ih =>
    intro pre q cq w hk hg fr ho
    have hz : ((pre.length : Int) == (l.length : Int)) = false := by rw [beq_eq_false_iff_ne]; omega
    have hn7 : pre.length ≤ 7 := by omega
    have HIH := Lib.hid ih
    have HG := Lib.hid hg
    obtain ⟨R, hR⟩ : ∃ R, R = goS (l.map LQ.val) h (k + 1) pre := ⟨_, rfl⟩
    have HR := Lib.hid hR
    have HK := Lib.hid hk
    have HO := Lib.hid ho
    have HFR := Lib.hid fr
    rw [← hR]
    clear hk ih hR hg ho fr
    go_enter Tryz.func81, Tryz.ntmps81
    go_wp2
    go_loopw [11] (fun i wr => ∃ f : Nat, f ≤ l.length ∧ i = .int .i64 f ∧ Fresh w wr ∧ (∀ g : Nat, g < f → (g : Int) ∉ pre → goS (l.map LQ.val) h k (pre ++ [(g : Int)]) = none)) (fun i _ => l.length - (intOf i).toNat)
    case atStart => exact ⟨0, by omega, rfl, frefl _, fun g hg => by omega⟩
    case round =>
      obtain ⟨f, hfl, rfl, hf, hno⟩ := hrel
      have HF := Lib.hid hf
      have HNO := Lib.hid hno
      have hoi := (HO.out.keep hf).ints
      have HHA := Lib.hid (l1Has_any q cq pre (f : Int) wr hoi (by omega))
      have HOWN := Lib.hid (l1OwnG_any q cq pre wr hoi (by omega))
      clear hf hno hoi
      by_cases hlt : f < l.length
      · have hltz : (f : Int) < (l.length : Int) := by omega
        cases hm : decide ((f : Int) ∈ pre)
        · rw [hm] at HHA
          have HM : Hid ((f : Int) ∉ pre) := Lib.hid (of_decide_eq_false hm)
          clear hm
          go_wp2_with (go_at_call 123; refine (HHA.out).mono ?_; rintro e w2 ⟨rfl, rfl⟩)
          refine (HOWN.out).mono ?_
          rintro e w2 ⟨q2, c2, rfl, own2, hb2⟩
          have HB2 := Lib.hid hb2
          clear hb2 HHA HOWN
          go_wp2_with (at_builtin; refine wpList_app_b Tryz.underlying58 infoI1 rfl (by decide) (by decide) wr w2 _ pre.length (pre.map iv) [.int .i64 (f : Int)] _ rfl (by intro u hu; simp at hu; rcases hu with rfl; rfl) rfl _ _ rfl rfl own2 rfl rfl (by omega) HB2.out ?_; intro v' w8 hown8 hf8 hk8; obtain ⟨q8, c8, hv8, ho8, _, _⟩ := owns_cap hown8; subst hv8; have HO8 := Lib.hid ho8; have HF8 := Lib.hid hf8; clear hown8 hf8 hk8 own2)
          have hpl : (pre ++ [(f : Int)]).length = pre.length + 1 := by simp
          have hpc : (pre ++ [(f : Int)]).map iv = pre.map iv ++ [.int .i64 (f : Int)] := by simp
          have hsz : w0.heap.size ≤ wr.heap.size := (fstep HFR.out HF.out).size
          have HC9 := Lib.hid (HIH.out (pre ++ [(f : Int)]) q8 c8 w8 (by rw [hpl]; have := HK.out; omega) (HG.out.snoc hlt HM.out) (fstep (fstep HFR.out HF.out) HF8.out) (by rw [hpc]; exact HO8.out.mono hsz))
          rw [hpl] at HC9
          clear hpl hpc
          go_wp2_with fail
          refine (HC9.out).mono ?_
          rintro e w10 ⟨q10, c10, rfl, ho10, hf10⟩
          have HF10 := Lib.hid (fstep (fstep HF.out HF8.out) hf10)
          cases hres : goS (l.map LQ.val) h k (pre ++ [(f : Int)]) with
          | some B =>
            rw [hres] at ho10
            have HO10 := Lib.hid ho10
            have HRS2 : Hid (R = some B) := by
              show _ = _
              rw [HR.out]
              exact goS_some (by rw [HML.out]; exact hlt) (fun g hg hm => HNO.out g hg hm) HM.out hres
            clear ho10 hf10 hres HC9
            simp only [Option.isSome_some, Option.getD_some]
            go_wp2
            go_ret2
            rw [HRS2.out]
            exact ⟨q10, c10, rfl, HO10.out, HF10.out⟩
          | none =>
            have HNO2 : Hid (∀ g : Nat, g < f + 1 → (g : Int) ∉ pre → goS (l.map LQ.val) h k (pre ++ [(g : Int)]) = none) := by
              intro g hg h1
              rcases Nat.eq_or_lt_of_le (show g ≤ f by omega) with h' | h'
              · subst h'; exact hres
              · exact HNO.out g h' h1
            clear ho10 hf10 hres HC9
            simp only [Option.isSome_none, Option.getD_none]
            go_wp2
            go_roundw
            case rel => exact ⟨f + 1, by omega, by go_num, HF10.out, HNO2.out⟩
            case measure => simp [intOf]; omega
        · rw [hm] at HHA
          have HM : Hid ((f : Int) ∈ pre) := Lib.hid (of_decide_eq_true hm)
          clear hm
          have HNO2 : Hid (∀ g : Nat, g < f + 1 → (g : Int) ∉ pre → goS (l.map LQ.val) h k (pre ++ [(g : Int)]) = none) := by
            intro g hg h1
            rcases Nat.eq_or_lt_of_le (show g ≤ f by omega) with h' | h'
            · subst h'; exact absurd HM.out h1
            · exact HNO.out g h' h1
          go_wp2_with (go_at_call 123; refine (HHA.out).mono ?_; rintro e w2 ⟨rfl, rfl⟩)
          go_roundw
          case rel => exact ⟨f + 1, by omega, by go_num, HF.out, HNO2.out⟩
          case measure => simp [intOf]; omega
      · have hltz : ¬ (f : Int) < (l.length : Int) := by omega
        have HRN : Hid (R = none) := by
          show _ = _
          rw [HR.out]
          exact goS_none fun g hg hm => HNO.out g (by rw [HML.out] at hg; omega) hm
        go_wp2
        go_ret2
        rw [HRN.out]
        first | exact ⟨q, cq, rfl, HO.out.keep HF.out, HF.out⟩ | exact ⟨q, ⟨cq, rfl⟩, HO.out.keep HF.out, HF.out⟩
end Go.Proofs.YtmpdljcihiidaaaGreat
