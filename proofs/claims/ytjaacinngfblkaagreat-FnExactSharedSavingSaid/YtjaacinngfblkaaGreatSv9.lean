/- Contracts: what shared spare routes save, both sides. -/
import Derived.Test.YtjaacinngfblkaaGreatSv8
namespace Go.Proofs.YtjaacinngfblkaaGreat
open Go.RowKit Go.PlainAid

theorem wrap_sm {x : Int} (h1 : -1000000000000 ≤ x) (h2 : x ≤ 1000000000000) : wrap64 x = x := by unfold wrap64; omega
theorem spUsed_len {L : List SvV} : (spL L).length = L.length := by unfold spL; simp
theorem ssF_no {n : Net} {L : List SvV} (h : svsB n L = false) : ssF n L = (0, false) := by unfold ssF; rw [if_neg (by rw [h]; simp)]
theorem ssF_yes {n : Net} {L : List SvV} (h : svsB n L = true) : ssF n L = (ssTo L n.fibers.length, true) := by unfold ssF; rw [if_pos h]
theorem used_step_yes {L : List LtV} {k : Nat} {x : LtV} {f : Int} (hx : L[k]? = some x) (h : f ∈ x.2.1.2) : usedN (L.take (k + 1)) f = usedN (L.take k) f ||| mkN x.2.2 := by rw [used_step f hx, if_pos h]
theorem used_step_no {L : List LtV} {k : Nat} {x : LtV} {f : Int} (hx : L[k]? = some x) (h : ¬ f ∈ x.2.1.2) : usedN (L.take (k + 1)) f = usedN (L.take k) f := by rw [used_step f hx, if_neg h]
/-- The reference's bits of a block, or of none. -/
theorem l8Bits_w (f c : Int) (w : World) (h : BOk (f, c)) : Calls Tryz.prog 150 #[.agg #[.int .i64 f, .int .i64 c]] w fun e w' => e = .returned (.int .i64 (mkN (f, c) : Int)) ∧ Fresh w w' := by
  have e := (mkN_w h).1
  rcases h with h | h
  · obtain ⟨h1, h2, h3⟩ := goodB_iff.1 h
    refine (l8Bits_any f c w h1 h2 h3).mono ?_
    rintro e' w' ⟨rfl, hb⟩
    exact ⟨ret_int e, hb⟩
  · cases h
    have e2 : ((mkN (0, 0) : Nat) : Int) = 0 := by rw [← e]; exact mkF_zero
    rw [e2]
    go_enter Tryz.func150, Tryz.ntmps150
    go_wp2
    go_ret
    exact ⟨rfl, by first | exact frefl _ | exact fnew (frefl _) _⟩
set_option maxHeartbeats 4000000 in
set_option maxRecDepth 100000 in
theorem l13Masks_any (r : Option Addr) (e0 : Nat) (l : List LS) (f : Int) (w : World) (hL : Svs w r l) (hs : SvsSmall l) (hg : ∀ x ∈ l.map LS.val, BOk x.wb ∧ BOk x.sb) :
    Calls Tryz.prog 90 #[.slice r l.length e0, .int .i64 f] w fun e w' => e = .returned (.tuple #[.int .i64 (usedN (wkL (l.map LS.val)) f : Int), .int .i64 (usedN (spL (l.map LS.val)) f : Int)]) ∧ Fresh w w' := by
  obtain ⟨L, hv⟩ : ∃ L, L = l.map LS.val := ⟨_, rfl⟩
  rw [← hv] at hg ⊢
  have hn := hs.1
  have hlen : L.length = l.length := by rw [hv]; simp
  have HLEN := Lib.hid hlen
  have HL := Lib.hid hL
  have HSM := Lib.hid hs
  have HV := Lib.hid hv
  have HG := Lib.hid hg
  have HMW : Hid (∀ k : Nat, usedN ((wkL L).take k) f < 16777216) := fun k => used_w f (fun x hx => by obtain ⟨y, hy, rfl⟩ := List.mem_map.1 (List.mem_of_mem_take hx); exact (hg y hy).1)
  have HMS : Hid (∀ k : Nat, usedN ((spL L).take k) f < 16777216) := fun k => used_w f (fun x hx => by obtain ⟨y, hy, rfl⟩ := List.mem_map.1 (List.mem_of_mem_take hx); exact (hg y hy).2)
  clear hL hs hg hlen hv
  go_enter Tryz.func90, Tryz.ntmps90
  go_wp2
  go_loopw [6, 7, 8] (fun a b i wr => ∃ k : Nat, k ≤ l.length ∧ i = .int .i64 k ∧ a = .int .i64 (usedN ((wkL L).take k) f : Int) ∧ b = .int .i64 (usedN ((spL L).take k) f : Int) ∧ Fresh w wr) (fun _ _ i _ => l.length - (intOf i).toNat)
  case atStart => exact ⟨0, Nat.zero_le _, rfl, rfl, rfl, frefl _⟩
  case round =>
    obtain ⟨k, hk, rfl, rfl, rfl, hf⟩ := hrel
    have HF := Lib.hid hf
    by_cases hlt : k < l.length
    · have hltz : (k : Int) < (l.length : Int) := by omega
      obtain ⟨b, off, x, hr, hx, hm, hi, hc⟩ := (HL.out.keep hf).at hlt
      obtain ⟨hc0, hc1, hc2, hc3, hc4, hc5, hc6, hc7, hc8, hc9⟩ := hc
      subst hr
      have hxv := sval_at HV.out hx
      obtain ⟨hb1, hb2⟩ := HG.out _ (List.mem_of_getElem? hxv)
      have HB1 : Hid (BOk (x.wf, x.wc)) := Lib.hid hb1
      have HB2 : Hid (BOk (x.sf, x.sc)) := Lib.hid hb2
      have HXV := Lib.hid hxv
      obtain ⟨hsz1, hsz2⟩ := HSM.out.2 x hm
      obtain ⟨hi1, hi2⟩ := hi
      have HI2 := Lib.hid hi2
      have HH1 := Lib.hid (l1Has_any x.w.q x.w.cap x.w.fibs f wr hi1 (by omega))
      have hmw := HMW.out k
      have hms := HMS.out k
      have hkw := (mkN_w HB1.out).2
      have hks := (mkN_w HB2.out).2
      have HOW := Lib.hid (or_i64 (usedN ((wkL L).take k) f) (mkN (x.wf, x.wc)) (lt63 hmw) (lt63 hkw))
      have HOS := Lib.hid (or_i64 (usedN ((spL L).take k) f) (mkN (x.sf, x.sc)) (lt63 hms) (lt63 hks))
      obtain ⟨A1, hA1⟩ : ∃ A, A = usedN ((wkL L).take k) f := ⟨_, rfl⟩
      obtain ⟨A2, hA2⟩ : ∃ A, A = usedN ((spL L).take k) f := ⟨_, rfl⟩
      rw [← hA1] at HOW ⊢
      rw [← hA2] at HOS ⊢
      have HA1 := Lib.hid hA1
      have HA2 := Lib.hid hA2
      clear hf hx hxv hb1 hb2 hm hi1 hi2 hmw hms hA1 hA2
      go_wp2_with fail
      refine (HH1.out).mono ?_
      rintro e w1 ⟨rfl, rfl⟩
      by_cases hw : f ∈ x.w.fibs
      · have HNW : Hid (usedN ((wkL L).take (k + 1)) f = A1 ||| mkN (x.wf, x.wc)) := by show _ = _; rw [HA1.out]; exact used_step_yes (wk_at HXV.out) hw
        rw [decide_eq_true hw]
        clear hw HH1
        go_wp2_with fail
        refine (l8Bits_w x.wf x.wc _ HB1.out).mono ?_
        rintro e w2 ⟨rfl, hb⟩
        replace hc6 := fkeep hb hc6
        replace hc7 := fkeep hb hc7
        replace hc8 := fkeep hb hc8
        replace hc9 := fkeep hb hc9
        have HF2 := Lib.hid (fstep HF.out hb)
        have HH2 := Lib.hid (l1Has_any x.s.q x.s.cap x.s.fibs f w2 (HI2.out.keep hb) (by omega))
        clear hb hc0 hc1 hc2 hc3 hc4 hc5
        go_wp2_with fail
        refine (HH2.out).mono ?_
        rintro e w3 ⟨rfl, rfl⟩
        by_cases hw : f ∈ x.s.fibs
        · have HNS : Hid (usedN ((spL L).take (k + 1)) f = A2 ||| mkN (x.sf, x.sc)) := by show _ = _; rw [HA2.out]; exact used_step_yes (sp_at HXV.out) hw
          rw [decide_eq_true hw]
          clear hw HH2
          go_wp2_with fail
          refine (l8Bits_w x.sf x.sc _ HB2.out).mono ?_
          rintro e w4 ⟨rfl, hb⟩
          have HF4 := Lib.hid (fstep HF2.out hb)
          clear hb hc6 hc7 hc8 hc9
          go_wp2
          go_roundw
          case rel => exact ⟨k + 1, by omega, by go_num, by rw [HNW.out, ← HOW.out], by rw [HNS.out, ← HOS.out], HF4.out⟩
          case measure => simp [intOf]; omega
        · have HNS : Hid (usedN ((spL L).take (k + 1)) f = A2) := by show _ = _; rw [HA2.out]; exact used_step_no (sp_at HXV.out) hw
          rw [decide_eq_false hw]
          clear hw HH2 hc6 hc7 hc8 hc9
          go_wp2
          go_roundw
          case rel => exact ⟨k + 1, by omega, by go_num, by rw [HNW.out, ← HOW.out], by rw [HNS.out], HF2.out⟩
          case measure => simp [intOf]; omega
      · have HNW : Hid (usedN ((wkL L).take (k + 1)) f = A1) := by show _ = _; rw [HA1.out]; exact used_step_no (wk_at HXV.out) hw
        have HH2 := Lib.hid (l1Has_any x.s.q x.s.cap x.s.fibs f wr HI2.out (by omega))
        rw [decide_eq_false hw]
        clear hw HH1 hc0 hc1 hc2 hc3 hc4 hc5
        go_wp2_with fail
        refine (HH2.out).mono ?_
        rintro e w3 ⟨rfl, rfl⟩
        by_cases hw : f ∈ x.s.fibs
        · have HNS : Hid (usedN ((spL L).take (k + 1)) f = A2 ||| mkN (x.sf, x.sc)) := by show _ = _; rw [HA2.out]; exact used_step_yes (sp_at HXV.out) hw
          rw [decide_eq_true hw]
          clear hw HH2
          go_wp2_with fail
          refine (l8Bits_w x.sf x.sc _ HB2.out).mono ?_
          rintro e w4 ⟨rfl, hb⟩
          have HF4 := Lib.hid (fstep HF.out hb)
          clear hb hc6 hc7 hc8 hc9
          go_wp2
          go_roundw
          case rel => exact ⟨k + 1, by omega, by go_num, by rw [HNW.out], by rw [HNS.out, ← HOS.out], HF4.out⟩
          case measure => simp [intOf]; omega
        · have HNS : Hid (usedN ((spL L).take (k + 1)) f = A2) := by show _ = _; rw [HA2.out]; exact used_step_no (sp_at HXV.out) hw
          rw [decide_eq_false hw]
          clear hw HH2 hc6 hc7 hc8 hc9
          go_wp2
          go_roundw
          case rel => exact ⟨k + 1, by omega, by go_num, by rw [HNW.out], by rw [HNS.out], HF.out⟩
          case measure => simp [intOf]; omega
    · have hkn : k = l.length := by omega
      have hltz : ¬ (k : Int) < (l.length : Int) := by omega
      have e1 : (wkL L).take k = wkL L := List.take_of_length_le (by unfold wkL; rw [List.length_map, HLEN.out]; omega)
      have e2 : (spL L).take k = spL L := List.take_of_length_le (by rw [spUsed_len, HLEN.out]; omega)
      rw [e1, e2]
      clear e1 e2
      go_wp2
      go_ret2
      exact ⟨rfl, HF.out⟩
set_option maxHeartbeats 4000000 in
set_option maxRecDepth 100000 in
theorem specSharedSaving_any (v : Value) (n : Net) (v2 : Value) (L : List SvV) (w : World) (h : NetIn w v n) (h2 : SlC w v2 L) :
    Calls Tryz.prog 30 #[v, v2] w fun e w' => e = .returned (.tuple #[.int .i64 (ssF n L).1, .bool (ssF n L).2]) ∧ Fresh w w' := by
  obtain ⟨r, e0, l, rfl, hL, hs, he0, hv⟩ := h2
  have hn := hs.1
  have hlen : L.length = l.length := by rw [hv]; simp
  have HLEN := Lib.hid hlen
  have HN := Lib.hid h
  have HL := Lib.hid hL
  have HSM := Lib.hid hs
  have HV := Lib.hid hv
  obtain ⟨q1, c, p, d, rfl, _⟩ := h
  obtain ⟨mm, hmm⟩ : ∃ mm, mm = n.nodes.length := ⟨_, rfl⟩
  rw [← hmm] at HN ⊢
  obtain ⟨W1, hW1⟩ : ∃ W1, W1 = w.alloc (.cells #[.slice q1 mm c, .slice p n.fibers.length d] 35) := ⟨_, rfl⟩
  have HF1 : Hid (Fresh w W1) := by show Fresh w W1; rw [hW1]; exact fnew (frefl _) _
  have HR1 : Hid (RowAt W1 w.heap.size 35 [.slice q1 mm c, .slice p n.fibers.length d]) := by show RowAt W1 _ _ _; rw [hW1]; exact RowAt.new w _ _
  have HW1 := Lib.hid hW1
  have HC := Lib.hid (l13Good_any (.agg #[.slice q1 mm c, .slice p n.fibers.length d]) n r e0 l W1 (HN.out.keep HF1.out) (hL.keep HF1.out) hs)
  rw [← hv] at HC
  clear hW1 hL hs hv hlen hmm
  obtain ⟨R, hR⟩ : ∃ R, R = ssF n L := ⟨_, rfl⟩
  rw [← hR]
  have HRR := Lib.hid hR
  clear hR
  go_enter Tryz.func30, Tryz.ntmps30
  go_wp2_with fail
  rw [← HW1.out]
  clear HW1
  refine (HC.out).mono ?_
  rintro e w1 ⟨rfl, hb⟩
  have HF := Lib.hid (fstep HF1.out hb)
  have HR := Lib.hid (HR1.out.keep hb)
  clear hb HC HF1 HR1
  cases hsv : svsB n L
  · have HE : Hid (R = (0, false)) := by show _ = _; rw [HRR.out, ssF_no hsv]
    clear hsv
    go_wp2
    go_ret2
    rw [HE.out]
    exact ⟨rfl, HF.out⟩
  · have HE : Hid (R = (ssTo L n.fibers.length, true)) := by show _ = _; rw [HRR.out, ssF_yes hsv]
    obtain ⟨hnet, h8, hall⟩ := svsB_at hsv
    have h14 := netB_14 hnet
    have HALL := Lib.hid hall
    have HH8 := Lib.hid h8
    have HBB : Hid (∀ x ∈ l.map LS.val, BOk x.wb ∧ BOk x.sb) := by
      intro x hx
      rw [← HV.out] at hx
      exact ⟨Or.inl (svB_blocks (HALL.out x hx)).1, (svB_blocks (HALL.out x hx)).2⟩
    clear hsv hnet hall h8
    go_wp2
    go_loopw [6, 7] (fun s i wr => ∃ k : Nat, k ≤ n.fibers.length ∧ i = .int .i64 k ∧ s = .int .i64 (ssTo L k) ∧ Fresh w1 wr) (fun _ i _ => n.fibers.length - (intOf i).toNat)
    case atStart => exact ⟨0, Nat.zero_le _, rfl, rfl, frefl _⟩
    case round =>
      obtain ⟨k, hk, rfl, rfl, hf⟩ := hrel
      obtain ⟨wo, rfl⟩ : ∃ wo : World, wo = wr := ⟨_, rfl⟩
      have HFR := Lib.hid hf
      have d1 := (HR.out.keep hf).cell (i := 1) rfl
      have hbd := ssTo_bound HALL.out HH8.out k
      clear hf
      by_cases hlt : k < n.fibers.length
      · have hltz : (k : Int) < (n.fibers.length : Int) := by omega
        obtain ⟨S0, hS0⟩ : ∃ S, S = ssTo L k := ⟨_, rfl⟩
        rw [← hS0] at hbd ⊢
        have HS0 := Lib.hid hS0
        clear hS0
        go_wp2
        go_loopw [6, 8] (fun s i wr => ∃ j : Nat, j ≤ l.length ∧ i = .int .i64 j ∧ s = .int .i64 (S0 + inS L k j) ∧ Fresh wo wr) (fun _ i _ => l.length - (intOf i).toNat)
        case atStart => exact ⟨0, Nat.zero_le _, rfl, by simp [inS], frefl _⟩
        case round =>
          obtain ⟨j, hj, rfl, rfl, hf⟩ := hrel
          have HFQ := Lib.hid hf
          have hib := inS_bound HALL.out k j
          have h8' := HH8.out
          have hl8 := HLEN.out
          clear hf d1
          by_cases hlt2 : j < l.length
          · have hltz2 : (j : Int) < (l.length : Int) := by omega
            obtain ⟨b, off, x, hr, hx, hm, hi, hc⟩ := (HL.out.keep (fstep HF.out (fstep HFR.out HFQ.out))).at hlt2
            obtain ⟨hc0, hc1, hc2, hc3, hc4, hc5, hc6, hc7, hc8, hc9⟩ := hc
            subst hr
            have hxv := sval_at HV.out hx
            have hsb := sb_bound (HALL.out _ (List.mem_of_getElem? hxv))
            simp only at hsb
            obtain ⟨hsz1, hsz2⟩ := HSM.out.2 x hm
            have HH := Lib.hid (l1Has_any x.s.q x.s.cap x.s.fibs (k : Int) wr hi.2 (by omega))
            have HXV := Lib.hid hxv
            clear hx hxv hm hi hc0 hc1 hc2 hc3 hc4 hc5 hc6
            go_wp2_with fail
            refine (HH.out).mono ?_
            rintro e w5 ⟨rfl, rfl⟩
            by_cases hw : (k : Int) ∈ x.s.fibs
            · have HY : Hid (inS L k (j + 1) = inS L k j + x.sc) := Lib.hid (inS_yes HXV.out hw)
              have HWR := Lib.hid (wrap_sm (x := S0 + inS L k j + x.sc) (by omega) (by omega))
              rw [decide_eq_true hw]
              clear hw HH
              go_wp2
              go_roundw
              case rel => exact ⟨j + 1, by omega, by go_num, by first | (rw [HY.out, ← Int.add_assoc]; done) | (rw [HY.out, ← Int.add_assoc]; exact congrArg _ HWR.out), HFQ.out⟩
              case measure => simp [intOf]; omega
            · have HY : Hid (inS L k (j + 1) = inS L k j) := Lib.hid (inS_no HXV.out hw)
              rw [decide_eq_false hw]
              clear hw HH
              go_wp2
              go_roundw
              case rel => exact ⟨j + 1, by omega, by go_num, by rw [HY.out], HFQ.out⟩
              case measure => simp [intOf]; omega
          · have hjn : j = l.length := by omega
            have hltz2 : ¬ (j : Int) < (l.length : Int) := by omega
            have HFW := Lib.hid (fstep HF.out (fstep HFR.out HFQ.out))
            have HM := Lib.hid (l13Masks_any r e0 l (k : Int) wr (HL.out.keep HFW.out) HSM.out HBB.out)
            rw [← HV.out] at HM
            have hu := used_w (L := spL L) (k : Int) (sp_ok HALL.out)
            have hpb := popS_bound HALL.out k
            have HSTEP : Hid (ssTo L (k + 1) = S0 + inS L k j - popS L k) := by
              show ssTo L k + (inS L k L.length - popS L k) = _
              rw [← HS0.out, hjn, ← HLEN.out]; omega
            have HPOP : Hid (popS L k = (pop.cnt (usedN (spL L) (k : Int)) : Int)) := Lib.hid rfl
            obtain ⟨u1, hu1⟩ : ∃ u, u = usedN (wkL L) (k : Int) := ⟨_, rfl⟩
            obtain ⟨u2, hu2⟩ : ∃ u, u = usedN (spL L) (k : Int) := ⟨_, rfl⟩
            obtain ⟨PS, hPS⟩ : ∃ P, P = popS L k := ⟨_, rfl⟩
            obtain ⟨IS, hIS⟩ : ∃ I, I = inS L k j := ⟨_, rfl⟩
            rw [← hu1, ← hu2] at HM
            rw [← hu2] at hu HPOP
            rw [← hPS] at hpb HSTEP HPOP
            rw [← hIS] at hib HSTEP ⊢
            have HC8 := Lib.hid (fun W => l8Count_any u2 W hu)
            have HWR := Lib.hid (wrap_sm (x := S0 + IS - PS) (by omega) (by omega))
            rw [HPOP.out] at HWR
            clear hu1 hu2 hPS hIS hjn hpb
            go_wp2_with fail
            refine (HM.out).mono ?_
            rintro e w5 ⟨rfl, hb⟩
            have HFE := Lib.hid (fstep HFR.out (fstep HFQ.out hb))
            clear hb HM
            go_wp2_with fail
            refine (HC8.out _).mono ?_
            rintro e w6 ⟨rfl, rfl⟩
            go_wp2
            go_roundw
            case rel => exact ⟨k + 1, by omega, by go_num, by first | (rw [HSTEP.out, HPOP.out]; done) | (rw [HSTEP.out, HPOP.out]; exact congrArg _ HWR.out), HFE.out⟩
            case measure => simp [intOf]; omega
      · have hkn : k = n.fibers.length := by omega
        have hltz : ¬ (k : Int) < (n.fibers.length : Int) := by omega
        subst hkn
        go_wp2
        go_ret2
        rw [HE.out]
        exact ⟨rfl, fstep HF.out HFR.out⟩
set_option maxHeartbeats 4000000 in
set_option maxRecDepth 100000 in
theorem implSharedSaving_any (v : Value) (n : Net) (v2 : Value) (L : List SvV) (w : World) (h : NetIn w v n) (h2 : SlC w v2 L) :
    Calls Tryz.prog 32 #[v, v2] w fun e w' => e = .returned (.tuple #[.int .i64 (ssF n L).1, .bool (ssF n L).2]) ∧ Fresh w w' := by
  obtain ⟨r, e0, l, rfl, hL, hs, he0, hv⟩ := h2
  have hn := hs.1
  have hlen : L.length = l.length := by rw [hv]; simp
  have HLEN := Lib.hid hlen
  have HN := Lib.hid h
  have HL := Lib.hid hL
  have HSM := Lib.hid hs
  have HV := Lib.hid hv
  obtain ⟨q1, mm, c, p, k0, d, rfl⟩ := h.shape
  obtain ⟨W1, hW1⟩ : ∃ W1, W1 = w.alloc (.cells #[.slice q1 mm c, .slice p k0 d] 35) := ⟨_, rfl⟩
  have HF1 : Hid (Fresh w W1) := by show Fresh w W1; rw [hW1]; exact fnew (frefl _) _
  have HR1 : Hid (RowAt W1 w.heap.size 35 [.slice q1 mm c, .slice p k0 d]) := by show RowAt W1 _ _ _; rw [hW1]; exact RowAt.new w _ _
  have HW1 := Lib.hid hW1
  have HC := Lib.hid (implIsValidServices_any (.agg #[.slice q1 mm c, .slice p k0 d]) n r e0 l W1 (HN.out.keep HF1.out) (hL.keep HF1.out) hs he0)
  rw [← hv] at HC
  clear hW1 hL hs hv hlen h
  obtain ⟨R, hR⟩ : ∃ R, R = ssF n L := ⟨_, rfl⟩
  rw [← hR]
  have HRR := Lib.hid hR
  clear hR
  go_enter Tryz.func32, Tryz.ntmps32
  go_wp2_with fail
  rw [← HW1.out]
  clear HW1
  refine (HC.out).mono ?_
  rintro e w1 ⟨rfl, hb⟩
  have HF := Lib.hid (fstep HF1.out hb)
  have HR := Lib.hid (HR1.out.keep hb)
  clear hb HC HF1 HR1
  cases hsv : svsB n L
  · have HE : Hid (R = (0, false)) := by show _ = _; rw [HRR.out, ssF_no hsv]
    clear hsv
    go_wp2
    go_ret2
    rw [HE.out]
    exact ⟨rfl, HF.out⟩
  · obtain ⟨hnet, h8, hall⟩ := svsB_at hsv
    have h14 := netB_14 hnet
    have HALL := Lib.hid hall
    have HLAW := Lib.hid (ssTo_law hall)
    have HVS : Hid (∀ x ∈ L, x.s.2.length ≤ 1048576) := by
      intro x hx
      rw [HV.out] at hx
      obtain ⟨y, hy, rfl⟩ := List.mem_map.1 hx
      exact (HSM.out.2 y hy).2
    have HE : Hid (R = (lenS L L.length - sumF (popS L) n.fibers.length, true)) := by show _ = _; rw [HRR.out, ssF_yes hsv, HLAW.out]
    clear hsv hnet hall HLAW
    go_wp2
    go_loopw [6, 19] (fun s i wr => ∃ k : Nat, k ≤ l.length ∧ i = .int .i64 k ∧ s = .int .i64 (lenS L k) ∧ Fresh w1 wr) (fun _ i _ => l.length - (intOf i).toNat)
    case atStart => exact ⟨0, Nat.zero_le _, rfl, rfl, frefl _⟩
    case round =>
      obtain ⟨k, hk, rfl, rfl, hf⟩ := hrel
      have HFR := Lib.hid hf
      have hbd := lenS_bound HALL.out HVS.out k
      clear hf
      by_cases hlt : k < l.length
      · have hltz : (k : Int) < (l.length : Int) := by omega
        obtain ⟨b, off, x, hr, hx, hm, hi, hc⟩ := (HL.out.keep (fstep HF.out HFR.out)).at hlt
        obtain ⟨hc0, hc1, hc2, hc3, hc4, hc5, hc6, hc7, hc8, hc9⟩ := hc
        subst hr
        have hxv := sval_at HV.out hx
        have HST : Hid (lenS L (k + 1) = lenS L k + (x.s.fibs.length : Int) * x.sc) := Lib.hid (lenS_step hxv)
        have hbd2 := lenS_bound HALL.out HVS.out (k + 1)
        rw [HST.out] at hbd2
        have hsb := sb_bound (HALL.out _ (List.mem_of_getElem? hxv))
        simp only at hsb
        have hm0 : 0 ≤ (x.s.fibs.length : Int) * x.sc := Int.mul_nonneg (by omega) hsb.1
        obtain ⟨PR, hPR⟩ : ∃ P, P = (x.s.fibs.length : Int) * x.sc := ⟨_, rfl⟩
        rw [← hPR] at HST hbd2 hm0
        obtain ⟨LL, hLL⟩ : ∃ P, P = lenS L k := ⟨_, rfl⟩
        rw [← hLL] at HST hbd2 hbd ⊢
        have h8' : L.length ≤ 8 := h8
        have hl8 := HLEN.out
        have hw1 : wrap64 ((x.s.fibs.length : Int) * x.sc) = PR := by rw [← hPR]; exact wrap_sm (by omega) (by omega)
        have hw2 : wrap64 (LL + PR) = LL + PR := wrap_sm (by omega) (by omega)
        clear hl8
        clear hx hxv hm hi hPR hLL
        go_wp2
        go_roundw
        case rel => exact ⟨k + 1, by omega, by go_num, by rw [HST.out], fnew HFR.out _⟩
        case measure => simp [intOf]; omega
      · have hkn : k = l.length := by omega
        have hltz : ¬ (k : Int) < (l.length : Int) := by omega
        have HFW := Lib.hid (fstep HF.out HFR.out)
        have HM := Lib.hid (serviceMasks_any (.agg #[.slice q1 mm c, .slice p k0 d]) n r e0 l wr (HN.out.keep HFW.out) h14 (HL.out.keep HFW.out) HSM.out (by rw [← HV.out]; exact HALL.out))
        rw [← HV.out] at HM
        have a0 := (HR.out.keep HFR.out).cell (i := 0) rfl
        have a1 := (HR.out.keep HFR.out).cell (i := 1) rfl
        have HKN : Hid (lenS L k = lenS L L.length) := by show _ = _; rw [hkn, HLEN.out]
        rw [HKN.out]
        have hbl := lenS_bound HALL.out HVS.out L.length
        have h8' : L.length ≤ 8 := h8
        go_wp2_with fail
        refine (HM.out).mono ?_
        rintro e w5 ⟨g1, g2, c1, c2, rfl, _, r2, hb⟩
        have HFE := Lib.hid (fstep HFR.out hb)
        have HR2 := Lib.hid r2
        clear hb HM r2 a0 a1
        go_wp2
        go_loopw [6, 42] (fun s i wr => ∃ k : Nat, k ≤ n.fibers.length ∧ i = .int .i64 k ∧ s = .int .i64 (lenS L L.length - sumF (popS L) k) ∧ Fresh w5 wr) (fun _ i _ => n.fibers.length - (intOf i).toNat)
        case atStart => exact ⟨0, Nat.zero_le _, rfl, by simp [sumF], frefl _⟩
        case round =>
          obtain ⟨f, hkf, rfl, rfl, hf⟩ := hrel
          have HFQ := Lib.hid hf
          clear hf
          by_cases hltf : f < n.fibers.length
          · have hltz : (f : Int) < (n.fibers.length : Int) := by omega
            have hmv := masks_val n.fibers.length (spL L) (fun x hx => by obtain ⟨y, hy, rfl⟩ := List.mem_map.1 hx; exact (svB_nodup (HALL.out y hy)).2) f
            have hcell : wr.cell? ⟨g2, f, none⟩ = some (.int .i64 (usedN (spL L) (f : Int) : Int)) := by
              refine (HR2.out.keep HFQ.out).cell ?_
              unfold nvs
              have hlenm := masks_len n.fibers.length (spL L)
              rw [List.getElem?_map, List.getElem?_eq_getElem (by omega), ← hmv, List.getD_eq_getElem?_getD, List.getElem?_eq_getElem (by omega)]; rfl
            have hu := used_w (L := spL L) (f : Int) (sp_ok HALL.out)
            have HST : Hid (sumF (popS L) (f + 1) = sumF (popS L) f + (pop.cnt (usedN (spL L) (f : Int)) : Int)) := Lib.hid rfl
            have hps := popS_sum HALL.out f
            have hp24 := cntS24 hu
            obtain ⟨u, hu0⟩ : ∃ u, u = usedN (spL L) (f : Int) := ⟨_, rfl⟩
            rw [← hu0] at hcell hu HST hp24
            obtain ⟨SF, hSF⟩ : ∃ u, u = sumF (popS L) f := ⟨_, rfl⟩
            rw [← hSF] at HST hps ⊢
            obtain ⟨LN, hLN⟩ : ∃ u, u = lenS L L.length := ⟨_, rfl⟩
            rw [← hLN] at hbl ⊢
            have HOC := Lib.hid (fun W => onesCount_any u W hu)
            have HWR := Lib.hid (wrap_sm (x := LN - SF - (pop.cnt u : Int)) (by omega) (by omega))
            clear hmv hu0 hSF hLN
            go_wp2_with fail
            refine (HOC.out _).mono ?_
            rintro e w6 ⟨rfl, rfl⟩
            go_wp2
            go_roundw
            case rel => exact ⟨f + 1, by omega, by go_num, by first | (rw [HST.out, ← Int.sub_sub]; done) | (rw [HST.out, ← Int.sub_sub]; exact congrArg _ HWR.out), HFQ.out⟩
            case measure => simp [intOf]; omega
          · have hfn : f = n.fibers.length := by omega
            have hltz : ¬ (f : Int) < (n.fibers.length : Int) := by omega
            subst hfn
            go_wp2
            go_ret2
            rw [HE.out]
            exact ⟨rfl, fstep HF.out (fstep HFE.out HFQ.out)⟩
end Go.Proofs.YtjaacinngfblkaaGreat
