/- Contracts: the masks of services, the program's side. -/
import Derived.Test.YtjaacinngfblkaaGreatSsP
import Derived.Test.YtjaacinngfblkaaGreatSv7
import Derived.Test.YtjaacinngfblkaaGreatKSv
import Derived.Deep.DeepCutAuto
namespace Go.Proofs.YtjaacinngfblkaaGreat
open Go.RowKit Go.PlainAid

theorem masks_w {m : Nat} {L : List LtV} (h : ∀ x ∈ L, BOk x.2.2) : ∀ j : Nat, (masksR m L).getD j 0 < 16777216 := by
  revert h
  refine snocInd (P := fun L => (∀ x ∈ L, BOk x.2.2) → ∀ j : Nat, (masksR m L).getD j 0 < 16777216) ?_ ?_ L
  · intro _ j; simp [masksR, List.getD_eq_getElem?_getD, List.getElem?_replicate]; split <;> simp
  · intro L a ih h
    rw [masks_snoc]
    exact tallyO_lt (mkN_w (h a (by simp))).2 (ih fun x hx => h x (List.mem_append_left _ hx))
theorem rowa (w : World) (a b c : Obj) {t : TypeId} {xs : List Value} (h : b = .cells xs.toArray t) : RowAt (((w.alloc a).alloc b).alloc c).drew (w.heap.size + 1) t xs := by
  subst h
  have := RowAt.new (w.alloc a) t xs
  rw [show (w.alloc a).heap.size = w.heap.size + 1 by simp] at this
  exact (this.alloc _).keep (fdrew (frefl _))
theorem rowb (w : World) (a b c : Obj) {t : TypeId} {xs : List Value} (h : c = .cells xs.toArray t) : RowAt (((w.alloc a).alloc b).alloc c).drew (w.heap.size + 1 + 1) t xs := by
  subst h
  have := RowAt.new ((w.alloc a).alloc b) t xs
  rw [show ((w.alloc a).alloc b).heap.size = w.heap.size + 1 + 1 by simp] at this
  exact this.keep (fdrew (frefl _))
def nvs (S : List Nat) : List Value := S.map fun n : Nat => iv (n : Int)
set_option maxHeartbeats 8000000 in
set_option maxRecDepth 100000 in
theorem serviceMasks_any (v : Value) (n : Net) (r : Option Addr) (e0 : Nat) (l : List LS) (w : World) (h : NetIn w v n) (h14 : n.fibers.length ≤ 14) (hL : Svs w r l) (hs : SvsSmall l) (hg : ∀ x ∈ l.map LS.val, svB n x = true) :
    Calls Tryz.prog 94 #[v, .slice r l.length e0] w fun e w' => ∃ g1 g2 c1 c2 : Nat, e = .returned (.tuple #[.slice (some ⟨g1, 0, none⟩) n.fibers.length c1, .slice (some ⟨g2, 0, none⟩) n.fibers.length c2]) ∧ RowAt w' g1 3 (nvs (masksR n.fibers.length (wkL (l.map LS.val)))) ∧ RowAt w' g2 3 (nvs (masksR n.fibers.length (spL (l.map LS.val)))) ∧ Fresh w w' := by
  obtain ⟨L, hv⟩ : ∃ L, L = l.map LS.val := ⟨_, rfl⟩
  rw [← hv] at hg ⊢
  obtain ⟨q1, c, p, d, rfl, _⟩ := h
  obtain ⟨mm, hmm⟩ : ∃ mm, mm = n.nodes.length := ⟨_, rfl⟩
  rw [← hmm]
  have hmk := mkInts n.fibers.length (by omega)
  have hn := hs.1
  have hlen : L.length = l.length := by rw [hv]; simp
  have HLEN := Lib.hid hlen
  have HL := Lib.hid hL
  have HSM := Lib.hid hs
  have HV := Lib.hid hv
  have HG := Lib.hid hg
  have HMW : Hid (∀ k j : Nat, (masksR n.fibers.length ((wkL L).take k)).getD j 0 < 16777216) := fun k => masks_w (fun x hx => wk_ok hg x (List.mem_of_mem_take hx))
  have HMS : Hid (∀ k j : Nat, (masksR n.fibers.length ((spL L).take k)).getD j 0 < 16777216) := fun k => masks_w (fun x hx => sp_ok hg x (List.mem_of_mem_take hx))
  clear hL hs hg hlen hv hmm
  have e1 : w.heap.size + 1 ≠ w.heap.size + 1 + 1 := by omega
  go_enter Tryz.func94, Tryz.ntmps94
  go_upto_region 1 with fail
  go_cut [6, 7] (fun s6 s7 wx => ∃ gW gS : Nat, s6 = .slice (some ⟨gW, 0, none⟩) n.fibers.length n.fibers.length ∧ s7 = .slice (some ⟨gS, 0, none⟩) n.fibers.length n.fibers.length ∧ gW ≠ gS ∧ w.heap.size ≤ gW ∧ w.heap.size ≤ gS ∧ RowAt wx gW 3 (List.replicate n.fibers.length (iv 0)) ∧ RowAt wx gS 3 (List.replicate n.fibers.length (iv 0)) ∧ Fresh w wx)
  case first =>
    go_region
    all_goals (go_wp2_with fail)
    all_goals go_meet
    all_goals exact ⟨_, _, rfl, rfl, by omega, by omega, by omega, (by first | exact rowa _ _ _ _ rfl | exact rowb _ _ _ _ rfl), (by first | exact rowa _ _ _ _ rfl | exact rowb _ _ _ _ rfl), fdrew (fnew (fnew (fnew (frefl _) _) _) _)⟩
  case rest =>
    obtain ⟨gW, gS, rfl, rfl, hne, hw1, hw2, rW, rS, hf⟩ := hcut
    have HRW := Lib.hid rW
    have HRS := Lib.hid rS
    have HF := Lib.hid hf
    clear rW rS hf hmk
    go_wp2
    go_loopw [24] (fun i wr => ∃ k : Nat, k ≤ l.length ∧ i = .int .i64 k ∧ RowAt wr gW 3 (nvs (masksR n.fibers.length ((wkL L).take k))) ∧ RowAt wr gS 3 (nvs (masksR n.fibers.length ((spL L).take k))) ∧ Fresh w wr) (fun i _ => l.length - (intOf i).toNat)
    case atStart => exact ⟨0, Nat.zero_le _, rfl, by simpa [masksR, nvs] using HRW.out, by simpa [masksR, nvs] using HRS.out, HF.out⟩
    case round =>
      obtain ⟨wo, rfl⟩ : ∃ wo : World, wo = wr := ⟨_, rfl⟩
      obtain ⟨k, hk, rfl, rW, rS, hf⟩ := hrel
      have HW := Lib.hid rW
      have HS := Lib.hid rS
      have HFR := Lib.hid hf
      have hlW := rW.lt
      have hlS := rS.lt
      clear rW rS hf
      by_cases hlt : k < l.length
      · have hltz : (k : Int) < (l.length : Int) := by omega
        obtain ⟨b, off, x, hr, hx, hm, hi, hc⟩ := (HL.out.keep HFR.out).at hlt
        obtain ⟨hc0, hc1, hc2, hc3, hc4, hc5, hc6, hc7, hc8, hc9⟩ := hc
        subst hr
        have hxv := sval_at HV.out hx
        have hgx := HG.out _ (List.mem_of_getElem? hxv)
        obtain ⟨hb1, hb2⟩ := svB_blocks hgx
        have HBW : Hid (BOk (x.wf, x.wc)) := Lib.hid (Or.inl hb1)
        have HBS : Hid (BOk (x.sf, x.sc)) := Lib.hid hb2
        obtain ⟨⟨_, hin1⟩, ⟨_, hin2⟩⟩ := svB_nodup hgx
        have HIN1 : Hid (InF n.fibers x.w.fibs) := Lib.hid hin1
        have HIN2 : Hid (InF n.fibers x.s.fibs) := Lib.hid hin2
        have HSTW : Hid (masksR n.fibers.length ((wkL L).take (k + 1)) = tallyO (masksR n.fibers.length ((wkL L).take k)) (mkN (x.wf, x.wc)) x.w.fibs) := Lib.hid (masks_step (wk_at hxv))
        have HSTS : Hid (masksR n.fibers.length ((spL L).take (k + 1)) = tallyO (masksR n.fibers.length ((spL L).take k)) (mkN (x.sf, x.sc)) x.s.fibs) := Lib.hid (masks_step (sp_at hxv))
        obtain ⟨S1, hS1⟩ : ∃ S, S = masksR n.fibers.length ((wkL L).take k) := ⟨_, rfl⟩
        obtain ⟨S2, hS2⟩ : ∃ S, S = masksR n.fibers.length ((spL L).take k) := ⟨_, rfl⟩
        have HM1 : Hid (∀ j : Nat, S1.getD j 0 < 16777216) := by show ∀ _, _; rw [hS1]; exact HMW.out k
        have HM2 : Hid (∀ j : Nat, S2.getD j 0 < 16777216) := by show ∀ _, _; rw [hS2]; exact HMS.out k
        have HL1 : Hid (S1.length = n.fibers.length) := by show _ = _; rw [hS1]; exact masks_len _ _
        have HL2 : Hid (S2.length = n.fibers.length) := by show _ = _; rw [hS2]; exact masks_len _ _
        rw [← hS1] at HSTW HW
        rw [← hS2] at HSTS HS
        have HI1 := Lib.hid (HL.out.2 x hm).1
        have HI2 := Lib.hid (HL.out.2 x hm).2
        obtain ⟨hsz1, hsz2⟩ := HSM.out.2 x hm
        obtain ⟨W3, hW3⟩ : ∃ W3, W3 = wo.alloc (.cells #[.int .i64 x.id, .int .i64 x.cls, .int .i64 x.w.start, .slice x.w.q x.w.fibs.length x.w.cap, .int .i64 x.wf, .int .i64 x.wc, .int .i64 x.s.start, .slice x.s.q x.s.fibs.length x.s.cap, .int .i64 x.sf, .int .i64 x.sc] 138) := ⟨_, rfl⟩
        have HF3 : Hid (Fresh wo W3) := by show Fresh wo W3; rw [hW3]; exact fnew (frefl _) _
        have HBX : Hid (RowAt W3 wo.heap.size 138 (lsC x)) := by show RowAt W3 _ _ _; rw [hW3]; exact RowAt.new wo _ (lsC x)
        have HW3 := Lib.hid hW3
        clear hW3 hx hxv hgx hb1 hb2 hin1 hin2 hm hi hS1 hS2
        go_wp2
        rw [← HW3.out]
        clear HW3
        go_loopw [32] (fun i wq => ∃ j : Nat, j ≤ x.w.fibs.length ∧ i = .int .i64 j ∧ RowAt wq gW 3 (nvs (tallyO S1 (mkN (x.wf, x.wc)) (x.w.fibs.take j))) ∧ RowAt wq gS 3 (nvs (S2)) ∧ RowAt wq wo.heap.size 138 (lsC x) ∧ Fresh w wq) (fun i _ => x.w.fibs.length - (intOf i).toNat)
        case atStart => exact ⟨0, Nat.zero_le _, rfl, (HW.out.keep HF3.out), (HS.out.keep HF3.out), HBX.out, fstep HFR.out HF3.out⟩
        case round =>
          obtain ⟨j, hj, rfl, hrow, hro, hbx, hf⟩ := hrel
          have HRQ := Lib.hid hrow
          have HSQ := Lib.hid hro
          have HBQ := Lib.hid hbx
          have HFQ := Lib.hid hf
          clear hrow hro hbx hf
          by_cases hlt2 : j < x.w.fibs.length
          · have hltz2 : (j : Int) < (x.w.fibs.length : Int) := by omega
            obtain ⟨b2, off2, i, hq, hxi, hci⟩ := (HI1.out.keep HFQ.out).at hlt2
            have HQ := Lib.hid hq
            obtain ⟨h1, h2⟩ := HIN1.out i (List.mem_of_getElem? hxi)
            obtain ⟨m', rfl⟩ := Int.eq_ofNat_of_zero_le h1
            obtain ⟨e1, e3⟩ := mkN_w HBW.out
            have HE1 := Lib.hid e1
            have HTS := Lib.hid (tallyO_step (S := S1) (c := mkN (x.wf, x.wc)) hxi)
            have hsl := tallyO_lt (fs := x.w.fibs.take j) e3 HM1.out m'
            obtain ⟨s0, hs0⟩ : ∃ s0, s0 = (tallyO S1 (mkN (x.wf, x.wc)) (x.w.fibs.take j)).getD m' 0 := ⟨_, rfl⟩
            have hml : m' < n.fibers.length := by omega
            have hmlz : (m' : Int) < (n.fibers.length : Int) := by omega
            have hcm : wr.cell? ⟨gW, m', none⟩ = some (.int .i64 (s0 : Int)) := by
              refine HRQ.out.cell ?_
              have hlen := tallyO_len S1 (mkN (x.wf, x.wc)) (x.w.fibs.take j)
              rw [HL1.out] at hlen
              unfold nvs
              rw [hs0, List.getElem?_map, List.getD_eq_getElem?_getD, List.getElem?_eq_getElem (by omega)]; rfl
            rw [← hs0] at hsl
            have hor := or_i64 s0 (mkN (x.wf, x.wc)) (lt63 hsl) (lt63 e3)
            rw [← HE1.out] at hor
            have HOR := Lib.hid hor
            have HS0' := Lib.hid hs0
            have x3 := HBQ.out.cell (i := 4) rfl
            have x4 := HBQ.out.cell (i := 5) rfl
            have i0 := fun xa : After wr => akeep hcm xa
            have i3 := fun xa : After wr => akeep x3 xa
            have i4 := fun xa : After wr => akeep x4 xa
            have hfz := fun xa : After wr => (HRQ.out.keep xa.h).frozen m'
            have HBB := HBW
            clear hxi hs0 hor x3 x4 hcm e1
            go_wp2
            refine wp_region_after_tail 9 (by kernel_rfl) (by kernel_rfl) ?_
            simp only [List.take_succ_cons, List.take_zero, List.drop_succ_cons, List.drop_zero]
            repeat (go_big_quiet_step ((go_at_call 155; exact after_call (maskOf_w _ _ _ HBB.out))))
            refine wpQuiet_nil ?_
            intro xa
            have HXA := Lib.hid xa.h
            go_wp2
            rw [HQ.out]
            go_roundw
            case rel =>
              refine ⟨j + 1, by omega, by go_num, ?_, (HSQ.out.keep HXA.out).setOther (b := gW) (by omega) _, (HBQ.out.keep HXA.out).setOther (b := gW) (by omega) _, fset (fstep HFQ.out HXA.out) (by omega) _⟩
              have := (HRQ.out.keep HXA.out).set m' (iv ((s0 ||| mkN (x.wf, x.wc) : Nat) : Int))
              rw [HTS.out, Int.toNat_natCast, ← HS0'.out]
              unfold nvs at this ⊢
              rw [List.map_set, HOR.out]
              exact this
            case measure => simp [intOf]; omega
          · have hjn : j = x.w.fibs.length := by omega
            have hltz2 : ¬ (j : Int) < (x.w.fibs.length : Int) := by omega
            have HWN : Hid (RowAt wr gW 3 (nvs (masksR n.fibers.length ((wkL L).take (k + 1))))) := by
              show RowAt _ _ _ _
              have := HRQ.out
              rw [hjn, List.take_length] at this
              rw [HSTW.out]; exact this
            have HSN := HSQ
            have HBN := HBQ
            have HFN := HFQ
            clear HRQ HSQ HBQ HFQ hjn hc0 hc1 hc2 hc3 hc4 hc5 hc6 hc7 hc8 hc9
            obtain ⟨wp, rfl⟩ : ∃ wp : World, wp = wr := ⟨_, rfl⟩
            have k7 := HBN.out.cell (i := 7) rfl
            go_wp2
            clear k7
            go_loopw [50] (fun i wq => ∃ j : Nat, j ≤ x.s.fibs.length ∧ i = .int .i64 j ∧ RowAt wq gS 3 (nvs (tallyO S2 (mkN (x.sf, x.sc)) (x.s.fibs.take j))) ∧ RowAt wq gW 3 (nvs (masksR n.fibers.length ((wkL L).take (k + 1)))) ∧ RowAt wq wo.heap.size 138 (lsC x) ∧ Fresh w wq) (fun i _ => x.s.fibs.length - (intOf i).toNat)
            case atStart => exact ⟨0, Nat.zero_le _, rfl, HSN.out, HWN.out, HBN.out, HFN.out⟩
            case round =>
              obtain ⟨j, hj, rfl, hrow, hro, hbx, hf⟩ := hrel
              have HRQ := Lib.hid hrow
              have HWQ := Lib.hid hro
              have HBQ := Lib.hid hbx
              have HFQ := Lib.hid hf
              clear hrow hro hbx hf
              by_cases hlt2 : j < x.s.fibs.length
              · have hltz2 : (j : Int) < (x.s.fibs.length : Int) := by omega
                obtain ⟨b2, off2, i, hq, hxi, hci⟩ := (HI2.out.keep HFQ.out).at hlt2
                have HQ := Lib.hid hq
                obtain ⟨h1, h2⟩ := HIN2.out i (List.mem_of_getElem? hxi)
                obtain ⟨m', rfl⟩ := Int.eq_ofNat_of_zero_le h1
                obtain ⟨e1, e3⟩ := mkN_w HBS.out
                have HE1 := Lib.hid e1
                have HTS := Lib.hid (tallyO_step (S := S2) (c := mkN (x.sf, x.sc)) hxi)
                have hsl := tallyO_lt (fs := x.s.fibs.take j) e3 HM2.out m'
                obtain ⟨s0, hs0⟩ : ∃ s0, s0 = (tallyO S2 (mkN (x.sf, x.sc)) (x.s.fibs.take j)).getD m' 0 := ⟨_, rfl⟩
                have hml : m' < n.fibers.length := by omega
                have hmlz : (m' : Int) < (n.fibers.length : Int) := by omega
                have hcm : wr.cell? ⟨gS, m', none⟩ = some (.int .i64 (s0 : Int)) := by
                  refine HRQ.out.cell ?_
                  have hlen := tallyO_len S2 (mkN (x.sf, x.sc)) (x.s.fibs.take j)
                  rw [HL2.out] at hlen
                  unfold nvs
                  rw [hs0, List.getElem?_map, List.getD_eq_getElem?_getD, List.getElem?_eq_getElem (by omega)]; rfl
                rw [← hs0] at hsl
                have hor := or_i64 s0 (mkN (x.sf, x.sc)) (lt63 hsl) (lt63 e3)
                rw [← HE1.out] at hor
                have HOR := Lib.hid hor
                have HS0' := Lib.hid hs0
                have x3 := HBQ.out.cell (i := 8) rfl
                have x4 := HBQ.out.cell (i := 9) rfl
                have i0 := fun xa : After wr => akeep hcm xa
                have i3 := fun xa : After wr => akeep x3 xa
                have i4 := fun xa : After wr => akeep x4 xa
                have hfz := fun xa : After wr => (HRQ.out.keep xa.h).frozen m'
                have HBB := HBS
                clear hxi hs0 hor x3 x4 hcm e1
                go_wp2
                refine wp_region_after_tail 9 (by kernel_rfl) (by kernel_rfl) ?_
                simp only [List.take_succ_cons, List.take_zero, List.drop_succ_cons, List.drop_zero]
                repeat (go_big_quiet_step ((go_at_call 155; exact after_call (maskOf_w _ _ _ HBB.out))))
                refine wpQuiet_nil ?_
                intro xa
                have HXA := Lib.hid xa.h
                go_wp2
                rw [HQ.out]
                go_roundw
                case rel =>
                  refine ⟨j + 1, by omega, by go_num, ?_, (HWQ.out.keep HXA.out).setOther (b := gS) (by omega) _, (HBQ.out.keep HXA.out).setOther (b := gS) (by omega) _, fset (fstep HFQ.out HXA.out) (by omega) _⟩
                  have := (HRQ.out.keep HXA.out).set m' (iv ((s0 ||| mkN (x.sf, x.sc) : Nat) : Int))
                  rw [HTS.out, Int.toNat_natCast, ← HS0'.out]
                  unfold nvs at this ⊢
                  rw [List.map_set, HOR.out]
                  exact this
                case measure => simp [intOf]; omega
              · have hjn : j = x.s.fibs.length := by omega
                have hltz2 : ¬ (j : Int) < (x.s.fibs.length : Int) := by omega
                go_wp2
                go_roundw
                case rel =>
                  refine ⟨k + 1, by omega, by go_num, HWQ.out, ?_, HFQ.out⟩
                  have := HRQ.out
                  rw [hjn, List.take_length] at this
                  rw [HSTS.out]; exact this
                case measure => simp [intOf]; omega
      · have hkn : k = l.length := by omega
        have hltz : ¬ (k : Int) < (l.length : Int) := by omega
        have e1 : (wkL L).take k = wkL L := List.take_of_length_le (by unfold wkL; rw [List.length_map, HLEN.out]; omega)
        have e2 : (spL L).take k = spL L := List.take_of_length_le (by unfold spL; rw [List.length_map, HLEN.out]; omega)
        rw [e1] at HW
        rw [e2] at HS
        go_wp2
        go_ret2
        first | exact ⟨gW, gS, ⟨_, _, rfl⟩, HW.out, HS.out, HFR.out⟩ | exact ⟨gW, gS, _, _, rfl, HW.out, HS.out, HFR.out⟩
end Go.Proofs.YtjaacinngfblkaaGreat
