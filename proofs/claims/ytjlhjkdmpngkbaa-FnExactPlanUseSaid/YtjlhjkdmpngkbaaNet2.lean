/- Contract: the program's IsValidNetwork. -/
import Derived.Test.YtjlhjkdmpngkbaaNet
namespace Go.Proofs.Ytjlhjkdmpngkbaa
open Go.RowKit Go.PlainAid

theorem contains_take (p : Option Addr) (cap : Nat) (l : List ByteArray) (k : Nat) (s : ByteArray) (w : World) (hI : Strs w p l) (hk : k ≤ l.length) (hn : l.length ≤ 9223372036854775806) :
    Calls Try.prog 139 #[.slice p k cap, .string s] w fun e w' => e = .returned (.bool (decide (0 ≤ idxL (l.take k) s))) ∧ w = w' := by
  have := contains_any p cap (l.take k) s w (hI.take k) (by simp; omega)
  rw [List.length_take, Nat.min_eq_left hk] at this
  exact this

set_option maxHeartbeats 4000000 in
set_option maxRecDepth 100000 in
theorem implIsValidNetwork_any (v : Value) (n : Net) (w : World) (h : NetIn w v n) : Calls Try.prog 78 #[v] w fun e w' => e = .returned (.bool (netB n)) ∧ Fresh w w' := by
  obtain ⟨N, F⟩ := n
  obtain ⟨q, c, p, d, rfl, hN, hF, n1, n2, n3, n4, hsz⟩ := h
  simp only at hN hF n1 n2 n3 hsz ⊢
  have hsz' := Lib.hid hsz
  clear hsz
  go_enter Try.func78, Try.ntmps78
  go_wp2
  go_loopw [3, 4, 10] (fun s1 s2 i wr => ∃ k : Nat, k ≤ N.length ∧ i = .int .i64 k ∧ (∀ j, j < k → nameAt N j = true) ∧ Fresh (w.alloc (.cells #[.slice q N.length c, .slice p F.length d] 32)) wr) (fun _ _ i _ => N.length - (intOf i).toNat)
  case atStart => exact ⟨0, Nat.zero_le _, rfl, fun j hj => by omega, frefl _⟩
  case round =>
    obtain ⟨k, hk, rfl, hall, hf⟩ := hrel
    have HA := Lib.hid hall
    clear hall
    have hb0 := box hf 0 (v := .slice q N.length c) rfl
    have hb1 := box hf 1 (v := .slice p F.length d) rfl
    have hW : Fresh w wr := fstep (fnew (frefl _) _) hf
    have HF := Lib.hid hf
    have HW := Lib.hid hW
    clear hf
    by_cases hlt : k < N.length
    · have HS := Lib.hid (hN.keep hW)
      obtain ⟨b, off, s, rfl, hx, hc⟩ := (hN.keep hW).at hlt
      have HI : Hid (Strs wr (some ⟨b, off, none⟩) N) := HS.out
      have hltz : (k : Int) < (N.length : Int) := by omega
      have hkc : (k : Int) ≤ (c : Int) := by omega
      have hs : s.size ≤ 9223372036854775807 := by have := hsz'.out s (List.mem_of_getElem? hx); omega
      clear hW
      cases hnm : nameB s
      · have HE := Lib.hid (netB_name (n := ⟨N, F⟩) hlt (by rw [nameAt_of hx, hnm]; rfl))
        clear hx
        go_wp2_with fail
        refine (isName_any s _ hs).mono ?_
        rintro e w1 ⟨rfl, hb⟩
        have hb0' := fkeep hb hb0
        have hb1' := fkeep hb hb1
        have HI1 := Lib.hid (HI.out.keep hb)
        have HB := Lib.hid hb
        clear hb hb0 hb1 hc HI
        go_wp2
        go_ret
        exact ⟨ret_bool HE.out.symm, fstep HW.out HB.out⟩
      · cases hid : decide (0 ≤ idxL (N.take k) s)
        · have HE := Lib.hid (okStepC HA.out (by rw [idxL_take hx] at hid; rw [nameAt_of hx, hnm]; simpa using hid))
          clear hx
          go_wp2_with fail
          refine (isName_any s _ hs).mono ?_
          rintro e w1 ⟨rfl, hb⟩
          have hb0' := fkeep hb hb0
          have hb1' := fkeep hb hb1
          have HI1 := Lib.hid (HI.out.keep hb)
          have HB := Lib.hid hb
          clear hb hb0 hb1 hc HI
          go_wp2_with fail
          refine (contains_take (some ⟨b, off, none⟩) c N k s _ HI1.out (by omega) (by omega)).mono ?_
          rintro e w2 ⟨rfl, rfl⟩
          go_wp2
          go_roundw
          case rel => exact ⟨k + 1, by omega, by go_num, HE.out, fstep HF.out HB.out⟩
          case measure => simp [intOf]; omega
        · have HE := Lib.hid (netB_name (n := ⟨N, F⟩) hlt (by rw [idxL_take hx] at hid; rw [nameAt_of hx, hnm]; simpa using hid))
          clear hx
          go_wp2_with fail
          refine (isName_any s _ hs).mono ?_
          rintro e w1 ⟨rfl, hb⟩
          have hb0' := fkeep hb hb0
          have hb1' := fkeep hb hb1
          have HI1 := Lib.hid (HI.out.keep hb)
          have HB := Lib.hid hb
          clear hb hb0 hb1 hc HI
          go_wp2_with fail
          refine (contains_take (some ⟨b, off, none⟩) c N k s _ HI1.out (by omega) (by omega)).mono ?_
          rintro e w2 ⟨rfl, rfl⟩
          go_wp2
          go_ret
          exact ⟨ret_bool HE.out.symm, fstep HW.out HB.out⟩
    · have hkn : k = N.length := by omega
      have hltz : ¬ (k : Int) < (N.length : Int) := by omega
      clear hW
      go_wp2
      go_loopw [5, 6, 30] (fun s1 s2 i wr => ∃ k : Nat, k ≤ F.length ∧ i = .int .i64 k ∧ (∀ j, j < k → fibAt N.length F j = true) ∧ Fresh (w.alloc (.cells #[.slice q N.length c, .slice p F.length d] 32)) wr) (fun _ _ i _ => F.length - (intOf i).toNat)
      case atStart => exact ⟨0, Nat.zero_le _, rfl, fun j hj => by omega, HF.out⟩
      case round =>
        clear HF HW hb0 hb1
        obtain ⟨m, hm, rfl, hall, hf⟩ := hrel
        have HA2 := Lib.hid hall
        clear hall
        have hb0 := box hf 0 (v := .slice q N.length c) rfl
        have hb1 := box hf 1 (v := .slice p F.length d) rfl
        have hW : Fresh w wr := fstep (fnew (frefl _) _) hf
        have HF := Lib.hid hf
        have HW := Lib.hid hW
        clear hf
        by_cases hlm : m < F.length
        · have HS := Lib.hid (hF.keep hW)
          obtain ⟨b2, off2, x, y, z, u, rfl, hx, hc0, hc1, hc2, hc3⟩ := (hF.keep hW).at hlm
          have hlmz : (m : Int) < (F.length : Int) := by omega
          clear hW
          obtain ⟨wn, hwn⟩ : ∃ wn, wn = wr.alloc (.cells #[.int .i64 x, .int .i64 y, .int .i64 z, .int .i64 u] 170) := ⟨_, rfl⟩
          have hfn : Fresh wr wn := by rw [hwn]; exact fnew (frefl _) _
          have hr : RowAt wn wr.heap.size 170 [.int .i64 x, .int .i64 y, .int .i64 z, .int .i64 u] := by rw [hwn]; exact RowAt.new wr _ _
          have t0 := fun xa : After wn => akeep (hr.cell (i := 0) (v := .int .i64 x) rfl) xa
          have t1 := fun xa : After wn => akeep (hr.cell (i := 1) (v := .int .i64 y) rfl) xa
          have t2 := fun xa : After wn => akeep (hr.cell (i := 2) (v := .int .i64 z) rfl) xa
          have t3 := fun xa : After wn => akeep (hr.cell (i := 3) (v := .int .i64 u) rfl) xa
          have i0 := fun xa : After wn => akeep (fkeep hfn hb0) xa
          have i1 := fun xa : After wn => akeep (fkeep hfn hb1) xa
          have HFN := Lib.hid hfn
          clear hr hfn
          go_wp2
          rw [← hwn]
          clear hwn hc0 hc1 hc2 hc3 hb0 hb1
          by_cases a1 : x < 0
          · have da1 : decide (x < 0) = true := decide_eq_true a1
            have hfb : fibB N.length ⟨x, y, z, u⟩ = false := by simp only [fibB]; rw [decide_eq_false (by omega)]; rfl
            have HE := Lib.hid (netB_fib (n := ⟨N, F⟩) hlm (fibAt_bad hx hfb))
            clear hx hfb
            refine wp_region_after (by kernel_rfl) (by kernel_rfl) ?_
            repeat (go_big_quiet_step ((go_at_call 91; exact after_same (within_any _ _ _ _))))
            refine wpQuiet_nil ?_
            rintro _ ⟨xa, rfl⟩
            go_wp2
            go_ret
            exact ⟨ret_bool HE.out.symm, fstep (fstep HW.out HFN.out) xa.h⟩
          · have da1 : decide (x < 0) = false := decide_eq_false a1
            by_cases a2 : y ≤ x
            · have da2 : decide (y ≤ x) = true := decide_eq_true a2
              have hfb : fibB N.length ⟨x, y, z, u⟩ = false := by simp only [fibB]; rw [decide_eq_false (by omega)]; rfl
              have HE := Lib.hid (netB_fib (n := ⟨N, F⟩) hlm (fibAt_bad hx hfb))
              clear hx hfb
              refine wp_region_after (by kernel_rfl) (by kernel_rfl) ?_
              repeat (go_big_quiet_step ((go_at_call 91; exact after_same (within_any _ _ _ _))))
              refine wpQuiet_nil ?_
              rintro _ ⟨xa, rfl⟩
              go_wp2
              go_ret
              exact ⟨ret_bool HE.out.symm, fstep (fstep HW.out HFN.out) xa.h⟩
            · have da2 : decide (y ≤ x) = false := decide_eq_false a2
              by_cases a3 : (N.length : Int) ≤ y
              · have da3 : decide ((N.length : Int) ≤ y) = true := decide_eq_true a3
                have hfb : fibB N.length ⟨x, y, z, u⟩ = false := by simp only [fibB]; rw [decide_eq_false (by omega)]; rfl
                have HE := Lib.hid (netB_fib (n := ⟨N, F⟩) hlm (fibAt_bad hx hfb))
                clear hx hfb
                refine wp_region_after (by kernel_rfl) (by kernel_rfl) ?_
                repeat (go_big_quiet_step ((go_at_call 91; exact after_same (within_any _ _ _ _))))
                refine wpQuiet_nil ?_
                rintro _ ⟨xa, rfl⟩
                go_wp2
                go_ret
                exact ⟨ret_bool HE.out.symm, fstep (fstep HW.out HFN.out) xa.h⟩
              · have da3 : decide ((N.length : Int) ≤ y) = false := decide_eq_false a3
                cases a4 : inB z 1 5000
                · have hfb : fibB N.length ⟨x, y, z, u⟩ = false := by simp [fibB, a4]
                  have HE := Lib.hid (netB_fib (n := ⟨N, F⟩) hlm (fibAt_bad hx hfb))
                  clear hx hfb
                  refine wp_region_after (by kernel_rfl) (by kernel_rfl) ?_
                  repeat (go_big_quiet_step ((go_at_call 91; exact after_same (within_any _ _ _ _))))
                  refine wpQuiet_nil ?_
                  rintro _ ⟨xa, rfl⟩
                  go_wp2
                  go_ret
                  exact ⟨ret_bool HE.out.symm, fstep (fstep HW.out HFN.out) xa.h⟩
                · cases a5 : inB u 0 9
                  · have hfb : fibB N.length ⟨x, y, z, u⟩ = false := by simp [fibB, a5]
                    have HE := Lib.hid (netB_fib (n := ⟨N, F⟩) hlm (fibAt_bad hx hfb))
                    clear hx hfb
                    refine wp_region_after (by kernel_rfl) (by kernel_rfl) ?_
                    repeat (go_big_quiet_step ((go_at_call 91; exact after_same (within_any _ _ _ _))))
                    refine wpQuiet_nil ?_
                    rintro _ ⟨xa, rfl⟩
                    go_wp2
                    go_ret
                    exact ⟨ret_bool HE.out.symm, fstep (fstep HW.out HFN.out) xa.h⟩
                  · have hfb : fibB N.length ⟨x, y, z, u⟩ = true := by simp only [fibB]; rw [decide_eq_true (by omega), a4, a5]; rfl
                    clear a1 a2 a3
                    by_cases h0 : 0 < m
                    · obtain ⟨x', y', z', u', hp, e0, e1, e2, e3⟩ := Fibs.prev HS.out hlm h0
                      have hd0 : decide ((0 : Int) < (m : Int)) = true := decide_eq_true (by omega)
                      have hz1 : (m : Int) - 1 < (F.length : Int) := by omega
                      have hz2 : (m : Int) - 1 ≤ (F.length : Int) := by omega
                      have hz3 : 0 ≤ (m : Int) - 1 := by omega
                      have l0 := fun xa : After wn => akeep (fkeep HFN.out e0) xa
                      have l1 := fun xa : After wn => akeep (fkeep HFN.out e1) xa
                      have l2 := fun xa : After wn => akeep (fkeep HFN.out e2) xa
                      have l3 := fun xa : After wn => akeep (fkeep HFN.out e3) xa
                      clear e0 e1 e2 e3
                      have HBC : Hid (∀ w, Calls Try.prog 140 #[fibV ⟨x', y', z', u'⟩, fibV ⟨x, y, z, u⟩] w fun e w' => e = .returned (.int .i64 (cmpF ⟨x', y', z', u'⟩ ⟨x, y, z, u⟩)) ∧ Fresh w w') := fun w => compareFibers_any _ _ w
                      cases hcm : fibAfter ⟨x', y', z', u'⟩ ⟨x, y, z, u⟩
                      · have hdb : decide (0 < cmpF ⟨x', y', z', u'⟩ ⟨x, y, z, u⟩) = false := by rw [cmpF_pos]; exact hcm
                        have HE := Lib.hid (okStepC HA2.out (by rw [fibAt_next hx hp h0, hfb, hcm]; rfl))
                        clear hx hp hcm hfb
                        refine wp_region_after (by kernel_rfl) (by kernel_rfl) ?_
                        repeat (go_big_quiet_step ((first | (go_at_call 91; exact after_same (within_any _ _ _ _)) | (go_at_call 140; exact after_call (HBC.out _)))))
                        refine wpQuiet_nil ?_
                        rintro _ ⟨xa, rfl⟩
                        go_wp2
                        go_roundw
                        case rel => exact ⟨m + 1, by omega, by go_num, HE.out, fstep (fstep HF.out HFN.out) xa.h⟩
                        case measure => simp [intOf]; omega
                      · have hdb : decide (0 < cmpF ⟨x', y', z', u'⟩ ⟨x, y, z, u⟩) = true := by rw [cmpF_pos]; exact hcm
                        have HE := Lib.hid (netB_fib (n := ⟨N, F⟩) hlm (by show fibAt N.length F m = false; rw [fibAt_next hx hp h0, hfb, hcm]; rfl))
                        clear hx hp hcm hfb
                        refine wp_region_after (by kernel_rfl) (by kernel_rfl) ?_
                        repeat (go_big_quiet_step ((first | (go_at_call 91; exact after_same (within_any _ _ _ _)) | (go_at_call 140; exact after_call (HBC.out _)))))
                        refine wpQuiet_nil ?_
                        rintro _ ⟨xa, rfl⟩
                        go_wp2
                        go_ret
                        exact ⟨ret_bool HE.out.symm, fstep (fstep HW.out HFN.out) xa.h⟩
                    · have hd0 : decide ((0 : Int) < (m : Int)) = false := decide_eq_false (by omega)
                      have HE := Lib.hid (okStepC HA2.out (by rw [fibAt_first hx h0, hfb]))
                      clear hx hfb
                      refine wp_region_after (by kernel_rfl) (by kernel_rfl) ?_
                      repeat (go_big_quiet_step ((go_at_call 91; exact after_same (within_any _ _ _ _))))
                      refine wpQuiet_nil ?_
                      rintro _ ⟨xa, rfl⟩
                      go_wp2
                      go_roundw
                      case rel => exact ⟨m + 1, by omega, by go_num, HE.out, fstep (fstep HF.out HFN.out) xa.h⟩
                      case measure => simp [intOf]; omega
        · have hmn : m = F.length := by omega
          have hlmz : ¬ (m : Int) < (F.length : Int) := by omega
          have HE := Lib.hid (netB_end (n := ⟨N, F⟩) (by rw [← hkn]; exact HA.out) (by rw [← hmn]; exact HA2.out))
          clear hW
          cases h1 : inB N.length 2 8
          · have HE2 : Hid (netB ⟨N, F⟩ = false) := by show netB ⟨N, F⟩ = false; rw [HE.out]; show (inB N.length 2 8 && decide (F.length ≤ 14)) = false; rw [h1]; rfl
            go_wp2_with (go_at_call 91; refine (within_any _ _ _ _).mono ?_; rintro e w' ⟨rfl, rfl⟩)
            go_ret
            exact ⟨ret_bool HE2.out.symm, HW.out⟩
          · by_cases h2 : F.length ≤ 14
            · have HE2 : Hid (netB ⟨N, F⟩ = true) := by show netB ⟨N, F⟩ = true; rw [HE.out]; show (inB N.length 2 8 && decide (F.length ≤ 14)) = true; rw [h1, decide_eq_true h2]; rfl
              have hd2 : decide ((F.length : Int) ≤ 14) = true := decide_eq_true (by omega)
              go_wp2_with (go_at_call 91; refine (within_any _ _ _ _).mono ?_; rintro e w' ⟨rfl, rfl⟩)
              go_ret
              exact ⟨ret_bool HE2.out.symm, HW.out⟩
            · have HE2 : Hid (netB ⟨N, F⟩ = false) := by show netB ⟨N, F⟩ = false; rw [HE.out]; show (inB N.length 2 8 && decide (F.length ≤ 14)) = false; rw [decide_eq_false h2, Bool.and_false]
              have hd2 : decide ((F.length : Int) ≤ 14) = false := decide_eq_false (by omega)
              go_wp2_with (go_at_call 91; refine (within_any _ _ _ _).mono ?_; rintro e w' ⟨rfl, rfl⟩)
              go_ret
              exact ⟨ret_bool HE2.out.symm, HW.out⟩
end Go.Proofs.Ytjlhjkdmpngkbaa
