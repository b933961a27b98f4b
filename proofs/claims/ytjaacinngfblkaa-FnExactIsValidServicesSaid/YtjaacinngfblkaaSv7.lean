/- Contracts: valid services, the reference's side. -/
import Derived.Test.YtjaacinngfblkaaSv6
namespace Go.Proofs.Ytjaacinngfblkaa
open Go.RowKit Go.PlainAid

set_option maxHeartbeats 8000000 in
set_option maxRecDepth 100000 in
theorem l13Good_any (v : Value) (n : Net) (r : Option Addr) (e0 : Nat) (l : List LS) (w : World) (h : NetIn w v n) (hL : Svs w r l) (hs : SvsSmall l) :
    Calls Try.prog 41 #[v, .slice r l.length e0] w fun e w' => e = .returned (.bool (svsB n (l.map LS.val))) ∧ Fresh w w' := by
  have hn := hs.1
  obtain ⟨L, hv⟩ : ∃ L, L = l.map LS.val := ⟨_, rfl⟩
  rw [← hv]
  have hlen : L.length = l.length := by rw [hv]; simp
  have HLEN := Lib.hid hlen
  have HN := Lib.hid h
  have HL := Lib.hid hL
  have HSM := Lib.hid hs
  have HV := Lib.hid hv
  obtain ⟨q1, mm, c, p, k0, d, rfl⟩ := h.shape
  obtain ⟨W1, hW1⟩ : ∃ W1, W1 = w.alloc (.cells #[.slice q1 mm c, .slice p k0 d] 32) := ⟨_, rfl⟩
  have HF1 : Hid (Fresh w W1) := by show Fresh w W1; rw [hW1]; exact fnew (frefl _) _
  have HR1 : Hid (RowAt W1 w.heap.size 32 [.slice q1 mm c, .slice p k0 d]) := by show RowAt W1 _ _ _; rw [hW1]; exact RowAt.new w _ _
  have HW1 := Lib.hid hW1
  clear hW1 h hL hs hv hlen
  go_enter Try.func41, Try.ntmps41
  go_wp2_with fail
  rw [← HW1.out]
  clear HW1
  refine (l2Good_any _ n _ (HN.out.keep HF1.out)).mono ?_
  rintro e w1 ⟨rfl, hb⟩
  have HF := Lib.hid (fstep HF1.out hb)
  have HR := Lib.hid (HR1.out.keep hb)
  clear hb HF1 HR1
  cases hnet : netB n
  · have HE := Lib.hid (svsB_net (L := L) hnet)
    go_wp2
    go_ret
    exact ⟨ret_bool HE.out.symm, HF.out⟩
  · by_cases h12 : l.length ≤ 8
    · have hd : decide (8 < (l.length : Int)) = false := decide_eq_false (by omega)
      have HNET := Lib.hid hnet
      clear hnet
      go_wp2
      clear hd
      go_loopw [5] (fun i wr => ∃ k : Nat, k ≤ l.length ∧ i = .int .i64 k ∧ (∀ j, j < k → svAt n L j = true) ∧ Fresh w1 wr) (fun i _ => l.length - (intOf i).toNat)
      case atStart => exact ⟨0, Nat.zero_le _, rfl, fun j hj => by omega, frefl _⟩
      case round =>
        obtain ⟨wo, rfl⟩ : ∃ wo : World, wo = wr := ⟨_, rfl⟩
        obtain ⟨k, hk, rfl, hall, hf⟩ := hrel
        have HA := Lib.hid hall
        have HFR := Lib.hid hf
        have HW := Lib.hid (fstep HF.out hf)
        have b0 := (HR.out.keep hf).cell (i := 0) rfl
        have b1 := (HR.out.keep hf).cell (i := 1) rfl
        clear hall hf
        by_cases hlt : k < l.length
        · have hltz : (k : Int) < (l.length : Int) := by omega
          have HLL := Lib.hid (HL.out.keep HW.out)
          obtain ⟨b, off, x, hr, hx, hm, hi, hc⟩ := HLL.out.at hlt
          obtain ⟨hc0, hc1, hc2, hc3, hc4, hc5, hc6, hc7, hc8, hc9⟩ := hc
          subst hr
          have hxv := sval_at HV.out hx
          have hsm := HSM.out.2 x hm
          have i0 := fun xa : After wo => akeep b0 xa
          have i1 := fun xa : After wo => akeep b1 xa
          have j0 := fun xa : After wo => akeep hc0 xa
          have j1 := fun xa : After wo => akeep hc1 xa
          have j2 := fun xa : After wo => akeep hc2 xa
          have j3 := fun xa : After wo => akeep hc3 xa
          have j4 := fun xa : After wo => akeep hc4 xa
          have j5 := fun xa : After wo => akeep hc5 xa
          have j6 := fun xa : After wo => akeep hc6 xa
          have j7 := fun xa : After wo => akeep hc7 xa
          have j8 := fun xa : After wo => akeep hc8 xa
          have j9 := fun xa : After wo => akeep hc9 xa
          have HG : Hid (∀ xa : After wo, Calls Try.prog 82 #[.agg #[.slice q1 mm c, .slice p k0 d], .agg #[iv x.id, iv x.cls, iv x.w.start, .slice x.w.q x.w.fibs.length x.w.cap, iv x.wf, iv x.wc, iv x.s.start, .slice x.s.q x.s.fibs.length x.s.cap, iv x.sf, iv x.sc]] xa.w' fun e w' => e = .returned (.bool (svB n x.val)) ∧ Fresh xa.w' w') :=
            fun xa => l13Service_any _ n x xa.w' (HN.out.keep (fstep HW.out xa.h)) HNET.out (hi.keep xa.h) hsm
          clear hi hm
          have HX := Lib.hid hx
          have HXV := Lib.hid hxv
          clear hx hxv
          cases hlb : svB n x.val
          · rw [hlb] at HG
            have HE := Lib.hid (svsB_bad (n := n) (L := L) (k := k) (by rw [HLEN.out]; exact hlt) (by rw [svAt_of HXV.out, hlb]; rfl))
            clear hlb
            go_wp2
            refine wp_region_after (by kernel_rfl) (by kernel_rfl) ?_
            repeat (go_big_quiet_step ((go_at_call 82; exact after_call (HG.out _))))
            refine wpQuiet_nil ?_
            rintro _ ⟨xa, rfl⟩
            go_wp2
            go_ret
            exact ⟨ret_bool HE.out.symm, fstep HW.out xa.h⟩
          · rw [hlb] at HG
            have HLB := Lib.hid hlb
            clear hlb
            have hord : (¬ 0 < k ∧ svOrd L k x.val = true) ∨ (0 < k ∧ ∃ y : LS, l[k - 1]? = some y ∧ wo.cell? ⟨b, off + (k - 1) * 10, none⟩ = some (.int .i64 y.id) ∧ svOrd L k x.val = decide (y.id < x.id)) := by
              by_cases h0 : 0 < k
              · obtain ⟨y, hy, hc⟩ := HLL.out.prev hlt h0
                exact Or.inr ⟨h0, y, hy, hc, svOrd_next h0 (sval_at HV.out hy)⟩
              · have : k = 0 := by omega
                subst this
                exact Or.inl ⟨h0, svOrd_first L _⟩
            rcases hord with ⟨h0, ho⟩ | ⟨h0, y, hy, hyc, ho⟩
            · have hd0 : decide ((0 : Int) < (k : Int)) = false := decide_eq_false (by omega)
              have HO := Lib.hid ho
              clear ho
              go_wp2
              refine wp_region_after (by kernel_rfl) (by kernel_rfl) ?_
              repeat (go_big_quiet_step ((go_at_call 82; exact after_call (HG.out _))))
              refine wpQuiet_nil ?_
              rintro _ ⟨xa, rfl⟩
              go_wp2
              have hk0 : k = 0 := by omega
              subst hk0
              have HE : Hid (svAt n L 0 = true) := by show _ = _; rw [svAt_of HXV.out, HLB.out, HO.out]; simp
              go_loopw [6] (fun i wr => i = .int .i64 0 ∧ Fresh w1 wr) (fun _ _ => 0)
              case atStart => exact ⟨rfl, fstep HFR.out xa.h⟩
              case round =>
                obtain ⟨rfl, hf2⟩ := hrel
                have HF2 := Lib.hid hf2
                clear hf2
                go_wp2
                go_roundw
                case rel => exact ⟨0 + 1, by omega, by go_num, okStepL HA.out HE.out, HF2.out⟩
                case measure => simp [intOf]; omega
            · have hd0 : decide ((0 : Int) < (k : Int)) = true := decide_eq_true (by omega)
              have hz1 : (k : Int) - 1 < (l.length : Int) := by omega
              have hz2 : (k : Int) - 1 ≤ (l.length : Int) := by omega
              have hz3 : 0 ≤ (k : Int) - 1 := by omega
              have l0 := fun xa : After wo => akeep hyc xa
              have HO := Lib.hid ho
              clear ho hy
              by_cases hlo : y.id < x.id
              · have hdl : decide (x.id ≤ y.id) = false := decide_eq_false (by omega)
                have HO2 : Hid (svOrd L k x.val = true) := by show _ = _; rw [HO.out, decide_eq_true hlo]
                go_wp2
                refine wp_region_after (by kernel_rfl) (by kernel_rfl) ?_
                repeat (go_big_quiet_step ((go_at_call 82; exact after_call (HG.out _))))
                refine wpQuiet_nil ?_
                rintro _ ⟨xa, rfl⟩
                go_wp2
                clear hlo hyc l0
                go_loopw [6] (fun i wr => ∃ j : Nat, j ≤ k ∧ i = .int .i64 j ∧ (∀ i y, i < j → L[i]? = some y → compB n y x.val = true) ∧ Fresh w1 wr) (fun i _ => k - (intOf i).toNat)
                case atStart => exact ⟨0, Nat.zero_le _, rfl, fun i y hi => by omega, fstep HFR.out xa.h⟩
                case round =>
                  clear b0 b1 hc0 hc1 hc2 hc3 hc4 hc5 hc6 hc7 hc8 hc9 i0 i1 j0 j1 j2 j3 j4 j5 j6 j7 j8 j9
                  obtain ⟨j, hj, rfl, hnone, hf2⟩ := hrel
                  have HNO := Lib.hid hnone
                  have HF2 := Lib.hid hf2
                  have HW2 := Lib.hid (fstep HF.out hf2)
                  have b0 := (HR.out.keep hf2).cell (i := 0) rfl
                  have b1 := (HR.out.keep hf2).cell (i := 1) rfl
                  clear hnone hf2
                  by_cases hjk : j < k
                  · have hjz : (j : Int) < (k : Int) := by omega
                    have hjl : (j : Int) < (l.length : Int) := by omega
                    obtain ⟨bb, oo, z, hp, hz, hzm, hzi, d0, d1, d2, d3, d4, d5, d6, d7, d8, d9⟩ := (HL.out.keep HW2.out).at (k := j) (by omega)
                    cases hp
                    obtain ⟨bb, oo, x', hp, hx', hxm', hxi', c0, c1, c2, c3, c4, c5, c6, c7, c8, c9⟩ := (HL.out.keep HW2.out).at (k := k) hlt
                    cases hp
                    rw [HX.out] at hx'
                    cases hx'
                    have hzv := sval_at HV.out hz
                    have HZV := Lib.hid hzv
                    have HGZ := Lib.hid (svAt_good hzv (HA.out j hjk))
                    have hsz := HSM.out.2 z hzm
                    have HCC : Hid (∀ xa : After wr, Calls Try.prog 83 #[.agg #[.slice q1 mm c, .slice p k0 d], .agg #[iv z.id, iv z.cls, iv z.w.start, .slice z.w.q z.w.fibs.length z.w.cap, iv z.wf, iv z.wc, iv z.s.start, .slice z.s.q z.s.fibs.length z.s.cap, iv z.sf, iv z.sc], .agg #[iv x.id, iv x.cls, iv x.w.start, .slice x.w.q x.w.fibs.length x.w.cap, iv x.wf, iv x.wc, iv x.s.start, .slice x.s.q x.s.fibs.length x.s.cap, iv x.sf, iv x.sc]] xa.w' fun e w' => e = .returned (.bool (compB n z.val x.val)) ∧ Fresh xa.w' w') :=
                      fun xa => l13Compatible_any _ n z x xa.w' (HN.out.keep (fstep HW2.out xa.h)) HNET.out HGZ.out HLB.out (hzi.keep xa.h) (hxi'.keep xa.h) hsz hsm
                    clear hz hzm hzi hxm' hxi' hzv
                    have e0 := fun xa : After wr => akeep b0 xa
                    have e1 := fun xa : After wr => akeep b1 xa
                    have f0 := fun xa : After wr => akeep c0 xa
                    have g0 := fun xa : After wr => akeep d0 xa
                    have f1 := fun xa : After wr => akeep c1 xa
                    have g1 := fun xa : After wr => akeep d1 xa
                    have f2 := fun xa : After wr => akeep c2 xa
                    have g2 := fun xa : After wr => akeep d2 xa
                    have f3 := fun xa : After wr => akeep c3 xa
                    have g3 := fun xa : After wr => akeep d3 xa
                    have f4 := fun xa : After wr => akeep c4 xa
                    have g4 := fun xa : After wr => akeep d4 xa
                    have f5 := fun xa : After wr => akeep c5 xa
                    have g5 := fun xa : After wr => akeep d5 xa
                    have f6 := fun xa : After wr => akeep c6 xa
                    have g6 := fun xa : After wr => akeep d6 xa
                    have f7 := fun xa : After wr => akeep c7 xa
                    have g7 := fun xa : After wr => akeep d7 xa
                    have f8 := fun xa : After wr => akeep c8 xa
                    have g8 := fun xa : After wr => akeep d8 xa
                    have f9 := fun xa : After wr => akeep c9 xa
                    have g9 := fun xa : After wr => akeep d9 xa
                    obtain ⟨cb, hcb⟩ : ∃ cb, cb = compB n z.val x.val := ⟨_, rfl⟩
                    rw [← hcb] at HCC
                    cases cb
                    · have HE := Lib.hid (svsB_bad (n := n) (L := L) (k := k) (by rw [HLEN.out]; exact hlt) (by rw [svAt_of HXV.out, svSome hjk HZV.out hcb.symm]; simp))
                      clear hcb
                      go_wp2
                      refine wp_region_after (by kernel_rfl) (by kernel_rfl) ?_
                      repeat (go_big_quiet_step ((go_at_call 83; exact after_call (HCC.out _))))
                      refine wpQuiet_nil ?_
                      rintro _ ⟨xa, rfl⟩
                      go_wp2
                      go_ret
                      exact ⟨ret_bool HE.out.symm, fstep HW2.out xa.h⟩
                    · have HNX := Lib.hid (svStep HNO.out HZV.out hcb.symm)
                      clear hcb
                      go_wp2
                      refine wp_region_after (by kernel_rfl) (by kernel_rfl) ?_
                      repeat (go_big_quiet_step ((go_at_call 83; exact after_call (HCC.out _))))
                      refine wpQuiet_nil ?_
                      rintro _ ⟨xa, rfl⟩
                      go_wp2
                      go_roundw
                      case rel => exact ⟨j + 1, by omega, by go_num, HNX.out, fstep HF2.out xa.h⟩
                      case measure => simp [intOf]; omega
                  · have hjz : ¬ (j : Int) < (k : Int) := by omega
                    have hjk' : j = k := by omega
                    have HE : Hid (svAt n L k = true) := by
                      show _ = _
                      rw [svAt_of HXV.out, HLB.out, HO2.out, svNone (k := k) (by rw [← hjk']; exact HNO.out)]; rfl
                    clear hjk'
                    go_wp2
                    go_roundw
                    case rel => exact ⟨k + 1, by omega, by go_num, okStepL HA.out HE.out, HF2.out⟩
                    case measure => simp [intOf]; omega
              · have hdl : decide (x.id ≤ y.id) = true := decide_eq_true (by omega)
                have HE := Lib.hid (svsB_bad (n := n) (L := L) (k := k) (by rw [HLEN.out]; exact hlt) (by rw [svAt_of HXV.out, HO.out, decide_eq_false hlo]; simp))
                go_wp2
                refine wp_region_after (by kernel_rfl) (by kernel_rfl) ?_
                repeat (go_big_quiet_step ((go_at_call 82; exact after_call (HG.out _))))
                refine wpQuiet_nil ?_
                rintro _ ⟨xa, rfl⟩
                go_wp2
                go_ret
                exact ⟨ret_bool HE.out.symm, fstep HW.out xa.h⟩
        · have hkn : k = l.length := by omega
          have hltz : ¬ (k : Int) < (l.length : Int) := by omega
          have HE := Lib.hid (svsB_end (n := n) (L := L) HNET.out (by rw [HLEN.out]; exact h12) (by rw [HLEN.out, ← hkn]; exact HA.out))
          clear b0 b1
          go_wp2
          go_ret
          exact ⟨ret_bool HE.out.symm, HW.out⟩
    · have hd : decide (8 < (l.length : Int)) = true := decide_eq_true (by omega)
      have HE := Lib.hid (svsB_long (n := n) (L := L) (by rw [HLEN.out]; exact h12))
      go_wp2
      go_ret
      exact ⟨ret_bool HE.out.symm, HF.out⟩
set_option maxHeartbeats 1000000 in
theorem specIsValidServices_any (v : Value) (n : Net) (r : Option Addr) (e0 : Nat) (l : List LS) (w : World) (h : NetIn w v n) (hL : Svs w r l) (hs : SvsSmall l) :
    Calls Try.prog 9 #[v, .slice r l.length e0] w fun e w' => e = .returned (.bool (svsB n (l.map LS.val))) ∧ Fresh w w' := by
  have HN := Lib.hid h
  obtain ⟨q1, mm, c, p, k0, d, rfl⟩ := h.shape
  obtain ⟨W1, hW1⟩ : ∃ W1, W1 = w.alloc (.cells #[.slice q1 mm c, .slice p k0 d] 32) := ⟨_, rfl⟩
  have HF1 : Hid (Fresh w W1) := by show Fresh w W1; rw [hW1]; exact fnew (frefl _) _
  have HW1 := Lib.hid hW1
  have HC := Lib.hid (l13Good_any (.agg #[.slice q1 mm c, .slice p k0 d]) n r e0 l W1 (HN.out.keep HF1.out) (hL.keep HF1.out) hs)
  clear h hL hW1
  go_enter Try.func9, Try.ntmps9
  go_wp2_with fail
  rw [← HW1.out]
  refine (HC.out).mono ?_
  rintro e w1 ⟨rfl, hb⟩
  go_wp2
  go_ret
  exact ⟨rfl, fstep HF1.out hb⟩
end Go.Proofs.Ytjaacinngfblkaa
