/- Contracts: CheckAssignment, the program's side. -/
import Derived.Test.YtjlhjkdmpngkbaaAsg2
namespace Go.Proofs.Ytjlhjkdmpngkbaa
open Go.RowKit Go.PlainAid

theorem asgB_end {L : List ((Int × List Int) × Int)} {B : List (Int × Int)} (hl : B.length = L.length) (h : ∀ i, i < L.length → (fitAt L B i && freeB L B i (B.getD i (0, 0)) fun k => decide (k < i)) = true) : asgB L B = true := by
  unfold asgB; rw [decide_eq_true hl, rall_end h]; rfl
theorem asgB_bad {L : List ((Int × List Int) × Int)} {B : List (Int × Int)} {k : Nat} (hk : k < L.length) (h : (fitAt L B k && freeB L B k (B.getD k (0, 0)) fun j => decide (j < k)) = false) : asgB L B = false := by
  unfold asgB; rw [rall_bad hk h, Bool.and_false]
theorem fitAt_of {L : List ((Int × List Int) × Int)} {B : List (Int × Int)} {k : Nat} {b : Int × Int} {x : (Int × List Int) × Int} (h1 : B[k]? = some b) (h2 : L[k]? = some x) : fitAt L B k = (goodB b.1 b.2 && decide (b.2 = x.2)) := by unfold fitAt; rw [h1, h2]

set_option maxHeartbeats 4000000 in
set_option maxRecDepth 100000 in
theorem implCheckAssignment_any (v : Value) (n : Net) (u : Value) (L : List ((Int × List Int) × Int)) (u2 : Value) (B : List (Int × Int)) (w : World) (h : NetIn w v n) (hu : RqIn w u L) (hb : BkIn w u2 B) :
    Calls Try.prog 58 #[v, u, u2] w fun e w' => e = .returned (.tuple #[.int .i64 (chkF n L B).1, .bool (chkF n L B).2]) ∧ Fresh w w' := by
  obtain ⟨p, cap, l, rfl, hl, hs, hLv⟩ := hu
  obtain ⟨pb, cb, rfl, hB, hbn⟩ := hb
  have HN := Lib.hid h
  have HL := Lib.hid hl
  have hn := hs.1
  have HSM := Lib.hid hs
  have HB := Lib.hid hB
  have HML : Hid (L.length = l.length) := by show _ = _; rw [hLv]; simp
  have HV := Lib.hid hLv
  have hmf : ∀ (fn : Fn) (first cap : Array Value) (w : World), (Instr.makeFunc fn first cap).run Try.prog w = .ok (.func fn first cap) w := fun _ _ _ _ => rfl
  obtain ⟨q, m, c, p', k', d', rfl⟩ := h.shape
  clear h hl hs hB hLv
  have HW := Lib.hid (fnew (frefl w) (.cells #[.slice q m c, .slice p' k' d'] 32))
  go_enter Try.func58, Try.ntmps58
  go_wp2_with fail
  refine (implIsValidRequests_any _ n p cap l _ (HN.out.keep HW.out) (HL.out.keep HW.out) HSM.out).mono ?_
  rintro e w1 ⟨rfl, hb⟩
  rw [← HV.out]
  have HF := Lib.hid (fstep HW.out hb)
  clear hb
  cases hg : reqsB n L
  · have HE : Hid (chkF n L B = (0, false)) := by show chkF _ _ _ = _; unfold chkF; rw [if_neg (by simp [hg])]
    go_wp2
    go_ret2
    exact ⟨by rw [HE.out]; rfl, HF.out⟩
  · by_cases hlen : B.length = l.length
    · have hlz : ((B.length : Int) != (l.length : Int)) = false := by simp [hlen]
      have HLE := Lib.hid hlen
      have hlb : (l.length : Int) ≤ (B.length : Int) := by omega
      have hlb2 : (B.length : Int) ≤ (l.length : Int) := by omega
      have HG := Lib.hid hg
      have HNO : Hid (asgB L B = false → chkF n L B = (0, false)) := by intro ha; unfold chkF; rw [if_neg (by simp [ha])]
      have HYES : Hid (asgB L B = true → chkF n L B = (heightTo B, true)) := by intro ha; unfold chkF; rw [if_pos ⟨hg, ha⟩]
      clear hlen hg
      go_wp2
      go_loopw [23] (fun j wr => ∃ k : Nat, k ≤ B.length ∧ j = .int .i64 k ∧ (∀ i, i < k → (fitAt L B i && freeB L B i (B.getD i (0, 0)) fun k => decide (k < i)) = true) ∧ Fresh w1 wr) (fun j _ => B.length - (intOf j).toNat)
      case atStart => exact ⟨0, Nat.zero_le _, rfl, fun i hi => by omega, frefl _⟩
      case round =>
        obtain ⟨wo, rfl⟩ : ∃ wo : World, wo = wr := ⟨_, rfl⟩
        obtain ⟨k, hk, rfl, hall, hf⟩ := hrel
        have HA := Lib.hid hall
        have HFR := Lib.hid hf
        have HFW := Lib.hid (fstep HF.out hf)
        clear hall hf
        by_cases hlt : k < B.length
        · have hltz : (k : Int) < (B.length : Int) := by omega
          have hkl : k < l.length := by omega
          have hklz : (k : Int) < (l.length : Int) := by omega
          obtain ⟨b1, o1, x, hp1, hx, hxm, hxi, c10, c11, c12⟩ := (HL.out.keep HFW.out).at hkl
          subst hp1
          obtain ⟨b3, o3, bf, bc, hp3, hbk, d0, d1⟩ := (HB.out.keep HFW.out).at (k := k) hlt
          subst hp3
          have hxv : L[k]? = some x.val := by rw [HV.out]; simp [hx]
          have HFIT := Lib.hid (fitAt_of hbk hxv)
          have HGD : Hid (B.getD k (0, 0) = (bf, bc)) := by show _ = _; rw [List.getD_eq_getElem?_getD, hbk]; rfl
          obtain ⟨W3, hW3, hsz3, hf3, r1, r2⟩ := two_rows wo [.int .i64 (k : Int)] [.int .i64 bf, .int .i64 bc] 3 80
          have hfw3 := fstep HFW.out hf3
          have i2 := fun xa : After W3 => akeep (fkeep hf3 c12) xa
          have j0 := fun xa : After W3 => akeep (r1.cell (i := 0) rfl) xa
          have k0 := fun xa : After W3 => akeep (r2.cell (i := 0) rfl) xa
          have k1 := fun xa : After W3 => akeep (r2.cell (i := 1) rfl) xa
          have HR1 := Lib.hid r1
          have HW3 := Lib.hid hW3
          have HF3 := Lib.hid (fstep HFR.out hf3)
          have HFW3 := Lib.hid hfw3
          have hbad : (fitAt L B k && freeB L B k (B.getD k (0, 0)) fun j => decide (j < k)) = false → chkF n L B = (0, false) :=
            fun h => HNO.out (asgB_bad (k := k) (by rw [HML.out]; exact hkl) h)
          have HBAD := Lib.hid hbad
          clear hx hxm hxi hbk hxv hW3 hsz3 hf3 r1 r2 hfw3 hbad c10 c11 c12
          cases hgd : goodB bf bc
          · have HE := Lib.hid (HBAD.out (by rw [HFIT.out, hgd]; rfl))
            go_wp2
            rw [← HW3.out]
            refine wp_region_after (by kernel_rfl) (by kernel_rfl) ?_
            repeat (go_big_quiet_step ((go_at_call 120; exact after_call (implIsValidBlock_any _ _ _))))
            refine wpQuiet_nil ?_
            rintro _ ⟨xa, rfl⟩
            go_wp2
            go_ret2
            exact ⟨by rw [HE.out]; rfl, fstep HFW3.out xa.h⟩
          · by_cases hcx : bc = x.count
            · have hcz : (bc != x.count) = false := by simp [hcx]
              have HFI2 : Hid (fitAt L B k = true) := by show _ = _; rw [HFIT.out, hgd, decide_eq_true hcx]; rfl
              have HGG := Lib.hid hgd
              have HC : Hid (∀ xa : After W3, Calls Try.prog 121 #[.slice (some ⟨b1, o1, none⟩) l.length cap, .slice (some ⟨b3, o3, none⟩) B.length cb, .int .i64 (k : Int), .agg #[.int .i64 bf, .int .i64 bc], .func (.func 122) #[] #[.pointer (some ⟨wo.heap.size, 0, none⟩)]] xa.w' fun e w' => e = .returned (.bool (freeB L B k (bf, bc) fun j => decide (j < k))) ∧ Fresh xa.w' w') := by
                intro xa
                have := isFree_any 122 #[.pointer (some ⟨wo.heap.size, 0, none⟩)] (some ⟨b1, o1, none⟩) (some ⟨b3, o3, none⟩) cap cb l B k bf bc (fun j => decide (j < k)) xa.w' (HL.out.keep (fstep HFW3.out xa.h)) HSM.out (HB.out.keep (fstep HFW3.out xa.h)) hkl hbn HGG.out
                  (fun j hj _ hjk => by
                    have h1 := HA.out j (of_decide_eq_true hjk)
                    rw [Bool.and_eq_true] at h1
                    obtain ⟨b', x', e1, _, e3, _⟩ := fit_good h1.1
                    exact ⟨b', e1, e3⟩)
                  (fun _ _ => rfl) (fun j hj w' hf' => chkClo_any j k wo.heap.size w' ((HR1.out.keep (fstep xa.h hf')).cell (i := 0) rfl))
                rw [← HV.out] at this
                exact this
              clear hcx
              cases hfr : freeB L B k (bf, bc) fun j => decide (j < k)
              · rw [hfr] at HC
                have HE := Lib.hid (HBAD.out (by rw [HGD.out, hfr, Bool.and_false]))
                clear hfr
                go_wp2
                rw [← HW3.out]
                refine wp_region_after (by kernel_rfl) (by kernel_rfl) ?_
                repeat (go_big_quiet_step ((first | (go_at_call 120; exact after_call (implIsValidBlock_any _ _ _)) | (go_at_call 121; exact after_call (HC.out _)))))
                refine wpQuiet_nil ?_
                rintro _ ⟨xa, rfl⟩
                go_wp2
                go_ret2
                exact ⟨by rw [HE.out]; rfl, fstep HFW3.out xa.h⟩
              · rw [hfr] at HC
                have HN : Hid ((fitAt L B k && freeB L B k (B.getD k (0, 0)) fun j => decide (j < k)) = true) := by show _ = _; rw [HFI2.out, HGD.out, hfr]; rfl
                clear hfr
                go_wp2
                rw [← HW3.out]
                refine wp_region_after (by kernel_rfl) (by kernel_rfl) ?_
                repeat (go_big_quiet_step ((first | (go_at_call 120; exact after_call (implIsValidBlock_any _ _ _)) | (go_at_call 121; exact after_call (HC.out _)))))
                refine wpQuiet_nil ?_
                rintro _ ⟨xa, rfl⟩
                go_wp2
                go_roundw
                case rel =>
                  refine ⟨k + 1, by omega, by go_num, fun i hi => ?_, fstep HF3.out xa.h⟩
                  rcases Nat.lt_or_ge i k with h' | h'
                  · exact HA.out i h'
                  · have : i = k := by omega
                    rw [this]; exact HN.out
                case measure => simp [intOf]; omega
            · have hcz : (bc != x.count) = true := by simp [hcx]
              have HE := Lib.hid (HBAD.out (by rw [HFIT.out, decide_eq_false hcx, Bool.and_false]; rfl))
              clear hcx
              go_wp2
              rw [← HW3.out]
              refine wp_region_after (by kernel_rfl) (by kernel_rfl) ?_
              repeat (go_big_quiet_step ((go_at_call 120; exact after_call (implIsValidBlock_any _ _ _))))
              refine wpQuiet_nil ?_
              rintro _ ⟨xa, rfl⟩
              go_wp2
              go_ret2
              exact ⟨by rw [HE.out]; rfl, fstep HFW3.out xa.h⟩
        · have hkn : k = B.length := by omega
          have hltz : ¬ (k : Int) < (B.length : Int) := by omega
          subst hkn
          have hasg := asgB_end (by rw [HML.out]; exact HLE.out) (by rw [HML.out, ← HLE.out]; exact HA.out)
          have HE := Lib.hid (HYES.out hasg)
          have HGD := Lib.hid (asg_good hasg)
          clear hasg
          go_wp2_with fail
          refine (heightOf_any pb cb B _ (HB.out.keep HFW.out) HGD.out hbn).mono ?_
          rintro e w5 ⟨rfl, hb⟩
          have HF5 := Lib.hid (fstep HFW.out hb)
          clear hb
          go_wp2
          go_ret2
          exact ⟨by rw [HE.out]; rfl, HF5.out⟩
    · have hlz : ((B.length : Int) != (l.length : Int)) = true := by simp; omega
      have HE : Hid (chkF n L B = (0, false)) := by
        show chkF _ _ _ = _; unfold chkF; rw [if_neg]; rintro ⟨_, h⟩
        unfold asgB at h
        rw [decide_eq_false (by rw [HML.out]; exact hlen)] at h
        simp at h
      clear hlen
      go_wp2
      go_ret2
      exact ⟨by rw [HE.out]; rfl, HF.out⟩
end Go.Proofs.Ytjlhjkdmpngkbaa
