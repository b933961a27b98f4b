/- Contracts: lists of requests compared; valid requests, the reference's side. -/
import Derived.Test.YtjlhjkdmpngkbaaReq2
import Derived.Test.YtjlhjkdmpngkbaaRoute3
namespace Go.Proofs.Ytjlhjkdmpngkbaa
open Go.RowKit Go.PlainAid

set_option maxHeartbeats 2000000 in
set_option maxRecDepth 100000 in
theorem eqRequestS_same (p q : Option Addr) (c d : Nat) (l l' : List LQ) (w : World) (hv : l'.map LQ.val = l.map LQ.val) (hx : Reqs w p l) (hy : Reqs w q l') (hs : ReqsSmall l) :
    Calls Try.prog 27 #[.slice p l.length c, .slice q l'.length d] w fun e w' => e = .returned (.bool true) ∧ Fresh w w' := by
  have hlen : l'.length = l.length := by have := congrArg List.length hv; simpa using this
  have hn := hs.1
  have HSM := Lib.hid hs
  have HV := Lib.hid hv
  rw [hlen]
  have HLE := Lib.hid hlen
  clear hs hv hlen
  go_enter Try.func27, Try.ntmps27
  go_wp2
  go_loopw [5] (fun i wr => ∃ k : Nat, k ≤ l.length ∧ i = .int .i64 k ∧ Fresh w wr) (fun i _ => l.length - (intOf i).toNat)
  case atStart => exact ⟨0, Nat.zero_le _, rfl, frefl _⟩
  case round =>
    obtain ⟨k, hk, rfl, hf⟩ := hrel
    by_cases hlt : k < l.length
    · obtain ⟨b, off, x, rfl, hx0, hm, hi, hc0, hc1, hc2⟩ := (hx.keep hf).at hlt
      obtain ⟨b', off', y, rfl, hy0, _, hi', hc0', hc1', hc2'⟩ := (hy.keep hf).at (by rw [HLE.out]; exact hlt)
      have hxy : x.val = y.val := by
        have := congrArg (fun l => l[k]?) HV.out
        simp only [List.getElem?_map, hx0, hy0, Option.map_some, Option.some.injEq] at this
        exact this.symm
      have hsm := HSM.out.2 x hm
      have hltz : (k : Int) < (l.length : Int) := by omega
      have HF := Lib.hid hf
      have HI := Lib.hid hi
      have HI' := Lib.hid hi'
      have HXY := Lib.hid hxy
      clear hx0 hy0 hx hy hf hi hi' hxy hm
      go_wp2
      go_still_tail 8, (by kernel_rfl)
      change wpList _ _ _ _ _ wr.drew
      have HF2 : Hid (Fresh w wr.drew) := fdrew HF.out
      have HI2 := Lib.hid (HI.out.keep (fdrew (frefl wr)))
      have HI2' := Lib.hid (HI'.out.keep (fdrew (frefl wr)))
      generalize wr.drew = w2 at HF2 HI2 HI2'
      go_wp2_with fail
      refine (eqRequest_same x y _ HXY.out HI2.out HI2'.out hsm).mono ?_
      rintro e w3 ⟨rfl, hb3⟩
      have HF3 := Lib.hid (fstep HF2.out hb3)
      clear hb3
      go_wp2
      go_roundw
      case rel => exact ⟨k + 1, by omega, by go_num, HF3.out⟩
      case measure => simp [intOf]; omega
    · have hkn : k = l.length := by omega
      have hltz : ¬ (k : Int) < (l.length : Int) := by omega
      have HF := Lib.hid hf
      clear hf
      go_wp2
      go_ret
      exact ⟨rfl, HF.out⟩

def reqB (n : Net) (v : (Int × List Int) × Int) : Bool := isVis n v.1.1 v.1.2 && inB v.2 1 24
def reqsB (n : Net) (l : List ((Int × List Int) × Int)) : Bool := netB n && decide (l.length ≤ 7) && l.all (reqB n)
theorem reqsB_net {n : Net} {l : List ((Int × List Int) × Int)} (h : netB n = false) : reqsB n l = false := by unfold reqsB; rw [h]; rfl
theorem reqsB_long {n : Net} {l : List ((Int × List Int) × Int)} (h : ¬ l.length ≤ 7) : reqsB n l = false := by unfold reqsB; rw [decide_eq_false h]; simp
theorem reqsB_all {n : Net} {l : List ((Int × List Int) × Int)} (h : netB n = true) (h2 : l.length ≤ 7) : reqsB n l = l.all (reqB n) := by unfold reqsB; rw [h, decide_eq_true h2]; simp

set_option maxHeartbeats 4000000 in
set_option maxRecDepth 100000 in
theorem l12Good_any (v : Value) (n : Net) (p : Option Addr) (cap : Nat) (l : List LQ) (w : World) (h : NetIn w v n) (hl : Reqs w p l) (hs : ReqsSmall l) :
    Calls Try.prog 86 #[v, .slice p l.length cap] w fun e w' => e = .returned (.bool (reqsB n (l.map LQ.val))) ∧ Fresh w w' := by
  have HN := Lib.hid h
  have hn := hs.1
  have HSM := Lib.hid hs
  clear hs
  obtain ⟨qn, c, pf, d, hv, _⟩ := h
  subst hv
  obtain ⟨W1, hW1⟩ : ∃ W1, W1 = w.alloc (.cells #[.slice qn n.nodes.length c, .slice pf n.fibers.length d] 32) := ⟨_, rfl⟩
  have hf1 : Fresh w W1 := by rw [hW1]; exact fnew (frefl _) _
  have hr1 : RowAt W1 w.heap.size 32 [.slice qn n.nodes.length c, .slice pf n.fibers.length d] := by rw [hW1]; exact RowAt.new w _ _
  have HF1 := Lib.hid hf1
  have HR1 := Lib.hid hr1
  have HW1 := Lib.hid hW1
  clear hf1 hr1 hW1
  go_enter Try.func86, Try.ntmps86
  go_wp2_with fail
  rw [← HW1.out]
  refine (l2Good_any _ n _ (HN.out.keep HF1.out)).mono ?_
  rintro e w1 ⟨rfl, hb⟩
  have c0 := (HR1.out.keep hb).cell (i := 0) rfl
  have c1 := (HR1.out.keep hb).cell (i := 1) rfl
  have HF := Lib.hid (fstep HF1.out hb)
  have HR := Lib.hid (HR1.out.keep hb)
  clear hb
  cases hnet : netB n
  · have HE := Lib.hid (reqsB_net (l := l.map LQ.val) hnet)
    go_wp2
    go_ret
    exact ⟨ret_bool HE.out.symm, HF.out⟩
  · by_cases h7 : l.length ≤ 7
    · have hd7 : decide (7 < (l.length : Int)) = false := decide_eq_false (by omega)
      have HE := Lib.hid (reqsB_all (l := l.map LQ.val) hnet (by simpa using h7))
      have HNET := Lib.hid hnet
      clear hnet
      go_wp2
      clear c0 c1 hd7
      go_loopw [5] (fun i wr => ∃ k : Nat, k ≤ l.length ∧ i = .int .i64 k ∧ ((l.map LQ.val).take k).all (reqB n) = true ∧ Fresh w1 wr) (fun i _ => l.length - (intOf i).toNat)
      case atStart => exact ⟨0, Nat.zero_le _, rfl, by simp, frefl _⟩
      case round =>
        obtain ⟨k, hk, rfl, hall, hf⟩ := hrel
        have HA := Lib.hid hall
        clear hall
        have HW := Lib.hid (fstep HF.out hf)
        have HF2 := Lib.hid hf
        have b0 := (HR.out.keep hf).cell (i := 0) rfl
        have b1 := (HR.out.keep hf).cell (i := 1) rfl
        by_cases hlt : k < l.length
        · obtain ⟨b, off, x, rfl, hx, hm, hi, hc0, hc1, hc2⟩ := (hl.keep HW.out).at hlt
          have hltz : (k : Int) < (l.length : Int) := by omega
          have hxv : (l.map LQ.val)[k]? = some x.val := by simp [hx]
          have hsm := HSM.out.2 x hm
          have i0 := fun xa : After wr => akeep b0 xa
          have i1 := fun xa : After wr => akeep b1 xa
          have j0 := fun xa : After wr => akeep hc0 xa
          have j1 := fun xa : After wr => akeep hc1 xa
          have j2 := fun xa : After wr => akeep hc2 xa
          obtain ⟨⟨s, q, cp, fb⟩, ct⟩ := x
          have HG : Hid (∀ xa : After wr, Calls Try.prog 125 #[.agg #[.slice qn n.nodes.length c, .slice pf n.fibers.length d], .agg #[iv s, .slice q fb.length cp]] xa.w' fun e w' => e = .returned (.bool (isVis n s fb)) ∧ Fresh xa.w' w') := by
            intro xa
            have := l4Good_any _ n s q cp fb xa.w' (HN.out.keep (fstep HW.out xa.h)) (hi.keep xa.h) hsm
            rw [HNET.out, Bool.true_and] at this
            exact this
          clear hi hm hx b0 b1 hf
          cases hvis : isVis n s fb
          · have HB := Lib.hid (all_false (f := reqB n) hxv (by simp [reqB, hvis]))
            clear hxv
            go_wp2
            refine wp_region_after (by kernel_rfl) (by kernel_rfl) ?_
            repeat (go_big_quiet_step ((first | (go_at_call 125; exact after_call (HG.out _)) | (go_at_call 143; exact after_same (l1In_any _ _ _ _)))))
            refine wpQuiet_nil ?_
            rintro _ ⟨xa, rfl⟩
            go_wp2
            go_ret
            exact ⟨ret_bool (by rw [HE.out]; exact HB.out.symm), fstep HW.out xa.h⟩
          · cases hct : inB ct 1 24
            · have HB := Lib.hid (all_false (f := reqB n) hxv (by simp [reqB, hct]))
              clear hxv
              go_wp2
              refine wp_region_after (by kernel_rfl) (by kernel_rfl) ?_
              repeat (go_big_quiet_step ((first | (go_at_call 125; exact after_call (HG.out _)) | (go_at_call 143; exact after_same (l1In_any _ _ _ _)))))
              refine wpQuiet_nil ?_
              rintro _ ⟨xa, rfl⟩
              go_wp2
              go_ret
              exact ⟨ret_bool (by rw [HE.out]; exact HB.out.symm), fstep HW.out xa.h⟩
            · have HB := Lib.hid (all_step HA.out hxv (by simp [reqB, hct, hvis]))
              clear hxv
              go_wp2
              refine wp_region_after (by kernel_rfl) (by kernel_rfl) ?_
              repeat (go_big_quiet_step ((first | (go_at_call 125; exact after_call (HG.out _)) | (go_at_call 143; exact after_same (l1In_any _ _ _ _)))))
              refine wpQuiet_nil ?_
              rintro _ ⟨xa, rfl⟩
              go_wp2
              go_roundw
              case rel => exact ⟨k + 1, by omega, by go_num, HB.out, fstep HF2.out xa.h⟩
              case measure => simp [intOf]; omega
        · have hkn : k = l.length := by omega
          have hltz : ¬ (k : Int) < (l.length : Int) := by omega
          clear hf b0 b1
          go_wp2
          go_ret
          refine ⟨ret_bool ?_, HW.out⟩
          have := HA.out
          rw [List.take_of_length_le (by simp; omega)] at this
          rw [HE.out, this]
    · have hd7 : decide (7 < (l.length : Int)) = true := decide_eq_true (by omega)
      have HE := Lib.hid (reqsB_long (n := n) (l := l.map LQ.val) (by simpa using h7))
      go_wp2
      go_ret
      exact ⟨ret_bool HE.out.symm, HF.out⟩

set_option maxHeartbeats 1000000 in
theorem specIsValidRequests_any (v : Value) (n : Net) (p : Option Addr) (cap : Nat) (l : List LQ) (w : World) (h : NetIn w v n) (hl : Reqs w p l) (hs : ReqsSmall l) :
    Calls Try.prog 24 #[v, .slice p l.length cap] w fun e w' => e = .returned (.bool (reqsB n (l.map LQ.val))) ∧ Fresh w w' := by
  have HN := Lib.hid h
  have HL := Lib.hid hl
  have HSM := Lib.hid hs
  clear hl hs
  obtain ⟨q, c, p', d', hv, _⟩ := h
  subst hv
  have HW := Lib.hid (fnew (frefl w) (.cells #[.slice q n.nodes.length c, .slice p' n.fibers.length d'] 32))
  go_enter Try.func24, Try.ntmps24
  go_wp2_with fail
  refine (l12Good_any _ n p cap l _ (HN.out.keep HW.out) (HL.out.keep HW.out) HSM.out).mono ?_
  rintro e w1 ⟨rfl, hb⟩
  have HB := Lib.hid (fstep HW.out hb)
  clear hb
  go_wp2
  go_ret
  exact ⟨rfl, HB.out⟩
end Go.Proofs.Ytjlhjkdmpngkbaa
