/- Contracts: assignments of blocks, the reference's side. -/
import Derived.Test.YtjlhjkdmpngkbaaAsgP
import Derived.Test.YtjlhjkdmpngkbaaKBlk
import Derived.Test.YtjlhjkdmpngkbaaLw
namespace Go.Proofs.Ytjlhjkdmpngkbaa
open Go.RowKit Go.PlainAid

theorem rq_at {l : List LQ} {k : Nat} {x : LQ} (hx : l[k]? = some x) : (l.map LQ.val)[k]? = some x.val := by simp [hx]
set_option maxHeartbeats 1000000 in
theorem l12Conflict_any (x y : LQ) (w : World) (hI : Ints w x.r.q x.r.fibs) (hJ : Ints w y.r.q y.r.fibs) (hn : x.r.fibs.length ≤ 1048576) (hm : y.r.fibs.length ≤ 1048576) :
    Calls Try.prog 115 #[lqV x, lqV y] w fun e w' => e = .returned (.bool (confB x.val y.val)) ∧ Fresh w w' := by
  obtain ⟨⟨s, q, cap, l⟩, c⟩ := x
  obtain ⟨⟨s', q', cap', l'⟩, c'⟩ := y
  simp only at hI hJ hn hm ⊢
  obtain ⟨W2, hW2, hsz2, hf2, r1, r2⟩ := two_rows w [.int .i64 s, .slice q l.length cap, .int .i64 c] [.int .i64 s', .slice q' l'.length cap', .int .i64 c'] 128 128
  have HW2 := Lib.hid hW2
  have HF2 := Lib.hid hf2
  have HI := Lib.hid (hI.keep hf2)
  have HJ := Lib.hid (hJ.keep hf2)
  have HE : Hid (confB ((s, l), c) ((s', l'), c') = usesB l l') := rfl
  clear hW2 hsz2 hf2 r1 r2 hI hJ
  go_enter Try.func115, Try.ntmps115
  go_wp2_with fail
  rw [← HW2.out]
  refine (l4Uses_any s q q' cap cap' l l' _ HI.out HJ.out hn hm).mono ?_
  rintro e w1 ⟨rfl, hb⟩
  have HF := Lib.hid (fstep HF2.out hb)
  clear hb
  go_wp2
  go_ret
  exact ⟨ret_bool HE.out.symm, HF.out⟩

set_option maxHeartbeats 4000000 in
set_option maxRecDepth 100000 in
theorem l12Taken_any (p pb : Option Addr) (cap cb : Nat) (l : List LQ) (B : List (Int × Int)) (i : Nat) (w : World) (hl : Reqs w p l) (hs : ReqsSmall l) (hB : Prs w pb B) (hg : BGood B) (hlen : l.length ≤ B.length) (hi : i < l.length) (hbn : B.length ≤ 1048576) :
    Calls Try.prog 168 #[.slice p l.length cap, .slice pb B.length cb, .int .i64 (i : Int)] w fun e w' => e = .returned (.int .i64 (takenTo (l.map LQ.val) B i l.length : Int)) ∧ Fresh w w' := by
  have hn := hs.1
  have HSM := Lib.hid hs
  have HL := Lib.hid hl
  have HB := Lib.hid hB
  have HG := Lib.hid hg
  clear hs hl hB hg
  go_enter Try.func168, Try.ntmps168
  go_wp2
  go_loopw [7, 8] (fun a j wr => ∃ k : Nat, k ≤ l.length ∧ j = .int .i64 k ∧ a = .int .i64 (takenTo (l.map LQ.val) B i k : Int) ∧ Fresh w wr) (fun _ j _ => l.length - (intOf j).toNat)
  case atStart => exact ⟨0, Nat.zero_le _, rfl, rfl, frefl _⟩
  case round =>
    obtain ⟨k, hk, rfl, rfl, hf⟩ := hrel
    have HF := Lib.hid hf
    clear hf
    by_cases hlt : k < l.length
    · have hltz : (k : Int) < (l.length : Int) := by omega
      have hkb : (k : Int) < (B.length : Int) := by omega
      have hiz : (i : Int) < (l.length : Int) := by omega
      obtain ⟨b1, o1, x, hp1, hx, hxm, hxi, c10, c11, c12⟩ := (HL.out.keep HF.out).at hlt
      obtain ⟨b1', o1', y, hp1', hy, hym, hyi, c20, c21, c22⟩ := (HL.out.keep HF.out).at hi
      subst hp1
      cases hp1'
      obtain ⟨b3, o3, f, c, hp3, hbk, d0, d1⟩ := (HB.out.keep HF.out).at (k := k) (by omega)
      subst hp3
      have HST := Lib.hid (takenTo_succ (l.map LQ.val) B i k)
      have htl := taken_lt (L := l.map LQ.val) (i := i) (n := k) HG.out
      have hbl := bmask_lt HG.out k
      have hbm := bmask_of hbk
      have hcf := confAt_of (rq_at hx) (rq_at hy)
      have HGB := Lib.hid (HG.out _ (List.mem_of_getElem? hbk))
      obtain ⟨T, hT⟩ : ∃ T, T = takenTo (l.map LQ.val) B i k := ⟨_, rfl⟩
      rw [← hT] at htl HST ⊢
      have HBM := Lib.hid hbm
      have HCF := Lib.hid hcf
      have hsx := HSM.out.2 x hxm
      have hsy := HSM.out.2 y hym
      have HC : Hid (∀ xa : After wr, Calls Try.prog 115 #[lqV x, lqV y] xa.w' fun e w' => e = .returned (.bool (confB x.val y.val)) ∧ Fresh xa.w' w') :=
        fun xa => l12Conflict_any x y xa.w' (hxi.keep xa.h) (hyi.keep xa.h) hsx hsy
      have i0 := fun xa : After wr => akeep c10 xa
      have i1 := fun xa : After wr => akeep c11 xa
      have i2 := fun xa : After wr => akeep c12 xa
      have j0 := fun xa : After wr => akeep c20 xa
      have j1 := fun xa : After wr => akeep c21 xa
      have j2 := fun xa : After wr => akeep c22 xa
      have k0 := fun xa : After wr => akeep d0 xa
      have k1 := fun xa : After wr => akeep d1 xa
      clear hx hxm hxi hy hym hyi hbk hT hbm hcf
      by_cases hki : k = i
      · have hne : ((k : Int) != (i : Int)) = false := by simp [hki]
        have HN : Hid (takenTo (l.map LQ.val) B i (k + 1) = T) := by show _ = _; rw [HST.out]; unfold takeStep; rw [if_neg (by simp [hki])]
        clear hki
        go_wp2
        refine wp_region_after (by kernel_rfl) (by kernel_rfl) ?_
        repeat (go_big_quiet_step ((go_at_call 115; exact after_call (HC.out _))))
        refine wpQuiet_nil ?_
        rintro _ ⟨xa, rfl⟩
        go_wp2
        go_roundw
        case rel => exact ⟨k + 1, by omega, by go_num, by rw [HN.out], fstep HF.out xa.h⟩
        case measure => simp [intOf]; omega
      · have hne : ((k : Int) != (i : Int)) = true := by simp; omega
        by_cases hc0 : 0 < c
        · have hcd : decide (0 < c) = true := decide_eq_true hc0
          have hgb := HGB.out hc0
          obtain ⟨g1, g2, g3⟩ := goodB_iff.1 hgb
          obtain ⟨e1, _, e3⟩ := mkN_ok hgb
          have HOR := Lib.hid (or_i64 T (mkN (f, c)) (lt63 htl) (lt63 e3))
          have HE1 := Lib.hid e1
          clear e1 hgb
          simp only at g1 g2 g3
          cases hcc : confB x.val y.val
          · have HN : Hid (takenTo (l.map LQ.val) B i (k + 1) = T) := by show _ = _; rw [HST.out]; unfold takeStep; rw [if_neg (by rw [HCF.out, hcc]; simp)]
            rw [hcc] at HC
            clear hcc hki
            go_wp2
            refine wp_region_after (by kernel_rfl) (by kernel_rfl) ?_
            repeat (go_big_quiet_step ((go_at_call 115; exact after_call (HC.out _))))
            refine wpQuiet_nil ?_
            rintro _ ⟨xa, rfl⟩
            go_wp2
            go_roundw
            case rel => exact ⟨k + 1, by omega, by go_num, by rw [HN.out], fstep HF.out xa.h⟩
            case measure => simp [intOf]; omega
          · have HN : Hid (takenTo (l.map LQ.val) B i (k + 1) = T ||| mkN (f, c)) := by
              show _ = _; rw [HST.out]; unfold takeStep; rw [if_pos ⟨hki, by rw [HCF.out, hcc]⟩, HBM.out, if_pos hc0]
            rw [hcc] at HC
            clear hcc hki
            go_wp2
            refine wp_region_after (by kernel_rfl) (by kernel_rfl) ?_
            repeat (go_big_quiet_step ((go_at_call 115; exact after_call (HC.out _))))
            refine wpQuiet_nil ?_
            rintro _ ⟨xa, rfl⟩
            go_wp2_with (go_at_call 169; refine (l8Bits_any _ _ _ (by omega) (by omega) (by omega)).mono ?_; rintro e w3 ⟨rfl, hb3⟩)
            have HF3 := Lib.hid (fstep (fstep HF.out xa.h) hb3)
            clear hb3
            go_roundw
            case rel => exact ⟨k + 1, by omega, by go_num, by rw [HN.out, HE1.out, HOR.out], HF3.out⟩
            case measure => simp [intOf]; omega
        · have hcd : decide (0 < c) = false := decide_eq_false hc0
          have HN : Hid (takenTo (l.map LQ.val) B i (k + 1) = T) := by
            show _ = _; rw [HST.out]; unfold takeStep; rw [HBM.out, if_neg hc0]; split <;> simp
          clear hki
          go_wp2
          refine wp_region_after (by kernel_rfl) (by kernel_rfl) ?_
          repeat (go_big_quiet_step ((go_at_call 115; exact after_call (HC.out _))))
          refine wpQuiet_nil ?_
          rintro _ ⟨xa, rfl⟩
          go_wp2
          go_roundw
          case rel => exact ⟨k + 1, by omega, by go_num, by rw [HN.out], fstep HF.out xa.h⟩
          case measure => simp [intOf]; omega
    · have hkn : k = l.length := by omega
      have hltz : ¬ (k : Int) < (l.length : Int) := by omega
      subst hkn
      go_wp2
      go_ret
      exact ⟨rfl, HF.out⟩

set_option maxHeartbeats 400000 in
theorem l1Most_k (a b : Int) (w : World) : Calls Try.prog 170 #[.int .i64 a, .int .i64 b] w fun e w' => e = .returned (.int .i64 (max a b)) ∧ w = w' := by
  by_cases h : b < a
  · have HE : Hid (max a b = a) := by show max a b = a; omega
    go_enter Try.func170, Try.ntmps170
    go_wp2
    go_ret
    exact ⟨ret_int HE.out.symm, rfl⟩
  · have HE : Hid (max a b = b) := by show max a b = b; omega
    go_enter Try.func170, Try.ntmps170
    go_wp2
    go_ret
    exact ⟨ret_int HE.out.symm, rfl⟩
theorem height_bd {B : List (Int × Int)} (h : ∀ b ∈ B, goodB b.1 b.2 = true) (k : Nat) : 0 ≤ heightTo (B.take k) ∧ heightTo (B.take k) ≤ 24 := by
  induction k with
  | zero => simp [heightTo]
  | succ k ih =>
    rcases Nat.lt_or_ge k B.length with hk | hk
    · have hb := List.getElem?_eq_getElem hk
      obtain ⟨h1, h2, h3⟩ := goodB_iff.1 (h _ (List.getElem_mem hk))
      rw [height_step hb]; omega
    · rw [List.take_of_length_le (by omega)]; rw [List.take_of_length_le (by omega)] at ih; exact ih
set_option maxHeartbeats 1000000 in
theorem l12Height_any (pb : Option Addr) (cb : Nat) (B : List (Int × Int)) (w : World) (hB : Prs w pb B) (hg : ∀ b ∈ B, goodB b.1 b.2 = true) (hbn : B.length ≤ 1048576) :
    Calls Try.prog 119 #[.slice pb B.length cb] w fun e w' => e = .returned (.int .i64 (heightTo B)) ∧ Fresh w w' := by
  have HG := Lib.hid hg
  have HB := Lib.hid hB
  clear hg hB
  go_enter Try.func119, Try.ntmps119
  go_wp2
  go_loopw [3, 4] (fun a j wr => ∃ k : Nat, k ≤ B.length ∧ j = .int .i64 k ∧ a = .int .i64 (heightTo (B.take k)) ∧ Fresh w wr) (fun _ j _ => B.length - (intOf j).toNat)
  case atStart => exact ⟨0, Nat.zero_le _, rfl, rfl, frefl _⟩
  case round =>
    obtain ⟨k, hk, rfl, rfl, hf⟩ := hrel
    have HF := Lib.hid hf
    clear hf
    by_cases hlt : k < B.length
    · have hltz : (k : Int) < (B.length : Int) := by omega
      obtain ⟨b3, o3, f, c, hp3, hbk, d0, d1⟩ := (HB.out.keep HF.out).at hlt
      subst hp3
      obtain ⟨g1, g2, g3⟩ := goodB_iff.1 (HG.out _ (List.mem_of_getElem? hbk))
      have HST := Lib.hid (height_step hbk)
      obtain ⟨h1, h2⟩ := height_bd HG.out k
      obtain ⟨H, hH⟩ : ∃ H, H = heightTo (B.take k) := ⟨_, rfl⟩
      rw [← hH] at h1 h2 HST ⊢
      simp only at g1 g2 g3
      have k0 := fun xa : After wr => akeep d0 xa
      have k1 := fun xa : After wr => akeep d1 xa
      have hsum : IntKind.i64.wrap (f + c) = f + c := by rw [IntKind.wrap_i64]; omega
      have HSUM := Lib.hid hsum
      clear hbk hH
      go_wp2
      refine wp_region_after (by kernel_rfl) (by kernel_rfl) ?_
      repeat (go_big_quiet_step ((go_at_call 170; exact after_same (l1Most_k _ _ _))))
      refine wpQuiet_nil ?_
      rintro _ ⟨xa, rfl⟩
      go_wp2
      go_roundw
      case rel => exact ⟨k + 1, by omega, by go_num, by rw [HST.out], fstep HF.out xa.h⟩
      case measure => simp [intOf]; omega
    · have hkn : k = B.length := by omega
      have hltz : ¬ (k : Int) < (B.length : Int) := by omega
      subst hkn
      go_wp2
      go_ret
      exact ⟨by simp, HF.out⟩

set_option maxHeartbeats 4000000 in
set_option maxRecDepth 100000 in
theorem l12Is_any (p pb : Option Addr) (cap cb : Nat) (l : List LQ) (B : List (Int × Int)) (w : World) (hl : Reqs w p l) (hs : ReqsSmall l) (hB : Prs w pb B) (hbn : B.length ≤ 1048576) :
    Calls Try.prog 118 #[.slice p l.length cap, .slice pb B.length cb] w fun e w' => e = .returned (.bool (asgB (l.map LQ.val) B)) ∧ Fresh w w' := by
  have hn := hs.1
  have HSM := Lib.hid hs
  have HL := Lib.hid hl
  have HB := Lib.hid hB
  clear hs hl hB
  have hml : (l.map LQ.val).length = l.length := by simp
  by_cases hlen : B.length = l.length
  · have hlz : ((B.length : Int) != (l.length : Int)) = false := by simp [hlen]
    have HLE := Lib.hid hlen
    have HML := Lib.hid hml
    have hlb : (l.length : Int) ≤ (B.length : Int) := by omega
    clear hlen hml
    go_enter Try.func118, Try.ntmps118
    go_wp2
    go_loopw [5] (fun j wr => ∃ k : Nat, k ≤ l.length ∧ j = .int .i64 k ∧ (∀ i, i < k → fitAt (l.map LQ.val) B i = true) ∧ Fresh w wr) (fun j _ => l.length - (intOf j).toNat)
    case atStart => exact ⟨0, Nat.zero_le _, rfl, fun i hi => by omega, frefl _⟩
    case round =>
      obtain ⟨k, hk, rfl, hall, hf⟩ := hrel
      have HA := Lib.hid hall
      have HF := Lib.hid hf
      clear hall hf
      by_cases hlt : k < l.length
      · have hltz : (k : Int) < (l.length : Int) := by omega
        have hkb : (k : Int) < (B.length : Int) := by omega
        obtain ⟨b1, o1, x, hp1, hx, hxm, hxi, c10, c11, c12⟩ := (HL.out.keep HF.out).at hlt
        subst hp1
        obtain ⟨b3, o3, f, c, hp3, hbk, d0, d1⟩ := (HB.out.keep HF.out).at (k := k) (by omega)
        subst hp3
        have hfit : fitAt (l.map LQ.val) B k = (goodB f c && decide (c = x.count)) := by unfold fitAt; rw [hbk, rq_at hx]
        have HFIT := Lib.hid hfit
        have i2 := fun xa : After wr => akeep c12 xa
        have k0 := fun xa : After wr => akeep d0 xa
        have k1 := fun xa : After wr => akeep d1 xa
        have HK := Lib.hid hlt
        clear hx hxm hxi hbk hfit
        have hbad : fitAt (l.map LQ.val) B k = false → asgB (l.map LQ.val) B = false := by
          intro h
          unfold asgB
          rw [rall_bad (k := k) (by rw [HML.out]; exact HK.out) (by rw [h]; rfl), Bool.and_false]
        have HBAD := Lib.hid hbad
        clear hbad
        cases hgd : goodB f c
        · have HE : Hid (asgB (l.map LQ.val) B = false) := HBAD.out (by rw [HFIT.out, hgd]; rfl)
          go_wp2
          refine wp_region_after (by kernel_rfl) (by kernel_rfl) ?_
          repeat (go_big_quiet_step ((go_at_call 161; exact after_call (l8Good_any _ _ _))))
          refine wpQuiet_nil ?_
          rintro _ ⟨xa, rfl⟩
          go_wp2
          go_ret
          exact ⟨ret_bool HE.out.symm, fstep HF.out xa.h⟩
        · by_cases hcx : c = x.count
          · have hcz : (c != x.count) = false := by simp [hcx]
            have HN : Hid (fitAt (l.map LQ.val) B k = true) := by show _ = _; rw [HFIT.out, hgd, decide_eq_true hcx]; rfl
            clear hcx
            go_wp2
            refine wp_region_after (by kernel_rfl) (by kernel_rfl) ?_
            repeat (go_big_quiet_step ((go_at_call 161; exact after_call (l8Good_any _ _ _))))
            refine wpQuiet_nil ?_
            rintro _ ⟨xa, rfl⟩
            go_wp2
            go_roundw
            case rel =>
              refine ⟨k + 1, by omega, by go_num, fun i hi => ?_, fstep HF.out xa.h⟩
              rcases Nat.lt_or_ge i k with h' | h'
              · exact HA.out i h'
              · have : i = k := by omega
                rw [this]; exact HN.out
            case measure => simp [intOf]; omega
          · have hcz : (c != x.count) = true := by simp [hcx]
            have HE : Hid (asgB (l.map LQ.val) B = false) := HBAD.out (by rw [HFIT.out, decide_eq_false hcx, Bool.and_false])
            clear hcx
            go_wp2
            refine wp_region_after (by kernel_rfl) (by kernel_rfl) ?_
            repeat (go_big_quiet_step ((go_at_call 161; exact after_call (l8Good_any _ _ _))))
            refine wpQuiet_nil ?_
            rintro _ ⟨xa, rfl⟩
            go_wp2
            go_ret
            exact ⟨ret_bool HE.out.symm, fstep HF.out xa.h⟩
      · have hkn : k = l.length := by omega
        have hltz : ¬ (k : Int) < (l.length : Int) := by omega
        subst hkn
        have HALL : Hid (∀ i, i < (l.map LQ.val).length → fitAt (l.map LQ.val) B i = true) := by show _; rw [HML.out]; exact HA.out
        have HAS := Lib.hid (asg_spec (by rw [HML.out]; exact HLE.out) HALL.out)
        have HGD : Hid (∀ b ∈ B, goodB b.1 b.2 = true) := by
          intro b hb
          obtain ⟨j, hj, rfl⟩ := List.getElem_of_mem hb
          obtain ⟨b', x', h1, _, h3, _⟩ := fit_good (HALL.out j (by rw [HML.out, ← HLE.out]; exact hj))
          rw [List.getElem?_eq_getElem hj] at h1
          cases h1; exact h3
        have HG : Hid (BGood B) := fun b hb _ => HGD.out b hb
        clear HA
        go_wp2
        go_loopw [6] (fun j wr => ∃ k : Nat, k ≤ l.length ∧ j = .int .i64 k ∧ (∀ i, i < k → takenTo (l.map LQ.val) B i (l.map LQ.val).length &&& bmask B i = 0) ∧ Fresh w wr) (fun j _ => l.length - (intOf j).toNat)
        case atStart => exact ⟨0, Nat.zero_le _, rfl, fun i hi => by omega, HF.out⟩
        case round =>
          clear HF
          obtain ⟨k, hk, rfl, hall, hf⟩ := hrel
          have HA := Lib.hid hall
          have HF := Lib.hid hf
          clear hall hf
          by_cases hlt : k < l.length
          · have hltz : (k : Int) < (l.length : Int) := by omega
            have hkb : (k : Int) < (B.length : Int) := by omega
            obtain ⟨b3, o3, f, c, hp3, hbk, d0, d1⟩ := (HB.out.keep HF.out).at (k := k) (by omega)
            subst hp3
            have hgb := HGD.out _ (List.mem_of_getElem? hbk)
            obtain ⟨g1, g2, g3⟩ := goodB_iff.1 hgb
            obtain ⟨e1, _, e3⟩ := mkN_ok hgb
            have hbm := bmask_of hbk
            rw [if_pos (good_pos hgb)] at hbm
            have htl := taken_lt (L := l.map LQ.val) (i := k) (n := l.length) HG.out
            have HC : Hid (∀ xa : After wr, Calls Try.prog 168 #[.slice p l.length cap, .slice (some ⟨b3, o3, none⟩) B.length cb, .int .i64 (k : Int)] xa.w' fun e w' => e = .returned (.int .i64 (takenTo (l.map LQ.val) B k l.length : Int)) ∧ Fresh xa.w' w') :=
              fun xa => l12Taken_any p _ cap cb l B k xa.w' (HL.out.keep (fstep HF.out xa.h)) HSM.out (HB.out.keep (fstep HF.out xa.h)) HG.out (by omega) hlt hbn
            obtain ⟨T, hT⟩ : ∃ T, T = takenTo (l.map LQ.val) B k l.length := ⟨_, rfl⟩
            rw [← hT] at htl HC
            have HT := Lib.hid hT
            have HBM := Lib.hid hbm
            have hand := andn_i64 T (mkN (f, c)) (lt63 htl) (lt63 e3)
            rw [← e1] at hand
            have k0 := fun xa : After wr => akeep d0 xa
            have k1 := fun xa : After wr => akeep d1 xa
            have HAND := Lib.hid hand
            simp only at g1 g2 g3
            clear hbk hgb e1 hbm hT hand
            by_cases hz : T &&& mkN (f, c) = 0
            · have hbz : (bits BinOp.and IntKind.i64 (T : Int) (mkF f c) != 0) = false := by rw [HAND.out, hz]; rfl
              have HN : Hid (takenTo (l.map LQ.val) B k (l.map LQ.val).length &&& bmask B k = 0) := by show _ = _; rw [HML.out, ← HT.out, HBM.out, hz]
              clear hz
              go_wp2
              refine wp_region_after (by kernel_rfl) (by kernel_rfl) ?_
              repeat (go_big_quiet_step ((first | (go_at_call 168; exact after_call (HC.out _)) | (go_at_call 169; exact after_call (l8Bits_any _ _ _ (by omega) (by omega) (by omega))))))
              refine wpQuiet_nil ?_
              rintro _ ⟨xa, rfl⟩
              go_wp2
              go_roundw
              case rel =>
                refine ⟨k + 1, by omega, by go_num, fun i hi => ?_, fstep HF.out xa.h⟩
                rcases Nat.lt_or_ge i k with h' | h'
                · exact HA.out i h'
                · have : i = k := by omega
                  rw [this]; exact HN.out
              case measure => simp [intOf]; omega
            · have hbz : (bits BinOp.and IntKind.i64 (T : Int) (mkF f c) != 0) = true := by rw [HAND.out, bne_iff_ne]; simp; exact hz
              have HE : Hid (asgB (l.map LQ.val) B = false) := by
                show _ = _
                rw [Bool.eq_false_iff]
                intro h
                have := HAS.out.1 h k (by rw [HML.out]; exact hlt)
                rw [HML.out, ← HT.out, HBM.out] at this
                exact hz this
              clear hz
              go_wp2
              refine wp_region_after (by kernel_rfl) (by kernel_rfl) ?_
              repeat (go_big_quiet_step ((first | (go_at_call 168; exact after_call (HC.out _)) | (go_at_call 169; exact after_call (l8Bits_any _ _ _ (by omega) (by omega) (by omega))))))
              refine wpQuiet_nil ?_
              rintro _ ⟨xa, rfl⟩
              go_wp2
              go_ret
              exact ⟨ret_bool HE.out.symm, fstep HF.out xa.h⟩
          · have hkn : k = l.length := by omega
            have hltz : ¬ (k : Int) < (l.length : Int) := by omega
            subst hkn
            have HE : Hid (asgB (l.map LQ.val) B = true) := HAS.out.2 (by rw [HML.out]; rw [HML.out] at HA; exact HA.out)
            go_wp2
            go_ret
            exact ⟨ret_bool HE.out.symm, HF.out⟩
  · have hlz : ((B.length : Int) != (l.length : Int)) = true := by simp; omega
    have HE : Hid (asgB (l.map LQ.val) B = false) := by show asgB _ _ = false; unfold asgB; rw [decide_eq_false (by rw [hml]; exact hlen)]; rfl
    clear hlen hml
    go_enter Try.func118, Try.ntmps118
    go_wp2
    go_ret
    exact ⟨ret_bool HE.out.symm, frefl _⟩

set_option maxHeartbeats 2000000 in
theorem specCheckAssignment_any (v : Value) (n : Net) (u : Value) (L : List ((Int × List Int) × Int)) (u2 : Value) (B : List (Int × Int)) (w : World) (h : NetIn w v n) (hu : RqIn w u L) (hb : BkIn w u2 B) :
    Calls Try.prog 56 #[v, u, u2] w fun e w' => e = .returned (.tuple #[.int .i64 (chkF n L B).1, .bool (chkF n L B).2]) ∧ Fresh w w' := by
  obtain ⟨p, cap, l, rfl, hl, hs, rfl⟩ := hu
  obtain ⟨pb, cb, rfl, hB, hbn⟩ := hb
  have HN := Lib.hid h
  have HL := Lib.hid hl
  have HSM := Lib.hid hs
  have HB := Lib.hid hB
  obtain ⟨q, m, c, p', k', d', rfl⟩ := h.shape
  clear h hl hs hB
  have HW := Lib.hid (fnew (frefl w) (.cells #[.slice q m c, .slice p' k' d'] 32))
  go_enter Try.func56, Try.ntmps56
  go_wp2_with fail
  refine (l12Good_any _ n p cap l _ (HN.out.keep HW.out) (HL.out.keep HW.out) HSM.out).mono ?_
  rintro e w1 ⟨rfl, hb⟩
  have HF := Lib.hid (fstep HW.out hb)
  clear hb
  cases hg : reqsB n (l.map LQ.val)
  · have HE : Hid (chkF n (l.map LQ.val) B = (0, false)) := by show chkF _ _ _ = _; unfold chkF; rw [if_neg (by simp [hg])]
    go_wp2
    go_ret2
    exact ⟨by rw [HE.out]; rfl, HF.out⟩
  · go_wp2_with fail
    refine (l12Is_any p pb cap cb l B _ (HL.out.keep HF.out) HSM.out (HB.out.keep HF.out) hbn).mono ?_
    rintro e w2 ⟨rfl, hb⟩
    have HF := Lib.hid (fstep HF.out hb)
    clear hb
    cases ha : asgB (l.map LQ.val) B
    · have HE : Hid (chkF n (l.map LQ.val) B = (0, false)) := by show chkF _ _ _ = _; unfold chkF; rw [if_neg (by simp [ha])]
      go_wp2
      go_ret2
      exact ⟨by rw [HE.out]; rfl, HF.out⟩
    · have HE : Hid (chkF n (l.map LQ.val) B = (heightTo B, true)) := by show chkF _ _ _ = _; unfold chkF; rw [if_pos ⟨hg, ha⟩]
      have HGD : Hid (∀ b ∈ B, goodB b.1 b.2 = true) := asg_good ha
      clear hg ha
      go_wp2_with fail
      refine (l12Height_any pb cb B _ (HB.out.keep HF.out) HGD.out hbn).mono ?_
      rintro e w3 ⟨rfl, hb⟩
      have HF := Lib.hid (fstep HF.out hb)
      clear hb
      go_wp2
      go_ret2
      exact ⟨by rw [HE.out]; rfl, HF.out⟩
end Go.Proofs.Ytjlhjkdmpngkbaa
