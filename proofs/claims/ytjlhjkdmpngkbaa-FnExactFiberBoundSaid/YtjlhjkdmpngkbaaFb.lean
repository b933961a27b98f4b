/- Contracts: FiberBound, the reference's side; slices.Max. -/
import Derived.Test.YtjlhjkdmpngkbaaKReq
import Derived.Test.YtjlhjkdmpngkbaaFbP
namespace Go.Proofs.Ytjlhjkdmpngkbaa
open Go.RowKit Go.PlainAid

set_option maxHeartbeats 4000000 in
set_option maxRecDepth 100000 in
theorem specFiberBound_any (v : Value) (n : Net) (u : Value) (L : List RqV) (w : World) (h : NetIn w v n) (hu : RqIn w u L) :
    Calls Try.prog 35 #[v, u] w fun e w' => e = .returned (.tuple #[.int .i64 (fiberBoundF n L).1, .int .i64 (fiberBoundF n L).2.1, .bool (fiberBoundF n L).2.2]) ∧ Fresh w w' := by
  obtain ⟨p, cap, l, rfl, hl, hs, hL⟩ := hu
  have HN := Lib.hid h
  have HL := Lib.hid hl
  have HLL := Lib.hid hL
  have hn := hs.1
  have HSM := Lib.hid hs
  clear hs hl hL
  obtain ⟨q, c, p', d', hv, _, _, _, hnf, _⟩ := h
  subst hv
  obtain ⟨W1, hW1⟩ : ∃ W1, W1 = w.alloc (.cells #[.slice q n.nodes.length c, .slice p' n.fibers.length d'] 32) := ⟨_, rfl⟩
  have HF1 : Hid (Fresh w W1) := by show Fresh w W1; rw [hW1]; exact fnew (frefl _) _
  have HR1 : Hid (RowAt W1 w.heap.size 32 [.slice q n.nodes.length c, .slice p' n.fibers.length d']) := by show RowAt W1 _ _ _; rw [hW1]; exact RowAt.new w _ _
  have HW1 := Lib.hid hW1
  clear hW1
  go_enter Try.func35, Try.ntmps35
  go_wp2_with fail
  rw [← HW1.out]
  refine (l12Good_any _ n p cap l _ (HN.out.keep HF1.out) (HL.out.keep HF1.out) HSM.out).mono ?_
  rintro e w1 ⟨rfl, hb⟩
  rw [← HLL.out]
  have HF := Lib.hid (fstep HF1.out hb)
  have b1 := (HR1.out.keep hb).cell (i := 1) rfl
  clear hb
  cases hg : reqsB n L
  · have HE : Hid (fiberBoundF n L = (0, 0, false)) := by show fiberBoundF n L = _; simp [fiberBoundF, hg]
    go_wp2
    go_ret3
    exact ⟨by rw [HE.out]; rfl, HF.out⟩
  · have HE : Hid (fiberBoundF n L = ((fbR L n.fibers.length).1, (fbR L n.fibers.length).2, true)) := by show fiberBoundF n L = _; simp [fiberBoundF, hg]
    have hmem := reqs_mem hg
    have HM : Hid (∀ x ∈ L, 0 ≤ x.2 ∧ x.2 ≤ 24) := fun x hx => ⟨by have := (hmem x hx).1; omega, (hmem x hx).1.2⟩
    clear hmem hg
    go_wp2
    go_loop [7, 8, 9] (fun a b f => ∃ k : Nat, k ≤ n.fibers.length ∧ f = .int .i64 k ∧ a = .int .i64 (fbR L k).1 ∧ b = .int .i64 (fbR L k).2) (fun _ _ f => n.fibers.length - (intOf f).toNat)
    case atStart => exact ⟨0, Nat.zero_le _, rfl, rfl, rfl⟩
    case round =>
      obtain ⟨k, hk, rfl, rfl, rfl⟩ := hrel
      by_cases hlt : k < n.fibers.length
      · have hltz : (k : Int) < (n.fibers.length : Int) := by omega
        obtain ⟨m0, hm0⟩ : ∃ m0, m0 = (fbR L k).1 := ⟨_, rfl⟩
        obtain ⟨m1, hm1⟩ : ∃ m1, m1 = (fbR L k).2 := ⟨_, rfl⟩
        have HS := Lib.hid (fbR_succ L k)
        rw [← hm0, ← hm1]
        have HM0 := Lib.hid hm0
        have HM1 := Lib.hid hm1
        clear hm0 hm1
        go_wp2
        go_loop [10, 11] (fun s i => ∃ j : Nat, j ≤ l.length ∧ i = .int .i64 j ∧ s = .int .i64 (cntAt (L.take j) k)) (fun _ i => l.length - (intOf i).toNat)
        case atStart => exact ⟨0, Nat.zero_le _, rfl, rfl⟩
        case round =>
          obtain ⟨j, hj, rfl, rfl⟩ := hrel
          by_cases hlt2 : j < l.length
          · have hltz2 : (j : Int) < (l.length : Int) := by omega
            obtain ⟨b, off, x, rfl, hx, hm, hi, hc0, hc1, hc2⟩ := (HL.out.keep HF.out).at hlt2
            have hLx : L[j]? = some x.val := by rw [HLL.out]; simp [hx]
            have hst := cnt_step (k := j) (k : Int) hLx
            have hxv := HM.out x.val (List.mem_of_getElem? hLx)
            have hcb := cnt_bd (L := L.take j) (k : Int) (fun x hx => HM.out x (List.mem_of_mem_take hx))
            have hlt7 : ((L.take j).length : Int) ≤ j := by simp; omega
            have hsz := HSM.out.2 x hm
            obtain ⟨s0, hs0⟩ : ∃ s0, s0 = cntAt (L.take j) (k : Int) := ⟨_, rfl⟩
            rw [← hs0] at hst hcb ⊢
            simp only [LQ.val, LR.val] at hst hxv
            have hb0 : 0 ≤ s0 := hcb.1
            have hb1 : s0 ≤ 24 * 1048576 := by omega
            have hx1 : 0 ≤ x.count := hxv.1
            have hx2 : x.count ≤ 24 := hxv.2
            have HST := Lib.hid hst
            have HI := Lib.hid hi
            clear hLx hst hxv hcb hlt7 hs0 hx hm hi
            by_cases hmem : (k : Int) ∈ x.r.fibs
            · have hdm : decide ((k : Int) ∈ x.r.fibs) = true := decide_eq_true hmem
              have HNX : Hid (cntAt (L.take (j + 1)) k = s0 + x.count) := by show _ = _; rw [HST.out, if_pos hmem]
              clear hmem HST
              go_wp2_with (go_at_call 95; refine (l1Has_any _ _ _ _ _ HI.out (by omega)).mono ?_; rintro e w2 ⟨rfl, rfl⟩)
              go_round
              case rel => exact ⟨j + 1, by omega, by go_num, by rw [HNX.out]⟩
              case measure => simp [intOf]; omega
            · have hdm : decide ((k : Int) ∈ x.r.fibs) = false := decide_eq_false hmem
              have HNX : Hid (cntAt (L.take (j + 1)) k = s0) := by show _ = _; rw [HST.out, if_neg hmem]
              clear hmem HST
              go_wp2_with (go_at_call 95; refine (l1Has_any _ _ _ _ _ HI.out (by omega)).mono ?_; rintro e w2 ⟨rfl, rfl⟩)
              go_round
              case rel => exact ⟨j + 1, by omega, by go_num, by rw [HNX.out]⟩
              case measure => simp [intOf]; omega
          · have hjn : j = l.length := by omega
            have hltz2 : ¬ (j : Int) < (l.length : Int) := by omega
            obtain ⟨s0, hs0⟩ : ∃ s0, s0 = cntAt (L.take j) (k : Int) := ⟨_, rfl⟩
            have HS0 : Hid (s0 = cntAt L k) := by
              show s0 = _
              rw [hs0, List.take_of_length_le (by rw [HLL.out]; simp; omega)]
            rw [← hs0]
            clear hs0
            by_cases hgt : m0 < s0
            · have HNX : Hid (fbR L (k + 1) = (s0, (k : Int))) := by show _ = _; rw [HS.out]; unfold fbStep; rw [← HM0.out, ← HS0.out, if_pos hgt]
              go_wp2
              go_round
              case rel => exact ⟨k + 1, by omega, by go_num, by rw [HNX.out], by rw [HNX.out]⟩
              case measure => simp [intOf]; omega
            · have HNX : Hid (fbR L (k + 1) = (m0, m1)) := by show _ = _; rw [HS.out]; unfold fbStep; rw [← HM0.out, ← HS0.out, if_neg hgt, HM0.out, HM1.out]
              go_wp2
              go_round
              case rel => exact ⟨k + 1, by omega, by go_num, by rw [HNX.out], by rw [HNX.out]⟩
              case measure => simp [intOf]; omega
      · have hkn : k = n.fibers.length := by omega
        have hltz : ¬ (k : Int) < (n.fibers.length : Int) := by omega
        subst hkn
        go_wp2
        go_ret3
        exact ⟨by rw [HE.out]; rfl, HF.out⟩

set_option maxHeartbeats 1000000 in
theorem maxI_any (p : Option Addr) (cap : Nat) (l : List Int) (w : World) (hI : Ints w p l) (h0 : 0 < l.length) (hn : l.length ≤ 1099511627776) :
    Calls Try.prog 96 #[.slice p l.length cap] w fun e w' => e = .returned (.int .i64 (maxL l)) ∧ w = w' := by
  obtain ⟨b, off, x, rfl, hx, hc⟩ := hI.at h0
  rw [Nat.add_zero] at hc
  have h1z : ¬ (l.length : Int) < 1 := by omega
  have HX : Hid (maxL (l.take 1) = x) := by
    show maxL (l.take 1) = x
    cases l with
    | nil => simp at h0
    | cons a l => simp at hx; subst hx; rfl
  have h0z : 0 < (l.length : Int) := by omega
  clear hx
  go_enter Try.func96, Try.ntmps96
  go_wp2
  go_loop [3, 4] (fun m i => ∃ k : Nat, 0 < k ∧ k ≤ l.length ∧ i = .int .i64 k ∧ m = .int .i64 (maxL (l.take k))) (fun _ i => l.length - (intOf i).toNat)
  case atStart => exact ⟨1, by omega, by omega, rfl, by rw [HX.out]⟩
  case round =>
    obtain ⟨k, hk0, hk, rfl, rfl⟩ := hrel
    by_cases hlt : k < l.length
    · have hltz : (k : Int) < (l.length : Int) := by omega
      obtain ⟨b', off', y, hp, hy, hc'⟩ := hI.at hlt
      cases hp
      have HST := Lib.hid (max_step hk0 hy)
      clear hy hc
      go_wp2
      go_round
      case rel => exact ⟨k + 1, by omega, by omega, by go_num, by rw [HST.out]; congr 1; rw [Int.max_def]; split <;> split <;> omega⟩
      case measure => simp [intOf]; omega
    · have hkn : k = l.length := by omega
      have hltz : ¬ (k : Int) < (l.length : Int) := by omega
      subst hkn
      go_wp2
      go_ret
      exact ⟨rfl, rfl⟩
end Go.Proofs.Ytjlhjkdmpngkbaa
