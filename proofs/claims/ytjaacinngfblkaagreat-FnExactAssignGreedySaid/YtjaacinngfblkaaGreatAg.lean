/- Contracts: assignment by an order, the reference's side. -/
import Derived.Test.YtjaacinngfblkaaGreatAgP
namespace Go.Proofs.YtjaacinngfblkaaGreat
open Go.RowKit Go.PlainAid

theorem ordB_len {order : List Int} {n : Nat} (h : order.length ≠ n) : ordB order n = false := by unfold ordB; rw [decide_eq_false h]; simp
theorem ordB_bad {order : List Int} {n k : Nat} {x : Int} (hx : order[k]? = some x) (h : inB x 0 ((n : Int) - 1) = false) : ordB order n = false := by
  unfold ordB; rw [all_false hx h]; simp
theorem ordB_dup {order : List Int} {n k : Nat} {x : Int} (hx : order[k]? = some x) (h : x ∈ order.take k) : ordB order n = false := by
  have hnd : ¬ order.Nodup := by
    intro hn
    have hk : k < order.length := by
      rcases Nat.lt_or_ge k order.length with h' | h'
      · exact h'
      · rw [List.getElem?_eq_none h'] at hx; cases hx
    obtain ⟨j, hj⟩ := List.mem_iff_getElem?.1 h
    have hjk : j < k := by
      rcases Nat.lt_or_ge j k with h' | h'
      · exact h'
      · rw [List.getElem?_eq_none (by simp; omega)] at hj; cases hj
    rw [List.getElem?_take_of_lt hjk] at hj
    have h3 : order[j]? = order[k]? := by rw [hj, hx]
    rw [List.getElem?_eq_getElem (show j < order.length by omega), List.getElem?_eq_getElem hk] at h3
    exact List.pairwise_iff_getElem.1 hn j k (by omega) hk hjk (Option.some.inj h3)
  unfold ordB; rw [decide_eq_false hnd]; simp
theorem nodup_snoc {l : List Int} {k : Nat} {x : Int} (hx : l[k]? = some x) (h : (l.take k).Nodup) (h2 : x ∉ l.take k) : (l.take (k + 1)).Nodup := by
  rw [List.take_add_one, hx]
  simp only [Option.toList_some]
  rw [List.nodup_append]
  exact ⟨h, by simp, by intro a ha b hb; simp at hb; subst hb; intro he; subst he; exact h2 ha⟩

set_option maxHeartbeats 4000000 in
set_option maxRecDepth 100000 in
theorem l12Order_any (p : Option Addr) (cap : Nat) (order : List Int) (n : Nat) (w : World) (hI : Ints w p order) (hn : order.length ≤ 1048576) (hc : order.length ≤ cap) (hc2 : cap ≤ 9223372036854775807) (h7 : n ≤ 1048576) :
    Calls Tryz.prog 67 #[.slice p order.length cap, .int .i64 (n : Int)] w fun e w' => e = .returned (.bool (ordB order n)) ∧ Fresh w w' := by
  obtain ⟨o, ho⟩ : ∃ o : Bool, o = ordB order n := ⟨_, rfl⟩
  have HON : Hid (ordB order n = false → o = false) := by intro h; rw [ho, h]
  have HOY : Hid (order.all (fun i => inB i 0 ((n : Int) - 1)) = true → order.Nodup → o = decide (order.length = n)) := by
    intro h1 h2; rw [ho]; unfold ordB; rw [h1, decide_eq_true h2]; simp
  rw [← ho]
  have HII := Lib.hid hI
  clear ho hI
  go_enter Tryz.func67, Tryz.ntmps67
  go_wp2
  go_loopw [5] (fun j wr => ∃ k : Nat, k ≤ order.length ∧ j = .int .i64 k ∧ (order.take k).all (fun i => inB i 0 ((n : Int) - 1)) = true ∧ (order.take k).Nodup ∧ Fresh w wr) (fun j _ => order.length - (intOf j).toNat)
  case atStart => exact ⟨0, Nat.zero_le _, rfl, rfl, by simp, frefl _⟩
  case round =>
    obtain ⟨k, hk, rfl, hall, hnd, hf⟩ := hrel
    have HALL := Lib.hid hall
    have HND := Lib.hid hnd
    have HF := Lib.hid hf
    clear hall hnd hf
    by_cases hlt : k < order.length
    · have hltz : (k : Int) < (order.length : Int) := by omega
      have hkc : (k : Int) ≤ (cap : Int) := by omega
      obtain ⟨b, off, x, rfl, hx, hc0⟩ := (HII.out.keep HF.out).at hlt
      have c0 := fun xa : After wr => akeep hc0 xa
      have htk : (order.take k).length = k := by simp; omega
      have HIT : Hid (∀ xa : After wr, Ints xa.w' (some ⟨b, off, none⟩) (order.take k)) := by
        intro xa
        rcases (HII.out.keep HF.out).keep xa.h with h | ⟨b', off', hp, hcl⟩
        · exfalso
          have := congrArg List.length h
          rw [List.length_map, List.length_nil] at this
          omega
        · refine Or.inr ⟨b', off', hp, fun i v hv => hcl i v ?_⟩
          rw [List.map_take, List.getElem?_take] at hv
          split at hv
          · exact hv
          · cases hv
      have HHAS : Hid (∀ xa : After wr, Calls Tryz.prog 89 #[.slice (some ⟨b, off, none⟩) k cap, .int .i64 x] xa.w' fun e w' => e = .returned (.bool (decide (x ∈ order.take k))) ∧ xa.w' = w') := by
        intro xa
        have := l1Has_any (some ⟨b, off, none⟩) cap (order.take k) x xa.w' (HIT.out xa) (by rw [htk]; omega)
        rwa [htk] at this
      have HX := Lib.hid hx
      obtain ⟨hb, hbe⟩ : ∃ hb : Bool, hb = decide (x ∈ order.take k) := ⟨_, rfl⟩
      rw [← hbe] at HHAS
      have HBE := Lib.hid hbe
      clear hx htk HIT hbe
      cases hin : inB x 0 ((n : Int) - 1)
      · have HE := Lib.hid (HON.out (ordB_bad HX.out hin))
        have HIN : Hid (∀ xa : After wr, Calls Tryz.prog 126 #[.int .i64 x, .int .i64 0, .int .i64 ((n : Int) - 1)] xa.w' fun e w' => e = .returned (.bool false) ∧ xa.w' = w') := by
          intro xa
          have := l1In_any x 0 ((n : Int) - 1) xa.w'
          rwa [hin] at this
        clear hin
        go_wp2
        refine wp_region_after (by kernel_rfl) (by kernel_rfl) ?_
        repeat (go_big_quiet_step ((first | (go_at_call 126; exact after_same (HIN.out _)) | (go_at_call 89; exact after_same (HHAS.out _)))))
        refine wpQuiet_nil ?_
        rintro _ ⟨xa, rfl⟩
        go_wp2
        go_ret
        exact ⟨by rw [HE.out]; rfl, fstep HF.out xa.h⟩
      · have HIN : Hid (∀ xa : After wr, Calls Tryz.prog 126 #[.int .i64 x, .int .i64 0, .int .i64 ((n : Int) - 1)] xa.w' fun e w' => e = .returned (.bool true) ∧ xa.w' = w') := by
          intro xa
          have := l1In_any x 0 ((n : Int) - 1) xa.w'
          rwa [hin] at this
        have HINB := Lib.hid hin
        clear hin
        cases hb
        · have hnm : x ∉ order.take k := by have := HBE.out; simpa using this.symm
          have HN1 := Lib.hid (nodup_snoc HX.out HND.out hnm)
          have HA1 := Lib.hid (all_step HALL.out HX.out HINB.out)
          clear hnm
          go_wp2
          refine wp_region_after (by kernel_rfl) (by kernel_rfl) ?_
          repeat (go_big_quiet_step ((first | (go_at_call 126; exact after_same (HIN.out _)) | (go_at_call 89; exact after_same (HHAS.out _)))))
          refine wpQuiet_nil ?_
          rintro _ ⟨xa, rfl⟩
          go_wp2
          go_roundw
          case rel => exact ⟨k + 1, by omega, by go_num, HA1.out, HN1.out, fstep HF.out xa.h⟩
          case measure => simp [intOf]; omega
        · have HE : Hid (o = false) := HON.out (ordB_dup HX.out (by have := HBE.out; simpa using this.symm))
          go_wp2
          refine wp_region_after (by kernel_rfl) (by kernel_rfl) ?_
          repeat (go_big_quiet_step ((first | (go_at_call 126; exact after_same (HIN.out _)) | (go_at_call 89; exact after_same (HHAS.out _)))))
          refine wpQuiet_nil ?_
          rintro _ ⟨xa, rfl⟩
          go_wp2
          go_ret
          exact ⟨by rw [HE.out]; rfl, fstep HF.out xa.h⟩
    · have hkn : k = order.length := by omega
      have HE : Hid (o = decide (order.length = n)) := HOY.out (by have := HALL.out; rwa [hkn, List.take_length] at this) (by have := HND.out; rwa [hkn, List.take_length] at this)
      subst hkn
      by_cases hnn : order.length = n
      · have hz : ((order.length : Int) == (n : Int)) = true := by simp [hnn]
        have HE2 : Hid (o = true) := by show _ = _; rw [HE.out, decide_eq_true hnn]
        clear hnn
        go_wp2
        go_ret
        exact ⟨by rw [HE2.out]; rfl, HF.out⟩
      · have hz : ((order.length : Int) == (n : Int)) = false := by rw [beq_eq_false_iff_ne]; omega
        have HE2 : Hid (o = false) := by show _ = _; rw [HE.out, decide_eq_false hnn]
        clear hnn
        go_wp2
        go_ret
        exact ⟨by rw [HE2.out]; rfl, HF.out⟩
end Go.Proofs.YtjaacinngfblkaaGreat
