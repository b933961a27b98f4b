/- Contracts: SpectrumUse on both sides; the walk of its law. -/
import Derived.Test.YtkafmhgnbfofjaaUse
namespace Go.Proofs.Ytkafmhgnbfofjaa
open Go.RowKit

theorem runsTo_small (m : Int) : ∀ (k : Nat) {l : List (Int × Int)} {c : Nat}, runsTo m k = (l, c) → ∀ r ∈ l, 0 ≤ r.2 ∧ r.2 ≤ k := by
  intro k
  induction k with
  | zero => intro l c h; simp [runsTo] at h; obtain ⟨rfl, rfl⟩ := h; simp
  | succ k ih =>
    intro l c h r hr
    rcases hk : runsTo m k with ⟨l', c'⟩
    have hc' := (runsTo_le m k hk).2
    cases hf : freeS m k
    · rcases Nat.eq_zero_or_pos c' with rfl | hc
      · rw [runsTo_same hk hf] at h; simp at h; obtain ⟨rfl, rfl⟩ := h
        have := ih hk r hr; omega
      · rw [runsTo_run hk hf hc] at h; simp only [Prod.mk.injEq] at h; obtain ⟨rfl, rfl⟩ := h
        rw [List.mem_append] at hr
        rcases hr with hr | hr
        · have := ih hk r hr; omega
        · simp at hr; subst hr; simp only; omega
    · rw [runsTo_free hk hf] at h; simp at h; obtain ⟨rfl, rfl⟩ := h
      have := ih hk r hr; omega
theorem runs_small (m : Int) : ∀ r ∈ runs m, 0 ≤ r.2 ∧ r.2 ≤ 25 := fun r hr => runsTo_small m 25 (l := runs m) (c := (runsTo m 25).2) rfl r hr

def mx (a b : Int) : Int := if b < a then a else b
/-- The longest of the first runs. -/
def longTo (l : List (Int × Int)) : Nat → Int
  | 0 => 0
  | k + 1 => mx (longTo l k) (l.getD k (0, 0)).2
theorem longTo_step {l : List (Int × Int)} {k : Nat} {x y : Int} (h : l[k]? = some (x, y)) : longTo l (k + 1) = mx (longTo l k) y := by simp [longTo, List.getD, h]
theorem longTo_bd {l : List (Int × Int)} (h : ∀ r ∈ l, 0 ≤ r.2 ∧ r.2 ≤ 25) : ∀ k, 0 ≤ longTo l k ∧ longTo l k ≤ 25 := by
  intro k
  induction k with
  | zero => simp [longTo]
  | succ k ih =>
    unfold longTo mx
    have hr : 0 ≤ (l.getD k (0, 0)).2 ∧ (l.getD k (0, 0)).2 ≤ 25 := by
      rcases hk : l[k]? with _ | r
      · simp [List.getD, hk]
      · have := h r (List.mem_of_getElem? hk); simpa [List.getD, hk] using this
    split <;> omega
def longest (m : Int) : Int := longTo (runs m) (runs m).length
theorem longest_bd (m : Int) : 0 ≤ longest m ∧ longest m ≤ 25 := longTo_bd (runs_small m) _

set_option maxHeartbeats 400000 in
theorem l1Most_any (a b : Int) (w : World) : Calls Try.prog 85 #[.int .i64 a, .int .i64 b] w fun e w' => e = .returned (.int .i64 (mx a b)) ∧ w = w' := by
  by_cases h : b < a
  · have HM : Hid (mx a b = a) := if_pos h
    go_enter Try.func85, Try.ntmps85
    go_wp2
    go_ret
    exact ⟨by rw [HM.out]; rfl, rfl⟩
  · have HM : Hid (mx a b = b) := if_neg h
    go_enter Try.func85, Try.ntmps85
    go_wp2
    go_ret
    exact ⟨by rw [HM.out]; rfl, rfl⟩

set_option maxHeartbeats 1000000 in
theorem l8Longest_any (m : Int) (w : World) (h0 : 0 ≤ m) :
    Calls Try.prog 79 #[.int .i64 m] w fun e w' => e = .returned (.int .i64 (longest m)) ∧ Fresh w w' := by
  have hlen := runs_len m
  have HE : Hid (longest m = longTo (runs m) (runs m).length) := rfl
  go_enter Try.func79, Try.ntmps79
  go_wp2_with fail
  refine (l8Runs_any _ _ h0).mono ?_; rintro e w1 ⟨p, cap, rfl, ho, hb⟩
  generalize runs m = L at *
  have hI := ho.prs
  have HB := Lib.hid hb
  clear ho hb
  go_wp2
  go_loop [4, 5] (fun b i => ∃ k : Nat, k ≤ L.length ∧ i = .int .i64 k ∧ b = .int .i64 (longTo L k)) (fun _ i => L.length - (intOf i).toNat)
  case atStart => exact ⟨0, Nat.zero_le _, rfl, rfl⟩
  case round =>
    obtain ⟨k, hk, rfl, rfl⟩ := hrel
    by_cases hlt : k < L.length
    · obtain ⟨b, off, x, y, rfl, hx, hc0, hc1⟩ := hI.at hlt
      have HS := Lib.hid (longTo_step hx)
      clear hx hI hc0
      go_wp2_with (go_at_call 85; refine (l1Most_any _ _ _).mono ?_; rintro e w' ⟨rfl, rfl⟩)
      go_round
      case rel => exact ⟨k + 1, by omega, by go_num, by rw [HS.out]⟩
      case measure => simp [intOf]; omega
    · have hkn : k = L.length := by omega
      subst hkn
      go_wp2
      go_ret
      exact ⟨by rw [HE.out]; rfl, HB.out⟩

/-- What is used of a spectrum. -/
def useF (m : Int) : Int × Int × Int × Bool :=
  if maskB m then ((pop.cnt m.toNat : Int), longest m, (if 24 - (pop.cnt m.toNat : Int) = 0 then 0 else 1000 - (1000 * longest m + (24 - (pop.cnt m.toNat : Int)) - 1) / (24 - (pop.cnt m.toNat : Int))), true) else (0, 0, 0, false)
theorem useF_no {m : Int} (h : maskB m = false) : useF m = (0, 0, 0, false) := by simp [useF, h]
theorem useF_full {m : Int} {c : Nat} (h : maskB m = true) (hc : pop.cnt m.toNat = c) (hf : 24 - (c : Int) = 0) : useF m = ((c : Int), longest m, 0, true) := by
  unfold useF; rw [if_pos h, hc, if_pos hf]
theorem useF_part {m : Int} {c : Nat} (h : maskB m = true) (hc : pop.cnt m.toNat = c) (hf : ¬ 24 - (c : Int) = 0) : useF m = ((c : Int), longest m, 1000 - (1000 * longest m + (24 - (c : Int)) - 1) / (24 - (c : Int)), true) := by
  unfold useF; rw [if_pos h, hc, if_neg hf]
def use4 (r : Int × Int × Int × Bool) : Value := .tuple #[.int .i64 r.1, .int .i64 r.2.1, .int .i64 r.2.2.1, .bool r.2.2.2]

set_option maxHeartbeats 1000000 in
theorem specSpectrumUse_any (m : Int) (w : World) : Calls Try.prog 51 #[.int .i64 m] w fun e w' => e = .returned (use4 (useF m)) ∧ Fresh w w' := by
  cases hm : maskB m
  · have HP := Lib.hid (useF_no hm)
    go_enter Try.func51, Try.ntmps51
    go_wp2_with (go_at_call 63; refine (l8Mask_any _ _).mono ?_; rintro e w' ⟨rfl, rfl⟩)
    refine bodyPost_ret (v := use4 (0, 0, 0, false)) (by simp [results, Try.results51, go_sem, use4]) rfl ⟨by rw [HP.out], frefl _⟩
  · obtain ⟨m0, m1⟩ := inB_iff.1 hm
    obtain ⟨x, rfl⟩ := Int.eq_ofNat_of_zero_le m0
    have hx : x < 16777216 := by omega
    have hcb := pop.cntTo_le x 24
    rw [pop.cntTo_24 x hx] at hcb
    have HF := Lib.hid (fun c => useF_full (c := c) hm)
    have HG := Lib.hid (fun c => useF_part (c := c) hm)
    obtain ⟨l0, l1⟩ := longest_bd (x : Int)
    have HL := Lib.hid (l8Longest_any (x : Int))
    generalize hl : longest (x : Int) = l at *
    have HLL := Lib.hid hl
    clear hl
    have HC := Lib.hid (fun w => l8Count_any x w hx)
    have HT : Hid (((x : Int)).toNat = x) := Int.toNat_natCast x
    generalize hc : pop.cnt x = c at *
    have HCC := Lib.hid hc
    clear hc
    by_cases hf : c = 24
    · subst hf
      go_enter Try.func51, Try.ntmps51
      go_wp2_with (go_at_call 63; refine (l8Mask_any _ _).mono ?_; rintro e w' ⟨rfl, rfl⟩)
      refine (HC.out _).mono ?_; rintro e w' ⟨rfl, rfl⟩
      go_wp2_with fail
      refine (HL.out _ m0).mono ?_; rintro e w1 ⟨rfl, hb⟩
      go_wp2
      refine bodyPost_ret (v := use4 (24, l, 0, true)) (by simp [results, Try.results51, go_sem, use4]) rfl ⟨?_, hb⟩
      rw [HF.out 24 (by rw [HT.out, HCC.out]) (by omega)]; rfl
    · have hz : (24 - (c : Int) == 0) = false := beq_eq_false_iff_ne.2 (by omega)
      have hpos : 1 ≤ 24 - (c : Int) := by omega
      have hnum : 0 ≤ 1000 * l + (24 - (c : Int)) - 1 := by omega
      have hq0 : 0 ≤ (1000 * l + (24 - (c : Int)) - 1) / (24 - (c : Int)) := Int.ediv_nonneg hnum (by omega)
      have hq1 : (1000 * l + (24 - (c : Int)) - 1) / (24 - (c : Int)) ≤ 1000 * l + (24 - (c : Int)) - 1 := Int.ediv_le_self _ hnum
      go_enter Try.func51, Try.ntmps51
      go_wp2_with (go_at_call 63; refine (l8Mask_any _ _).mono ?_; rintro e w' ⟨rfl, rfl⟩)
      refine (HC.out _).mono ?_; rintro e w' ⟨rfl, rfl⟩
      go_wp2_with fail
      refine (HL.out _ m0).mono ?_; rintro e w1 ⟨rfl, hb⟩
      go_wp2
      go_quiet (fail)
      go_wp2
      refine bodyPost_ret (v := use4 ((c : Int), l, 1000 - (1000 * l + (24 - (c : Int)) - 1) / (24 - (c : Int)), true)) (by simp [results, Try.results51, go_sem, use4]) rfl ⟨?_, fdrewN hb _⟩
      rw [HG.out c (by rw [HT.out, HCC.out]) (by omega)]
end Go.Proofs.Ytkafmhgnbfofjaa
