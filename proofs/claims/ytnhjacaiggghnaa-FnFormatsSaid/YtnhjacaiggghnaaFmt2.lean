/- Contracts: the best format for a length, the slots for a rate, on both sides; the walks of the laws FnExactIsValidFormats, FnExactFormatFor, FnExactSlotsFor. -/
import Derived.Test.YtnhjacaiggghnaaFmt
namespace Go.Proofs.Ytnhjacaiggghnaa
open Go.RowKit

/-- The last of the first k formats whose reach is enough, or -1. -/
def bestTo (l : List (Int × Int)) (n : Int) : Nat → Int
  | 0 => -1
  | k + 1 => if n ≤ (l.getD k (0, 0)).1 then (k : Int) else bestTo l n k
def bestI (l : List (Int × Int)) (n : Int) : Int := bestTo l n l.length
theorem bestTo_yes {l : List (Int × Int)} {n : Int} {k : Nat} {x y : Int} (hx : l[k]? = some (x, y)) (h : n ≤ x) : bestTo l n (k + 1) = (k : Int) := by simp [bestTo, List.getD, hx, h]
theorem bestTo_no {l : List (Int × Int)} {n : Int} {k : Nat} {x y : Int} (hx : l[k]? = some (x, y)) (h : ¬ n ≤ x) : bestTo l n (k + 1) = bestTo l n k := by simp [bestTo, List.getD, hx, h]
theorem bestTo_bound (l : List (Int × Int)) (n : Int) : ∀ k, -1 ≤ bestTo l n k ∧ bestTo l n k < k := by
  intro k
  induction k with
  | zero => simp [bestTo]
  | succ k ih => unfold bestTo; split <;> omega
theorem bestI_bound (l : List (Int × Int)) (n : Int) : -1 ≤ bestI l n ∧ bestI l n < l.length := bestTo_bound l n l.length

set_option maxHeartbeats 1000000 in
theorem l10Best_any (p : Option Addr) (cap : Nat) (l : List (Int × Int)) (n : Int) (w : World) (hI : Prs w p l) (hn : l.length ≤ 1048576) :
    Calls Try.prog 41 #[.slice p l.length cap, .int .i64 n] w fun e w' => e = .returned (.int .i64 (bestI l n)) ∧ w = w' := by
  go_enter Try.func41, Try.ntmps41
  go_wp2
  go_loop [5, 6] (fun b i => ∃ k : Nat, k ≤ l.length ∧ i = .int .i64 k ∧ b = .int .i64 (bestTo l n k)) (fun _ i => l.length - (intOf i).toNat)
  case atStart => exact ⟨0, Nat.zero_le _, rfl, rfl⟩
  case round =>
    obtain ⟨k, hk, rfl, rfl⟩ := hrel
    by_cases hlt : k < l.length
    · obtain ⟨b, off, x, y, rfl, hx, hc0, hc1⟩ := hI.at hlt
      clear hI hc1
      by_cases hge : n ≤ x
      · have HB := Lib.hid (bestTo_yes hx hge)
        clear hx
        go_wp2
        go_round
        case rel => exact ⟨k + 1, by omega, by go_num, by rw [HB.out]⟩
        case measure => simp [intOf]; omega
      · have HB := Lib.hid (bestTo_no hx hge)
        clear hx
        go_wp2
        go_round
        case rel => exact ⟨k + 1, by omega, by go_num, by rw [HB.out]⟩
        case measure => simp [intOf]; omega
    · have hkn : k = l.length := by omega
      subst hkn
      go_wp2
      go_ret
      exact ⟨rfl, rfl⟩

def fmtFor (l : List (Int × Int)) (n : Int) : Int × Bool := if fmtsB l && inB n 0 20000 && decide (0 ≤ bestI l n) then (bestI l n, true) else (0, false)
theorem fmtFor_no {l : List (Int × Int)} {n : Int} (h : (fmtsB l && inB n 0 20000) = false) : fmtFor l n = (0, false) := by simp [fmtFor, h]
theorem fmtFor_none {l : List (Int × Int)} {n : Int} (h : bestI l n < 0) : fmtFor l n = (0, false) := by
  have : decide (0 ≤ bestI l n) = false := decide_eq_false (by omega)
  simp [fmtFor, this]
theorem fmtFor_yes {l : List (Int × Int)} {n : Int} (h : (fmtsB l && inB n 0 20000) = true) (hb : 0 ≤ bestI l n) : fmtFor l n = (bestI l n, true) := by simp [fmtFor, h, hb]

set_option maxHeartbeats 1000000 in
theorem implFormatFor_any (p : Option Addr) (cap : Nat) (l : List (Int × Int)) (n : Int) (w : World) (hI : Prs w p l) (hn : l.length ≤ 1048576) :
    Calls Try.prog 25 #[.slice p l.length cap, .int .i64 n] w fun e w' => e = .returned (.tuple #[.int .i64 (fmtFor l n).1, .bool (fmtFor l n).2]) ∧ Fresh w w' := by
  cases h1 : fmtsB l
  · have HP := Lib.hid (fmtFor_no (l := l) (n := n) (by rw [h1]; rfl))
    go_enter Try.func25, Try.ntmps25
    go_wp2_with (go_at_call 9; refine (implIsValidFormats_any _ _ _ _ hI hn).mono ?_; rintro e w1 ⟨rfl, hb1⟩)
    go_ret2
    exact ⟨by rw [HP.out]; rfl, hb1⟩
  · cases h2 : inB n 0 20000
    · have HP := Lib.hid (fmtFor_no (l := l) (n := n) (by rw [h1, h2]; rfl))
      go_enter Try.func25, Try.ntmps25
      go_wp2_with (first | (go_at_call 9; refine (implIsValidFormats_any _ _ _ _ hI hn).mono ?_; rintro e w1 ⟨rfl, hb1⟩) | (go_at_call 26; refine (within_any _ _ _ _).mono ?_; rintro e w' ⟨rfl, rfl⟩))
      go_ret2
      exact ⟨by rw [HP.out]; rfl, hb1⟩
    · have HQ := Lib.hid (fmtFor_yes (l := l) (n := n) (by rw [h1, h2]; rfl))
      go_enter Try.func25, Try.ntmps25
      go_wp2_with fail
      refine (implIsValidFormats_any _ _ _ _ hI hn).mono ?_; rintro e w1 ⟨rfl, hb1⟩
      have hI1 := hI.keep hb1
      clear hI
      go_wp2_with (go_at_call 26; refine (within_any _ _ _ _).mono ?_; rintro e w' ⟨rfl, rfl⟩)
      go_loop [6] (fun i => ∃ k : Nat, k ≤ l.length ∧ i = .int .i64 ((k : Int) - 1) ∧ bestI l n = bestTo l n k) (fun i => (intOf i + 1).toNat)
      case atStart => exact ⟨l.length, Nat.le_refl _, rfl, rfl⟩
      case round =>
        obtain ⟨k, hk, rfl, hb⟩ := hrel
        have HB := Lib.hid hb
        clear hb
        by_cases hlt : 0 < k
        · obtain ⟨b, off, x, y, rfl, hx, hc0, hc1⟩ := hI1.at (k := k - 1) (by omega)
          clear hI1 hc1
          have hk1 : k - 1 + 1 = k := by omega
          have hz : (k : Int) - 1 < (l.length : Int) := by omega
          by_cases hge : n ≤ x
          · have HX := Lib.hid (bestTo_yes hx hge)
            have HK := Lib.hid hk1
            clear hx hk1
            go_wp2
            go_ret2
            refine ⟨?_, hb1⟩
            have e := HX.out
            rw [HK.out, ← HB.out] at e
            have ek : ((k - 1 : Nat) : Int) = (k : Int) - 1 := by omega
            rw [HQ.out (by rw [e]; omega), e, ek]; rfl
          · have HX := Lib.hid (bestTo_no hx hge)
            have HK := Lib.hid hk1
            clear hx hk1
            go_wp2
            go_round
            case rel =>
              refine ⟨k - 1, by omega, by go_num, ?_⟩
              have e := HX.out
              rw [HK.out] at e
              rw [HB.out, e]
            case measure => simp [intOf]; omega
        · have hk0 : k = 0 := by omega
          subst hk0
          have HP := Lib.hid (fmtFor_none (l := l) (n := n) (by rw [HB.out]; simp [bestTo]))
          go_wp2
          go_ret2
          exact ⟨by rw [HP.out]; rfl, hb1⟩

/-- The rate of format i. -/
def rateAt (l : List (Int × Int)) (i : Int) : Int := (l.getD i.toNat (0, 0)).2
theorem rateAt_range {l : List (Int × Int)} {i : Int} (h : fmtsB l = true) (h0 : 0 ≤ i) (h1 : i < l.length) : 1 ≤ rateAt l i ∧ rateAt l i ≤ 1000 := by
  unfold fmtsB at h
  rw [Bool.and_eq_true, List.all_eq_true] at h
  have hk := h.1 i.toNat (List.mem_range.2 (by omega))
  have hlt : i.toNat < l.length := by omega
  have hx : l[i.toNat]? = some l[i.toNat] := List.getElem?_eq_getElem hlt
  unfold rateAt
  simp only [List.getD, hx, Option.getD_some]
  simp only [okAt, hx, Bool.and_eq_true] at hk
  exact inB_iff.1 hk.1.2
/-- The slots for a rate on a length, or 0. -/
def slotsN (l : List (Int × Int)) (n r : Int) : Int :=
  if bestI l n < 0 then 0 else (if 24 < (r + rateAt l (bestI l n) - 1) / rateAt l (bestI l n) then 0 else (r + rateAt l (bestI l n) - 1) / rateAt l (bestI l n))
def slotsF (l : List (Int × Int)) (n r : Int) : Int × Bool := if ((fmtsB l && inB n 0 20000) && inB r 1 1000) && !(slotsN l n r == 0) then (slotsN l n r, true) else (0, false)
theorem slotsF_no {l : List (Int × Int)} {n r : Int} (h : ((fmtsB l && inB n 0 20000) && inB r 1 1000) = false) : slotsF l n r = (0, false) := by simp [slotsF, h]
theorem slotsF_zero {l : List (Int × Int)} {n r : Int} (h : slotsN l n r = 0) : slotsF l n r = (0, false) := by simp [slotsF, h]
theorem slotsF_yes {l : List (Int × Int)} {n r : Int} (h : ((fmtsB l && inB n 0 20000) && inB r 1 1000) = true) (hs : slotsN l n r ≠ 0) : slotsF l n r = (slotsN l n r, true) := by simp [slotsF, h, hs]
theorem slotsN_none {l : List (Int × Int)} {n r : Int} (h : bestI l n < 0) : slotsN l n r = 0 := by simp [slotsN, h]
theorem slotsN_many {l : List (Int × Int)} {n r : Int} (h : 24 < (r + rateAt l (bestI l n) - 1) / rateAt l (bestI l n)) : slotsN l n r = 0 := by simp [slotsN, h]
theorem slotsN_some {l : List (Int × Int)} {n r : Int} (h0 : ¬ bestI l n < 0) (h : ¬ 24 < (r + rateAt l (bestI l n) - 1) / rateAt l (bestI l n)) : slotsN l n r = (r + rateAt l (bestI l n) - 1) / rateAt l (bestI l n) := by
  unfold slotsN; rw [if_neg h0, if_neg h]
theorem quo_pos {r q : Int} (hr : 1 ≤ r) (hq : 1 ≤ q) : 1 ≤ (r + q - 1) / q := by
  apply Int.le_ediv_of_mul_le (by omega); omega

theorem prs_rate {w : World} {p : Option Addr} {l : List (Int × Int)} {i : Int} (h : Prs w p l) (h0 : 0 ≤ i) (h1 : i < l.length) :
    ∃ b off, p = some ⟨b, off, none⟩ ∧ w.cell? ⟨b, off + i.toNat * 2 + 1, none⟩ = some (.int .i64 (rateAt l i)) := by
  obtain ⟨b, off, x, y, hp, hx, _, hc⟩ := h.at (k := i.toNat) (by omega)
  refine ⟨b, off, hp, ?_⟩
  unfold rateAt
  simp only [List.getD, hx, Option.getD_some]
  exact hc

set_option maxHeartbeats 1000000 in
theorem l10Slots_any (p : Option Addr) (cap : Nat) (l : List (Int × Int)) (n r : Int) (w : World) (hI : Prs w p l) (hn : l.length ≤ 1048576) (hv : fmtsB l = true) (hr : 1 ≤ r ∧ r ≤ 1000) :
    Calls Try.prog 29 #[.slice p l.length cap, .int .i64 n, .int .i64 r] w fun e w' => e = .returned (.int .i64 (slotsN l n r)) ∧ Fresh w w' := by
  obtain ⟨r1, r2⟩ := hr
  have hbd := bestI_bound l n
  by_cases h0 : bestI l n < 0
  · have HS := Lib.hid (slotsN_none (r := r) h0)
    go_enter Try.func29, Try.ntmps29
    go_wp2_with (go_at_call 41; refine (l10Best_any _ _ _ _ _ hI hn).mono ?_; rintro e w' ⟨rfl, rfl⟩)
    go_ret
    exact ⟨by rw [HS.out]; rfl, frefl _⟩
  · obtain ⟨q1, q2⟩ := rateAt_range hv (i := bestI l n) (by omega) hbd.2
    obtain ⟨b, off, rfl, hc⟩ := prs_rate hI (i := bestI l n) (by omega) hbd.2
    have HM := Lib.hid (slotsN_many (l := l) (n := n) (r := r))
    have HS := Lib.hid (slotsN_some (l := l) (n := n) (r := r) h0)
    have HI := Lib.hid hI
    have HV := Lib.hid hv
    clear hI hv
    generalize hq : rateAt l (bestI l n) = q at *
    have HQ := Lib.hid hq
    clear hq
    generalize hi : bestI l n = i at *
    have HB := Lib.hid hi
    clear hi
    by_cases hm : 24 < (r + q - 1) / q
    all_goals
      go_enter Try.func29, Try.ntmps29
      go_wp2_with fail
      refine (l10Best_any _ _ _ _ _ HI.out hn).mono ?_; rw [HB.out]; rintro e w' ⟨rfl, rfl⟩
      go_wp2
      go_quiet (fail)
      go_wp2
      go_ret
    · exact ⟨by rw [HM.out hm]; rfl, fdrewN (frefl _) _⟩
    · exact ⟨by rw [HS.out hm]; rfl, fdrewN (frefl _) _⟩
end Go.Proofs.Ytnhjacaiggghnaa
