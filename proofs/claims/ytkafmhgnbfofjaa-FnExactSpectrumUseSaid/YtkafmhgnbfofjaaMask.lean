/- Contracts: the mask of a block; BlockMask on both sides; the walks of the laws FnExactBlockMask and FnExactUnionMasks. -/
import Derived.Test.YtkafmhgnbfofjaaInts
namespace Go.Proofs.Ytkafmhgnbfofjaa
open Go.RowKit

/-- The mask of a block, as the machine reckons it. -/
def mkF (f c : Int) : Int := wrap64 (wrap64 (wrap64 (2 ^ c.toNat) - 1) * 2 ^ f.toNat)
theorem pow2_le {n : Nat} (h : n ≤ 24) : (2 : Int) ^ n ≤ 16777216 := by
  have e : ((2 ^ n : Nat) : Int) = (2 : Int) ^ n := by rw [Int.natCast_pow]; rfl
  have h1 : 2 ^ n ≤ 2 ^ 24 := Nat.pow_le_pow_right (by omega) h
  have h2 : (2 : Nat) ^ 24 = 16777216 := by decide
  omega
theorem pow2_ge {n : Nat} (h : 1 ≤ n) : (2 : Int) ≤ 2 ^ n := by
  have e : ((2 ^ n : Nat) : Int) = (2 : Int) ^ n := by rw [Int.natCast_pow]; rfl
  have h1 : 2 ^ 1 ≤ 2 ^ n := Nat.pow_le_pow_right (by omega) h
  omega
theorem pow2_pos (n : Nat) : (1 : Int) ≤ 2 ^ n := by
  have e : ((2 ^ n : Nat) : Int) = (2 : Int) ^ n := by rw [Int.natCast_pow]; rfl
  have h1 : 1 ≤ 2 ^ n := Nat.one_le_two_pow
  omega
theorem mkF_val {f c : Int} (h1 : 0 ≤ f) (h2 : 1 ≤ c) (h3 : f + c ≤ 24) : mkF f c = (2 ^ c.toNat - 1) * 2 ^ f.toNat ∧ 1 ≤ mkF f c ∧ mkF f c ≤ 16777215 := by
  have hab : (2 : Int) ^ c.toNat * 2 ^ f.toNat ≤ 16777216 := by
    rw [← Int.pow_add]
    exact pow2_le (by omega)
  have hb : (1 : Int) ≤ 2 ^ f.toNat := pow2_pos _
  have ha : (2 : Int) ≤ 2 ^ c.toNat := pow2_ge (by omega)
  have ha' : (2 : Int) ^ c.toNat ≤ 16777216 := pow2_le (by omega)
  have e1 : wrap64 ((2 : Int) ^ c.toNat) = 2 ^ c.toNat := by unfold wrap64; omega
  have e2 : wrap64 ((2 : Int) ^ c.toNat - 1) = 2 ^ c.toNat - 1 := by unfold wrap64; omega
  have e3 : ((2 : Int) ^ c.toNat - 1) * 2 ^ f.toNat = 2 ^ c.toNat * 2 ^ f.toNat - 2 ^ f.toNat := by rw [Int.sub_mul, Int.one_mul]
  have e5 : (2 : Int) ^ f.toNat * 2 ≤ 2 ^ c.toNat * 2 ^ f.toNat := by
    rw [Int.mul_comm]; exact Int.mul_le_mul_of_nonneg_right ha (by omega)
  have e4 : wrap64 (((2 : Int) ^ c.toNat - 1) * 2 ^ f.toNat) = (2 ^ c.toNat - 1) * 2 ^ f.toNat := by
    rw [e3]; unfold wrap64; omega
  unfold mkF
  rw [e1, e2, e4]
  refine ⟨rfl, ?_, ?_⟩ <;> rw [e3] <;> omega

set_option maxHeartbeats 400000 in
theorem l8Bits_any (f c : Int) (w : World) (h1 : 0 ≤ f) (h2 : 1 ≤ c) (h3 : f + c ≤ 24) :
    Calls Try.prog 61 #[.agg #[.int .i64 f, .int .i64 c]] w fun e w' => e = .returned (.int .i64 (mkF f c)) ∧ Fresh w w' := by
  have k1 : f ≤ 23 := by omega
  have k2 : c ≤ 24 := by omega
  have k3 : 0 ≤ c := by omega
  go_enter Try.func61, Try.ntmps61
  go_wp2
  go_ret
  exact ⟨rfl, fnew (frefl _) _⟩
set_option maxHeartbeats 400000 in
theorem maskOf_any (f c : Int) (w : World) (h1 : 0 ≤ f) (h2 : 1 ≤ c) (h3 : f + c ≤ 24) :
    Calls Try.prog 62 #[.agg #[.int .i64 f, .int .i64 c]] w fun e w' => e = .returned (.int .i64 (mkF f c)) ∧ Fresh w w' := by
  have k1 : f ≤ 23 := by omega
  have k2 : c ≤ 24 := by omega
  have k3 : 0 ≤ c := by omega
  go_enter Try.func62, Try.ntmps62
  go_wp2
  go_quiet (fail)
  go_wp2
  go_ret
  exact ⟨rfl, fdrewN (fnew (frefl _) _) _⟩

def bmF (f c : Int) : Int × Bool := if goodB f c then (mkF f c, true) else (0, false)
theorem bmF_good {f c : Int} (h : goodB f c = true) : bmF f c = (mkF f c, true) := by simp [bmF, h]
theorem bmF_bad {f c : Int} (h : goodB f c = false) : bmF f c = (0, false) := by simp [bmF, h]

set_option maxHeartbeats 400000 in
theorem specBlockMask_any (f c : Int) (w : World) :
    Calls Try.prog 20 #[.agg #[.int .i64 f, .int .i64 c]] w fun e w' => e = .returned (.tuple #[.int .i64 (bmF f c).1, .bool (bmF f c).2]) ∧ Fresh w w' := by
  cases hg : goodB f c
  · have HG := Lib.hid (bmF_bad hg)
    go_enter Try.func20, Try.ntmps20
    go_wp2_with (go_at_call 59; refine (l8Good_any _ _ _).mono ?_; rintro e w1 ⟨rfl, hb1⟩)
    go_ret2
    exact ⟨by rw [HG.out]; rfl, fstep (fnew (frefl _) _) hb1⟩
  · have HG := Lib.hid (bmF_good hg)
    obtain ⟨g1, g2, g3⟩ := goodB_iff.1 hg
    go_enter Try.func20, Try.ntmps20
    go_wp2_with fail
    refine (l8Good_any _ _ _).mono ?_; rintro e w1 ⟨rfl, hb1⟩
    have c0 := box hb1 0 rfl
    have c1 := box hb1 1 rfl
    go_wp2_with fail
    refine (l8Bits_any _ _ _ g1 g2 g3).mono ?_; rintro e w2 ⟨rfl, hb2⟩
    go_wp2
    go_ret2
    exact ⟨by rw [HG.out]; rfl, fstep (fnew (frefl _) _) (fstep hb1 hb2)⟩
set_option maxHeartbeats 400000 in
theorem implBlockMask_any (f c : Int) (w : World) :
    Calls Try.prog 21 #[.agg #[.int .i64 f, .int .i64 c]] w fun e w' => e = .returned (.tuple #[.int .i64 (bmF f c).1, .bool (bmF f c).2]) ∧ Fresh w w' := by
  cases hg : goodB f c
  · have HG := Lib.hid (bmF_bad hg)
    go_enter Try.func21, Try.ntmps21
    go_wp2_with (go_at_call 19; refine (implIsValidBlock_any _ _ _).mono ?_; rintro e w1 ⟨rfl, hb1⟩)
    go_ret2
    exact ⟨by rw [HG.out]; rfl, fstep (fnew (frefl _) _) hb1⟩
  · have HG := Lib.hid (bmF_good hg)
    obtain ⟨g1, g2, g3⟩ := goodB_iff.1 hg
    go_enter Try.func21, Try.ntmps21
    go_wp2_with fail
    refine (implIsValidBlock_any _ _ _).mono ?_; rintro e w1 ⟨rfl, hb1⟩
    have c0 := box hb1 0 rfl
    have c1 := box hb1 1 rfl
    go_wp2_with fail
    refine (maskOf_any _ _ _ g1 g2 g3).mono ?_; rintro e w2 ⟨rfl, hb2⟩
    go_wp2
    go_ret2
    exact ⟨by rw [HG.out]; rfl, fstep (fnew (frefl _) _) (fstep hb1 hb2)⟩

set_option maxHeartbeats 400000 in
theorem law_BlockMask (f c : Int) (w : World) :
    Calls Try.prog 4 #[.agg #[.int .i64 f, .int .i64 c]] w fun e w' => e = .returned (.bool true) ∧ Fresh w w' := by
  generalize hr : bmF f c = r
  obtain ⟨m, ok⟩ := r
  have HR := Lib.hid hr
  clear hr
  go_enter Try.func4, Try.ntmps4
  go_wp2_with fail
  refine (toBlock_any _ _ _).mono ?_; rintro e w1 ⟨rfl, hb1⟩
  go_wp2_with fail
  refine (specBlockMask_any _ _ _).mono ?_; rintro e w2 ⟨rfl, hb2⟩
  rw [HR.out]
  have hb := fstep hb1 hb2
  have c0 := box hb 0 rfl
  have c1 := box hb 1 rfl
  go_wp2_with fail
  refine (toBlock_any _ _ _).mono ?_; rintro e w3 ⟨rfl, hb3⟩
  go_wp2_with fail
  refine (implBlockMask_any _ _ _).mono ?_; rintro e w4 ⟨rfl, hb4⟩
  rw [HR.out]
  go_wp2
  go_ret
  exact ⟨rfl, fstep (fnew (frefl _) _) (fstep hb (fstep hb3 hb4))⟩

set_option maxHeartbeats 400000 in
theorem law_UnionMasks (p : Option Addr) (c : Nat) (xs : List Int) (w : World) (hI : Ints w p xs) (hm : xs.length ≤ 9223372036854775807) :
    Calls Try.prog 5 #[.slice p xs.length c] w fun e w' => e = .returned (.bool true) ∧ Fresh w w' := by
  by_cases hn : xs.length ≤ 1048576
  · generalize hr : unionF xs = r
    obtain ⟨m, ok⟩ := r
    have HR := Lib.hid hr
    have HI := Lib.hid hI
    clear hr hI
    go_enter Try.func5, Try.ntmps5
    go_wp2_with fail
    refine (toIntS_any _ _ _ _ HI.out hn).mono ?_; rintro e w1 ⟨rfl, hr1, hb1⟩
    have HR1 := Lib.hid hr1
    have hI1 := Lib.hid (HI.out.keep hb1)
    clear hr1
    go_wp2_with fail
    refine (specUnionMasks_any _ _ _ _ HR1.out.cells hn).mono ?_; rintro e w2 ⟨rfl, rfl⟩
    rw [HR.out]
    go_wp2_with fail
    refine (toIntS_any _ _ _ _ hI1.out hn).mono ?_; rintro e w3 ⟨rfl, hr3, hb3⟩
    have HR3 := Lib.hid hr3
    have hI3 := Lib.hid (hI1.out.keep hb3)
    clear hr3
    go_wp2_with fail
    refine (implUnionMasks_any _ _ _ _ HR3.out.cells hn).mono ?_; rintro e w4 ⟨rfl, rfl⟩
    rw [HR.out]
    go_wp2_with fail
    refine (toIntS_any _ _ _ _ hI3.out hn).mono ?_; rintro e w5 ⟨rfl, hr5, hb5⟩
    have HR5 := Lib.hid hr5
    clear hr5
    go_wp2_with fail
    refine (eqIntS_any _ _ _ _ _ _ _ (HR3.out.keep hb5).cells HR5.out.cells (by omega)).mono ?_; rintro e w6 ⟨rfl, hb6⟩
    have he : eqInts xs xs = true := by simp [eqInts]
    go_wp2
    go_ret
    exact ⟨rfl, fstep hb1 (fstep hb3 (fstep hb5 hb6))⟩
  · have h : (1048576 : Int) < (xs.length : Int) := by omega
    go_enter Try.func5, Try.ntmps5
    go_wp2
    go_ret
    exact ⟨rfl, frefl _⟩
end Go.Proofs.Ytkafmhgnbfofjaa
