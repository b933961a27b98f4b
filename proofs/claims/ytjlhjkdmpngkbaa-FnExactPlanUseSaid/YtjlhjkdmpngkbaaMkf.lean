/- Contracts: the mask of a block. -/
import Derived.Test.YtjlhjkdmpngkbaaBlk
namespace Go.Proofs.Ytjlhjkdmpngkbaa
open Go.RowKit

/-- The mask of a block, as the machine reckons it. -/
def mkF (f c : Int) : Int := wrap64 (wrap64 (wrap64 (2 ^ c.toNat) - 1) * 2 ^ f.toNat)
theorem pow2_le {n : Nat} (h : n ≤ 24) : (2 : Int) ^ n ≤ 16777216 := by
  have e : ((2 ^ n : Nat) : Int) = (2 : Int) ^ n := by rw [Int.natCast_pow]; rfl
  have h1 : 2 ^ n ≤ 2 ^ 24 := Nat.pow_le_pow_right (by omega) h
  have h2 : (2 : Nat) ^ 24 = 16777216 := by decide
  omega
theorem pow2_ge {n : Nat} (h : 1 ≤ n) : (2 : Int) ≤ 2 ^ n := by
  have e : ((2 ^ n : Nat) : Int) = (2 : Int) ^ n := by rw [Int.natCast_pow]; rfl
  have h1 : 2 ^ 1 ≤ 2 ^ n := Nat.pow_le_pow_right (by omega) h
  omega
theorem pow2_pos (n : Nat) : (1 : Int) ≤ 2 ^ n := by
  have e : ((2 ^ n : Nat) : Int) = (2 : Int) ^ n := by rw [Int.natCast_pow]; rfl
  have h1 : 1 ≤ 2 ^ n := Nat.one_le_two_pow
  omega
theorem mkF_val {f c : Int} (h1 : 0 ≤ f) (h2 : 1 ≤ c) (h3 : f + c ≤ 24) : mkF f c = (2 ^ c.toNat - 1) * 2 ^ f.toNat ∧ 1 ≤ mkF f c ∧ mkF f c ≤ 16777215 := by
  have hab : (2 : Int) ^ c.toNat * 2 ^ f.toNat ≤ 16777216 := by
    rw [← Int.pow_add]
    exact pow2_le (by omega)
  have hb : (1 : Int) ≤ 2 ^ f.toNat := pow2_pos _
  have ha : (2 : Int) ≤ 2 ^ c.toNat := pow2_ge (by omega)
  have ha' : (2 : Int) ^ c.toNat ≤ 16777216 := pow2_le (by omega)
  have e1 : wrap64 ((2 : Int) ^ c.toNat) = 2 ^ c.toNat := by unfold wrap64; omega
  have e2 : wrap64 ((2 : Int) ^ c.toNat - 1) = 2 ^ c.toNat - 1 := by unfold wrap64; omega
  have e3 : ((2 : Int) ^ c.toNat - 1) * 2 ^ f.toNat = 2 ^ c.toNat * 2 ^ f.toNat - 2 ^ f.toNat := by rw [Int.sub_mul, Int.one_mul]
  have e5 : (2 : Int) ^ f.toNat * 2 ≤ 2 ^ c.toNat * 2 ^ f.toNat := by
    rw [Int.mul_comm]; exact Int.mul_le_mul_of_nonneg_right ha (by omega)
  have e4 : wrap64 (((2 : Int) ^ c.toNat - 1) * 2 ^ f.toNat) = (2 ^ c.toNat - 1) * 2 ^ f.toNat := by
    rw [e3]; unfold wrap64; omega
  unfold mkF
  rw [e1, e2, e4]
  refine ⟨rfl, ?_, ?_⟩ <;> rw [e3] <;> omega

set_option maxHeartbeats 400000 in
theorem l8Bits_any (f c : Int) (w : World) (h1 : 0 ≤ f) (h2 : 1 ≤ c) (h3 : f + c ≤ 24) :
    Calls Try.prog 169 #[.agg #[.int .i64 f, .int .i64 c]] w fun e w' => e = .returned (.int .i64 (mkF f c)) ∧ Fresh w w' := by
  have k1 : f ≤ 23 := by omega
  have k2 : c ≤ 24 := by omega
  have k3 : 0 ≤ c := by omega
  go_enter Try.func169, Try.ntmps169
  go_wp2
  go_ret
  exact ⟨rfl, fnew (frefl _) _⟩
set_option maxHeartbeats 400000 in
theorem maskOf_any (f c : Int) (w : World) (h1 : 0 ≤ f) (h2 : 1 ≤ c) (h3 : f + c ≤ 24) :
    Calls Try.prog 153 #[.agg #[.int .i64 f, .int .i64 c]] w fun e w' => e = .returned (.int .i64 (mkF f c)) ∧ Fresh w w' := by
  have k1 : f ≤ 23 := by omega
  have k2 : c ≤ 24 := by omega
  have k3 : 0 ≤ c := by omega
  go_enter Try.func153, Try.ntmps153
  go_wp2
  go_quiet (fail)
  go_wp2
  go_ret
  exact ⟨rfl, fdrewN (fnew (frefl _) _) _⟩


end Go.Proofs.Ytjlhjkdmpngkbaa
