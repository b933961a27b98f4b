/- Plain laws: bits of masks as natural numbers (no program in sight). -/
import Derived.Test.YtjlhjkdmpngkbaaMkf
namespace Go.Proofs.Ytjlhjkdmpngkbaa
open Go.RowKit

theorem w63b (n : Int) (h0 : 0 ≤ n) (h1 : n < 2 ^ 63) : IntKind.i64.wrap n = n := by
  rw [IntKind.wrap_i64]
  have e : (2 : Int) ^ 63 = 9223372036854775808 := by decide
  omega
theorem or_i64 (a b : Nat) (ha : a < 2 ^ 63) (hb : b < 2 ^ 63) : bits BinOp.or IntKind.i64 (a : Int) (b : Int) = ((a ||| b : Nat) : Int) := (bits_nat .i64 63 (by decide) w63b a b ha hb).2
theorem andn_i64 (a b : Nat) (ha : a < 2 ^ 63) (hb : b < 2 ^ 63) : bits BinOp.and IntKind.i64 (a : Int) (b : Int) = ((a &&& b : Nat) : Int) := (bits_nat .i64 63 (by decide) w63b a b ha hb).1
theorem or24 {a b : Nat} (ha : a < 16777216) (hb : b < 16777216) : a ||| b < 16777216 := Nat.or_lt_two_pow (n := 24) ha hb
theorem lt63 {a : Nat} (ha : a < 16777216) : a < 2 ^ 63 := Nat.lt_trans ha (by decide)
/-- The mask of a block. -/
def mkN (b : Int × Int) : Nat := (mkF b.1 b.2).toNat
theorem mkN_ok {f c : Int} (h : goodB f c = true) : mkF f c = ((mkN (f, c) : Nat) : Int) ∧ 1 ≤ mkN (f, c) ∧ mkN (f, c) < 16777216 := by
  obtain ⟨h1, h2, h3⟩ := goodB_iff.1 h
  obtain ⟨_, g2, g3⟩ := mkF_val h1 h2 h3
  unfold mkN
  simp only
  omega
end Go.Proofs.Ytjlhjkdmpngkbaa
