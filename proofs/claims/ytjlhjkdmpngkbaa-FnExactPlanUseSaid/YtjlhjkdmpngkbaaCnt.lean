/- Contracts: the ones of a mask, both sides. -/
import Derived.Test.YtjlhjkdmpngkbaaBase
import Derived.Test.YtjlhjkdmpngkbaaPop
namespace Go.Proofs.Ytjlhjkdmpngkbaa
open Go.RowKit

theorem w63 (n : Int) (h0 : 0 ≤ n) (h1 : n < 2 ^ 63) : IntKind.i64.wrap n = n := by
  rw [IntKind.wrap_i64]
  have e : (2 : Int) ^ 63 = 9223372036854775808 := by decide
  omega
theorem and_i64 (a b : Nat) (ha : a < 2 ^ 63) (hb : b < 2 ^ 63) : bits BinOp.and IntKind.i64 (a : Int) (b : Int) = ((a &&& b : Nat) : Int) :=
  (bits_nat .i64 63 (by decide) w63 a b ha hb).1
theorem and_one (m k : Nat) (hm : m < 2 ^ 63) : bits BinOp.and IntKind.i64 ((m : Int) / 2 ^ k) 1 = ((m / 2 ^ k % 2 : Nat) : Int) := by
  have h : m / 2 ^ k < 2 ^ 63 := Nat.lt_of_le_of_lt (Nat.div_le_self _ _) hm
  have e : ((m : Int) / 2 ^ k) = ((m / 2 ^ k : Nat) : Int) := by rw [Int.natCast_ediv, Int.natCast_pow]; rfl
  have := and_i64 (m / 2 ^ k) 1 h (by decide)
  rw [e]
  rw [show ((1 : Int)) = ((1 : Nat) : Int) from rfl, this, Nat.and_one_is_mod]

set_option maxHeartbeats 1000000 in
theorem l8Count_any (m : Nat) (w : World) (hm : m < 16777216) :
    Calls Try.prog 132 #[.int .i64 (m : Int)] w fun e w' => e = .returned (.int .i64 (pop.cnt m : Int)) ∧ w = w' := by
  have h63 : m < 2 ^ 63 := Nat.lt_trans hm (by decide)
  have HE := Lib.hid (pop.cntTo_24 m hm)
  go_enter Try.func132, Try.ntmps132
  go_wp2
  go_loop [3, 4] (fun c s => ∃ k : Nat, k ≤ 24 ∧ s = .int .i64 k ∧ c = .int .i64 (pop.cntTo m k : Int)) (fun _ s => 24 - (intOf s).toNat)
  case atStart => exact ⟨0, by omega, rfl, rfl⟩
  case round =>
    obtain ⟨k, hk, rfl, rfl⟩ := hrel
    have hle := pop.cntTo_le m k
    by_cases hlt : k < 24
    · have hd : decide ((k : Int) < 24) = true := decide_eq_true (by omega)
      have ht := and_one m k h63
      have hs : pop.cntTo m (k + 1) = pop.cntTo m k + m / 2 ^ k % 2 := rfl
      have hb : m / 2 ^ k % 2 < 2 := Nat.mod_lt _ (by omega)
      generalize m / 2 ^ k % 2 = b at *
      have HS := Lib.hid hs
      clear hs
      go_wp2
      go_round
      case rel => exact ⟨k + 1, by omega, by go_num, by rw [HS.out]; go_num⟩
      case measure => simp [intOf]; omega
    · have hd : decide ((k : Int) < 24) = false := decide_eq_false (by omega)
      have hk24 : k = 24 := by omega
      subst hk24
      go_wp2
      go_ret
      exact ⟨by rw [← HE.out]; rfl, rfl⟩

theorem and_u64 (a b : Nat) (ha : a < 18446744073709551616) (hb : b < 18446744073709551616) : bits BinOp.and IntKind.u64 (a : Int) (b : Int) = ((a &&& b : Nat) : Int) := bits_and_u64_nat a b ha hb

set_option maxHeartbeats 1000000 in
theorem onesCount64_any (x : Nat) (w : World) (hx : x < 16777216) :
    Calls Try.prog 176 #[.int .u64 (x : Int)] w fun e w' => e = .returned (.int .i64 (pop.cnt x : Int)) ∧ w = w' := by
  obtain ⟨y1, h1⟩ : ∃ y, y = (x / 2) &&& pop.M0 := ⟨_, rfl⟩
  obtain ⟨y2, h2⟩ : ∃ y, y = x &&& pop.M0 := ⟨_, rfl⟩
  obtain ⟨y3, h3⟩ : ∃ y, y = ((y1 + y2) / 4) &&& pop.M1 := ⟨_, rfl⟩
  obtain ⟨y4, h4⟩ : ∃ y, y = (y1 + y2) &&& pop.M1 := ⟨_, rfl⟩
  obtain ⟨y5, h5⟩ : ∃ y, y = ((y3 + y4) / 16 + (y3 + y4)) &&& pop.M2 := ⟨_, rfl⟩
  have hfin := pop.swar x (y1 + y2) (y3 + y4) y5 hx (by rw [h1, h2]) (by rw [h3, h4]) h5
  have l1 : y1 ≤ 16777216 := by rw [h1]; exact Nat.le_trans Nat.and_le_left (by omega)
  have l2 : y2 ≤ 16777216 := by rw [h2]; exact Nat.le_trans Nat.and_le_left (by omega)
  have l3 : y3 ≤ 33554432 := by rw [h3]; exact Nat.le_trans Nat.and_le_left (by omega)
  have l4 : y4 ≤ 33554432 := by rw [h4]; exact Nat.le_trans Nat.and_le_left (by omega)
  have l5 : y5 ≤ 134217728 := by rw [h5]; exact Nat.le_trans Nat.and_le_left (by omega)
  have e1 : bits BinOp.and IntKind.u64 ((x : Int) / 2) 6148914691236517205 = (y1 : Int) := by rw [h1]; exact and_u64 (x / 2) pop.M0 (by omega) (by decide)
  have e2 : bits BinOp.and IntKind.u64 (x : Int) 6148914691236517205 = (y2 : Int) := by rw [h2]; exact and_u64 x pop.M0 (by omega) (by decide)
  have e3 : bits BinOp.and IntKind.u64 (((y1 : Int) + (y2 : Int)) / 4) 3689348814741910323 = (y3 : Int) := by rw [h3]; exact and_u64 ((y1 + y2) / 4) pop.M1 (by omega) (by decide)
  have e4 : bits BinOp.and IntKind.u64 ((y1 : Int) + (y2 : Int)) 3689348814741910323 = (y4 : Int) := by rw [h4]; exact and_u64 (y1 + y2) pop.M1 (by omega) (by decide)
  have e5 : bits BinOp.and IntKind.u64 (((y3 : Int) + (y4 : Int)) / 16 + ((y3 : Int) + (y4 : Int))) 1085102592571150095 = (y5 : Int) := by rw [h5]; exact and_u64 ((y3 + y4) / 16 + (y3 + y4)) pop.M2 (by omega) (by decide)
  have e6 : bits BinOp.and IntKind.i64 ((y5 : Int) + (y5 : Int) / 256 + ((y5 : Int) + (y5 : Int) / 256) / 65536 + ((y5 : Int) + (y5 : Int) / 256 + ((y5 : Int) + (y5 : Int) / 256) / 65536) / 4294967296) 127 = (pop.cnt x : Int) := by
    rw [← hfin]
    have e7 : (2 : Nat) ^ 63 = 9223372036854775808 := by decide
    exact and_i64 (y5 + y5 / 256 + (y5 + y5 / 256) / 65536 + (y5 + y5 / 256 + (y5 + y5 / 256) / 65536) / 4294967296) 127 (by omega) (by omega)
  have HX := Lib.hid h1
  clear h1 h2 h3 h4 h5 hfin
  go_enter Try.func176, Try.ntmps176
  go_wp2
  go_ret
  exact ⟨rfl, rfl⟩

set_option maxHeartbeats 1000000 in
theorem onesCount_any (x : Nat) (w : World) (hx : x < 16777216) :
    Calls Try.prog 135 #[.int .u64 (x : Int)] w fun e w' => e = .returned (.int .i64 (pop.cnt x : Int)) ∧ w = w' := by
  go_enter Try.func135, Try.ntmps135
  go_wp2_with (go_at_call 176; refine (onesCount64_any _ _ hx).mono ?_; rintro e w' ⟨rfl, rfl⟩)
  go_ret
  exact ⟨rfl, rfl⟩
end Go.Proofs.Ytjlhjkdmpngkbaa
