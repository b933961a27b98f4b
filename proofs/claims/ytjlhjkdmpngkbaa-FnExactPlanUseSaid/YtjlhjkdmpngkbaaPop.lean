/- Plain arithmetic: the sum of a number's 24 bits is what the library's way of counting ones in 64-bit words gives. -/
namespace Go.Proofs.Ytjlhjkdmpngkbaa.pop

theorem and_lane (a b p q : Nat) (ha : a < 2 ^ 8) (hp : p < 2 ^ 8) : (2 ^ 8 * b + a) &&& (2 ^ 8 * q + p) = 2 ^ 8 * (b &&& q) + (a &&& p) := by
  have hap : a &&& p < 2 ^ 8 := Nat.and_lt_two_pow a hp
  apply Nat.eq_of_testBit_eq
  intro i
  rw [Nat.testBit_and, Nat.testBit_two_pow_mul_add b ha, Nat.testBit_two_pow_mul_add q hp, Nat.testBit_two_pow_mul_add (b &&& q) hap]
  split
  · rw [Nat.testBit_and]
  · rw [Nat.testBit_and]
/-- Three bytes. -/
def three (a b c : Nat) : Nat := 2 ^ 8 * (2 ^ 8 * (2 ^ 8 * 0 + c) + b) + a
theorem and_three (a b c p q : Nat) (ha : a < 256) (hb : b < 256) (hc : c < 256) (hp : p < 256) : three a b c &&& (2 ^ 8 * (2 ^ 8 * (2 ^ 8 * q + p) + p) + p) = three (a &&& p) (b &&& p) (c &&& p) := by
  unfold three
  rw [and_lane _ _ _ _ ha hp, and_lane _ _ _ _ hb hp, and_lane _ _ _ _ hc hp, Nat.zero_and]
def s1 (a : Nat) : Nat := ((a / 2) &&& 85) + (a &&& 85)
def s2 (a : Nat) : Nat := ((s1 a / 4) &&& 51) + (s1 a &&& 51)
def s3 (a : Nat) : Nat := (s2 a / 16 + s2 a) &&& 15
/-- The ones of a byte. -/
def pc (a : Nat) : Nat := a % 2 + a / 2 % 2 + a / 4 % 2 + a / 8 % 2 + a / 16 % 2 + a / 32 % 2 + a / 64 % 2 + a / 128 % 2
theorem f1 : ∀ a, a < 256 → ∀ t, t < 2 → (a / 2 + 128 * t) &&& 85 = (a / 2) &&& 85 := by decide +kernel
theorem b1 : ∀ a, a < 256 → s1 a < 256 := by decide +kernel
theorem f2 : ∀ a, a < 256 → ∀ t, t < 4 → (s1 a / 4 + 64 * t) &&& 51 = (s1 a / 4) &&& 51 := by decide +kernel
theorem b2 : ∀ a, a < 256 → s2 a ≤ 68 ∧ s2 a % 16 ≤ 4 := by decide +kernel
theorem f3 : ∀ a, a < 256 → ∀ t, t < 5 → (s2 a / 16 + 16 * t + s2 a) &&& 15 = s3 a := by decide +kernel
theorem f4 : ∀ a, a < 256 → s3 a = pc a ∧ pc a ≤ 8 := by decide +kernel
theorem add_three (a b c p q r : Nat) : three a b c + three p q r = three (a + p) (b + q) (c + r) := by unfold three; omega
theorem div2 (a b c : Nat) (ha : a < 256) (hb : b < 256) (hc : c < 256) : three a b c / 2 = three (a / 2 + 128 * (b % 2)) (b / 2 + 128 * (c % 2)) (c / 2) := by unfold three; omega
theorem div4 (a b c : Nat) (ha : a < 256) (hb : b < 256) (hc : c < 256) : three a b c / 4 = three (a / 4 + 64 * (b % 4)) (b / 4 + 64 * (c % 4)) (c / 4) := by unfold three; omega
theorem div16 (a b c : Nat) (ha : a < 256) (hb : b < 256) (hc : c < 256) : three a b c / 16 = three (a / 16 + 16 * (b % 16)) (b / 16 + 16 * (c % 16)) (c / 16) := by unfold three; omega

def M0 : Nat := 6148914691236517205
def M1 : Nat := 3689348814741910323
def M2 : Nat := 1085102592571150095
theorem step1 (a b c : Nat) (ha : a < 256) (hb : b < 256) (hc : c < 256) : ((three a b c / 2) &&& M0) + (three a b c &&& M0) = three (s1 a) (s1 b) (s1 c) := by
  have e : M0 = 2 ^ 8 * (2 ^ 8 * (2 ^ 8 * 366503875925 + 85) + 85) + 85 := by decide +kernel
  rw [e, div2 a b c ha hb hc, and_three _ _ _ 85 _ (by omega) (by omega) (by omega) (by omega), and_three _ _ _ 85 _ ha hb hc (by omega), add_three,
    f1 a ha _ (by omega), f1 b hb _ (by omega)]
  rfl
theorem step2 (a b c : Nat) (ha : a < 256) (hb : b < 256) (hc : c < 256) : ((three (s1 a) (s1 b) (s1 c) / 4) &&& M1) + (three (s1 a) (s1 b) (s1 c) &&& M1) = three (s2 a) (s2 b) (s2 c) := by
  have e : M1 = 2 ^ 8 * (2 ^ 8 * (2 ^ 8 * 219902325555 + 51) + 51) + 51 := by decide +kernel
  have h1 := b1 a ha; have h2 := b1 b hb; have h3 := b1 c hc
  rw [e, div4 _ _ _ h1 h2 h3, and_three _ _ _ 51 _ (by omega) (by omega) (by omega) (by omega), and_three _ _ _ 51 _ h1 h2 h3 (by omega), add_three,
    f2 a ha _ (by omega), f2 b hb _ (by omega)]
  rfl
theorem step3 (a b c : Nat) (ha : a < 256) (hb : b < 256) (hc : c < 256) : ((three (s2 a) (s2 b) (s2 c) / 16) + three (s2 a) (s2 b) (s2 c)) &&& M2 = three (pc a) (pc b) (pc c) := by
  have e : M2 = 2 ^ 8 * (2 ^ 8 * (2 ^ 8 * 64677154575 + 15) + 15) + 15 := by decide +kernel
  obtain ⟨h1, k1⟩ := b2 a ha; obtain ⟨h2, k2⟩ := b2 b hb; obtain ⟨h3, k3⟩ := b2 c hc
  have e0 := f3 c hc 0 (by omega)
  rw [Nat.mul_zero, Nat.add_zero] at e0
  rw [e, div16 _ _ _ (by omega) (by omega) (by omega), add_three, and_three _ _ _ 15 _ (by omega) (by omega) (by omega) (by omega),
    f3 a ha _ (by omega), f3 b hb _ (by omega), e0, (f4 a ha).1, (f4 b hb).1, (f4 c hc).1]
theorem last (y : Nat) (p q r : Nat) (hp : p ≤ 8) (hq : q ≤ 8) (hr : r ≤ 8) (hy : y = three p q r) :
    (((y + y / 256) + (y + y / 256) / 65536) + ((y + y / 256) + (y + y / 256) / 65536) / 4294967296) &&& 127 = p + q + r := by
  have e : (127 : Nat) = 2 ^ 7 - 1 := by decide
  rw [e, Nat.and_two_pow_sub_one_eq_mod]
  have h0 : y = p + 256 * q + 65536 * r := by unfold three at hy; omega
  have h1 : y / 256 = q + 256 * r := by omega
  have h2 : (y + y / 256) / 65536 = r := by rw [h1]; omega
  have h3 : ((y + y / 256) + (y + y / 256) / 65536) / 4294967296 = 0 := by rw [h2, h1]; omega
  rw [h3, h2, h1, h0]
  omega
/-- The sum of the 24 bits. -/
def cnt (n : Nat) : Nat := pc (n % 256) + pc (n / 256 % 256) + pc (n / 65536)
theorem swar3 (a b c n x1 x2 x3 : Nat) (ha : a < 256) (hb : b < 256) (hc : c < 256) (hn : n = three a b c) (h1 : x1 = ((n / 2) &&& M0) + (n &&& M0)) (h2 : x2 = ((x1 / 4) &&& M1) + (x1 &&& M1)) (h3 : x3 = ((x2 / 16) + x2) &&& M2) :
    (((x3 + x3 / 256) + (x3 + x3 / 256) / 65536) + ((x3 + x3 / 256) + (x3 + x3 / 256) / 65536) / 4294967296) &&& 127 = pc a + pc b + pc c := by
  have e1 : x1 = three (s1 a) (s1 b) (s1 c) := by rw [h1, hn]; exact step1 a b c ha hb hc
  have e2 : x2 = three (s2 a) (s2 b) (s2 c) := by rw [h2, e1]; exact step2 a b c ha hb hc
  have e3 : x3 = three (pc a) (pc b) (pc c) := by rw [h3, e2]; exact step3 a b c ha hb hc
  exact last x3 _ _ _ (f4 _ ha).2 (f4 _ hb).2 (f4 _ hc).2 e3
theorem split3 (n : Nat) : n = three (n % 256) (n / 256 % 256) (n / 65536) := by
  have h : three (n % 256) (n / 256 % 256) (n / 65536) = 65536 * (n / 65536) + 256 * (n / 256 % 256) + n % 256 := by
    generalize n % 256 = a
    generalize n / 256 % 256 = b
    generalize n / 65536 = c
    unfold three; omega
  rw [h]; omega
theorem swar (n x1 x2 x3 : Nat) (h : n < 16777216) (h1 : x1 = ((n / 2) &&& M0) + (n &&& M0)) (h2 : x2 = ((x1 / 4) &&& M1) + (x1 &&& M1)) (h3 : x3 = ((x2 / 16) + x2) &&& M2) :
    (((x3 + x3 / 256) + (x3 + x3 / 256) / 65536) + ((x3 + x3 / 256) + (x3 + x3 / 256) / 65536) / 4294967296) &&& 127 = cnt n :=
  swar3 _ _ _ n x1 x2 x3 (by omega) (by omega) (by omega) (split3 n) h1 h2 h3
/-- Bit by bit. -/
def cntTo (n : Nat) : Nat → Nat
  | 0 => 0
  | k + 1 => cntTo n k + n / 2 ^ k % 2
theorem cntTo_le (n k : Nat) : cntTo n k ≤ k := by
  induction k with
  | zero => simp [cntTo]
  | succ k ih => unfold cntTo; omega
/-- The low eight bits. -/
def low (m : Nat) : Nat := m % 2 + m / 2 % 2 + m / 4 % 2 + m / 8 % 2 + m / 16 % 2 + m / 32 % 2 + m / 64 % 2 + m / 128 % 2
theorem low_pc (m : Nat) : pc (m % 256) = low m := by
  have h0 : m % 256 % 2 = m % 2 := by omega
  have h1 : m % 256 / 2 % 2 = m / 2 % 2 := by omega
  have h2 : m % 256 / 4 % 2 = m / 4 % 2 := by omega
  have h3 : m % 256 / 8 % 2 = m / 8 % 2 := by omega
  have h4 : m % 256 / 16 % 2 = m / 16 % 2 := by omega
  have h5 : m % 256 / 32 % 2 = m / 32 % 2 := by omega
  have h6 : m % 256 / 64 % 2 = m / 64 % 2 := by omega
  have h7 : m % 256 / 128 % 2 = m / 128 % 2 := by omega
  simp only [pc, low, h0, h1, h2, h3, h4, h5, h6, h7]
theorem cntTo_24 (n : Nat) (h : n < 16777216) : cntTo n 24 = cnt n := by
  have hc : n / 65536 = n / 65536 % 256 := by omega
  have e : cnt n = low n + low (n / 256) + low (n / 65536) := by
    unfold cnt
    rw [low_pc, low_pc]
    have e2 : pc (n / 65536) = low (n / 65536) := by
      have := low_pc (n / 65536)
      rw [← hc] at this
      exact this
    rw [e2]
  have k0 : n / 2 ^ 0 = n := Nat.div_one n
  have k1 : n / 2 ^ 1 = n / 2 := rfl
  have k2 : n / 2 ^ 2 = n / 4 := rfl
  have k3 : n / 2 ^ 3 = n / 8 := rfl
  have k4 : n / 2 ^ 4 = n / 16 := rfl
  have k5 : n / 2 ^ 5 = n / 32 := rfl
  have k6 : n / 2 ^ 6 = n / 64 := rfl
  have k7 : n / 2 ^ 7 = n / 128 := rfl
  have k8 : n / 2 ^ 8 = n / 256 := rfl
  have k9 : n / 2 ^ 9 = n / 256 / 2 := (Nat.div_div_eq_div_mul n 256 2).symm
  have k10 : n / 2 ^ 10 = n / 256 / 4 := (Nat.div_div_eq_div_mul n 256 4).symm
  have k11 : n / 2 ^ 11 = n / 256 / 8 := (Nat.div_div_eq_div_mul n 256 8).symm
  have k12 : n / 2 ^ 12 = n / 256 / 16 := (Nat.div_div_eq_div_mul n 256 16).symm
  have k13 : n / 2 ^ 13 = n / 256 / 32 := (Nat.div_div_eq_div_mul n 256 32).symm
  have k14 : n / 2 ^ 14 = n / 256 / 64 := (Nat.div_div_eq_div_mul n 256 64).symm
  have k15 : n / 2 ^ 15 = n / 256 / 128 := (Nat.div_div_eq_div_mul n 256 128).symm
  have k16 : n / 2 ^ 16 = n / 65536 := rfl
  have k17 : n / 2 ^ 17 = n / 65536 / 2 := (Nat.div_div_eq_div_mul n 65536 2).symm
  have k18 : n / 2 ^ 18 = n / 65536 / 4 := (Nat.div_div_eq_div_mul n 65536 4).symm
  have k19 : n / 2 ^ 19 = n / 65536 / 8 := (Nat.div_div_eq_div_mul n 65536 8).symm
  have k20 : n / 2 ^ 20 = n / 65536 / 16 := (Nat.div_div_eq_div_mul n 65536 16).symm
  have k21 : n / 2 ^ 21 = n / 65536 / 32 := (Nat.div_div_eq_div_mul n 65536 32).symm
  have k22 : n / 2 ^ 22 = n / 65536 / 64 := (Nat.div_div_eq_div_mul n 65536 64).symm
  have k23 : n / 2 ^ 23 = n / 65536 / 128 := (Nat.div_div_eq_div_mul n 65536 128).symm
  rw [e]
  simp only [cntTo, low, k0, k1, k2, k3, k4, k5, k6, k7, k8, k9, k10, k11, k12, k13, k14, k15, k16, k17, k18, k19, k20, k21, k22, k23, Nat.add_assoc, Nat.zero_add]
end Go.Proofs.Ytjlhjkdmpngkbaa.pop
