/- Plain: decimal numbers of at most six digits, written and read (no program in sight). -/
import Derived.Lib.Atoi
import Derived.Lib.ItoaNum
namespace Go.Proofs.YtjhaoonacjebpaaGreatDoor

abbrev bs (s : ByteArray) : List UInt8 := s.data.toList
abbrev ba (l : List UInt8) : ByteArray := ⟨l.toArray⟩
theorem ba_bs (s : ByteArray) : ba (bs s) = s := by cases s; simp [ba, bs]
theorem bs_ba (l : List UInt8) : bs (ba l) = l := by simp
theorem ba_app (a b : List UInt8) : ba a ++ ba b = ba (a ++ b) := by
  apply ByteArray.ext; simp
theorem bs_app (a b : ByteArray) : bs (a ++ b) = bs a ++ bs b := by rw [← ba_bs a, ← ba_bs b, ba_app, bs_ba, bs_ba, bs_ba]
theorem ba_inj {a b : List UInt8} (h : ba a = ba b) : a = b := by
  have := congrArg bs h; rwa [bs_ba, bs_ba] at this
theorem bs_inj {a b : ByteArray} (h : bs a = bs b) : a = b := by rw [← ba_bs a, ← ba_bs b, h]
theorem ba_size (l : List UInt8) : (ba l).size = l.length := List.size_toArray
theorem bs_len (s : ByteArray) : (bs s).length = s.size := Array.length_toList

theorem digit_val {d : Nat} (h : d < 10) : Lib.digitVal (UInt8.ofNat (48 + d)) = some d := by
  have : (UInt8.ofNat (48 + d)).toNat = 48 + d := by simp; omega
  unfold Lib.digitVal
  rw [this, if_pos (by omega)]
  simp
theorem digit_of {b : UInt8} {d : Nat} (h : Lib.digitVal b = some d) : d < 10 ∧ b = UInt8.ofNat (48 + d) := by
  unfold Lib.digitVal at h
  split at h
  · cases h
    refine ⟨by omega, ?_⟩
    apply UInt8.toNat_inj.1
    simp
    omega
  · cases h
theorem decFrom_app : ∀ (a b : List UInt8) (acc : Nat), Lib.decFrom acc (a ++ b) = (Lib.decFrom acc a).bind fun n => Lib.decFrom n b
  | [], _, _ => rfl
  | x :: a, b, acc => by
    simp only [List.cons_append, Lib.decFrom]
    cases h : Lib.digitVal x with
    | none => rfl
    | some d => exact decFrom_app a b _
theorem decFrom_digits (u : Nat) : ∀ acc, Lib.decFrom acc (Lib.decDigits u) = some (acc * 10 ^ Lib.nDigits u + u) := by
  induction u using Nat.strongRecOn with
  | _ u ih =>
    intro acc
    by_cases h : u < 10
    · rw [Lib.decDigits_one h, Lib.nDigits_small h]
      simp only [Lib.decFrom, digit_val h]
    · have h1 := Nat.div_add_mod u 10
      have h2 : (acc * 10 ^ Lib.nDigits (u / 10) + u / 10) * 10 + u % 10 = acc * 10 ^ (Lib.nDigits (u / 10) + 1) + u := by
        have e : (acc * 10 ^ Lib.nDigits (u / 10) + u / 10) * 10 = acc * (10 ^ Lib.nDigits (u / 10) * 10) + u / 10 * 10 := by rw [Nat.add_mul, Nat.mul_assoc]
        rw [e, Nat.pow_succ]; omega
      rw [Lib.decDigits, dif_neg h, decFrom_app, ih (u / 10) (by omega), Lib.nDigits_big h, ← h2]
      simp only [Option.bind_some, Lib.decFrom, digit_val (show u % 10 < 10 by omega)]
theorem decDigits_ne (u : Nat) : Lib.decDigits u ≠ [] := by
  intro e
  have := Lib.decDigits_length u
  rw [e] at this
  have h2 := Lib.nDigits_pos u
  simp at this; omega
theorem decNat_digits (u : Nat) : Lib.decNat (Lib.decDigits u) = some u := by
  unfold Lib.decNat
  rw [if_neg (by have := decDigits_ne u; cases h : Lib.decDigits u <;> simp_all), decFrom_digits]
  simp
theorem digits_all {l : List UInt8} {acc n : Nat} (h : Lib.decFrom acc l = some n) : ∀ b ∈ l, 48 ≤ b.toNat ∧ b.toNat ≤ 57 := by
  intro b hb
  obtain ⟨k, hk⟩ := List.getElem?_of_mem hb
  obtain ⟨d, hd⟩ := Lib.digit_of_decFrom l acc n h k b hk
  unfold Lib.digitVal at hd
  split at hd
  · next h => exact h
  · cases hd
theorem digits_are {u : Nat} : ∀ b ∈ Lib.decDigits u, 48 ≤ b.toNat ∧ b.toNat ≤ 57 := digits_all (decFrom_digits u 0)
theorem decDigits_head {u : Nat} {b : UInt8} {r : List UInt8} (h : Lib.decDigits u = b :: r) : (b == 45) = false ∧ (b == 43) = false := by
  have hb := digits_are (u := u) b (by rw [h]; simp)
  constructor
  · rw [beq_eq_false_iff_ne]; rintro rfl; revert hb; decide
  · rw [beq_eq_false_iff_ne]; rintro rfl; revert hb; decide
theorem itoa_neg {n : Int} (h : n < 0) : Lib.itoa n = 45 :: Lib.decDigits n.natAbs := by unfold Lib.itoa; rw [if_pos h]
theorem itoa_nat {n : Int} (h : 0 ≤ n) : Lib.itoa n = Lib.decDigits n.toNat := by unfold Lib.itoa; rw [if_neg (by omega)]
theorem atoi_itoa (n : Int) : Lib.atoi (Lib.itoa n) = some n := by
  by_cases h : n < 0
  · rw [itoa_neg h]
    simp only [Lib.atoi, beq_self_eq_true, if_true, decNat_digits, Option.map_some]
    congr 1; omega
  · rw [itoa_nat (by omega)]
    cases hd : Lib.decDigits n.toNat with
    | nil => exact absurd hd (decDigits_ne _)
    | cons b r =>
      obtain ⟨h1, h2⟩ := decDigits_head hd
      simp only [Lib.atoi, h1, h2]
      rw [← hd, decNat_digits]
      simp
      omega
theorem nDigits_le {u k : Nat} (h : u < 10 ^ (k + 1)) : Lib.nDigits u ≤ k + 1 := by
  induction k generalizing u with
  | zero => rw [Lib.nDigits_small (by simpa using h)]; omega
  | succ k ih =>
    by_cases hu : u < 10
    · rw [Lib.nDigits_small hu]; omega
    · rw [Lib.nDigits_big hu]
      have := ih (u := u / 10) (by rw [Nat.pow_succ] at h; omega)
      omega
/-- The number that a text is, if it is the text of a number of at most six digits. -/
def numF (s : List UInt8) : Option Int := match Lib.atoi s with
  | some n => if -999999 ≤ n ∧ n ≤ 999999 ∧ Lib.itoa n = s then some n else none
  | none => none
theorem numF_iff {s : List UInt8} {n : Int} : numF s = some n ↔ (-999999 ≤ n ∧ n ≤ 999999) ∧ Lib.itoa n = s := by
  constructor
  · intro h
    unfold numF at h
    split at h
    · split at h
      · next hc => cases h; exact ⟨⟨hc.1, hc.2.1⟩, hc.2.2⟩
      · cases h
    · cases h
  · rintro ⟨⟨h1, h2⟩, h3⟩
    unfold numF
    rw [← h3, atoi_itoa]
    show (if -999999 ≤ n ∧ n ≤ 999999 ∧ Lib.itoa n = Lib.itoa n then some n else none) = some n
    rw [if_pos ⟨h1, h2, rfl⟩]
theorem itoa_len {n : Int} (h1 : -999999 ≤ n) (h2 : n ≤ 999999) : 1 ≤ (Lib.itoa n).length ∧ (Lib.itoa n).length ≤ 7 := by
  by_cases h : n < 0
  · rw [itoa_neg h, List.length_cons, Lib.decDigits_length]
    have := nDigits_le (u := n.natAbs) (k := 5) (by omega)
    omega
  · rw [itoa_nat (by omega), Lib.decDigits_length]
    have := nDigits_le (u := n.toNat) (k := 5) (by omega)
    have := Lib.nDigits_pos n.toNat
    omega
theorem numF_long {s : List UInt8} (h : 7 < s.length) : numF s = none := by
  cases e : numF s with
  | none => rfl
  | some n =>
    obtain ⟨⟨h1, h2⟩, h3⟩ := numF_iff.1 e
    have := itoa_len h1 h2
    rw [h3] at this; omega
/-- What is read behind a sign. -/
def bodyT (s : List UInt8) : List UInt8 := if 1 < s.length ∧ s.head? = some 45 then s.drop 1 else s
def signT (s : List UInt8) (n : Nat) : Int := if (bodyT s).length < s.length then -(n : Int) else (n : Int)
theorem bodyT_itoa (n : Int) : bodyT (Lib.itoa n) = Lib.decDigits n.natAbs ∧ signT (Lib.itoa n) n.natAbs = n := by
  by_cases h : n < 0
  · have e : bodyT (Lib.itoa n) = Lib.decDigits n.natAbs := by
      rw [itoa_neg h]
      unfold bodyT
      rw [if_pos ⟨by have := decDigits_ne n.natAbs; have := List.length_pos_iff.2 this; simp; omega, rfl⟩]
      rfl
    refine ⟨e, ?_⟩
    unfold signT
    rw [e, itoa_neg h, List.length_cons, if_pos (by omega)]
    omega
  · have e0 : Lib.itoa n = Lib.decDigits n.natAbs := by rw [itoa_nat (by omega), show n.toNat = n.natAbs by omega]
    have e : bodyT (Lib.itoa n) = Lib.decDigits n.natAbs := by
      rw [e0]
      unfold bodyT
      rw [if_neg]
      rintro ⟨_, h2⟩
      cases hd : Lib.decDigits n.natAbs with
      | nil => rw [hd] at h2; cases h2
      | cons b r =>
        rw [hd] at h2
        have := (decDigits_head hd).1
        simp at h2; subst h2; simp at this
    refine ⟨e, ?_⟩
    unfold signT
    rw [e, e0, if_neg (by omega)]
    omega
/-- The reference reads the same numbers. -/
theorem read_some {s : List UInt8} {n : Nat} (hl : 1 ≤ (bodyT s).length ∧ (bodyT s).length ≤ 6) (hd : Lib.decFrom 0 (bodyT s) = some n) : numF s = if Lib.itoa (signT s n) = s then some (signT s n) else none := by
  have hb : n < 1000000 := by
    have key : ∀ (l : List UInt8) (acc m k : Nat), Lib.decFrom acc l = some m → acc < 10 ^ k → m < 10 ^ (k + l.length) := by
      intro l
      induction l with
      | nil => intro acc m k h hk; simp only [Lib.decFrom, Option.some.injEq] at h; subst h; simpa using hk
      | cons b l ih =>
        intro acc m k h hk
        simp only [Lib.decFrom] at h
        split at h
        · next d hdv =>
          have hd10 := (digit_of hdv).1
          have := ih _ _ (k + 1) h (by rw [Nat.pow_succ]; omega)
          rw [List.length_cons, show k + (l.length + 1) = k + 1 + l.length by omega]
          exact this
        · cases h
    have := key _ 0 n 0 hd (by simp)
    have h2 : 10 ^ (0 + (bodyT s).length) ≤ 10 ^ 6 := Nat.pow_le_pow_right (by omega) (by omega)
    omega
  have hr : -999999 ≤ signT s n ∧ signT s n ≤ 999999 := by unfold signT; split <;> omega
  split
  · next h => exact numF_iff.2 ⟨hr, h⟩
  · next h =>
    cases e : numF s with
    | none => rfl
    | some m =>
      obtain ⟨_, h3⟩ := numF_iff.1 e
      exfalso
      apply h
      obtain ⟨b1, b2⟩ := bodyT_itoa m
      rw [h3] at b1 b2
      rw [b1, decFrom_digits] at hd
      simp at hd
      rw [← hd, b2, h3]
theorem read_len {s : List UInt8} (h : ¬ (1 ≤ (bodyT s).length ∧ (bodyT s).length ≤ 6)) : numF s = none := by
  cases e : numF s with
  | none => rfl
  | some m =>
    obtain ⟨⟨h1, h2⟩, h3⟩ := numF_iff.1 e
    exfalso
    apply h
    obtain ⟨b1, _⟩ := bodyT_itoa m
    rw [h3] at b1
    rw [b1, Lib.decDigits_length]
    have := nDigits_le (u := m.natAbs) (k := 5) (by omega)
    have := Lib.nDigits_pos m.natAbs
    omega
theorem read_bad {s : List UInt8} (h : Lib.decFrom 0 (bodyT s) = none) : numF s = none := by
  cases e : numF s with
  | none => rfl
  | some m =>
    obtain ⟨_, h3⟩ := numF_iff.1 e
    obtain ⟨b1, _⟩ := bodyT_itoa m
    rw [h3] at b1
    rw [b1, decFrom_digits] at h
    cases h
end Go.Proofs.YtjhaoonacjebpaaGreatDoor
