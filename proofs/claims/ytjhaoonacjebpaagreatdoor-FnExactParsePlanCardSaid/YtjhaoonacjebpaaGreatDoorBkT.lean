/- Plain: the text of a block, read in two ways (no program in sight). -/
import Derived.Test.YtjhaoonacjebpaaGreatDoorNmP
import Derived.Test.YtjhaoonacjebpaaGreatDoorSpT
namespace Go.Proofs.YtjhaoonacjebpaaGreatDoor

theorem itoa_bytes {n : Int} {b : UInt8} (h : b ∈ Lib.itoa n) : b = 45 ∨ (48 ≤ b.toNat ∧ b.toNat ≤ 57) := by
  by_cases hn : n < 0
  · rw [itoa_neg hn] at h
    rcases List.mem_cons.1 h with h | h
    · exact Or.inl h
    · exact Or.inr (digits_are b h)
  · rw [itoa_nat (by omega)] at h
    exact Or.inr (digits_are b h)
theorem itoa_free {n : Int} {c : UInt8} (h : c.toNat ≠ 45 ∧ (c.toNat < 48 ∨ 57 < c.toNat)) : c ∉ Lib.itoa n := by
  intro hc
  rcases itoa_bytes hc with e | e
  · subst e; exact h.1 rfl
  · omega
/-- A block's text. -/
def blkT (f c : Int) : List UInt8 := Lib.itoa f ++ 43 :: Lib.itoa c
/-- The block that a text is: the program's way. -/
def pblkF (g : Int → Int → Bool) (s : List UInt8) : Option (Int × Int) := match numF (Lib.cut s [43]).1, numF (Lib.cut s [43]).2.1 with
  | some a, some b => if g a b = true ∧ blkT a b = s then some (a, b) else none
  | _, _ => none
theorem pblkF_iff {g : Int → Int → Bool} (hg : ∀ a b, g a b = true → (-999999 ≤ a ∧ a ≤ 999999) ∧ (-999999 ≤ b ∧ b ≤ 999999)) {s : List UInt8} {a b : Int} : pblkF g s = some (a, b) ↔ g a b = true ∧ blkT a b = s := by
  constructor
  · intro h
    unfold pblkF at h
    split at h
    · split at h
      · next hc => cases h; exact hc
      · cases h
    · cases h
  · rintro ⟨h1, h2⟩
    have hc : Lib.cut s [43] = (Lib.itoa a, Lib.itoa b, true) := by rw [← h2]; exact cut_hit (itoa_free (by decide))
    obtain ⟨g1, g2⟩ := hg a b h1
    unfold pblkF
    rw [hc]
    rw [numF_iff.2 ⟨g1, rfl⟩, numF_iff.2 ⟨g2, rfl⟩]
    show (if g a b = true ∧ blkT a b = s then some (a, b) else none) = some (a, b)
    rw [if_pos ⟨h1, h2⟩]
theorem pblk_long {g : Int → Int → Bool} (hg : ∀ a b, g a b = true → (-999999 ≤ a ∧ a ≤ 999999) ∧ (-999999 ≤ b ∧ b ≤ 999999)) {s : List UInt8} (h : 4000 < s.length) : pblkF g s = none := by
  cases e : pblkF g s with
  | none => rfl
  | some x =>
    obtain ⟨h1, h2⟩ := (pblkF_iff (a := x.1) (b := x.2) hg).1 e
    obtain ⟨g1, g2⟩ := hg _ _ h1
    have l1 := itoa_len g1.1 g1.2
    have l2 := itoa_len g2.1 g2.2
    rw [← h2] at h
    unfold blkT at h
    rw [List.length_append, List.length_cons] at h
    omega
/-- The reference's way: two parts. -/
theorem pblk_two {g : Int → Int → Bool} (hg : ∀ a b, g a b = true → (-999999 ≤ a ∧ a ≤ 999999) ∧ (-999999 ≤ b ∧ b ≤ 999999)) {s x y : List UInt8} (h : splitC 43 s = [x, y]) {a b : Int} (ha : numF x = some a) (hb : numF y = some b) : pblkF g s = if g a b = true then some (a, b) else none := by
  have hs : blkT a b = s := by
    have := joinC_split 43 s.length s (Nat.le_refl _)
    rw [h] at this
    rw [← this]
    have h1 := (numF_iff.1 ha).2
    have h2 := (numF_iff.1 hb).2
    unfold blkT
    rw [h1, h2]; rfl
  split
  · next hgd => exact (pblkF_iff hg).2 ⟨hgd, hs⟩
  · next hgd =>
    cases e : pblkF g s with
    | none => rfl
    | some z =>
      exfalso
      obtain ⟨h1, h2⟩ := (pblkF_iff (a := z.1) (b := z.2) hg).1 e
      obtain ⟨g1, g2⟩ := hg _ _ h1
      have : splitC 43 s = [Lib.itoa z.1, Lib.itoa z.2] := by rw [← h2]; unfold blkT; rw [splitC_app (itoa_free (by decide)), splitC_none (itoa_free (by decide))]
      rw [h] at this
      simp only [List.cons.injEq, and_true] at this
      obtain ⟨e1, e2⟩ := this
      rw [e1, numF_iff.2 ⟨g1, rfl⟩] at ha
      rw [e2, numF_iff.2 ⟨g2, rfl⟩] at hb
      cases ha; cases hb
      exact hgd h1
theorem pblk_bad {g : Int → Int → Bool} (hg : ∀ a b, g a b = true → (-999999 ≤ a ∧ a ≤ 999999) ∧ (-999999 ≤ b ∧ b ≤ 999999)) {s : List UInt8} (h : ∀ x y, splitC 43 s = [x, y] → numF x = none ∨ numF y = none) : pblkF g s = none := by
  cases e : pblkF g s with
  | none => rfl
  | some z =>
    exfalso
    obtain ⟨h1, h2⟩ := (pblkF_iff (a := z.1) (b := z.2) hg).1 e
    obtain ⟨g1, g2⟩ := hg _ _ h1
    have : splitC 43 s = [Lib.itoa z.1, Lib.itoa z.2] := by rw [← h2]; unfold blkT; rw [splitC_app (itoa_free (by decide)), splitC_none (itoa_free (by decide))]
    rcases h _ _ this with h | h
    · rw [numF_iff.2 ⟨g1, rfl⟩] at h; cases h
    · rw [numF_iff.2 ⟨g2, rfl⟩] at h; cases h
end Go.Proofs.YtjhaoonacjebpaaGreatDoor
