/- Contracts: assignment by an order, the program's side. -/
import Derived.Test.YtmpdljcihiidaaaGreatAg6
import Derived.Test.YtmpdljcihiidaaaGreatGp
import Derived.WalkSpells
namespace Go.Proofs.YtmpdljcihiidaaaGreat
open Go.RowKit Go.PlainAid

theorem agR_some {L : List RqT} {order : List Int} {B : List (Int × Int)} (h : gTo L order order.length = some B) : agR L order = (B, heightTo B, true) := by unfold agR; rw [h]
theorem ord_rises {order : List Int} {n : Nat} (h : order.length = n) : ordB order n = risesB (sortI order) n := by
  rw [Bool.eq_iff_iff, ordB_iff, rises_iff]
  constructor
  · rintro ⟨_, h2, h3⟩; exact ⟨h2, h3⟩
  · rintro ⟨h2, h3⟩; exact ⟨h, h2, h3⟩
theorem gTo_good {L : List RqT} (hc : CntOne L) {order : List Int} : ∀ {k : Nat} {B : List (Int × Int)}, gTo L order k = some B → (∀ i ∈ order, 0 ≤ i ∧ i < (L.length : Int)) → k ≤ order.length → BSm B ∧ B.length = L.length := by
  intro k
  induction k with
  | zero =>
    intro B h _ _
    have e : B = List.replicate L.length (0, 0) := by unfold gTo at h; simpa using h.symm
    rw [e]; exact ⟨bsm_rep _, by simp⟩
  | succ k ih =>
    intro B h ho hk
    have hx : order[k]? = some order[k] := List.getElem?_eq_getElem (by omega)
    rw [gTo_succ hx] at h
    cases hp : gTo L order k with
    | none => rw [hp] at h; cases h
    | some B' =>
      obtain ⟨h1, h2⟩ := ih hp ho (by omega)
      rw [hp] at h
      simp only [Option.bind_some] at h
      unfold gStep at h
      cases hf : (fits (takenTo L B' order[k].toNat L.length : Int) (cntOf L order[k].toNat)).head? with
      | none => rw [hf] at h; cases h
      | some f =>
        rw [hf] at h
        simp only [Option.map_some, Option.some.injEq] at h
        subst h
        obtain ⟨o1, o2⟩ := ho _ (List.getElem_mem (by omega : k < order.length))
        have hy : L[order[k].toNat]? = some L[order[k].toNat] := List.getElem?_eq_getElem (by omega)
        have hcn := hc _ (List.mem_of_getElem? hy)
        rw [cntOf_of hy] at hf ⊢
        exact ⟨bsm_set h1 _ (fits_good hcn.1 hcn.2 hf), by rw [List.length_set]; exact h2⟩
theorem agF_len (n : Net) (L : List RqT) (order : List Int) : (agF n L order).1.length ≤ 1048576 := by
  unfold agF
  split
  · next h =>
    obtain ⟨h1, h2⟩ := h
    obtain ⟨hc, h7⟩ := reqs_one h1
    obtain ⟨o1, o2, o3⟩ := ordB_iff.1 h2
    cases hg : gTo L order order.length with
    | none => simp
    | some B =>
      obtain ⟨_, hb⟩ := gTo_good hc hg o2 (Nat.le_refl _)
      show B.length ≤ _
      omega
  · simp
end Go.Proofs.YtmpdljcihiidaaaGreat
