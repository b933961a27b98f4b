/- Plain: what the parsers of a plan hand back; plans seen in memory. -/
import Derived.Test.YtjhaoonacjebpaaGreatDoorPy
import Derived.Test.YtjhaoonacjebpaaGreatDoorM2
namespace Go.Proofs.YtjhaoonacjebpaaGreatDoor
open Go.RowKit Go.PlainAid

def zP : PlanV := ⟨⟨[], []⟩, []⟩
theorem zP_small : SmPl zP := ⟨⟨⟨⟨by simp [zP], by simp [zP]⟩, by simp [zP]⟩, ⟨by simp [zP], by simp [zP]⟩⟩, by simp [zP]⟩
theorem zP_own (w : World) (base : Nat) : PlOwn w base (.agg #[.slice none 0 0, .slice none 0 0, .slice none 0 0]) zP :=
  ⟨none, 0, none, 0, none, 0, [], rfl, Or.inl ⟨rfl, rfl⟩, Or.inl ⟨rfl, rfl⟩, Or.inl ⟨rfl, rfl⟩, (by intro x hx; cases hx), (by intro i j x y _ hx; simp at hx), rfl, Nat.le_refl _, by omega, Nat.le_refl _, by omega⟩
theorem plo_shape {w : World} {base : Nat} {v : Value} {P : PlanV} (h : PlOwn w base v P) : ∃ q m c p k d r i e, v = .agg #[.slice q m c, .slice p k d, .slice r i e] := by
  obtain ⟨q, c, p, d, r, e, l, h1, _⟩ := h
  exact ⟨_, _, _, _, _, _, _, _, _, h1⟩
/-- The parser's answer: the plan of this text, where there is one. -/
def ParSaid (s : ByteArray) (P : PlanV) (b : Bool) : Prop := (b = true ∧ IsPlan (bs s) P ∧ ∀ Q, IsPlan (bs s) Q → Q = P) ∨ (b = false ∧ P = zP ∧ ∀ Q, ¬ IsPlan (bs s) Q)
theorem ParSaid.uniq {s : ByteArray} {P Q : PlanV} {a b : Bool} (h : ParSaid s P a) (h' : ParSaid s Q b) : P = Q ∧ a = b := by
  rcases h with ⟨rfl, h1, h2⟩ | ⟨rfl, h1, h2⟩
  · rcases h' with ⟨rfl, h3, h4⟩ | ⟨rfl, h3, h4⟩
    · exact ⟨(h2 _ h3).symm, rfl⟩
    · exact (h4 _ h1).elim
  · rcases h' with ⟨rfl, h3, h4⟩ | ⟨rfl, h3, h4⟩
    · exact (h2 _ h3).elim
    · exact ⟨by rw [h1, h3], rfl⟩
theorem name_small {s : ByteArray} (h : nameB s = true) : s.size ≤ 8 := by
  unfold nameB at h
  simp only [Bool.and_eq_true] at h
  have := h.2
  unfold inB at this
  simp at this
  omega
theorem netB_small {n : Net} (h : netB n = true) : NetSmall n := by
  obtain ⟨h1, h2, h3⟩ := netB_len h
  exact ⟨⟨by omega, fun s hs => by have := name_small (netB_names h s hs); omega⟩, by omega⟩
theorem planB_small {P : PlanV} (h : planB P = true) : SmPl P := by
  have h12 := planB_12 h
  have hn := planX_net h
  refine ⟨⟨netB_small hn, ⟨by omega, fun x hx => ?_⟩⟩, by omega⟩
  obtain ⟨_, h2, _⟩ := ltB_is (planX_lights h x hx)
  obtain ⟨out, hv⟩ := IsRt.vis (w := routeX P.net x.2.1) ⟨h2, rfl⟩
  have := (vis_nodes hn hv).2
  show x.2.1.2.length ≤ 1048576
  omega
theorem ParSaid.small {s : ByteArray} {P : PlanV} {b : Bool} (h : ParSaid s P b) : SmPl P := by
  rcases h with ⟨_, h1, _⟩ | ⟨_, h1, _⟩
  · exact planB_small h1.1
  · rw [h1]; exact zP_small
/-- A plan that lies in memory below hi. -/
def PlSeen (w : World) (hi : Nat) (v : Value) (P : PlanV) : Prop := ∃ w3 : World, w3.heap.size ≤ hi ∧ PlIn w3 v P ∧ ∀ b o x, w3.cell? ⟨b, o, none⟩ = some x → w.cell? ⟨b, o, none⟩ = some x
theorem PlSeen.of {w : World} {v : Value} {P : PlanV} (h : PlIn w v P) : PlSeen w w.heap.size v P := ⟨w, Nat.le_refl _, h, fun _ _ _ h => h⟩
theorem PlSeen.keep {w w' : World} {hi : Nat} {v : Value} {P : PlanV} (h : PlSeen w hi v P) (hb : Fresh w w') : PlSeen w' hi v P := by
  obtain ⟨w3, h1, h2, h3⟩ := h
  exact ⟨w3, h1, h2, fun b o x hx => fkeep hb (h3 b o x hx)⟩
theorem PlSeen.below {w w' : World} {hi base : Nat} {v : Value} {P : PlanV} (h : PlSeen w hi v P) (hb : Below base w w') (hd : hi ≤ base) : PlSeen w' hi v P := by
  obtain ⟨w3, h1, h2, h3⟩ := h
  exact ⟨w3, h1, h2, fun b o x hx => bkeep hb (by have := block_lt hx; omega) (h3 b o x hx)⟩
theorem Cells.seen {w w' : World} {p : Option Addr} {cs : List Value} (h : Cells w p cs) (hk : ∀ b o x, w.cell? ⟨b, o, none⟩ = some x → w'.cell? ⟨b, o, none⟩ = some x) : Cells w' p cs := by
  rcases h with h | ⟨b, off, hp, hc⟩
  · exact Or.inl h
  · exact Or.inr ⟨b, off, hp, fun k v hv => hk _ _ _ (hc k v hv)⟩
theorem PlSeen.plIn {w : World} {hi : Nat} {v : Value} {P : PlanV} (h : PlSeen w hi v P) : PlIn w v P := by
  obtain ⟨w3, _, ⟨q, m, c, p, k, d, r, e, l, h1, h2, h3, h4, h5⟩, hk⟩ := h
  obtain ⟨a1, a2, a3, a4, e1, e2, e3, e4⟩ := h2
  exact ⟨q, m, c, p, k, d, r, e, l, h1, ⟨a1, a2, a3, a4, e1, Cells.seen e2 hk, Cells.seen e3 hk, e4⟩, ⟨Cells.seen h3.1 hk, fun x hx => Cells.seen (h3.2 x hx) hk⟩, h4, h5⟩
end Go.Proofs.YtjhaoonacjebpaaGreatDoor
