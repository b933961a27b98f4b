/- Routes as one value (came in; small; read). -/
import Derived.Test.YtjlhjkdmpngkbaaLoc
namespace Go.Proofs.Ytjlhjkdmpngkbaa
open Go.RowKit Go.PlainAid

def RtRaw (w : World) (v : Value) (R : Int × List Int) : Prop := ∃ s q cap l, v = .agg #[.int .i64 s, .slice q l.length cap] ∧ Ints w q l ∧ l.length ≤ 9223372036854775807 ∧ R = (s, l)
def RtSmall (R : Int × List Int) : Prop := R.2.length ≤ 1048576
def RtIn (w : World) (v : Value) (R : Int × List Int) : Prop := ∃ s q cap l, v = .agg #[.int .i64 s, .slice q l.length cap] ∧ Ints w q l ∧ l.length ≤ 1048576 ∧ R = (s, l)
theorem RtRaw.keep {w w' : World} {v : Value} {R : Int × List Int} (h : RtRaw w v R) (hb : Fresh w w') : RtRaw w' v R := by
  obtain ⟨s, q, cap, l, h1, h2, h3⟩ := h
  exact ⟨s, q, cap, l, h1, h2.keep hb, h3⟩
theorem RtIn.keep {w w' : World} {v : Value} {R : Int × List Int} (h : RtIn w v R) (hb : Fresh w w') : RtIn w' v R := by
  obtain ⟨s, q, cap, l, h1, h2, h3⟩ := h
  exact ⟨s, q, cap, l, h1, h2.keep hb, h3⟩
theorem RtRaw.small {w : World} {v : Value} {R : Int × List Int} (h : RtRaw w v R) (hs : RtSmall R) : RtIn w v R := by
  obtain ⟨s, q, cap, l, h1, h2, h3, rfl⟩ := h
  exact ⟨s, q, cap, l, h1, h2, hs, rfl⟩
theorem RtRaw.shape {w : World} {v : Value} {R : Int × List Int} (h : RtRaw w v R) : ∃ s q m c, v = .agg #[.int .i64 s, .slice q m c] := by
  obtain ⟨s, q, cap, l, h1, _⟩ := h
  exact ⟨_, _, _, _, h1⟩
theorem RtIn.shape {w : World} {v : Value} {R : Int × List Int} (h : RtIn w v R) : ∃ s q m c, v = .agg #[.int .i64 s, .slice q m c] := by
  obtain ⟨s, q, cap, l, h1, _⟩ := h
  exact ⟨_, _, _, _, h1⟩
theorem szRoute_k (v : Value) (R : Int × List Int) (left : Int) (w : World) (h : RtRaw w v R) (h0 : 0 ≤ left) (h1 : left ≤ 1048576) : Calls Try.prog 60 #[v, .int .i64 left] w (SzOut w left (RtSmall R)) := by
  obtain ⟨s, q, cap, l, rfl, h2, h3, rfl⟩ := h
  exact szRoute_any ⟨s, q, cap, l⟩ left w h3 h0 h1
theorem toRoute_k (v : Value) (R : Int × List Int) (w : World) (h : RtIn w v R) : Calls Try.prog 62 #[v] w fun e w' => ∃ v', e = .returned v' ∧ RtIn w' v' R ∧ Fresh w w' := by
  obtain ⟨s, q, cap, l, rfl, h2, h3, rfl⟩ := h
  refine (toRoute_any ⟨s, q, cap, l⟩ w h2 h3).mono ?_
  rintro e w' ⟨⟨s', q', cap', l'⟩, he, hv, ho, hf⟩
  simp only [LR.val, Prod.mk.injEq] at hv ho
  obtain ⟨rfl, rfl⟩ := hv
  exact ⟨_, he, ⟨s', q', cap', l', rfl, ho.cells, h3, rfl⟩, hf⟩
theorem eqRoute_k (v v' : Value) (R : Int × List Int) (w : World) (h : RtIn w v R) (h' : RtIn w v' R) : Calls Try.prog 64 #[v, v'] w fun e w' => e = .returned (.bool true) ∧ Fresh w w' := by
  obtain ⟨s, q, cap, l, rfl, h2, h3, rfl⟩ := h
  obtain ⟨s', q', cap', l', rfl, h2', h3', he⟩ := h'
  exact eqRoute_same ⟨s, q, cap, l⟩ ⟨s', q', cap', l'⟩ w he h2 h2' h3
end Go.Proofs.Ytjlhjkdmpngkbaa
