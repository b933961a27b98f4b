/- Networks as one value (shape; copied). Lemmas that keep cells over calls. -/
import Derived.Test.YtjlhjkdmpngkbaaData2
namespace Go.Proofs.Ytjlhjkdmpngkbaa
open Go.RowKit Go.PlainAid

theorem NetRaw.shape {w : World} {v : Value} {n : Net} (h : NetRaw w v n) : ∃ q m c p k d, v = .agg #[.slice q m c, .slice p k d] := by
  obtain ⟨q, c, p, d, h1, _⟩ := h
  exact ⟨_, _, _, _, _, _, h1⟩
theorem NetIn.shape {w : World} {v : Value} {n : Net} (h : NetIn w v n) : ∃ q m c p k d, v = .agg #[.slice q m c, .slice p k d] := by
  obtain ⟨q, c, p, d, h1, _⟩ := h
  exact ⟨_, _, _, _, _, _, h1⟩
theorem NetIn.isSmall {w : World} {v : Value} {n : Net} (h : NetIn w v n) : NetSmall n := by
  obtain ⟨q, c, p, d, _, _, _, h1, h2, _, _, h3⟩ := h
  exact ⟨⟨h1, h3⟩, h2⟩
theorem toNet_k (v : Value) (n : Net) (w : World) (h : NetIn w v n) : Calls Try.prog 18 #[v] w fun e w' => ∃ v', e = .returned v' ∧ NetIn w' v' n ∧ Fresh w w' :=
  (toNetwork_any v n w h).mono fun _ _ ⟨v', he, ho, hf⟩ => ⟨v', he, ho.net h.isSmall, hf⟩
theorem keepc4 {w w1 w2 : World} {b0 o0 b1 o1 b2 o2 b3 o3 : Nat} {v0 v1 v2 v3 : Value} (h : Fresh w w1 ∧ w1.cell? ⟨b0, o0, none⟩ = some v0 ∧ w1.cell? ⟨b1, o1, none⟩ = some v1 ∧ w1.cell? ⟨b2, o2, none⟩ = some v2 ∧ w1.cell? ⟨b3, o3, none⟩ = some v3) (hb : Fresh w1 w2) : Fresh w w2 ∧ w2.cell? ⟨b0, o0, none⟩ = some v0 ∧ w2.cell? ⟨b1, o1, none⟩ = some v1 ∧ w2.cell? ⟨b2, o2, none⟩ = some v2 ∧ w2.cell? ⟨b3, o3, none⟩ = some v3 :=
  ⟨fstep h.1 hb, fkeep hb h.2.1, fkeep hb h.2.2.1, fkeep hb h.2.2.2.1, fkeep hb h.2.2.2.2⟩
theorem keepc6 {w w1 w2 : World} {b0 o0 b1 o1 b2 o2 b3 o3 b4 o4 b5 o5 : Nat} {v0 v1 v2 v3 v4 v5 : Value} (h : Fresh w w1 ∧ w1.cell? ⟨b0, o0, none⟩ = some v0 ∧ w1.cell? ⟨b1, o1, none⟩ = some v1 ∧ w1.cell? ⟨b2, o2, none⟩ = some v2 ∧ w1.cell? ⟨b3, o3, none⟩ = some v3 ∧ w1.cell? ⟨b4, o4, none⟩ = some v4 ∧ w1.cell? ⟨b5, o5, none⟩ = some v5) (hb : Fresh w1 w2) : Fresh w w2 ∧ w2.cell? ⟨b0, o0, none⟩ = some v0 ∧ w2.cell? ⟨b1, o1, none⟩ = some v1 ∧ w2.cell? ⟨b2, o2, none⟩ = some v2 ∧ w2.cell? ⟨b3, o3, none⟩ = some v3 ∧ w2.cell? ⟨b4, o4, none⟩ = some v4 ∧ w2.cell? ⟨b5, o5, none⟩ = some v5 :=
  ⟨fstep h.1 hb, fkeep hb h.2.1, fkeep hb h.2.2.1, fkeep hb h.2.2.2.1, fkeep hb h.2.2.2.2.1, fkeep hb h.2.2.2.2.2.1, fkeep hb h.2.2.2.2.2.2⟩
theorem keepc8 {w w1 w2 : World} {b0 o0 b1 o1 b2 o2 b3 o3 b4 o4 b5 o5 b6 o6 b7 o7 : Nat} {v0 v1 v2 v3 v4 v5 v6 v7 : Value} (h : Fresh w w1 ∧ w1.cell? ⟨b0, o0, none⟩ = some v0 ∧ w1.cell? ⟨b1, o1, none⟩ = some v1 ∧ w1.cell? ⟨b2, o2, none⟩ = some v2 ∧ w1.cell? ⟨b3, o3, none⟩ = some v3 ∧ w1.cell? ⟨b4, o4, none⟩ = some v4 ∧ w1.cell? ⟨b5, o5, none⟩ = some v5 ∧ w1.cell? ⟨b6, o6, none⟩ = some v6 ∧ w1.cell? ⟨b7, o7, none⟩ = some v7) (hb : Fresh w1 w2) : Fresh w w2 ∧ w2.cell? ⟨b0, o0, none⟩ = some v0 ∧ w2.cell? ⟨b1, o1, none⟩ = some v1 ∧ w2.cell? ⟨b2, o2, none⟩ = some v2 ∧ w2.cell? ⟨b3, o3, none⟩ = some v3 ∧ w2.cell? ⟨b4, o4, none⟩ = some v4 ∧ w2.cell? ⟨b5, o5, none⟩ = some v5 ∧ w2.cell? ⟨b6, o6, none⟩ = some v6 ∧ w2.cell? ⟨b7, o7, none⟩ = some v7 :=
  ⟨fstep h.1 hb, fkeep hb h.2.1, fkeep hb h.2.2.1, fkeep hb h.2.2.2.1, fkeep hb h.2.2.2.2.1, fkeep hb h.2.2.2.2.2.1, fkeep hb h.2.2.2.2.2.2.1, fkeep hb h.2.2.2.2.2.2.2.1, fkeep hb h.2.2.2.2.2.2.2.2⟩
theorem keepc10 {w w1 w2 : World} {b0 o0 b1 o1 b2 o2 b3 o3 b4 o4 b5 o5 b6 o6 b7 o7 b8 o8 b9 o9 : Nat} {v0 v1 v2 v3 v4 v5 v6 v7 v8 v9 : Value} (h : Fresh w w1 ∧ w1.cell? ⟨b0, o0, none⟩ = some v0 ∧ w1.cell? ⟨b1, o1, none⟩ = some v1 ∧ w1.cell? ⟨b2, o2, none⟩ = some v2 ∧ w1.cell? ⟨b3, o3, none⟩ = some v3 ∧ w1.cell? ⟨b4, o4, none⟩ = some v4 ∧ w1.cell? ⟨b5, o5, none⟩ = some v5 ∧ w1.cell? ⟨b6, o6, none⟩ = some v6 ∧ w1.cell? ⟨b7, o7, none⟩ = some v7 ∧ w1.cell? ⟨b8, o8, none⟩ = some v8 ∧ w1.cell? ⟨b9, o9, none⟩ = some v9) (hb : Fresh w1 w2) : Fresh w w2 ∧ w2.cell? ⟨b0, o0, none⟩ = some v0 ∧ w2.cell? ⟨b1, o1, none⟩ = some v1 ∧ w2.cell? ⟨b2, o2, none⟩ = some v2 ∧ w2.cell? ⟨b3, o3, none⟩ = some v3 ∧ w2.cell? ⟨b4, o4, none⟩ = some v4 ∧ w2.cell? ⟨b5, o5, none⟩ = some v5 ∧ w2.cell? ⟨b6, o6, none⟩ = some v6 ∧ w2.cell? ⟨b7, o7, none⟩ = some v7 ∧ w2.cell? ⟨b8, o8, none⟩ = some v8 ∧ w2.cell? ⟨b9, o9, none⟩ = some v9 :=
  ⟨fstep h.1 hb, fkeep hb h.2.1, fkeep hb h.2.2.1, fkeep hb h.2.2.2.1, fkeep hb h.2.2.2.2.1, fkeep hb h.2.2.2.2.2.1, fkeep hb h.2.2.2.2.2.2.1, fkeep hb h.2.2.2.2.2.2.2.1, fkeep hb h.2.2.2.2.2.2.2.2.1, fkeep hb h.2.2.2.2.2.2.2.2.2.1, fkeep hb h.2.2.2.2.2.2.2.2.2.2⟩
end Go.Proofs.Ytjlhjkdmpngkbaa
