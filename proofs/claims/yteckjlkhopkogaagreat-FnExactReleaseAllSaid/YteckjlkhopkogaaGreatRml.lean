/- Contracts: RemoveLight, both sides. -/
import Derived.Test.YteckjlkhopkogaaGreatWo2
import Derived.Test.YteckjlkhopkogaaGreatU6
import Derived.Test.YteckjlkhopkogaaGreatGrP
import Derived.Deep.RegionHeld3
import Derived.Deep.DeepCutAuto
namespace Go.Proofs.YteckjlkhopkogaaGreat
open Go.RowKit Go.PlainAid

def zeroP : PlanV := ⟨⟨[], []⟩, []⟩
def rmF (P : PlanV) (id : Int) : PlanV × Bool := if planB P = true ∧ 0 ≤ findL P.lights id then (⟨P.net, P.lights.eraseIdx (findL P.lights id).toNat⟩, true) else (zeroP, false)
theorem rmF_no {P : PlanV} {id : Int} (h : ¬ (planB P = true ∧ 0 ≤ findL P.lights id)) : rmF P id = (zeroP, false) := by unfold rmF; rw [if_neg h]
theorem rmF_yes {P : PlanV} {id : Int} (h : planB P = true ∧ 0 ≤ findL P.lights id) : rmF P id = (⟨P.net, P.lights.eraseIdx (findL P.lights id).toNat⟩, true) := by unfold rmF; rw [if_pos h]
theorem zeroP_small : SmPl zeroP := ⟨⟨⟨⟨by simp [zeroP], by simp [zeroP]⟩, by simp [zeroP]⟩, ⟨by simp [zeroP], by simp [zeroP]⟩⟩, by simp [zeroP]⟩
theorem rmF_small (P : PlanV) (id : Int) (hs : PlSmall P) : SmPl (rmF P id).1 := by
  by_cases h : planB P = true ∧ 0 ≤ findL P.lights id
  · rw [rmF_yes h]
    obtain ⟨_, h12, _⟩ := planB_at h.1
    have hle : (P.lights.eraseIdx (findL P.lights id).toNat).length ≤ P.lights.length := by rw [List.length_eraseIdx]; split <;> omega
    refine ⟨⟨hs.1, ⟨Nat.le_trans hle hs.2.1, fun x hx => hs.2.2 x (mem_erase hx)⟩⟩, ?_⟩
    show (P.lights.eraseIdx _).length ≤ 1024
    omega
  · rw [rmF_no h]; exact zeroP_small
theorem findL_lt {L : List LtV} {id : Int} (h : 0 ≤ findL L id) : (findL L id).toNat < L.length := by
  obtain ⟨x, hx, _⟩ := idxP_get (l := L) (f := fun x => x.1 == id) h
  have hx' : L[(findL L id).toNat]? = some x := hx
  rcases Nat.lt_or_ge (findL L id).toNat L.length with h' | h'
  · exact h'
  · rw [List.getElem?_eq_none h'] at hx'; cases hx'
theorem kp3 {w w1 w2 : World} {b : Nat} {v0 v1 v2 : Value} (h : Fresh w w1 ∧ w1.cell? ⟨b, 0, none⟩ = some v0 ∧ w1.cell? ⟨b, 1, none⟩ = some v1 ∧ w1.cell? ⟨b, 2, none⟩ = some v2) (hb : Fresh w1 w2) : Fresh w w2 ∧ w2.cell? ⟨b, 0, none⟩ = some v0 ∧ w2.cell? ⟨b, 1, none⟩ = some v1 ∧ w2.cell? ⟨b, 2, none⟩ = some v2 :=
  ⟨fstep h.1 hb, fkeep hb h.2.1, fkeep hb h.2.2.1, fkeep hb h.2.2.2⟩
theorem s3 {w0 w : World} {b : Nat} {t : TypeId} {v0 v1 v2 : Value} (hf : Fresh w0 w) (h : RowAt w b t [v0, v1, v2]) : Fresh w0 w ∧ w.cell? ⟨b, 0, none⟩ = some v0 ∧ w.cell? ⟨b, 1, none⟩ = some v1 ∧ w.cell? ⟨b, 2, none⟩ = some v2 :=
  ⟨hf, h.cell (i := 0) rfl, h.cell (i := 1) rfl, h.cell (i := 2) rfl⟩
theorem zeroP_own (w : World) (base : Nat) : PlOwn w base (.agg #[.slice none 0 0, .slice none 0 0, .slice none 0 0]) zeroP :=
  ⟨none, 0, none, 0, none, 0, [], rfl, Or.inl ⟨rfl, rfl⟩, Or.inl ⟨rfl, rfl⟩, Or.inl ⟨rfl, rfl⟩, (by intro x hx; cases hx), (by intro i j x y _ hx; simp at hx), rfl, Nat.le_refl _, by omega, Nat.le_refl _, by omega⟩
theorem PlOwn.setO {w : World} {base g : Nat} {v : Value} {P : PlanV} {cs : List Value} (h : PlOwn w base v P) (hr : RowAt w g 38 cs) (i : Nat) (u : Value) : PlOwn (w.setCell ⟨g, i, none⟩ u) base v P := by
  obtain ⟨q, c, p, d, r, e, l, h1, h2, h3, h4, h5, h6⟩ := h
  exact ⟨q, c, p, d, r, e, l, h1, h2.setO hr (by decide) _ _, h3.setO hr (by decide) _ _, h4.setO hr (by decide) _ _, fun x hx => (h5 x hx).setO hr (by decide) _ _, h6⟩
theorem PlOwn.shape {w : World} {base : Nat} {v : Value} {P : PlanV} (h : PlOwn w base v P) : ∃ q m c p k d r i e, v = .agg #[.slice q m c, .slice p k d, .slice r i e] := by
  obtain ⟨q, c, p, d, r, e, l, h1, _⟩ := h
  exact ⟨_, _, _, _, _, _, _, _, _, h1⟩
theorem PlOwn.box {w : World} {base g : Nat} {v a b c : Value} {P : PlanV} (h : PlOwn w base v P) (hr : RowAt w g 38 [.slice none 0 0, .slice none 0 0, .slice none 0 0]) : PlOwn (((w.setCell ⟨g, 0, none⟩ a).setCell ⟨g, 1, none⟩ b).setCell ⟨g, 2, none⟩ c) base v P :=
  ((h.setO hr _ _).setO (hr.set 0 _) _ _).setO ((hr.set 0 _).set 1 _) _ _
end Go.Proofs.YteckjlkhopkogaaGreat
