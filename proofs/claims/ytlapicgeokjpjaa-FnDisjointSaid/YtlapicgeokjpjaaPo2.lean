/- Contracts: the partner of a route, both sides. -/
import Derived.Test.YtlapicgeokjpjaaPo
import Derived.Test.YtlapicgeokjpjaaBp4
import Derived.Test.YtlapicgeokjpjaaU6
namespace Go.Proofs.Ytlapicgeokjpjaa
open Go.RowKit Go.PlainAid

theorem RtOwn.setR {w : World} {base g : Nat} {v : Value} {R : Int × List Int} {cs : List Value} (h : RtOwn w base v R) (hr : RowAt w g 30 cs) (i : Nat) (u : Value) : RtOwn (w.setCell ⟨g, i, none⟩ u) base v R := by
  obtain ⟨q, c, h1, h2⟩ := h
  refine ⟨q, c, h1, ?_⟩
  rcases h2 with h2 | ⟨b, sp, e1, e2, e3⟩
  · exact Or.inl h2
  · exact Or.inr ⟨b, sp, e1, e2, e3.setOther (fun e => by subst e; exact absurd (e3.inj hr).1 (by decide)) _⟩
theorem one_res {w : World} {A : Nat} {t : TypeId} {u0 u1 : Value} (hA : RowAt w A t [u0, u1]) (a0 a1 : Value) :
    (w.cell? ⟨A, 0, none⟩ = some u0 ∧ w.cell? ⟨A, 1, none⟩ = some u1 ∧ w.frozen? ⟨A, 0, none⟩ = false ∧ w.frozen? ⟨A, 1, none⟩ = false) ∧
    ((w.setCell ⟨A, 0, none⟩ a0).setCell ⟨A, 1, none⟩ a1).cell? ⟨A, 0, none⟩ = some a0 ∧ ((w.setCell ⟨A, 0, none⟩ a0).setCell ⟨A, 1, none⟩ a1).cell? ⟨A, 1, none⟩ = some a1 :=
  ⟨⟨hA.cell rfl, hA.cell rfl, hA.frozen 0, hA.frozen 1⟩, ((hA.set 0 a0).set 1 a1).cell rfl, ((hA.set 0 a0).set 1 a1).cell rfl⟩
theorem partF_small (n : Net) (R : Int × List Int) (k : Int) : SmRt (partF n R k).1 := by
  cases h : partB n R k && okA n R.1 (endW n R)
  · rw [partF_no h]; simp [SmRt]
  · simp only [Bool.and_eq_true] at h
    rw [partF_yes h.1 h.2]
    have hp := pairB_in (okA_pair h.2)
    show SmRt ((prtF n R k).getD (0, []))
    cases hq : prtF n R k with
    | none => simp [SmRt]
    | some X =>
      have hg := good_mem (List.mem_of_find?_eq_some hq)
      obtain ⟨_, _, a3, a4, _⟩ := nodes_at hp.1 hp.2.1 hg.2
      simp [SmRt]; omega
theorem out_zero {n : Net} {R : Int × List Int} {k : Int} {w w' : World} {b : Bool} (h : partF n R k = ((0, []), false, b)) (hf : Fresh w w') :
    ∃ v', Ending.returned (.tuple #[.agg #[.int .i64 0, .slice none 0 0], .bool false, .bool b]) = .returned (.tuple #[v', .bool (partF n R k).2.1, .bool (partF n R k).2.2]) ∧ RtOwn w' w.heap.size v' (partF n R k).1 ∧ Fresh w w' :=
  ⟨_, by rw [h], by rw [h]; exact rt_zero _ _, hf⟩
end Go.Proofs.Ytlapicgeokjpjaa
