/- The statement FnExactIsValidDemands: for every network and list of demands the law returns true. No condition. -/
import Derived.Test.YtjlhjkdmpngkbaaRow
import Derived.Test.YtjlhjkdmpngkbaaOpen
import Derived.Test.YtjlhjkdmpngkbaaW18
namespace Go.Proofs.Ytjlhjkdmpngkbaa.lExactIsValidDemands
open Go.RowKit Go.ChangeShapes Go.WideShapes Go.ChangeAt Go.Joins
theorem cells1 : Try.prog.cellsOf 116 = 4 := by kernel_rfl

set_option maxRecDepth 100000 in
theorem lifted (os : Os) (started : os.Started) (H : Type) (enc : TypeId × Value → H) :
    ReturnsInHanded {} Try.checked os 3 .any (Rows.fnExactIsValidDemandsSpec.pre6 enc Try.prog Try.f3 Rows.fnExactIsValidDemandsRow.domain false) (Rows.fnExactIsValidDemandsSpec.post enc Try.prog Try.f3 false true false false) := by
  refine returnsInHanded_of_change (C := Try.checked) own started (by kernel_rfl) Try.func3
    (ChangeSpec.witness6 (enc := enc) (C := Try.checked) false ⟨#[], #[.agg #[.slice none 0 0, .slice none 0 0], .slice none 0 0], []⟩ 8 (by kernel_rfl) (by kernel_rfl) (by kernel_rfl) (by kernel_rfl)) ?_
  intro W base args ds gs before hval0 hW hcnd _
  have hval : ∀ (j : Nat) t v, Try.f3.params[j]? = some t → args[j]? = some v → Value.okWide Try.prog W .any base t v := hval0
  have hW' := hW
  obtain ⟨p, q, hA0, hV, rfl, hfz, hnd⟩ := hW
  have hA : DataW.TrodAll enc Try.prog W 0 (fun _ => true) true Try.f3.params.toList args.toList ds p := hA0
  rw [Try.params3] at hA hval
  obtain ⟨v0, v1, d0, d1, p0, p1, rfl, rfl, rfl, h0, h1⟩ := trodAll_two hA
  obtain ⟨n0, hn0⟩ := net_of_trod (hval 0 25 v0 rfl rfl) h0
  obtain ⟨q1, cap1, xs1, rfl, hI1, hm1⟩ := fours_of_trod Try.underlying26 Try.underlying116 cells1 Try.underlying3 cells_i ⟨⟨rfl, rfl⟩, ⟨rfl, rfl⟩, ⟨rfl, rfl⟩, ⟨rfl, rfl⟩⟩ (hval 1 26 v1 rfl rfl) h1
  refine (law_IsValidDemands v0 n0 q1 cap1 xs1 W hn0 hI1 hm1).mono fun e W' ⟨he, hg⟩ => ?_
  subst he
  exact ⟨_, rfl, post_fresh laidOut (by rw [Try.params3]; decide +kernel) rfl Try.underlying4 rfl rfl hW' hg⟩

theorem proved : Rows.FnExactIsValidDemandsSaid :=
  OpenClaim.holds_of_wide 3 Try.f3 rfl rfl rfl rfl rfl rfl rfl ⟨rfl, rfl, rfl, rfl, rfl⟩ rfl rfl rfl rfl rfl (by kernel_rfl) Try.func3 (by kernel_rfl)
    (of_decide_eq_true (by kernel_rfl)) (by unfold Func.isWrapper; first | (rw [if_pos (by decide +kernel)]; kernel_rfl) | (rw [if_neg (by decide +kernel)]; exact ⟨rfl, rfl⟩))
    (fun os started H enc _ => lifted os started H enc)
#print axioms proved
end Go.Proofs.Ytjlhjkdmpngkbaa.lExactIsValidDemands
