/- The statement FnExactFiberMasks: for every plan the law returns true. No condition. -/
import Derived.Test.YtjaacinngfblkaaU2
import Derived.Test.YtjaacinngfblkaaU4
import Derived.Test.YtjaacinngfblkaaW36
namespace Go.Proofs.Ytjaacinngfblkaa.lExactFiberMasks
open Go.RowKit Go.ChangeShapes Go.WideShapes Go.ChangeAt Go.Joins

set_option maxRecDepth 100000 in
theorem lifted (os : Os) (started : os.Started) (H : Type) (enc : TypeId × Value → H) :
    ReturnsInHanded {} Try.checked os 6 .any (Rows.fnExactFiberMasksSpec.pre6 enc Try.prog Try.f6 Rows.fnExactFiberMasksRow.domain false) (Rows.fnExactFiberMasksSpec.post enc Try.prog Try.f6 false true false false) := by
  refine returnsInHanded_of_change (C := Try.checked) own started (by kernel_rfl) Try.func6
    (ChangeSpec.witness6 (enc := enc) (C := Try.checked) false ⟨#[], #[.agg #[.slice none 0 0, .slice none 0 0, .slice none 0 0]], []⟩ 8 (by kernel_rfl) (by kernel_rfl) (by kernel_rfl) (by kernel_rfl)) ?_
  intro W base args ds gs before hval0 hW hcnd _
  have hval : ∀ (j : Nat) t v, Try.f6.params[j]? = some t → args[j]? = some v → Value.okWide Try.prog W .any base t v := hval0
  have hW' := hW
  obtain ⟨p, q, hA0, hV, rfl, hfz, hnd⟩ := hW
  have hA : DataW.TrodAll enc Try.prog W 0 (fun _ => true) true Try.f6.params.toList args.toList ds p := hA0
  rw [Try.params6] at hA hval
  obtain ⟨v0, d0, rfl, rfl, h0⟩ := trodAll_one hA
  obtain ⟨x0, hr0⟩ := pl_of_trod (hval 0 54 v0 rfl rfl) h0
  refine (law_FiberMasks v0 x0 W hr0).mono fun e W' ⟨he, hg⟩ => ?_
  subst he
  exact ⟨_, rfl, post_fresh laidOut (by rw [Try.params6]; decide +kernel) rfl Try.underlying4 rfl rfl hW' hg⟩
end Go.Proofs.Ytjaacinngfblkaa.lExactFiberMasks
