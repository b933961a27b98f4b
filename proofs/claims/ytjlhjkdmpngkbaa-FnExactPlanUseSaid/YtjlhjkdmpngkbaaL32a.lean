/- The statement FnExactPlanUse: for every plan the law returns true. No condition. -/
import Derived.Test.YtjlhjkdmpngkbaaRow
import Derived.Test.YtjlhjkdmpngkbaaOpenP
import Derived.Test.YtjlhjkdmpngkbaaW32
namespace Go.Proofs.Ytjlhjkdmpngkbaa.lExactPlanUse
open Go.RowKit Go.ChangeShapes Go.WideShapes Go.ChangeAt Go.Joins

set_option maxRecDepth 100000 in
theorem lifted (os : Os) (started : os.Started) (H : Type) (enc : TypeId × Value → H) :
    ReturnsInHanded {} Try.checked os 14 .any (Rows.fnExactPlanUseSpec.pre6 enc Try.prog Try.f14 Rows.fnExactPlanUseRow.domain false) (Rows.fnExactPlanUseSpec.post enc Try.prog Try.f14 false true false false) := by
  refine returnsInHanded_of_change (C := Try.checked) own started (by kernel_rfl) Try.func14
    (ChangeSpec.witness6 (enc := enc) (C := Try.checked) false ⟨#[], #[.agg #[.slice none 0 0, .slice none 0 0, .slice none 0 0]], []⟩ 8 (by kernel_rfl) (by kernel_rfl) (by kernel_rfl) (by kernel_rfl)) ?_
  intro W base args ds gs before hval0 hW hcnd _
  have hval : ∀ (j : Nat) t v, Try.f14.params[j]? = some t → args[j]? = some v → Value.okWide Try.prog W .any base t v := hval0
  have hW' := hW
  obtain ⟨p, q, hA0, hV, rfl, hfz, hnd⟩ := hW
  have hA : DataW.TrodAll enc Try.prog W 0 (fun _ => true) true Try.f14.params.toList args.toList ds p := hA0
  rw [Try.params14] at hA hval
  obtain ⟨v0, d0, rfl, rfl, h0⟩ := trodAll_one hA
  obtain ⟨x0, hr0⟩ := pl_of_trod (hval 0 57 v0 rfl rfl) h0
  refine (law_PlanUse v0 x0 W hr0).mono fun e W' ⟨he, hg⟩ => ?_
  subst he
  exact ⟨_, rfl, post_fresh laidOut (by rw [Try.params14]; decide +kernel) rfl Try.underlying4 rfl rfl hW' hg⟩
end Go.Proofs.Ytjlhjkdmpngkbaa.lExactPlanUse
