/- The statement FnExactRemoveLight: for every plan and number the law returns true. No condition. -/
import Derived.Test.YtmpdljcihiidaaaGreatU2
import Derived.Test.YtmpdljcihiidaaaGreatU4
import Derived.Test.YtmpdljcihiidaaaGreatW41
namespace Go.Proofs.YtmpdljcihiidaaaGreat.lExactRemoveLight
open Go.RowKit Go.ChangeShapes Go.WideShapes Go.ChangeAt Go.Joins

set_option maxRecDepth 100000 in
theorem lifted (os : Os) (started : os.Started) (H : Type) (enc : TypeId × Value → H) :
    ReturnsInHanded {} Tryz.checked os 4 .any (Rows.fnExactRemoveLightSpec.pre6 enc Tryz.prog Tryz.f4 Rows.fnExactRemoveLightRow.domain false) (Rows.fnExactRemoveLightSpec.post enc Tryz.prog Tryz.f4 false true false false) := by
  refine returnsInHanded_of_change (C := Tryz.checked) own started (by kernel_rfl) Tryz.func4
    (ChangeSpec.witness6 (enc := enc) (C := Tryz.checked) false ⟨#[], #[.agg #[.slice none 0 0, .slice none 0 0, .slice none 0 0], .int .i64 0], []⟩ 8 (by kernel_rfl) (by kernel_rfl) (by kernel_rfl) (by kernel_rfl)) ?_
  intro W base args ds gs before hval0 hW hcnd _
  have hval : ∀ (j : Nat) t v, Tryz.f4.params[j]? = some t → args[j]? = some v → Value.okWide Tryz.prog W .any base t v := hval0
  have hW' := hW
  obtain ⟨p, q, hA0, hV, rfl, hfz, hnd⟩ := hW
  have hA : DataW.TrodAll enc Tryz.prog W 0 (fun _ => true) true Tryz.f4.params.toList args.toList ds p := hA0
  rw [Tryz.params4] at hA hval
  obtain ⟨v0, v1, d0, d1, p0, p1, rfl, rfl, rfl, h0, h1⟩ := trodAll_two hA
  obtain ⟨x0, hr0⟩ := pl_of_trod (hval 0 47 v0 rfl rfl) h0
  obtain ⟨x1, rfl, rfl, rfl, wx1⟩ := open_int Tryz.underlying3 (hval 1 3 v1 rfl rfl) h1
  have bx1 := bounds_i64 wx1
  refine (law_RemoveLight v0 x0 x1 W hr0 bx1).mono fun e W' ⟨he, hg⟩ => ?_
  subst he
  exact ⟨_, rfl, post_fresh laidOut (by rw [Tryz.params4]; decide +kernel) rfl Tryz.underlying4 rfl rfl hW' hg⟩
end Go.Proofs.YtmpdljcihiidaaaGreat.lExactRemoveLight
