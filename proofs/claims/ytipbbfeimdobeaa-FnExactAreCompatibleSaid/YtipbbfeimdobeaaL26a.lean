/- The statement FnExactAreCompatible: for every network and two services the law returns true. No condition. -/
import Derived.Test.YtipbbfeimdobeaaU2
import Derived.Test.YtipbbfeimdobeaaW26
namespace Go.Proofs.Ytipbbfeimdobeaa.lExactAreCompatible
open Go.RowKit Go.ChangeShapes Go.WideShapes Go.ChangeAt Go.Joins

set_option maxRecDepth 100000 in
theorem lifted (os : Os) (started : os.Started) (H : Type) (enc : TypeId × Value → H) :
    ReturnsInHanded {} Try.checked os 4 .any (Rows.fnExactAreCompatibleSpec.pre6 enc Try.prog Try.f4 Rows.fnExactAreCompatibleRow.domain false) (Rows.fnExactAreCompatibleSpec.post enc Try.prog Try.f4 false true false false) := by
  refine returnsInHanded_of_change (C := Try.checked) own started (by kernel_rfl) Try.func4
    (ChangeSpec.witness6 (enc := enc) (C := Try.checked) false ⟨#[], #[.agg #[.slice none 0 0, .slice none 0 0], .agg #[.int .i64 0, .int .i64 0, .int .i64 0, .slice none 0 0, .int .i64 0, .int .i64 0, .int .i64 0, .slice none 0 0, .int .i64 0, .int .i64 0], .agg #[.int .i64 0, .int .i64 0, .int .i64 0, .slice none 0 0, .int .i64 0, .int .i64 0, .int .i64 0, .slice none 0 0, .int .i64 0, .int .i64 0]], []⟩ 8 (by kernel_rfl) (by kernel_rfl) (by kernel_rfl) (by kernel_rfl)) ?_
  intro W base args ds gs before hval0 hW hcnd _
  have hval : ∀ (j : Nat) t v, Try.f4.params[j]? = some t → args[j]? = some v → Value.okWide Try.prog W .any base t v := hval0
  have hW' := hW
  obtain ⟨p, q, hA0, hV, rfl, hfz, hnd⟩ := hW
  have hA : DataW.TrodAll enc Try.prog W 0 (fun _ => true) true Try.f4.params.toList args.toList ds p := hA0
  rw [Try.params4] at hA hval
  obtain ⟨v0, v1, v2, d0, d1, d2, p0, p1, p2, rfl, rfl, rfl, h0, h1, h2⟩ := trodAll_three hA
  obtain ⟨n0, hn0⟩ := net_of_trod (hval 0 25 v0 rfl rfl) h0
  obtain ⟨x1, hr1⟩ := sv_of_trod (hval 1 51 v1 rfl rfl) h1
  obtain ⟨x2, hr2⟩ := sv_of_trod (hval 2 51 v2 rfl rfl) h2
  refine (law_AreCompatible v0 n0 v1 x1 v2 x2 W hn0 hr1 hr2).mono fun e W' ⟨he, hg⟩ => ?_
  subst he
  exact ⟨_, rfl, post_fresh laidOut (by rw [Try.params4]; decide +kernel) rfl Try.underlying4 rfl rfl hW' hg⟩
end Go.Proofs.Ytipbbfeimdobeaa.lExactAreCompatible
