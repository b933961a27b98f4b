/- The statement FnExactAddLight: for every plan and light the law returns true. No condition. -/
import Derived.Test.YtgiinjleehgkoaaGreatU2
import Derived.Test.YtgiinjleehgkoaaGreatU4
import Derived.Test.YtgiinjleehgkoaaGreatKLt
import Derived.Test.YtgiinjleehgkoaaGreatW47
namespace Go.Proofs.YtgiinjleehgkoaaGreat.lExactAddLight
open Go.RowKit Go.ChangeShapes Go.WideShapes Go.ChangeAt Go.Joins

set_option maxRecDepth 100000 in
theorem lifted (os : Os) (started : os.Started) (H : Type) (enc : TypeId × Value → H) :
    ReturnsInHanded {} Tryz.checked os 5 .any (Rows.fnExactAddLightSpec.pre6 enc Tryz.prog Tryz.f5 Rows.fnExactAddLightRow.domain false) (Rows.fnExactAddLightSpec.post enc Tryz.prog Tryz.f5 false true false false) := by
  refine returnsInHanded_of_change (C := Tryz.checked) own started (by kernel_rfl) Tryz.func5
    (ChangeSpec.witness6 (enc := enc) (C := Tryz.checked) false ⟨#[], #[.agg #[.slice none 0 0, .slice none 0 0, .slice none 0 0], .agg #[.int .i64 0, .int .i64 0, .slice none 0 0, .int .i64 0, .int .i64 0]], []⟩ 8 (by kernel_rfl) (by kernel_rfl) (by kernel_rfl) (by kernel_rfl)) ?_
  intro W base args ds gs before hval0 hW hcnd _
  have hval : ∀ (j : Nat) t v, Tryz.f5.params[j]? = some t → args[j]? = some v → Value.okWide Tryz.prog W .any base t v := hval0
  have hW' := hW
  obtain ⟨p, q, hA0, hV, rfl, hfz, hnd⟩ := hW
  have hA : DataW.TrodAll enc Tryz.prog W 0 (fun _ => true) true Tryz.f5.params.toList args.toList ds p := hA0
  rw [Tryz.params5] at hA hval
  obtain ⟨v0, v1, d0, d1, p0, p1, rfl, rfl, rfl, h0, h1⟩ := trodAll_two hA
  obtain ⟨x0, hr0⟩ := pl_of_trod (hval 0 28 v0 rfl rfl) h0
  obtain ⟨x1, hr1⟩ := lg_of_trod (hval 1 65 v1 rfl rfl) h1
  refine (law_AddLight v0 x0 v1 x1 W hr0 hr1).mono fun e W' ⟨he, hg⟩ => ?_
  subst he
  exact ⟨_, rfl, post_fresh laidOut (by rw [Tryz.params5]; decide +kernel) rfl Tryz.underlying4 rfl rfl hW' hg⟩
end Go.Proofs.YtgiinjleehgkoaaGreat.lExactAddLight
