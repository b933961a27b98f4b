/- The statement FnExactUnprotectedPairs: for every network and number the law returns true. No condition. -/
import Derived.Test.YtgkgcfmmhkknkaaGreatU2
import Derived.Test.YtgkgcfmmhkknkaaGreatU3
import Derived.Test.YtgkgcfmmhkknkaaGreatW56
namespace Go.Proofs.YtgkgcfmmhkknkaaGreat.lExactUnprotectedPairs
open Go.RowKit Go.ChangeShapes Go.WideShapes Go.ChangeAt Go.Joins

set_option maxRecDepth 100000 in
theorem lifted (os : Os) (started : os.Started) (H : Type) (enc : TypeId × Value → H) :
    ReturnsInHanded {} Tryz.checked os 9 .any (Rows.fnExactUnprotectedPairsSpec.pre6 enc Tryz.prog Tryz.f9 Rows.fnExactUnprotectedPairsRow.domain false) (Rows.fnExactUnprotectedPairsSpec.post enc Tryz.prog Tryz.f9 false true false false) := by
  refine returnsInHanded_of_change (C := Tryz.checked) own started (by kernel_rfl) Tryz.func9
    (ChangeSpec.witness6 (enc := enc) (C := Tryz.checked) false ⟨#[], #[.agg #[.slice none 0 0, .slice none 0 0], .int .i64 0], []⟩ 8 (by kernel_rfl) (by kernel_rfl) (by kernel_rfl) (by kernel_rfl)) ?_
  intro W base args ds gs before hval0 hW hcnd _
  have hval : ∀ (j : Nat) t v, Tryz.f9.params[j]? = some t → args[j]? = some v → Value.okWide Tryz.prog W .any base t v := hval0
  have hW' := hW
  obtain ⟨p, q, hA0, hV, rfl, hfz, hnd⟩ := hW
  have hA : DataW.TrodAll enc Tryz.prog W 0 (fun _ => true) true Tryz.f9.params.toList args.toList ds p := hA0
  rw [Tryz.params9] at hA hval
  obtain ⟨v0, v1, d0, d1, p0, p1, rfl, rfl, rfl, h0, h1⟩ := trodAll_two hA
  obtain ⟨n0, hn0⟩ := net_of_trod (hval 0 25 v0 rfl rfl) h0
  obtain ⟨x1, rfl, rfl, rfl, wx1⟩ := open_int Tryz.underlying3 (hval 1 3 v1 rfl rfl) h1
  have bx1 := bounds_i64 wx1
  refine (law_UnprotectedPairs v0 n0 x1 W hn0 bx1).mono fun e W' ⟨he, hg⟩ => ?_
  subst he
  exact ⟨_, rfl, post_fresh laidOut (by rw [Tryz.params9]; decide +kernel) rfl Tryz.underlying4 rfl rfl hW' hg⟩
end Go.Proofs.YtgkgcfmmhkknkaaGreat.lExactUnprotectedPairs
