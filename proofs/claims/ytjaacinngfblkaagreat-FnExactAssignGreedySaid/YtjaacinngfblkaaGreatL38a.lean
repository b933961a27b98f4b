/- The statement FnExactAssignGreedy: for every network, requests and order the law returns true. No condition. -/
import Derived.Test.YtjaacinngfblkaaGreatU2
import Derived.Test.YtjaacinngfblkaaGreatU3
import Derived.Test.YtjaacinngfblkaaGreatW38
namespace Go.Proofs.YtjaacinngfblkaaGreat.lExactAssignGreedy
open Go.RowKit Go.ChangeShapes Go.WideShapes Go.ChangeAt Go.Joins
theorem cells2 : Tryz.prog.cellsOf 3 = 1 := by kernel_rfl

set_option maxRecDepth 100000 in
theorem lifted (os : Os) (started : os.Started) (H : Type) (enc : TypeId × Value → H) :
    ReturnsInHanded {} Tryz.checked os 3 .any (Rows.fnExactAssignGreedySpec.pre6 enc Tryz.prog Tryz.f3 Rows.fnExactAssignGreedyRow.domain false) (Rows.fnExactAssignGreedySpec.post enc Tryz.prog Tryz.f3 false true false false) := by
  refine returnsInHanded_of_change (C := Tryz.checked) own started (by kernel_rfl) Tryz.func3
    (ChangeSpec.witness6 (enc := enc) (C := Tryz.checked) false ⟨#[], #[.agg #[.slice none 0 0, .slice none 0 0], .slice none 0 0, .slice none 0 0], []⟩ 8 (by kernel_rfl) (by kernel_rfl) (by kernel_rfl) (by kernel_rfl)) ?_
  intro W base args ds gs before hval0 hW hcnd _
  have hval : ∀ (j : Nat) t v, Tryz.f3.params[j]? = some t → args[j]? = some v → Value.okWide Tryz.prog W .any base t v := hval0
  have hW' := hW
  obtain ⟨p, q, hA0, hV, rfl, hfz, hnd⟩ := hW
  have hA : DataW.TrodAll enc Tryz.prog W 0 (fun _ => true) true Tryz.f3.params.toList args.toList ds p := hA0
  rw [Tryz.params3] at hA hval
  obtain ⟨v0, v1, v2, d0, d1, d2, p0, p1, p2, rfl, rfl, rfl, h0, h1, h2⟩ := trodAll_three hA
  obtain ⟨n0, hn0⟩ := net_of_trod (hval 0 25 v0 rfl rfl) h0
  obtain ⟨x1, hr1⟩ := rq_of_trod (hval 1 26 v1 rfl rfl) h1
  obtain ⟨q2, cap2, xs2, rfl, hI2, hm2, hb2⟩ := ints_of_trod Tryz.underlying27 Tryz.underlying3 cells2 (hval 2 27 v2 rfl rfl) h2
  refine (law_AssignGreedy v0 n0 v1 x1 (.slice q2 xs2.length cap2) xs2 W hn0 hr1 ⟨q2, cap2, rfl, hI2, hm2⟩).mono fun e W' ⟨he, hg⟩ => ?_
  subst he
  exact ⟨_, rfl, post_fresh laidOut (by rw [Tryz.params3]; decide +kernel) rfl Tryz.underlying4 rfl rfl hW' hg⟩
end Go.Proofs.YtjaacinngfblkaaGreat.lExactAssignGreedy
