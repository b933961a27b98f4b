/- The statement FnExactMoveLight: for every plan, number, route and block the law returns true. No condition. -/
import Derived.Test.YtgiinjleehgkoaaGreatU2
import Derived.Test.YtgiinjleehgkoaaGreatU4
import Derived.Test.YtgiinjleehgkoaaGreatW43
namespace Go.Proofs.YtgiinjleehgkoaaGreat.lExactMoveLight
open Go.RowKit Go.ChangeShapes Go.WideShapes Go.ChangeAt Go.Joins
theorem cells3 : Tryz.prog.cellsOf 33 = 2 := by kernel_rfl

set_option maxRecDepth 100000 in
theorem lifted (os : Os) (started : os.Started) (H : Type) (enc : TypeId × Value → H) :
    ReturnsInHanded {} Tryz.checked os 3 .any (Rows.fnExactMoveLightSpec.pre6 enc Tryz.prog Tryz.f3 Rows.fnExactMoveLightRow.domain false) (Rows.fnExactMoveLightSpec.post enc Tryz.prog Tryz.f3 false true false false) := by
  refine returnsInHanded_of_change (C := Tryz.checked) own started (by kernel_rfl) Tryz.func3
    (ChangeSpec.witness6 (enc := enc) (C := Tryz.checked) false ⟨#[], #[.agg #[.slice none 0 0, .slice none 0 0, .slice none 0 0], .int .i64 0, .agg #[.int .i64 0, .slice none 0 0], .agg #[.int .i64 0, .int .i64 0]], []⟩ 8 (by kernel_rfl) (by kernel_rfl) (by kernel_rfl) (by kernel_rfl)) ?_
  intro W base args ds gs before hval0 hW hcnd _
  have hval : ∀ (j : Nat) t v, Tryz.f3.params[j]? = some t → args[j]? = some v → Value.okWide Tryz.prog W .any base t v := hval0
  have hW' := hW
  obtain ⟨p, q, hA0, hV, rfl, hfz, hnd⟩ := hW
  have hA : DataW.TrodAll enc Tryz.prog W 0 (fun _ => true) true Tryz.f3.params.toList args.toList ds p := hA0
  rw [Tryz.params3] at hA hval
  obtain ⟨v0, v1, v2, v3, d0, d1, d2, d3, p0, p1, p2, p3, rfl, rfl, rfl, h0, h1, h2, h3⟩ := trodAll_four hA
  obtain ⟨x0, hr0⟩ := pl_of_trod (hval 0 28 v0 rfl rfl) h0
  obtain ⟨x1, rfl, rfl, rfl, wx1⟩ := open_int Tryz.underlying3 (hval 1 3 v1 rfl rfl) h1
  have bx1 := bounds_i64 wx1
  obtain ⟨x2, hr2⟩ := rt_of_trod (hval 2 31 v2 rfl rfl) h2
  obtain ⟨c0, c1, y0, y1, m, rfl, _, _, hy0, hy1⟩ := open_agg2 Tryz.underlying33 (by kernel_rfl) cells3 (hval 3 33 v3 rfl rfl) h3
  obtain ⟨a, e0, _, wa⟩ := DataW.trod_int Tryz.underlying3 hy0
  obtain ⟨b, e1, _, wb⟩ := DataW.trod_int Tryz.underlying3 hy1
  simp at e0 e1
  subst e0 e1
  refine (law_MoveLight v0 x0 x1 v2 x2 a b W hr0 bx1 hr2).mono fun e W' ⟨he, hg⟩ => ?_
  subst he
  exact ⟨_, rfl, post_fresh laidOut (by rw [Tryz.params3]; decide +kernel) rfl Tryz.underlying4 rfl rfl hW' hg⟩
end Go.Proofs.YtgiinjleehgkoaaGreat.lExactMoveLight
