/- The statement FnExactFiberBound: for every network and list of requests the law returns true. No condition. -/
import Derived.Test.YtjlhjkdmpngkbaaRow
import Derived.Test.YtjlhjkdmpngkbaaOpen3
import Derived.Test.YtjlhjkdmpngkbaaW21
namespace Go.Proofs.Ytjlhjkdmpngkbaa.lExactFiberBound
open Go.RowKit Go.ChangeShapes Go.WideShapes Go.ChangeAt Go.Joins

set_option maxRecDepth 100000 in
theorem lifted (os : Os) (started : os.Started) (H : Type) (enc : TypeId × Value → H) :
    ReturnsInHanded {} Try.checked os 6 .any (Rows.fnExactFiberBoundSpec.pre6 enc Try.prog Try.f6 Rows.fnExactFiberBoundRow.domain false) (Rows.fnExactFiberBoundSpec.post enc Try.prog Try.f6 false true false false) := by
  refine returnsInHanded_of_change (C := Try.checked) own started (by kernel_rfl) Try.func6
    (ChangeSpec.witness6 (enc := enc) (C := Try.checked) false ⟨#[], #[.agg #[.slice none 0 0, .slice none 0 0], .slice none 0 0], []⟩ 8 (by kernel_rfl) (by kernel_rfl) (by kernel_rfl) (by kernel_rfl)) ?_
  intro W base args ds gs before hval0 hW hcnd _
  have hval : ∀ (j : Nat) t v, Try.f6.params[j]? = some t → args[j]? = some v → Value.okWide Try.prog W .any base t v := hval0
  have hW' := hW
  obtain ⟨p, q, hA0, hV, rfl, hfz, hnd⟩ := hW
  have hA : DataW.TrodAll enc Try.prog W 0 (fun _ => true) true Try.f6.params.toList args.toList ds p := hA0
  rw [Try.params6] at hA hval
  obtain ⟨v0, v1, d0, d1, p0, p1, rfl, rfl, rfl, h0, h1⟩ := trodAll_two hA
  obtain ⟨n0, hn0⟩ := net_of_trod (hval 0 25 v0 rfl rfl) h0
  obtain ⟨x1, hr1⟩ := rq_of_trod (hval 1 39 v1 rfl rfl) h1
  refine (law_FiberBound v0 n0 v1 x1 W hn0 hr1).mono fun e W' ⟨he, hg⟩ => ?_
  subst he
  exact ⟨_, rfl, post_fresh laidOut (by rw [Try.params6]; decide +kernel) rfl Try.underlying4 rfl rfl hW' hg⟩
end Go.Proofs.Ytjlhjkdmpngkbaa.lExactFiberBound
