/- The statement FnDisjoint: for every list of bytes the law returns true. No condition. -/
import Derived.Test.YtlapicgeokjpjaaU2
import Derived.Test.YtlapicgeokjpjaaW29
namespace Go.Proofs.Ytlapicgeokjpjaa.lDisjoint
open Go.RowKit Go.ChangeShapes Go.WideShapes Go.ChangeAt Go.Joins
theorem cells0 : Try.prog.cellsOf 5 = 1 := by kernel_rfl

set_option maxRecDepth 100000 in
theorem lifted (os : Os) (started : os.Started) (H : Type) (enc : TypeId × Value → H) :
    ReturnsInHanded {} Try.checked os 3 .any (Rows.fnDisjointSpec.pre6 enc Try.prog Try.f3 Rows.fnDisjointRow.domain false) (Rows.fnDisjointSpec.post enc Try.prog Try.f3 false true false false) := by
  refine returnsInHanded_of_change (C := Try.checked) (show ownKnob Try.prog.godebug = none from by kernel_rfl) started (by kernel_rfl) Try.func3
    (ChangeSpec.witness6 (enc := enc) (C := Try.checked) false ⟨#[], #[.slice none 0 0], []⟩ 8 (by kernel_rfl) (by kernel_rfl) (by kernel_rfl) (by kernel_rfl)) ?_
  intro W base args ds gs before hval0 hW hcnd _
  have hval : ∀ (j : Nat) t v, Try.f3.params[j]? = some t → args[j]? = some v → Value.okWide Try.prog W .any base t v := hval0
  have hW' := hW
  obtain ⟨p, q, hA0, hV, rfl, hfz, hnd⟩ := hW
  have hA : DataW.TrodAll enc Try.prog W 0 (fun _ => true) true Try.f3.params.toList args.toList ds p := hA0
  rw [Try.params3] at hA hval
  obtain ⟨v0, d0, rfl, rfl, h0⟩ := trodAll_one hA
  obtain ⟨q0, cap0, xs0, rfl, hI0, hm0, hb0⟩ := bytes_of_trod Try.underlying22 Try.underlying5 cells0 (hval 0 22 v0 rfl rfl) h0
  refine (law_Disjoint q0 cap0 xs0 W hI0 hm0 hb0).mono fun e W' ⟨he, hg⟩ => ?_
  subst he
  exact ⟨_, rfl, post_fresh laidOut (by rw [Try.params3]; decide +kernel) rfl Try.underlying4 rfl rfl hW' hg⟩
end Go.Proofs.Ytlapicgeokjpjaa.lDisjoint
