/- The statement FnExactParsePlan, as a tied card: the walk inside the frame. Condition: the listed variables of the library hold what the program's text lays. -/
import Derived.Test.YtjhaoonacjebpaaGreatDoorW59
import Derived.Test.YtjhaoonacjebpaaGreatDoorLh
import Derived.Lay
namespace Go.Proofs.YtjhaoonacjebpaaGreatDoor.lExactParsePlan
open Go.RowKit Go.ChangeShapes Go.WideShapes Go.ChangeAt Go.Joins

theorem start_met (os : Os) (args : Array Value) : laidMetH Tryz.prog Rows.fnExactParsePlanRow.laid ((World.laidAll Tryz.prog os Rows.fnExactParsePlanRow.laid).forCall (fun _ _ => 0) ⟨#[], args, []⟩).memory := by
  rw [MakeChecks.laidMetH_plain _ _ _ (by kernel_rfl)]
  exact laidMet_laidAll _ (by kernel_rfl) (by kernel_rfl)
set_option maxRecDepth 100000 in
theorem lifted (os : Os) (started : os.Started) (H : Type) (enc : TypeId × Value → H) :
    ReturnsInHanded {} Tryz.checked os 4 .any (fun w args => (Rows.fnExactParsePlanSpec.pre enc Tryz.prog Tryz.f4 Rows.fnExactParsePlanRow.domain false w args ∧ laidMetH Tryz.prog Rows.fnExactParsePlanRow.laid w) ∧ sizedMet enc Tryz.prog Tryz.f4 (OpenSpec.ofChange Rows.fnExactParsePlanSpec) false w args)
      (Rows.fnExactParsePlanSpec.post enc Tryz.prog Tryz.f4 false true false false) := by
  refine returns_laid (C := Tryz.checked) (X := fun w _ => laidMetH Tryz.prog Rows.fnExactParsePlanRow.laid w) (fun _ _ _ hh h => h.of_heap hh) own started (by kernel_rfl) Tryz.func4
    (ChangeSpec.witness_shaped (enc := enc) (C := Tryz.checked) (os := os) (X := fun w _ => laidMetH Tryz.prog Rows.fnExactParsePlanRow.laid w) false (World.laidAll Tryz.prog os Rows.fnExactParsePlanRow.laid) #[.string ⟨#[]⟩] 8 (World.laidAll_os _ _ _) (World.shaped_of_ZipB (by kernel_rfl) (by kernel_rfl)) (by kernel_rfl) (by kernel_rfl) (by kernel_rfl) (start_met os _)) ?_
  intro W base args ds gs before hval0 hW hL0 hsh
  have hL : laidMet Tryz.prog Rows.fnExactParsePlanRow.laid W := by
    rw [MakeChecks.laidMetH_plain _ _ _ (by kernel_rfl)] at hL0; exact hL0
  have hval : ∀ (j : Nat) t v, Tryz.f4.params[j]? = some t → args[j]? = some v → Value.okWide Tryz.prog W .any base t v := hval0
  have hW' := hW
  obtain ⟨p, q, hA0, hV, rfl, hfz, hnd⟩ := hW
  have hA : DataW.TrodAll enc Tryz.prog W 0 (fun _ => true) true Tryz.f4.params.toList args.toList ds p := hA0
  rw [Tryz.params4] at hA hval
  obtain ⟨v0, d0, rfl, rfl, h0⟩ := trodAll_one hA
  obtain ⟨s, rfl, rfl, rfl, hsz⟩ := ChangeMaps.open_string Tryz.underlying9 (hval 0 9 v0 rfl rfl) h0
  have hT : TabE W := tab_of hL.tail.tail
  have hS : SynE W := syn_of hL.tail.tail.tail.tail.tail
  refine (law_ParsePlan s W hT hS (max_of hsh)).mono fun e W' ⟨he, hg⟩ => ?_
  subst he
  exact ⟨_, rfl, post_fresh laidOut (by rw [Tryz.params4]; decide +kernel) rfl Tryz.underlying4 rfl rfl hW' hg⟩
end Go.Proofs.YtjhaoonacjebpaaGreatDoor.lExactParsePlan
