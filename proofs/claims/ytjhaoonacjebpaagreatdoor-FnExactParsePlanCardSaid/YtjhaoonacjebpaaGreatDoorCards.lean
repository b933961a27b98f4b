/-
  DERIVED. GIVEN WITH THE SEED: THE CARDS: each row of YtjhaoonacjebpaaGreatDoorRows.lean that lists a variable, with what it lists TIED to the program's text (the seventh form; the later family's looks); each row that meets fmt, with fmt's text TOLD by the authors' own Lean function (tested against real Go, not proved from fmt's source: count such statements apart). THE CARD IS WHAT COUNTS. Prove the row's statement (the work); the ties are given (YtjhaoonacjebpaaGreatDoorTie.lean); close each card by the builder's one call (the guide's Derived/Test/ToyasCard.lean, 'card_holds'). Laid BY PROGRAM, IN A SANDBOX (cutbox-door.mjs). By AI agents, Wed Nov 11 2026. No macro, syntax, notation, axiom, sorry.
-/
import Derived.Test.YtjhaoonacjebpaaGreatDoorRows
import GoSem.ClaimSeven
namespace Go.Proofs.YtjhaoonacjebpaaGreatDoor
namespace Rows

/-- THE TIED CARD OF 'laws.FnExactFormatPlan'. -/
def fnExactFormatPlanCard : Claim7 := { stood := { row := fnExactFormatPlanRow, standIns := [], harness := (true, "457affdbb45f8c88196a277eb790301ab065a891872f6c48d2efa9e1716def32"), looks := true }, kinds := [], alts := [], laidByText := true, laidKinds := [.data, .data, .data], laidTests := true, laidLooks := .later }
def FnExactFormatPlanCardSaid : Prop := Claim7.holds Tryz.pinned (.plain (OpenSpec.ofChange fnExactFormatPlanSpec)) fnExactFormatPlanCard

/-- THE TIED CARD OF 'laws.FnExactParsePlan'. -/
def fnExactParsePlanCard : Claim7 := { stood := { row := fnExactParsePlanRow, standIns := [], harness := (true, "457affdbb45f8c88196a277eb790301ab065a891872f6c48d2efa9e1716def32"), looks := true }, kinds := [], alts := [], laidByText := true, laidKinds := [.data, .data, .data, .data, .sentinel, .sentinel, .pinned], laidTests := true, laidLooks := .later }
def FnExactParsePlanCardSaid : Prop := Claim7.holds Tryz.pinned (.plain (OpenSpec.ofChange fnExactParsePlanSpec)) fnExactParsePlanCard

/-- THE SECOND FORM's CARD OF 'laws.FnExactFormatPlan'. -/
def fnExactFormatPlanUptoCard : Claim7 := { stood := { row := fnExactFormatPlanUptoRow, standIns := [], harness := (true, "457affdbb45f8c88196a277eb790301ab065a891872f6c48d2efa9e1716def32"), looks := true }, kinds := [], alts := [], laidByText := true, laidKinds := [.data, .data, .data], laidTests := true, laidLooks := .later }
def FnExactFormatPlanUptoCardSaid : Prop := Claim7.holds Tryz.pinned (.plain (OpenSpec.upto fnExactFormatPlanSpec)) fnExactFormatPlanUptoCard

/-- THE SECOND FORM's CARD OF 'laws.FnExactParsePlan'. -/
def fnExactParsePlanUptoCard : Claim7 := { stood := { row := fnExactParsePlanUptoRow, standIns := [], harness := (true, "457affdbb45f8c88196a277eb790301ab065a891872f6c48d2efa9e1716def32"), looks := true }, kinds := [], alts := [], laidByText := true, laidKinds := [.data, .data, .data, .data, .sentinel, .sentinel, .pinned], laidTests := true, laidLooks := .later }
def FnExactParsePlanUptoCardSaid : Prop := Claim7.holds Tryz.pinned (.plain (OpenSpec.upto fnExactParsePlanSpec)) fnExactParsePlanUptoCard
end Rows
end Go.Proofs.YtjhaoonacjebpaaGreatDoor
