/-
  DERIVED. GIVEN WITH THE SEED: THE CARDS: each row of YtjhaoonacjebpaaDoorRows.lean that lists a variable, with what it lists TIED to the program's text (the seventh form; the later family's looks); each row that meets fmt, with fmt's text TOLD by the authors' own Lean function (tested against real Go, not proved from fmt's source: count such statements apart). THE CARD IS WHAT COUNTS. Prove the row's statement (the work); the ties are given (YtjhaoonacjebpaaDoorTie.lean); close each card by the builder's one call (the guide's Derived/Test/ToyasCard.lean, 'card_holds'). Laid BY PROGRAM, IN A SANDBOX (cutbox-door.mjs). By AI agents, Wed Nov 11 2026. No macro, syntax, notation, axiom, sorry.
-/
import Derived.Test.YtjhaoonacjebpaaDoorRows
import GoSem.ClaimSeven
namespace Go.Proofs.YtjhaoonacjebpaaDoor
namespace Rows

/-- THE TIED CARD OF 'laws.FnExactFormatBlock'. -/
def fnExactFormatBlockCard : Claim7 := { stood := { row := fnExactFormatBlockRow, standIns := [], harness := (true, "975d8b92a0f15e32b4bd76e9e601d20b61a16f668eacb29cac536b7e9e520a5d"), looks := true }, kinds := [], alts := [], laidByText := true, laidKinds := [.data, .data, .data], laidTests := true, laidLooks := .later }
def FnExactFormatBlockCardSaid : Prop := Claim7.holds Tryd.pinned (.plain (OpenSpec.ofChange fnExactFormatBlockSpec)) fnExactFormatBlockCard

/-- THE TIED CARD OF 'laws.FnExactParseBlock'. -/
def fnExactParseBlockCard : Claim7 := { stood := { row := fnExactParseBlockRow, standIns := [], harness := (true, "975d8b92a0f15e32b4bd76e9e601d20b61a16f668eacb29cac536b7e9e520a5d"), looks := true }, kinds := [], alts := [], laidByText := true, laidKinds := [.data, .data, .data, .sentinel, .sentinel], laidTests := true, laidLooks := .later }
def FnExactParseBlockCardSaid : Prop := Claim7.holds Tryd.pinned (.plain (OpenSpec.ofChange fnExactParseBlockSpec)) fnExactParseBlockCard

/-- THE SECOND FORM's CARD OF 'laws.FnExactFormatBlock'. -/
def fnExactFormatBlockUptoCard : Claim7 := { stood := { row := fnExactFormatBlockUptoRow, standIns := [], harness := (true, "975d8b92a0f15e32b4bd76e9e601d20b61a16f668eacb29cac536b7e9e520a5d"), looks := true }, kinds := [], alts := [], laidByText := true, laidKinds := [.data, .data, .data], laidTests := true, laidLooks := .later }
def FnExactFormatBlockUptoCardSaid : Prop := Claim7.holds Tryd.pinned (.plain (OpenSpec.upto fnExactFormatBlockSpec)) fnExactFormatBlockUptoCard

/-- THE SECOND FORM's CARD OF 'laws.FnExactParseBlock'. -/
def fnExactParseBlockUptoCard : Claim7 := { stood := { row := fnExactParseBlockUptoRow, standIns := [], harness := (true, "975d8b92a0f15e32b4bd76e9e601d20b61a16f668eacb29cac536b7e9e520a5d"), looks := true }, kinds := [], alts := [], laidByText := true, laidKinds := [.data, .data, .data, .sentinel, .sentinel], laidTests := true, laidLooks := .later }
def FnExactParseBlockUptoCardSaid : Prop := Claim7.holds Tryd.pinned (.plain (OpenSpec.upto fnExactParseBlockSpec)) fnExactParseBlockUptoCard
end Rows
end Go.Proofs.YtjhaoonacjebpaaDoor
