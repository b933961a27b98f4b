/-
  No cell of these rows narrows 'for every input' (looked for: loops, veiled, ifaces, maps, wideKeys, modest, calm, conditions, laid).
  DERIVED. THE GIVEN ROWS OF THIS SEAT. 14 by the template 'for every input the law returns true; each argument reads behind the call as it read before'; 0 by the template 'total and deterministic' (their statements: YtkafmhgnbfofjaaTotals.lean).
  GIVEN WITH THE SEED: the statements are not yours to turn. If you find one false, say at which input.
  Laid BY PROGRAM, IN A SANDBOX (cutbox-rows.mjs): the forced cells as the released guide's own fill.sh prints them over the translation 7117f705668a3b6e… (all of the seat's roots in one cut). By AI agents, Wed Nov 11 2026. No macro, syntax, notation, axiom, sorry.
-/
import Derived.Test.YtkafmhgnbfofjaaChecked
import GoSem.Claim
import GoSem.ClaimJoined
import GoSem.ClaimMapViews
import Derived.JoinedTies
import Derived.KernelRfl
namespace Go.Proofs.Ytkafmhgnbfofjaa
/- THE CELL 'sum', in the pinned program and in every row, IS THE sha256 OF THE DUMP (.gsa) THAT YtkafmhgnbfofjaaProg.lean LOADS. Nothing in Lean hashes anything: it is a label: what it is worth is what the hold of that sum in a sandbox is worth. -/
noncomputable def Try.pinned : Pinned := { name := "ytkafmhgnbfofjaa", sum := "7117f705668a3b6e4adb37afbc420dac2720a90b6d4cfe1ad46a40538617a4f9", checked := Try.checked }
namespace Rows
def none {H : Type} : Left H := { results := [], args := [] }

/-- 'laws.FnExactIsValidBlock': WHATEVER THE INPUT: true; the input reads as it did. -/
def fnExactIsValidBlockSpec : ChangeSpec := { name := "fnExactIsValidBlock", fn := fun _ => fun
  | [d] => { results := [.lit (.bool true)], args := [d] }
  | _ => none }
def fnExactIsValidBlockRow : OpenClaim := { program := "ytkafmhgnbfofjaa", sum := "7117f705668a3b6e4adb37afbc420dac2720a90b6d4cfe1ad46a40538617a4f9", func := "loop.example/g00897/laws.FnExactIsValidBlock", spec := "fnExactIsValidBlock", apart := false }
def FnExactIsValidBlockSaid : Prop := fnExactIsValidBlockRow.holds Try.pinned (OpenSpec.ofChange fnExactIsValidBlockSpec)

/-- ITS FALSE NEIGHBOUR: 'it returns false'. Refute it at one input. -/
def fnExactIsValidBlockWrong : ChangeSpec := { name := "fnExactIsValidBlock", fn := fun _ => fun
  | [d] => { results := [.lit (.bool false)], args := [d] }
  | _ => none }
def FnExactIsValidBlockWrongFalsely : Prop := fnExactIsValidBlockRow.holds Try.pinned (OpenSpec.ofChange fnExactIsValidBlockWrong)

/-- 'laws.FnExactBlockMask': WHATEVER THE INPUT: true; the input reads as it did. -/
def fnExactBlockMaskSpec : ChangeSpec := { name := "fnExactBlockMask", fn := fun _ => fun
  | [d] => { results := [.lit (.bool true)], args := [d] }
  | _ => none }
def fnExactBlockMaskRow : OpenClaim := { program := "ytkafmhgnbfofjaa", sum := "7117f705668a3b6e4adb37afbc420dac2720a90b6d4cfe1ad46a40538617a4f9", func := "loop.example/g00897/laws.FnExactBlockMask", spec := "fnExactBlockMask", apart := false }
def FnExactBlockMaskSaid : Prop := fnExactBlockMaskRow.holds Try.pinned (OpenSpec.ofChange fnExactBlockMaskSpec)

/-- ITS FALSE NEIGHBOUR: 'it returns false'. Refute it at one input. -/
def fnExactBlockMaskWrong : ChangeSpec := { name := "fnExactBlockMask", fn := fun _ => fun
  | [d] => { results := [.lit (.bool false)], args := [d] }
  | _ => none }
def FnExactBlockMaskWrongFalsely : Prop := fnExactBlockMaskRow.holds Try.pinned (OpenSpec.ofChange fnExactBlockMaskWrong)

/-- 'laws.FnExactUnionMasks': WHATEVER THE INPUT: true; the input reads as it did. -/
def fnExactUnionMasksSpec : ChangeSpec := { name := "fnExactUnionMasks", fn := fun _ => fun
  | [d] => { results := [.lit (.bool true)], args := [d] }
  | _ => none }
def fnExactUnionMasksRow : OpenClaim := { program := "ytkafmhgnbfofjaa", sum := "7117f705668a3b6e4adb37afbc420dac2720a90b6d4cfe1ad46a40538617a4f9", func := "loop.example/g00897/laws.FnExactUnionMasks", spec := "fnExactUnionMasks", apart := false }
def FnExactUnionMasksSaid : Prop := fnExactUnionMasksRow.holds Try.pinned (OpenSpec.ofChange fnExactUnionMasksSpec)

/-- ITS FALSE NEIGHBOUR: 'it returns false'. Refute it at one input. -/
def fnExactUnionMasksWrong : ChangeSpec := { name := "fnExactUnionMasks", fn := fun _ => fun
  | [d] => { results := [.lit (.bool false)], args := [d] }
  | _ => none }
def FnExactUnionMasksWrongFalsely : Prop := fnExactUnionMasksRow.holds Try.pinned (OpenSpec.ofChange fnExactUnionMasksWrong)

/-- 'laws.FnExactFirstFit': WHATEVER THE INPUT: true; the input reads as it did. -/
def fnExactFirstFitSpec : ChangeSpec := { name := "fnExactFirstFit", fn := fun _ => fun
  | [d1, d2] => { results := [.lit (.bool true)], args := [d1, d2] }
  | _ => none }
def fnExactFirstFitRow : OpenClaim := { program := "ytkafmhgnbfofjaa", sum := "7117f705668a3b6e4adb37afbc420dac2720a90b6d4cfe1ad46a40538617a4f9", func := "loop.example/g00897/laws.FnExactFirstFit", spec := "fnExactFirstFit", apart := false }
def FnExactFirstFitSaid : Prop := fnExactFirstFitRow.holds Try.pinned (OpenSpec.ofChange fnExactFirstFitSpec)

/-- ITS FALSE NEIGHBOUR: 'it returns false'. Refute it at one input. -/
def fnExactFirstFitWrong : ChangeSpec := { name := "fnExactFirstFit", fn := fun _ => fun
  | [d1, d2] => { results := [.lit (.bool false)], args := [d1, d2] }
  | _ => none }
def FnExactFirstFitWrongFalsely : Prop := fnExactFirstFitRow.holds Try.pinned (OpenSpec.ofChange fnExactFirstFitWrong)

/-- 'laws.FnExactLastFit': WHATEVER THE INPUT: true; the input reads as it did. -/
def fnExactLastFitSpec : ChangeSpec := { name := "fnExactLastFit", fn := fun _ => fun
  | [d1, d2] => { results := [.lit (.bool true)], args := [d1, d2] }
  | _ => none }
def fnExactLastFitRow : OpenClaim := { program := "ytkafmhgnbfofjaa", sum := "7117f705668a3b6e4adb37afbc420dac2720a90b6d4cfe1ad46a40538617a4f9", func := "loop.example/g00897/laws.FnExactLastFit", spec := "fnExactLastFit", apart := false }
def FnExactLastFitSaid : Prop := fnExactLastFitRow.holds Try.pinned (OpenSpec.ofChange fnExactLastFitSpec)

/-- ITS FALSE NEIGHBOUR: 'it returns false'. Refute it at one input. -/
def fnExactLastFitWrong : ChangeSpec := { name := "fnExactLastFit", fn := fun _ => fun
  | [d1, d2] => { results := [.lit (.bool false)], args := [d1, d2] }
  | _ => none }
def FnExactLastFitWrongFalsely : Prop := fnExactLastFitRow.holds Try.pinned (OpenSpec.ofChange fnExactLastFitWrong)

/-- 'laws.FnExactIsValidFormats': WHATEVER THE INPUT: true; the input reads as it did. -/
def fnExactIsValidFormatsSpec : ChangeSpec := { name := "fnExactIsValidFormats", fn := fun _ => fun
  | [d] => { results := [.lit (.bool true)], args := [d] }
  | _ => none }
def fnExactIsValidFormatsRow : OpenClaim := { program := "ytkafmhgnbfofjaa", sum := "7117f705668a3b6e4adb37afbc420dac2720a90b6d4cfe1ad46a40538617a4f9", func := "loop.example/g00897/laws.FnExactIsValidFormats", spec := "fnExactIsValidFormats", apart := false }
def FnExactIsValidFormatsSaid : Prop := fnExactIsValidFormatsRow.holds Try.pinned (OpenSpec.ofChange fnExactIsValidFormatsSpec)

/-- ITS FALSE NEIGHBOUR: 'it returns false'. Refute it at one input. -/
def fnExactIsValidFormatsWrong : ChangeSpec := { name := "fnExactIsValidFormats", fn := fun _ => fun
  | [d] => { results := [.lit (.bool false)], args := [d] }
  | _ => none }
def FnExactIsValidFormatsWrongFalsely : Prop := fnExactIsValidFormatsRow.holds Try.pinned (OpenSpec.ofChange fnExactIsValidFormatsWrong)

/-- 'laws.FnExactFitPositions': WHATEVER THE INPUT: true; the input reads as it did. -/
def fnExactFitPositionsSpec : ChangeSpec := { name := "fnExactFitPositions", fn := fun _ => fun
  | [d1, d2] => { results := [.lit (.bool true)], args := [d1, d2] }
  | _ => none }
def fnExactFitPositionsRow : OpenClaim := { program := "ytkafmhgnbfofjaa", sum := "7117f705668a3b6e4adb37afbc420dac2720a90b6d4cfe1ad46a40538617a4f9", func := "loop.example/g00897/laws.FnExactFitPositions", spec := "fnExactFitPositions", apart := false }
def FnExactFitPositionsSaid : Prop := fnExactFitPositionsRow.holds Try.pinned (OpenSpec.ofChange fnExactFitPositionsSpec)

/-- ITS FALSE NEIGHBOUR: 'it returns false'. Refute it at one input. -/
def fnExactFitPositionsWrong : ChangeSpec := { name := "fnExactFitPositions", fn := fun _ => fun
  | [d1, d2] => { results := [.lit (.bool false)], args := [d1, d2] }
  | _ => none }
def FnExactFitPositionsWrongFalsely : Prop := fnExactFitPositionsRow.holds Try.pinned (OpenSpec.ofChange fnExactFitPositionsWrong)

/-- 'laws.FnExactBestFit': WHATEVER THE INPUT: true; the input reads as it did. -/
def fnExactBestFitSpec : ChangeSpec := { name := "fnExactBestFit", fn := fun _ => fun
  | [d1, d2] => { results := [.lit (.bool true)], args := [d1, d2] }
  | _ => none }
def fnExactBestFitRow : OpenClaim := { program := "ytkafmhgnbfofjaa", sum := "7117f705668a3b6e4adb37afbc420dac2720a90b6d4cfe1ad46a40538617a4f9", func := "loop.example/g00897/laws.FnExactBestFit", spec := "fnExactBestFit", apart := false }
def FnExactBestFitSaid : Prop := fnExactBestFitRow.holds Try.pinned (OpenSpec.ofChange fnExactBestFitSpec)

/-- ITS FALSE NEIGHBOUR: 'it returns false'. Refute it at one input. -/
def fnExactBestFitWrong : ChangeSpec := { name := "fnExactBestFit", fn := fun _ => fun
  | [d1, d2] => { results := [.lit (.bool false)], args := [d1, d2] }
  | _ => none }
def FnExactBestFitWrongFalsely : Prop := fnExactBestFitRow.holds Try.pinned (OpenSpec.ofChange fnExactBestFitWrong)

/-- 'laws.FnExactFormatFor': WHATEVER THE INPUT: true; the input reads as it did. -/
def fnExactFormatForSpec : ChangeSpec := { name := "fnExactFormatFor", fn := fun _ => fun
  | [d1, d2] => { results := [.lit (.bool true)], args := [d1, d2] }
  | _ => none }
def fnExactFormatForRow : OpenClaim := { program := "ytkafmhgnbfofjaa", sum := "7117f705668a3b6e4adb37afbc420dac2720a90b6d4cfe1ad46a40538617a4f9", func := "loop.example/g00897/laws.FnExactFormatFor", spec := "fnExactFormatFor", apart := false }
def FnExactFormatForSaid : Prop := fnExactFormatForRow.holds Try.pinned (OpenSpec.ofChange fnExactFormatForSpec)

/-- ITS FALSE NEIGHBOUR: 'it returns false'. Refute it at one input. -/
def fnExactFormatForWrong : ChangeSpec := { name := "fnExactFormatFor", fn := fun _ => fun
  | [d1, d2] => { results := [.lit (.bool false)], args := [d1, d2] }
  | _ => none }
def FnExactFormatForWrongFalsely : Prop := fnExactFormatForRow.holds Try.pinned (OpenSpec.ofChange fnExactFormatForWrong)

/-- 'laws.FnExactFreeRuns': WHATEVER THE INPUT: true; the input reads as it did. -/
def fnExactFreeRunsSpec : ChangeSpec := { name := "fnExactFreeRuns", fn := fun _ => fun
  | [d] => { results := [.lit (.bool true)], args := [d] }
  | _ => none }
def fnExactFreeRunsRow : OpenClaim := { program := "ytkafmhgnbfofjaa", sum := "7117f705668a3b6e4adb37afbc420dac2720a90b6d4cfe1ad46a40538617a4f9", func := "loop.example/g00897/laws.FnExactFreeRuns", spec := "fnExactFreeRuns", apart := false }
def FnExactFreeRunsSaid : Prop := fnExactFreeRunsRow.holds Try.pinned (OpenSpec.ofChange fnExactFreeRunsSpec)

/-- ITS FALSE NEIGHBOUR: 'it returns false'. Refute it at one input. -/
def fnExactFreeRunsWrong : ChangeSpec := { name := "fnExactFreeRuns", fn := fun _ => fun
  | [d] => { results := [.lit (.bool false)], args := [d] }
  | _ => none }
def FnExactFreeRunsWrongFalsely : Prop := fnExactFreeRunsRow.holds Try.pinned (OpenSpec.ofChange fnExactFreeRunsWrong)

/-- 'laws.FnExactSlotsFor': WHATEVER THE INPUT: true; the input reads as it did. -/
def fnExactSlotsForSpec : ChangeSpec := { name := "fnExactSlotsFor", fn := fun _ => fun
  | [d1, d2, d3] => { results := [.lit (.bool true)], args := [d1, d2, d3] }
  | _ => none }
def fnExactSlotsForRow : OpenClaim := { program := "ytkafmhgnbfofjaa", sum := "7117f705668a3b6e4adb37afbc420dac2720a90b6d4cfe1ad46a40538617a4f9", func := "loop.example/g00897/laws.FnExactSlotsFor", spec := "fnExactSlotsFor", apart := false }
def FnExactSlotsForSaid : Prop := fnExactSlotsForRow.holds Try.pinned (OpenSpec.ofChange fnExactSlotsForSpec)

/-- ITS FALSE NEIGHBOUR: 'it returns false'. Refute it at one input. -/
def fnExactSlotsForWrong : ChangeSpec := { name := "fnExactSlotsFor", fn := fun _ => fun
  | [d1, d2, d3] => { results := [.lit (.bool false)], args := [d1, d2, d3] }
  | _ => none }
def FnExactSlotsForWrongFalsely : Prop := fnExactSlotsForRow.holds Try.pinned (OpenSpec.ofChange fnExactSlotsForWrong)

/-- 'laws.FnExactSpectrumUse': WHATEVER THE INPUT: true; the input reads as it did. -/
def fnExactSpectrumUseSpec : ChangeSpec := { name := "fnExactSpectrumUse", fn := fun _ => fun
  | [d] => { results := [.lit (.bool true)], args := [d] }
  | _ => none }
def fnExactSpectrumUseRow : OpenClaim := { program := "ytkafmhgnbfofjaa", sum := "7117f705668a3b6e4adb37afbc420dac2720a90b6d4cfe1ad46a40538617a4f9", func := "loop.example/g00897/laws.FnExactSpectrumUse", spec := "fnExactSpectrumUse", apart := false }
def FnExactSpectrumUseSaid : Prop := fnExactSpectrumUseRow.holds Try.pinned (OpenSpec.ofChange fnExactSpectrumUseSpec)

/-- ITS FALSE NEIGHBOUR: 'it returns false'. Refute it at one input. -/
def fnExactSpectrumUseWrong : ChangeSpec := { name := "fnExactSpectrumUse", fn := fun _ => fun
  | [d] => { results := [.lit (.bool false)], args := [d] }
  | _ => none }
def FnExactSpectrumUseWrongFalsely : Prop := fnExactSpectrumUseRow.holds Try.pinned (OpenSpec.ofChange fnExactSpectrumUseWrong)

/-- 'laws.FnFormats': WHATEVER THE INPUT: true; the input reads as it did. -/
def fnFormatsSpec : ChangeSpec := { name := "fnFormats", fn := fun _ => fun
  | [d] => { results := [.lit (.bool true)], args := [d] }
  | _ => none }
def fnFormatsRow : OpenClaim := { program := "ytkafmhgnbfofjaa", sum := "7117f705668a3b6e4adb37afbc420dac2720a90b6d4cfe1ad46a40538617a4f9", func := "loop.example/g00897/laws.FnFormats", spec := "fnFormats", apart := false }
def FnFormatsSaid : Prop := fnFormatsRow.holds Try.pinned (OpenSpec.ofChange fnFormatsSpec)

/-- ITS FALSE NEIGHBOUR: 'it returns false'. Refute it at one input. -/
def fnFormatsWrong : ChangeSpec := { name := "fnFormats", fn := fun _ => fun
  | [d] => { results := [.lit (.bool false)], args := [d] }
  | _ => none }
def FnFormatsWrongFalsely : Prop := fnFormatsRow.holds Try.pinned (OpenSpec.ofChange fnFormatsWrong)

/-- 'laws.FnSpectrum': WHATEVER THE INPUT: true; the input reads as it did. -/
def fnSpectrumSpec : ChangeSpec := { name := "fnSpectrum", fn := fun _ => fun
  | [d] => { results := [.lit (.bool true)], args := [d] }
  | _ => none }
def fnSpectrumRow : OpenClaim := { program := "ytkafmhgnbfofjaa", sum := "7117f705668a3b6e4adb37afbc420dac2720a90b6d4cfe1ad46a40538617a4f9", func := "loop.example/g00897/laws.FnSpectrum", spec := "fnSpectrum", apart := false }
def FnSpectrumSaid : Prop := fnSpectrumRow.holds Try.pinned (OpenSpec.ofChange fnSpectrumSpec)

/-- ITS FALSE NEIGHBOUR: 'it returns false'. Refute it at one input. -/
def fnSpectrumWrong : ChangeSpec := { name := "fnSpectrum", fn := fun _ => fun
  | [d] => { results := [.lit (.bool false)], args := [d] }
  | _ => none }
def FnSpectrumWrongFalsely : Prop := fnSpectrumRow.holds Try.pinned (OpenSpec.ofChange fnSpectrumWrong)

/- THE SECOND FORM. 'bulk': how many values and letters a reading holds, each counted each time it is reached (what is shared counts as often as it is met; a slice's spare places count too). A statement '..UptoSaid' is the law's where the arguments, and the package variables that the reading takes, are together of bulk at most 1048576: NARROWER than '..Said'. Prove '..Said' where nothing that the law and all that it calls make is longer than what came in: it says more and counts as full. Else prove '..UptoSaid'. A law counts once. -/
mutual
def uptoBulk {H : Type} : DataW H → Nat
  | .lit (.string bytes) => bytes.length + 1
  | .lit _ => 1
  | .nil => 1
  | .ptr d => uptoBulk d + 1
  | .slice elems spare => uptoBulkAll elems + uptoBulkAll spare + 1
  | .agg parts => uptoBulkAll parts + 1
  | .iface _ d => uptoBulk d + 1
  | .map entries => uptoBulkEntries entries + 1
  | .held _ => 1
def uptoBulkAll {H : Type} : List (DataW H) → Nat
  | [] => 0
  | d :: r => uptoBulk d + uptoBulkAll r
def uptoBulkEntries {H : Type} : List (Lit × DataW H) → Nat
  | [] => 0
  | x :: r => uptoBulkEntry x + uptoBulkEntries r
def uptoBulkEntry {H : Type} : Lit × DataW H → Nat
  | (.string bytes, d) => bytes.length + uptoBulk d + 1
  | (_, d) => uptoBulk d + 1
 end
def uptoSmall : (H : Type) → List (DataW H) → Bool := fun _ ds => decide (uptoBulkAll ds ≤ 1048576)
def OpenSpec.upto (s : _root_.Go.ChangeSpec) : _root_.Go.OpenSpec := { _root_.Go.OpenSpec.ofChange s with cond := some uptoSmall }

/-- 'laws.FnExactIsValidBlock', WHERE WHAT IT READS IS OF BULK AT MOST 1048576: true; the input reads as it did. -/
def fnExactIsValidBlockUptoRow : OpenClaim := { program := "ytkafmhgnbfofjaa", sum := "7117f705668a3b6e4adb37afbc420dac2720a90b6d4cfe1ad46a40538617a4f9", func := "loop.example/g00897/laws.FnExactIsValidBlock", spec := "fnExactIsValidBlock", apart := false, narrowed := true }
def FnExactIsValidBlockUptoSaid : Prop := fnExactIsValidBlockUptoRow.holds Try.pinned (OpenSpec.upto fnExactIsValidBlockSpec)

/-- 'laws.FnExactBlockMask', WHERE WHAT IT READS IS OF BULK AT MOST 1048576: true; the input reads as it did. -/
def fnExactBlockMaskUptoRow : OpenClaim := { program := "ytkafmhgnbfofjaa", sum := "7117f705668a3b6e4adb37afbc420dac2720a90b6d4cfe1ad46a40538617a4f9", func := "loop.example/g00897/laws.FnExactBlockMask", spec := "fnExactBlockMask", apart := false, narrowed := true }
def FnExactBlockMaskUptoSaid : Prop := fnExactBlockMaskUptoRow.holds Try.pinned (OpenSpec.upto fnExactBlockMaskSpec)

/-- 'laws.FnExactUnionMasks', WHERE WHAT IT READS IS OF BULK AT MOST 1048576: true; the input reads as it did. -/
def fnExactUnionMasksUptoRow : OpenClaim := { program := "ytkafmhgnbfofjaa", sum := "7117f705668a3b6e4adb37afbc420dac2720a90b6d4cfe1ad46a40538617a4f9", func := "loop.example/g00897/laws.FnExactUnionMasks", spec := "fnExactUnionMasks", apart := false, narrowed := true }
def FnExactUnionMasksUptoSaid : Prop := fnExactUnionMasksUptoRow.holds Try.pinned (OpenSpec.upto fnExactUnionMasksSpec)

/-- 'laws.FnExactFirstFit', WHERE WHAT IT READS IS OF BULK AT MOST 1048576: true; the input reads as it did. -/
def fnExactFirstFitUptoRow : OpenClaim := { program := "ytkafmhgnbfofjaa", sum := "7117f705668a3b6e4adb37afbc420dac2720a90b6d4cfe1ad46a40538617a4f9", func := "loop.example/g00897/laws.FnExactFirstFit", spec := "fnExactFirstFit", apart := false, narrowed := true }
def FnExactFirstFitUptoSaid : Prop := fnExactFirstFitUptoRow.holds Try.pinned (OpenSpec.upto fnExactFirstFitSpec)

/-- 'laws.FnExactLastFit', WHERE WHAT IT READS IS OF BULK AT MOST 1048576: true; the input reads as it did. -/
def fnExactLastFitUptoRow : OpenClaim := { program := "ytkafmhgnbfofjaa", sum := "7117f705668a3b6e4adb37afbc420dac2720a90b6d4cfe1ad46a40538617a4f9", func := "loop.example/g00897/laws.FnExactLastFit", spec := "fnExactLastFit", apart := false, narrowed := true }
def FnExactLastFitUptoSaid : Prop := fnExactLastFitUptoRow.holds Try.pinned (OpenSpec.upto fnExactLastFitSpec)

/-- 'laws.FnExactIsValidFormats', WHERE WHAT IT READS IS OF BULK AT MOST 1048576: true; the input reads as it did. -/
def fnExactIsValidFormatsUptoRow : OpenClaim := { program := "ytkafmhgnbfofjaa", sum := "7117f705668a3b6e4adb37afbc420dac2720a90b6d4cfe1ad46a40538617a4f9", func := "loop.example/g00897/laws.FnExactIsValidFormats", spec := "fnExactIsValidFormats", apart := false, narrowed := true }
def FnExactIsValidFormatsUptoSaid : Prop := fnExactIsValidFormatsUptoRow.holds Try.pinned (OpenSpec.upto fnExactIsValidFormatsSpec)

/-- 'laws.FnExactFitPositions', WHERE WHAT IT READS IS OF BULK AT MOST 1048576: true; the input reads as it did. -/
def fnExactFitPositionsUptoRow : OpenClaim := { program := "ytkafmhgnbfofjaa", sum := "7117f705668a3b6e4adb37afbc420dac2720a90b6d4cfe1ad46a40538617a4f9", func := "loop.example/g00897/laws.FnExactFitPositions", spec := "fnExactFitPositions", apart := false, narrowed := true }
def FnExactFitPositionsUptoSaid : Prop := fnExactFitPositionsUptoRow.holds Try.pinned (OpenSpec.upto fnExactFitPositionsSpec)

/-- 'laws.FnExactBestFit', WHERE WHAT IT READS IS OF BULK AT MOST 1048576: true; the input reads as it did. -/
def fnExactBestFitUptoRow : OpenClaim := { program := "ytkafmhgnbfofjaa", sum := "7117f705668a3b6e4adb37afbc420dac2720a90b6d4cfe1ad46a40538617a4f9", func := "loop.example/g00897/laws.FnExactBestFit", spec := "fnExactBestFit", apart := false, narrowed := true }
def FnExactBestFitUptoSaid : Prop := fnExactBestFitUptoRow.holds Try.pinned (OpenSpec.upto fnExactBestFitSpec)

/-- 'laws.FnExactFormatFor', WHERE WHAT IT READS IS OF BULK AT MOST 1048576: true; the input reads as it did. -/
def fnExactFormatForUptoRow : OpenClaim := { program := "ytkafmhgnbfofjaa", sum := "7117f705668a3b6e4adb37afbc420dac2720a90b6d4cfe1ad46a40538617a4f9", func := "loop.example/g00897/laws.FnExactFormatFor", spec := "fnExactFormatFor", apart := false, narrowed := true }
def FnExactFormatForUptoSaid : Prop := fnExactFormatForUptoRow.holds Try.pinned (OpenSpec.upto fnExactFormatForSpec)

/-- 'laws.FnExactFreeRuns', WHERE WHAT IT READS IS OF BULK AT MOST 1048576: true; the input reads as it did. -/
def fnExactFreeRunsUptoRow : OpenClaim := { program := "ytkafmhgnbfofjaa", sum := "7117f705668a3b6e4adb37afbc420dac2720a90b6d4cfe1ad46a40538617a4f9", func := "loop.example/g00897/laws.FnExactFreeRuns", spec := "fnExactFreeRuns", apart := false, narrowed := true }
def FnExactFreeRunsUptoSaid : Prop := fnExactFreeRunsUptoRow.holds Try.pinned (OpenSpec.upto fnExactFreeRunsSpec)

/-- 'laws.FnExactSlotsFor', WHERE WHAT IT READS IS OF BULK AT MOST 1048576: true; the input reads as it did. -/
def fnExactSlotsForUptoRow : OpenClaim := { program := "ytkafmhgnbfofjaa", sum := "7117f705668a3b6e4adb37afbc420dac2720a90b6d4cfe1ad46a40538617a4f9", func := "loop.example/g00897/laws.FnExactSlotsFor", spec := "fnExactSlotsFor", apart := false, narrowed := true }
def FnExactSlotsForUptoSaid : Prop := fnExactSlotsForUptoRow.holds Try.pinned (OpenSpec.upto fnExactSlotsForSpec)

/-- 'laws.FnExactSpectrumUse', WHERE WHAT IT READS IS OF BULK AT MOST 1048576: true; the input reads as it did. -/
def fnExactSpectrumUseUptoRow : OpenClaim := { program := "ytkafmhgnbfofjaa", sum := "7117f705668a3b6e4adb37afbc420dac2720a90b6d4cfe1ad46a40538617a4f9", func := "loop.example/g00897/laws.FnExactSpectrumUse", spec := "fnExactSpectrumUse", apart := false, narrowed := true }
def FnExactSpectrumUseUptoSaid : Prop := fnExactSpectrumUseUptoRow.holds Try.pinned (OpenSpec.upto fnExactSpectrumUseSpec)

/-- 'laws.FnFormats', WHERE WHAT IT READS IS OF BULK AT MOST 1048576: true; the input reads as it did. -/
def fnFormatsUptoRow : OpenClaim := { program := "ytkafmhgnbfofjaa", sum := "7117f705668a3b6e4adb37afbc420dac2720a90b6d4cfe1ad46a40538617a4f9", func := "loop.example/g00897/laws.FnFormats", spec := "fnFormats", apart := false, narrowed := true }
def FnFormatsUptoSaid : Prop := fnFormatsUptoRow.holds Try.pinned (OpenSpec.upto fnFormatsSpec)

/-- 'laws.FnSpectrum', WHERE WHAT IT READS IS OF BULK AT MOST 1048576: true; the input reads as it did. -/
def fnSpectrumUptoRow : OpenClaim := { program := "ytkafmhgnbfofjaa", sum := "7117f705668a3b6e4adb37afbc420dac2720a90b6d4cfe1ad46a40538617a4f9", func := "loop.example/g00897/laws.FnSpectrum", spec := "fnSpectrum", apart := false, narrowed := true }
def FnSpectrumUptoSaid : Prop := fnSpectrumUptoRow.holds Try.pinned (OpenSpec.upto fnSpectrumSpec)

end Rows
end Go.Proofs.Ytkafmhgnbfofjaa
