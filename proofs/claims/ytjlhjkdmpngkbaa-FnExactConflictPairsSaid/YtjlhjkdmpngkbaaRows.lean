/-
  No cell of these rows narrows 'for every input' (looked for: loops, veiled, ifaces, maps, wideKeys, modest, calm, conditions, laid).
  DERIVED. THE GIVEN ROWS OF THIS SEAT. 12 by the template 'for every input the law returns true; each argument reads behind the call as it read before'; 0 by the template 'total and deterministic' (their statements: YtjlhjkdmpngkbaaTotals.lean).
  GIVEN WITH THE SEED: the statements are not yours to turn. If you find one false, say at which input.
  Laid BY PROGRAM, IN A SANDBOX (cutbox-rows.mjs): the forced cells as the released guide's own fill.sh prints them over the translation c6840e4a4b6dd77c… (all of the seat's roots in one cut). By AI agents, Wed Nov 11 2026. No macro, syntax, notation, axiom, sorry.
-/
import Derived.Test.YtjlhjkdmpngkbaaChecked
import GoSem.Claim
import GoSem.ClaimJoined
import GoSem.ClaimMapViews
import Derived.JoinedTies
import Derived.KernelRfl
namespace Go.Proofs.Ytjlhjkdmpngkbaa
/- THE CELL 'sum', in the pinned program and in every row, IS THE sha256 OF THE DUMP (.gsa) THAT YtjlhjkdmpngkbaaProg.lean LOADS. Nothing in Lean hashes anything: it is a label: what it is worth is what the hold of that sum in a sandbox is worth. -/
noncomputable def Try.pinned : Pinned := { name := "ytjlhjkdmpngkbaa", sum := "c6840e4a4b6dd77ca87543491e29068d5885d3ae23be9c186246221e2805b983", checked := Try.checked }
namespace Rows
def none {H : Type} : Left H := { results := [], args := [] }

/-- 'laws.FnExactIsValidDemands': WHATEVER THE INPUT: true; the input reads as it did. -/
def fnExactIsValidDemandsSpec : ChangeSpec := { name := "fnExactIsValidDemands", fn := fun _ => fun
  | [d1, d2] => { results := [.lit (.bool true)], args := [d1, d2] }
  | _ => none }
def fnExactIsValidDemandsRow : OpenClaim := { program := "ytjlhjkdmpngkbaa", sum := "c6840e4a4b6dd77ca87543491e29068d5885d3ae23be9c186246221e2805b983", func := "loop.example/g00897/laws.FnExactIsValidDemands", spec := "fnExactIsValidDemands", unfollowed := true, recurses := true, apart := false }
def FnExactIsValidDemandsSaid : Prop := fnExactIsValidDemandsRow.holds Try.pinned (OpenSpec.ofChange fnExactIsValidDemandsSpec)

/-- ITS FALSE NEIGHBOUR: 'it returns false'. Refute it at one input. -/
def fnExactIsValidDemandsWrong : ChangeSpec := { name := "fnExactIsValidDemands", fn := fun _ => fun
  | [d1, d2] => { results := [.lit (.bool false)], args := [d1, d2] }
  | _ => none }
def FnExactIsValidDemandsWrongFalsely : Prop := fnExactIsValidDemandsRow.holds Try.pinned (OpenSpec.ofChange fnExactIsValidDemandsWrong)

/-- 'laws.FnExactIsValidRequests': WHATEVER THE INPUT: true; the input reads as it did. -/
def fnExactIsValidRequestsSpec : ChangeSpec := { name := "fnExactIsValidRequests", fn := fun _ => fun
  | [d1, d2] => { results := [.lit (.bool true)], args := [d1, d2] }
  | _ => none }
def fnExactIsValidRequestsRow : OpenClaim := { program := "ytjlhjkdmpngkbaa", sum := "c6840e4a4b6dd77ca87543491e29068d5885d3ae23be9c186246221e2805b983", func := "loop.example/g00897/laws.FnExactIsValidRequests", spec := "fnExactIsValidRequests", unfollowed := true, recurses := true, apart := false }
def FnExactIsValidRequestsSaid : Prop := fnExactIsValidRequestsRow.holds Try.pinned (OpenSpec.ofChange fnExactIsValidRequestsSpec)

/-- ITS FALSE NEIGHBOUR: 'it returns false'. Refute it at one input. -/
def fnExactIsValidRequestsWrong : ChangeSpec := { name := "fnExactIsValidRequests", fn := fun _ => fun
  | [d1, d2] => { results := [.lit (.bool false)], args := [d1, d2] }
  | _ => none }
def FnExactIsValidRequestsWrongFalsely : Prop := fnExactIsValidRequestsRow.holds Try.pinned (OpenSpec.ofChange fnExactIsValidRequestsWrong)

/-- 'laws.FnExactTrafficBetween': WHATEVER THE INPUT: true; the input reads as it did. -/
def fnExactTrafficBetweenSpec : ChangeSpec := { name := "fnExactTrafficBetween", fn := fun _ => fun
  | [d1, d2] => { results := [.lit (.bool true)], args := [d1, d2] }
  | _ => none }
def fnExactTrafficBetweenRow : OpenClaim := { program := "ytjlhjkdmpngkbaa", sum := "c6840e4a4b6dd77ca87543491e29068d5885d3ae23be9c186246221e2805b983", func := "loop.example/g00897/laws.FnExactTrafficBetween", spec := "fnExactTrafficBetween", unfollowed := true, recurses := true, apart := false }
def FnExactTrafficBetweenSaid : Prop := fnExactTrafficBetweenRow.holds Try.pinned (OpenSpec.ofChange fnExactTrafficBetweenSpec)

/-- ITS FALSE NEIGHBOUR: 'it returns false'. Refute it at one input. -/
def fnExactTrafficBetweenWrong : ChangeSpec := { name := "fnExactTrafficBetween", fn := fun _ => fun
  | [d1, d2] => { results := [.lit (.bool false)], args := [d1, d2] }
  | _ => none }
def FnExactTrafficBetweenWrongFalsely : Prop := fnExactTrafficBetweenRow.holds Try.pinned (OpenSpec.ofChange fnExactTrafficBetweenWrong)

/-- 'laws.FnExactFiberBound': WHATEVER THE INPUT: true; the input reads as it did. -/
def fnExactFiberBoundSpec : ChangeSpec := { name := "fnExactFiberBound", fn := fun _ => fun
  | [d1, d2] => { results := [.lit (.bool true)], args := [d1, d2] }
  | _ => none }
def fnExactFiberBoundRow : OpenClaim := { program := "ytjlhjkdmpngkbaa", sum := "c6840e4a4b6dd77ca87543491e29068d5885d3ae23be9c186246221e2805b983", func := "loop.example/g00897/laws.FnExactFiberBound", spec := "fnExactFiberBound", unfollowed := true, recurses := true, apart := false }
def FnExactFiberBoundSaid : Prop := fnExactFiberBoundRow.holds Try.pinned (OpenSpec.ofChange fnExactFiberBoundSpec)

/-- ITS FALSE NEIGHBOUR: 'it returns false'. Refute it at one input. -/
def fnExactFiberBoundWrong : ChangeSpec := { name := "fnExactFiberBound", fn := fun _ => fun
  | [d1, d2] => { results := [.lit (.bool false)], args := [d1, d2] }
  | _ => none }
def FnExactFiberBoundWrongFalsely : Prop := fnExactFiberBoundRow.holds Try.pinned (OpenSpec.ofChange fnExactFiberBoundWrong)

/-- 'laws.FnExactIsValidPlan': WHATEVER THE INPUT: true; the input reads as it did. -/
def fnExactIsValidPlanSpec : ChangeSpec := { name := "fnExactIsValidPlan", fn := fun _ => fun
  | [d] => { results := [.lit (.bool true)], args := [d] }
  | _ => none }
def fnExactIsValidPlanRow : OpenClaim := { program := "ytjlhjkdmpngkbaa", sum := "c6840e4a4b6dd77ca87543491e29068d5885d3ae23be9c186246221e2805b983", func := "loop.example/g00897/laws.FnExactIsValidPlan", spec := "fnExactIsValidPlan", unfollowed := true, recurses := true, apart := false }
def FnExactIsValidPlanSaid : Prop := fnExactIsValidPlanRow.holds Try.pinned (OpenSpec.ofChange fnExactIsValidPlanSpec)

/-- ITS FALSE NEIGHBOUR: 'it returns false'. Refute it at one input. -/
def fnExactIsValidPlanWrong : ChangeSpec := { name := "fnExactIsValidPlan", fn := fun _ => fun
  | [d] => { results := [.lit (.bool false)], args := [d] }
  | _ => none }
def FnExactIsValidPlanWrongFalsely : Prop := fnExactIsValidPlanRow.holds Try.pinned (OpenSpec.ofChange fnExactIsValidPlanWrong)

/-- 'laws.FnExactLightNumber': WHATEVER THE INPUT: true; the input reads as it did. -/
def fnExactLightNumberSpec : ChangeSpec := { name := "fnExactLightNumber", fn := fun _ => fun
  | [d1, d2] => { results := [.lit (.bool true)], args := [d1, d2] }
  | _ => none }
def fnExactLightNumberRow : OpenClaim := { program := "ytjlhjkdmpngkbaa", sum := "c6840e4a4b6dd77ca87543491e29068d5885d3ae23be9c186246221e2805b983", func := "loop.example/g00897/laws.FnExactLightNumber", spec := "fnExactLightNumber", unfollowed := true, recurses := true, apart := false }
def FnExactLightNumberSaid : Prop := fnExactLightNumberRow.holds Try.pinned (OpenSpec.ofChange fnExactLightNumberSpec)

/-- ITS FALSE NEIGHBOUR: 'it returns false'. Refute it at one input. -/
def fnExactLightNumberWrong : ChangeSpec := { name := "fnExactLightNumber", fn := fun _ => fun
  | [d1, d2] => { results := [.lit (.bool false)], args := [d1, d2] }
  | _ => none }
def FnExactLightNumberWrongFalsely : Prop := fnExactLightNumberRow.holds Try.pinned (OpenSpec.ofChange fnExactLightNumberWrong)

/-- 'laws.FnExactAreCompatible': WHATEVER THE INPUT: true; the input reads as it did. -/
def fnExactAreCompatibleSpec : ChangeSpec := { name := "fnExactAreCompatible", fn := fun _ => fun
  | [d1, d2, d3] => { results := [.lit (.bool true)], args := [d1, d2, d3] }
  | _ => none }
def fnExactAreCompatibleRow : OpenClaim := { program := "ytjlhjkdmpngkbaa", sum := "c6840e4a4b6dd77ca87543491e29068d5885d3ae23be9c186246221e2805b983", func := "loop.example/g00897/laws.FnExactAreCompatible", spec := "fnExactAreCompatible", unfollowed := true, recurses := true, apart := false }
def FnExactAreCompatibleSaid : Prop := fnExactAreCompatibleRow.holds Try.pinned (OpenSpec.ofChange fnExactAreCompatibleSpec)

/-- ITS FALSE NEIGHBOUR: 'it returns false'. Refute it at one input. -/
def fnExactAreCompatibleWrong : ChangeSpec := { name := "fnExactAreCompatible", fn := fun _ => fun
  | [d1, d2, d3] => { results := [.lit (.bool false)], args := [d1, d2, d3] }
  | _ => none }
def FnExactAreCompatibleWrongFalsely : Prop := fnExactAreCompatibleRow.holds Try.pinned (OpenSpec.ofChange fnExactAreCompatibleWrong)

/-- 'laws.FnExactConflictPairs': WHATEVER THE INPUT: true; the input reads as it did. -/
def fnExactConflictPairsSpec : ChangeSpec := { name := "fnExactConflictPairs", fn := fun _ => fun
  | [d1, d2] => { results := [.lit (.bool true)], args := [d1, d2] }
  | _ => none }
def fnExactConflictPairsRow : OpenClaim := { program := "ytjlhjkdmpngkbaa", sum := "c6840e4a4b6dd77ca87543491e29068d5885d3ae23be9c186246221e2805b983", func := "loop.example/g00897/laws.FnExactConflictPairs", spec := "fnExactConflictPairs", unfollowed := true, recurses := true, apart := false }
def FnExactConflictPairsSaid : Prop := fnExactConflictPairsRow.holds Try.pinned (OpenSpec.ofChange fnExactConflictPairsSpec)

/-- ITS FALSE NEIGHBOUR: 'it returns false'. Refute it at one input. -/
def fnExactConflictPairsWrong : ChangeSpec := { name := "fnExactConflictPairs", fn := fun _ => fun
  | [d1, d2] => { results := [.lit (.bool false)], args := [d1, d2] }
  | _ => none }
def FnExactConflictPairsWrongFalsely : Prop := fnExactConflictPairsRow.holds Try.pinned (OpenSpec.ofChange fnExactConflictPairsWrong)

/-- 'laws.FnExactCheckAssignment': WHATEVER THE INPUT: true; the input reads as it did. -/
def fnExactCheckAssignmentSpec : ChangeSpec := { name := "fnExactCheckAssignment", fn := fun _ => fun
  | [d1, d2, d3] => { results := [.lit (.bool true)], args := [d1, d2, d3] }
  | _ => none }
def fnExactCheckAssignmentRow : OpenClaim := { program := "ytjlhjkdmpngkbaa", sum := "c6840e4a4b6dd77ca87543491e29068d5885d3ae23be9c186246221e2805b983", func := "loop.example/g00897/laws.FnExactCheckAssignment", spec := "fnExactCheckAssignment", unfollowed := true, recurses := true, apart := false }
def FnExactCheckAssignmentSaid : Prop := fnExactCheckAssignmentRow.holds Try.pinned (OpenSpec.ofChange fnExactCheckAssignmentSpec)

/-- ITS FALSE NEIGHBOUR: 'it returns false'. Refute it at one input. -/
def fnExactCheckAssignmentWrong : ChangeSpec := { name := "fnExactCheckAssignment", fn := fun _ => fun
  | [d1, d2, d3] => { results := [.lit (.bool false)], args := [d1, d2, d3] }
  | _ => none }
def FnExactCheckAssignmentWrongFalsely : Prop := fnExactCheckAssignmentRow.holds Try.pinned (OpenSpec.ofChange fnExactCheckAssignmentWrong)

/-- 'laws.FnExactRouteMask': WHATEVER THE INPUT: true; the input reads as it did. -/
def fnExactRouteMaskSpec : ChangeSpec := { name := "fnExactRouteMask", fn := fun _ => fun
  | [d1, d2] => { results := [.lit (.bool true)], args := [d1, d2] }
  | _ => none }
def fnExactRouteMaskRow : OpenClaim := { program := "ytjlhjkdmpngkbaa", sum := "c6840e4a4b6dd77ca87543491e29068d5885d3ae23be9c186246221e2805b983", func := "loop.example/g00897/laws.FnExactRouteMask", spec := "fnExactRouteMask", unfollowed := true, recurses := true, apart := false }
def FnExactRouteMaskSaid : Prop := fnExactRouteMaskRow.holds Try.pinned (OpenSpec.ofChange fnExactRouteMaskSpec)

/-- ITS FALSE NEIGHBOUR: 'it returns false'. Refute it at one input. -/
def fnExactRouteMaskWrong : ChangeSpec := { name := "fnExactRouteMask", fn := fun _ => fun
  | [d1, d2] => { results := [.lit (.bool false)], args := [d1, d2] }
  | _ => none }
def FnExactRouteMaskWrongFalsely : Prop := fnExactRouteMaskRow.holds Try.pinned (OpenSpec.ofChange fnExactRouteMaskWrong)

/-- 'laws.FnExactCliqueBound': WHATEVER THE INPUT: true; the input reads as it did. -/
def fnExactCliqueBoundSpec : ChangeSpec := { name := "fnExactCliqueBound", fn := fun _ => fun
  | [d1, d2] => { results := [.lit (.bool true)], args := [d1, d2] }
  | _ => none }
def fnExactCliqueBoundRow : OpenClaim := { program := "ytjlhjkdmpngkbaa", sum := "c6840e4a4b6dd77ca87543491e29068d5885d3ae23be9c186246221e2805b983", func := "loop.example/g00897/laws.FnExactCliqueBound", spec := "fnExactCliqueBound", unfollowed := true, recurses := true, apart := false }
def FnExactCliqueBoundSaid : Prop := fnExactCliqueBoundRow.holds Try.pinned (OpenSpec.ofChange fnExactCliqueBoundSpec)

/-- ITS FALSE NEIGHBOUR: 'it returns false'. Refute it at one input. -/
def fnExactCliqueBoundWrong : ChangeSpec := { name := "fnExactCliqueBound", fn := fun _ => fun
  | [d1, d2] => { results := [.lit (.bool false)], args := [d1, d2] }
  | _ => none }
def FnExactCliqueBoundWrongFalsely : Prop := fnExactCliqueBoundRow.holds Try.pinned (OpenSpec.ofChange fnExactCliqueBoundWrong)

/-- 'laws.FnExactPlanUse': WHATEVER THE INPUT: true; the input reads as it did. -/
def fnExactPlanUseSpec : ChangeSpec := { name := "fnExactPlanUse", fn := fun _ => fun
  | [d] => { results := [.lit (.bool true)], args := [d] }
  | _ => none }
def fnExactPlanUseRow : OpenClaim := { program := "ytjlhjkdmpngkbaa", sum := "c6840e4a4b6dd77ca87543491e29068d5885d3ae23be9c186246221e2805b983", func := "loop.example/g00897/laws.FnExactPlanUse", spec := "fnExactPlanUse", unfollowed := true, recurses := true, apart := false }
def FnExactPlanUseSaid : Prop := fnExactPlanUseRow.holds Try.pinned (OpenSpec.ofChange fnExactPlanUseSpec)

/-- ITS FALSE NEIGHBOUR: 'it returns false'. Refute it at one input. -/
def fnExactPlanUseWrong : ChangeSpec := { name := "fnExactPlanUse", fn := fun _ => fun
  | [d] => { results := [.lit (.bool false)], args := [d] }
  | _ => none }
def FnExactPlanUseWrongFalsely : Prop := fnExactPlanUseRow.holds Try.pinned (OpenSpec.ofChange fnExactPlanUseWrong)

/- THE SECOND FORM. 'bulk': how many values and letters a reading holds, each counted each time it is reached (what is shared counts as often as it is met; a slice's spare places count too). A statement '..UptoSaid' is the law's where the arguments, and the package variables that the reading takes, are together of bulk at most 1048576: NARROWER than '..Said'. Prove '..Said' where nothing that the law and all that it calls make is longer than what came in: it says more and counts as full. Else prove '..UptoSaid'. A law counts once. -/
mutual
def uptoBulk {H : Type} : DataW H → Nat
  | .lit (.string bytes) => bytes.length + 1
  | .lit _ => 1
  | .nil => 1
  | .ptr d => uptoBulk d + 1
  | .slice elems spare => uptoBulkAll elems + uptoBulkAll spare + 1
  | .agg parts => uptoBulkAll parts + 1
  | .iface _ d => uptoBulk d + 1
  | .map entries => uptoBulkEntries entries + 1
  | .held _ => 1
def uptoBulkAll {H : Type} : List (DataW H) → Nat
  | [] => 0
  | d :: r => uptoBulk d + uptoBulkAll r
def uptoBulkEntries {H : Type} : List (Lit × DataW H) → Nat
  | [] => 0
  | x :: r => uptoBulkEntry x + uptoBulkEntries r
def uptoBulkEntry {H : Type} : Lit × DataW H → Nat
  | (.string bytes, d) => bytes.length + uptoBulk d + 1
  | (_, d) => uptoBulk d + 1
 end
def uptoSmall : (H : Type) → List (DataW H) → Bool := fun _ ds => decide (uptoBulkAll ds ≤ 1048576)
def OpenSpec.upto (s : _root_.Go.ChangeSpec) : _root_.Go.OpenSpec := { _root_.Go.OpenSpec.ofChange s with cond := some uptoSmall }

/-- 'laws.FnExactIsValidDemands', WHERE WHAT IT READS IS OF BULK AT MOST 1048576: true; the input reads as it did. -/
def fnExactIsValidDemandsUptoRow : OpenClaim := { program := "ytjlhjkdmpngkbaa", sum := "c6840e4a4b6dd77ca87543491e29068d5885d3ae23be9c186246221e2805b983", func := "loop.example/g00897/laws.FnExactIsValidDemands", spec := "fnExactIsValidDemands", unfollowed := true, recurses := true, apart := false, narrowed := true }
def FnExactIsValidDemandsUptoSaid : Prop := fnExactIsValidDemandsUptoRow.holds Try.pinned (OpenSpec.upto fnExactIsValidDemandsSpec)

/-- 'laws.FnExactIsValidRequests', WHERE WHAT IT READS IS OF BULK AT MOST 1048576: true; the input reads as it did. -/
def fnExactIsValidRequestsUptoRow : OpenClaim := { program := "ytjlhjkdmpngkbaa", sum := "c6840e4a4b6dd77ca87543491e29068d5885d3ae23be9c186246221e2805b983", func := "loop.example/g00897/laws.FnExactIsValidRequests", spec := "fnExactIsValidRequests", unfollowed := true, recurses := true, apart := false, narrowed := true }
def FnExactIsValidRequestsUptoSaid : Prop := fnExactIsValidRequestsUptoRow.holds Try.pinned (OpenSpec.upto fnExactIsValidRequestsSpec)

/-- 'laws.FnExactTrafficBetween', WHERE WHAT IT READS IS OF BULK AT MOST 1048576: true; the input reads as it did. -/
def fnExactTrafficBetweenUptoRow : OpenClaim := { program := "ytjlhjkdmpngkbaa", sum := "c6840e4a4b6dd77ca87543491e29068d5885d3ae23be9c186246221e2805b983", func := "loop.example/g00897/laws.FnExactTrafficBetween", spec := "fnExactTrafficBetween", unfollowed := true, recurses := true, apart := false, narrowed := true }
def FnExactTrafficBetweenUptoSaid : Prop := fnExactTrafficBetweenUptoRow.holds Try.pinned (OpenSpec.upto fnExactTrafficBetweenSpec)

/-- 'laws.FnExactFiberBound', WHERE WHAT IT READS IS OF BULK AT MOST 1048576: true; the input reads as it did. -/
def fnExactFiberBoundUptoRow : OpenClaim := { program := "ytjlhjkdmpngkbaa", sum := "c6840e4a4b6dd77ca87543491e29068d5885d3ae23be9c186246221e2805b983", func := "loop.example/g00897/laws.FnExactFiberBound", spec := "fnExactFiberBound", unfollowed := true, recurses := true, apart := false, narrowed := true }
def FnExactFiberBoundUptoSaid : Prop := fnExactFiberBoundUptoRow.holds Try.pinned (OpenSpec.upto fnExactFiberBoundSpec)

/-- 'laws.FnExactIsValidPlan', WHERE WHAT IT READS IS OF BULK AT MOST 1048576: true; the input reads as it did. -/
def fnExactIsValidPlanUptoRow : OpenClaim := { program := "ytjlhjkdmpngkbaa", sum := "c6840e4a4b6dd77ca87543491e29068d5885d3ae23be9c186246221e2805b983", func := "loop.example/g00897/laws.FnExactIsValidPlan", spec := "fnExactIsValidPlan", unfollowed := true, recurses := true, apart := false, narrowed := true }
def FnExactIsValidPlanUptoSaid : Prop := fnExactIsValidPlanUptoRow.holds Try.pinned (OpenSpec.upto fnExactIsValidPlanSpec)

/-- 'laws.FnExactLightNumber', WHERE WHAT IT READS IS OF BULK AT MOST 1048576: true; the input reads as it did. -/
def fnExactLightNumberUptoRow : OpenClaim := { program := "ytjlhjkdmpngkbaa", sum := "c6840e4a4b6dd77ca87543491e29068d5885d3ae23be9c186246221e2805b983", func := "loop.example/g00897/laws.FnExactLightNumber", spec := "fnExactLightNumber", unfollowed := true, recurses := true, apart := false, narrowed := true }
def FnExactLightNumberUptoSaid : Prop := fnExactLightNumberUptoRow.holds Try.pinned (OpenSpec.upto fnExactLightNumberSpec)

/-- 'laws.FnExactAreCompatible', WHERE WHAT IT READS IS OF BULK AT MOST 1048576: true; the input reads as it did. -/
def fnExactAreCompatibleUptoRow : OpenClaim := { program := "ytjlhjkdmpngkbaa", sum := "c6840e4a4b6dd77ca87543491e29068d5885d3ae23be9c186246221e2805b983", func := "loop.example/g00897/laws.FnExactAreCompatible", spec := "fnExactAreCompatible", unfollowed := true, recurses := true, apart := false, narrowed := true }
def FnExactAreCompatibleUptoSaid : Prop := fnExactAreCompatibleUptoRow.holds Try.pinned (OpenSpec.upto fnExactAreCompatibleSpec)

/-- 'laws.FnExactConflictPairs', WHERE WHAT IT READS IS OF BULK AT MOST 1048576: true; the input reads as it did. -/
def fnExactConflictPairsUptoRow : OpenClaim := { program := "ytjlhjkdmpngkbaa", sum := "c6840e4a4b6dd77ca87543491e29068d5885d3ae23be9c186246221e2805b983", func := "loop.example/g00897/laws.FnExactConflictPairs", spec := "fnExactConflictPairs", unfollowed := true, recurses := true, apart := false, narrowed := true }
def FnExactConflictPairsUptoSaid : Prop := fnExactConflictPairsUptoRow.holds Try.pinned (OpenSpec.upto fnExactConflictPairsSpec)

/-- 'laws.FnExactCheckAssignment', WHERE WHAT IT READS IS OF BULK AT MOST 1048576: true; the input reads as it did. -/
def fnExactCheckAssignmentUptoRow : OpenClaim := { program := "ytjlhjkdmpngkbaa", sum := "c6840e4a4b6dd77ca87543491e29068d5885d3ae23be9c186246221e2805b983", func := "loop.example/g00897/laws.FnExactCheckAssignment", spec := "fnExactCheckAssignment", unfollowed := true, recurses := true, apart := false, narrowed := true }
def FnExactCheckAssignmentUptoSaid : Prop := fnExactCheckAssignmentUptoRow.holds Try.pinned (OpenSpec.upto fnExactCheckAssignmentSpec)

/-- 'laws.FnExactRouteMask', WHERE WHAT IT READS IS OF BULK AT MOST 1048576: true; the input reads as it did. -/
def fnExactRouteMaskUptoRow : OpenClaim := { program := "ytjlhjkdmpngkbaa", sum := "c6840e4a4b6dd77ca87543491e29068d5885d3ae23be9c186246221e2805b983", func := "loop.example/g00897/laws.FnExactRouteMask", spec := "fnExactRouteMask", unfollowed := true, recurses := true, apart := false, narrowed := true }
def FnExactRouteMaskUptoSaid : Prop := fnExactRouteMaskUptoRow.holds Try.pinned (OpenSpec.upto fnExactRouteMaskSpec)

/-- 'laws.FnExactCliqueBound', WHERE WHAT IT READS IS OF BULK AT MOST 1048576: true; the input reads as it did. -/
def fnExactCliqueBoundUptoRow : OpenClaim := { program := "ytjlhjkdmpngkbaa", sum := "c6840e4a4b6dd77ca87543491e29068d5885d3ae23be9c186246221e2805b983", func := "loop.example/g00897/laws.FnExactCliqueBound", spec := "fnExactCliqueBound", unfollowed := true, recurses := true, apart := false, narrowed := true }
def FnExactCliqueBoundUptoSaid : Prop := fnExactCliqueBoundUptoRow.holds Try.pinned (OpenSpec.upto fnExactCliqueBoundSpec)

/-- 'laws.FnExactPlanUse', WHERE WHAT IT READS IS OF BULK AT MOST 1048576: true; the input reads as it did. -/
def fnExactPlanUseUptoRow : OpenClaim := { program := "ytjlhjkdmpngkbaa", sum := "c6840e4a4b6dd77ca87543491e29068d5885d3ae23be9c186246221e2805b983", func := "loop.example/g00897/laws.FnExactPlanUse", spec := "fnExactPlanUse", unfollowed := true, recurses := true, apart := false, narrowed := true }
def FnExactPlanUseUptoSaid : Prop := fnExactPlanUseUptoRow.holds Try.pinned (OpenSpec.upto fnExactPlanUseSpec)

end Rows
end Go.Proofs.Ytjlhjkdmpngkbaa
