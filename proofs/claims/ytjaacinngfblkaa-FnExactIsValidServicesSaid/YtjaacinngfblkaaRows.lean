/-
  No cell of these rows narrows 'for every input' (looked for: loops, veiled, ifaces, maps, wideKeys, modest, calm, conditions, laid).
  DERIVED. THE GIVEN ROWS OF THIS SEAT. 4 by the template 'for every input the law returns true; each argument reads behind the call as it read before'; 0 by the template 'total and deterministic' (their statements: YtjaacinngfblkaaTotals.lean).
  GIVEN WITH THE SEED: the statements are not yours to turn. If you find one false, say at which input.
  Laid BY PROGRAM, IN A SANDBOX (cutbox-rows.mjs): the forced cells as the released guide's own fill.sh prints them over the translation 5d44d76b33419403… (all of the seat's roots in one cut). By AI agents, Wed Nov 11 2026. No macro, syntax, notation, axiom, sorry.
-/
import Derived.Test.YtjaacinngfblkaaChecked
import GoSem.Claim
import GoSem.ClaimJoined
import GoSem.ClaimMapViews
import Derived.JoinedTies
import Derived.KernelRfl
namespace Go.Proofs.Ytjaacinngfblkaa
/- THE CELL 'sum', in the pinned program and in every row, IS THE sha256 OF THE DUMP (.gsa) THAT YtjaacinngfblkaaProg.lean LOADS. Nothing in Lean hashes anything: it is a label: what it is worth is what the hold of that sum in a sandbox is worth. -/
noncomputable def Try.pinned : Pinned := { name := "ytjaacinngfblkaa", sum := "5d44d76b334194034355f581497146b2e65c3b72737ad214ec5253130252f456", checked := Try.checked }
namespace Rows
def none {H : Type} : Left H := { results := [], args := [] }

/-- 'laws.FnExactIsValidServices': WHATEVER THE INPUT: true; the input reads as it did. -/
def fnExactIsValidServicesSpec : ChangeSpec := { name := "fnExactIsValidServices", fn := fun _ => fun
  | [d1, d2] => { results := [.lit (.bool true)], args := [d1, d2] }
  | _ => none }
def fnExactIsValidServicesRow : OpenClaim := { program := "ytjaacinngfblkaa", sum := "5d44d76b334194034355f581497146b2e65c3b72737ad214ec5253130252f456", func := "loop.example/g00897/laws.FnExactIsValidServices", spec := "fnExactIsValidServices", unfollowed := true, recurses := true, apart := false }
def FnExactIsValidServicesSaid : Prop := fnExactIsValidServicesRow.holds Try.pinned (OpenSpec.ofChange fnExactIsValidServicesSpec)

/-- ITS FALSE NEIGHBOUR: 'it returns false'. Refute it at one input. -/
def fnExactIsValidServicesWrong : ChangeSpec := { name := "fnExactIsValidServices", fn := fun _ => fun
  | [d1, d2] => { results := [.lit (.bool false)], args := [d1, d2] }
  | _ => none }
def FnExactIsValidServicesWrongFalsely : Prop := fnExactIsValidServicesRow.holds Try.pinned (OpenSpec.ofChange fnExactIsValidServicesWrong)

/-- 'laws.FnExactOptimalityGap': WHATEVER THE INPUT: true; the input reads as it did. -/
def fnExactOptimalityGapSpec : ChangeSpec := { name := "fnExactOptimalityGap", fn := fun _ => fun
  | [d1, d2, d3] => { results := [.lit (.bool true)], args := [d1, d2, d3] }
  | _ => none }
def fnExactOptimalityGapRow : OpenClaim := { program := "ytjaacinngfblkaa", sum := "5d44d76b334194034355f581497146b2e65c3b72737ad214ec5253130252f456", func := "loop.example/g00897/laws.FnExactOptimalityGap", spec := "fnExactOptimalityGap", unfollowed := true, recurses := true, apart := false }
def FnExactOptimalityGapSaid : Prop := fnExactOptimalityGapRow.holds Try.pinned (OpenSpec.ofChange fnExactOptimalityGapSpec)

/-- ITS FALSE NEIGHBOUR: 'it returns false'. Refute it at one input. -/
def fnExactOptimalityGapWrong : ChangeSpec := { name := "fnExactOptimalityGap", fn := fun _ => fun
  | [d1, d2, d3] => { results := [.lit (.bool false)], args := [d1, d2, d3] }
  | _ => none }
def FnExactOptimalityGapWrongFalsely : Prop := fnExactOptimalityGapRow.holds Try.pinned (OpenSpec.ofChange fnExactOptimalityGapWrong)

/-- 'laws.FnExactCollidingLights': WHATEVER THE INPUT: true; the input reads as it did. -/
def fnExactCollidingLightsSpec : ChangeSpec := { name := "fnExactCollidingLights", fn := fun _ => fun
  | [d1, d2] => { results := [.lit (.bool true)], args := [d1, d2] }
  | _ => none }
def fnExactCollidingLightsRow : OpenClaim := { program := "ytjaacinngfblkaa", sum := "5d44d76b334194034355f581497146b2e65c3b72737ad214ec5253130252f456", func := "loop.example/g00897/laws.FnExactCollidingLights", spec := "fnExactCollidingLights", unfollowed := true, recurses := true, apart := false }
def FnExactCollidingLightsSaid : Prop := fnExactCollidingLightsRow.holds Try.pinned (OpenSpec.ofChange fnExactCollidingLightsSpec)

/-- ITS FALSE NEIGHBOUR: 'it returns false'. Refute it at one input. -/
def fnExactCollidingLightsWrong : ChangeSpec := { name := "fnExactCollidingLights", fn := fun _ => fun
  | [d1, d2] => { results := [.lit (.bool false)], args := [d1, d2] }
  | _ => none }
def FnExactCollidingLightsWrongFalsely : Prop := fnExactCollidingLightsRow.holds Try.pinned (OpenSpec.ofChange fnExactCollidingLightsWrong)

/-- 'laws.FnExactFiberMasks': WHATEVER THE INPUT: true; the input reads as it did. -/
def fnExactFiberMasksSpec : ChangeSpec := { name := "fnExactFiberMasks", fn := fun _ => fun
  | [d] => { results := [.lit (.bool true)], args := [d] }
  | _ => none }
def fnExactFiberMasksRow : OpenClaim := { program := "ytjaacinngfblkaa", sum := "5d44d76b334194034355f581497146b2e65c3b72737ad214ec5253130252f456", func := "loop.example/g00897/laws.FnExactFiberMasks", spec := "fnExactFiberMasks", unfollowed := true, recurses := true, apart := false }
def FnExactFiberMasksSaid : Prop := fnExactFiberMasksRow.holds Try.pinned (OpenSpec.ofChange fnExactFiberMasksSpec)

/-- ITS FALSE NEIGHBOUR: 'it returns false'. Refute it at one input. -/
def fnExactFiberMasksWrong : ChangeSpec := { name := "fnExactFiberMasks", fn := fun _ => fun
  | [d] => { results := [.lit (.bool false)], args := [d] }
  | _ => none }
def FnExactFiberMasksWrongFalsely : Prop := fnExactFiberMasksRow.holds Try.pinned (OpenSpec.ofChange fnExactFiberMasksWrong)

/- THE SECOND FORM. 'bulk': how many values and letters a reading holds, each counted each time it is reached (what is shared counts as often as it is met; a slice's spare places count too). A statement '..UptoSaid' is the law's where the arguments, and the package variables that the reading takes, are together of bulk at most 1048576: NARROWER than '..Said'. Prove '..Said' where nothing that the law and all that it calls make is longer than what came in: it says more and counts as full. Else prove '..UptoSaid'. A law counts once. -/
mutual
def uptoBulk {H : Type} : DataW H → Nat
  | .lit (.string bytes) => bytes.length + 1
  | .lit _ => 1
  | .nil => 1
  | .ptr d => uptoBulk d + 1
  | .slice elems spare => uptoBulkAll elems + uptoBulkAll spare + 1
  | .agg parts => uptoBulkAll parts + 1
  | .iface _ d => uptoBulk d + 1
  | .map entries => uptoBulkEntries entries + 1
  | .held _ => 1
def uptoBulkAll {H : Type} : List (DataW H) → Nat
  | [] => 0
  | d :: r => uptoBulk d + uptoBulkAll r
def uptoBulkEntries {H : Type} : List (Lit × DataW H) → Nat
  | [] => 0
  | x :: r => uptoBulkEntry x + uptoBulkEntries r
def uptoBulkEntry {H : Type} : Lit × DataW H → Nat
  | (.string bytes, d) => bytes.length + uptoBulk d + 1
  | (_, d) => uptoBulk d + 1
 end
def uptoSmall : (H : Type) → List (DataW H) → Bool := fun _ ds => decide (uptoBulkAll ds ≤ 1048576)
def OpenSpec.upto (s : _root_.Go.ChangeSpec) : _root_.Go.OpenSpec := { _root_.Go.OpenSpec.ofChange s with cond := some uptoSmall }

/-- 'laws.FnExactIsValidServices', WHERE WHAT IT READS IS OF BULK AT MOST 1048576: true; the input reads as it did. -/
def fnExactIsValidServicesUptoRow : OpenClaim := { program := "ytjaacinngfblkaa", sum := "5d44d76b334194034355f581497146b2e65c3b72737ad214ec5253130252f456", func := "loop.example/g00897/laws.FnExactIsValidServices", spec := "fnExactIsValidServices", unfollowed := true, recurses := true, apart := false, narrowed := true }
def FnExactIsValidServicesUptoSaid : Prop := fnExactIsValidServicesUptoRow.holds Try.pinned (OpenSpec.upto fnExactIsValidServicesSpec)

/-- 'laws.FnExactOptimalityGap', WHERE WHAT IT READS IS OF BULK AT MOST 1048576: true; the input reads as it did. -/
def fnExactOptimalityGapUptoRow : OpenClaim := { program := "ytjaacinngfblkaa", sum := "5d44d76b334194034355f581497146b2e65c3b72737ad214ec5253130252f456", func := "loop.example/g00897/laws.FnExactOptimalityGap", spec := "fnExactOptimalityGap", unfollowed := true, recurses := true, apart := false, narrowed := true }
def FnExactOptimalityGapUptoSaid : Prop := fnExactOptimalityGapUptoRow.holds Try.pinned (OpenSpec.upto fnExactOptimalityGapSpec)

/-- 'laws.FnExactCollidingLights', WHERE WHAT IT READS IS OF BULK AT MOST 1048576: true; the input reads as it did. -/
def fnExactCollidingLightsUptoRow : OpenClaim := { program := "ytjaacinngfblkaa", sum := "5d44d76b334194034355f581497146b2e65c3b72737ad214ec5253130252f456", func := "loop.example/g00897/laws.FnExactCollidingLights", spec := "fnExactCollidingLights", unfollowed := true, recurses := true, apart := false, narrowed := true }
def FnExactCollidingLightsUptoSaid : Prop := fnExactCollidingLightsUptoRow.holds Try.pinned (OpenSpec.upto fnExactCollidingLightsSpec)

/-- 'laws.FnExactFiberMasks', WHERE WHAT IT READS IS OF BULK AT MOST 1048576: true; the input reads as it did. -/
def fnExactFiberMasksUptoRow : OpenClaim := { program := "ytjaacinngfblkaa", sum := "5d44d76b334194034355f581497146b2e65c3b72737ad214ec5253130252f456", func := "loop.example/g00897/laws.FnExactFiberMasks", spec := "fnExactFiberMasks", unfollowed := true, recurses := true, apart := false, narrowed := true }
def FnExactFiberMasksUptoSaid : Prop := fnExactFiberMasksUptoRow.holds Try.pinned (OpenSpec.upto fnExactFiberMasksSpec)

end Rows
end Go.Proofs.Ytjaacinngfblkaa
