/-
  No cell of these rows narrows 'for every input' (looked for: loops, veiled, ifaces, maps, wideKeys, modest, calm, conditions, laid).
  DERIVED. THE GIVEN ROWS OF THIS SEAT. 6 by the template 'for every input the law returns true; each argument reads behind the call as it read before'; 0 by the template 'total and deterministic' (their statements: YteckjlkhopkogaaGreatTotals.lean).
  GIVEN WITH THE SEED: the statements are not yours to turn. If you find one false, say at which input.
  Laid BY PROGRAM, IN A SANDBOX (cutbox-rows.mjs): the forced cells as the released guide's own fill.sh prints them over the translation af5e0f2a9857d01c… (all of the seat's roots in one cut). By AI agents, Wed Nov 11 2026. No macro, syntax, notation, axiom, sorry.
-/
import Derived.Test.YteckjlkhopkogaaGreatChecked
import GoSem.Claim
import GoSem.ClaimJoined
import GoSem.ClaimMapViews
import Derived.JoinedTies
import Derived.KernelRfl
namespace Go.Proofs.YteckjlkhopkogaaGreat
/- THE CELL 'sum', in the pinned program and in every row, IS THE sha256 OF THE DUMP (.gsa) THAT YteckjlkhopkogaaGreatProg.lean LOADS. Nothing in Lean hashes anything: it is a label: what it is worth is what the hold of that sum in a sandbox is worth. -/
noncomputable def Tryz.pinned : Pinned := { name := "yteckjlkhopkogaagreat", sum := "af5e0f2a9857d01c63918861e4408b1e7263e07ef0c84ef88ee806177fd78b7a", checked := Tryz.checked }
namespace Rows
def none {H : Type} : Left H := { results := [], args := [] }

/-- 'laws.FnExactReleaseAll': WHATEVER THE INPUT: true; the input reads as it did. -/
def fnExactReleaseAllSpec : ChangeSpec := { name := "fnExactReleaseAll", fn := fun _ => fun
  | [d] => { results := [.lit (.bool true)], args := [d] }
  | _ => none }
def fnExactReleaseAllRow : OpenClaim := { program := "yteckjlkhopkogaagreat", sum := "af5e0f2a9857d01c63918861e4408b1e7263e07ef0c84ef88ee806177fd78b7a", func := "loop.example/g00897/laws.FnExactReleaseAll", spec := "fnExactReleaseAll", unfollowed := true, recurses := true, apart := false }
def FnExactReleaseAllSaid : Prop := fnExactReleaseAllRow.holds Tryz.pinned (OpenSpec.ofChange fnExactReleaseAllSpec)

/-- ITS FALSE NEIGHBOUR: 'it returns false'. Refute it at one input. -/
def fnExactReleaseAllWrong : ChangeSpec := { name := "fnExactReleaseAll", fn := fun _ => fun
  | [d] => { results := [.lit (.bool false)], args := [d] }
  | _ => none }
def FnExactReleaseAllWrongFalsely : Prop := fnExactReleaseAllRow.holds Tryz.pinned (OpenSpec.ofChange fnExactReleaseAllWrong)

/-- 'laws.FnExactRouteChoices': WHATEVER THE INPUT: true; the input reads as it did. -/
def fnExactRouteChoicesSpec : ChangeSpec := { name := "fnExactRouteChoices", fn := fun _ => fun
  | [d1, d2, d3] => { results := [.lit (.bool true)], args := [d1, d2, d3] }
  | _ => none }
def fnExactRouteChoicesRow : OpenClaim := { program := "yteckjlkhopkogaagreat", sum := "af5e0f2a9857d01c63918861e4408b1e7263e07ef0c84ef88ee806177fd78b7a", func := "loop.example/g00897/laws.FnExactRouteChoices", spec := "fnExactRouteChoices", unfollowed := true, recurses := true, apart := false }
def FnExactRouteChoicesSaid : Prop := fnExactRouteChoicesRow.holds Tryz.pinned (OpenSpec.ofChange fnExactRouteChoicesSpec)

/-- ITS FALSE NEIGHBOUR: 'it returns false'. Refute it at one input. -/
def fnExactRouteChoicesWrong : ChangeSpec := { name := "fnExactRouteChoices", fn := fun _ => fun
  | [d1, d2, d3] => { results := [.lit (.bool false)], args := [d1, d2, d3] }
  | _ => none }
def FnExactRouteChoicesWrongFalsely : Prop := fnExactRouteChoicesRow.holds Tryz.pinned (OpenSpec.ofChange fnExactRouteChoicesWrong)

/-- 'laws.FnExactServeDemand': WHATEVER THE INPUT: true; the input reads as it did. -/
def fnExactServeDemandSpec : ChangeSpec := { name := "fnExactServeDemand", fn := fun _ => fun
  | [d1, d2, d3, d4] => { results := [.lit (.bool true)], args := [d1, d2, d3, d4] }
  | _ => none }
def fnExactServeDemandRow : OpenClaim := { program := "yteckjlkhopkogaagreat", sum := "af5e0f2a9857d01c63918861e4408b1e7263e07ef0c84ef88ee806177fd78b7a", func := "loop.example/g00897/laws.FnExactServeDemand", spec := "fnExactServeDemand", inPlace := ["slices.overlaps[loop.example/g00897/impl.Light]"], unfollowed := true, recurses := true, apart := false }
def FnExactServeDemandSaid : Prop := fnExactServeDemandRow.holds Tryz.pinned (OpenSpec.ofChange fnExactServeDemandSpec)

/-- ITS FALSE NEIGHBOUR: 'it returns false'. Refute it at one input. -/
def fnExactServeDemandWrong : ChangeSpec := { name := "fnExactServeDemand", fn := fun _ => fun
  | [d1, d2, d3, d4] => { results := [.lit (.bool false)], args := [d1, d2, d3, d4] }
  | _ => none }
def FnExactServeDemandWrongFalsely : Prop := fnExactServeDemandRow.holds Tryz.pinned (OpenSpec.ofChange fnExactServeDemandWrong)

/-- 'laws.FnExactServeAll': WHATEVER THE INPUT: true; the input reads as it did. -/
def fnExactServeAllSpec : ChangeSpec := { name := "fnExactServeAll", fn := fun _ => fun
  | [d1, d2, d3, d4] => { results := [.lit (.bool true)], args := [d1, d2, d3, d4] }
  | _ => none }
def fnExactServeAllRow : OpenClaim := { program := "yteckjlkhopkogaagreat", sum := "af5e0f2a9857d01c63918861e4408b1e7263e07ef0c84ef88ee806177fd78b7a", func := "loop.example/g00897/laws.FnExactServeAll", spec := "fnExactServeAll", inPlace := ["slices.overlaps[loop.example/g00897/impl.Light]"], unfollowed := true, recurses := true, apart := false }
def FnExactServeAllSaid : Prop := fnExactServeAllRow.holds Tryz.pinned (OpenSpec.ofChange fnExactServeAllSpec)

/-- ITS FALSE NEIGHBOUR: 'it returns false'. Refute it at one input. -/
def fnExactServeAllWrong : ChangeSpec := { name := "fnExactServeAll", fn := fun _ => fun
  | [d1, d2, d3, d4] => { results := [.lit (.bool false)], args := [d1, d2, d3, d4] }
  | _ => none }
def FnExactServeAllWrongFalsely : Prop := fnExactServeAllRow.holds Tryz.pinned (OpenSpec.ofChange fnExactServeAllWrong)

/-- 'laws.FnExactServeInOrder': WHATEVER THE INPUT: true; the input reads as it did. -/
def fnExactServeInOrderSpec : ChangeSpec := { name := "fnExactServeInOrder", fn := fun _ => fun
  | [d1, d2, d3, d4] => { results := [.lit (.bool true)], args := [d1, d2, d3, d4] }
  | _ => none }
def fnExactServeInOrderRow : OpenClaim := { program := "yteckjlkhopkogaagreat", sum := "af5e0f2a9857d01c63918861e4408b1e7263e07ef0c84ef88ee806177fd78b7a", func := "loop.example/g00897/laws.FnExactServeInOrder", spec := "fnExactServeInOrder", inPlace := ["slices.overlaps[loop.example/g00897/impl.Light]"], unfollowed := true, recurses := true, apart := false }
def FnExactServeInOrderSaid : Prop := fnExactServeInOrderRow.holds Tryz.pinned (OpenSpec.ofChange fnExactServeInOrderSpec)

/-- ITS FALSE NEIGHBOUR: 'it returns false'. Refute it at one input. -/
def fnExactServeInOrderWrong : ChangeSpec := { name := "fnExactServeInOrder", fn := fun _ => fun
  | [d1, d2, d3, d4] => { results := [.lit (.bool false)], args := [d1, d2, d3, d4] }
  | _ => none }
def FnExactServeInOrderWrongFalsely : Prop := fnExactServeInOrderRow.holds Tryz.pinned (OpenSpec.ofChange fnExactServeInOrderWrong)

/-- 'laws.FnExactBestRule': WHATEVER THE INPUT: true; the input reads as it did. -/
def fnExactBestRuleSpec : ChangeSpec := { name := "fnExactBestRule", fn := fun _ => fun
  | [d1, d2, d3] => { results := [.lit (.bool true)], args := [d1, d2, d3] }
  | _ => none }
def fnExactBestRuleRow : OpenClaim := { program := "yteckjlkhopkogaagreat", sum := "af5e0f2a9857d01c63918861e4408b1e7263e07ef0c84ef88ee806177fd78b7a", func := "loop.example/g00897/laws.FnExactBestRule", spec := "fnExactBestRule", inPlace := ["slices.overlaps[loop.example/g00897/impl.Light]"], unfollowed := true, recurses := true, apart := false }
def FnExactBestRuleSaid : Prop := fnExactBestRuleRow.holds Tryz.pinned (OpenSpec.ofChange fnExactBestRuleSpec)

/-- ITS FALSE NEIGHBOUR: 'it returns false'. Refute it at one input. -/
def fnExactBestRuleWrong : ChangeSpec := { name := "fnExactBestRule", fn := fun _ => fun
  | [d1, d2, d3] => { results := [.lit (.bool false)], args := [d1, d2, d3] }
  | _ => none }
def FnExactBestRuleWrongFalsely : Prop := fnExactBestRuleRow.holds Tryz.pinned (OpenSpec.ofChange fnExactBestRuleWrong)

/- THE SECOND FORM. 'bulk': how many values and letters a reading holds, each counted each time it is reached (what is shared counts as often as it is met; a slice's spare places count too). A statement '..UptoSaid' is the law's where the arguments, and the package variables that the reading takes, are together of bulk at most 1048576: NARROWER than '..Said'. Prove '..Said' where nothing that the law and all that it calls make is longer than what came in: it says more and counts as full. Else prove '..UptoSaid'. A law counts once. -/
mutual
def uptoBulk {H : Type} : DataW H → Nat
  | .lit (.string bytes) => bytes.length + 1
  | .lit _ => 1
  | .nil => 1
  | .ptr d => uptoBulk d + 1
  | .slice elems spare => uptoBulkAll elems + uptoBulkAll spare + 1
  | .agg parts => uptoBulkAll parts + 1
  | .iface _ d => uptoBulk d + 1
  | .map entries => uptoBulkEntries entries + 1
  | .held _ => 1
def uptoBulkAll {H : Type} : List (DataW H) → Nat
  | [] => 0
  | d :: r => uptoBulk d + uptoBulkAll r
def uptoBulkEntries {H : Type} : List (Lit × DataW H) → Nat
  | [] => 0
  | x :: r => uptoBulkEntry x + uptoBulkEntries r
def uptoBulkEntry {H : Type} : Lit × DataW H → Nat
  | (.string bytes, d) => bytes.length + uptoBulk d + 1
  | (_, d) => uptoBulk d + 1
 end
def uptoSmall : (H : Type) → List (DataW H) → Bool := fun _ ds => decide (uptoBulkAll ds ≤ 1048576)
def OpenSpec.upto (s : _root_.Go.ChangeSpec) : _root_.Go.OpenSpec := { _root_.Go.OpenSpec.ofChange s with cond := some uptoSmall }

/-- 'laws.FnExactReleaseAll', WHERE WHAT IT READS IS OF BULK AT MOST 1048576: true; the input reads as it did. -/
def fnExactReleaseAllUptoRow : OpenClaim := { program := "yteckjlkhopkogaagreat", sum := "af5e0f2a9857d01c63918861e4408b1e7263e07ef0c84ef88ee806177fd78b7a", func := "loop.example/g00897/laws.FnExactReleaseAll", spec := "fnExactReleaseAll", unfollowed := true, recurses := true, apart := false, narrowed := true }
def FnExactReleaseAllUptoSaid : Prop := fnExactReleaseAllUptoRow.holds Tryz.pinned (OpenSpec.upto fnExactReleaseAllSpec)

/-- 'laws.FnExactRouteChoices', WHERE WHAT IT READS IS OF BULK AT MOST 1048576: true; the input reads as it did. -/
def fnExactRouteChoicesUptoRow : OpenClaim := { program := "yteckjlkhopkogaagreat", sum := "af5e0f2a9857d01c63918861e4408b1e7263e07ef0c84ef88ee806177fd78b7a", func := "loop.example/g00897/laws.FnExactRouteChoices", spec := "fnExactRouteChoices", unfollowed := true, recurses := true, apart := false, narrowed := true }
def FnExactRouteChoicesUptoSaid : Prop := fnExactRouteChoicesUptoRow.holds Tryz.pinned (OpenSpec.upto fnExactRouteChoicesSpec)

/-- 'laws.FnExactServeDemand', WHERE WHAT IT READS IS OF BULK AT MOST 1048576: true; the input reads as it did. -/
def fnExactServeDemandUptoRow : OpenClaim := { program := "yteckjlkhopkogaagreat", sum := "af5e0f2a9857d01c63918861e4408b1e7263e07ef0c84ef88ee806177fd78b7a", func := "loop.example/g00897/laws.FnExactServeDemand", spec := "fnExactServeDemand", inPlace := ["slices.overlaps[loop.example/g00897/impl.Light]"], unfollowed := true, recurses := true, apart := false, narrowed := true }
def FnExactServeDemandUptoSaid : Prop := fnExactServeDemandUptoRow.holds Tryz.pinned (OpenSpec.upto fnExactServeDemandSpec)

/-- 'laws.FnExactServeAll', WHERE WHAT IT READS IS OF BULK AT MOST 1048576: true; the input reads as it did. -/
def fnExactServeAllUptoRow : OpenClaim := { program := "yteckjlkhopkogaagreat", sum := "af5e0f2a9857d01c63918861e4408b1e7263e07ef0c84ef88ee806177fd78b7a", func := "loop.example/g00897/laws.FnExactServeAll", spec := "fnExactServeAll", inPlace := ["slices.overlaps[loop.example/g00897/impl.Light]"], unfollowed := true, recurses := true, apart := false, narrowed := true }
def FnExactServeAllUptoSaid : Prop := fnExactServeAllUptoRow.holds Tryz.pinned (OpenSpec.upto fnExactServeAllSpec)

/-- 'laws.FnExactServeInOrder', WHERE WHAT IT READS IS OF BULK AT MOST 1048576: true; the input reads as it did. -/
def fnExactServeInOrderUptoRow : OpenClaim := { program := "yteckjlkhopkogaagreat", sum := "af5e0f2a9857d01c63918861e4408b1e7263e07ef0c84ef88ee806177fd78b7a", func := "loop.example/g00897/laws.FnExactServeInOrder", spec := "fnExactServeInOrder", inPlace := ["slices.overlaps[loop.example/g00897/impl.Light]"], unfollowed := true, recurses := true, apart := false, narrowed := true }
def FnExactServeInOrderUptoSaid : Prop := fnExactServeInOrderUptoRow.holds Tryz.pinned (OpenSpec.upto fnExactServeInOrderSpec)

/-- 'laws.FnExactBestRule', WHERE WHAT IT READS IS OF BULK AT MOST 1048576: true; the input reads as it did. -/
def fnExactBestRuleUptoRow : OpenClaim := { program := "yteckjlkhopkogaagreat", sum := "af5e0f2a9857d01c63918861e4408b1e7263e07ef0c84ef88ee806177fd78b7a", func := "loop.example/g00897/laws.FnExactBestRule", spec := "fnExactBestRule", inPlace := ["slices.overlaps[loop.example/g00897/impl.Light]"], unfollowed := true, recurses := true, apart := false, narrowed := true }
def FnExactBestRuleUptoSaid : Prop := fnExactBestRuleUptoRow.holds Tryz.pinned (OpenSpec.upto fnExactBestRuleSpec)

end Rows
end Go.Proofs.YteckjlkhopkogaaGreat
