/-
  No cell of these rows narrows 'for every input' (looked for: loops, veiled, ifaces, maps, wideKeys, modest, calm, conditions, laid).
  DERIVED. THE GIVEN ROWS OF THIS SEAT. 4 by the template 'for every input the law returns true; each argument reads behind the call as it read before'; 0 by the template 'total and deterministic' (their statements: YtlcppdbpajdnlaaGreatTotals.lean).
  GIVEN WITH THE SEED: the statements are not yours to turn. If you find one false, say at which input.
  Laid BY PROGRAM, IN A SANDBOX (cutbox-rows.mjs): the forced cells as the released guide's own fill.sh prints them over the translation 962da94c270acb30… (all of the seat's roots in one cut). By AI agents, Wed Nov 11 2026. No macro, syntax, notation, axiom, sorry.
-/
import Derived.Test.YtlcppdbpajdnlaaGreatChecked
import GoSem.Claim
import GoSem.ClaimJoined
import GoSem.ClaimMapViews
import Derived.JoinedTies
import Derived.KernelRfl
namespace Go.Proofs.YtlcppdbpajdnlaaGreat
/- THE CELL 'sum', in the pinned program and in every row, IS THE sha256 OF THE DUMP (.gsa) THAT YtlcppdbpajdnlaaGreatProg.lean LOADS. Nothing in Lean hashes anything: it is a label: what it is worth is what the hold of that sum in a sandbox is worth. -/
noncomputable def Tryz.pinned : Pinned := { name := "ytlcppdbpajdnlaagreat", sum := "962da94c270acb307d1bbcc20a0daf79c36cbe63348090b2f2b538444532d0d3", checked := Tryz.checked }
namespace Rows
def none {H : Type} : Left H := { results := [], args := [] }

/-- 'laws.FnExactUsableRoutes': WHATEVER THE INPUT: true; the input reads as it did. -/
def fnExactUsableRoutesSpec : ChangeSpec := { name := "fnExactUsableRoutes", fn := fun _ => fun
  | [d1, d2, d3] => { results := [.lit (.bool true)], args := [d1, d2, d3] }
  | _ => none }
def fnExactUsableRoutesRow : OpenClaim := { program := "ytlcppdbpajdnlaagreat", sum := "962da94c270acb307d1bbcc20a0daf79c36cbe63348090b2f2b538444532d0d3", func := "loop.example/g00897/laws.FnExactUsableRoutes", spec := "fnExactUsableRoutes", unfollowed := true, recurses := true, apart := false }
def FnExactUsableRoutesSaid : Prop := fnExactUsableRoutesRow.holds Tryz.pinned (OpenSpec.ofChange fnExactUsableRoutesSpec)

/-- ITS FALSE NEIGHBOUR: 'it returns false'. Refute it at one input. -/
def fnExactUsableRoutesWrong : ChangeSpec := { name := "fnExactUsableRoutes", fn := fun _ => fun
  | [d1, d2, d3] => { results := [.lit (.bool false)], args := [d1, d2, d3] }
  | _ => none }
def FnExactUsableRoutesWrongFalsely : Prop := fnExactUsableRoutesRow.holds Tryz.pinned (OpenSpec.ofChange fnExactUsableRoutesWrong)

/-- 'laws.FnExactCheapestRoute': WHATEVER THE INPUT: true; the input reads as it did. -/
def fnExactCheapestRouteSpec : ChangeSpec := { name := "fnExactCheapestRoute", fn := fun _ => fun
  | [d1, d2, d3] => { results := [.lit (.bool true)], args := [d1, d2, d3] }
  | _ => none }
def fnExactCheapestRouteRow : OpenClaim := { program := "ytlcppdbpajdnlaagreat", sum := "962da94c270acb307d1bbcc20a0daf79c36cbe63348090b2f2b538444532d0d3", func := "loop.example/g00897/laws.FnExactCheapestRoute", spec := "fnExactCheapestRoute", unfollowed := true, recurses := true, apart := false }
def FnExactCheapestRouteSaid : Prop := fnExactCheapestRouteRow.holds Tryz.pinned (OpenSpec.ofChange fnExactCheapestRouteSpec)

/-- ITS FALSE NEIGHBOUR: 'it returns false'. Refute it at one input. -/
def fnExactCheapestRouteWrong : ChangeSpec := { name := "fnExactCheapestRoute", fn := fun _ => fun
  | [d1, d2, d3] => { results := [.lit (.bool false)], args := [d1, d2, d3] }
  | _ => none }
def FnExactCheapestRouteWrongFalsely : Prop := fnExactCheapestRouteRow.holds Tryz.pinned (OpenSpec.ofChange fnExactCheapestRouteWrong)

/-- 'laws.FnExactCostBound': WHATEVER THE INPUT: true; the input reads as it did. -/
def fnExactCostBoundSpec : ChangeSpec := { name := "fnExactCostBound", fn := fun _ => fun
  | [d1, d2, d3] => { results := [.lit (.bool true)], args := [d1, d2, d3] }
  | _ => none }
def fnExactCostBoundRow : OpenClaim := { program := "ytlcppdbpajdnlaagreat", sum := "962da94c270acb307d1bbcc20a0daf79c36cbe63348090b2f2b538444532d0d3", func := "loop.example/g00897/laws.FnExactCostBound", spec := "fnExactCostBound", unfollowed := true, recurses := true, apart := false }
def FnExactCostBoundSaid : Prop := fnExactCostBoundRow.holds Tryz.pinned (OpenSpec.ofChange fnExactCostBoundSpec)

/-- ITS FALSE NEIGHBOUR: 'it returns false'. Refute it at one input. -/
def fnExactCostBoundWrong : ChangeSpec := { name := "fnExactCostBound", fn := fun _ => fun
  | [d1, d2, d3] => { results := [.lit (.bool false)], args := [d1, d2, d3] }
  | _ => none }
def FnExactCostBoundWrongFalsely : Prop := fnExactCostBoundRow.holds Tryz.pinned (OpenSpec.ofChange fnExactCostBoundWrong)

/-- 'laws.FnExactOrderDemands': WHATEVER THE INPUT: true; the input reads as it did. -/
def fnExactOrderDemandsSpec : ChangeSpec := { name := "fnExactOrderDemands", fn := fun _ => fun
  | [d1, d2, d3] => { results := [.lit (.bool true)], args := [d1, d2, d3] }
  | _ => none }
def fnExactOrderDemandsRow : OpenClaim := { program := "ytlcppdbpajdnlaagreat", sum := "962da94c270acb307d1bbcc20a0daf79c36cbe63348090b2f2b538444532d0d3", func := "loop.example/g00897/laws.FnExactOrderDemands", spec := "fnExactOrderDemands", unfollowed := true, recurses := true, apart := false }
def FnExactOrderDemandsSaid : Prop := fnExactOrderDemandsRow.holds Tryz.pinned (OpenSpec.ofChange fnExactOrderDemandsSpec)

/-- ITS FALSE NEIGHBOUR: 'it returns false'. Refute it at one input. -/
def fnExactOrderDemandsWrong : ChangeSpec := { name := "fnExactOrderDemands", fn := fun _ => fun
  | [d1, d2, d3] => { results := [.lit (.bool false)], args := [d1, d2, d3] }
  | _ => none }
def FnExactOrderDemandsWrongFalsely : Prop := fnExactOrderDemandsRow.holds Tryz.pinned (OpenSpec.ofChange fnExactOrderDemandsWrong)

/- THE SECOND FORM. 'bulk': how many values and letters a reading holds, each counted each time it is reached (what is shared counts as often as it is met; a slice's spare places count too). A statement '..UptoSaid' is the law's where the arguments, and the package variables that the reading takes, are together of bulk at most 1048576: NARROWER than '..Said'. Prove '..Said' where nothing that the law and all that it calls make is longer than what came in: it says more and counts as full. Else prove '..UptoSaid'. A law counts once. -/
mutual
def uptoBulk {H : Type} : DataW H → Nat
  | .lit (.string bytes) => bytes.length + 1
  | .lit _ => 1
  | .nil => 1
  | .ptr d => uptoBulk d + 1
  | .slice elems spare => uptoBulkAll elems + uptoBulkAll spare + 1
  | .agg parts => uptoBulkAll parts + 1
  | .iface _ d => uptoBulk d + 1
  | .map entries => uptoBulkEntries entries + 1
  | .held _ => 1
def uptoBulkAll {H : Type} : List (DataW H) → Nat
  | [] => 0
  | d :: r => uptoBulk d + uptoBulkAll r
def uptoBulkEntries {H : Type} : List (Lit × DataW H) → Nat
  | [] => 0
  | x :: r => uptoBulkEntry x + uptoBulkEntries r
def uptoBulkEntry {H : Type} : Lit × DataW H → Nat
  | (.string bytes, d) => bytes.length + uptoBulk d + 1
  | (_, d) => uptoBulk d + 1
 end
def uptoSmall : (H : Type) → List (DataW H) → Bool := fun _ ds => decide (uptoBulkAll ds ≤ 1048576)
def OpenSpec.upto (s : _root_.Go.ChangeSpec) : _root_.Go.OpenSpec := { _root_.Go.OpenSpec.ofChange s with cond := some uptoSmall }

/-- 'laws.FnExactUsableRoutes', WHERE WHAT IT READS IS OF BULK AT MOST 1048576: true; the input reads as it did. -/
def fnExactUsableRoutesUptoRow : OpenClaim := { program := "ytlcppdbpajdnlaagreat", sum := "962da94c270acb307d1bbcc20a0daf79c36cbe63348090b2f2b538444532d0d3", func := "loop.example/g00897/laws.FnExactUsableRoutes", spec := "fnExactUsableRoutes", unfollowed := true, recurses := true, apart := false, narrowed := true }
def FnExactUsableRoutesUptoSaid : Prop := fnExactUsableRoutesUptoRow.holds Tryz.pinned (OpenSpec.upto fnExactUsableRoutesSpec)

/-- 'laws.FnExactCheapestRoute', WHERE WHAT IT READS IS OF BULK AT MOST 1048576: true; the input reads as it did. -/
def fnExactCheapestRouteUptoRow : OpenClaim := { program := "ytlcppdbpajdnlaagreat", sum := "962da94c270acb307d1bbcc20a0daf79c36cbe63348090b2f2b538444532d0d3", func := "loop.example/g00897/laws.FnExactCheapestRoute", spec := "fnExactCheapestRoute", unfollowed := true, recurses := true, apart := false, narrowed := true }
def FnExactCheapestRouteUptoSaid : Prop := fnExactCheapestRouteUptoRow.holds Tryz.pinned (OpenSpec.upto fnExactCheapestRouteSpec)

/-- 'laws.FnExactCostBound', WHERE WHAT IT READS IS OF BULK AT MOST 1048576: true; the input reads as it did. -/
def fnExactCostBoundUptoRow : OpenClaim := { program := "ytlcppdbpajdnlaagreat", sum := "962da94c270acb307d1bbcc20a0daf79c36cbe63348090b2f2b538444532d0d3", func := "loop.example/g00897/laws.FnExactCostBound", spec := "fnExactCostBound", unfollowed := true, recurses := true, apart := false, narrowed := true }
def FnExactCostBoundUptoSaid : Prop := fnExactCostBoundUptoRow.holds Tryz.pinned (OpenSpec.upto fnExactCostBoundSpec)

/-- 'laws.FnExactOrderDemands', WHERE WHAT IT READS IS OF BULK AT MOST 1048576: true; the input reads as it did. -/
def fnExactOrderDemandsUptoRow : OpenClaim := { program := "ytlcppdbpajdnlaagreat", sum := "962da94c270acb307d1bbcc20a0daf79c36cbe63348090b2f2b538444532d0d3", func := "loop.example/g00897/laws.FnExactOrderDemands", spec := "fnExactOrderDemands", unfollowed := true, recurses := true, apart := false, narrowed := true }
def FnExactOrderDemandsUptoSaid : Prop := fnExactOrderDemandsUptoRow.holds Tryz.pinned (OpenSpec.upto fnExactOrderDemandsSpec)

end Rows
end Go.Proofs.YtlcppdbpajdnlaaGreat
