/-
  No cell of these rows narrows 'for every input' (looked for: loops, veiled, ifaces, maps, wideKeys, modest, calm, conditions, laid).
  DERIVED. THE GIVEN ROWS OF THIS SEAT. 8 by the template 'for every input the law returns true; each argument reads behind the call as it read before'; 0 by the template 'total and deterministic' (their statements: YtgkgcfmmhkknkaaGreatTotals.lean).
  GIVEN WITH THE SEED: the statements are not yours to turn. If you find one false, say at which input.
  Laid BY PROGRAM, IN A SANDBOX (cutbox-rows.mjs): the forced cells as the released guide's own fill.sh prints them over the translation 929b0d26188f6a03… (all of the seat's roots in one cut). By AI agents, Wed Nov 11 2026. No macro, syntax, notation, axiom, sorry.
-/
import Derived.Test.YtgkgcfmmhkknkaaGreatChecked
import GoSem.Claim
import GoSem.ClaimJoined
import GoSem.ClaimMapViews
import Derived.JoinedTies
import Derived.KernelRfl
namespace Go.Proofs.YtgkgcfmmhkknkaaGreat
/- THE CELL 'sum', in the pinned program and in every row, IS THE sha256 OF THE DUMP (.gsa) THAT YtgkgcfmmhkknkaaGreatProg.lean LOADS. Nothing in Lean hashes anything: it is a label: what it is worth is what the hold of that sum in a sandbox is worth. -/
noncomputable def Tryz.pinned : Pinned := { name := "ytgkgcfmmhkknkaagreat", sum := "929b0d26188f6a03c71377ade7a9884de192ac24a6f55b6c4de346b581f62555", checked := Tryz.checked }
namespace Rows
def none {H : Type} : Left H := { results := [], args := [] }

/-- 'laws.FnExactCountPairs': WHATEVER THE INPUT: true; the input reads as it did. -/
def fnExactCountPairsSpec : ChangeSpec := { name := "fnExactCountPairs", fn := fun _ => fun
  | [d1, d2, d3, d4] => { results := [.lit (.bool true)], args := [d1, d2, d3, d4] }
  | _ => none }
def fnExactCountPairsRow : OpenClaim := { program := "ytgkgcfmmhkknkaagreat", sum := "929b0d26188f6a03c71377ade7a9884de192ac24a6f55b6c4de346b581f62555", func := "loop.example/g00897/laws.FnExactCountPairs", spec := "fnExactCountPairs", unfollowed := true, recurses := true, apart := false }
def FnExactCountPairsSaid : Prop := fnExactCountPairsRow.holds Tryz.pinned (OpenSpec.ofChange fnExactCountPairsSpec)

/-- ITS FALSE NEIGHBOUR: 'it returns false'. Refute it at one input. -/
def fnExactCountPairsWrong : ChangeSpec := { name := "fnExactCountPairs", fn := fun _ => fun
  | [d1, d2, d3, d4] => { results := [.lit (.bool false)], args := [d1, d2, d3, d4] }
  | _ => none }
def FnExactCountPairsWrongFalsely : Prop := fnExactCountPairsRow.holds Tryz.pinned (OpenSpec.ofChange fnExactCountPairsWrong)

/-- 'laws.FnExactIsTrap': WHATEVER THE INPUT: true; the input reads as it did. -/
def fnExactIsTrapSpec : ChangeSpec := { name := "fnExactIsTrap", fn := fun _ => fun
  | [d1, d2, d3, d4] => { results := [.lit (.bool true)], args := [d1, d2, d3, d4] }
  | _ => none }
def fnExactIsTrapRow : OpenClaim := { program := "ytgkgcfmmhkknkaagreat", sum := "929b0d26188f6a03c71377ade7a9884de192ac24a6f55b6c4de346b581f62555", func := "loop.example/g00897/laws.FnExactIsTrap", spec := "fnExactIsTrap", unfollowed := true, recurses := true, apart := false }
def FnExactIsTrapSaid : Prop := fnExactIsTrapRow.holds Tryz.pinned (OpenSpec.ofChange fnExactIsTrapSpec)

/-- ITS FALSE NEIGHBOUR: 'it returns false'. Refute it at one input. -/
def fnExactIsTrapWrong : ChangeSpec := { name := "fnExactIsTrap", fn := fun _ => fun
  | [d1, d2, d3, d4] => { results := [.lit (.bool false)], args := [d1, d2, d3, d4] }
  | _ => none }
def FnExactIsTrapWrongFalsely : Prop := fnExactIsTrapRow.holds Tryz.pinned (OpenSpec.ofChange fnExactIsTrapWrong)

/-- 'laws.FnExactPairLength': WHATEVER THE INPUT: true; the input reads as it did. -/
def fnExactPairLengthSpec : ChangeSpec := { name := "fnExactPairLength", fn := fun _ => fun
  | [d1, d2, d3, d4] => { results := [.lit (.bool true)], args := [d1, d2, d3, d4] }
  | _ => none }
def fnExactPairLengthRow : OpenClaim := { program := "ytgkgcfmmhkknkaagreat", sum := "929b0d26188f6a03c71377ade7a9884de192ac24a6f55b6c4de346b581f62555", func := "loop.example/g00897/laws.FnExactPairLength", spec := "fnExactPairLength", unfollowed := true, recurses := true, apart := false }
def FnExactPairLengthSaid : Prop := fnExactPairLengthRow.holds Tryz.pinned (OpenSpec.ofChange fnExactPairLengthSpec)

/-- ITS FALSE NEIGHBOUR: 'it returns false'. Refute it at one input. -/
def fnExactPairLengthWrong : ChangeSpec := { name := "fnExactPairLength", fn := fun _ => fun
  | [d1, d2, d3, d4] => { results := [.lit (.bool false)], args := [d1, d2, d3, d4] }
  | _ => none }
def FnExactPairLengthWrongFalsely : Prop := fnExactPairLengthRow.holds Tryz.pinned (OpenSpec.ofChange fnExactPairLengthWrong)

/-- 'laws.FnUnprotected': WHATEVER THE INPUT: true; the input reads as it did. -/
def fnUnprotectedSpec : ChangeSpec := { name := "fnUnprotected", fn := fun _ => fun
  | [d] => { results := [.lit (.bool true)], args := [d] }
  | _ => none }
def fnUnprotectedRow : OpenClaim := { program := "ytgkgcfmmhkknkaagreat", sum := "929b0d26188f6a03c71377ade7a9884de192ac24a6f55b6c4de346b581f62555", func := "loop.example/g00897/laws.FnUnprotected", spec := "fnUnprotected", unfollowed := true, recurses := true, apart := false }
def FnUnprotectedSaid : Prop := fnUnprotectedRow.holds Tryz.pinned (OpenSpec.ofChange fnUnprotectedSpec)

/-- ITS FALSE NEIGHBOUR: 'it returns false'. Refute it at one input. -/
def fnUnprotectedWrong : ChangeSpec := { name := "fnUnprotected", fn := fun _ => fun
  | [d] => { results := [.lit (.bool false)], args := [d] }
  | _ => none }
def FnUnprotectedWrongFalsely : Prop := fnUnprotectedRow.holds Tryz.pinned (OpenSpec.ofChange fnUnprotectedWrong)

/-- 'laws.FnExactBestPair': WHATEVER THE INPUT: true; the input reads as it did. -/
def fnExactBestPairSpec : ChangeSpec := { name := "fnExactBestPair", fn := fun _ => fun
  | [d1, d2, d3, d4] => { results := [.lit (.bool true)], args := [d1, d2, d3, d4] }
  | _ => none }
def fnExactBestPairRow : OpenClaim := { program := "ytgkgcfmmhkknkaagreat", sum := "929b0d26188f6a03c71377ade7a9884de192ac24a6f55b6c4de346b581f62555", func := "loop.example/g00897/laws.FnExactBestPair", spec := "fnExactBestPair", unfollowed := true, recurses := true, apart := false }
def FnExactBestPairSaid : Prop := fnExactBestPairRow.holds Tryz.pinned (OpenSpec.ofChange fnExactBestPairSpec)

/-- ITS FALSE NEIGHBOUR: 'it returns false'. Refute it at one input. -/
def fnExactBestPairWrong : ChangeSpec := { name := "fnExactBestPair", fn := fun _ => fun
  | [d1, d2, d3, d4] => { results := [.lit (.bool false)], args := [d1, d2, d3, d4] }
  | _ => none }
def FnExactBestPairWrongFalsely : Prop := fnExactBestPairRow.holds Tryz.pinned (OpenSpec.ofChange fnExactBestPairWrong)

/-- 'laws.FnPairs': WHATEVER THE INPUT: true; the input reads as it did. -/
def fnPairsSpec : ChangeSpec := { name := "fnPairs", fn := fun _ => fun
  | [d] => { results := [.lit (.bool true)], args := [d] }
  | _ => none }
def fnPairsRow : OpenClaim := { program := "ytgkgcfmmhkknkaagreat", sum := "929b0d26188f6a03c71377ade7a9884de192ac24a6f55b6c4de346b581f62555", func := "loop.example/g00897/laws.FnPairs", spec := "fnPairs", unfollowed := true, recurses := true, apart := false }
def FnPairsSaid : Prop := fnPairsRow.holds Tryz.pinned (OpenSpec.ofChange fnPairsSpec)

/-- ITS FALSE NEIGHBOUR: 'it returns false'. Refute it at one input. -/
def fnPairsWrong : ChangeSpec := { name := "fnPairs", fn := fun _ => fun
  | [d] => { results := [.lit (.bool false)], args := [d] }
  | _ => none }
def FnPairsWrongFalsely : Prop := fnPairsRow.holds Tryz.pinned (OpenSpec.ofChange fnPairsWrong)

/-- 'laws.FnExactUnprotectedPairs': WHATEVER THE INPUT: true; the input reads as it did. -/
def fnExactUnprotectedPairsSpec : ChangeSpec := { name := "fnExactUnprotectedPairs", fn := fun _ => fun
  | [d1, d2] => { results := [.lit (.bool true)], args := [d1, d2] }
  | _ => none }
def fnExactUnprotectedPairsRow : OpenClaim := { program := "ytgkgcfmmhkknkaagreat", sum := "929b0d26188f6a03c71377ade7a9884de192ac24a6f55b6c4de346b581f62555", func := "loop.example/g00897/laws.FnExactUnprotectedPairs", spec := "fnExactUnprotectedPairs", unfollowed := true, recurses := true, apart := false }
def FnExactUnprotectedPairsSaid : Prop := fnExactUnprotectedPairsRow.holds Tryz.pinned (OpenSpec.ofChange fnExactUnprotectedPairsSpec)

/-- ITS FALSE NEIGHBOUR: 'it returns false'. Refute it at one input. -/
def fnExactUnprotectedPairsWrong : ChangeSpec := { name := "fnExactUnprotectedPairs", fn := fun _ => fun
  | [d1, d2] => { results := [.lit (.bool false)], args := [d1, d2] }
  | _ => none }
def FnExactUnprotectedPairsWrongFalsely : Prop := fnExactUnprotectedPairsRow.holds Tryz.pinned (OpenSpec.ofChange fnExactUnprotectedPairsWrong)

/-- 'laws.FnExactPartnerOf': WHATEVER THE INPUT: true; the input reads as it did. -/
def fnExactPartnerOfSpec : ChangeSpec := { name := "fnExactPartnerOf", fn := fun _ => fun
  | [d1, d2, d3] => { results := [.lit (.bool true)], args := [d1, d2, d3] }
  | _ => none }
def fnExactPartnerOfRow : OpenClaim := { program := "ytgkgcfmmhkknkaagreat", sum := "929b0d26188f6a03c71377ade7a9884de192ac24a6f55b6c4de346b581f62555", func := "loop.example/g00897/laws.FnExactPartnerOf", spec := "fnExactPartnerOf", unfollowed := true, recurses := true, apart := false }
def FnExactPartnerOfSaid : Prop := fnExactPartnerOfRow.holds Tryz.pinned (OpenSpec.ofChange fnExactPartnerOfSpec)

/-- ITS FALSE NEIGHBOUR: 'it returns false'. Refute it at one input. -/
def fnExactPartnerOfWrong : ChangeSpec := { name := "fnExactPartnerOf", fn := fun _ => fun
  | [d1, d2, d3] => { results := [.lit (.bool false)], args := [d1, d2, d3] }
  | _ => none }
def FnExactPartnerOfWrongFalsely : Prop := fnExactPartnerOfRow.holds Tryz.pinned (OpenSpec.ofChange fnExactPartnerOfWrong)

/- THE SECOND FORM. 'bulk': how many values and letters a reading holds, each counted each time it is reached (what is shared counts as often as it is met; a slice's spare places count too). A statement '..UptoSaid' is the law's where the arguments, and the package variables that the reading takes, are together of bulk at most 1048576: NARROWER than '..Said'. Prove '..Said' where nothing that the law and all that it calls make is longer than what came in: it says more and counts as full. Else prove '..UptoSaid'. A law counts once. -/
mutual
def uptoBulk {H : Type} : DataW H → Nat
  | .lit (.string bytes) => bytes.length + 1
  | .lit _ => 1
  | .nil => 1
  | .ptr d => uptoBulk d + 1
  | .slice elems spare => uptoBulkAll elems + uptoBulkAll spare + 1
  | .agg parts => uptoBulkAll parts + 1
  | .iface _ d => uptoBulk d + 1
  | .map entries => uptoBulkEntries entries + 1
  | .held _ => 1
def uptoBulkAll {H : Type} : List (DataW H) → Nat
  | [] => 0
  | d :: r => uptoBulk d + uptoBulkAll r
def uptoBulkEntries {H : Type} : List (Lit × DataW H) → Nat
  | [] => 0
  | x :: r => uptoBulkEntry x + uptoBulkEntries r
def uptoBulkEntry {H : Type} : Lit × DataW H → Nat
  | (.string bytes, d) => bytes.length + uptoBulk d + 1
  | (_, d) => uptoBulk d + 1
 end
def uptoSmall : (H : Type) → List (DataW H) → Bool := fun _ ds => decide (uptoBulkAll ds ≤ 1048576)
def OpenSpec.upto (s : _root_.Go.ChangeSpec) : _root_.Go.OpenSpec := { _root_.Go.OpenSpec.ofChange s with cond := some uptoSmall }

/-- 'laws.FnExactCountPairs', WHERE WHAT IT READS IS OF BULK AT MOST 1048576: true; the input reads as it did. -/
def fnExactCountPairsUptoRow : OpenClaim := { program := "ytgkgcfmmhkknkaagreat", sum := "929b0d26188f6a03c71377ade7a9884de192ac24a6f55b6c4de346b581f62555", func := "loop.example/g00897/laws.FnExactCountPairs", spec := "fnExactCountPairs", unfollowed := true, recurses := true, apart := false, narrowed := true }
def FnExactCountPairsUptoSaid : Prop := fnExactCountPairsUptoRow.holds Tryz.pinned (OpenSpec.upto fnExactCountPairsSpec)

/-- 'laws.FnExactIsTrap', WHERE WHAT IT READS IS OF BULK AT MOST 1048576: true; the input reads as it did. -/
def fnExactIsTrapUptoRow : OpenClaim := { program := "ytgkgcfmmhkknkaagreat", sum := "929b0d26188f6a03c71377ade7a9884de192ac24a6f55b6c4de346b581f62555", func := "loop.example/g00897/laws.FnExactIsTrap", spec := "fnExactIsTrap", unfollowed := true, recurses := true, apart := false, narrowed := true }
def FnExactIsTrapUptoSaid : Prop := fnExactIsTrapUptoRow.holds Tryz.pinned (OpenSpec.upto fnExactIsTrapSpec)

/-- 'laws.FnExactPairLength', WHERE WHAT IT READS IS OF BULK AT MOST 1048576: true; the input reads as it did. -/
def fnExactPairLengthUptoRow : OpenClaim := { program := "ytgkgcfmmhkknkaagreat", sum := "929b0d26188f6a03c71377ade7a9884de192ac24a6f55b6c4de346b581f62555", func := "loop.example/g00897/laws.FnExactPairLength", spec := "fnExactPairLength", unfollowed := true, recurses := true, apart := false, narrowed := true }
def FnExactPairLengthUptoSaid : Prop := fnExactPairLengthUptoRow.holds Tryz.pinned (OpenSpec.upto fnExactPairLengthSpec)

/-- 'laws.FnUnprotected', WHERE WHAT IT READS IS OF BULK AT MOST 1048576: true; the input reads as it did. -/
def fnUnprotectedUptoRow : OpenClaim := { program := "ytgkgcfmmhkknkaagreat", sum := "929b0d26188f6a03c71377ade7a9884de192ac24a6f55b6c4de346b581f62555", func := "loop.example/g00897/laws.FnUnprotected", spec := "fnUnprotected", unfollowed := true, recurses := true, apart := false, narrowed := true }
def FnUnprotectedUptoSaid : Prop := fnUnprotectedUptoRow.holds Tryz.pinned (OpenSpec.upto fnUnprotectedSpec)

/-- 'laws.FnExactBestPair', WHERE WHAT IT READS IS OF BULK AT MOST 1048576: true; the input reads as it did. -/
def fnExactBestPairUptoRow : OpenClaim := { program := "ytgkgcfmmhkknkaagreat", sum := "929b0d26188f6a03c71377ade7a9884de192ac24a6f55b6c4de346b581f62555", func := "loop.example/g00897/laws.FnExactBestPair", spec := "fnExactBestPair", unfollowed := true, recurses := true, apart := false, narrowed := true }
def FnExactBestPairUptoSaid : Prop := fnExactBestPairUptoRow.holds Tryz.pinned (OpenSpec.upto fnExactBestPairSpec)

/-- 'laws.FnPairs', WHERE WHAT IT READS IS OF BULK AT MOST 1048576: true; the input reads as it did. -/
def fnPairsUptoRow : OpenClaim := { program := "ytgkgcfmmhkknkaagreat", sum := "929b0d26188f6a03c71377ade7a9884de192ac24a6f55b6c4de346b581f62555", func := "loop.example/g00897/laws.FnPairs", spec := "fnPairs", unfollowed := true, recurses := true, apart := false, narrowed := true }
def FnPairsUptoSaid : Prop := fnPairsUptoRow.holds Tryz.pinned (OpenSpec.upto fnPairsSpec)

/-- 'laws.FnExactUnprotectedPairs', WHERE WHAT IT READS IS OF BULK AT MOST 1048576: true; the input reads as it did. -/
def fnExactUnprotectedPairsUptoRow : OpenClaim := { program := "ytgkgcfmmhkknkaagreat", sum := "929b0d26188f6a03c71377ade7a9884de192ac24a6f55b6c4de346b581f62555", func := "loop.example/g00897/laws.FnExactUnprotectedPairs", spec := "fnExactUnprotectedPairs", unfollowed := true, recurses := true, apart := false, narrowed := true }
def FnExactUnprotectedPairsUptoSaid : Prop := fnExactUnprotectedPairsUptoRow.holds Tryz.pinned (OpenSpec.upto fnExactUnprotectedPairsSpec)

/-- 'laws.FnExactPartnerOf', WHERE WHAT IT READS IS OF BULK AT MOST 1048576: true; the input reads as it did. -/
def fnExactPartnerOfUptoRow : OpenClaim := { program := "ytgkgcfmmhkknkaagreat", sum := "929b0d26188f6a03c71377ade7a9884de192ac24a6f55b6c4de346b581f62555", func := "loop.example/g00897/laws.FnExactPartnerOf", spec := "fnExactPartnerOf", unfollowed := true, recurses := true, apart := false, narrowed := true }
def FnExactPartnerOfUptoSaid : Prop := fnExactPartnerOfUptoRow.holds Tryz.pinned (OpenSpec.upto fnExactPartnerOfSpec)

end Rows
end Go.Proofs.YtgkgcfmmhkknkaaGreat
