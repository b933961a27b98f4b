/-
  No cell of these rows narrows 'for every input' (looked for: loops, veiled, ifaces, maps, wideKeys, modest, calm, conditions, laid).
  DERIVED. THE GIVEN ROWS OF THIS SEAT. 3 by the template 'for every input the law returns true; each argument reads behind the call as it read before'; 0 by the template 'total and deterministic' (their statements: YtgiinjleehgkoaaGreatTotals.lean).
  GIVEN WITH THE SEED: the statements are not yours to turn. If you find one false, say at which input.
  Laid BY PROGRAM, IN A SANDBOX (cutbox-rows.mjs): the forced cells as the released guide's own fill.sh prints them over the translation bbbd56c262e24e37… (all of the seat's roots in one cut). By AI agents, Wed Nov 11 2026. No macro, syntax, notation, axiom, sorry.
-/
import Derived.Test.YtgiinjleehgkoaaGreatChecked
import GoSem.Claim
import GoSem.ClaimJoined
import GoSem.ClaimMapViews
import Derived.JoinedTies
import Derived.KernelRfl
namespace Go.Proofs.YtgiinjleehgkoaaGreat
/- THE CELL 'sum', in the pinned program and in every row, IS THE sha256 OF THE DUMP (.gsa) THAT YtgiinjleehgkoaaGreatProg.lean LOADS. Nothing in Lean hashes anything: it is a label: what it is worth is what the hold of that sum in a sandbox is worth. -/
noncomputable def Tryz.pinned : Pinned := { name := "ytgiinjleehgkoaagreat", sum := "bbbd56c262e24e37bab638208bd8698f195c4da2868f765ab64bb614c100331a", checked := Tryz.checked }
namespace Rows
def none {H : Type} : Left H := { results := [], args := [] }

/-- 'laws.FnExactMoveLight': WHATEVER THE INPUT: true; the input reads as it did. -/
def fnExactMoveLightSpec : ChangeSpec := { name := "fnExactMoveLight", fn := fun _ => fun
  | [d1, d2, d3, d4] => { results := [.lit (.bool true)], args := [d1, d2, d3, d4] }
  | _ => none }
def fnExactMoveLightRow : OpenClaim := { program := "ytgiinjleehgkoaagreat", sum := "bbbd56c262e24e37bab638208bd8698f195c4da2868f765ab64bb614c100331a", func := "loop.example/g00897/laws.FnExactMoveLight", spec := "fnExactMoveLight", unfollowed := true, recurses := true, apart := false }
def FnExactMoveLightSaid : Prop := fnExactMoveLightRow.holds Tryz.pinned (OpenSpec.ofChange fnExactMoveLightSpec)

/-- ITS FALSE NEIGHBOUR: 'it returns false'. Refute it at one input. -/
def fnExactMoveLightWrong : ChangeSpec := { name := "fnExactMoveLight", fn := fun _ => fun
  | [d1, d2, d3, d4] => { results := [.lit (.bool false)], args := [d1, d2, d3, d4] }
  | _ => none }
def FnExactMoveLightWrongFalsely : Prop := fnExactMoveLightRow.holds Tryz.pinned (OpenSpec.ofChange fnExactMoveLightWrong)

/-- 'laws.FnExactReleaseAll': WHATEVER THE INPUT: true; the input reads as it did. -/
def fnExactReleaseAllSpec : ChangeSpec := { name := "fnExactReleaseAll", fn := fun _ => fun
  | [d] => { results := [.lit (.bool true)], args := [d] }
  | _ => none }
def fnExactReleaseAllRow : OpenClaim := { program := "ytgiinjleehgkoaagreat", sum := "bbbd56c262e24e37bab638208bd8698f195c4da2868f765ab64bb614c100331a", func := "loop.example/g00897/laws.FnExactReleaseAll", spec := "fnExactReleaseAll", unfollowed := true, recurses := true, apart := false }
def FnExactReleaseAllSaid : Prop := fnExactReleaseAllRow.holds Tryz.pinned (OpenSpec.ofChange fnExactReleaseAllSpec)

/-- ITS FALSE NEIGHBOUR: 'it returns false'. Refute it at one input. -/
def fnExactReleaseAllWrong : ChangeSpec := { name := "fnExactReleaseAll", fn := fun _ => fun
  | [d] => { results := [.lit (.bool false)], args := [d] }
  | _ => none }
def FnExactReleaseAllWrongFalsely : Prop := fnExactReleaseAllRow.holds Tryz.pinned (OpenSpec.ofChange fnExactReleaseAllWrong)

/-- 'laws.FnExactAddLight': WHATEVER THE INPUT: true; the input reads as it did. -/
def fnExactAddLightSpec : ChangeSpec := { name := "fnExactAddLight", fn := fun _ => fun
  | [d1, d2] => { results := [.lit (.bool true)], args := [d1, d2] }
  | _ => none }
def fnExactAddLightRow : OpenClaim := { program := "ytgiinjleehgkoaagreat", sum := "bbbd56c262e24e37bab638208bd8698f195c4da2868f765ab64bb614c100331a", func := "loop.example/g00897/laws.FnExactAddLight", spec := "fnExactAddLight", inPlace := ["slices.overlaps[loop.example/g00897/impl.Light]"], unfollowed := true, recurses := true, apart := false }
def FnExactAddLightSaid : Prop := fnExactAddLightRow.holds Tryz.pinned (OpenSpec.ofChange fnExactAddLightSpec)

/-- ITS FALSE NEIGHBOUR: 'it returns false'. Refute it at one input. -/
def fnExactAddLightWrong : ChangeSpec := { name := "fnExactAddLight", fn := fun _ => fun
  | [d1, d2] => { results := [.lit (.bool false)], args := [d1, d2] }
  | _ => none }
def FnExactAddLightWrongFalsely : Prop := fnExactAddLightRow.holds Tryz.pinned (OpenSpec.ofChange fnExactAddLightWrong)

/- THE SECOND FORM. 'bulk': how many values and letters a reading holds, each counted each time it is reached (what is shared counts as often as it is met; a slice's spare places count too). A statement '..UptoSaid' is the law's where the arguments, and the package variables that the reading takes, are together of bulk at most 1048576: NARROWER than '..Said'. Prove '..Said' where nothing that the law and all that it calls make is longer than what came in: it says more and counts as full. Else prove '..UptoSaid'. A law counts once. -/
mutual
def uptoBulk {H : Type} : DataW H → Nat
  | .lit (.string bytes) => bytes.length + 1
  | .lit _ => 1
  | .nil => 1
  | .ptr d => uptoBulk d + 1
  | .slice elems spare => uptoBulkAll elems + uptoBulkAll spare + 1
  | .agg parts => uptoBulkAll parts + 1
  | .iface _ d => uptoBulk d + 1
  | .map entries => uptoBulkEntries entries + 1
  | .held _ => 1
def uptoBulkAll {H : Type} : List (DataW H) → Nat
  | [] => 0
  | d :: r => uptoBulk d + uptoBulkAll r
def uptoBulkEntries {H : Type} : List (Lit × DataW H) → Nat
  | [] => 0
  | x :: r => uptoBulkEntry x + uptoBulkEntries r
def uptoBulkEntry {H : Type} : Lit × DataW H → Nat
  | (.string bytes, d) => bytes.length + uptoBulk d + 1
  | (_, d) => uptoBulk d + 1
 end
def uptoSmall : (H : Type) → List (DataW H) → Bool := fun _ ds => decide (uptoBulkAll ds ≤ 1048576)
def OpenSpec.upto (s : _root_.Go.ChangeSpec) : _root_.Go.OpenSpec := { _root_.Go.OpenSpec.ofChange s with cond := some uptoSmall }

/-- 'laws.FnExactMoveLight', WHERE WHAT IT READS IS OF BULK AT MOST 1048576: true; the input reads as it did. -/
def fnExactMoveLightUptoRow : OpenClaim := { program := "ytgiinjleehgkoaagreat", sum := "bbbd56c262e24e37bab638208bd8698f195c4da2868f765ab64bb614c100331a", func := "loop.example/g00897/laws.FnExactMoveLight", spec := "fnExactMoveLight", unfollowed := true, recurses := true, apart := false, narrowed := true }
def FnExactMoveLightUptoSaid : Prop := fnExactMoveLightUptoRow.holds Tryz.pinned (OpenSpec.upto fnExactMoveLightSpec)

/-- 'laws.FnExactReleaseAll', WHERE WHAT IT READS IS OF BULK AT MOST 1048576: true; the input reads as it did. -/
def fnExactReleaseAllUptoRow : OpenClaim := { program := "ytgiinjleehgkoaagreat", sum := "bbbd56c262e24e37bab638208bd8698f195c4da2868f765ab64bb614c100331a", func := "loop.example/g00897/laws.FnExactReleaseAll", spec := "fnExactReleaseAll", unfollowed := true, recurses := true, apart := false, narrowed := true }
def FnExactReleaseAllUptoSaid : Prop := fnExactReleaseAllUptoRow.holds Tryz.pinned (OpenSpec.upto fnExactReleaseAllSpec)

/-- 'laws.FnExactAddLight', WHERE WHAT IT READS IS OF BULK AT MOST 1048576: true; the input reads as it did. -/
def fnExactAddLightUptoRow : OpenClaim := { program := "ytgiinjleehgkoaagreat", sum := "bbbd56c262e24e37bab638208bd8698f195c4da2868f765ab64bb614c100331a", func := "loop.example/g00897/laws.FnExactAddLight", spec := "fnExactAddLight", inPlace := ["slices.overlaps[loop.example/g00897/impl.Light]"], unfollowed := true, recurses := true, apart := false, narrowed := true }
def FnExactAddLightUptoSaid : Prop := fnExactAddLightUptoRow.holds Tryz.pinned (OpenSpec.upto fnExactAddLightSpec)

end Rows
end Go.Proofs.YtgiinjleehgkoaaGreat
