/-
  No cell of these rows narrows 'for every input' (looked for: loops, veiled, ifaces, maps, wideKeys, modest, calm, conditions, laid).
  DERIVED. THE GIVEN ROWS OF THIS SEAT. 6 by the template 'for every input the law returns true; each argument reads behind the call as it read before'; 0 by the template 'total and deterministic' (their statements: YtlcodjmjchiemaaTotals.lean).
  GIVEN WITH THE SEED: the statements are not yours to turn. If you find one false, say at which input.
  Laid BY PROGRAM, IN A SANDBOX (cutbox-rows.mjs): the forced cells as the released guide's own fill.sh prints them over the translation eaedbdf1375d683f… (all of the seat's roots in one cut). By AI agents, Wed Nov 11 2026. No macro, syntax, notation, axiom, sorry.
-/
import Derived.Test.YtlcodjmjchiemaaChecked
import GoSem.Claim
import GoSem.ClaimJoined
import GoSem.ClaimMapViews
import Derived.JoinedTies
import Derived.KernelRfl
namespace Go.Proofs.Ytlcodjmjchiemaa
/- THE CELL 'sum', in the pinned program and in every row, IS THE sha256 OF THE DUMP (.gsa) THAT YtlcodjmjchiemaaProg.lean LOADS. Nothing in Lean hashes anything: it is a label: what it is worth is what the hold of that sum in a sandbox is worth. -/
noncomputable def Try.pinned : Pinned := { name := "ytlcodjmjchiemaa", sum := "eaedbdf1375d683f4e14a1f1a43d5abfdc94c405cce4b448cbcb62f1843e694d", checked := Try.checked }
namespace Rows
def none {H : Type} : Left H := { results := [], args := [] }

/-- 'duramenlaw11.TreePaths': WHATEVER THE INPUT: true; the input reads as it did. -/
def treePathsSpec : ChangeSpec := { name := "treePaths", fn := fun _ => fun
  | [d1, d2, d3] => { results := [.lit (.bool true)], args := [d1, d2, d3] }
  | _ => none }
def treePathsRow : OpenClaim := { program := "ytlcodjmjchiemaa", sum := "eaedbdf1375d683f4e14a1f1a43d5abfdc94c405cce4b448cbcb62f1843e694d", func := "duramen/duramenlaw11.TreePaths", spec := "treePaths", recurses := true, apart := false }
def TreePathsSaid : Prop := treePathsRow.holds Try.pinned (OpenSpec.ofChange treePathsSpec)

/-- ITS FALSE NEIGHBOUR: 'it returns false'. Refute it at one input. -/
def treePathsWrong : ChangeSpec := { name := "treePaths", fn := fun _ => fun
  | [d1, d2, d3] => { results := [.lit (.bool false)], args := [d1, d2, d3] }
  | _ => none }
def TreePathsWrongFalsely : Prop := treePathsRow.holds Try.pinned (OpenSpec.ofChange treePathsWrong)

/-- 'duramenlaw11.TreeSees': WHATEVER THE INPUT: true; the input reads as it did. -/
def treeSeesSpec : ChangeSpec := { name := "treeSees", fn := fun _ => fun
  | [d1, d2] => { results := [.lit (.bool true)], args := [d1, d2] }
  | _ => none }
def treeSeesRow : OpenClaim := { program := "ytlcodjmjchiemaa", sum := "eaedbdf1375d683f4e14a1f1a43d5abfdc94c405cce4b448cbcb62f1843e694d", func := "duramen/duramenlaw11.TreeSees", spec := "treeSees", unfollowed := true, recurses := true, apart := false }
def TreeSeesSaid : Prop := treeSeesRow.holds Try.pinned (OpenSpec.ofChange treeSeesSpec)

/-- ITS FALSE NEIGHBOUR: 'it returns false'. Refute it at one input. -/
def treeSeesWrong : ChangeSpec := { name := "treeSees", fn := fun _ => fun
  | [d1, d2] => { results := [.lit (.bool false)], args := [d1, d2] }
  | _ => none }
def TreeSeesWrongFalsely : Prop := treeSeesRow.holds Try.pinned (OpenSpec.ofChange treeSeesWrong)

/-- 'duramenlaw11.TreeLater': WHATEVER THE INPUT: true; the input reads as it did. -/
def treeLaterSpec : ChangeSpec := { name := "treeLater", fn := fun _ => fun
  | [d1, d2, d3, d4, d5] => { results := [.lit (.bool true)], args := [d1, d2, d3, d4, d5] }
  | _ => none }
def treeLaterRow : OpenClaim := { program := "ytlcodjmjchiemaa", sum := "eaedbdf1375d683f4e14a1f1a43d5abfdc94c405cce4b448cbcb62f1843e694d", func := "duramen/duramenlaw11.TreeLater", spec := "treeLater", unfollowed := true, recurses := true, apart := false }
def TreeLaterSaid : Prop := treeLaterRow.holds Try.pinned (OpenSpec.ofChange treeLaterSpec)

/-- ITS FALSE NEIGHBOUR: 'it returns false'. Refute it at one input. -/
def treeLaterWrong : ChangeSpec := { name := "treeLater", fn := fun _ => fun
  | [d1, d2, d3, d4, d5] => { results := [.lit (.bool false)], args := [d1, d2, d3, d4, d5] }
  | _ => none }
def TreeLaterWrongFalsely : Prop := treeLaterRow.holds Try.pinned (OpenSpec.ofChange treeLaterWrong)

/-- 'duramenlaw11.TreeShares': WHATEVER THE INPUT: true; the input reads as it did. -/
def treeSharesSpec : ChangeSpec := { name := "treeShares", fn := fun _ => fun
  | [d1, d2, d3, d4] => { results := [.lit (.bool true)], args := [d1, d2, d3, d4] }
  | _ => none }
def treeSharesRow : OpenClaim := { program := "ytlcodjmjchiemaa", sum := "eaedbdf1375d683f4e14a1f1a43d5abfdc94c405cce4b448cbcb62f1843e694d", func := "duramen/duramenlaw11.TreeShares", spec := "treeShares", unfollowed := true, recurses := true, apart := false }
def TreeSharesSaid : Prop := treeSharesRow.holds Try.pinned (OpenSpec.ofChange treeSharesSpec)

/-- ITS FALSE NEIGHBOUR: 'it returns false'. Refute it at one input. -/
def treeSharesWrong : ChangeSpec := { name := "treeShares", fn := fun _ => fun
  | [d1, d2, d3, d4] => { results := [.lit (.bool false)], args := [d1, d2, d3, d4] }
  | _ => none }
def TreeSharesWrongFalsely : Prop := treeSharesRow.holds Try.pinned (OpenSpec.ofChange treeSharesWrong)

/-- 'duramenlaw11.TreeCommon': WHATEVER THE INPUT: true; the input reads as it did. -/
def treeCommonSpec : ChangeSpec := { name := "treeCommon", fn := fun _ => fun
  | [d1, d2, d3] => { results := [.lit (.bool true)], args := [d1, d2, d3] }
  | _ => none }
def treeCommonRow : OpenClaim := { program := "ytlcodjmjchiemaa", sum := "eaedbdf1375d683f4e14a1f1a43d5abfdc94c405cce4b448cbcb62f1843e694d", func := "duramen/duramenlaw11.TreeCommon", spec := "treeCommon", unfollowed := true, recurses := true, apart := false }
def TreeCommonSaid : Prop := treeCommonRow.holds Try.pinned (OpenSpec.ofChange treeCommonSpec)

/-- ITS FALSE NEIGHBOUR: 'it returns false'. Refute it at one input. -/
def treeCommonWrong : ChangeSpec := { name := "treeCommon", fn := fun _ => fun
  | [d1, d2, d3] => { results := [.lit (.bool false)], args := [d1, d2, d3] }
  | _ => none }
def TreeCommonWrongFalsely : Prop := treeCommonRow.holds Try.pinned (OpenSpec.ofChange treeCommonWrong)

/-- 'duramenlaw11.TreeSelf': WHATEVER THE INPUT: true; the input reads as it did. -/
def treeSelfSpec : ChangeSpec := { name := "treeSelf", fn := fun _ => fun
  | [d1, d2, d3, d4] => { results := [.lit (.bool true)], args := [d1, d2, d3, d4] }
  | _ => none }
def treeSelfRow : OpenClaim := { program := "ytlcodjmjchiemaa", sum := "eaedbdf1375d683f4e14a1f1a43d5abfdc94c405cce4b448cbcb62f1843e694d", func := "duramen/duramenlaw11.TreeSelf", spec := "treeSelf", unfollowed := true, recurses := true, apart := false }
def TreeSelfSaid : Prop := treeSelfRow.holds Try.pinned (OpenSpec.ofChange treeSelfSpec)

/-- ITS FALSE NEIGHBOUR: 'it returns false'. Refute it at one input. -/
def treeSelfWrong : ChangeSpec := { name := "treeSelf", fn := fun _ => fun
  | [d1, d2, d3, d4] => { results := [.lit (.bool false)], args := [d1, d2, d3, d4] }
  | _ => none }
def TreeSelfWrongFalsely : Prop := treeSelfRow.holds Try.pinned (OpenSpec.ofChange treeSelfWrong)

/- THE SECOND FORM. 'bulk': how many values and letters a reading holds, each counted each time it is reached (what is shared counts as often as it is met; a slice's spare places count too). A statement '..UptoSaid' is the law's where the arguments, and the package variables that the reading takes, are together of bulk at most 1048576: NARROWER than '..Said'. Prove '..Said' where nothing that the law and all that it calls make is longer than what came in: it says more and counts as full. Else prove '..UptoSaid'. A law counts once. -/
mutual
def uptoBulk {H : Type} : DataW H → Nat
  | .lit (.string bytes) => bytes.length + 1
  | .lit _ => 1
  | .nil => 1
  | .ptr d => uptoBulk d + 1
  | .slice elems spare => uptoBulkAll elems + uptoBulkAll spare + 1
  | .agg parts => uptoBulkAll parts + 1
  | .iface _ d => uptoBulk d + 1
  | .map entries => uptoBulkEntries entries + 1
  | .held _ => 1
def uptoBulkAll {H : Type} : List (DataW H) → Nat
  | [] => 0
  | d :: r => uptoBulk d + uptoBulkAll r
def uptoBulkEntries {H : Type} : List (Lit × DataW H) → Nat
  | [] => 0
  | x :: r => uptoBulkEntry x + uptoBulkEntries r
def uptoBulkEntry {H : Type} : Lit × DataW H → Nat
  | (.string bytes, d) => bytes.length + uptoBulk d + 1
  | (_, d) => uptoBulk d + 1
 end
def uptoSmall : (H : Type) → List (DataW H) → Bool := fun _ ds => decide (uptoBulkAll ds ≤ 1048576)
def OpenSpec.upto (s : _root_.Go.ChangeSpec) : _root_.Go.OpenSpec := { _root_.Go.OpenSpec.ofChange s with cond := some uptoSmall }

/-- 'duramenlaw11.TreePaths', WHERE WHAT IT READS IS OF BULK AT MOST 1048576: true; the input reads as it did. -/
def treePathsUptoRow : OpenClaim := { program := "ytlcodjmjchiemaa", sum := "eaedbdf1375d683f4e14a1f1a43d5abfdc94c405cce4b448cbcb62f1843e694d", func := "duramen/duramenlaw11.TreePaths", spec := "treePaths", recurses := true, apart := false, narrowed := true }
def TreePathsUptoSaid : Prop := treePathsUptoRow.holds Try.pinned (OpenSpec.upto treePathsSpec)

/-- 'duramenlaw11.TreeSees', WHERE WHAT IT READS IS OF BULK AT MOST 1048576: true; the input reads as it did. -/
def treeSeesUptoRow : OpenClaim := { program := "ytlcodjmjchiemaa", sum := "eaedbdf1375d683f4e14a1f1a43d5abfdc94c405cce4b448cbcb62f1843e694d", func := "duramen/duramenlaw11.TreeSees", spec := "treeSees", unfollowed := true, recurses := true, apart := false, narrowed := true }
def TreeSeesUptoSaid : Prop := treeSeesUptoRow.holds Try.pinned (OpenSpec.upto treeSeesSpec)

/-- 'duramenlaw11.TreeLater', WHERE WHAT IT READS IS OF BULK AT MOST 1048576: true; the input reads as it did. -/
def treeLaterUptoRow : OpenClaim := { program := "ytlcodjmjchiemaa", sum := "eaedbdf1375d683f4e14a1f1a43d5abfdc94c405cce4b448cbcb62f1843e694d", func := "duramen/duramenlaw11.TreeLater", spec := "treeLater", unfollowed := true, recurses := true, apart := false, narrowed := true }
def TreeLaterUptoSaid : Prop := treeLaterUptoRow.holds Try.pinned (OpenSpec.upto treeLaterSpec)

/-- 'duramenlaw11.TreeShares', WHERE WHAT IT READS IS OF BULK AT MOST 1048576: true; the input reads as it did. -/
def treeSharesUptoRow : OpenClaim := { program := "ytlcodjmjchiemaa", sum := "eaedbdf1375d683f4e14a1f1a43d5abfdc94c405cce4b448cbcb62f1843e694d", func := "duramen/duramenlaw11.TreeShares", spec := "treeShares", unfollowed := true, recurses := true, apart := false, narrowed := true }
def TreeSharesUptoSaid : Prop := treeSharesUptoRow.holds Try.pinned (OpenSpec.upto treeSharesSpec)

/-- 'duramenlaw11.TreeCommon', WHERE WHAT IT READS IS OF BULK AT MOST 1048576: true; the input reads as it did. -/
def treeCommonUptoRow : OpenClaim := { program := "ytlcodjmjchiemaa", sum := "eaedbdf1375d683f4e14a1f1a43d5abfdc94c405cce4b448cbcb62f1843e694d", func := "duramen/duramenlaw11.TreeCommon", spec := "treeCommon", unfollowed := true, recurses := true, apart := false, narrowed := true }
def TreeCommonUptoSaid : Prop := treeCommonUptoRow.holds Try.pinned (OpenSpec.upto treeCommonSpec)

/-- 'duramenlaw11.TreeSelf', WHERE WHAT IT READS IS OF BULK AT MOST 1048576: true; the input reads as it did. -/
def treeSelfUptoRow : OpenClaim := { program := "ytlcodjmjchiemaa", sum := "eaedbdf1375d683f4e14a1f1a43d5abfdc94c405cce4b448cbcb62f1843e694d", func := "duramen/duramenlaw11.TreeSelf", spec := "treeSelf", unfollowed := true, recurses := true, apart := false, narrowed := true }
def TreeSelfUptoSaid : Prop := treeSelfUptoRow.holds Try.pinned (OpenSpec.upto treeSelfSpec)

end Rows
end Go.Proofs.Ytlcodjmjchiemaa
