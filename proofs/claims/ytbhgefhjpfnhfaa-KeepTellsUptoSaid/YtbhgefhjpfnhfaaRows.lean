/-
  No cell of these rows narrows 'for every input' (looked for: loops, veiled, ifaces, maps, wideKeys, modest, calm, conditions, laid).
  DERIVED. THE GIVEN ROWS OF THIS SEAT. 3 by the template 'for every input the law returns true; each argument reads behind the call as it read before'; 0 by the template 'total and deterministic' (their statements: YtbhgefhjpfnhfaaTotals.lean).
  GIVEN WITH THE SEED: the statements are not yours to turn. If you find one false, say at which input.
  Laid BY PROGRAM, IN A SANDBOX (cutbox-rows.mjs): the forced cells as the released guide's own fill.sh prints them over the translation 25483cb39b834cf3… (all of the seat's roots in one cut). By AI agents, Wed Nov 11 2026. No macro, syntax, notation, axiom, sorry.
-/
import Derived.Test.YtbhgefhjpfnhfaaChecked
import GoSem.Claim
import GoSem.ClaimJoined
import GoSem.ClaimMapViews
import Derived.JoinedTies
import Derived.KernelRfl
namespace Go.Proofs.Ytbhgefhjpfnhfaa
/- THE CELL 'sum', in the pinned program and in every row, IS THE sha256 OF THE DUMP (.gsa) THAT YtbhgefhjpfnhfaaProg.lean LOADS. Nothing in Lean hashes anything: it is a label: what it is worth is what the hold of that sum in a sandbox is worth. -/
noncomputable def Try.pinned : Pinned := { name := "ytbhgefhjpfnhfaa", sum := "25483cb39b834cf35b1a9eb8f2223d938809a29b8917674f6091261ab3903718", checked := Try.checked }
namespace Rows
def none {H : Type} : Left H := { results := [], args := [] }

/-- 'duramenlaw17.KeepMore': WHATEVER THE INPUT: true; the input reads as it did. -/
def keepMoreSpec : ChangeSpec := { name := "keepMore", fn := fun _ => fun
  | [d1, d2, d3] => { results := [.lit (.bool true)], args := [d1, d2, d3] }
  | _ => none }
def keepMoreRow : OpenClaim := { program := "ytbhgefhjpfnhfaa", sum := "25483cb39b834cf35b1a9eb8f2223d938809a29b8917674f6091261ab3903718", func := "duramen/duramenlaw17.KeepMore", spec := "keepMore", inPlace := ["slices.overlaps[duramen/api.Piece]"], unfollowed := true, recurses := true, plainKeys := false, apart := false }
def KeepMoreSaid : Prop := keepMoreRow.holds Try.pinned (OpenSpec.ofChange keepMoreSpec)

/-- ITS FALSE NEIGHBOUR: 'it returns false'. Refute it at one input. -/
def keepMoreWrong : ChangeSpec := { name := "keepMore", fn := fun _ => fun
  | [d1, d2, d3] => { results := [.lit (.bool false)], args := [d1, d2, d3] }
  | _ => none }
def KeepMoreWrongFalsely : Prop := keepMoreRow.holds Try.pinned (OpenSpec.ofChange keepMoreWrong)

/-- 'duramenlaw17.KeepFloors': WHATEVER THE INPUT: true; the input reads as it did. -/
def keepFloorsSpec : ChangeSpec := { name := "keepFloors", fn := fun _ => fun
  | [d1, d2, d3] => { results := [.lit (.bool true)], args := [d1, d2, d3] }
  | _ => none }
def keepFloorsRow : OpenClaim := { program := "ytbhgefhjpfnhfaa", sum := "25483cb39b834cf35b1a9eb8f2223d938809a29b8917674f6091261ab3903718", func := "duramen/duramenlaw17.KeepFloors", spec := "keepFloors", inPlace := ["slices.overlaps[duramen/api.Piece]"], unfollowed := true, recurses := true, plainKeys := false, apart := false }
def KeepFloorsSaid : Prop := keepFloorsRow.holds Try.pinned (OpenSpec.ofChange keepFloorsSpec)

/-- ITS FALSE NEIGHBOUR: 'it returns false'. Refute it at one input. -/
def keepFloorsWrong : ChangeSpec := { name := "keepFloors", fn := fun _ => fun
  | [d1, d2, d3] => { results := [.lit (.bool false)], args := [d1, d2, d3] }
  | _ => none }
def KeepFloorsWrongFalsely : Prop := keepFloorsRow.holds Try.pinned (OpenSpec.ofChange keepFloorsWrong)

/-- 'duramenlaw17.KeepTells': WHATEVER THE INPUT: true; the input reads as it did. -/
def keepTellsSpec : ChangeSpec := { name := "keepTells", fn := fun _ => fun
  | [d1, d2, d3] => { results := [.lit (.bool true)], args := [d1, d2, d3] }
  | _ => none }
def keepTellsRow : OpenClaim := { program := "ytbhgefhjpfnhfaa", sum := "25483cb39b834cf35b1a9eb8f2223d938809a29b8917674f6091261ab3903718", func := "duramen/duramenlaw17.KeepTells", spec := "keepTells", inPlace := ["slices.overlaps[duramen/api.Piece]"], unfollowed := true, recurses := true, plainKeys := false, apart := false }
def KeepTellsSaid : Prop := keepTellsRow.holds Try.pinned (OpenSpec.ofChange keepTellsSpec)

/-- ITS FALSE NEIGHBOUR: 'it returns false'. Refute it at one input. -/
def keepTellsWrong : ChangeSpec := { name := "keepTells", fn := fun _ => fun
  | [d1, d2, d3] => { results := [.lit (.bool false)], args := [d1, d2, d3] }
  | _ => none }
def KeepTellsWrongFalsely : Prop := keepTellsRow.holds Try.pinned (OpenSpec.ofChange keepTellsWrong)

/- THE SECOND FORM. 'bulk': how many values and letters a reading holds, each counted each time it is reached (what is shared counts as often as it is met; a slice's spare places count too). A statement '..UptoSaid' is the law's where the arguments, and the package variables that the reading takes, are together of bulk at most 1048576: NARROWER than '..Said'. Prove '..Said' where nothing that the law and all that it calls make is longer than what came in: it says more and counts as full. Else prove '..UptoSaid'. A law counts once. -/
mutual
def uptoBulk {H : Type} : DataW H → Nat
  | .lit (.string bytes) => bytes.length + 1
  | .lit _ => 1
  | .nil => 1
  | .ptr d => uptoBulk d + 1
  | .slice elems spare => uptoBulkAll elems + uptoBulkAll spare + 1
  | .agg parts => uptoBulkAll parts + 1
  | .iface _ d => uptoBulk d + 1
  | .map entries => uptoBulkEntries entries + 1
  | .held _ => 1
def uptoBulkAll {H : Type} : List (DataW H) → Nat
  | [] => 0
  | d :: r => uptoBulk d + uptoBulkAll r
def uptoBulkEntries {H : Type} : List (Lit × DataW H) → Nat
  | [] => 0
  | x :: r => uptoBulkEntry x + uptoBulkEntries r
def uptoBulkEntry {H : Type} : Lit × DataW H → Nat
  | (.string bytes, d) => bytes.length + uptoBulk d + 1
  | (_, d) => uptoBulk d + 1
 end
def uptoSmall : (H : Type) → List (DataW H) → Bool := fun _ ds => decide (uptoBulkAll ds ≤ 1048576)
def OpenSpec.upto (s : _root_.Go.ChangeSpec) : _root_.Go.OpenSpec := { _root_.Go.OpenSpec.ofChange s with cond := some uptoSmall }

/-- 'duramenlaw17.KeepMore', WHERE WHAT IT READS IS OF BULK AT MOST 1048576: true; the input reads as it did. -/
def keepMoreUptoRow : OpenClaim := { program := "ytbhgefhjpfnhfaa", sum := "25483cb39b834cf35b1a9eb8f2223d938809a29b8917674f6091261ab3903718", func := "duramen/duramenlaw17.KeepMore", spec := "keepMore", inPlace := ["slices.overlaps[duramen/api.Piece]"], unfollowed := true, recurses := true, plainKeys := false, apart := false, narrowed := true }
def KeepMoreUptoSaid : Prop := keepMoreUptoRow.holds Try.pinned (OpenSpec.upto keepMoreSpec)

/-- 'duramenlaw17.KeepFloors', WHERE WHAT IT READS IS OF BULK AT MOST 1048576: true; the input reads as it did. -/
def keepFloorsUptoRow : OpenClaim := { program := "ytbhgefhjpfnhfaa", sum := "25483cb39b834cf35b1a9eb8f2223d938809a29b8917674f6091261ab3903718", func := "duramen/duramenlaw17.KeepFloors", spec := "keepFloors", inPlace := ["slices.overlaps[duramen/api.Piece]"], unfollowed := true, recurses := true, plainKeys := false, apart := false, narrowed := true }
def KeepFloorsUptoSaid : Prop := keepFloorsUptoRow.holds Try.pinned (OpenSpec.upto keepFloorsSpec)

/-- 'duramenlaw17.KeepTells', WHERE WHAT IT READS IS OF BULK AT MOST 1048576: true; the input reads as it did. -/
def keepTellsUptoRow : OpenClaim := { program := "ytbhgefhjpfnhfaa", sum := "25483cb39b834cf35b1a9eb8f2223d938809a29b8917674f6091261ab3903718", func := "duramen/duramenlaw17.KeepTells", spec := "keepTells", inPlace := ["slices.overlaps[duramen/api.Piece]"], unfollowed := true, recurses := true, plainKeys := false, apart := false, narrowed := true }
def KeepTellsUptoSaid : Prop := keepTellsUptoRow.holds Try.pinned (OpenSpec.upto keepTellsSpec)

end Rows
end Go.Proofs.Ytbhgefhjpfnhfaa
