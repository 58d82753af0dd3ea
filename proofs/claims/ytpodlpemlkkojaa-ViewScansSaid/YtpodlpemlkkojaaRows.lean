/-
  No cell of these rows narrows 'for every input' (looked for: loops, veiled, ifaces, maps, wideKeys, modest, calm, conditions, laid).
  DERIVED. THE GIVEN ROWS OF THIS SEAT. 4 by the template 'for every input the law returns true; each argument reads behind the call as it read before'; 0 by the template 'total and deterministic' (their statements: YtpodlpemlkkojaaTotals.lean).
  GIVEN WITH THE SEED: the statements are not yours to turn. If you find one false, say at which input.
  Laid BY PROGRAM, IN A SANDBOX (cutbox-rows.mjs): the forced cells as the released guide's own fill.sh prints them over the translation bc35841aac9ea837… (all of the seat's roots in one cut). By AI agents, Wed Nov 11 2026. No macro, syntax, notation, axiom, sorry.
-/
import Derived.Test.YtpodlpemlkkojaaChecked
import GoSem.Claim
import GoSem.ClaimJoined
import GoSem.ClaimMapViews
import Derived.JoinedTies
import Derived.KernelRfl
namespace Go.Proofs.Ytpodlpemlkkojaa
/- THE CELL 'sum', in the pinned program and in every row, IS THE sha256 OF THE DUMP (.gsa) THAT YtpodlpemlkkojaaProg.lean LOADS. Nothing in Lean hashes anything: it is a label: what it is worth is what the hold of that sum in a sandbox is worth. -/
noncomputable def Try.pinned : Pinned := { name := "ytpodlpemlkkojaa", sum := "bc35841aac9ea837716f6e9613aa58b1355c014e7047c628f09fe5a7c60c9baa", checked := Try.checked }
namespace Rows
def none {H : Type} : Left H := { results := [], args := [] }

/-- 'duramenlaw14.ViewPieces': WHATEVER THE INPUT: true; the input reads as it did. -/
def viewPiecesSpec : ChangeSpec := { name := "viewPieces", fn := fun _ => fun
  | [d1, d2] => { results := [.lit (.bool true)], args := [d1, d2] }
  | _ => none }
def viewPiecesRow : OpenClaim := { program := "ytpodlpemlkkojaa", sum := "bc35841aac9ea837716f6e9613aa58b1355c014e7047c628f09fe5a7c60c9baa", func := "duramen/duramenlaw14.ViewPieces", spec := "viewPieces", inPlace := ["slices.overlaps[duramen/api.Piece]"], unfollowed := true, recurses := true, apart := false }
def ViewPiecesSaid : Prop := viewPiecesRow.holds Try.pinned (OpenSpec.ofChange viewPiecesSpec)

/-- ITS FALSE NEIGHBOUR: 'it returns false'. Refute it at one input. -/
def viewPiecesWrong : ChangeSpec := { name := "viewPieces", fn := fun _ => fun
  | [d1, d2] => { results := [.lit (.bool false)], args := [d1, d2] }
  | _ => none }
def ViewPiecesWrongFalsely : Prop := viewPiecesRow.holds Try.pinned (OpenSpec.ofChange viewPiecesWrong)

/-- 'duramenlaw14.ViewRow': WHATEVER THE INPUT: true; the input reads as it did. -/
def viewRowSpec : ChangeSpec := { name := "viewRow", fn := fun _ => fun
  | [d1, d2, d3] => { results := [.lit (.bool true)], args := [d1, d2, d3] }
  | _ => none }
def viewRowRow : OpenClaim := { program := "ytpodlpemlkkojaa", sum := "bc35841aac9ea837716f6e9613aa58b1355c014e7047c628f09fe5a7c60c9baa", func := "duramen/duramenlaw14.ViewRow", spec := "viewRow", inPlace := ["slices.overlaps[duramen/api.Piece]"], unfollowed := true, recurses := true, apart := false }
def ViewRowSaid : Prop := viewRowRow.holds Try.pinned (OpenSpec.ofChange viewRowSpec)

/-- ITS FALSE NEIGHBOUR: 'it returns false'. Refute it at one input. -/
def viewRowWrong : ChangeSpec := { name := "viewRow", fn := fun _ => fun
  | [d1, d2, d3] => { results := [.lit (.bool false)], args := [d1, d2, d3] }
  | _ => none }
def ViewRowWrongFalsely : Prop := viewRowRow.holds Try.pinned (OpenSpec.ofChange viewRowWrong)

/-- 'duramenlaw14.ViewAgrees': WHATEVER THE INPUT: true; the input reads as it did. -/
def viewAgreesSpec : ChangeSpec := { name := "viewAgrees", fn := fun _ => fun
  | [d1, d2, d3] => { results := [.lit (.bool true)], args := [d1, d2, d3] }
  | _ => none }
def viewAgreesRow : OpenClaim := { program := "ytpodlpemlkkojaa", sum := "bc35841aac9ea837716f6e9613aa58b1355c014e7047c628f09fe5a7c60c9baa", func := "duramen/duramenlaw14.ViewAgrees", spec := "viewAgrees", inPlace := ["slices.overlaps[duramen/api.Piece]"], unfollowed := true, recurses := true, apart := false }
def ViewAgreesSaid : Prop := viewAgreesRow.holds Try.pinned (OpenSpec.ofChange viewAgreesSpec)

/-- ITS FALSE NEIGHBOUR: 'it returns false'. Refute it at one input. -/
def viewAgreesWrong : ChangeSpec := { name := "viewAgrees", fn := fun _ => fun
  | [d1, d2, d3] => { results := [.lit (.bool false)], args := [d1, d2, d3] }
  | _ => none }
def ViewAgreesWrongFalsely : Prop := viewAgreesRow.holds Try.pinned (OpenSpec.ofChange viewAgreesWrong)

/-- 'duramenlaw14.ViewScans': WHATEVER THE INPUT: true; the input reads as it did. -/
def viewScansSpec : ChangeSpec := { name := "viewScans", fn := fun _ => fun
  | [d1, d2, d3] => { results := [.lit (.bool true)], args := [d1, d2, d3] }
  | _ => none }
def viewScansRow : OpenClaim := { program := "ytpodlpemlkkojaa", sum := "bc35841aac9ea837716f6e9613aa58b1355c014e7047c628f09fe5a7c60c9baa", func := "duramen/duramenlaw14.ViewScans", spec := "viewScans", inPlace := ["slices.overlaps[duramen/api.Piece]"], unfollowed := true, recurses := true, apart := false }
def ViewScansSaid : Prop := viewScansRow.holds Try.pinned (OpenSpec.ofChange viewScansSpec)

/-- ITS FALSE NEIGHBOUR: 'it returns false'. Refute it at one input. -/
def viewScansWrong : ChangeSpec := { name := "viewScans", fn := fun _ => fun
  | [d1, d2, d3] => { results := [.lit (.bool false)], args := [d1, d2, d3] }
  | _ => none }
def ViewScansWrongFalsely : Prop := viewScansRow.holds Try.pinned (OpenSpec.ofChange viewScansWrong)

/- THE SECOND FORM. 'bulk': how many values and letters a reading holds, each counted each time it is reached (what is shared counts as often as it is met; a slice's spare places count too). A statement '..UptoSaid' is the law's where the arguments, and the package variables that the reading takes, are together of bulk at most 1048576: NARROWER than '..Said'. Prove '..Said' where nothing that the law and all that it calls make is longer than what came in: it says more and counts as full. Else prove '..UptoSaid'. A law counts once. -/
mutual
def uptoBulk {H : Type} : DataW H → Nat
  | .lit (.string bytes) => bytes.length + 1
  | .lit _ => 1
  | .nil => 1
  | .ptr d => uptoBulk d + 1
  | .slice elems spare => uptoBulkAll elems + uptoBulkAll spare + 1
  | .agg parts => uptoBulkAll parts + 1
  | .iface _ d => uptoBulk d + 1
  | .map entries => uptoBulkEntries entries + 1
  | .held _ => 1
def uptoBulkAll {H : Type} : List (DataW H) → Nat
  | [] => 0
  | d :: r => uptoBulk d + uptoBulkAll r
def uptoBulkEntries {H : Type} : List (Lit × DataW H) → Nat
  | [] => 0
  | x :: r => uptoBulkEntry x + uptoBulkEntries r
def uptoBulkEntry {H : Type} : Lit × DataW H → Nat
  | (.string bytes, d) => bytes.length + uptoBulk d + 1
  | (_, d) => uptoBulk d + 1
 end
def uptoSmall : (H : Type) → List (DataW H) → Bool := fun _ ds => decide (uptoBulkAll ds ≤ 1048576)
def OpenSpec.upto (s : _root_.Go.ChangeSpec) : _root_.Go.OpenSpec := { _root_.Go.OpenSpec.ofChange s with cond := some uptoSmall }

/-- 'duramenlaw14.ViewPieces', WHERE WHAT IT READS IS OF BULK AT MOST 1048576: true; the input reads as it did. -/
def viewPiecesUptoRow : OpenClaim := { program := "ytpodlpemlkkojaa", sum := "bc35841aac9ea837716f6e9613aa58b1355c014e7047c628f09fe5a7c60c9baa", func := "duramen/duramenlaw14.ViewPieces", spec := "viewPieces", inPlace := ["slices.overlaps[duramen/api.Piece]"], unfollowed := true, recurses := true, apart := false, narrowed := true }
def ViewPiecesUptoSaid : Prop := viewPiecesUptoRow.holds Try.pinned (OpenSpec.upto viewPiecesSpec)

/-- 'duramenlaw14.ViewRow', WHERE WHAT IT READS IS OF BULK AT MOST 1048576: true; the input reads as it did. -/
def viewRowUptoRow : OpenClaim := { program := "ytpodlpemlkkojaa", sum := "bc35841aac9ea837716f6e9613aa58b1355c014e7047c628f09fe5a7c60c9baa", func := "duramen/duramenlaw14.ViewRow", spec := "viewRow", inPlace := ["slices.overlaps[duramen/api.Piece]"], unfollowed := true, recurses := true, apart := false, narrowed := true }
def ViewRowUptoSaid : Prop := viewRowUptoRow.holds Try.pinned (OpenSpec.upto viewRowSpec)

/-- 'duramenlaw14.ViewAgrees', WHERE WHAT IT READS IS OF BULK AT MOST 1048576: true; the input reads as it did. -/
def viewAgreesUptoRow : OpenClaim := { program := "ytpodlpemlkkojaa", sum := "bc35841aac9ea837716f6e9613aa58b1355c014e7047c628f09fe5a7c60c9baa", func := "duramen/duramenlaw14.ViewAgrees", spec := "viewAgrees", inPlace := ["slices.overlaps[duramen/api.Piece]"], unfollowed := true, recurses := true, apart := false, narrowed := true }
def ViewAgreesUptoSaid : Prop := viewAgreesUptoRow.holds Try.pinned (OpenSpec.upto viewAgreesSpec)

/-- 'duramenlaw14.ViewScans', WHERE WHAT IT READS IS OF BULK AT MOST 1048576: true; the input reads as it did. -/
def viewScansUptoRow : OpenClaim := { program := "ytpodlpemlkkojaa", sum := "bc35841aac9ea837716f6e9613aa58b1355c014e7047c628f09fe5a7c60c9baa", func := "duramen/duramenlaw14.ViewScans", spec := "viewScans", inPlace := ["slices.overlaps[duramen/api.Piece]"], unfollowed := true, recurses := true, apart := false, narrowed := true }
def ViewScansUptoSaid : Prop := viewScansUptoRow.holds Try.pinned (OpenSpec.upto viewScansSpec)

end Rows
end Go.Proofs.Ytpodlpemlkkojaa
