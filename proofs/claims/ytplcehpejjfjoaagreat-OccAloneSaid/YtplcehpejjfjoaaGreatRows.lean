/-
  No cell of these rows narrows 'for every input' (looked for: loops, veiled, ifaces, maps, wideKeys, modest, calm, conditions, laid).
  DERIVED. THE GIVEN ROWS OF THIS SEAT. 5 by the template 'for every input the law returns true; each argument reads behind the call as it read before'; 0 by the template 'total and deterministic' (their statements: YtplcehpejjfjoaaGreatTotals.lean).
  GIVEN WITH THE SEED: the statements are not yours to turn. If you find one false, say at which input.
  Laid BY PROGRAM, IN A SANDBOX (cutbox-rows.mjs): the forced cells as the released guide's own fill.sh prints them over the translation c8c13394b7f32f80… (all of the seat's roots in one cut). By AI agents, Wed Nov 11 2026. No macro, syntax, notation, axiom, sorry.
-/
import Derived.Test.YtplcehpejjfjoaaGreatChecked
import GoSem.Claim
import GoSem.ClaimJoined
import GoSem.ClaimMapViews
import Derived.JoinedTies
import Derived.KernelRfl
namespace Go.Proofs.YtplcehpejjfjoaaGreat
/- THE CELL 'sum', in the pinned program and in every row, IS THE sha256 OF THE DUMP (.gsa) THAT YtplcehpejjfjoaaGreatProg.lean LOADS. Nothing in Lean hashes anything: it is a label: what it is worth is what the hold of that sum in a sandbox is worth. -/
noncomputable def Tryz.pinned : Pinned := { name := "ytplcehpejjfjoaagreat", sum := "c8c13394b7f32f80f679ca3a97dc4bb478031c1865cbdfe3447ff252e9563451", checked := Tryz.checked }
namespace Rows
def none {H : Type} : Left H := { results := [], args := [] }

/-- 'duramenlaw18.OccIds': WHATEVER THE INPUT: true; the input reads as it did. -/
def occIdsSpec : ChangeSpec := { name := "occIds", fn := fun _ => fun
  | [d] => { results := [.lit (.bool true)], args := [d] }
  | _ => none }
def occIdsRow : OpenClaim := { program := "ytplcehpejjfjoaagreat", sum := "c8c13394b7f32f80f679ca3a97dc4bb478031c1865cbdfe3447ff252e9563451", func := "duramen/duramenlaw18.OccIds", spec := "occIds", inPlace := ["slices.overlaps[duramen/api.Piece]"], unfollowed := true, recurses := true, apart := false }
def OccIdsSaid : Prop := occIdsRow.holds Tryz.pinned (OpenSpec.ofChange occIdsSpec)

/-- ITS FALSE NEIGHBOUR: 'it returns false'. Refute it at one input. -/
def occIdsWrong : ChangeSpec := { name := "occIds", fn := fun _ => fun
  | [d] => { results := [.lit (.bool false)], args := [d] }
  | _ => none }
def OccIdsWrongFalsely : Prop := occIdsRow.holds Tryz.pinned (OpenSpec.ofChange occIdsWrong)

/-- 'duramenlaw18.OccOwn': WHATEVER THE INPUT: true; the input reads as it did. -/
def occOwnSpec : ChangeSpec := { name := "occOwn", fn := fun _ => fun
  | [d1, d2, d3] => { results := [.lit (.bool true)], args := [d1, d2, d3] }
  | _ => none }
def occOwnRow : OpenClaim := { program := "ytplcehpejjfjoaagreat", sum := "c8c13394b7f32f80f679ca3a97dc4bb478031c1865cbdfe3447ff252e9563451", func := "duramen/duramenlaw18.OccOwn", spec := "occOwn", inPlace := ["slices.overlaps[duramen/api.Piece]"], unfollowed := true, recurses := true, apart := false }
def OccOwnSaid : Prop := occOwnRow.holds Tryz.pinned (OpenSpec.ofChange occOwnSpec)

/-- ITS FALSE NEIGHBOUR: 'it returns false'. Refute it at one input. -/
def occOwnWrong : ChangeSpec := { name := "occOwn", fn := fun _ => fun
  | [d1, d2, d3] => { results := [.lit (.bool false)], args := [d1, d2, d3] }
  | _ => none }
def OccOwnWrongFalsely : Prop := occOwnRow.holds Tryz.pinned (OpenSpec.ofChange occOwnWrong)

/-- 'duramenlaw18.OccAlone': WHATEVER THE INPUT: true; the input reads as it did. -/
def occAloneSpec : ChangeSpec := { name := "occAlone", fn := fun _ => fun
  | [d1, d2] => { results := [.lit (.bool true)], args := [d1, d2] }
  | _ => none }
def occAloneRow : OpenClaim := { program := "ytplcehpejjfjoaagreat", sum := "c8c13394b7f32f80f679ca3a97dc4bb478031c1865cbdfe3447ff252e9563451", func := "duramen/duramenlaw18.OccAlone", spec := "occAlone", inPlace := ["slices.overlaps[duramen/api.Piece]"], unfollowed := true, recurses := true, apart := false }
def OccAloneSaid : Prop := occAloneRow.holds Tryz.pinned (OpenSpec.ofChange occAloneSpec)

/-- ITS FALSE NEIGHBOUR: 'it returns false'. Refute it at one input. -/
def occAloneWrong : ChangeSpec := { name := "occAlone", fn := fun _ => fun
  | [d1, d2] => { results := [.lit (.bool false)], args := [d1, d2] }
  | _ => none }
def OccAloneWrongFalsely : Prop := occAloneRow.holds Tryz.pinned (OpenSpec.ofChange occAloneWrong)

/-- 'duramenlaw18.OccReal': WHATEVER THE INPUT: true; the input reads as it did. -/
def occRealSpec : ChangeSpec := { name := "occReal", fn := fun _ => fun
  | [d] => { results := [.lit (.bool true)], args := [d] }
  | _ => none }
def occRealRow : OpenClaim := { program := "ytplcehpejjfjoaagreat", sum := "c8c13394b7f32f80f679ca3a97dc4bb478031c1865cbdfe3447ff252e9563451", func := "duramen/duramenlaw18.OccReal", spec := "occReal", inPlace := ["slices.overlaps[duramen/api.Piece]"], unfollowed := true, recurses := true, apart := false }
def OccRealSaid : Prop := occRealRow.holds Tryz.pinned (OpenSpec.ofChange occRealSpec)

/-- ITS FALSE NEIGHBOUR: 'it returns false'. Refute it at one input. -/
def occRealWrong : ChangeSpec := { name := "occReal", fn := fun _ => fun
  | [d] => { results := [.lit (.bool false)], args := [d] }
  | _ => none }
def OccRealWrongFalsely : Prop := occRealRow.holds Tryz.pinned (OpenSpec.ofChange occRealWrong)

/-- 'duramenlaw18.OccAborted': WHATEVER THE INPUT: true; the input reads as it did. -/
def occAbortedSpec : ChangeSpec := { name := "occAborted", fn := fun _ => fun
  | [d1, d2] => { results := [.lit (.bool true)], args := [d1, d2] }
  | _ => none }
def occAbortedRow : OpenClaim := { program := "ytplcehpejjfjoaagreat", sum := "c8c13394b7f32f80f679ca3a97dc4bb478031c1865cbdfe3447ff252e9563451", func := "duramen/duramenlaw18.OccAborted", spec := "occAborted", inPlace := ["slices.overlaps[duramen/api.Piece]"], unfollowed := true, recurses := true, apart := false }
def OccAbortedSaid : Prop := occAbortedRow.holds Tryz.pinned (OpenSpec.ofChange occAbortedSpec)

/-- ITS FALSE NEIGHBOUR: 'it returns false'. Refute it at one input. -/
def occAbortedWrong : ChangeSpec := { name := "occAborted", fn := fun _ => fun
  | [d1, d2] => { results := [.lit (.bool false)], args := [d1, d2] }
  | _ => none }
def OccAbortedWrongFalsely : Prop := occAbortedRow.holds Tryz.pinned (OpenSpec.ofChange occAbortedWrong)

/- THE SECOND FORM. 'bulk': how many values and letters a reading holds, each counted each time it is reached (what is shared counts as often as it is met; a slice's spare places count too). A statement '..UptoSaid' is the law's where the arguments, and the package variables that the reading takes, are together of bulk at most 1048576: NARROWER than '..Said'. Prove '..Said' where nothing that the law and all that it calls make is longer than what came in: it says more and counts as full. Else prove '..UptoSaid'. A law counts once. -/
mutual
def uptoBulk {H : Type} : DataW H → Nat
  | .lit (.string bytes) => bytes.length + 1
  | .lit _ => 1
  | .nil => 1
  | .ptr d => uptoBulk d + 1
  | .slice elems spare => uptoBulkAll elems + uptoBulkAll spare + 1
  | .agg parts => uptoBulkAll parts + 1
  | .iface _ d => uptoBulk d + 1
  | .map entries => uptoBulkEntries entries + 1
  | .held _ => 1
def uptoBulkAll {H : Type} : List (DataW H) → Nat
  | [] => 0
  | d :: r => uptoBulk d + uptoBulkAll r
def uptoBulkEntries {H : Type} : List (Lit × DataW H) → Nat
  | [] => 0
  | x :: r => uptoBulkEntry x + uptoBulkEntries r
def uptoBulkEntry {H : Type} : Lit × DataW H → Nat
  | (.string bytes, d) => bytes.length + uptoBulk d + 1
  | (_, d) => uptoBulk d + 1
 end
def uptoSmall : (H : Type) → List (DataW H) → Bool := fun _ ds => decide (uptoBulkAll ds ≤ 1048576)
def OpenSpec.upto (s : _root_.Go.ChangeSpec) : _root_.Go.OpenSpec := { _root_.Go.OpenSpec.ofChange s with cond := some uptoSmall }

/-- 'duramenlaw18.OccIds', WHERE WHAT IT READS IS OF BULK AT MOST 1048576: true; the input reads as it did. -/
def occIdsUptoRow : OpenClaim := { program := "ytplcehpejjfjoaagreat", sum := "c8c13394b7f32f80f679ca3a97dc4bb478031c1865cbdfe3447ff252e9563451", func := "duramen/duramenlaw18.OccIds", spec := "occIds", inPlace := ["slices.overlaps[duramen/api.Piece]"], unfollowed := true, recurses := true, apart := false, narrowed := true }
def OccIdsUptoSaid : Prop := occIdsUptoRow.holds Tryz.pinned (OpenSpec.upto occIdsSpec)

/-- 'duramenlaw18.OccOwn', WHERE WHAT IT READS IS OF BULK AT MOST 1048576: true; the input reads as it did. -/
def occOwnUptoRow : OpenClaim := { program := "ytplcehpejjfjoaagreat", sum := "c8c13394b7f32f80f679ca3a97dc4bb478031c1865cbdfe3447ff252e9563451", func := "duramen/duramenlaw18.OccOwn", spec := "occOwn", inPlace := ["slices.overlaps[duramen/api.Piece]"], unfollowed := true, recurses := true, apart := false, narrowed := true }
def OccOwnUptoSaid : Prop := occOwnUptoRow.holds Tryz.pinned (OpenSpec.upto occOwnSpec)

/-- 'duramenlaw18.OccAlone', WHERE WHAT IT READS IS OF BULK AT MOST 1048576: true; the input reads as it did. -/
def occAloneUptoRow : OpenClaim := { program := "ytplcehpejjfjoaagreat", sum := "c8c13394b7f32f80f679ca3a97dc4bb478031c1865cbdfe3447ff252e9563451", func := "duramen/duramenlaw18.OccAlone", spec := "occAlone", inPlace := ["slices.overlaps[duramen/api.Piece]"], unfollowed := true, recurses := true, apart := false, narrowed := true }
def OccAloneUptoSaid : Prop := occAloneUptoRow.holds Tryz.pinned (OpenSpec.upto occAloneSpec)

/-- 'duramenlaw18.OccReal', WHERE WHAT IT READS IS OF BULK AT MOST 1048576: true; the input reads as it did. -/
def occRealUptoRow : OpenClaim := { program := "ytplcehpejjfjoaagreat", sum := "c8c13394b7f32f80f679ca3a97dc4bb478031c1865cbdfe3447ff252e9563451", func := "duramen/duramenlaw18.OccReal", spec := "occReal", inPlace := ["slices.overlaps[duramen/api.Piece]"], unfollowed := true, recurses := true, apart := false, narrowed := true }
def OccRealUptoSaid : Prop := occRealUptoRow.holds Tryz.pinned (OpenSpec.upto occRealSpec)

/-- 'duramenlaw18.OccAborted', WHERE WHAT IT READS IS OF BULK AT MOST 1048576: true; the input reads as it did. -/
def occAbortedUptoRow : OpenClaim := { program := "ytplcehpejjfjoaagreat", sum := "c8c13394b7f32f80f679ca3a97dc4bb478031c1865cbdfe3447ff252e9563451", func := "duramen/duramenlaw18.OccAborted", spec := "occAborted", inPlace := ["slices.overlaps[duramen/api.Piece]"], unfollowed := true, recurses := true, apart := false, narrowed := true }
def OccAbortedUptoSaid : Prop := occAbortedUptoRow.holds Tryz.pinned (OpenSpec.upto occAbortedSpec)

end Rows
end Go.Proofs.YtplcehpejjfjoaaGreat
