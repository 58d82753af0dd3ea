/-
  No cell of these rows narrows 'for every input' (looked for: loops, veiled, ifaces, maps, wideKeys, modest, calm, conditions, laid).
  DERIVED. THE GIVEN ROWS OF THIS SEAT. 6 by the template 'for every input the law returns true; each argument reads behind the call as it read before'; 0 by the template 'total and deterministic' (their statements: YtdohdbojlannaaaTotals.lean).
  GIVEN WITH THE SEED: the statements are not yours to turn. If you find one false, say at which input.
  Laid BY PROGRAM, IN A SANDBOX (cutbox-rows.mjs): the forced cells as the released guide's own fill.sh prints them over the translation 02efdc048f47a9a2… (all of the seat's roots in one cut). By AI agents, Wed Nov 11 2026. No macro, syntax, notation, axiom, sorry.
-/
import Derived.Test.YtdohdbojlannaaaChecked
import GoSem.Claim
import GoSem.ClaimJoined
import GoSem.ClaimMapViews
import Derived.JoinedTies
import Derived.KernelRfl
namespace Go.Proofs.Ytdohdbojlannaaa
/- THE CELL 'sum', in the pinned program and in every row, IS THE sha256 OF THE DUMP (.gsa) THAT YtdohdbojlannaaaProg.lean LOADS. Nothing in Lean hashes anything: it is a label: what it is worth is what the hold of that sum in a sandbox is worth. -/
noncomputable def Try.pinned : Pinned := { name := "ytdohdbojlannaaa", sum := "02efdc048f47a9a2606fe5c1f89f9c8cfa6d58bf703c8698d119c656105c4607", checked := Try.checked }
namespace Rows
def none {H : Type} : Left H := { results := [], args := [] }

/-- 'duramenlaw10.MergeNumbers': WHATEVER THE INPUT: true; the input reads as it did. -/
def mergeNumbersSpec : ChangeSpec := { name := "mergeNumbers", fn := fun _ => fun
  | [d1, d2] => { results := [.lit (.bool true)], args := [d1, d2] }
  | _ => none }
def mergeNumbersRow : OpenClaim := { program := "ytdohdbojlannaaa", sum := "02efdc048f47a9a2606fe5c1f89f9c8cfa6d58bf703c8698d119c656105c4607", func := "duramen/duramenlaw10.MergeNumbers", spec := "mergeNumbers", unfollowed := true, recurses := true, apart := false }
def MergeNumbersSaid : Prop := mergeNumbersRow.holds Try.pinned (OpenSpec.ofChange mergeNumbersSpec)

/-- ITS FALSE NEIGHBOUR: 'it returns false'. Refute it at one input. -/
def mergeNumbersWrong : ChangeSpec := { name := "mergeNumbers", fn := fun _ => fun
  | [d1, d2] => { results := [.lit (.bool false)], args := [d1, d2] }
  | _ => none }
def MergeNumbersWrongFalsely : Prop := mergeNumbersRow.holds Try.pinned (OpenSpec.ofChange mergeNumbersWrong)

/-- 'duramenlaw10.MergeVersions': WHATEVER THE INPUT: true; the input reads as it did. -/
def mergeVersionsSpec : ChangeSpec := { name := "mergeVersions", fn := fun _ => fun
  | [d] => { results := [.lit (.bool true)], args := [d] }
  | _ => none }
def mergeVersionsRow : OpenClaim := { program := "ytdohdbojlannaaa", sum := "02efdc048f47a9a2606fe5c1f89f9c8cfa6d58bf703c8698d119c656105c4607", func := "duramen/duramenlaw10.MergeVersions", spec := "mergeVersions", unfollowed := true, recurses := true, apart := false }
def MergeVersionsSaid : Prop := mergeVersionsRow.holds Try.pinned (OpenSpec.ofChange mergeVersionsSpec)

/-- ITS FALSE NEIGHBOUR: 'it returns false'. Refute it at one input. -/
def mergeVersionsWrong : ChangeSpec := { name := "mergeVersions", fn := fun _ => fun
  | [d] => { results := [.lit (.bool false)], args := [d] }
  | _ => none }
def MergeVersionsWrongFalsely : Prop := mergeVersionsRow.holds Try.pinned (OpenSpec.ofChange mergeVersionsWrong)

/-- 'duramenlaw10.MergeEnds': WHATEVER THE INPUT: true; the input reads as it did. -/
def mergeEndsSpec : ChangeSpec := { name := "mergeEnds", fn := fun _ => fun
  | [d1, d2] => { results := [.lit (.bool true)], args := [d1, d2] }
  | _ => none }
def mergeEndsRow : OpenClaim := { program := "ytdohdbojlannaaa", sum := "02efdc048f47a9a2606fe5c1f89f9c8cfa6d58bf703c8698d119c656105c4607", func := "duramen/duramenlaw10.MergeEnds", spec := "mergeEnds", unfollowed := true, recurses := true, apart := false }
def MergeEndsSaid : Prop := mergeEndsRow.holds Try.pinned (OpenSpec.ofChange mergeEndsSpec)

/-- ITS FALSE NEIGHBOUR: 'it returns false'. Refute it at one input. -/
def mergeEndsWrong : ChangeSpec := { name := "mergeEnds", fn := fun _ => fun
  | [d1, d2] => { results := [.lit (.bool false)], args := [d1, d2] }
  | _ => none }
def MergeEndsWrongFalsely : Prop := mergeEndsRow.holds Try.pinned (OpenSpec.ofChange mergeEndsWrong)

/-- 'duramenlaw10.MergeHas': WHATEVER THE INPUT: true; the input reads as it did. -/
def mergeHasSpec : ChangeSpec := { name := "mergeHas", fn := fun _ => fun
  | [d1, d2, d3] => { results := [.lit (.bool true)], args := [d1, d2, d3] }
  | _ => none }
def mergeHasRow : OpenClaim := { program := "ytdohdbojlannaaa", sum := "02efdc048f47a9a2606fe5c1f89f9c8cfa6d58bf703c8698d119c656105c4607", func := "duramen/duramenlaw10.MergeHas", spec := "mergeHas", unfollowed := true, recurses := true, apart := false }
def MergeHasSaid : Prop := mergeHasRow.holds Try.pinned (OpenSpec.ofChange mergeHasSpec)

/-- ITS FALSE NEIGHBOUR: 'it returns false'. Refute it at one input. -/
def mergeHasWrong : ChangeSpec := { name := "mergeHas", fn := fun _ => fun
  | [d1, d2, d3] => { results := [.lit (.bool false)], args := [d1, d2, d3] }
  | _ => none }
def MergeHasWrongFalsely : Prop := mergeHasRow.holds Try.pinned (OpenSpec.ofChange mergeHasWrong)

/-- 'duramenlaw10.MergeAlone': WHATEVER THE INPUT: true; the input reads as it did. -/
def mergeAloneSpec : ChangeSpec := { name := "mergeAlone", fn := fun _ => fun
  | [d1, d2] => { results := [.lit (.bool true)], args := [d1, d2] }
  | _ => none }
def mergeAloneRow : OpenClaim := { program := "ytdohdbojlannaaa", sum := "02efdc048f47a9a2606fe5c1f89f9c8cfa6d58bf703c8698d119c656105c4607", func := "duramen/duramenlaw10.MergeAlone", spec := "mergeAlone", unfollowed := true, recurses := true, apart := false }
def MergeAloneSaid : Prop := mergeAloneRow.holds Try.pinned (OpenSpec.ofChange mergeAloneSpec)

/-- ITS FALSE NEIGHBOUR: 'it returns false'. Refute it at one input. -/
def mergeAloneWrong : ChangeSpec := { name := "mergeAlone", fn := fun _ => fun
  | [d1, d2] => { results := [.lit (.bool false)], args := [d1, d2] }
  | _ => none }
def MergeAloneWrongFalsely : Prop := mergeAloneRow.holds Try.pinned (OpenSpec.ofChange mergeAloneWrong)

/-- 'duramenlaw10.MergeOnce': WHATEVER THE INPUT: true; the input reads as it did. -/
def mergeOnceSpec : ChangeSpec := { name := "mergeOnce", fn := fun _ => fun
  | [d] => { results := [.lit (.bool true)], args := [d] }
  | _ => none }
def mergeOnceRow : OpenClaim := { program := "ytdohdbojlannaaa", sum := "02efdc048f47a9a2606fe5c1f89f9c8cfa6d58bf703c8698d119c656105c4607", func := "duramen/duramenlaw10.MergeOnce", spec := "mergeOnce", unfollowed := true, recurses := true, apart := false }
def MergeOnceSaid : Prop := mergeOnceRow.holds Try.pinned (OpenSpec.ofChange mergeOnceSpec)

/-- ITS FALSE NEIGHBOUR: 'it returns false'. Refute it at one input. -/
def mergeOnceWrong : ChangeSpec := { name := "mergeOnce", fn := fun _ => fun
  | [d] => { results := [.lit (.bool false)], args := [d] }
  | _ => none }
def MergeOnceWrongFalsely : Prop := mergeOnceRow.holds Try.pinned (OpenSpec.ofChange mergeOnceWrong)

/- THE SECOND FORM. 'bulk': how many values and letters a reading holds, each counted each time it is reached (what is shared counts as often as it is met; a slice's spare places count too). A statement '..UptoSaid' is the law's where the arguments, and the package variables that the reading takes, are together of bulk at most 1048576: NARROWER than '..Said'. Prove '..Said' where nothing that the law and all that it calls make is longer than what came in: it says more and counts as full. Else prove '..UptoSaid'. A law counts once. -/
mutual
def uptoBulk {H : Type} : DataW H → Nat
  | .lit (.string bytes) => bytes.length + 1
  | .lit _ => 1
  | .nil => 1
  | .ptr d => uptoBulk d + 1
  | .slice elems spare => uptoBulkAll elems + uptoBulkAll spare + 1
  | .agg parts => uptoBulkAll parts + 1
  | .iface _ d => uptoBulk d + 1
  | .map entries => uptoBulkEntries entries + 1
  | .held _ => 1
def uptoBulkAll {H : Type} : List (DataW H) → Nat
  | [] => 0
  | d :: r => uptoBulk d + uptoBulkAll r
def uptoBulkEntries {H : Type} : List (Lit × DataW H) → Nat
  | [] => 0
  | x :: r => uptoBulkEntry x + uptoBulkEntries r
def uptoBulkEntry {H : Type} : Lit × DataW H → Nat
  | (.string bytes, d) => bytes.length + uptoBulk d + 1
  | (_, d) => uptoBulk d + 1
 end
def uptoSmall : (H : Type) → List (DataW H) → Bool := fun _ ds => decide (uptoBulkAll ds ≤ 1048576)
def OpenSpec.upto (s : _root_.Go.ChangeSpec) : _root_.Go.OpenSpec := { _root_.Go.OpenSpec.ofChange s with cond := some uptoSmall }

/-- 'duramenlaw10.MergeNumbers', WHERE WHAT IT READS IS OF BULK AT MOST 1048576: true; the input reads as it did. -/
def mergeNumbersUptoRow : OpenClaim := { program := "ytdohdbojlannaaa", sum := "02efdc048f47a9a2606fe5c1f89f9c8cfa6d58bf703c8698d119c656105c4607", func := "duramen/duramenlaw10.MergeNumbers", spec := "mergeNumbers", unfollowed := true, recurses := true, apart := false, narrowed := true }
def MergeNumbersUptoSaid : Prop := mergeNumbersUptoRow.holds Try.pinned (OpenSpec.upto mergeNumbersSpec)

/-- 'duramenlaw10.MergeVersions', WHERE WHAT IT READS IS OF BULK AT MOST 1048576: true; the input reads as it did. -/
def mergeVersionsUptoRow : OpenClaim := { program := "ytdohdbojlannaaa", sum := "02efdc048f47a9a2606fe5c1f89f9c8cfa6d58bf703c8698d119c656105c4607", func := "duramen/duramenlaw10.MergeVersions", spec := "mergeVersions", unfollowed := true, recurses := true, apart := false, narrowed := true }
def MergeVersionsUptoSaid : Prop := mergeVersionsUptoRow.holds Try.pinned (OpenSpec.upto mergeVersionsSpec)

/-- 'duramenlaw10.MergeEnds', WHERE WHAT IT READS IS OF BULK AT MOST 1048576: true; the input reads as it did. -/
def mergeEndsUptoRow : OpenClaim := { program := "ytdohdbojlannaaa", sum := "02efdc048f47a9a2606fe5c1f89f9c8cfa6d58bf703c8698d119c656105c4607", func := "duramen/duramenlaw10.MergeEnds", spec := "mergeEnds", unfollowed := true, recurses := true, apart := false, narrowed := true }
def MergeEndsUptoSaid : Prop := mergeEndsUptoRow.holds Try.pinned (OpenSpec.upto mergeEndsSpec)

/-- 'duramenlaw10.MergeHas', WHERE WHAT IT READS IS OF BULK AT MOST 1048576: true; the input reads as it did. -/
def mergeHasUptoRow : OpenClaim := { program := "ytdohdbojlannaaa", sum := "02efdc048f47a9a2606fe5c1f89f9c8cfa6d58bf703c8698d119c656105c4607", func := "duramen/duramenlaw10.MergeHas", spec := "mergeHas", unfollowed := true, recurses := true, apart := false, narrowed := true }
def MergeHasUptoSaid : Prop := mergeHasUptoRow.holds Try.pinned (OpenSpec.upto mergeHasSpec)

/-- 'duramenlaw10.MergeAlone', WHERE WHAT IT READS IS OF BULK AT MOST 1048576: true; the input reads as it did. -/
def mergeAloneUptoRow : OpenClaim := { program := "ytdohdbojlannaaa", sum := "02efdc048f47a9a2606fe5c1f89f9c8cfa6d58bf703c8698d119c656105c4607", func := "duramen/duramenlaw10.MergeAlone", spec := "mergeAlone", unfollowed := true, recurses := true, apart := false, narrowed := true }
def MergeAloneUptoSaid : Prop := mergeAloneUptoRow.holds Try.pinned (OpenSpec.upto mergeAloneSpec)

/-- 'duramenlaw10.MergeOnce', WHERE WHAT IT READS IS OF BULK AT MOST 1048576: true; the input reads as it did. -/
def mergeOnceUptoRow : OpenClaim := { program := "ytdohdbojlannaaa", sum := "02efdc048f47a9a2606fe5c1f89f9c8cfa6d58bf703c8698d119c656105c4607", func := "duramen/duramenlaw10.MergeOnce", spec := "mergeOnce", unfollowed := true, recurses := true, apart := false, narrowed := true }
def MergeOnceUptoSaid : Prop := mergeOnceUptoRow.holds Try.pinned (OpenSpec.upto mergeOnceSpec)

end Rows
end Go.Proofs.Ytdohdbojlannaaa
