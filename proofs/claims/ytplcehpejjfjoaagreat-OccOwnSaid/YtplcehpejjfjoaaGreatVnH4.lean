/- What functions of the program come to, in the value machine (a part of the proof of the claim's statement). No condition. -/
import Derived.Test.YtplcehpejjfjoaaGreatVnH2
import Derived.Test.YtplcehpejjfjoaaGreatVnH3
set_option linter.unusedSimpArgs false
set_option linter.unusedVariables false
set_option maxRecDepth 20000
namespace Go.Vn
open Go.Proofs

structure PQ (l l1 : List Tx) (a b a' b' : Nat) : Prop where
  aa : a ≤ a'
  ab : a' ≤ b'
  bb : b' ≤ b
  pr : PR l l1 a b
  gl : Glue ltB l1 a b a' b'
  lb : LBd ltB l1 a' b'
theorem PQ.perm {l l1 l2 : List Tx} {a b a' b' : Nat} (k : PQ l l1 a b a' b') (p : PR l1 l2 a' b') : PQ l l2 a b a' b' :=
  ⟨k.aa, k.ab, k.bb, k.pr.trans (p.wide k.aa k.bb), k.gl.perm p k.aa k.bb, k.lb.perm p⟩
theorem PQ.done {l l1 l2 : List Tx} {a b a' b' : Nat} (k : PQ l l1 a b a' b') (p : PR l1 l2 a' b') (s : SortR ltB l2 a' b') : PR l l2 a b ∧ SortR ltB l2 a b :=
  ⟨(k.perm p).pr, (k.perm p).gl.sort s⟩

end Go.Vn
