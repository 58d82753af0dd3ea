/- What functions of the program come to, in the value machine (a part of the proof of the claim's statement). No condition. -/
import Derived.Test.YtplcehpejjfjoaaGreatVnG1
import Derived.Test.YtplcehpejjfjoaaGreatVnG2
set_option linter.unusedSimpArgs false
set_option linter.unusedVariables false
set_option maxRecDepth 20000
namespace Go.Vn
open Go.Proofs

abbrev Tx : Type := List UInt8
abbrev SR (h0 h : Hp Fm) (o : Nat) (J : List AV) (l : List Tx) : Prop := SRow AV.str h0 h o J l
end Go.Vn

set_option maxRecDepth 20000
namespace Go.Vn
open Go.Proofs

def tabOk (s : ByteArray) : Bool := (List.range 256).all fun n => n == 0 || decide (2 ^ (s.data.toList.getD n 0).toNat ≤ 2 * n)
end Go.Vn

set_option maxRecDepth 20000
namespace Go.Vn
open Go.Proofs


end Go.Vn

set_option maxRecDepth 20000
namespace Go.Vn
open Go.Proofs

end Go.Vn
