/- What functions of the program come to, in the value machine (a part of the proof of the claim's statement). No condition. -/
import Derived.Test.YtnbflhcbhicgmaaGreatVnG2
import Derived.Test.YtnbflhcbhicgmaaGreatVnB6
set_option linter.unusedSimpArgs false
set_option linter.unusedVariables false
set_option maxRecDepth 20000
namespace Go.Vn
open Go.Proofs Go.ChangeShapes Go.WideShapes Go.ChangeAt Go.RowKit
theorem el_int {x : AV} (h : DeepEl Tryz.prog 3 x) : ∃ n : Int, x = .int .i64 n ∧ (-9223372036854775808 ≤ n ∧ n ≤ 9223372036854775807) := deep_int Tryz.underlying3 a3 h
end Go.Vn
