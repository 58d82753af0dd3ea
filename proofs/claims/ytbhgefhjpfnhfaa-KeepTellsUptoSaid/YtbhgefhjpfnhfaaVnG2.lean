/- What functions of the program come to, in the value machine (a part of the proof of the claim's statement). No condition. -/
import Derived.Test.YtbhgefhjpfnhfaaVnG1
import Derived.Test.YtbhgefhjpfnhfaaVnB5
import Derived.Test.YtbhgefhjpfnhfaaProg
import Derived.KernelRfl
set_option linter.unusedSimpArgs false
set_option linter.unusedVariables false
set_option maxRecDepth 20000
namespace Go.Vn
open Go.Proofs

def TT : Tab := fun f => match f with
  | 28 => some (· == 38)
  | 37 => some (· == 75)
  | 36 => some (· == 75)
  | 21 => some (· == 48)
  | 8 => some (· == 38)
  | 3 => some (· == 42)
  | 4 => some (· == 42)
  | 5 => some (· == 42)
  | _ => none

attribute [simp] Try.underlying3 Try.underlying4 Try.underlying5 Try.underlying9 Try.underlying22 Try.underlying23 Try.underlying24 Try.underlying25 Try.underlying27 Try.underlying29 Try.underlying34 Try.underlying36 Try.underlying38 Try.underlying42 Try.underlying44 Try.underlying48 Try.underlying53 Try.underlying56 Try.underlying58 Try.underlying61 Try.underlying65 Try.underlying72 Try.underlying73 Try.underlying75 Try.underlying84 Try.underlying85 Try.underlying86 Try.underlying89 Try.underlying93 Try.underlying96 Try.underlying101 Try.underlying104 Try.underlying110 Try.underlying118 Try.underlying120 Try.underlying123 Try.underlying126 Try.underlying128 Try.underlying129 Try.underlying133 Try.underlying137
@[simp] theorem z3 : tsize Try.prog 3 = some 1 := by kernel_rfl
@[simp] theorem b3 : tbytes Try.prog 3 = some 8 := by kernel_rfl
@[simp] theorem a3 : tagg Try.prog 3 = some false := by kernel_rfl
@[simp] theorem t3 : tzero Try.prog 3 = some (.int .i64 0) := by kernel_rfl
@[simp] theorem z4 : tsize Try.prog 4 = some 1 := by kernel_rfl
@[simp] theorem b4 : tbytes Try.prog 4 = some 1 := by kernel_rfl
@[simp] theorem a4 : tagg Try.prog 4 = some false := by kernel_rfl
@[simp] theorem t4 : tzero Try.prog 4 = some (.bool false) := by kernel_rfl
@[simp] theorem z5 : tsize Try.prog 5 = some 1 := by kernel_rfl
@[simp] theorem b5 : tbytes Try.prog 5 = some 1 := by kernel_rfl
@[simp] theorem a5 : tagg Try.prog 5 = some false := by kernel_rfl
@[simp] theorem t5 : tzero Try.prog 5 = some (.int .u8 0) := by kernel_rfl
@[simp] theorem z9 : tsize Try.prog 9 = some 1 := by kernel_rfl
@[simp] theorem b9 : tbytes Try.prog 9 = some 16 := by kernel_rfl
@[simp] theorem a9 : tagg Try.prog 9 = some false := by kernel_rfl
@[simp] theorem t9 : tzero Try.prog 9 = some (.str []) := by kernel_rfl
@[simp] theorem z22 : tsize Try.prog 22 = some 1 := by kernel_rfl
@[simp] theorem b22 : tbytes Try.prog 22 = some 24 := by kernel_rfl
@[simp] theorem a22 : tagg Try.prog 22 = some false := by kernel_rfl
@[simp] theorem t22 : tzero Try.prog 22 = some (.nils) := by kernel_rfl
@[simp] theorem z23 : tsize Try.prog 23 = some 1 := by kernel_rfl
@[simp] theorem b23 : tbytes Try.prog 23 = some 24 := by kernel_rfl
@[simp] theorem a23 : tagg Try.prog 23 = some false := by kernel_rfl
@[simp] theorem t23 : tzero Try.prog 23 = some (.nils) := by kernel_rfl
@[simp] theorem z24 : tsize Try.prog 24 = some 1 := by kernel_rfl
@[simp] theorem b24 : tbytes Try.prog 24 = some 24 := by kernel_rfl
@[simp] theorem a24 : tagg Try.prog 24 = some false := by kernel_rfl
@[simp] theorem t24 : tzero Try.prog 24 = some (.nils) := by kernel_rfl
@[simp] theorem z25 : tsize Try.prog 25 = some 1 := by kernel_rfl
@[simp] theorem b25 : tbytes Try.prog 25 = some 24 := by kernel_rfl
@[simp] theorem a25 : tagg Try.prog 25 = some false := by kernel_rfl
@[simp] theorem t25 : tzero Try.prog 25 = some (.nils) := by kernel_rfl
@[simp] theorem z27 : tsize Try.prog 27 = some 6 := by kernel_rfl
@[simp] theorem b27 : tbytes Try.prog 27 = some 104 := by kernel_rfl
@[simp] theorem a27 : tagg Try.prog 27 = some true := by kernel_rfl
@[simp] theorem t27 : tzero Try.prog 27 = some (.agg [.int .i64 0, .int .i64 0, .nils, .nils, .nils, .str []]) := by kernel_rfl
@[simp] theorem z29 : tsize Try.prog 29 = some 3 := by kernel_rfl
@[simp] theorem b29 : tbytes Try.prog 29 = some 32 := by kernel_rfl
@[simp] theorem a29 : tagg Try.prog 29 = some true := by kernel_rfl
@[simp] theorem t29 : tzero Try.prog 29 = some (.agg [.str [], .int .i64 0, .int .i64 0]) := by kernel_rfl
@[simp] theorem z34 : tsize Try.prog 34 = some 3 := by kernel_rfl
@[simp] theorem b34 : tbytes Try.prog 34 = some 24 := by kernel_rfl
@[simp] theorem a34 : tagg Try.prog 34 = some true := by kernel_rfl
@[simp] theorem t34 : tzero Try.prog 34 = some (.agg [.int .i64 0, .int .i64 0, .int .i64 0]) := by kernel_rfl
@[simp] theorem z36 : tsize Try.prog 36 = some 2 := by kernel_rfl
@[simp] theorem b36 : tbytes Try.prog 36 = some 16 := by kernel_rfl
@[simp] theorem a36 : tagg Try.prog 36 = some true := by kernel_rfl
@[simp] theorem t36 : tzero Try.prog 36 = some (.agg [.int .i64 0, .int .i64 0]) := by kernel_rfl
@[simp] theorem z38 : tsize Try.prog 38 = some 8 := by kernel_rfl
@[simp] theorem b38 : tbytes Try.prog 38 = some 80 := by kernel_rfl
@[simp] theorem a38 : tagg Try.prog 38 = some true := by kernel_rfl
@[simp] theorem t38 : tzero Try.prog 38 = some (.agg [.str [], .int .i64 0, .int .i64 0, .int .i64 0, .int .i64 0, .int .i64 0, .str [], .bool false]) := by kernel_rfl
@[simp] theorem z42 : tsize Try.prog 42 = some 4 := by kernel_rfl
@[simp] theorem b42 : tbytes Try.prog 42 = some 32 := by kernel_rfl
@[simp] theorem a42 : tagg Try.prog 42 = some true := by kernel_rfl
@[simp] theorem t42 : tzero Try.prog 42 = some (.agg [.int .i64 0, .int .i64 0, .int .i64 0, .bool false]) := by kernel_rfl
@[simp] theorem z44 : tsize Try.prog 44 = some 1 := by kernel_rfl
@[simp] theorem b44 : tbytes Try.prog 44 = some 24 := by kernel_rfl
@[simp] theorem a44 : tagg Try.prog 44 = some false := by kernel_rfl
@[simp] theorem t44 : tzero Try.prog 44 = some (.nils) := by kernel_rfl
@[simp] theorem z48 : tsize Try.prog 48 = some 2 := by kernel_rfl
@[simp] theorem b48 : tbytes Try.prog 48 = some 16 := by kernel_rfl
@[simp] theorem a48 : tagg Try.prog 48 = some true := by kernel_rfl
@[simp] theorem t48 : tzero Try.prog 48 = some (.agg [.int .i64 0, .int .i64 0]) := by kernel_rfl
@[simp] theorem z53 : tsize Try.prog 53 = some 1 := by kernel_rfl
@[simp] theorem b53 : tbytes Try.prog 53 = some 8 := by kernel_rfl
@[simp] theorem a53 : tagg Try.prog 53 = some false := by kernel_rfl
@[simp] theorem t53 : tzero Try.prog 53 = some (.nilm) := by kernel_rfl
@[simp] theorem z56 : tsize Try.prog 56 = some 1 := by kernel_rfl
@[simp] theorem b56 : tbytes Try.prog 56 = some 8 := by kernel_rfl
@[simp] theorem a56 : tagg Try.prog 56 = some false := by kernel_rfl
@[simp] theorem t56 : tzero Try.prog 56 = some (.nilf) := by kernel_rfl
@[simp] theorem z58 : tsize Try.prog 58 = some 1 := by kernel_rfl
@[simp] theorem b58 : tbytes Try.prog 58 = some 8 := by kernel_rfl
@[simp] theorem a58 : tagg Try.prog 58 = some false := by kernel_rfl
@[simp] theorem t58 : tzero Try.prog 58 = some (.nilm) := by kernel_rfl
@[simp] theorem z61 : tsize Try.prog 61 = some 1 := by kernel_rfl
@[simp] theorem b61 : tbytes Try.prog 61 = some 8 := by kernel_rfl
@[simp] theorem a61 : tagg Try.prog 61 = some false := by kernel_rfl
@[simp] theorem t61 : tzero Try.prog 61 = some (.nilf) := by kernel_rfl
@[simp] theorem z65 : tsize Try.prog 65 = some 1 := by kernel_rfl
@[simp] theorem b65 : tbytes Try.prog 65 = some 8 := by kernel_rfl
@[simp] theorem a65 : tagg Try.prog 65 = some false := by kernel_rfl
@[simp] theorem t65 : tzero Try.prog 65 = some (.nilf) := by kernel_rfl
@[simp] theorem z72 : tsize Try.prog 72 = some 1 := by kernel_rfl
@[simp] theorem b72 : tbytes Try.prog 72 = some 24 := by kernel_rfl
@[simp] theorem a72 : tagg Try.prog 72 = some false := by kernel_rfl
@[simp] theorem t72 : tzero Try.prog 72 = some (.nils) := by kernel_rfl
@[simp] theorem z73 : tsize Try.prog 73 = some 1 := by kernel_rfl
@[simp] theorem b73 : tbytes Try.prog 73 = some 24 := by kernel_rfl
@[simp] theorem a73 : tagg Try.prog 73 = some false := by kernel_rfl
@[simp] theorem t73 : tzero Try.prog 73 = some (.nils) := by kernel_rfl
@[simp] theorem z75 : tsize Try.prog 75 = some 3 := by kernel_rfl
@[simp] theorem b75 : tbytes Try.prog 75 = some 32 := by kernel_rfl
@[simp] theorem a75 : tagg Try.prog 75 = some true := by kernel_rfl
@[simp] theorem t75 : tzero Try.prog 75 = some (.agg [.int .i64 0, .int .i64 0, .str []]) := by kernel_rfl
@[simp] theorem z84 : tsize Try.prog 84 = some 1 := by kernel_rfl
@[simp] theorem b84 : tbytes Try.prog 84 = some 8 := by kernel_rfl
@[simp] theorem a84 : tagg Try.prog 84 = some false := by kernel_rfl
@[simp] theorem t84 : tzero Try.prog 84 = some (.nilf) := by kernel_rfl
@[simp] theorem z85 : tsize Try.prog 85 = some 1 := by kernel_rfl
@[simp] theorem b85 : tbytes Try.prog 85 = some 24 := by kernel_rfl
@[simp] theorem a85 : tagg Try.prog 85 = some false := by kernel_rfl
@[simp] theorem t85 : tzero Try.prog 85 = some (.nils) := by kernel_rfl
@[simp] theorem z86 : tsize Try.prog 86 = some 1 := by kernel_rfl
@[simp] theorem b86 : tbytes Try.prog 86 = some 8 := by kernel_rfl
@[simp] theorem a86 : tagg Try.prog 86 = some false := by kernel_rfl
@[simp] theorem t86 : tzero Try.prog 86 = some (.nilf) := by kernel_rfl
@[simp] theorem z89 : tsize Try.prog 89 = some 1 := by kernel_rfl
@[simp] theorem b89 : tbytes Try.prog 89 = some 8 := by kernel_rfl
@[simp] theorem a89 : tagg Try.prog 89 = some false := by kernel_rfl
@[simp] theorem t89 : tzero Try.prog 89 = some (.nilf) := by kernel_rfl
@[simp] theorem z93 : tsize Try.prog 93 = some 4 := by kernel_rfl
@[simp] theorem b93 : tbytes Try.prog 93 = some 32 := by kernel_rfl
@[simp] theorem a93 : tagg Try.prog 93 = some true := by kernel_rfl
@[simp] theorem t93 : tzero Try.prog 93 = some (.agg [.int .i64 0, .int .i64 0, .int .i64 0, .int .i64 0]) := by kernel_rfl
@[simp] theorem z96 : tsize Try.prog 96 = some 1 := by kernel_rfl
@[simp] theorem b96 : tbytes Try.prog 96 = some 8 := by kernel_rfl
@[simp] theorem a96 : tagg Try.prog 96 = some false := by kernel_rfl
@[simp] theorem t96 : tzero Try.prog 96 = some (.nilf) := by kernel_rfl
@[simp] theorem z101 : tsize Try.prog 101 = some 1 := by kernel_rfl
@[simp] theorem b101 : tbytes Try.prog 101 = some 8 := by kernel_rfl
@[simp] theorem a101 : tagg Try.prog 101 = some false := by kernel_rfl
@[simp] theorem t101 : tzero Try.prog 101 = some (.int .u64 0) := by kernel_rfl
@[simp] theorem z104 : tsize Try.prog 104 = some 1 := by kernel_rfl
@[simp] theorem b104 : tbytes Try.prog 104 = some 8 := by kernel_rfl
@[simp] theorem a104 : tagg Try.prog 104 = some false := by kernel_rfl
@[simp] theorem t104 : tzero Try.prog 104 = some (.int .i64 0) := by kernel_rfl
@[simp] theorem z110 : tsize Try.prog 110 = some 1 := by kernel_rfl
@[simp] theorem b110 : tbytes Try.prog 110 = some 8 := by kernel_rfl
@[simp] theorem a110 : tagg Try.prog 110 = some false := by kernel_rfl
@[simp] theorem t110 : tzero Try.prog 110 = some (.int .i64 0) := by kernel_rfl
@[simp] theorem z118 : tsize Try.prog 118 = some 1 := by kernel_rfl
@[simp] theorem b118 : tbytes Try.prog 118 = some 4 := by kernel_rfl
@[simp] theorem a118 : tagg Try.prog 118 = some false := by kernel_rfl
@[simp] theorem t118 : tzero Try.prog 118 = some (.int .u32 0) := by kernel_rfl
@[simp] theorem z120 : tsize Try.prog 120 = some 1 := by kernel_rfl
@[simp] theorem b120 : tbytes Try.prog 120 = some 8 := by kernel_rfl
@[simp] theorem a120 : tagg Try.prog 120 = some false := by kernel_rfl
@[simp] theorem t120 : tzero Try.prog 120 = some (.int .u64 0) := by kernel_rfl
@[simp] theorem z123 : tsize Try.prog 123 = some 1 := by kernel_rfl
@[simp] theorem b123 : tbytes Try.prog 123 = some 24 := by kernel_rfl
@[simp] theorem a123 : tagg Try.prog 123 = some false := by kernel_rfl
@[simp] theorem t123 : tzero Try.prog 123 = some (.nils) := by kernel_rfl
@[simp] theorem z126 : tsize Try.prog 126 = some 1 := by kernel_rfl
@[simp] theorem b126 : tbytes Try.prog 126 = some 24 := by kernel_rfl
@[simp] theorem a126 : tagg Try.prog 126 = some false := by kernel_rfl
@[simp] theorem t126 : tzero Try.prog 126 = some (.nils) := by kernel_rfl
@[simp] theorem z128 : tsize Try.prog 128 = some 3 := by kernel_rfl
@[simp] theorem b128 : tbytes Try.prog 128 = some 32 := by kernel_rfl
@[simp] theorem a128 : tagg Try.prog 128 = some true := by kernel_rfl
@[simp] theorem t128 : tzero Try.prog 128 = some (.agg [.bool false, .int .i64 0, .str []]) := by kernel_rfl
@[simp] theorem z129 : tsize Try.prog 129 = some 1 := by kernel_rfl
@[simp] theorem b129 : tbytes Try.prog 129 = some 8 := by kernel_rfl
@[simp] theorem a129 : tagg Try.prog 129 = some false := by kernel_rfl
@[simp] theorem t129 : tzero Try.prog 129 = some (.int .u64 0) := by kernel_rfl
@[simp] theorem z133 : tsize Try.prog 133 = some 1 := by kernel_rfl
@[simp] theorem b133 : tbytes Try.prog 133 = some 8 := by kernel_rfl
@[simp] theorem a133 : tagg Try.prog 133 = some false := by kernel_rfl
@[simp] theorem t133 : tzero Try.prog 133 = some (.nilp) := by kernel_rfl
@[simp] theorem z137 : tsize Try.prog 137 = some 1 := by kernel_rfl
@[simp] theorem b137 : tbytes Try.prog 137 = some 8 := by kernel_rfl
@[simp] theorem a137 : tagg Try.prog 137 = some false := by kernel_rfl
@[simp] theorem t137 : tzero Try.prog 137 = some (.nilp) := by kernel_rfl
@[simp] theorem hb3 : hasBody Try.prog 3 = true := by kernel_rfl
@[simp] theorem hb4 : hasBody Try.prog 4 = true := by kernel_rfl
@[simp] theorem hb5 : hasBody Try.prog 5 = true := by kernel_rfl
@[simp] theorem hb6 : hasBody Try.prog 6 = true := by kernel_rfl
@[simp] theorem hb7 : hasBody Try.prog 7 = true := by kernel_rfl
@[simp] theorem hb8 : hasBody Try.prog 8 = true := by kernel_rfl
@[simp] theorem hb9 : hasBody Try.prog 9 = true := by kernel_rfl
@[simp] theorem hb10 : hasBody Try.prog 10 = true := by kernel_rfl
@[simp] theorem hb11 : hasBody Try.prog 11 = true := by kernel_rfl
@[simp] theorem hb12 : hasBody Try.prog 12 = true := by kernel_rfl
@[simp] theorem hb13 : hasBody Try.prog 13 = true := by kernel_rfl
@[simp] theorem hb14 : hasBody Try.prog 14 = true := by kernel_rfl
@[simp] theorem hb15 : hasBody Try.prog 15 = true := by kernel_rfl
@[simp] theorem hb16 : hasBody Try.prog 16 = true := by kernel_rfl
@[simp] theorem hb17 : hasBody Try.prog 17 = true := by kernel_rfl
@[simp] theorem hb18 : hasBody Try.prog 18 = true := by kernel_rfl
@[simp] theorem hb19 : hasBody Try.prog 19 = true := by kernel_rfl
@[simp] theorem hb20 : hasBody Try.prog 20 = true := by kernel_rfl
@[simp] theorem hb21 : hasBody Try.prog 21 = true := by kernel_rfl
@[simp] theorem hb22 : hasBody Try.prog 22 = true := by kernel_rfl
@[simp] theorem hb23 : hasBody Try.prog 23 = true := by kernel_rfl
@[simp] theorem hb24 : hasBody Try.prog 24 = true := by kernel_rfl
@[simp] theorem hb25 : hasBody Try.prog 25 = true := by kernel_rfl
@[simp] theorem hb26 : hasBody Try.prog 26 = true := by kernel_rfl
@[simp] theorem hb27 : hasBody Try.prog 27 = true := by kernel_rfl
@[simp] theorem hb28 : hasBody Try.prog 28 = true := by kernel_rfl
@[simp] theorem hb29 : hasBody Try.prog 29 = true := by kernel_rfl
@[simp] theorem hb30 : hasBody Try.prog 30 = true := by kernel_rfl
@[simp] theorem hb31 : hasBody Try.prog 31 = true := by kernel_rfl
@[simp] theorem hb32 : hasBody Try.prog 32 = true := by kernel_rfl
@[simp] theorem hb33 : hasBody Try.prog 33 = true := by kernel_rfl
@[simp] theorem hb34 : hasBody Try.prog 34 = true := by kernel_rfl
@[simp] theorem hb35 : hasBody Try.prog 35 = true := by kernel_rfl
@[simp] theorem hb36 : hasBody Try.prog 36 = true := by kernel_rfl
@[simp] theorem hb37 : hasBody Try.prog 37 = true := by kernel_rfl
@[simp] theorem hb38 : hasBody Try.prog 38 = true := by kernel_rfl
@[simp] theorem hb39 : hasBody Try.prog 39 = true := by kernel_rfl
@[simp] theorem hb40 : hasBody Try.prog 40 = true := by kernel_rfl
@[simp] theorem hb41 : hasBody Try.prog 41 = true := by kernel_rfl
@[simp] theorem hb42 : hasBody Try.prog 42 = true := by kernel_rfl
@[simp] theorem hb43 : hasBody Try.prog 43 = true := by kernel_rfl
@[simp] theorem hb44 : hasBody Try.prog 44 = true := by kernel_rfl
@[simp] theorem hb45 : hasBody Try.prog 45 = true := by kernel_rfl
@[simp] theorem hb46 : hasBody Try.prog 46 = true := by kernel_rfl
@[simp] theorem hb47 : hasBody Try.prog 47 = true := by kernel_rfl
@[simp] theorem hb48 : hasBody Try.prog 48 = true := by kernel_rfl
@[simp] theorem hb49 : hasBody Try.prog 49 = true := by kernel_rfl
@[simp] theorem hb50 : hasBody Try.prog 50 = true := by kernel_rfl
@[simp] theorem hb51 : hasBody Try.prog 51 = true := by kernel_rfl
@[simp] theorem hb52 : hasBody Try.prog 52 = true := by kernel_rfl
@[simp] theorem hb53 : hasBody Try.prog 53 = true := by kernel_rfl
@[simp] theorem hb54 : hasBody Try.prog 54 = true := by kernel_rfl
@[simp] theorem hb55 : hasBody Try.prog 55 = true := by kernel_rfl
@[simp] theorem hb56 : hasBody Try.prog 56 = true := by kernel_rfl
@[simp] theorem hb57 : hasBody Try.prog 57 = true := by kernel_rfl
@[simp] theorem hb58 : hasBody Try.prog 58 = true := by kernel_rfl
@[simp] theorem hb59 : hasBody Try.prog 59 = true := by kernel_rfl
@[simp] theorem hb60 : hasBody Try.prog 60 = true := by kernel_rfl
@[simp] theorem hb61 : hasBody Try.prog 61 = true := by kernel_rfl
@[simp] theorem hb62 : hasBody Try.prog 62 = true := by kernel_rfl
@[simp] theorem hb63 : hasBody Try.prog 63 = true := by kernel_rfl
@[simp] theorem hb64 : hasBody Try.prog 64 = true := by kernel_rfl
@[simp] theorem hb66 : hasBody Try.prog 66 = true := by kernel_rfl
@[simp] theorem hb67 : hasBody Try.prog 67 = true := by kernel_rfl
@[simp] theorem hb68 : hasBody Try.prog 68 = true := by kernel_rfl
@[simp] theorem hb69 : hasBody Try.prog 69 = true := by kernel_rfl
@[simp] theorem hb70 : hasBody Try.prog 70 = true := by kernel_rfl
@[simp] theorem hb71 : hasBody Try.prog 71 = true := by kernel_rfl
@[simp] theorem hb72 : hasBody Try.prog 72 = true := by kernel_rfl
@[simp] theorem hb73 : hasBody Try.prog 73 = true := by kernel_rfl
@[simp] theorem hb74 : hasBody Try.prog 74 = true := by kernel_rfl
@[simp] theorem hb75 : hasBody Try.prog 75 = true := by kernel_rfl
@[simp] theorem hb76 : hasBody Try.prog 76 = true := by kernel_rfl
@[simp] theorem hb77 : hasBody Try.prog 77 = true := by kernel_rfl
@[simp] theorem hb78 : hasBody Try.prog 78 = true := by kernel_rfl
@[simp] theorem hb79 : hasBody Try.prog 79 = true := by kernel_rfl
@[simp] theorem hb80 : hasBody Try.prog 80 = true := by kernel_rfl
@[simp] theorem hb81 : hasBody Try.prog 81 = true := by kernel_rfl
@[simp] theorem hb82 : hasBody Try.prog 82 = true := by kernel_rfl
@[simp] theorem hb83 : hasBody Try.prog 83 = true := by kernel_rfl
@[simp] theorem hb84 : hasBody Try.prog 84 = true := by kernel_rfl
@[simp] theorem hb85 : hasBody Try.prog 85 = true := by kernel_rfl
@[simp] theorem hb86 : hasBody Try.prog 86 = true := by kernel_rfl
@[simp] theorem hb87 : hasBody Try.prog 87 = true := by kernel_rfl
@[simp] theorem hb88 : hasBody Try.prog 88 = true := by kernel_rfl
@[simp] theorem hb89 : hasBody Try.prog 89 = true := by kernel_rfl
@[simp] theorem hb90 : hasBody Try.prog 90 = true := by kernel_rfl
end Go.Vn

set_option maxRecDepth 20000
namespace Go.Vn
open Go.Proofs
attribute [simp] extractAV capAV fieldAV
@[simp] theorem len_nils {P : Program} {t e : TypeId} (hu : P.underlying t = some (.slice e)) : lenAV P t .nils = some (.int .i64 0) := by simp [lenAV, hu]
@[simp] theorem len_esl {P : Program} {t e : TypeId} {c : Nat} (hu : P.underlying t = some (.slice e)) : lenAV P t (.esl c) = some (.int .i64 0) := by simp [lenAV, hu]
@[simp] theorem len_str {P : Program} {t : TypeId} {s : List UInt8} (hu : P.underlying t = some .string) : lenAV P t (.str s) = some (.int .i64 s.length) := by simp [lenAV, hu]
end Go.Vn
