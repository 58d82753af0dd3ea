/- What functions of the program come to, in the value machine (a part of the proof of the claim's statement). No condition. -/
import Derived.Test.YtpodlpemlkkojaaVnG1
import Derived.Test.YtpodlpemlkkojaaProg
import Derived.KernelRfl
set_option linter.unusedSimpArgs false
set_option linter.unusedVariables false
set_option maxRecDepth 20000
namespace Go.Vn
open Go.Proofs

/-- In which functions which slices may be written: versions in Order, pieces in Over and Least. -/
def TT : Tab := fun f => match f with
  | 13 => some (· == 39)
  | 23 => some (· == 33)
  | 16 => some (· == 33)
  | _ => none

attribute [simp] Try.underlying0
@[simp] theorem z0 : tsize Try.prog 0 = some 1 := by kernel_rfl
@[simp] theorem a0 : tagg Try.prog 0 = some false := by kernel_rfl
attribute [simp] Try.underlying1
@[simp] theorem z1 : tsize Try.prog 1 = some 1 := by kernel_rfl
@[simp] theorem a1 : tagg Try.prog 1 = some false := by kernel_rfl
@[simp] theorem t1 : tzero Try.prog 1 = some (.nilf) := by kernel_rfl
attribute [simp] Try.underlying2
@[simp] theorem z2 : tsize Try.prog 2 = some 1 := by kernel_rfl
@[simp] theorem a2 : tagg Try.prog 2 = some false := by kernel_rfl
@[simp] theorem t2 : tzero Try.prog 2 = some (.int .i64 0) := by kernel_rfl
attribute [simp] Try.underlying3
@[simp] theorem z3 : tsize Try.prog 3 = some 1 := by kernel_rfl
@[simp] theorem b3 : tbytes Try.prog 3 = some 8 := by kernel_rfl
@[simp] theorem a3 : tagg Try.prog 3 = some false := by kernel_rfl
@[simp] theorem t3 : tzero Try.prog 3 = some (.int .i64 0) := by kernel_rfl
attribute [simp] Try.underlying4
@[simp] theorem z4 : tsize Try.prog 4 = some 1 := by kernel_rfl
@[simp] theorem a4 : tagg Try.prog 4 = some false := by kernel_rfl
@[simp] theorem t4 : tzero Try.prog 4 = some (.bool false) := by kernel_rfl
attribute [simp] Try.underlying5
@[simp] theorem z5 : tsize Try.prog 5 = some 1 := by kernel_rfl
@[simp] theorem b5 : tbytes Try.prog 5 = some 1 := by kernel_rfl
@[simp] theorem a5 : tagg Try.prog 5 = some false := by kernel_rfl
@[simp] theorem t5 : tzero Try.prog 5 = some (.int .u8 0) := by kernel_rfl
attribute [simp] Try.underlying6
@[simp] theorem z6 : tsize Try.prog 6 = some 1 := by kernel_rfl
@[simp] theorem a6 : tagg Try.prog 6 = some false := by kernel_rfl
@[simp] theorem t6 : tzero Try.prog 6 = some (.int .u8 0) := by kernel_rfl
attribute [simp] Try.underlying7
@[simp] theorem z7 : tsize Try.prog 7 = some 4 := by kernel_rfl
@[simp] theorem a7 : tagg Try.prog 7 = some true := by kernel_rfl
@[simp] theorem t7 : tzero Try.prog 7 = some (.agg [.int .i64 0, .int .i64 0, .bool false, .int .u8 0]) := by kernel_rfl
attribute [simp] Try.underlying8
@[simp] theorem z8 : tsize Try.prog 8 = some 4 := by kernel_rfl
@[simp] theorem a8 : tagg Try.prog 8 = some true := by kernel_rfl
@[simp] theorem t8 : tzero Try.prog 8 = some (.agg [.int .i64 0, .int .i64 0, .bool false, .int .u8 0]) := by kernel_rfl
attribute [simp] Try.underlying9
@[simp] theorem z9 : tsize Try.prog 9 = some 1 := by kernel_rfl
@[simp] theorem b9 : tbytes Try.prog 9 = some 16 := by kernel_rfl
@[simp] theorem a9 : tagg Try.prog 9 = some false := by kernel_rfl
@[simp] theorem t9 : tzero Try.prog 9 = some (.str []) := by kernel_rfl
attribute [simp] Try.underlying10
@[simp] theorem z10 : tsize Try.prog 10 = some 1 := by kernel_rfl
@[simp] theorem a10 : tagg Try.prog 10 = some false := by kernel_rfl
@[simp] theorem t10 : tzero Try.prog 10 = some (.str []) := by kernel_rfl
attribute [simp] Try.underlying11
@[simp] theorem z11 : tsize Try.prog 11 = some 1 := by kernel_rfl
@[simp] theorem a11 : tagg Try.prog 11 = some false := by kernel_rfl
@[simp] theorem t11 : tzero Try.prog 11 = some (.str []) := by kernel_rfl
attribute [simp] Try.underlying12
@[simp] theorem z12 : tsize Try.prog 12 = some 1 := by kernel_rfl
@[simp] theorem a12 : tagg Try.prog 12 = some false := by kernel_rfl
@[simp] theorem t12 : tzero Try.prog 12 = some (.int .u64 0) := by kernel_rfl
attribute [simp] Try.underlying13
@[simp] theorem z13 : tsize Try.prog 13 = some 2 := by kernel_rfl
@[simp] theorem a13 : tagg Try.prog 13 = some true := by kernel_rfl
@[simp] theorem t13 : tzero Try.prog 13 = some (.agg [.str [], .int .u64 0]) := by kernel_rfl
attribute [simp] Try.underlying14
@[simp] theorem z14 : tsize Try.prog 14 = some 2 := by kernel_rfl
@[simp] theorem a14 : tagg Try.prog 14 = some true := by kernel_rfl
@[simp] theorem t14 : tzero Try.prog 14 = some (.agg [.str [], .int .u64 0]) := by kernel_rfl
attribute [simp] Try.underlying15
@[simp] theorem z15 : tsize Try.prog 15 = some 1 := by kernel_rfl
@[simp] theorem a15 : tagg Try.prog 15 = some false := by kernel_rfl
@[simp] theorem t15 : tzero Try.prog 15 = some (.nilp) := by kernel_rfl
attribute [simp] Try.underlying16
@[simp] theorem z16 : tsize Try.prog 16 = some 1 := by kernel_rfl
@[simp] theorem a16 : tagg Try.prog 16 = some false := by kernel_rfl
@[simp] theorem t16 : tzero Try.prog 16 = some (.nilp) := by kernel_rfl
attribute [simp] Try.underlying17
@[simp] theorem z17 : tsize Try.prog 17 = some 1 := by kernel_rfl
@[simp] theorem a17 : tagg Try.prog 17 = some false := by kernel_rfl
@[simp] theorem t17 : tzero Try.prog 17 = some (.nilp) := by kernel_rfl
attribute [simp] Try.underlying18
@[simp] theorem z18 : tsize Try.prog 18 = some 1 := by kernel_rfl
@[simp] theorem a18 : tagg Try.prog 18 = some true := by kernel_rfl
@[simp] theorem t18 : tzero Try.prog 18 = some (.agg [.nilp]) := by kernel_rfl
attribute [simp] Try.underlying19
@[simp] theorem z19 : tsize Try.prog 19 = some 1 := by kernel_rfl
@[simp] theorem a19 : tagg Try.prog 19 = some true := by kernel_rfl
@[simp] theorem t19 : tzero Try.prog 19 = some (.agg [.nilp]) := by kernel_rfl
attribute [simp] Try.underlying20
@[simp] theorem z20 : tsize Try.prog 20 = some 1 := by kernel_rfl
@[simp] theorem a20 : tagg Try.prog 20 = some false := by kernel_rfl
@[simp] theorem t20 : tzero Try.prog 20 = some (.nili) := by kernel_rfl
attribute [simp] Try.underlying21
@[simp] theorem z21 : tsize Try.prog 21 = some 1 := by kernel_rfl
@[simp] theorem a21 : tagg Try.prog 21 = some false := by kernel_rfl
@[simp] theorem t21 : tzero Try.prog 21 = some (.int .i32 0) := by kernel_rfl
attribute [simp] Try.underlying22
@[simp] theorem z22 : tsize Try.prog 22 = some 1 := by kernel_rfl
@[simp] theorem b22 : tbytes Try.prog 22 = some 24 := by kernel_rfl
@[simp] theorem a22 : tagg Try.prog 22 = some false := by kernel_rfl
@[simp] theorem t22 : tzero Try.prog 22 = some (.nils) := by kernel_rfl
attribute [simp] Try.underlying23
@[simp] theorem z23 : tsize Try.prog 23 = some 1 := by kernel_rfl
@[simp] theorem b23 : tbytes Try.prog 23 = some 24 := by kernel_rfl
@[simp] theorem a23 : tagg Try.prog 23 = some false := by kernel_rfl
@[simp] theorem t23 : tzero Try.prog 23 = some (.nils) := by kernel_rfl
attribute [simp] Try.underlying24
@[simp] theorem z24 : tsize Try.prog 24 = some 1 := by kernel_rfl
@[simp] theorem a24 : tagg Try.prog 24 = some false := by kernel_rfl
attribute [simp] Try.underlying25
@[simp] theorem z25 : tsize Try.prog 25 = some 1 := by kernel_rfl
@[simp] theorem a25 : tagg Try.prog 25 = some false := by kernel_rfl
@[simp] theorem t25 : tzero Try.prog 25 = some (.nilf) := by kernel_rfl
attribute [simp] Try.underlying26
@[simp] theorem z26 : tsize Try.prog 26 = some 1 := by kernel_rfl
@[simp] theorem b26 : tbytes Try.prog 26 = some 24 := by kernel_rfl
@[simp] theorem a26 : tagg Try.prog 26 = some false := by kernel_rfl
@[simp] theorem t26 : tzero Try.prog 26 = some (.nils) := by kernel_rfl
attribute [simp] Try.underlying27
@[simp] theorem z27 : tsize Try.prog 27 = some 1 := by kernel_rfl
@[simp] theorem a27 : tagg Try.prog 27 = some false := by kernel_rfl
@[simp] theorem t27 : tzero Try.prog 27 = some (.nilf) := by kernel_rfl
attribute [simp] Try.underlying28
@[simp] theorem z28 : tsize Try.prog 28 = some 1 := by kernel_rfl
@[simp] theorem a28 : tagg Try.prog 28 = some false := by kernel_rfl
attribute [simp] Try.underlying29
@[simp] theorem z29 : tsize Try.prog 29 = some 1 := by kernel_rfl
@[simp] theorem a29 : tagg Try.prog 29 = some false := by kernel_rfl
@[simp] theorem t29 : tzero Try.prog 29 = some (.nilf) := by kernel_rfl
attribute [simp] Try.underlying30
@[simp] theorem z30 : tsize Try.prog 30 = some 2 := by kernel_rfl
@[simp] theorem a30 : tagg Try.prog 30 = some true := by kernel_rfl
@[simp] theorem t30 : tzero Try.prog 30 = some (.agg [.int .i64 0, .int .i64 0]) := by kernel_rfl
attribute [simp] Try.underlying31
@[simp] theorem z31 : tsize Try.prog 31 = some 2 := by kernel_rfl
@[simp] theorem b31 : tbytes Try.prog 31 = some 16 := by kernel_rfl
@[simp] theorem a31 : tagg Try.prog 31 = some true := by kernel_rfl
@[simp] theorem t31 : tzero Try.prog 31 = some (.agg [.int .i64 0, .int .i64 0]) := by kernel_rfl
attribute [simp] Try.underlying32
@[simp] theorem z32 : tsize Try.prog 32 = some 3 := by kernel_rfl
@[simp] theorem a32 : tagg Try.prog 32 = some true := by kernel_rfl
@[simp] theorem t32 : tzero Try.prog 32 = some (.agg [.int .i64 0, .int .i64 0, .str []]) := by kernel_rfl
attribute [simp] Try.underlying33
@[simp] theorem z33 : tsize Try.prog 33 = some 3 := by kernel_rfl
@[simp] theorem b33 : tbytes Try.prog 33 = some 32 := by kernel_rfl
@[simp] theorem a33 : tagg Try.prog 33 = some true := by kernel_rfl
@[simp] theorem t33 : tzero Try.prog 33 = some (.agg [.int .i64 0, .int .i64 0, .str []]) := by kernel_rfl
attribute [simp] Try.underlying34
@[simp] theorem z34 : tsize Try.prog 34 = some 1 := by kernel_rfl
@[simp] theorem a34 : tagg Try.prog 34 = some false := by kernel_rfl
@[simp] theorem t34 : tzero Try.prog 34 = some (.nilf) := by kernel_rfl
attribute [simp] Try.underlying35
@[simp] theorem z35 : tsize Try.prog 35 = some 1 := by kernel_rfl
@[simp] theorem a35 : tagg Try.prog 35 = some false := by kernel_rfl
@[simp] theorem t35 : tzero Try.prog 35 = some (.nilf) := by kernel_rfl
attribute [simp] Try.underlying36
@[simp] theorem z36 : tsize Try.prog 36 = some 3 := by kernel_rfl
@[simp] theorem a36 : tagg Try.prog 36 = some true := by kernel_rfl
@[simp] theorem t36 : tzero Try.prog 36 = some (.agg [.int .i64 0, .int .i64 0, .int .i64 0]) := by kernel_rfl
attribute [simp] Try.underlying37
@[simp] theorem z37 : tsize Try.prog 37 = some 3 := by kernel_rfl
@[simp] theorem b37 : tbytes Try.prog 37 = some 24 := by kernel_rfl
@[simp] theorem a37 : tagg Try.prog 37 = some true := by kernel_rfl
@[simp] theorem t37 : tzero Try.prog 37 = some (.agg [.int .i64 0, .int .i64 0, .int .i64 0]) := by kernel_rfl
attribute [simp] Try.underlying38
@[simp] theorem z38 : tsize Try.prog 38 = some 8 := by kernel_rfl
@[simp] theorem a38 : tagg Try.prog 38 = some true := by kernel_rfl
@[simp] theorem t38 : tzero Try.prog 38 = some (.agg [.str [], .int .i64 0, .int .i64 0, .int .i64 0, .int .i64 0, .int .i64 0, .str [], .bool false]) := by kernel_rfl
attribute [simp] Try.underlying39
@[simp] theorem z39 : tsize Try.prog 39 = some 8 := by kernel_rfl
@[simp] theorem b39 : tbytes Try.prog 39 = some 80 := by kernel_rfl
@[simp] theorem a39 : tagg Try.prog 39 = some true := by kernel_rfl
@[simp] theorem t39 : tzero Try.prog 39 = some (.agg [.str [], .int .i64 0, .int .i64 0, .int .i64 0, .int .i64 0, .int .i64 0, .str [], .bool false]) := by kernel_rfl
attribute [simp] Try.underlying40
@[simp] theorem z40 : tsize Try.prog 40 = some 1 := by kernel_rfl
@[simp] theorem a40 : tagg Try.prog 40 = some false := by kernel_rfl
@[simp] theorem t40 : tzero Try.prog 40 = some (.nilf) := by kernel_rfl
attribute [simp] Try.underlying41
@[simp] theorem z41 : tsize Try.prog 41 = some 1 := by kernel_rfl
@[simp] theorem a41 : tagg Try.prog 41 = some false := by kernel_rfl
@[simp] theorem t41 : tzero Try.prog 41 = some (.nilf) := by kernel_rfl
attribute [simp] Try.underlying42
@[simp] theorem z42 : tsize Try.prog 42 = some 1 := by kernel_rfl
@[simp] theorem a42 : tagg Try.prog 42 = some false := by kernel_rfl
@[simp] theorem t42 : tzero Try.prog 42 = some (.nilf) := by kernel_rfl
attribute [simp] Try.underlying43
@[simp] theorem z43 : tsize Try.prog 43 = some 1 := by kernel_rfl
@[simp] theorem a43 : tagg Try.prog 43 = some false := by kernel_rfl
@[simp] theorem t43 : tzero Try.prog 43 = some (.nilf) := by kernel_rfl
attribute [simp] Try.underlying44
@[simp] theorem z44 : tsize Try.prog 44 = some 1 := by kernel_rfl
@[simp] theorem a44 : tagg Try.prog 44 = some false := by kernel_rfl
@[simp] theorem t44 : tzero Try.prog 44 = some (.nilf) := by kernel_rfl
attribute [simp] Try.underlying45
@[simp] theorem z45 : tsize Try.prog 45 = some 1 := by kernel_rfl
@[simp] theorem a45 : tagg Try.prog 45 = some false := by kernel_rfl
@[simp] theorem t45 : tzero Try.prog 45 = some (.nilf) := by kernel_rfl
attribute [simp] Try.underlying46
@[simp] theorem z46 : tsize Try.prog 46 = some 1 := by kernel_rfl
@[simp] theorem a46 : tagg Try.prog 46 = some false := by kernel_rfl
@[simp] theorem t46 : tzero Try.prog 46 = some (.nilf) := by kernel_rfl
attribute [simp] Try.underlying47
@[simp] theorem z47 : tsize Try.prog 47 = some 1 := by kernel_rfl
@[simp] theorem a47 : tagg Try.prog 47 = some false := by kernel_rfl
@[simp] theorem t47 : tzero Try.prog 47 = some (.nilf) := by kernel_rfl
attribute [simp] Try.underlying48
@[simp] theorem z48 : tsize Try.prog 48 = some 1 := by kernel_rfl
@[simp] theorem a48 : tagg Try.prog 48 = some false := by kernel_rfl
@[simp] theorem t48 : tzero Try.prog 48 = some (.nilf) := by kernel_rfl
attribute [simp] Try.underlying49
@[simp] theorem z49 : tsize Try.prog 49 = some 1 := by kernel_rfl
@[simp] theorem a49 : tagg Try.prog 49 = some false := by kernel_rfl
@[simp] theorem t49 : tzero Try.prog 49 = some (.nils) := by kernel_rfl
attribute [simp] Try.underlying50
@[simp] theorem z50 : tsize Try.prog 50 = some 1 := by kernel_rfl
@[simp] theorem a50 : tagg Try.prog 50 = some false := by kernel_rfl
@[simp] theorem t50 : tzero Try.prog 50 = some (.nilf) := by kernel_rfl
attribute [simp] Try.underlying51
@[simp] theorem z51 : tsize Try.prog 51 = some 1 := by kernel_rfl
@[simp] theorem a51 : tagg Try.prog 51 = some false := by kernel_rfl
@[simp] theorem t51 : tzero Try.prog 51 = some (.nilf) := by kernel_rfl
attribute [simp] Try.underlying52
@[simp] theorem z52 : tsize Try.prog 52 = some 1 := by kernel_rfl
@[simp] theorem a52 : tagg Try.prog 52 = some false := by kernel_rfl
@[simp] theorem t52 : tzero Try.prog 52 = some (.nilf) := by kernel_rfl
attribute [simp] Try.underlying53
@[simp] theorem z53 : tsize Try.prog 53 = some 1 := by kernel_rfl
@[simp] theorem a53 : tagg Try.prog 53 = some false := by kernel_rfl
@[simp] theorem t53 : tzero Try.prog 53 = some (.nilf) := by kernel_rfl
attribute [simp] Try.underlying54
@[simp] theorem z54 : tsize Try.prog 54 = some 1 := by kernel_rfl
@[simp] theorem a54 : tagg Try.prog 54 = some false := by kernel_rfl
@[simp] theorem t54 : tzero Try.prog 54 = some (.nilf) := by kernel_rfl
attribute [simp] Try.underlying55
@[simp] theorem z55 : tsize Try.prog 55 = some 1 := by kernel_rfl
@[simp] theorem a55 : tagg Try.prog 55 = some false := by kernel_rfl
@[simp] theorem t55 : tzero Try.prog 55 = some (.nilf) := by kernel_rfl
attribute [simp] Try.underlying56
@[simp] theorem z56 : tsize Try.prog 56 = some 1 := by kernel_rfl
@[simp] theorem a56 : tagg Try.prog 56 = some false := by kernel_rfl
@[simp] theorem t56 : tzero Try.prog 56 = some (.nilf) := by kernel_rfl
attribute [simp] Try.underlying57
@[simp] theorem z57 : tsize Try.prog 57 = some 1 := by kernel_rfl
@[simp] theorem a57 : tagg Try.prog 57 = some false := by kernel_rfl
@[simp] theorem t57 : tzero Try.prog 57 = some (.nilf) := by kernel_rfl
attribute [simp] Try.underlying58
@[simp] theorem z58 : tsize Try.prog 58 = some 2 := by kernel_rfl
@[simp] theorem a58 : tagg Try.prog 58 = some true := by kernel_rfl
@[simp] theorem t58 : tzero Try.prog 58 = some (.agg [.int .i64 0, .int .i64 0]) := by kernel_rfl
attribute [simp] Try.underlying59
@[simp] theorem z59 : tsize Try.prog 59 = some 2 := by kernel_rfl
@[simp] theorem b59 : tbytes Try.prog 59 = some 16 := by kernel_rfl
@[simp] theorem a59 : tagg Try.prog 59 = some true := by kernel_rfl
@[simp] theorem t59 : tzero Try.prog 59 = some (.agg [.int .i64 0, .int .i64 0]) := by kernel_rfl
attribute [simp] Try.underlying60
@[simp] theorem z60 : tsize Try.prog 60 = some 1 := by kernel_rfl
@[simp] theorem a60 : tagg Try.prog 60 = some false := by kernel_rfl
@[simp] theorem t60 : tzero Try.prog 60 = some (.nilf) := by kernel_rfl
attribute [simp] Try.underlying61
@[simp] theorem z61 : tsize Try.prog 61 = some 1 := by kernel_rfl
@[simp] theorem a61 : tagg Try.prog 61 = some false := by kernel_rfl
@[simp] theorem t61 : tzero Try.prog 61 = some (.nilf) := by kernel_rfl
attribute [simp] Try.underlying62
@[simp] theorem z62 : tsize Try.prog 62 = some 1 := by kernel_rfl
@[simp] theorem a62 : tagg Try.prog 62 = some false := by kernel_rfl
@[simp] theorem t62 : tzero Try.prog 62 = some (.nilf) := by kernel_rfl
attribute [simp] Try.underlying63
@[simp] theorem z63 : tsize Try.prog 63 = some 1 := by kernel_rfl
@[simp] theorem a63 : tagg Try.prog 63 = some false := by kernel_rfl
@[simp] theorem t63 : tzero Try.prog 63 = some (.nilf) := by kernel_rfl
attribute [simp] Try.underlying64
@[simp] theorem z64 : tsize Try.prog 64 = some 1 := by kernel_rfl
@[simp] theorem a64 : tagg Try.prog 64 = some false := by kernel_rfl
@[simp] theorem t64 : tzero Try.prog 64 = some (.nilf) := by kernel_rfl
attribute [simp] Try.underlying65
@[simp] theorem z65 : tsize Try.prog 65 = some 1 := by kernel_rfl
@[simp] theorem a65 : tagg Try.prog 65 = some false := by kernel_rfl
@[simp] theorem t65 : tzero Try.prog 65 = some (.nilf) := by kernel_rfl
attribute [simp] Try.underlying66
@[simp] theorem z66 : tsize Try.prog 66 = some 1 := by kernel_rfl
@[simp] theorem a66 : tagg Try.prog 66 = some false := by kernel_rfl
@[simp] theorem t66 : tzero Try.prog 66 = some (.nilf) := by kernel_rfl
attribute [simp] Try.underlying67
@[simp] theorem z67 : tsize Try.prog 67 = some 1 := by kernel_rfl
@[simp] theorem a67 : tagg Try.prog 67 = some false := by kernel_rfl
@[simp] theorem t67 : tzero Try.prog 67 = some (.nilf) := by kernel_rfl
attribute [simp] Try.underlying68
@[simp] theorem z68 : tsize Try.prog 68 = some 1 := by kernel_rfl
@[simp] theorem a68 : tagg Try.prog 68 = some false := by kernel_rfl
@[simp] theorem t68 : tzero Try.prog 68 = some (.nilf) := by kernel_rfl
attribute [simp] Try.underlying69
@[simp] theorem z69 : tsize Try.prog 69 = some 1 := by kernel_rfl
@[simp] theorem a69 : tagg Try.prog 69 = some false := by kernel_rfl
@[simp] theorem t69 : tzero Try.prog 69 = some (.nilf) := by kernel_rfl
attribute [simp] Try.underlying70
@[simp] theorem z70 : tsize Try.prog 70 = some 1 := by kernel_rfl
@[simp] theorem a70 : tagg Try.prog 70 = some false := by kernel_rfl
@[simp] theorem t70 : tzero Try.prog 70 = some (.nilf) := by kernel_rfl
attribute [simp] Try.underlying71
@[simp] theorem z71 : tsize Try.prog 71 = some 2 := by kernel_rfl
@[simp] theorem a71 : tagg Try.prog 71 = some true := by kernel_rfl
@[simp] theorem t71 : tzero Try.prog 71 = some (.agg [.str [], .str []]) := by kernel_rfl
attribute [simp] Try.underlying72
@[simp] theorem z72 : tsize Try.prog 72 = some 2 := by kernel_rfl
@[simp] theorem a72 : tagg Try.prog 72 = some true := by kernel_rfl
@[simp] theorem t72 : tzero Try.prog 72 = some (.agg [.str [], .str []]) := by kernel_rfl
attribute [simp] Try.underlying73
@[simp] theorem z73 : tsize Try.prog 73 = some 1 := by kernel_rfl
@[simp] theorem a73 : tagg Try.prog 73 = some false := by kernel_rfl
@[simp] theorem t73 : tzero Try.prog 73 = some (.nilm) := by kernel_rfl
attribute [simp] Try.underlying74
@[simp] theorem z74 : tsize Try.prog 74 = some 1 := by kernel_rfl
@[simp] theorem a74 : tagg Try.prog 74 = some false := by kernel_rfl
@[simp] theorem t74 : tzero Try.prog 74 = some (.nils) := by kernel_rfl
attribute [simp] Try.underlying75
@[simp] theorem z75 : tsize Try.prog 75 = some 1 := by kernel_rfl
@[simp] theorem a75 : tagg Try.prog 75 = some false := by kernel_rfl
@[simp] theorem t75 : tzero Try.prog 75 = some (.nilf) := by kernel_rfl
attribute [simp] Try.underlying76
@[simp] theorem z76 : tsize Try.prog 76 = some 1 := by kernel_rfl
@[simp] theorem a76 : tagg Try.prog 76 = some false := by kernel_rfl
@[simp] theorem t76 : tzero Try.prog 76 = some (.nilf) := by kernel_rfl
attribute [simp] Try.underlying77
@[simp] theorem z77 : tsize Try.prog 77 = some 1 := by kernel_rfl
@[simp] theorem a77 : tagg Try.prog 77 = some false := by kernel_rfl
@[simp] theorem t77 : tzero Try.prog 77 = some (.nilf) := by kernel_rfl
attribute [simp] Try.underlying78
@[simp] theorem z78 : tsize Try.prog 78 = some 1 := by kernel_rfl
@[simp] theorem a78 : tagg Try.prog 78 = some false := by kernel_rfl
@[simp] theorem t78 : tzero Try.prog 78 = some (.nilf) := by kernel_rfl
attribute [simp] Try.underlying79
@[simp] theorem z79 : tsize Try.prog 79 = some 1 := by kernel_rfl
@[simp] theorem a79 : tagg Try.prog 79 = some false := by kernel_rfl
@[simp] theorem t79 : tzero Try.prog 79 = some (.nilf) := by kernel_rfl
attribute [simp] Try.underlying80
@[simp] theorem z80 : tsize Try.prog 80 = some 1 := by kernel_rfl
@[simp] theorem a80 : tagg Try.prog 80 = some false := by kernel_rfl
@[simp] theorem t80 : tzero Try.prog 80 = some (.nilf) := by kernel_rfl
attribute [simp] Try.underlying81
@[simp] theorem z81 : tsize Try.prog 81 = some 1 := by kernel_rfl
@[simp] theorem b81 : tbytes Try.prog 81 = some 24 := by kernel_rfl
@[simp] theorem a81 : tagg Try.prog 81 = some false := by kernel_rfl
@[simp] theorem t81 : tzero Try.prog 81 = some (.nils) := by kernel_rfl
attribute [simp] Try.underlying82
@[simp] theorem z82 : tsize Try.prog 82 = some 1 := by kernel_rfl
@[simp] theorem a82 : tagg Try.prog 82 = some false := by kernel_rfl
@[simp] theorem t82 : tzero Try.prog 82 = some (.nilf) := by kernel_rfl
attribute [simp] Try.underlying83
@[simp] theorem z83 : tsize Try.prog 83 = some 1 := by kernel_rfl
@[simp] theorem a83 : tagg Try.prog 83 = some false := by kernel_rfl
@[simp] theorem t83 : tzero Try.prog 83 = some (.nilf) := by kernel_rfl
attribute [simp] Try.underlying84
@[simp] theorem z84 : tsize Try.prog 84 = some 1 := by kernel_rfl
@[simp] theorem a84 : tagg Try.prog 84 = some false := by kernel_rfl
@[simp] theorem t84 : tzero Try.prog 84 = some (.nilf) := by kernel_rfl
attribute [simp] Try.underlying85
@[simp] theorem z85 : tsize Try.prog 85 = some 1 := by kernel_rfl
@[simp] theorem a85 : tagg Try.prog 85 = some false := by kernel_rfl
@[simp] theorem t85 : tzero Try.prog 85 = some (.nilf) := by kernel_rfl
attribute [simp] Try.underlying86
@[simp] theorem z86 : tsize Try.prog 86 = some 1 := by kernel_rfl
@[simp] theorem a86 : tagg Try.prog 86 = some false := by kernel_rfl
@[simp] theorem t86 : tzero Try.prog 86 = some (.nilf) := by kernel_rfl
attribute [simp] Try.underlying87
@[simp] theorem z87 : tsize Try.prog 87 = some 1 := by kernel_rfl
@[simp] theorem a87 : tagg Try.prog 87 = some false := by kernel_rfl
@[simp] theorem t87 : tzero Try.prog 87 = some (.nilf) := by kernel_rfl
attribute [simp] Try.underlying88
@[simp] theorem z88 : tsize Try.prog 88 = some 1 := by kernel_rfl
@[simp] theorem a88 : tagg Try.prog 88 = some false := by kernel_rfl
@[simp] theorem t88 : tzero Try.prog 88 = some (.nilf) := by kernel_rfl
attribute [simp] Try.underlying89
@[simp] theorem z89 : tsize Try.prog 89 = some 1 := by kernel_rfl
@[simp] theorem a89 : tagg Try.prog 89 = some false := by kernel_rfl
@[simp] theorem t89 : tzero Try.prog 89 = some (.nilf) := by kernel_rfl
attribute [simp] Try.underlying90
@[simp] theorem z90 : tsize Try.prog 90 = some 1 := by kernel_rfl
@[simp] theorem a90 : tagg Try.prog 90 = some false := by kernel_rfl
@[simp] theorem t90 : tzero Try.prog 90 = some (.nilf) := by kernel_rfl
attribute [simp] Try.underlying91
@[simp] theorem z91 : tsize Try.prog 91 = some 1 := by kernel_rfl
@[simp] theorem b91 : tbytes Try.prog 91 = some 24 := by kernel_rfl
@[simp] theorem a91 : tagg Try.prog 91 = some false := by kernel_rfl
@[simp] theorem t91 : tzero Try.prog 91 = some (.nils) := by kernel_rfl
attribute [simp] Try.underlying92
@[simp] theorem z92 : tsize Try.prog 92 = some 1 := by kernel_rfl
@[simp] theorem a92 : tagg Try.prog 92 = some false := by kernel_rfl
@[simp] theorem t92 : tzero Try.prog 92 = some (.nilf) := by kernel_rfl
attribute [simp] Try.underlying93
@[simp] theorem z93 : tsize Try.prog 93 = some 1 := by kernel_rfl
@[simp] theorem a93 : tagg Try.prog 93 = some false := by kernel_rfl
@[simp] theorem t93 : tzero Try.prog 93 = some (.nilf) := by kernel_rfl
attribute [simp] Try.underlying94
@[simp] theorem z94 : tsize Try.prog 94 = some 1 := by kernel_rfl
@[simp] theorem a94 : tagg Try.prog 94 = some false := by kernel_rfl
@[simp] theorem t94 : tzero Try.prog 94 = some (.nilf) := by kernel_rfl
attribute [simp] Try.underlying95
@[simp] theorem z95 : tsize Try.prog 95 = some 1 := by kernel_rfl
@[simp] theorem a95 : tagg Try.prog 95 = some false := by kernel_rfl
attribute [simp] Try.underlying96
@[simp] theorem z96 : tsize Try.prog 96 = some 1 := by kernel_rfl
@[simp] theorem a96 : tagg Try.prog 96 = some false := by kernel_rfl
@[simp] theorem t96 : tzero Try.prog 96 = some (.nilf) := by kernel_rfl
attribute [simp] Try.underlying97
@[simp] theorem z97 : tsize Try.prog 97 = some 1 := by kernel_rfl
@[simp] theorem a97 : tagg Try.prog 97 = some false := by kernel_rfl
attribute [simp] Try.underlying98
@[simp] theorem z98 : tsize Try.prog 98 = some 1 := by kernel_rfl
@[simp] theorem a98 : tagg Try.prog 98 = some false := by kernel_rfl
@[simp] theorem t98 : tzero Try.prog 98 = some (.nilf) := by kernel_rfl
attribute [simp] Try.underlying99
@[simp] theorem z99 : tsize Try.prog 99 = some 4 := by kernel_rfl
@[simp] theorem a99 : tagg Try.prog 99 = some true := by kernel_rfl
@[simp] theorem t99 : tzero Try.prog 99 = some (.agg [.int .i64 0, .int .i64 0, .int .i64 0, .int .i64 0]) := by kernel_rfl
attribute [simp] Try.underlying100
@[simp] theorem z100 : tsize Try.prog 100 = some 1 := by kernel_rfl
@[simp] theorem a100 : tagg Try.prog 100 = some false := by kernel_rfl
@[simp] theorem t100 : tzero Try.prog 100 = some (.nilf) := by kernel_rfl
attribute [simp] Try.underlying101
@[simp] theorem z101 : tsize Try.prog 101 = some 1 := by kernel_rfl
@[simp] theorem a101 : tagg Try.prog 101 = some false := by kernel_rfl
@[simp] theorem t101 : tzero Try.prog 101 = some (.int .i64 0) := by kernel_rfl
attribute [simp] Try.underlying102
@[simp] theorem z102 : tsize Try.prog 102 = some 1 := by kernel_rfl
@[simp] theorem a102 : tagg Try.prog 102 = some false := by kernel_rfl
attribute [simp] Try.underlying103
@[simp] theorem z103 : tsize Try.prog 103 = some 1 := by kernel_rfl
@[simp] theorem a103 : tagg Try.prog 103 = some false := by kernel_rfl
@[simp] theorem t103 : tzero Try.prog 103 = some (.nilf) := by kernel_rfl
attribute [simp] Try.underlying104
@[simp] theorem z104 : tsize Try.prog 104 = some 1 := by kernel_rfl
@[simp] theorem a104 : tagg Try.prog 104 = some false := by kernel_rfl
@[simp] theorem t104 : tzero Try.prog 104 = some (.nilf) := by kernel_rfl
attribute [simp] Try.underlying105
@[simp] theorem z105 : tsize Try.prog 105 = some 1 := by kernel_rfl
@[simp] theorem a105 : tagg Try.prog 105 = some false := by kernel_rfl
@[simp] theorem t105 : tzero Try.prog 105 = some (.nilf) := by kernel_rfl
attribute [simp] Try.underlying106
@[simp] theorem z106 : tsize Try.prog 106 = some 1 := by kernel_rfl
@[simp] theorem a106 : tagg Try.prog 106 = some false := by kernel_rfl
@[simp] theorem t106 : tzero Try.prog 106 = some (.nilf) := by kernel_rfl
attribute [simp] Try.underlying107
@[simp] theorem z107 : tsize Try.prog 107 = some 1 := by kernel_rfl
@[simp] theorem a107 : tagg Try.prog 107 = some false := by kernel_rfl
@[simp] theorem t107 : tzero Try.prog 107 = some (.nilf) := by kernel_rfl
attribute [simp] Try.underlying108
@[simp] theorem z108 : tsize Try.prog 108 = some 1 := by kernel_rfl
@[simp] theorem a108 : tagg Try.prog 108 = some false := by kernel_rfl
@[simp] theorem t108 : tzero Try.prog 108 = some (.nilf) := by kernel_rfl
attribute [simp] Try.underlying109
@[simp] theorem z109 : tsize Try.prog 109 = some 1 := by kernel_rfl
@[simp] theorem a109 : tagg Try.prog 109 = some false := by kernel_rfl
@[simp] theorem t109 : tzero Try.prog 109 = some (.int .u64 0) := by kernel_rfl
attribute [simp] Try.underlying110
@[simp] theorem z110 : tsize Try.prog 110 = some 1 := by kernel_rfl
@[simp] theorem b110 : tbytes Try.prog 110 = some 24 := by kernel_rfl
@[simp] theorem a110 : tagg Try.prog 110 = some false := by kernel_rfl
@[simp] theorem t110 : tzero Try.prog 110 = some (.nils) := by kernel_rfl
attribute [simp] Try.underlying111
@[simp] theorem z111 : tsize Try.prog 111 = some 1 := by kernel_rfl
@[simp] theorem a111 : tagg Try.prog 111 = some false := by kernel_rfl
attribute [simp] Try.underlying112
@[simp] theorem z112 : tsize Try.prog 112 = some 1 := by kernel_rfl
@[simp] theorem a112 : tagg Try.prog 112 = some false := by kernel_rfl
@[simp] theorem t112 : tzero Try.prog 112 = some (.nilf) := by kernel_rfl
attribute [simp] Try.underlying113
@[simp] theorem z113 : tsize Try.prog 113 = some 1 := by kernel_rfl
@[simp] theorem b113 : tbytes Try.prog 113 = some 24 := by kernel_rfl
@[simp] theorem a113 : tagg Try.prog 113 = some false := by kernel_rfl
@[simp] theorem t113 : tzero Try.prog 113 = some (.nils) := by kernel_rfl
attribute [simp] Try.underlying114
@[simp] theorem z114 : tsize Try.prog 114 = some 3 := by kernel_rfl
@[simp] theorem a114 : tagg Try.prog 114 = some true := by kernel_rfl
@[simp] theorem t114 : tzero Try.prog 114 = some (.agg [.bool false, .int .i64 0, .str []]) := by kernel_rfl
attribute [simp] Try.underlying115
@[simp] theorem z115 : tsize Try.prog 115 = some 3 := by kernel_rfl
@[simp] theorem b115 : tbytes Try.prog 115 = some 32 := by kernel_rfl
@[simp] theorem a115 : tagg Try.prog 115 = some true := by kernel_rfl
@[simp] theorem t115 : tzero Try.prog 115 = some (.agg [.bool false, .int .i64 0, .str []]) := by kernel_rfl
attribute [simp] Try.underlying116
@[simp] theorem z116 : tsize Try.prog 116 = some 1 := by kernel_rfl
@[simp] theorem a116 : tagg Try.prog 116 = some false := by kernel_rfl
@[simp] theorem t116 : tzero Try.prog 116 = some (.nilf) := by kernel_rfl
attribute [simp] Try.underlying117
@[simp] theorem z117 : tsize Try.prog 117 = some 1 := by kernel_rfl
@[simp] theorem a117 : tagg Try.prog 117 = some false := by kernel_rfl
@[simp] theorem t117 : tzero Try.prog 117 = some (.int .i64 0) := by kernel_rfl
attribute [simp] Try.underlying118
@[simp] theorem z118 : tsize Try.prog 118 = some 1 := by kernel_rfl
@[simp] theorem a118 : tagg Try.prog 118 = some false := by kernel_rfl
attribute [simp] Try.underlying119
@[simp] theorem z119 : tsize Try.prog 119 = some 1 := by kernel_rfl
@[simp] theorem a119 : tagg Try.prog 119 = some false := by kernel_rfl
@[simp] theorem t119 : tzero Try.prog 119 = some (.nilf) := by kernel_rfl
attribute [simp] Try.underlying120
@[simp] theorem z120 : tsize Try.prog 120 = some 1 := by kernel_rfl
@[simp] theorem a120 : tagg Try.prog 120 = some false := by kernel_rfl
@[simp] theorem t120 : tzero Try.prog 120 = some (.nilf) := by kernel_rfl
attribute [simp] Try.underlying121
@[simp] theorem z121 : tsize Try.prog 121 = some 1 := by kernel_rfl
@[simp] theorem a121 : tagg Try.prog 121 = some false := by kernel_rfl
@[simp] theorem t121 : tzero Try.prog 121 = some (.nilf) := by kernel_rfl
attribute [simp] Try.underlying122
@[simp] theorem z122 : tsize Try.prog 122 = some 1 := by kernel_rfl
@[simp] theorem a122 : tagg Try.prog 122 = some false := by kernel_rfl
@[simp] theorem t122 : tzero Try.prog 122 = some (.nilf) := by kernel_rfl
attribute [simp] Try.underlying123
@[simp] theorem z123 : tsize Try.prog 123 = some 1 := by kernel_rfl
@[simp] theorem a123 : tagg Try.prog 123 = some false := by kernel_rfl
attribute [simp] Try.underlying124
@[simp] theorem z124 : tsize Try.prog 124 = some 1 := by kernel_rfl
@[simp] theorem a124 : tagg Try.prog 124 = some false := by kernel_rfl
@[simp] theorem t124 : tzero Try.prog 124 = some (.nilf) := by kernel_rfl
attribute [simp] Try.underlying125
@[simp] theorem z125 : tsize Try.prog 125 = some 1 := by kernel_rfl
@[simp] theorem a125 : tagg Try.prog 125 = some false := by kernel_rfl
@[simp] theorem t125 : tzero Try.prog 125 = some (.nilf) := by kernel_rfl
attribute [simp] Try.underlying126
@[simp] theorem z126 : tsize Try.prog 126 = some 1 := by kernel_rfl
@[simp] theorem a126 : tagg Try.prog 126 = some false := by kernel_rfl
@[simp] theorem t126 : tzero Try.prog 126 = some (.int .u32 0) := by kernel_rfl
attribute [simp] Try.underlying127
@[simp] theorem z127 : tsize Try.prog 127 = some 1 := by kernel_rfl
@[simp] theorem a127 : tagg Try.prog 127 = some false := by kernel_rfl
@[simp] theorem t127 : tzero Try.prog 127 = some (.nilf) := by kernel_rfl
attribute [simp] Try.underlying128
@[simp] theorem z128 : tsize Try.prog 128 = some 1 := by kernel_rfl
@[simp] theorem a128 : tagg Try.prog 128 = some false := by kernel_rfl
@[simp] theorem t128 : tzero Try.prog 128 = some (.int .u64 0) := by kernel_rfl
attribute [simp] Try.underlying129
@[simp] theorem z129 : tsize Try.prog 129 = some 1 := by kernel_rfl
@[simp] theorem a129 : tagg Try.prog 129 = some false := by kernel_rfl
@[simp] theorem t129 : tzero Try.prog 129 = some (.nilf) := by kernel_rfl
attribute [simp] Try.underlying130
@[simp] theorem z130 : tsize Try.prog 130 = some 1 := by kernel_rfl
@[simp] theorem a130 : tagg Try.prog 130 = some false := by kernel_rfl
@[simp] theorem t130 : tzero Try.prog 130 = some (.nilf) := by kernel_rfl
attribute [simp] Try.underlying131
@[simp] theorem z131 : tsize Try.prog 131 = some 1 := by kernel_rfl
@[simp] theorem a131 : tagg Try.prog 131 = some false := by kernel_rfl
@[simp] theorem t131 : tzero Try.prog 131 = some (.int .u64 0) := by kernel_rfl
attribute [simp] Try.underlying132
@[simp] theorem z132 : tsize Try.prog 132 = some 1 := by kernel_rfl
@[simp] theorem a132 : tagg Try.prog 132 = some false := by kernel_rfl
@[simp] theorem t132 : tzero Try.prog 132 = some (.nilf) := by kernel_rfl
attribute [simp] Try.underlying133
@[simp] theorem z133 : tsize Try.prog 133 = some 1 := by kernel_rfl
@[simp] theorem a133 : tagg Try.prog 133 = some false := by kernel_rfl
@[simp] theorem t133 : tzero Try.prog 133 = some (.nilf) := by kernel_rfl
attribute [simp] Try.underlying134
@[simp] theorem z134 : tsize Try.prog 134 = some 1 := by kernel_rfl
@[simp] theorem a134 : tagg Try.prog 134 = some false := by kernel_rfl
@[simp] theorem t134 : tzero Try.prog 134 = some (.nilf) := by kernel_rfl
attribute [simp] Try.underlying135
@[simp] theorem z135 : tsize Try.prog 135 = some 1 := by kernel_rfl
@[simp] theorem a135 : tagg Try.prog 135 = some false := by kernel_rfl
@[simp] theorem t135 : tzero Try.prog 135 = some (.nilp) := by kernel_rfl
attribute [simp] Try.underlying136
@[simp] theorem z136 : tsize Try.prog 136 = some 1 := by kernel_rfl
@[simp] theorem a136 : tagg Try.prog 136 = some false := by kernel_rfl
@[simp] theorem t136 : tzero Try.prog 136 = some (.nilf) := by kernel_rfl
attribute [simp] Try.underlying137
@[simp] theorem z137 : tsize Try.prog 137 = some 1 := by kernel_rfl
@[simp] theorem a137 : tagg Try.prog 137 = some false := by kernel_rfl
@[simp] theorem t137 : tzero Try.prog 137 = some (.nilp) := by kernel_rfl
attribute [simp] Try.underlying138
@[simp] theorem z138 : tsize Try.prog 138 = some 1 := by kernel_rfl
@[simp] theorem a138 : tagg Try.prog 138 = some false := by kernel_rfl
attribute [simp] Try.underlying139
@[simp] theorem z139 : tsize Try.prog 139 = some 1 := by kernel_rfl
@[simp] theorem a139 : tagg Try.prog 139 = some false := by kernel_rfl
@[simp] theorem t139 : tzero Try.prog 139 = some (.nilf) := by kernel_rfl
attribute [simp] Try.underlying140
@[simp] theorem z140 : tsize Try.prog 140 = some 1 := by kernel_rfl
@[simp] theorem a140 : tagg Try.prog 140 = some false := by kernel_rfl
@[simp] theorem t140 : tzero Try.prog 140 = some (.nilf) := by kernel_rfl
attribute [simp] Try.underlying141
@[simp] theorem z141 : tsize Try.prog 141 = some 4 := by kernel_rfl
@[simp] theorem a141 : tagg Try.prog 141 = some true := by kernel_rfl
@[simp] theorem t141 : tzero Try.prog 141 = some (.agg [.nilp, .nilp, .nilp, .str []]) := by kernel_rfl
attribute [simp] Try.underlying142
@[simp] theorem z142 : tsize Try.prog 142 = some 4 := by kernel_rfl
@[simp] theorem a142 : tagg Try.prog 142 = some true := by kernel_rfl
@[simp] theorem t142 : tzero Try.prog 142 = some (.agg [.nilp, .nilp, .nilp, .str []]) := by kernel_rfl
attribute [simp] Try.underlying143
@[simp] theorem z143 : tsize Try.prog 143 = some 0 := by kernel_rfl
@[simp] theorem a143 : tagg Try.prog 143 = some true := by kernel_rfl
@[simp] theorem t143 : tzero Try.prog 143 = some (.agg []) := by kernel_rfl
attribute [simp] Try.underlying144
@[simp] theorem z144 : tsize Try.prog 144 = some 0 := by kernel_rfl
@[simp] theorem a144 : tagg Try.prog 144 = some true := by kernel_rfl
@[simp] theorem t144 : tzero Try.prog 144 = some (.agg []) := by kernel_rfl
attribute [simp] Try.underlying145
@[simp] theorem z145 : tsize Try.prog 145 = some 0 := by kernel_rfl
@[simp] theorem a145 : tagg Try.prog 145 = some true := by kernel_rfl
@[simp] theorem t145 : tzero Try.prog 145 = some (.agg []) := by kernel_rfl
attribute [simp] Try.underlying146
@[simp] theorem z146 : tsize Try.prog 146 = some 1 := by kernel_rfl
@[simp] theorem a146 : tagg Try.prog 146 = some false := by kernel_rfl
@[simp] theorem t146 : tzero Try.prog 146 = some (.nilf) := by kernel_rfl
attribute [simp] Try.underlying147
@[simp] theorem z147 : tsize Try.prog 147 = some 1 := by kernel_rfl
@[simp] theorem a147 : tagg Try.prog 147 = some false := by kernel_rfl
@[simp] theorem t147 : tzero Try.prog 147 = some (.int .u8 0) := by kernel_rfl
attribute [simp] Try.underlying148
@[simp] theorem z148 : tsize Try.prog 148 = some 1 := by kernel_rfl
@[simp] theorem a148 : tagg Try.prog 148 = some false := by kernel_rfl
@[simp] theorem t148 : tzero Try.prog 148 = some (.int .u8 0) := by kernel_rfl
attribute [simp] Try.underlying149
@[simp] theorem z149 : tsize Try.prog 149 = some 1 := by kernel_rfl
@[simp] theorem a149 : tagg Try.prog 149 = some false := by kernel_rfl
@[simp] theorem t149 : tzero Try.prog 149 = some (.nilf) := by kernel_rfl
attribute [simp] Try.underlying150
@[simp] theorem z150 : tsize Try.prog 150 = some 1 := by kernel_rfl
@[simp] theorem a150 : tagg Try.prog 150 = some false := by kernel_rfl
@[simp] theorem t150 : tzero Try.prog 150 = some (.nilp) := by kernel_rfl
attribute [simp] Try.underlying151
@[simp] theorem z151 : tsize Try.prog 151 = some 1 := by kernel_rfl
@[simp] theorem a151 : tagg Try.prog 151 = some false := by kernel_rfl
@[simp] theorem t151 : tzero Try.prog 151 = some (.int .i32 0) := by kernel_rfl
attribute [simp] Try.underlying152
@[simp] theorem z152 : tsize Try.prog 152 = some 1 := by kernel_rfl
@[simp] theorem a152 : tagg Try.prog 152 = some false := by kernel_rfl
@[simp] theorem t152 : tzero Try.prog 152 = some (.int .i32 0) := by kernel_rfl
attribute [simp] Try.underlying153
@[simp] theorem z153 : tsize Try.prog 153 = some 11 := by kernel_rfl
@[simp] theorem a153 : tagg Try.prog 153 = some true := by kernel_rfl
@[simp] theorem t153 : tzero Try.prog 153 = some (.agg [.int .u64 0, .int .u64 0, .int .u32 0, .int .u8 0, .int .u8 0, .int .u8 0, .int .u8 0, .nilf, .nilp, .int .i32 0, .int .i32 0]) := by kernel_rfl
attribute [simp] Try.underlying154
@[simp] theorem z154 : tsize Try.prog 154 = some 11 := by kernel_rfl
@[simp] theorem a154 : tagg Try.prog 154 = some true := by kernel_rfl
@[simp] theorem t154 : tzero Try.prog 154 = some (.agg [.int .u64 0, .int .u64 0, .int .u32 0, .int .u8 0, .int .u8 0, .int .u8 0, .int .u8 0, .nilf, .nilp, .int .i32 0, .int .i32 0]) := by kernel_rfl
attribute [simp] Try.underlying155
@[simp] theorem z155 : tsize Try.prog 155 = some 1 := by kernel_rfl
@[simp] theorem a155 : tagg Try.prog 155 = some false := by kernel_rfl
@[simp] theorem t155 : tzero Try.prog 155 = some (.nilp) := by kernel_rfl
@[simp] theorem hb2 : hasBody Try.prog 2 = true := by kernel_rfl
@[simp] theorem hb3 : hasBody Try.prog 3 = true := by kernel_rfl
@[simp] theorem hb4 : hasBody Try.prog 4 = true := by kernel_rfl
@[simp] theorem hb5 : hasBody Try.prog 5 = true := by kernel_rfl
@[simp] theorem hb6 : hasBody Try.prog 6 = true := by kernel_rfl
@[simp] theorem hb7 : hasBody Try.prog 7 = true := by kernel_rfl
@[simp] theorem hb8 : hasBody Try.prog 8 = true := by kernel_rfl
@[simp] theorem hb9 : hasBody Try.prog 9 = true := by kernel_rfl
@[simp] theorem hb10 : hasBody Try.prog 10 = true := by kernel_rfl
@[simp] theorem hb11 : hasBody Try.prog 11 = true := by kernel_rfl
@[simp] theorem hb12 : hasBody Try.prog 12 = true := by kernel_rfl
@[simp] theorem hb13 : hasBody Try.prog 13 = true := by kernel_rfl
@[simp] theorem hb14 : hasBody Try.prog 14 = true := by kernel_rfl
@[simp] theorem hb15 : hasBody Try.prog 15 = true := by kernel_rfl
@[simp] theorem hb16 : hasBody Try.prog 16 = true := by kernel_rfl
@[simp] theorem hb17 : hasBody Try.prog 17 = true := by kernel_rfl
@[simp] theorem hb18 : hasBody Try.prog 18 = true := by kernel_rfl
@[simp] theorem hb19 : hasBody Try.prog 19 = true := by kernel_rfl
@[simp] theorem hb20 : hasBody Try.prog 20 = true := by kernel_rfl
@[simp] theorem hb21 : hasBody Try.prog 21 = true := by kernel_rfl
@[simp] theorem hb22 : hasBody Try.prog 22 = true := by kernel_rfl
@[simp] theorem hb23 : hasBody Try.prog 23 = true := by kernel_rfl
@[simp] theorem hb24 : hasBody Try.prog 24 = true := by kernel_rfl
@[simp] theorem hb25 : hasBody Try.prog 25 = true := by kernel_rfl
@[simp] theorem hb26 : hasBody Try.prog 26 = true := by kernel_rfl
@[simp] theorem hb27 : hasBody Try.prog 27 = true := by kernel_rfl
@[simp] theorem hb28 : hasBody Try.prog 28 = true := by kernel_rfl
@[simp] theorem hb29 : hasBody Try.prog 29 = true := by kernel_rfl
@[simp] theorem hb30 : hasBody Try.prog 30 = true := by kernel_rfl
@[simp] theorem hb31 : hasBody Try.prog 31 = true := by kernel_rfl
@[simp] theorem hb32 : hasBody Try.prog 32 = true := by kernel_rfl
@[simp] theorem hb33 : hasBody Try.prog 33 = true := by kernel_rfl
@[simp] theorem hb34 : hasBody Try.prog 34 = true := by kernel_rfl
@[simp] theorem hb35 : hasBody Try.prog 35 = true := by kernel_rfl
@[simp] theorem hb36 : hasBody Try.prog 36 = true := by kernel_rfl
@[simp] theorem hb37 : hasBody Try.prog 37 = true := by kernel_rfl
@[simp] theorem hb38 : hasBody Try.prog 38 = true := by kernel_rfl
@[simp] theorem hb39 : hasBody Try.prog 39 = true := by kernel_rfl
@[simp] theorem hb40 : hasBody Try.prog 40 = true := by kernel_rfl
@[simp] theorem hb41 : hasBody Try.prog 41 = true := by kernel_rfl
@[simp] theorem hb42 : hasBody Try.prog 42 = true := by kernel_rfl
@[simp] theorem hb43 : hasBody Try.prog 43 = true := by kernel_rfl
@[simp] theorem hb44 : hasBody Try.prog 44 = true := by kernel_rfl
@[simp] theorem hb45 : hasBody Try.prog 45 = true := by kernel_rfl
@[simp] theorem hb46 : hasBody Try.prog 46 = true := by kernel_rfl
@[simp] theorem hb47 : hasBody Try.prog 47 = true := by kernel_rfl
@[simp] theorem hb48 : hasBody Try.prog 48 = true := by kernel_rfl
@[simp] theorem hb49 : hasBody Try.prog 49 = true := by kernel_rfl
@[simp] theorem hb50 : hasBody Try.prog 50 = true := by kernel_rfl
@[simp] theorem hb51 : hasBody Try.prog 51 = true := by kernel_rfl
@[simp] theorem hb52 : hasBody Try.prog 52 = true := by kernel_rfl
@[simp] theorem hb53 : hasBody Try.prog 53 = true := by kernel_rfl
@[simp] theorem hb54 : hasBody Try.prog 54 = true := by kernel_rfl
@[simp] theorem hb55 : hasBody Try.prog 55 = true := by kernel_rfl
@[simp] theorem hb56 : hasBody Try.prog 56 = true := by kernel_rfl
@[simp] theorem hb57 : hasBody Try.prog 57 = true := by kernel_rfl
@[simp] theorem hb58 : hasBody Try.prog 58 = true := by kernel_rfl
@[simp] theorem hb59 : hasBody Try.prog 59 = true := by kernel_rfl
@[simp] theorem hb60 : hasBody Try.prog 60 = true := by kernel_rfl
@[simp] theorem hb61 : hasBody Try.prog 61 = true := by kernel_rfl
@[simp] theorem hb63 : hasBody Try.prog 63 = true := by kernel_rfl
@[simp] theorem hb64 : hasBody Try.prog 64 = true := by kernel_rfl
@[simp] theorem hb65 : hasBody Try.prog 65 = true := by kernel_rfl
@[simp] theorem hb66 : hasBody Try.prog 66 = true := by kernel_rfl
@[simp] theorem hb67 : hasBody Try.prog 67 = true := by kernel_rfl
@[simp] theorem hb68 : hasBody Try.prog 68 = true := by kernel_rfl
@[simp] theorem hb69 : hasBody Try.prog 69 = true := by kernel_rfl
@[simp] theorem hb70 : hasBody Try.prog 70 = true := by kernel_rfl
@[simp] theorem hb71 : hasBody Try.prog 71 = true := by kernel_rfl
@[simp] theorem hb72 : hasBody Try.prog 72 = true := by kernel_rfl
@[simp] theorem hb73 : hasBody Try.prog 73 = true := by kernel_rfl
@[simp] theorem hb74 : hasBody Try.prog 74 = true := by kernel_rfl
@[simp] theorem hb75 : hasBody Try.prog 75 = true := by kernel_rfl
@[simp] theorem hb76 : hasBody Try.prog 76 = true := by kernel_rfl
@[simp] theorem hb77 : hasBody Try.prog 77 = true := by kernel_rfl
@[simp] theorem hb78 : hasBody Try.prog 78 = true := by kernel_rfl
@[simp] theorem hb79 : hasBody Try.prog 79 = true := by kernel_rfl
@[simp] theorem hb80 : hasBody Try.prog 80 = true := by kernel_rfl
@[simp] theorem hb81 : hasBody Try.prog 81 = true := by kernel_rfl
@[simp] theorem hb82 : hasBody Try.prog 82 = true := by kernel_rfl
@[simp] theorem hb83 : hasBody Try.prog 83 = true := by kernel_rfl
@[simp] theorem hb84 : hasBody Try.prog 84 = true := by kernel_rfl
@[simp] theorem hb85 : hasBody Try.prog 85 = true := by kernel_rfl
@[simp] theorem hb86 : hasBody Try.prog 86 = true := by kernel_rfl
@[simp] theorem hb87 : hasBody Try.prog 87 = true := by kernel_rfl
@[simp] theorem hb88 : hasBody Try.prog 88 = true := by kernel_rfl
@[simp] theorem hb89 : hasBody Try.prog 89 = true := by kernel_rfl
@[simp] theorem hb90 : hasBody Try.prog 90 = true := by kernel_rfl
@[simp] theorem hb91 : hasBody Try.prog 91 = true := by kernel_rfl
@[simp] theorem hb92 : hasBody Try.prog 92 = true := by kernel_rfl
@[simp] theorem hb93 : hasBody Try.prog 93 = true := by kernel_rfl
@[simp] theorem hb94 : hasBody Try.prog 94 = true := by kernel_rfl
@[simp] theorem hb95 : hasBody Try.prog 95 = true := by kernel_rfl
@[simp] theorem hb96 : hasBody Try.prog 96 = true := by kernel_rfl
@[simp] theorem hb97 : hasBody Try.prog 97 = true := by kernel_rfl
end Go.Vn
