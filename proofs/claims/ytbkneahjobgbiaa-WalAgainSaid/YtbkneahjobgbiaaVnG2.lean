/- What functions of the program come to, in the value machine (a part of the proof of the claim's statement). No condition. -/
import Derived.Test.YtbkneahjobgbiaaVnG1
import Derived.Test.YtbkneahjobgbiaaVnB5
import Derived.Test.YtbkneahjobgbiaaProg
import Derived.KernelRfl
set_option linter.unusedSimpArgs false
set_option linter.unusedVariables false
set_option maxRecDepth 20000
namespace Go.Vn
open Go.Proofs
attribute [simp] extractAV capAV fieldAV
@[simp] theorem len_nils {P : Program} {t e : TypeId} (hu : P.underlying t = some (.slice e)) : lenAV P t .nils = some (.int .i64 0) := by simp [lenAV, hu]
@[simp] theorem len_esl {P : Program} {t e : TypeId} {c : Nat} (hu : P.underlying t = some (.slice e)) : lenAV P t (.esl c) = some (.int .i64 0) := by simp [lenAV, hu]
@[simp] theorem len_str {P : Program} {t : TypeId} {s : List UInt8} (hu : P.underlying t = some .string) : lenAV P t (.str s) = some (.int .i64 s.length) := by simp [lenAV, hu]

/-- In which functions which slices may be written. -/
def TT : Tab := fun f => match f with
  | 53 => some (· == 5)
  | 62 => some (· == 3)
  | 81 => some (· == 3)
  | _ => none

attribute [simp] Try.underlying0
@[simp] theorem z0 : tsize Try.prog 0 = some 1 := by kernel_rfl
@[simp] theorem b0 : tbytes Try.prog 0 = some 0 := by kernel_rfl
@[simp] theorem a0 : tagg Try.prog 0 = some false := by kernel_rfl
attribute [simp] Try.underlying1
@[simp] theorem z1 : tsize Try.prog 1 = some 1 := by kernel_rfl
@[simp] theorem b1 : tbytes Try.prog 1 = some 8 := by kernel_rfl
@[simp] theorem a1 : tagg Try.prog 1 = some false := by kernel_rfl
@[simp] theorem t1 : tzero Try.prog 1 = some (.nilf) := by kernel_rfl
attribute [simp] Try.underlying2
@[simp] theorem z2 : tsize Try.prog 2 = some 1 := by kernel_rfl
@[simp] theorem b2 : tbytes Try.prog 2 = some 8 := by kernel_rfl
@[simp] theorem a2 : tagg Try.prog 2 = some false := by kernel_rfl
@[simp] theorem t2 : tzero Try.prog 2 = some (.int .i64 0) := by kernel_rfl
attribute [simp] Try.underlying3
@[simp] theorem z3 : tsize Try.prog 3 = some 1 := by kernel_rfl
@[simp] theorem b3 : tbytes Try.prog 3 = some 8 := by kernel_rfl
@[simp] theorem a3 : tagg Try.prog 3 = some false := by kernel_rfl
@[simp] theorem t3 : tzero Try.prog 3 = some (.int .i64 0) := by kernel_rfl
attribute [simp] Try.underlying4
@[simp] theorem z4 : tsize Try.prog 4 = some 1 := by kernel_rfl
@[simp] theorem b4 : tbytes Try.prog 4 = some 1 := by kernel_rfl
@[simp] theorem a4 : tagg Try.prog 4 = some false := by kernel_rfl
@[simp] theorem t4 : tzero Try.prog 4 = some (.bool false) := by kernel_rfl
attribute [simp] Try.underlying5
@[simp] theorem z5 : tsize Try.prog 5 = some 1 := by kernel_rfl
@[simp] theorem b5 : tbytes Try.prog 5 = some 1 := by kernel_rfl
@[simp] theorem a5 : tagg Try.prog 5 = some false := by kernel_rfl
@[simp] theorem t5 : tzero Try.prog 5 = some (.int .u8 0) := by kernel_rfl
attribute [simp] Try.underlying6
@[simp] theorem z6 : tsize Try.prog 6 = some 1 := by kernel_rfl
@[simp] theorem b6 : tbytes Try.prog 6 = some 1 := by kernel_rfl
@[simp] theorem a6 : tagg Try.prog 6 = some false := by kernel_rfl
@[simp] theorem t6 : tzero Try.prog 6 = some (.int .u8 0) := by kernel_rfl
attribute [simp] Try.underlying7
@[simp] theorem z7 : tsize Try.prog 7 = some 4 := by kernel_rfl
@[simp] theorem b7 : tbytes Try.prog 7 = some 24 := by kernel_rfl
@[simp] theorem a7 : tagg Try.prog 7 = some true := by kernel_rfl
@[simp] theorem t7 : tzero Try.prog 7 = some (.agg [.int .i64 0, .int .i64 0, .bool false, .int .u8 0]) := by kernel_rfl
attribute [simp] Try.underlying8
@[simp] theorem z8 : tsize Try.prog 8 = some 4 := by kernel_rfl
@[simp] theorem b8 : tbytes Try.prog 8 = some 24 := by kernel_rfl
@[simp] theorem a8 : tagg Try.prog 8 = some true := by kernel_rfl
@[simp] theorem t8 : tzero Try.prog 8 = some (.agg [.int .i64 0, .int .i64 0, .bool false, .int .u8 0]) := by kernel_rfl
attribute [simp] Try.underlying9
@[simp] theorem z9 : tsize Try.prog 9 = some 1 := by kernel_rfl
@[simp] theorem b9 : tbytes Try.prog 9 = some 16 := by kernel_rfl
@[simp] theorem a9 : tagg Try.prog 9 = some false := by kernel_rfl
@[simp] theorem t9 : tzero Try.prog 9 = some (.str []) := by kernel_rfl
attribute [simp] Try.underlying10
@[simp] theorem z10 : tsize Try.prog 10 = some 1 := by kernel_rfl
@[simp] theorem b10 : tbytes Try.prog 10 = some 16 := by kernel_rfl
@[simp] theorem a10 : tagg Try.prog 10 = some false := by kernel_rfl
@[simp] theorem t10 : tzero Try.prog 10 = some (.str []) := by kernel_rfl
attribute [simp] Try.underlying11
@[simp] theorem z11 : tsize Try.prog 11 = some 1 := by kernel_rfl
@[simp] theorem b11 : tbytes Try.prog 11 = some 16 := by kernel_rfl
@[simp] theorem a11 : tagg Try.prog 11 = some false := by kernel_rfl
@[simp] theorem t11 : tzero Try.prog 11 = some (.str []) := by kernel_rfl
attribute [simp] Try.underlying12
@[simp] theorem z12 : tsize Try.prog 12 = some 1 := by kernel_rfl
@[simp] theorem b12 : tbytes Try.prog 12 = some 8 := by kernel_rfl
@[simp] theorem a12 : tagg Try.prog 12 = some false := by kernel_rfl
@[simp] theorem t12 : tzero Try.prog 12 = some (.int .u64 0) := by kernel_rfl
attribute [simp] Try.underlying13
@[simp] theorem z13 : tsize Try.prog 13 = some 2 := by kernel_rfl
@[simp] theorem b13 : tbytes Try.prog 13 = some 24 := by kernel_rfl
@[simp] theorem a13 : tagg Try.prog 13 = some true := by kernel_rfl
@[simp] theorem t13 : tzero Try.prog 13 = some (.agg [.str [], .int .u64 0]) := by kernel_rfl
attribute [simp] Try.underlying14
@[simp] theorem z14 : tsize Try.prog 14 = some 2 := by kernel_rfl
@[simp] theorem b14 : tbytes Try.prog 14 = some 24 := by kernel_rfl
@[simp] theorem a14 : tagg Try.prog 14 = some true := by kernel_rfl
@[simp] theorem t14 : tzero Try.prog 14 = some (.agg [.str [], .int .u64 0]) := by kernel_rfl
attribute [simp] Try.underlying15
@[simp] theorem z15 : tsize Try.prog 15 = some 1 := by kernel_rfl
@[simp] theorem b15 : tbytes Try.prog 15 = some 8 := by kernel_rfl
@[simp] theorem a15 : tagg Try.prog 15 = some false := by kernel_rfl
@[simp] theorem t15 : tzero Try.prog 15 = some (.nilp) := by kernel_rfl
attribute [simp] Try.underlying16
@[simp] theorem z16 : tsize Try.prog 16 = some 1 := by kernel_rfl
@[simp] theorem b16 : tbytes Try.prog 16 = some 8 := by kernel_rfl
@[simp] theorem a16 : tagg Try.prog 16 = some false := by kernel_rfl
@[simp] theorem t16 : tzero Try.prog 16 = some (.nilp) := by kernel_rfl
attribute [simp] Try.underlying17
@[simp] theorem z17 : tsize Try.prog 17 = some 1 := by kernel_rfl
@[simp] theorem b17 : tbytes Try.prog 17 = some 8 := by kernel_rfl
@[simp] theorem a17 : tagg Try.prog 17 = some false := by kernel_rfl
@[simp] theorem t17 : tzero Try.prog 17 = some (.nilp) := by kernel_rfl
attribute [simp] Try.underlying18
@[simp] theorem z18 : tsize Try.prog 18 = some 1 := by kernel_rfl
@[simp] theorem b18 : tbytes Try.prog 18 = some 8 := by kernel_rfl
@[simp] theorem a18 : tagg Try.prog 18 = some true := by kernel_rfl
@[simp] theorem t18 : tzero Try.prog 18 = some (.agg [.nilp]) := by kernel_rfl
attribute [simp] Try.underlying19
@[simp] theorem z19 : tsize Try.prog 19 = some 1 := by kernel_rfl
@[simp] theorem b19 : tbytes Try.prog 19 = some 8 := by kernel_rfl
@[simp] theorem a19 : tagg Try.prog 19 = some true := by kernel_rfl
@[simp] theorem t19 : tzero Try.prog 19 = some (.agg [.nilp]) := by kernel_rfl
attribute [simp] Try.underlying20
@[simp] theorem z20 : tsize Try.prog 20 = some 1 := by kernel_rfl
@[simp] theorem b20 : tbytes Try.prog 20 = some 16 := by kernel_rfl
@[simp] theorem a20 : tagg Try.prog 20 = some false := by kernel_rfl
@[simp] theorem t20 : tzero Try.prog 20 = some (.nili) := by kernel_rfl
attribute [simp] Try.underlying21
@[simp] theorem z21 : tsize Try.prog 21 = some 1 := by kernel_rfl
@[simp] theorem b21 : tbytes Try.prog 21 = some 4 := by kernel_rfl
@[simp] theorem a21 : tagg Try.prog 21 = some false := by kernel_rfl
@[simp] theorem t21 : tzero Try.prog 21 = some (.int .i32 0) := by kernel_rfl
attribute [simp] Try.underlying22
@[simp] theorem z22 : tsize Try.prog 22 = some 1 := by kernel_rfl
@[simp] theorem b22 : tbytes Try.prog 22 = some 24 := by kernel_rfl
@[simp] theorem a22 : tagg Try.prog 22 = some false := by kernel_rfl
@[simp] theorem t22 : tzero Try.prog 22 = some (.nils) := by kernel_rfl
attribute [simp] Try.underlying23
@[simp] theorem z23 : tsize Try.prog 23 = some 1 := by kernel_rfl
@[simp] theorem b23 : tbytes Try.prog 23 = some 8 := by kernel_rfl
@[simp] theorem a23 : tagg Try.prog 23 = some false := by kernel_rfl
@[simp] theorem t23 : tzero Try.prog 23 = some (.nilp) := by kernel_rfl
attribute [simp] Try.underlying24
@[simp] theorem z24 : tsize Try.prog 24 = some 1 := by kernel_rfl
@[simp] theorem b24 : tbytes Try.prog 24 = some 8 := by kernel_rfl
@[simp] theorem a24 : tagg Try.prog 24 = some false := by kernel_rfl
@[simp] theorem t24 : tzero Try.prog 24 = some (.nilf) := by kernel_rfl
attribute [simp] Try.underlying25
@[simp] theorem z25 : tsize Try.prog 25 = some 1 := by kernel_rfl
@[simp] theorem b25 : tbytes Try.prog 25 = some 8 := by kernel_rfl
@[simp] theorem a25 : tagg Try.prog 25 = some false := by kernel_rfl
@[simp] theorem t25 : tzero Try.prog 25 = some (.nilp) := by kernel_rfl
attribute [simp] Try.underlying26
@[simp] theorem z26 : tsize Try.prog 26 = some 1 := by kernel_rfl
@[simp] theorem b26 : tbytes Try.prog 26 = some 8 := by kernel_rfl
@[simp] theorem a26 : tagg Try.prog 26 = some false := by kernel_rfl
@[simp] theorem t26 : tzero Try.prog 26 = some (.int .i64 0) := by kernel_rfl
attribute [simp] Try.underlying27
@[simp] theorem z27 : tsize Try.prog 27 = some 1 := by kernel_rfl
@[simp] theorem b27 : tbytes Try.prog 27 = some 0 := by kernel_rfl
@[simp] theorem a27 : tagg Try.prog 27 = some false := by kernel_rfl
attribute [simp] Try.underlying28
@[simp] theorem z28 : tsize Try.prog 28 = some 1 := by kernel_rfl
@[simp] theorem b28 : tbytes Try.prog 28 = some 8 := by kernel_rfl
@[simp] theorem a28 : tagg Try.prog 28 = some false := by kernel_rfl
@[simp] theorem t28 : tzero Try.prog 28 = some (.nilf) := by kernel_rfl
attribute [simp] Try.underlying29
@[simp] theorem z29 : tsize Try.prog 29 = some 1 := by kernel_rfl
@[simp] theorem b29 : tbytes Try.prog 29 = some 24 := by kernel_rfl
@[simp] theorem a29 : tagg Try.prog 29 = some false := by kernel_rfl
@[simp] theorem t29 : tzero Try.prog 29 = some (.nils) := by kernel_rfl
attribute [simp] Try.underlying30
@[simp] theorem z30 : tsize Try.prog 30 = some 1 := by kernel_rfl
@[simp] theorem b30 : tbytes Try.prog 30 = some 24 := by kernel_rfl
@[simp] theorem a30 : tagg Try.prog 30 = some false := by kernel_rfl
@[simp] theorem t30 : tzero Try.prog 30 = some (.nils) := by kernel_rfl
attribute [simp] Try.underlying31
@[simp] theorem z31 : tsize Try.prog 31 = some 2 := by kernel_rfl
@[simp] theorem b31 : tbytes Try.prog 31 = some 32 := by kernel_rfl
@[simp] theorem a31 : tagg Try.prog 31 = some true := by kernel_rfl
@[simp] theorem t31 : tzero Try.prog 31 = some (.agg [.int .i64 0, .nils]) := by kernel_rfl
attribute [simp] Try.underlying32
@[simp] theorem z32 : tsize Try.prog 32 = some 2 := by kernel_rfl
@[simp] theorem b32 : tbytes Try.prog 32 = some 32 := by kernel_rfl
@[simp] theorem a32 : tagg Try.prog 32 = some true := by kernel_rfl
@[simp] theorem t32 : tzero Try.prog 32 = some (.agg [.int .i64 0, .nils]) := by kernel_rfl
attribute [simp] Try.underlying33
@[simp] theorem z33 : tsize Try.prog 33 = some 1 := by kernel_rfl
@[simp] theorem b33 : tbytes Try.prog 33 = some 8 := by kernel_rfl
@[simp] theorem a33 : tagg Try.prog 33 = some false := by kernel_rfl
@[simp] theorem t33 : tzero Try.prog 33 = some (.nilf) := by kernel_rfl
attribute [simp] Try.underlying34
@[simp] theorem z34 : tsize Try.prog 34 = some 1 := by kernel_rfl
@[simp] theorem b34 : tbytes Try.prog 34 = some 8 := by kernel_rfl
@[simp] theorem a34 : tagg Try.prog 34 = some false := by kernel_rfl
@[simp] theorem t34 : tzero Try.prog 34 = some (.nilf) := by kernel_rfl
attribute [simp] Try.underlying35
@[simp] theorem z35 : tsize Try.prog 35 = some 1 := by kernel_rfl
@[simp] theorem b35 : tbytes Try.prog 35 = some 8 := by kernel_rfl
@[simp] theorem a35 : tagg Try.prog 35 = some false := by kernel_rfl
@[simp] theorem t35 : tzero Try.prog 35 = some (.nilf) := by kernel_rfl
attribute [simp] Try.underlying36
@[simp] theorem z36 : tsize Try.prog 36 = some 1 := by kernel_rfl
@[simp] theorem b36 : tbytes Try.prog 36 = some 8 := by kernel_rfl
@[simp] theorem a36 : tagg Try.prog 36 = some false := by kernel_rfl
@[simp] theorem t36 : tzero Try.prog 36 = some (.nilf) := by kernel_rfl
attribute [simp] Try.underlying37
@[simp] theorem z37 : tsize Try.prog 37 = some 1 := by kernel_rfl
@[simp] theorem b37 : tbytes Try.prog 37 = some 0 := by kernel_rfl
@[simp] theorem a37 : tagg Try.prog 37 = some false := by kernel_rfl
attribute [simp] Try.underlying38
@[simp] theorem z38 : tsize Try.prog 38 = some 1 := by kernel_rfl
@[simp] theorem b38 : tbytes Try.prog 38 = some 8 := by kernel_rfl
@[simp] theorem a38 : tagg Try.prog 38 = some false := by kernel_rfl
@[simp] theorem t38 : tzero Try.prog 38 = some (.nilf) := by kernel_rfl
attribute [simp] Try.underlying39
@[simp] theorem z39 : tsize Try.prog 39 = some 1 := by kernel_rfl
@[simp] theorem b39 : tbytes Try.prog 39 = some 8 := by kernel_rfl
@[simp] theorem a39 : tagg Try.prog 39 = some false := by kernel_rfl
@[simp] theorem t39 : tzero Try.prog 39 = some (.nilf) := by kernel_rfl
attribute [simp] Try.underlying40
@[simp] theorem z40 : tsize Try.prog 40 = some 1 := by kernel_rfl
@[simp] theorem b40 : tbytes Try.prog 40 = some 8 := by kernel_rfl
@[simp] theorem a40 : tagg Try.prog 40 = some false := by kernel_rfl
@[simp] theorem t40 : tzero Try.prog 40 = some (.nilf) := by kernel_rfl
attribute [simp] Try.underlying41
@[simp] theorem z41 : tsize Try.prog 41 = some 1 := by kernel_rfl
@[simp] theorem b41 : tbytes Try.prog 41 = some 0 := by kernel_rfl
@[simp] theorem a41 : tagg Try.prog 41 = some false := by kernel_rfl
attribute [simp] Try.underlying42
@[simp] theorem z42 : tsize Try.prog 42 = some 1 := by kernel_rfl
@[simp] theorem b42 : tbytes Try.prog 42 = some 8 := by kernel_rfl
@[simp] theorem a42 : tagg Try.prog 42 = some false := by kernel_rfl
@[simp] theorem t42 : tzero Try.prog 42 = some (.nilf) := by kernel_rfl
attribute [simp] Try.underlying43
@[simp] theorem z43 : tsize Try.prog 43 = some 1 := by kernel_rfl
@[simp] theorem b43 : tbytes Try.prog 43 = some 8 := by kernel_rfl
@[simp] theorem a43 : tagg Try.prog 43 = some false := by kernel_rfl
@[simp] theorem t43 : tzero Try.prog 43 = some (.nilf) := by kernel_rfl
attribute [simp] Try.underlying44
@[simp] theorem z44 : tsize Try.prog 44 = some 1 := by kernel_rfl
@[simp] theorem b44 : tbytes Try.prog 44 = some 8 := by kernel_rfl
@[simp] theorem a44 : tagg Try.prog 44 = some false := by kernel_rfl
@[simp] theorem t44 : tzero Try.prog 44 = some (.nilf) := by kernel_rfl
attribute [simp] Try.underlying45
@[simp] theorem z45 : tsize Try.prog 45 = some 1 := by kernel_rfl
@[simp] theorem b45 : tbytes Try.prog 45 = some 8 := by kernel_rfl
@[simp] theorem a45 : tagg Try.prog 45 = some false := by kernel_rfl
@[simp] theorem t45 : tzero Try.prog 45 = some (.nilf) := by kernel_rfl
attribute [simp] Try.underlying46
@[simp] theorem z46 : tsize Try.prog 46 = some 1 := by kernel_rfl
@[simp] theorem b46 : tbytes Try.prog 46 = some 8 := by kernel_rfl
@[simp] theorem a46 : tagg Try.prog 46 = some false := by kernel_rfl
@[simp] theorem t46 : tzero Try.prog 46 = some (.nilf) := by kernel_rfl
attribute [simp] Try.underlying47
@[simp] theorem z47 : tsize Try.prog 47 = some 1 := by kernel_rfl
@[simp] theorem b47 : tbytes Try.prog 47 = some 8 := by kernel_rfl
@[simp] theorem a47 : tagg Try.prog 47 = some false := by kernel_rfl
@[simp] theorem t47 : tzero Try.prog 47 = some (.nilm) := by kernel_rfl
attribute [simp] Try.underlying48
@[simp] theorem z48 : tsize Try.prog 48 = some 4 := by kernel_rfl
@[simp] theorem b48 : tbytes Try.prog 48 = some 32 := by kernel_rfl
@[simp] theorem a48 : tagg Try.prog 48 = some true := by kernel_rfl
@[simp] theorem t48 : tzero Try.prog 48 = some (.agg [.nilm, .int .i64 0, .int .i64 0, .bool false]) := by kernel_rfl
attribute [simp] Try.underlying49
@[simp] theorem z49 : tsize Try.prog 49 = some 4 := by kernel_rfl
@[simp] theorem b49 : tbytes Try.prog 49 = some 32 := by kernel_rfl
@[simp] theorem a49 : tagg Try.prog 49 = some true := by kernel_rfl
@[simp] theorem t49 : tzero Try.prog 49 = some (.agg [.nilm, .int .i64 0, .int .i64 0, .bool false]) := by kernel_rfl
attribute [simp] Try.underlying50
@[simp] theorem z50 : tsize Try.prog 50 = some 1 := by kernel_rfl
@[simp] theorem b50 : tbytes Try.prog 50 = some 8 := by kernel_rfl
@[simp] theorem a50 : tagg Try.prog 50 = some false := by kernel_rfl
@[simp] theorem t50 : tzero Try.prog 50 = some (.nilf) := by kernel_rfl
attribute [simp] Try.underlying51
@[simp] theorem z51 : tsize Try.prog 51 = some 4 := by kernel_rfl
@[simp] theorem b51 : tbytes Try.prog 51 = some 40 := by kernel_rfl
@[simp] theorem a51 : tagg Try.prog 51 = some true := by kernel_rfl
@[simp] theorem t51 : tzero Try.prog 51 = some (.agg [.nilp, .str [], .int .i64 0, .bool false]) := by kernel_rfl
attribute [simp] Try.underlying52
@[simp] theorem z52 : tsize Try.prog 52 = some 4 := by kernel_rfl
@[simp] theorem b52 : tbytes Try.prog 52 = some 40 := by kernel_rfl
@[simp] theorem a52 : tagg Try.prog 52 = some true := by kernel_rfl
@[simp] theorem t52 : tzero Try.prog 52 = some (.agg [.nilp, .str [], .int .i64 0, .bool false]) := by kernel_rfl
attribute [simp] Try.underlying53
@[simp] theorem z53 : tsize Try.prog 53 = some 3 := by kernel_rfl
@[simp] theorem b53 : tbytes Try.prog 53 = some 24 := by kernel_rfl
@[simp] theorem a53 : tagg Try.prog 53 = some true := by kernel_rfl
@[simp] theorem t53 : tzero Try.prog 53 = some (.agg [.int .i64 0, .int .i64 0, .int .i64 0]) := by kernel_rfl
attribute [simp] Try.underlying54
@[simp] theorem z54 : tsize Try.prog 54 = some 3 := by kernel_rfl
@[simp] theorem b54 : tbytes Try.prog 54 = some 24 := by kernel_rfl
@[simp] theorem a54 : tagg Try.prog 54 = some true := by kernel_rfl
@[simp] theorem t54 : tzero Try.prog 54 = some (.agg [.int .i64 0, .int .i64 0, .int .i64 0]) := by kernel_rfl
attribute [simp] Try.underlying55
@[simp] theorem z55 : tsize Try.prog 55 = some 2 := by kernel_rfl
@[simp] theorem b55 : tbytes Try.prog 55 = some 16 := by kernel_rfl
@[simp] theorem a55 : tagg Try.prog 55 = some true := by kernel_rfl
@[simp] theorem t55 : tzero Try.prog 55 = some (.agg [.int .i64 0, .int .i64 0]) := by kernel_rfl
attribute [simp] Try.underlying56
@[simp] theorem z56 : tsize Try.prog 56 = some 2 := by kernel_rfl
@[simp] theorem b56 : tbytes Try.prog 56 = some 16 := by kernel_rfl
@[simp] theorem a56 : tagg Try.prog 56 = some true := by kernel_rfl
@[simp] theorem t56 : tzero Try.prog 56 = some (.agg [.int .i64 0, .int .i64 0]) := by kernel_rfl
attribute [simp] Try.underlying57
@[simp] theorem z57 : tsize Try.prog 57 = some 8 := by kernel_rfl
@[simp] theorem b57 : tbytes Try.prog 57 = some 80 := by kernel_rfl
@[simp] theorem a57 : tagg Try.prog 57 = some true := by kernel_rfl
@[simp] theorem t57 : tzero Try.prog 57 = some (.agg [.str [], .int .i64 0, .int .i64 0, .int .i64 0, .int .i64 0, .int .i64 0, .str [], .bool false]) := by kernel_rfl
attribute [simp] Try.underlying58
@[simp] theorem z58 : tsize Try.prog 58 = some 8 := by kernel_rfl
@[simp] theorem b58 : tbytes Try.prog 58 = some 80 := by kernel_rfl
@[simp] theorem a58 : tagg Try.prog 58 = some true := by kernel_rfl
@[simp] theorem t58 : tzero Try.prog 58 = some (.agg [.str [], .int .i64 0, .int .i64 0, .int .i64 0, .int .i64 0, .int .i64 0, .str [], .bool false]) := by kernel_rfl
attribute [simp] Try.underlying59
@[simp] theorem z59 : tsize Try.prog 59 = some 1 := by kernel_rfl
@[simp] theorem b59 : tbytes Try.prog 59 = some 8 := by kernel_rfl
@[simp] theorem a59 : tagg Try.prog 59 = some false := by kernel_rfl
@[simp] theorem t59 : tzero Try.prog 59 = some (.nilf) := by kernel_rfl
attribute [simp] Try.underlying60
@[simp] theorem z60 : tsize Try.prog 60 = some 1 := by kernel_rfl
@[simp] theorem b60 : tbytes Try.prog 60 = some 8 := by kernel_rfl
@[simp] theorem a60 : tagg Try.prog 60 = some false := by kernel_rfl
@[simp] theorem t60 : tzero Try.prog 60 = some (.nilf) := by kernel_rfl
attribute [simp] Try.underlying61
@[simp] theorem z61 : tsize Try.prog 61 = some 1 := by kernel_rfl
@[simp] theorem b61 : tbytes Try.prog 61 = some 8 := by kernel_rfl
@[simp] theorem a61 : tagg Try.prog 61 = some false := by kernel_rfl
@[simp] theorem t61 : tzero Try.prog 61 = some (.nilf) := by kernel_rfl
attribute [simp] Try.underlying62
@[simp] theorem z62 : tsize Try.prog 62 = some 1 := by kernel_rfl
@[simp] theorem b62 : tbytes Try.prog 62 = some 8 := by kernel_rfl
@[simp] theorem a62 : tagg Try.prog 62 = some false := by kernel_rfl
@[simp] theorem t62 : tzero Try.prog 62 = some (.nilf) := by kernel_rfl
attribute [simp] Try.underlying63
@[simp] theorem z63 : tsize Try.prog 63 = some 1 := by kernel_rfl
@[simp] theorem b63 : tbytes Try.prog 63 = some 8 := by kernel_rfl
@[simp] theorem a63 : tagg Try.prog 63 = some false := by kernel_rfl
@[simp] theorem t63 : tzero Try.prog 63 = some (.nilf) := by kernel_rfl
attribute [simp] Try.underlying64
@[simp] theorem z64 : tsize Try.prog 64 = some 1 := by kernel_rfl
@[simp] theorem b64 : tbytes Try.prog 64 = some 8 := by kernel_rfl
@[simp] theorem a64 : tagg Try.prog 64 = some false := by kernel_rfl
@[simp] theorem t64 : tzero Try.prog 64 = some (.nilf) := by kernel_rfl
attribute [simp] Try.underlying65
@[simp] theorem z65 : tsize Try.prog 65 = some 1 := by kernel_rfl
@[simp] theorem b65 : tbytes Try.prog 65 = some 8 := by kernel_rfl
@[simp] theorem a65 : tagg Try.prog 65 = some false := by kernel_rfl
@[simp] theorem t65 : tzero Try.prog 65 = some (.nilf) := by kernel_rfl
attribute [simp] Try.underlying66
@[simp] theorem z66 : tsize Try.prog 66 = some 1 := by kernel_rfl
@[simp] theorem b66 : tbytes Try.prog 66 = some 8 := by kernel_rfl
@[simp] theorem a66 : tagg Try.prog 66 = some false := by kernel_rfl
@[simp] theorem t66 : tzero Try.prog 66 = some (.nilf) := by kernel_rfl
attribute [simp] Try.underlying67
@[simp] theorem z67 : tsize Try.prog 67 = some 1 := by kernel_rfl
@[simp] theorem b67 : tbytes Try.prog 67 = some 8 := by kernel_rfl
@[simp] theorem a67 : tagg Try.prog 67 = some false := by kernel_rfl
@[simp] theorem t67 : tzero Try.prog 67 = some (.nilf) := by kernel_rfl
attribute [simp] Try.underlying68
@[simp] theorem z68 : tsize Try.prog 68 = some 2 := by kernel_rfl
@[simp] theorem b68 : tbytes Try.prog 68 = some 32 := by kernel_rfl
@[simp] theorem a68 : tagg Try.prog 68 = some true := by kernel_rfl
@[simp] theorem t68 : tzero Try.prog 68 = some (.agg [.nils, .int .i64 0]) := by kernel_rfl
attribute [simp] Try.underlying69
@[simp] theorem z69 : tsize Try.prog 69 = some 2 := by kernel_rfl
@[simp] theorem b69 : tbytes Try.prog 69 = some 32 := by kernel_rfl
@[simp] theorem a69 : tagg Try.prog 69 = some true := by kernel_rfl
@[simp] theorem t69 : tzero Try.prog 69 = some (.agg [.nils, .int .i64 0]) := by kernel_rfl
attribute [simp] Try.underlying70
@[simp] theorem z70 : tsize Try.prog 70 = some 1 := by kernel_rfl
@[simp] theorem b70 : tbytes Try.prog 70 = some 24 := by kernel_rfl
@[simp] theorem a70 : tagg Try.prog 70 = some false := by kernel_rfl
@[simp] theorem t70 : tzero Try.prog 70 = some (.nils) := by kernel_rfl
attribute [simp] Try.underlying71
@[simp] theorem z71 : tsize Try.prog 71 = some 1 := by kernel_rfl
@[simp] theorem b71 : tbytes Try.prog 71 = some 0 := by kernel_rfl
@[simp] theorem a71 : tagg Try.prog 71 = some false := by kernel_rfl
attribute [simp] Try.underlying72
@[simp] theorem z72 : tsize Try.prog 72 = some 1 := by kernel_rfl
@[simp] theorem b72 : tbytes Try.prog 72 = some 8 := by kernel_rfl
@[simp] theorem a72 : tagg Try.prog 72 = some false := by kernel_rfl
@[simp] theorem t72 : tzero Try.prog 72 = some (.nilf) := by kernel_rfl
attribute [simp] Try.underlying73
@[simp] theorem z73 : tsize Try.prog 73 = some 1 := by kernel_rfl
@[simp] theorem b73 : tbytes Try.prog 73 = some 0 := by kernel_rfl
@[simp] theorem a73 : tagg Try.prog 73 = some false := by kernel_rfl
attribute [simp] Try.underlying74
@[simp] theorem z74 : tsize Try.prog 74 = some 1 := by kernel_rfl
@[simp] theorem b74 : tbytes Try.prog 74 = some 8 := by kernel_rfl
@[simp] theorem a74 : tagg Try.prog 74 = some false := by kernel_rfl
@[simp] theorem t74 : tzero Try.prog 74 = some (.nilf) := by kernel_rfl
attribute [simp] Try.underlying75
@[simp] theorem z75 : tsize Try.prog 75 = some 1 := by kernel_rfl
@[simp] theorem b75 : tbytes Try.prog 75 = some 8 := by kernel_rfl
@[simp] theorem a75 : tagg Try.prog 75 = some false := by kernel_rfl
@[simp] theorem t75 : tzero Try.prog 75 = some (.nilf) := by kernel_rfl
attribute [simp] Try.underlying76
@[simp] theorem z76 : tsize Try.prog 76 = some 1 := by kernel_rfl
@[simp] theorem b76 : tbytes Try.prog 76 = some 8 := by kernel_rfl
@[simp] theorem a76 : tagg Try.prog 76 = some false := by kernel_rfl
@[simp] theorem t76 : tzero Try.prog 76 = some (.nilf) := by kernel_rfl
attribute [simp] Try.underlying77
@[simp] theorem z77 : tsize Try.prog 77 = some 1 := by kernel_rfl
@[simp] theorem b77 : tbytes Try.prog 77 = some 8 := by kernel_rfl
@[simp] theorem a77 : tagg Try.prog 77 = some false := by kernel_rfl
@[simp] theorem t77 : tzero Try.prog 77 = some (.nilf) := by kernel_rfl
attribute [simp] Try.underlying78
@[simp] theorem z78 : tsize Try.prog 78 = some 1 := by kernel_rfl
@[simp] theorem b78 : tbytes Try.prog 78 = some 8 := by kernel_rfl
@[simp] theorem a78 : tagg Try.prog 78 = some false := by kernel_rfl
@[simp] theorem t78 : tzero Try.prog 78 = some (.nilf) := by kernel_rfl
attribute [simp] Try.underlying79
@[simp] theorem z79 : tsize Try.prog 79 = some 1 := by kernel_rfl
@[simp] theorem b79 : tbytes Try.prog 79 = some 24 := by kernel_rfl
@[simp] theorem a79 : tagg Try.prog 79 = some false := by kernel_rfl
@[simp] theorem t79 : tzero Try.prog 79 = some (.nils) := by kernel_rfl
attribute [simp] Try.underlying80
@[simp] theorem z80 : tsize Try.prog 80 = some 1 := by kernel_rfl
@[simp] theorem b80 : tbytes Try.prog 80 = some 8 := by kernel_rfl
@[simp] theorem a80 : tagg Try.prog 80 = some false := by kernel_rfl
@[simp] theorem t80 : tzero Try.prog 80 = some (.nilf) := by kernel_rfl
attribute [simp] Try.underlying81
@[simp] theorem z81 : tsize Try.prog 81 = some 1 := by kernel_rfl
@[simp] theorem b81 : tbytes Try.prog 81 = some 8 := by kernel_rfl
@[simp] theorem a81 : tagg Try.prog 81 = some false := by kernel_rfl
@[simp] theorem t81 : tzero Try.prog 81 = some (.nilf) := by kernel_rfl
attribute [simp] Try.underlying82
@[simp] theorem z82 : tsize Try.prog 82 = some 1 := by kernel_rfl
@[simp] theorem b82 : tbytes Try.prog 82 = some 8 := by kernel_rfl
@[simp] theorem a82 : tagg Try.prog 82 = some false := by kernel_rfl
@[simp] theorem t82 : tzero Try.prog 82 = some (.nilf) := by kernel_rfl
attribute [simp] Try.underlying83
@[simp] theorem z83 : tsize Try.prog 83 = some 1 := by kernel_rfl
@[simp] theorem b83 : tbytes Try.prog 83 = some 8 := by kernel_rfl
@[simp] theorem a83 : tagg Try.prog 83 = some false := by kernel_rfl
@[simp] theorem t83 : tzero Try.prog 83 = some (.nilf) := by kernel_rfl
attribute [simp] Try.underlying84
@[simp] theorem z84 : tsize Try.prog 84 = some 1 := by kernel_rfl
@[simp] theorem b84 : tbytes Try.prog 84 = some 8 := by kernel_rfl
@[simp] theorem a84 : tagg Try.prog 84 = some false := by kernel_rfl
@[simp] theorem t84 : tzero Try.prog 84 = some (.nilf) := by kernel_rfl
attribute [simp] Try.underlying85
@[simp] theorem z85 : tsize Try.prog 85 = some 1 := by kernel_rfl
@[simp] theorem b85 : tbytes Try.prog 85 = some 0 := by kernel_rfl
@[simp] theorem a85 : tagg Try.prog 85 = some false := by kernel_rfl
attribute [simp] Try.underlying86
@[simp] theorem z86 : tsize Try.prog 86 = some 1 := by kernel_rfl
@[simp] theorem b86 : tbytes Try.prog 86 = some 8 := by kernel_rfl
@[simp] theorem a86 : tagg Try.prog 86 = some false := by kernel_rfl
@[simp] theorem t86 : tzero Try.prog 86 = some (.nilf) := by kernel_rfl
attribute [simp] Try.underlying87
@[simp] theorem z87 : tsize Try.prog 87 = some 1 := by kernel_rfl
@[simp] theorem b87 : tbytes Try.prog 87 = some 8 := by kernel_rfl
@[simp] theorem a87 : tagg Try.prog 87 = some false := by kernel_rfl
@[simp] theorem t87 : tzero Try.prog 87 = some (.nilf) := by kernel_rfl
attribute [simp] Try.underlying88
@[simp] theorem z88 : tsize Try.prog 88 = some 1 := by kernel_rfl
@[simp] theorem b88 : tbytes Try.prog 88 = some 8 := by kernel_rfl
@[simp] theorem a88 : tagg Try.prog 88 = some false := by kernel_rfl
@[simp] theorem t88 : tzero Try.prog 88 = some (.nilf) := by kernel_rfl
attribute [simp] Try.underlying89
@[simp] theorem z89 : tsize Try.prog 89 = some 1 := by kernel_rfl
@[simp] theorem b89 : tbytes Try.prog 89 = some 0 := by kernel_rfl
@[simp] theorem a89 : tagg Try.prog 89 = some false := by kernel_rfl
attribute [simp] Try.underlying90
@[simp] theorem z90 : tsize Try.prog 90 = some 1 := by kernel_rfl
@[simp] theorem b90 : tbytes Try.prog 90 = some 8 := by kernel_rfl
@[simp] theorem a90 : tagg Try.prog 90 = some false := by kernel_rfl
@[simp] theorem t90 : tzero Try.prog 90 = some (.nilf) := by kernel_rfl
attribute [simp] Try.underlying91
@[simp] theorem z91 : tsize Try.prog 91 = some 1 := by kernel_rfl
@[simp] theorem b91 : tbytes Try.prog 91 = some 8 := by kernel_rfl
@[simp] theorem a91 : tagg Try.prog 91 = some false := by kernel_rfl
@[simp] theorem t91 : tzero Try.prog 91 = some (.nilf) := by kernel_rfl
attribute [simp] Try.underlying92
@[simp] theorem z92 : tsize Try.prog 92 = some 1 := by kernel_rfl
@[simp] theorem b92 : tbytes Try.prog 92 = some 8 := by kernel_rfl
@[simp] theorem a92 : tagg Try.prog 92 = some false := by kernel_rfl
@[simp] theorem t92 : tzero Try.prog 92 = some (.nilf) := by kernel_rfl
attribute [simp] Try.underlying93
@[simp] theorem z93 : tsize Try.prog 93 = some 1 := by kernel_rfl
@[simp] theorem b93 : tbytes Try.prog 93 = some 8 := by kernel_rfl
@[simp] theorem a93 : tagg Try.prog 93 = some false := by kernel_rfl
@[simp] theorem t93 : tzero Try.prog 93 = some (.nilp) := by kernel_rfl
attribute [simp] Try.underlying94
@[simp] theorem z94 : tsize Try.prog 94 = some 1 := by kernel_rfl
@[simp] theorem b94 : tbytes Try.prog 94 = some 8 := by kernel_rfl
@[simp] theorem a94 : tagg Try.prog 94 = some false := by kernel_rfl
@[simp] theorem t94 : tzero Try.prog 94 = some (.nilf) := by kernel_rfl
attribute [simp] Try.underlying95
@[simp] theorem z95 : tsize Try.prog 95 = some 1 := by kernel_rfl
@[simp] theorem b95 : tbytes Try.prog 95 = some 0 := by kernel_rfl
@[simp] theorem a95 : tagg Try.prog 95 = some false := by kernel_rfl
attribute [simp] Try.underlying96
@[simp] theorem z96 : tsize Try.prog 96 = some 1 := by kernel_rfl
@[simp] theorem b96 : tbytes Try.prog 96 = some 8 := by kernel_rfl
@[simp] theorem a96 : tagg Try.prog 96 = some false := by kernel_rfl
@[simp] theorem t96 : tzero Try.prog 96 = some (.nilf) := by kernel_rfl
attribute [simp] Try.underlying97
@[simp] theorem z97 : tsize Try.prog 97 = some 1 := by kernel_rfl
@[simp] theorem b97 : tbytes Try.prog 97 = some 8 := by kernel_rfl
@[simp] theorem a97 : tagg Try.prog 97 = some false := by kernel_rfl
@[simp] theorem t97 : tzero Try.prog 97 = some (.nilf) := by kernel_rfl
attribute [simp] Try.underlying98
@[simp] theorem z98 : tsize Try.prog 98 = some 1 := by kernel_rfl
@[simp] theorem b98 : tbytes Try.prog 98 = some 8 := by kernel_rfl
@[simp] theorem a98 : tagg Try.prog 98 = some false := by kernel_rfl
@[simp] theorem t98 : tzero Try.prog 98 = some (.nilf) := by kernel_rfl
attribute [simp] Try.underlying99
@[simp] theorem z99 : tsize Try.prog 99 = some 1 := by kernel_rfl
@[simp] theorem b99 : tbytes Try.prog 99 = some 8 := by kernel_rfl
@[simp] theorem a99 : tagg Try.prog 99 = some false := by kernel_rfl
@[simp] theorem t99 : tzero Try.prog 99 = some (.nilf) := by kernel_rfl
attribute [simp] Try.underlying100
@[simp] theorem z100 : tsize Try.prog 100 = some 1 := by kernel_rfl
@[simp] theorem b100 : tbytes Try.prog 100 = some 8 := by kernel_rfl
@[simp] theorem a100 : tagg Try.prog 100 = some false := by kernel_rfl
@[simp] theorem t100 : tzero Try.prog 100 = some (.nilf) := by kernel_rfl
attribute [simp] Try.underlying101
@[simp] theorem z101 : tsize Try.prog 101 = some 1 := by kernel_rfl
@[simp] theorem b101 : tbytes Try.prog 101 = some 8 := by kernel_rfl
@[simp] theorem a101 : tagg Try.prog 101 = some false := by kernel_rfl
@[simp] theorem t101 : tzero Try.prog 101 = some (.int .u64 0) := by kernel_rfl
attribute [simp] Try.underlying102
@[simp] theorem z102 : tsize Try.prog 102 = some 1 := by kernel_rfl
@[simp] theorem b102 : tbytes Try.prog 102 = some 4 := by kernel_rfl
@[simp] theorem a102 : tagg Try.prog 102 = some false := by kernel_rfl
@[simp] theorem t102 : tzero Try.prog 102 = some (.int .u32 0) := by kernel_rfl
attribute [simp] Try.underlying103
@[simp] theorem z103 : tsize Try.prog 103 = some 1 := by kernel_rfl
@[simp] theorem b103 : tbytes Try.prog 103 = some 8 := by kernel_rfl
@[simp] theorem a103 : tagg Try.prog 103 = some false := by kernel_rfl
@[simp] theorem t103 : tzero Try.prog 103 = some (.nilf) := by kernel_rfl
attribute [simp] Try.underlying104
@[simp] theorem z104 : tsize Try.prog 104 = some 1 := by kernel_rfl
@[simp] theorem b104 : tbytes Try.prog 104 = some 24 := by kernel_rfl
@[simp] theorem a104 : tagg Try.prog 104 = some false := by kernel_rfl
@[simp] theorem t104 : tzero Try.prog 104 = some (.nils) := by kernel_rfl
attribute [simp] Try.underlying105
@[simp] theorem z105 : tsize Try.prog 105 = some 1 := by kernel_rfl
@[simp] theorem b105 : tbytes Try.prog 105 = some 24 := by kernel_rfl
@[simp] theorem a105 : tagg Try.prog 105 = some false := by kernel_rfl
@[simp] theorem t105 : tzero Try.prog 105 = some (.nils) := by kernel_rfl
attribute [simp] Try.underlying106
@[simp] theorem z106 : tsize Try.prog 106 = some 1 := by kernel_rfl
@[simp] theorem b106 : tbytes Try.prog 106 = some 0 := by kernel_rfl
@[simp] theorem a106 : tagg Try.prog 106 = some false := by kernel_rfl
attribute [simp] Try.underlying107
@[simp] theorem z107 : tsize Try.prog 107 = some 1 := by kernel_rfl
@[simp] theorem b107 : tbytes Try.prog 107 = some 8 := by kernel_rfl
@[simp] theorem a107 : tagg Try.prog 107 = some false := by kernel_rfl
@[simp] theorem t107 : tzero Try.prog 107 = some (.nilf) := by kernel_rfl
attribute [simp] Try.underlying108
@[simp] theorem z108 : tsize Try.prog 108 = some 3 := by kernel_rfl
@[simp] theorem b108 : tbytes Try.prog 108 = some 32 := by kernel_rfl
@[simp] theorem a108 : tagg Try.prog 108 = some true := by kernel_rfl
@[simp] theorem t108 : tzero Try.prog 108 = some (.agg [.bool false, .int .i64 0, .str []]) := by kernel_rfl
attribute [simp] Try.underlying109
@[simp] theorem z109 : tsize Try.prog 109 = some 3 := by kernel_rfl
@[simp] theorem b109 : tbytes Try.prog 109 = some 32 := by kernel_rfl
@[simp] theorem a109 : tagg Try.prog 109 = some true := by kernel_rfl
@[simp] theorem t109 : tzero Try.prog 109 = some (.agg [.bool false, .int .i64 0, .str []]) := by kernel_rfl
attribute [simp] Try.underlying110
@[simp] theorem z110 : tsize Try.prog 110 = some 1 := by kernel_rfl
@[simp] theorem b110 : tbytes Try.prog 110 = some 8 := by kernel_rfl
@[simp] theorem a110 : tagg Try.prog 110 = some false := by kernel_rfl
@[simp] theorem t110 : tzero Try.prog 110 = some (.nilf) := by kernel_rfl
attribute [simp] Try.underlying111
@[simp] theorem z111 : tsize Try.prog 111 = some 1 := by kernel_rfl
@[simp] theorem b111 : tbytes Try.prog 111 = some 8 := by kernel_rfl
@[simp] theorem a111 : tagg Try.prog 111 = some false := by kernel_rfl
@[simp] theorem t111 : tzero Try.prog 111 = some (.nilf) := by kernel_rfl
attribute [simp] Try.underlying112
@[simp] theorem z112 : tsize Try.prog 112 = some 1 := by kernel_rfl
@[simp] theorem b112 : tbytes Try.prog 112 = some 8 := by kernel_rfl
@[simp] theorem a112 : tagg Try.prog 112 = some false := by kernel_rfl
@[simp] theorem t112 : tzero Try.prog 112 = some (.nilf) := by kernel_rfl
attribute [simp] Try.underlying113
@[simp] theorem z113 : tsize Try.prog 113 = some 1 := by kernel_rfl
@[simp] theorem b113 : tbytes Try.prog 113 = some 0 := by kernel_rfl
@[simp] theorem a113 : tagg Try.prog 113 = some false := by kernel_rfl
attribute [simp] Try.underlying114
@[simp] theorem z114 : tsize Try.prog 114 = some 1 := by kernel_rfl
@[simp] theorem b114 : tbytes Try.prog 114 = some 8 := by kernel_rfl
@[simp] theorem a114 : tagg Try.prog 114 = some false := by kernel_rfl
@[simp] theorem t114 : tzero Try.prog 114 = some (.nilf) := by kernel_rfl
attribute [simp] Try.underlying115
@[simp] theorem z115 : tsize Try.prog 115 = some 2 := by kernel_rfl
@[simp] theorem b115 : tbytes Try.prog 115 = some 32 := by kernel_rfl
@[simp] theorem a115 : tagg Try.prog 115 = some true := by kernel_rfl
@[simp] theorem t115 : tzero Try.prog 115 = some (.agg [.nils, .int .i64 0]) := by kernel_rfl
attribute [simp] Try.underlying116
@[simp] theorem z116 : tsize Try.prog 116 = some 2 := by kernel_rfl
@[simp] theorem b116 : tbytes Try.prog 116 = some 32 := by kernel_rfl
@[simp] theorem a116 : tagg Try.prog 116 = some true := by kernel_rfl
@[simp] theorem t116 : tzero Try.prog 116 = some (.agg [.nils, .int .i64 0]) := by kernel_rfl
attribute [simp] Try.underlying117
@[simp] theorem z117 : tsize Try.prog 117 = some 1 := by kernel_rfl
@[simp] theorem b117 : tbytes Try.prog 117 = some 8 := by kernel_rfl
@[simp] theorem a117 : tagg Try.prog 117 = some false := by kernel_rfl
@[simp] theorem t117 : tzero Try.prog 117 = some (.nilf) := by kernel_rfl
attribute [simp] Try.underlying118
@[simp] theorem z118 : tsize Try.prog 118 = some 1 := by kernel_rfl
@[simp] theorem b118 : tbytes Try.prog 118 = some 0 := by kernel_rfl
@[simp] theorem a118 : tagg Try.prog 118 = some false := by kernel_rfl
attribute [simp] Try.underlying119
@[simp] theorem z119 : tsize Try.prog 119 = some 1 := by kernel_rfl
@[simp] theorem b119 : tbytes Try.prog 119 = some 8 := by kernel_rfl
@[simp] theorem a119 : tagg Try.prog 119 = some false := by kernel_rfl
@[simp] theorem t119 : tzero Try.prog 119 = some (.nilf) := by kernel_rfl
attribute [simp] Try.underlying120
@[simp] theorem z120 : tsize Try.prog 120 = some 1 := by kernel_rfl
@[simp] theorem b120 : tbytes Try.prog 120 = some 0 := by kernel_rfl
@[simp] theorem a120 : tagg Try.prog 120 = some false := by kernel_rfl
attribute [simp] Try.underlying121
@[simp] theorem z121 : tsize Try.prog 121 = some 1 := by kernel_rfl
@[simp] theorem b121 : tbytes Try.prog 121 = some 8 := by kernel_rfl
@[simp] theorem a121 : tagg Try.prog 121 = some false := by kernel_rfl
@[simp] theorem t121 : tzero Try.prog 121 = some (.nilf) := by kernel_rfl
attribute [simp] Try.underlying122
@[simp] theorem z122 : tsize Try.prog 122 = some 1 := by kernel_rfl
@[simp] theorem b122 : tbytes Try.prog 122 = some 8 := by kernel_rfl
@[simp] theorem a122 : tagg Try.prog 122 = some false := by kernel_rfl
@[simp] theorem t122 : tzero Try.prog 122 = some (.nilf) := by kernel_rfl
attribute [simp] Try.underlying123
@[simp] theorem z123 : tsize Try.prog 123 = some 1 := by kernel_rfl
@[simp] theorem b123 : tbytes Try.prog 123 = some 8 := by kernel_rfl
@[simp] theorem a123 : tagg Try.prog 123 = some false := by kernel_rfl
@[simp] theorem t123 : tzero Try.prog 123 = some (.nilf) := by kernel_rfl
attribute [simp] Try.underlying124
@[simp] theorem z124 : tsize Try.prog 124 = some 1 := by kernel_rfl
@[simp] theorem b124 : tbytes Try.prog 124 = some 0 := by kernel_rfl
@[simp] theorem a124 : tagg Try.prog 124 = some false := by kernel_rfl
attribute [simp] Try.underlying125
@[simp] theorem z125 : tsize Try.prog 125 = some 1 := by kernel_rfl
@[simp] theorem b125 : tbytes Try.prog 125 = some 8 := by kernel_rfl
@[simp] theorem a125 : tagg Try.prog 125 = some false := by kernel_rfl
@[simp] theorem t125 : tzero Try.prog 125 = some (.nilf) := by kernel_rfl
attribute [simp] Try.underlying126
@[simp] theorem z126 : tsize Try.prog 126 = some 1 := by kernel_rfl
@[simp] theorem b126 : tbytes Try.prog 126 = some 8 := by kernel_rfl
@[simp] theorem a126 : tagg Try.prog 126 = some false := by kernel_rfl
@[simp] theorem t126 : tzero Try.prog 126 = some (.nilf) := by kernel_rfl
attribute [simp] Try.underlying127
@[simp] theorem z127 : tsize Try.prog 127 = some 1 := by kernel_rfl
@[simp] theorem b127 : tbytes Try.prog 127 = some 24 := by kernel_rfl
@[simp] theorem a127 : tagg Try.prog 127 = some false := by kernel_rfl
@[simp] theorem t127 : tzero Try.prog 127 = some (.nils) := by kernel_rfl
attribute [simp] Try.underlying128
@[simp] theorem z128 : tsize Try.prog 128 = some 1 := by kernel_rfl
@[simp] theorem b128 : tbytes Try.prog 128 = some 8 := by kernel_rfl
@[simp] theorem a128 : tagg Try.prog 128 = some false := by kernel_rfl
@[simp] theorem t128 : tzero Try.prog 128 = some (.int .u64 0) := by kernel_rfl
attribute [simp] Try.underlying129
@[simp] theorem z129 : tsize Try.prog 129 = some 4 := by kernel_rfl
@[simp] theorem b129 : tbytes Try.prog 129 = some 40 := by kernel_rfl
@[simp] theorem a129 : tagg Try.prog 129 = some true := by kernel_rfl
@[simp] theorem t129 : tzero Try.prog 129 = some (.agg [.nilp, .nilp, .nilp, .str []]) := by kernel_rfl
attribute [simp] Try.underlying130
@[simp] theorem z130 : tsize Try.prog 130 = some 4 := by kernel_rfl
@[simp] theorem b130 : tbytes Try.prog 130 = some 40 := by kernel_rfl
@[simp] theorem a130 : tagg Try.prog 130 = some true := by kernel_rfl
@[simp] theorem t130 : tzero Try.prog 130 = some (.agg [.nilp, .nilp, .nilp, .str []]) := by kernel_rfl
attribute [simp] Try.underlying131
@[simp] theorem z131 : tsize Try.prog 131 = some 0 := by kernel_rfl
@[simp] theorem b131 : tbytes Try.prog 131 = some 0 := by kernel_rfl
@[simp] theorem a131 : tagg Try.prog 131 = some true := by kernel_rfl
@[simp] theorem t131 : tzero Try.prog 131 = some (.agg []) := by kernel_rfl
attribute [simp] Try.underlying132
@[simp] theorem z132 : tsize Try.prog 132 = some 0 := by kernel_rfl
@[simp] theorem b132 : tbytes Try.prog 132 = some 0 := by kernel_rfl
@[simp] theorem a132 : tagg Try.prog 132 = some true := by kernel_rfl
@[simp] theorem t132 : tzero Try.prog 132 = some (.agg []) := by kernel_rfl
attribute [simp] Try.underlying133
@[simp] theorem z133 : tsize Try.prog 133 = some 0 := by kernel_rfl
@[simp] theorem b133 : tbytes Try.prog 133 = some 0 := by kernel_rfl
@[simp] theorem a133 : tagg Try.prog 133 = some true := by kernel_rfl
@[simp] theorem t133 : tzero Try.prog 133 = some (.agg []) := by kernel_rfl
attribute [simp] Try.underlying134
@[simp] theorem z134 : tsize Try.prog 134 = some 1 := by kernel_rfl
@[simp] theorem b134 : tbytes Try.prog 134 = some 1 := by kernel_rfl
@[simp] theorem a134 : tagg Try.prog 134 = some false := by kernel_rfl
@[simp] theorem t134 : tzero Try.prog 134 = some (.int .u8 0) := by kernel_rfl
attribute [simp] Try.underlying135
@[simp] theorem z135 : tsize Try.prog 135 = some 1 := by kernel_rfl
@[simp] theorem b135 : tbytes Try.prog 135 = some 1 := by kernel_rfl
@[simp] theorem a135 : tagg Try.prog 135 = some false := by kernel_rfl
@[simp] theorem t135 : tzero Try.prog 135 = some (.int .u8 0) := by kernel_rfl
attribute [simp] Try.underlying136
@[simp] theorem z136 : tsize Try.prog 136 = some 1 := by kernel_rfl
@[simp] theorem b136 : tbytes Try.prog 136 = some 8 := by kernel_rfl
@[simp] theorem a136 : tagg Try.prog 136 = some false := by kernel_rfl
@[simp] theorem t136 : tzero Try.prog 136 = some (.nilf) := by kernel_rfl
attribute [simp] Try.underlying137
@[simp] theorem z137 : tsize Try.prog 137 = some 1 := by kernel_rfl
@[simp] theorem b137 : tbytes Try.prog 137 = some 8 := by kernel_rfl
@[simp] theorem a137 : tagg Try.prog 137 = some false := by kernel_rfl
@[simp] theorem t137 : tzero Try.prog 137 = some (.nilp) := by kernel_rfl
attribute [simp] Try.underlying138
@[simp] theorem z138 : tsize Try.prog 138 = some 1 := by kernel_rfl
@[simp] theorem b138 : tbytes Try.prog 138 = some 4 := by kernel_rfl
@[simp] theorem a138 : tagg Try.prog 138 = some false := by kernel_rfl
@[simp] theorem t138 : tzero Try.prog 138 = some (.int .i32 0) := by kernel_rfl
attribute [simp] Try.underlying139
@[simp] theorem z139 : tsize Try.prog 139 = some 1 := by kernel_rfl
@[simp] theorem b139 : tbytes Try.prog 139 = some 4 := by kernel_rfl
@[simp] theorem a139 : tagg Try.prog 139 = some false := by kernel_rfl
@[simp] theorem t139 : tzero Try.prog 139 = some (.int .i32 0) := by kernel_rfl
attribute [simp] Try.underlying140
@[simp] theorem z140 : tsize Try.prog 140 = some 11 := by kernel_rfl
@[simp] theorem b140 : tbytes Try.prog 140 = some 48 := by kernel_rfl
@[simp] theorem a140 : tagg Try.prog 140 = some true := by kernel_rfl
@[simp] theorem t140 : tzero Try.prog 140 = some (.agg [.int .u64 0, .int .u64 0, .int .u32 0, .int .u8 0, .int .u8 0, .int .u8 0, .int .u8 0, .nilf, .nilp, .int .i32 0, .int .i32 0]) := by kernel_rfl
attribute [simp] Try.underlying141
@[simp] theorem z141 : tsize Try.prog 141 = some 11 := by kernel_rfl
@[simp] theorem b141 : tbytes Try.prog 141 = some 48 := by kernel_rfl
@[simp] theorem a141 : tagg Try.prog 141 = some true := by kernel_rfl
@[simp] theorem t141 : tzero Try.prog 141 = some (.agg [.int .u64 0, .int .u64 0, .int .u32 0, .int .u8 0, .int .u8 0, .int .u8 0, .int .u8 0, .nilf, .nilp, .int .i32 0, .int .i32 0]) := by kernel_rfl
attribute [simp] Try.underlying142
@[simp] theorem z142 : tsize Try.prog 142 = some 1 := by kernel_rfl
@[simp] theorem b142 : tbytes Try.prog 142 = some 8 := by kernel_rfl
@[simp] theorem a142 : tagg Try.prog 142 = some false := by kernel_rfl
@[simp] theorem t142 : tzero Try.prog 142 = some (.nilp) := by kernel_rfl
@[simp] theorem hb2 : hasBody Try.prog 2 = true := by kernel_rfl
@[simp] theorem hb3 : hasBody Try.prog 3 = true := by kernel_rfl
@[simp] theorem hb4 : hasBody Try.prog 4 = true := by kernel_rfl
@[simp] theorem hb5 : hasBody Try.prog 5 = true := by kernel_rfl
@[simp] theorem hb6 : hasBody Try.prog 6 = true := by kernel_rfl
@[simp] theorem hb7 : hasBody Try.prog 7 = true := by kernel_rfl
@[simp] theorem hb8 : hasBody Try.prog 8 = true := by kernel_rfl
@[simp] theorem hb9 : hasBody Try.prog 9 = true := by kernel_rfl
@[simp] theorem hb10 : hasBody Try.prog 10 = true := by kernel_rfl
@[simp] theorem hb11 : hasBody Try.prog 11 = true := by kernel_rfl
@[simp] theorem hb12 : hasBody Try.prog 12 = true := by kernel_rfl
@[simp] theorem hb13 : hasBody Try.prog 13 = true := by kernel_rfl
@[simp] theorem hb14 : hasBody Try.prog 14 = true := by kernel_rfl
@[simp] theorem hb15 : hasBody Try.prog 15 = true := by kernel_rfl
@[simp] theorem hb16 : hasBody Try.prog 16 = true := by kernel_rfl
@[simp] theorem hb17 : hasBody Try.prog 17 = true := by kernel_rfl
@[simp] theorem hb18 : hasBody Try.prog 18 = true := by kernel_rfl
@[simp] theorem hb19 : hasBody Try.prog 19 = true := by kernel_rfl
@[simp] theorem hb20 : hasBody Try.prog 20 = true := by kernel_rfl
@[simp] theorem hb21 : hasBody Try.prog 21 = true := by kernel_rfl
@[simp] theorem hb22 : hasBody Try.prog 22 = true := by kernel_rfl
@[simp] theorem hb23 : hasBody Try.prog 23 = true := by kernel_rfl
@[simp] theorem hb24 : hasBody Try.prog 24 = true := by kernel_rfl
@[simp] theorem hb25 : hasBody Try.prog 25 = true := by kernel_rfl
@[simp] theorem hb26 : hasBody Try.prog 26 = true := by kernel_rfl
@[simp] theorem hb27 : hasBody Try.prog 27 = true := by kernel_rfl
@[simp] theorem hb28 : hasBody Try.prog 28 = true := by kernel_rfl
@[simp] theorem hb29 : hasBody Try.prog 29 = true := by kernel_rfl
@[simp] theorem hb30 : hasBody Try.prog 30 = true := by kernel_rfl
@[simp] theorem hb31 : hasBody Try.prog 31 = true := by kernel_rfl
@[simp] theorem hb32 : hasBody Try.prog 32 = true := by kernel_rfl
@[simp] theorem hb33 : hasBody Try.prog 33 = true := by kernel_rfl
@[simp] theorem hb34 : hasBody Try.prog 34 = true := by kernel_rfl
@[simp] theorem hb35 : hasBody Try.prog 35 = true := by kernel_rfl
@[simp] theorem hb36 : hasBody Try.prog 36 = true := by kernel_rfl
@[simp] theorem hb37 : hasBody Try.prog 37 = true := by kernel_rfl
@[simp] theorem hb38 : hasBody Try.prog 38 = true := by kernel_rfl
@[simp] theorem hb39 : hasBody Try.prog 39 = true := by kernel_rfl
@[simp] theorem hb40 : hasBody Try.prog 40 = true := by kernel_rfl
@[simp] theorem hb41 : hasBody Try.prog 41 = true := by kernel_rfl
@[simp] theorem hb42 : hasBody Try.prog 42 = true := by kernel_rfl
@[simp] theorem hb43 : hasBody Try.prog 43 = true := by kernel_rfl
@[simp] theorem hb44 : hasBody Try.prog 44 = true := by kernel_rfl
@[simp] theorem hb45 : hasBody Try.prog 45 = true := by kernel_rfl
@[simp] theorem hb46 : hasBody Try.prog 46 = true := by kernel_rfl
@[simp] theorem hb47 : hasBody Try.prog 47 = true := by kernel_rfl
@[simp] theorem hb48 : hasBody Try.prog 48 = true := by kernel_rfl
@[simp] theorem hb49 : hasBody Try.prog 49 = true := by kernel_rfl
@[simp] theorem hb50 : hasBody Try.prog 50 = true := by kernel_rfl
@[simp] theorem hb51 : hasBody Try.prog 51 = true := by kernel_rfl
@[simp] theorem hb52 : hasBody Try.prog 52 = true := by kernel_rfl
@[simp] theorem hb53 : hasBody Try.prog 53 = true := by kernel_rfl
@[simp] theorem hb54 : hasBody Try.prog 54 = true := by kernel_rfl
@[simp] theorem hb55 : hasBody Try.prog 55 = true := by kernel_rfl
@[simp] theorem hb56 : hasBody Try.prog 56 = true := by kernel_rfl
@[simp] theorem hb57 : hasBody Try.prog 57 = true := by kernel_rfl
@[simp] theorem hb58 : hasBody Try.prog 58 = true := by kernel_rfl
@[simp] theorem hb59 : hasBody Try.prog 59 = true := by kernel_rfl
@[simp] theorem hb60 : hasBody Try.prog 60 = true := by kernel_rfl
@[simp] theorem hb61 : hasBody Try.prog 61 = true := by kernel_rfl
@[simp] theorem hb62 : hasBody Try.prog 62 = true := by kernel_rfl
@[simp] theorem hb63 : hasBody Try.prog 63 = true := by kernel_rfl
@[simp] theorem hb64 : hasBody Try.prog 64 = true := by kernel_rfl
@[simp] theorem hb65 : hasBody Try.prog 65 = true := by kernel_rfl
@[simp] theorem hb66 : hasBody Try.prog 66 = true := by kernel_rfl
@[simp] theorem hb67 : hasBody Try.prog 67 = true := by kernel_rfl
@[simp] theorem hb68 : hasBody Try.prog 68 = true := by kernel_rfl
@[simp] theorem hb69 : hasBody Try.prog 69 = true := by kernel_rfl
@[simp] theorem hb70 : hasBody Try.prog 70 = true := by kernel_rfl
@[simp] theorem hb71 : hasBody Try.prog 71 = true := by kernel_rfl
@[simp] theorem hb72 : hasBody Try.prog 72 = true := by kernel_rfl
@[simp] theorem hb73 : hasBody Try.prog 73 = true := by kernel_rfl
@[simp] theorem hb74 : hasBody Try.prog 74 = true := by kernel_rfl
@[simp] theorem hb75 : hasBody Try.prog 75 = true := by kernel_rfl
@[simp] theorem hb76 : hasBody Try.prog 76 = true := by kernel_rfl
@[simp] theorem hb77 : hasBody Try.prog 77 = true := by kernel_rfl
@[simp] theorem hb78 : hasBody Try.prog 78 = true := by kernel_rfl
@[simp] theorem hb79 : hasBody Try.prog 79 = true := by kernel_rfl
@[simp] theorem hb80 : hasBody Try.prog 80 = true := by kernel_rfl
@[simp] theorem hb81 : hasBody Try.prog 81 = true := by kernel_rfl
@[simp] theorem hb82 : hasBody Try.prog 82 = true := by kernel_rfl
@[simp] theorem hb83 : hasBody Try.prog 83 = true := by kernel_rfl
@[simp] theorem hb84 : hasBody Try.prog 84 = true := by kernel_rfl
@[simp] theorem hb85 : hasBody Try.prog 85 = true := by kernel_rfl
@[simp] theorem hb86 : hasBody Try.prog 86 = true := by kernel_rfl
@[simp] theorem hb87 : hasBody Try.prog 87 = true := by kernel_rfl
@[simp] theorem hb88 : hasBody Try.prog 88 = true := by kernel_rfl
@[simp] theorem hb89 : hasBody Try.prog 89 = true := by kernel_rfl
@[simp] theorem hb90 : hasBody Try.prog 90 = true := by kernel_rfl
@[simp] theorem hb91 : hasBody Try.prog 91 = true := by kernel_rfl
@[simp] theorem hb92 : hasBody Try.prog 92 = true := by kernel_rfl
@[simp] theorem hb93 : hasBody Try.prog 93 = true := by kernel_rfl
@[simp] theorem hb95 : hasBody Try.prog 95 = true := by kernel_rfl
@[simp] theorem hb96 : hasBody Try.prog 96 = true := by kernel_rfl
@[simp] theorem hb97 : hasBody Try.prog 97 = true := by kernel_rfl

end Go.Vn

set_option maxRecDepth 20000
namespace Go.Vn
open Go.Proofs

/-- The objects that there were are as they were. -/
structure HO (h h' : Hp Fm) : Prop where
  no : h.no ≤ h'.no
  obj : ∀ o, o < h.no → Mp.get h'.obj o = Mp.get h.obj o
theorem HO.refl (h : Hp Fm) : HO h h := ⟨Nat.le_refl _, fun _ _ => rfl⟩
theorem HO.trans {a b c : Hp Fm} (h : HO a b) (k : HO b c) : HO a c := ⟨Nat.le_trans h.no k.no, fun o ho => (k.obj o (Nat.lt_of_lt_of_le ho h.no)).trans (h.obj o ho)⟩
theorem HE.ho {h h' : Hp Fm} (k : HE h h') : HO h h' := ⟨k.no, k.obj⟩
theorem RS.ho {lo : Nat} {h h' : Hp Fm} {sz : Nat} {ag : Bool} {els : List AV} {v : AV} (k : RS lo h sz ag els v) (he : HO h h') : RS lo h' sz ag els v := by
  rcases k with k | ⟨o, cap, rfl, hlo, ⟨J, h1, h2⟩, hc, ho⟩
  · exact .inl k
  · exact .inr ⟨o, cap, rfl, hlo, ⟨J, (he.obj o ho).trans h1, h2⟩, hc, Nat.lt_of_lt_of_le ho he.no⟩
/-- A value that is bytes. -/
structure BV (h : Hp Fm) (v : AV) (bs : List UInt8) : Prop where
  len : lenAV Try.prog 29 v = some (.int .i64 bs.length)
  nm : ∀ o, v ≠ .mp o
  old : ∀ q, isRow v q → q < h.no
  new : ∀ h', (∀ q, isRow v q → Mp.get h'.obj q = Mp.get h.obj q) → newEls h' 1 false v = some (bs.map byteAV)
  cells : v.cells = [v]
  isCell : v.isCell = true

theorem SV.noRow {sz : Nat} {xs : List AV} {v : AV} (k : SV sz xs v) (q : Nat) : ¬ isRow v q := by
  rintro ⟨_, _, _, _, _, e⟩
  rcases k with ⟨rfl, _⟩ | ⟨_, _, _, rfl⟩ | ⟨_, rfl, _⟩ <;> cases e
theorem BV.sv {h : Hp Fm} {v : AV} {bs : List UInt8} (k : SV 1 (bs.map byteAV) v) : BV h v bs :=
  ⟨by have := k.len Try.underlying29; simpa using this, k.nm, fun q hq => (k.noRow q hq).elim, fun h' _ => k.newEls, k.cells, k.isCell⟩
theorem BV.newO {h h' : Hp Fm} {v : AV} {bs : List UInt8} (k : BV h v bs) (he : HO h h') : newEls h' 1 false v = some (bs.map byteAV) := k.new h' fun q hq => he.obj q (k.old q hq)
theorem BV.mono {h h' : Hp Fm} {v : AV} {bs : List UInt8} (k : BV h v bs) (he : HO h h') : BV h' v bs :=
  ⟨k.len, k.nm, fun q hq => Nat.lt_of_lt_of_le (k.old q hq) he.no, fun g hg => k.new g fun q hq => (hg q hq).trans (he.obj q (k.old q hq)), k.cells, k.isCell⟩
theorem BV.hx {h h' : Hp Fm} {v : AV} {bs : List UInt8} {S G : Nat → Prop} (k : BV h v bs) (he : HX S G h h') (hs : ∀ q, isRow v q → ¬ S q) : BV h' v bs :=
  ⟨k.len, k.nm, fun q hq => Nat.lt_of_lt_of_le (k.old q hq) he.no, fun g hg => k.new g fun q hq => (hg q hq).trans (he.obj q (k.old q hq) (hs q hq)), k.cells, k.isCell⟩

/-- A file's bytes, and how many of them are safe. -/
abbrev FV : Type := List UInt8 × Nat
def FR (a : FV) (v : AV) : Prop := ∃ bv, SV 1 (a.1.map byteAV) bv ∧ v = .agg [bv, .int .i64 (a.2 : Nat)]
/-- A disk. -/
structure Dk where
  fs : Ents FV
  clk : Nat
  quota : Int
  left : Int
  down : Bool
structure DKs (h : Hp Fm) (p m : Nat) (D : Dk) : Prop where
  row : Mp.get h.obj p = some (.row [.mp m, .int .i64 D.quota, .int .i64 D.left, .bool D.down])
  map : ∃ es, Mp.get h.obj m = some (.mp es D.clk) ∧ EntsR FR D.fs es
  pn : p < h.no
  mn : m < h.no
  born : Born D.clk D.fs
theorem DKs.ne {h : Hp Fm} {p m : Nat} {D : Dk} (k : DKs h p m D) : p ≠ m := fun e => by
  obtain ⟨es, h1, _⟩ := k.map
  rw [← e, k.row] at h1; cases h1
theorem DKs.he {h h' : Hp Fm} {p m : Nat} {D : Dk} (k : DKs h p m D) (he : HE h h') : DKs h' p m D := by
  obtain ⟨es, h1, h2⟩ := k.map
  exact ⟨(he.obj p k.pn).trans k.row, ⟨es, (he.obj m k.mn).trans h1, h2⟩, Nat.lt_of_lt_of_le k.pn he.no, Nat.lt_of_lt_of_le k.mn he.no, k.born⟩
/-- The heap goes on, but for a disk. -/
abbrev DX (p m : Nat) (h h' : Hp Fm) : Prop := HX (fun o => o = p ∨ o = m) (fun _ => False) h h'

def has (k : List UInt8) (D : Dk) : Bool := (lookF k D.fs).isSome

theorem there_ans (k : List UInt8) (p m : Nat) (D : Dk) (h0 : Hp Fm) (d : DKs h0 p m D) :
    A Try.prog TT (.func 33) [.ptr p 0, .str k] h0 (fun r h' => r = .int .i64 (if has k D then 0 else 8) ∧ HE h0 h') := by
  have hr := d.row
  obtain ⟨es, hm, hes⟩ := d.map
  cases hl : lookF k D.fs with
  | none =>
    have lk := look_none (m := m) (clk := D.clk) (k := k) Try.underlying47 Try.underlying9 t69 hes hl
    have hh : has k D = false := by simp [has, hl]
    apply A_go Try.func33 rfl (by rfl); (case hn => (simp [Try.ntmps33]; rfl))
    repeat (first|with_reducible refine vmR ?_|with_reducible refine vmV rfl ?_|with_reducible refine vmW rfl ?_|with_reducible refine blockW_y (by decide) ?_|with_reducible refine vmL ?_|((with_reducible first|apply vmO|apply vmT);(case a=>simp [hr, hm, lk];with_reducible first|exact .v|exact .c))|((with_reducible apply vmC);(case e=>simp [hr, hm, lk];with_reducible first|exact .t|exact .f)))
    (first | apply endW_r | apply endW_n); (case h1 => (simp [Try.results33]; first | done | rfl))
    exact ⟨by simp [hh], ((HE.refl h0).new _).set (by simp) _⟩
  | some a =>
    obtain ⟨v, ⟨bv, k1, rfl⟩, lk⟩ := look_some (m := m) (clk := D.clk) (k := k) Try.underlying47 Try.underlying9 hes hl
    have hh : has k D = true := by simp [has, hl]
    have c1 := k1.cells
    have c2 := k1.isCell
    apply A_go Try.func33 rfl (by rfl); (case hn => (simp [Try.ntmps33]; rfl))
    repeat (first|with_reducible refine vmR ?_|with_reducible refine vmV rfl ?_|with_reducible refine vmW rfl ?_|with_reducible refine blockW_y (by decide) ?_|with_reducible refine vmL ?_|((with_reducible first|apply vmO|apply vmT);(case a=>simp [hr, hm, lk, c1, c2];with_reducible first|exact .v|exact .c))|((with_reducible apply vmC);(case e=>simp [hr, hm, lk, c1, c2];with_reducible first|exact .t|exact .f)))
    (first | apply endW_r | apply endW_n); (case h1 => (simp [Try.results33]; first | done | rfl))
    exact ⟨by simp [hh], ((HE.refl h0).new _).set (by simp) _⟩
end Go.Vn

set_option maxRecDepth 20000
namespace Go.Vn
open Go.Proofs

theorem etB : ElT Try.prog 29 5 1 1 false (.int .u8 0) := ⟨Try.underlying29, z5, b5, a5, t5, rfl, rfl, fun _ => rfl, by omega, by omega⟩
theorem fitB (x : UInt8) : Fit false 1 (byteAV x) := .inr ⟨rfl, rfl, rfl, rfl⟩
theorem fitBs (l : List UInt8) : ∀ e ∈ l.map byteAV, Fit false 1 e := fun e he => by obtain ⟨x, _, rfl⟩ := List.mem_map.mp he; exact fitB x

theorem RS.bv {lo : Nat} {h : Hp Fm} {bs : List UInt8} {v : AV} (k : RS lo h 1 false (bs.map byteAV) v) : BV h v bs := by
  refine ⟨?_, ?_, ?_, ?_, k.cells, k.isCell⟩
  · rcases k with ⟨rfl, e⟩ | ⟨o, cap, rfl, _, _⟩
    · have : bs = [] := by simpa using e
      subst this; simp [lenAV]
    · simp [lenAV]
  · intro o; rcases k with ⟨rfl, _⟩ | ⟨_, _, rfl, _⟩ <;> simp
  · rintro q ⟨_, _, _, _, _, e⟩
    rcases k with ⟨rfl, _⟩ | ⟨o, cap, rfl, _, k⟩
    · cases e
    · injection e with e; rw [← e]; exact k.on
  · intro h' hh
    rcases k with ⟨rfl, e⟩ | ⟨o, cap, rfl, hlo, ⟨J, h1, h2⟩, hc, ho⟩
    · rw [e]; rfl
    · exact RS.newEls (lo := 0) (h := { h' with no := o + 1 }) (.inr ⟨o, cap, rfl, Nat.zero_le _, ⟨J, (hh o ⟨_, _, _, _, _, rfl⟩).trans h1, h2⟩, hc, by simp⟩) (fitBs bs) (by omega) (fun _ => rfl)

theorem grow_ans (n : Nat) (hn : n ≤ 16777216 * 4) (h0 : Hp Fm) (hp : h0.pol 5 = true) :
    A Try.prog TT (.func 78) [.nils, .int .i64 n] h0 (fun r h' => RS h0.no h' 1 false [] r ∧ HE h0 h') := by
  have w0 : IntKind.i64.wrap (0 - 0) = 0 := by rfl
  have w1 : IntKind.i64.wrap ((n : Int) - 0) = n := by rw [wrap64 (by omega) (by omega)]; omega
  have w2 : IntKind.i64.wrap (n : Int) = n := wrap64 (by omega) (by omega)
  have nn : ¬ ((n : Int) < 0) := by omega
  by_cases hz : n = 0
  · subst hz
    apply A_go Try.func78 rfl (by rfl); (case hn => (simp [Try.ntmps78]; rfl))
    repeat (first|with_reducible refine vmR ?_|with_reducible refine vmV rfl ?_|with_reducible refine vmW rfl ?_|with_reducible refine blockW_y (by decide) ?_|with_reducible refine vmL ?_|((with_reducible first|apply vmO|apply vmT);(case a=>simp [w0, w1, w2, nn];with_reducible first|exact .v|exact .c))|((with_reducible apply vmC);(case e=>simp [w0, w1, w2, nn];with_reducible first|exact .t|exact .f)))
    (first | apply endW_r | apply endW_n); (case h1 => (simp [Try.results78]; first | done | rfl))
    exact ⟨.inl ⟨rfl, rfl⟩, HE.refl h0⟩
  · have pn : 0 < (n : Int) := by omega
    have pn2 : 0 < n := by omega
    have hap : appendAV Try.prog h0 29 3 .nils (.int .i64 n) = some (newRs h0.drew 1 false [.int .u8 0] (h0.grown n 0 5) (List.replicate n (.int .u8 0))) := by
      unfold appendAV
      have e1 : isIntD (.int .i64) = true := rfl
      have q1 : (0 : Int) ≤ n := by omega
      have q2 : (n : Int) * (1 : Nat) ≤ 2 ^ 40 := by omega
      have q3 : (n : Int) ≤ 2 ^ 40 := by omega
      have q4 : ¬ (n = 0) := hz
      have q5 : h0.drew.pol 5 = true := hp
      have q6 : n * 1 ≤ 2 ^ 40 := by omega
      simp only [Try.underlying29, Try.underlying3, z5, a5, b5, t5, Option.bind_some, e1, if_true, zeroEls, q1, q2, q3, and_self, Int.toNat_natCast, appendTo, List.length_replicate, q4, if_false, q6, newSeq, q5]
      rfl
    have sl : ∀ (o cap : Nat), sliceAV Try.prog 29 (.rs o 0 1 false n cap) none (some (.int .i64 0)) none = some (.rs o 0 1 false 0 cap) := fun o cap => by simp [sliceAV, obound, bound]
    have sl0 : sliceAV Try.prog 29 .nils none (some (.int .i64 0)) none = some .nils := by simp [sliceAV, obound, bound]
    apply A_go Try.func78 rfl (by rfl); (case hn => (simp [Try.ntmps78]; rfl))
    repeat (first|with_reducible refine vmR ?_|with_reducible refine vmV rfl ?_|with_reducible refine vmW rfl ?_|with_reducible refine blockW_y (by decide) ?_|with_reducible refine vmL ?_|((with_reducible first|apply vmO|apply vmT);(case a=>simp [w0, w1, w2, nn, pn, pn2, sl0];with_reducible first|exact .v|exact .c))|((with_reducible apply vmC);(case e=>simp [w0, w1, w2, nn, pn, pn2, sl0];with_reducible first|exact .t|exact .f)))
    with_reducible apply WO_app_i; (case hw => (simp; done)); (case ho => rfl); (case hb => rfl); (case ha => (simp; first | done | exact ⟨rfl, rfl⟩ | rfl)); (case h1 => (simp; first | done | rfl)); (case h2 => (simp; first | done | rfl))
    refine ⟨_, _, hap, ?_⟩
    refine ⟨_, by simp; first | done | rfl, ?_⟩
    repeat (first|with_reducible refine vmR ?_|with_reducible refine vmV rfl ?_|with_reducible refine vmW rfl ?_|with_reducible refine blockW_y (by decide) ?_|with_reducible refine vmL ?_|((with_reducible first|apply vmO|apply vmT);(case a=>simp [w0, sl, newRs];with_reducible first|exact .v|exact .c))|((with_reducible apply vmC);(case e=>simp [w0, sl, newRs];with_reducible first|exact .t|exact .f)))
    (first | apply endW_r | apply endW_n); (case h1 => (simp [Try.results78]; first | done | rfl))
    refine ⟨.inr ⟨h0.no, h0.grown n 0 5, by simp, Nat.le_refl _, ⟨⟨_, by simp; rfl, ?_⟩, by simp, by simp⟩⟩, (HE.refl h0).drew.new _⟩
    have := grown_ge h0 n 0 5
    simp
    omega

/-- Two pieces of bytes, one behind the other. -/
theorem concat_ans (b1 b2 : List UInt8) (v1 v2 : AV) (g cap : Nat) (h0 : Hp Fm) (k1 : BV h0 v1 b1) (k2 : BV h0 v2 b2) (hl : b1.length + b2.length ≤ 16777216 * 2) :
    A Try.prog TT (.func 53) [.sl g 0 1 cap [v1, v2]] h0 (fun r h' => SV 1 ((b1 ++ b2).map byteAV) r ∧ HE h0 h') := by
  have l1 := k1.len
  have l2 := k2.len
  have n1 := k1.nm
  have n2 := k2.nm
  have c1 := k1.cells
  have c2 := k2.cells
  have i1 := k1.isCell
  have i2 := k2.isCell
  obtain ⟨m1, hm1⟩ : ∃ m, m = b1.length := ⟨_, rfl⟩
  obtain ⟨m, hm⟩ : ∃ m, m = b1.length + b2.length := ⟨_, rfl⟩
  have w1 : IntKind.i64.wrap (b1.length : Int) = (m1 : Int) := by rw [hm1, wrap64 (by omega) (by omega)]
  have w2 : IntKind.i64.wrap ((m1 : Int) + (b2.length : Int)) = (m : Int) := by rw [hm, hm1, wrap64 (by omega) (by omega)]; omega
  have g1 : ¬ ((m1 : Int) < 0) := by omega
  have g2 : ¬ ((m : Int) < 0) := by omega
  have p0 : partAV false 1 [v1, v2] 0 = some v1 := rfl
  have p1 : partAV false 1 [v1, v2] 1 = some v2 := rfl
  apply A_goT Try.func53 rfl (by rfl); (case hn => (simp [Try.ntmps53]; rfl))
  repeat (first|with_reducible refine vmR ?_|with_reducible refine vmV rfl ?_|with_reducible refine vmW rfl ?_|with_reducible refine blockW_y (by decide) ?_|with_reducible refine vmL ?_|((with_reducible first|apply vmO|apply vmT);(case a=>simp;with_reducible first|exact .v|exact .c))|((with_reducible apply vmC);(case e=>simp;with_reducible first|exact .t|exact .f)))
  refine W_loop_i ?_
  repeat (first|with_reducible refine vmR ?_|with_reducible refine vmV rfl ?_|with_reducible refine vmW rfl ?_|with_reducible refine blockW_y (by decide) ?_|with_reducible refine vmL ?_|((with_reducible first|apply vmO|apply vmT);(case a=>simp [l1, l2, n1, n2, c1, c2, i1, i2, w1, g1];with_reducible first|exact .v|exact .c))|((with_reducible apply vmC);(case e=>simp [l1, l2, n1, n2, c1, c2, i1, i2, w1, g1];with_reducible first|exact .t|exact .f)))
  refine W_loop_i ?_
  repeat (first|with_reducible refine vmR ?_|with_reducible refine vmV rfl ?_|with_reducible refine vmW rfl ?_|with_reducible refine blockW_y (by decide) ?_|with_reducible refine vmL ?_|((with_reducible first|apply vmO|apply vmT);(case a=>simp [l1, l2, n1, n2, c1, c2, i1, i2, w1, w2, g1, g2];with_reducible first|exact .v|exact .c))|((with_reducible apply vmC);(case e=>simp [l1, l2, n1, n2, c1, c2, i1, i2, w1, w2, g1, g2];with_reducible first|exact .t|exact .f)))
  refine W_loop_i ?_
  repeat (first|with_reducible refine vmR ?_|with_reducible refine vmV rfl ?_|with_reducible refine vmW rfl ?_|with_reducible refine blockW_y (by decide) ?_|with_reducible refine vmL ?_|((with_reducible first|apply vmO|apply vmT);(case a=>simp [l1, l2, n1, n2, c1, c2, i1, i2, w1, w2, g1, g2];with_reducible first|exact .v|exact .c))|((with_reducible apply vmC);(case e=>simp [l1, l2, n1, n2, c1, c2, i1, i2, w1, w2, g1, g2];with_reducible first|exact .t|exact .f)))
  obtain ⟨ha, hha⟩ : ∃ ha : Hp Fm, ha = { h0 with pol := (· == 5) } := ⟨_, rfl⟩
  have o0 : HO h0 ha := by rw [hha]; exact ⟨Nat.le_refl _, fun _ _ => rfl⟩
  have f0 : ∀ h' : Hp Fm, HE ha h' → HE h0 { h' with pol := h0.pol } := fun h' k => ⟨by have := k.no; rw [hha] at this; exact this, by have := k.ng; rw [hha] at this; exact this, rfl, by have := k.obj; rw [hha] at this; exact this, by have := k.len; rw [hha] at this; exact this⟩
  have hpa : ha.pol 5 = true := by rw [hha]; rfl
  rw [← hha]
  refine A.mono (grow_ans m (by omega) ha hpa) ?_
  rintro u1 h1 ⟨r1, e1⟩
  have wc := r1.cells
  have wi := r1.isCell
  refine ⟨_, by simp; first | done | rfl, ?_⟩
  repeat (first|with_reducible refine vmR ?_|with_reducible refine vmV rfl ?_|with_reducible refine vmW rfl ?_|with_reducible refine blockW_y (by decide) ?_|with_reducible refine vmL ?_|((with_reducible first|apply vmO|apply vmT);(case a=>simp [wc, wi];with_reducible first|exact .v|exact .c))|((with_reducible apply vmC);(case e=>simp [wc, wi];with_reducible first|exact .t|exact .f)))
  refine W_loop_i ?_
  repeat (first|with_reducible refine vmR ?_|with_reducible refine vmV rfl ?_|with_reducible refine vmW rfl ?_|with_reducible refine blockW_y (by decide) ?_|with_reducible refine vmL ?_|((with_reducible first|apply vmO|apply vmT);(case a=>simp [l1, l2, n1, n2, c1, c2, i1, i2, wc, wi];with_reducible first|exact .v|exact .c))|((with_reducible apply vmC);(case e=>simp [l1, l2, n1, n2, c1, c2, i1, i2, wc, wi];with_reducible first|exact .t|exact .f)))
  with_reducible apply WO_app_i; (case hw => (simp; done)); (case ho => rfl); (case hb => rfl); (case ha => (simp; first | done | exact ⟨rfl, rfl⟩ | rfl)); (case h1 => (simp; first | done | rfl)); (case h2 => (simp; first | done | rfl))
  refine app_then (r1.appN etB e1.no (by rw [e1.pol]; exact hpa) (k1.newO (o0.trans e1.ho)) (by simp) (fitBs b1) (by simp; omega)) ?_
  rintro u2 h2 ⟨r2, x2, p2, q2⟩
  have e2 : HE ha h2 := e1.x2 x2 r1.rows (fun _ z => z.elim)
  have uc := r2.cells
  have ui := r2.isCell
  refine ⟨_, by simp; first | done | rfl, ?_⟩
  repeat (first|with_reducible refine vmR ?_|with_reducible refine vmV rfl ?_|with_reducible refine vmW rfl ?_|with_reducible refine blockW_y (by decide) ?_|with_reducible refine vmL ?_|((with_reducible first|apply vmO|apply vmT);(case a=>simp [uc, ui];with_reducible first|exact .v|exact .c))|((with_reducible apply vmC);(case e=>simp [uc, ui];with_reducible first|exact .t|exact .f)))
  refine W_loop_i ?_
  repeat (first|with_reducible refine vmR ?_|with_reducible refine vmV rfl ?_|with_reducible refine vmW rfl ?_|with_reducible refine blockW_y (by decide) ?_|with_reducible refine vmL ?_|((with_reducible first|apply vmO|apply vmT);(case a=>simp [l1, l2, n1, n2, c1, c2, i1, i2, uc, ui];with_reducible first|exact .v|exact .c))|((with_reducible apply vmC);(case e=>simp [l1, l2, n1, n2, c1, c2, i1, i2, uc, ui];with_reducible first|exact .t|exact .f)))
  with_reducible apply WO_app_i; (case hw => (simp; done)); (case ho => rfl); (case hb => rfl); (case ha => (simp; first | done | exact ⟨rfl, rfl⟩ | rfl)); (case h1 => (simp; first | done | rfl)); (case h2 => (simp; first | done | rfl))
  refine app_then (r2.appN etB e2.no (by rw [e2.pol]; exact hpa) (k2.newO (o0.trans e2.ho)) (by simpa using fitBs b1) (fitBs b2) (by simp; omega)) ?_
  rintro u3 h3 ⟨r3, x3, p3, q3⟩
  have e3 : HE ha h3 := e2.x2 x3 r2.rows (fun _ z => z.elim)
  have tc := r3.cells
  have ti := r3.isCell
  refine ⟨_, by simp; first | done | rfl, ?_⟩
  repeat (first|with_reducible refine vmR ?_|with_reducible refine vmV rfl ?_|with_reducible refine vmW rfl ?_|with_reducible refine blockW_y (by decide) ?_|with_reducible refine vmL ?_|((with_reducible first|apply vmO|apply vmT);(case a=>simp [tc, ti];with_reducible first|exact .v|exact .c))|((with_reducible apply vmC);(case e=>simp [tc, ti];with_reducible first|exact .t|exact .f)))
  refine W_loop_i ?_
  repeat (first|with_reducible refine vmR ?_|with_reducible refine vmV rfl ?_|with_reducible refine vmW rfl ?_|with_reducible refine blockW_y (by decide) ?_|with_reducible refine vmL ?_|((with_reducible first|apply vmO|apply vmT);(case a=>simp [tc, ti];with_reducible first|exact .v|exact .c))|((with_reducible apply vmC);(case e=>simp [tc, ti];with_reducible first|exact .t|exact .f)))
  (first | apply endW_r | apply endW_n); (case h1 => (simp [Try.results53]; first | done | rfl))
  have fit3 : ∀ e ∈ [] ++ b1.map byteAV ++ b2.map byteAV, Fit false 1 e := by
    intro e he
    rw [List.nil_append, ← List.map_append] at he
    exact fitBs _ e he
  obtain ⟨z1, z2⟩ := r3.frz fit3 (by omega) (fun _ => rfl)
  refine ⟨by simpa using z1, f0 _ (e3.x2 z2 r3.rows (fun _ z => z.elim))⟩

/-- A copy of bytes: a slice, or a row, as the policy has it. -/
theorem cloneb_ans (b : List UInt8) (v : AV) (h0 : Hp Fm) (k : SV 1 (b.map byteAV) v) (hl : b.length ≤ 16777216 * 4) (hp : h0.pol 5 = false) :
    A Try.prog TT (.func 34) [v] h0 (fun r h' => SV 1 (b.map byteAV) r ∧ HE h0 h') := by
  have c1 := k.cells
  have i1 := k.isCell
  rcases k with ⟨rfl, e⟩ | ⟨g, off, cp, rfl⟩ | ⟨c, rfl, e⟩
  · apply A_go Try.func34 rfl (by rfl); (case hn => (simp [Try.ntmps34]; rfl))
    repeat (first|with_reducible refine vmR ?_|with_reducible refine vmV rfl ?_|with_reducible refine vmW rfl ?_|with_reducible refine blockW_y (by decide) ?_|with_reducible refine vmL ?_|((with_reducible first|apply vmO|apply vmT);(case a=>simp [eqlAV];with_reducible first|exact .v|exact .c))|((with_reducible apply vmC);(case e=>simp [eqlAV];with_reducible first|exact .t|exact .f)))
    (first | apply endW_r | apply endW_n); (case h1 => (simp [Try.results34]; first | done | rfl))
    exact ⟨.inl ⟨rfl, e⟩, HE.refl h0⟩
  · apply A_go Try.func34 rfl (by rfl); (case hn => (simp [Try.ntmps34]; rfl))
    repeat (first|with_reducible refine vmR ?_|with_reducible refine vmV rfl ?_|with_reducible refine vmW rfl ?_|with_reducible refine blockW_y (by decide) ?_|with_reducible refine vmL ?_|((with_reducible first|apply vmO|apply vmT);(case a=>simp [eqlAV, newSeq, hp, newSl];with_reducible first|exact .v|exact .c))|((with_reducible apply vmC);(case e=>simp [eqlAV, newSeq, hp, newSl];with_reducible first|exact .t|exact .f)))
    obtain ⟨ha, hha⟩ : ∃ ha : Hp Fm, ha = { h0 with len := Mp.set h0.len h0.ng 0, ng := h0.ng + 1 } := ⟨_, rfl⟩
    have e0 : HE h0 ha := by rw [hha]; exact (HE.refl h0).newSl 0
    rw [← hha]
    with_reducible apply WO_app_i; (case hw => (simp; done)); (case ho => rfl); (case hb => rfl); (case ha => (simp; first | done | exact ⟨rfl, rfl⟩ | rfl)); (case h1 => (simp; first | done | rfl)); (case h2 => (simp; first | done | rfl))
    refine app_then (AC.appN etB (h0 := h0) (h := ha) (acc := []) (new := b.map byteAV) (.inr ⟨h0.ng, 0, 0, rfl, by rw [hha]; simp [Mp.get_set], by rw [hha]; simp, Nat.le_refl _⟩) e0 hp rfl (by simp; omega)) ?_
    rintro u h1 ⟨k1, e1, _⟩
    have uc := k1.sv.cells
    have ui := k1.sv.isCell
    refine ⟨_, by simp; first | done | rfl, ?_⟩
    repeat (first|with_reducible refine vmR ?_|with_reducible refine vmV rfl ?_|with_reducible refine vmW rfl ?_|with_reducible refine blockW_y (by decide) ?_|with_reducible refine vmL ?_|((with_reducible first|apply vmO|apply vmT);(case a=>simp [uc, ui];with_reducible first|exact .v|exact .c))|((with_reducible apply vmC);(case e=>simp [uc, ui];with_reducible first|exact .t|exact .f)))
    (first | apply endW_r | apply endW_n); (case h1 => (simp [Try.results34]; first | done | rfl))
    exact ⟨by simpa using k1.sv, e1⟩
  · have hb : b = [] := by simpa using e
    subst hb
    apply A_go Try.func34 rfl (by rfl); (case hn => (simp [Try.ntmps34]; rfl))
    repeat (first|with_reducible refine vmR ?_|with_reducible refine vmV rfl ?_|with_reducible refine vmW rfl ?_|with_reducible refine blockW_y (by decide) ?_|with_reducible refine vmL ?_|((with_reducible first|apply vmO|apply vmT);(case a=>simp [eqlAV, newSeq, hp, newSl, appendAV, newEls, appendTo, isIntD];with_reducible first|exact .v|exact .c))|((with_reducible apply vmC);(case e=>simp [eqlAV, newSeq, hp, newSl, appendAV, newEls, appendTo, isIntD];with_reducible first|exact .t|exact .f)))
    (first | apply endW_r | apply endW_n); (case h1 => (simp [Try.results34]; first | done | rfl))
    exact ⟨.inr (.inl ⟨_, _, _, rfl⟩), (HE.refl h0).newSl 0⟩
theorem cloneb_ansR (b : List UInt8) (v : AV) (h0 : Hp Fm) (k : SV 1 (b.map byteAV) v) (hl : b.length ≤ 16777216 * 4) (hp : h0.pol 5 = true) :
    A Try.prog TT (.func 34) [v] h0 (fun r h' => RS h0.no h' 1 false (b.map byteAV) r ∧ HE h0 h') := by
  have c1 := k.cells
  have i1 := k.isCell
  have nn := k.nm
  rcases k with ⟨rfl, e⟩ | ⟨g, off, cp, rfl⟩ | ⟨c, rfl, e⟩
  · apply A_go Try.func34 rfl (by rfl); (case hn => (simp [Try.ntmps34]; rfl))
    repeat (first|with_reducible refine vmR ?_|with_reducible refine vmV rfl ?_|with_reducible refine vmW rfl ?_|with_reducible refine blockW_y (by decide) ?_|with_reducible refine vmL ?_|((with_reducible first|apply vmO|apply vmT);(case a=>simp [eqlAV];with_reducible first|exact .v|exact .c))|((with_reducible apply vmC);(case e=>simp [eqlAV];with_reducible first|exact .t|exact .f)))
    (first | apply endW_r | apply endW_n); (case h1 => (simp [Try.results34]; first | done | rfl))
    exact ⟨.inl ⟨rfl, e⟩, HE.refl h0⟩
  · apply A_go Try.func34 rfl (by rfl); (case hn => (simp [Try.ntmps34]; rfl))
    repeat (first|with_reducible refine vmR ?_|with_reducible refine vmV rfl ?_|with_reducible refine vmW rfl ?_|with_reducible refine blockW_y (by decide) ?_|with_reducible refine vmL ?_|((with_reducible first|apply vmO|apply vmT);(case a=>simp [eqlAV, newSeq, hp, newRs];with_reducible first|exact .v|exact .c))|((with_reducible apply vmC);(case e=>simp [eqlAV, newSeq, hp, newRs];with_reducible first|exact .t|exact .f)))
    obtain ⟨ha, hha⟩ : ∃ ha : Hp Fm, ha = { h0 with obj := Mp.set h0.obj h0.no (.row []), no := h0.no + 1 } := ⟨_, rfl⟩
    have e0 : HE h0 ha := by rw [hha]; exact (HE.refl h0).new _
    rw [← hha]
    have r0 : RS h0.no ha 1 false [] (.rs h0.no 0 1 false 0 0) := .inr ⟨h0.no, 0, rfl, Nat.le_refl _, ⟨⟨[], by rw [hha]; simp [Mp.get_set], rfl⟩, Nat.le_refl _, by rw [hha]; simp⟩⟩
    with_reducible apply WO_app_i; (case hw => (simp; done)); (case ho => rfl); (case hb => rfl); (case ha => (simp; first | done | exact ⟨rfl, rfl⟩ | rfl)); (case h1 => (simp; first | done | rfl)); (case h2 => (simp; first | done | rfl))
    refine app_then (r0.appN etB e0.no (by rw [e0.pol]; exact hp) (new := b.map byteAV) rfl (by simp) (fitBs b) (by simp; omega)) ?_
    rintro u h1 ⟨k1, x1, _, _⟩
    have uc := k1.cells
    have ui := k1.isCell
    refine ⟨_, by simp; first | done | rfl, ?_⟩
    repeat (first|with_reducible refine vmR ?_|with_reducible refine vmV rfl ?_|with_reducible refine vmW rfl ?_|with_reducible refine blockW_y (by decide) ?_|with_reducible refine vmL ?_|((with_reducible first|apply vmO|apply vmT);(case a=>simp [uc, ui];with_reducible first|exact .v|exact .c))|((with_reducible apply vmC);(case e=>simp [uc, ui];with_reducible first|exact .t|exact .f)))
    (first | apply endW_r | apply endW_n); (case h1 => (simp [Try.results34]; first | done | rfl))
    exact ⟨by simpa using k1, e0.x2 x1 r0.rows (fun _ z => z.elim)⟩
  · have hb : b = [] := by simpa using e
    subst hb
    apply A_go Try.func34 rfl (by rfl); (case hn => (simp [Try.ntmps34]; rfl))
    repeat (first|with_reducible refine vmR ?_|with_reducible refine vmV rfl ?_|with_reducible refine vmW rfl ?_|with_reducible refine blockW_y (by decide) ?_|with_reducible refine vmL ?_|((with_reducible first|apply vmO|apply vmT);(case a=>simp [eqlAV, newSeq, hp, newRs, appendAV, newEls, appendTo, isIntD];with_reducible first|exact .v|exact .c))|((with_reducible apply vmC);(case e=>simp [eqlAV, newSeq, hp, newRs, appendAV, newEls, appendTo, isIntD];with_reducible first|exact .t|exact .f)))
    (first | apply endW_r | apply endW_n); (case h1 => (simp [Try.results34]; first | done | rfl))
    exact ⟨.inr ⟨h0.no, 0, rfl, Nat.le_refl _, ⟨⟨[], by simp, rfl⟩, Nat.le_refl _, by simp⟩⟩, (HE.refl h0).new _⟩
end Go.Vn

set_option maxRecDepth 20000
namespace Go.Vn
open Go.Proofs

def Dk.put (D : Dk) (k : List UInt8) (a : FV) : Dk := { D with fs := setF k a D.clk D.fs, clk := clkF k D.clk D.fs }
def Dk.del (D : Dk) (k : List UInt8) : Dk := { D with fs := delF k D.fs }
def Dk.tick (D : Dk) : Dk := { D with left := if 0 < D.left then D.left - 1 else D.left }
def Dk.cut (D : Dk) : Dk := { D with left := -1, down := true }
/-- A deed. -/
def Dk.deed (D : Dk) (e : Int) (does torn : Dk → Dk) : Int × Dk :=
  if D.down then (7, D) else if e ≠ 0 then (e, D) else if D.left = 0 then (7, torn D.cut) else (0, does D.tick)

/-- The disk's own row is written. -/
theorem DKs.setRow {h : Hp Fm} {p m : Nat} {D : Dk} (d : DKs h p m D) (q l : Int) (b : Bool) : DKs { h with obj := Mp.set h.obj p (.row [.mp m, .int .i64 q, .int .i64 l, .bool b]) } p m { D with quota := q, left := l, down := b } := by
  obtain ⟨es, h1, h2⟩ := d.map
  refine ⟨by simp [Mp.get_set], ⟨es, ?_, h2⟩, d.pn, d.mn, d.born⟩
  simp only [Mp.get_set]
  rw [if_neg (Ne.symm d.ne)]; exact h1

theorem deed_ans (p m : Nat) (D : Dk) (h0 : Hp Fm) (d : DKs h0 p m D) (hl : -1 ≤ D.left ∧ D.left ≤ 9223372036854775807) (e : Int) (i1 i2 : Nat) (c1 c2 : List AV) (hb1 : hasBody Try.prog i1 = true) (hb2 : hasBody Try.prog i2 = true) (does torn : Dk → Dk)
    (hd : e = 0 → D.down = false → ∀ h, DKs h p m D.tick → DX p m h0 h → A Try.prog TT (.func i1) c1 h (fun _ h' => DKs h' p m (does D.tick) ∧ DX p m h h'))
    (ht : e = 0 → D.down = false → ∀ h, DKs h p m D.cut → DX p m h0 h → A Try.prog TT (.func i2) c2 h (fun _ h' => DKs h' p m (torn D.cut) ∧ DX p m h h')) :
    A Try.prog TT (.func 38) [.ptr p 0, .int .i64 e, .fn (.func i1) [] c1, .fn (.func i2) [] c2] h0 (fun r h' => r = .int .i64 (D.deed e does torn).1 ∧ DKs h' p m (D.deed e does torn).2 ∧ DX p m h0 h') := by
  have hr := d.row
  cases q1 : D.down with
  | true =>
    rw [q1] at hr
    apply A_go Try.func38 rfl (by rfl); (case hn => (simp [Try.ntmps38]; rfl))
    repeat (first|with_reducible refine vmR ?_|with_reducible refine vmV rfl ?_|with_reducible refine vmW rfl ?_|with_reducible refine blockW_y (by decide) ?_|with_reducible refine vmL ?_|((with_reducible first|apply vmO|apply vmT);(case a=>simp [hr];with_reducible first|exact .v|exact .c))|((with_reducible apply vmC);(case e=>simp [hr];with_reducible first|exact .t|exact .f)))
    (first | apply endW_r | apply endW_n); (case h1 => (simp [Try.results38]; first | done | rfl))
    simp only [Dk.deed, q1, if_true]
    exact ⟨trivial, d, HX.refl _ _ _⟩
  | false =>
    rw [q1] at hr
    by_cases q2 : e = 0
    · by_cases q3 : D.left = 0
      · have e1 : D.deed e does torn = (7, torn D.cut) := by simp [Dk.deed, q1, q2, q3]
        rw [e1]
        rw [q3] at hr
        have d1 := d.setRow D.quota (-1) true
        have x1 : DX p m h0 { h0 with obj := Mp.set h0.obj p (.row [.mp m, .int .i64 D.quota, .int .i64 (-1), .bool true]) } := (HX.refl _ _ _).set (fun _ => .inl rfl) _
        have w1 : { h0 with obj := Mp.set (Mp.set h0.obj p (.row [.mp m, .int .i64 D.quota, .int .i64 0, .bool true])) p (.row [.mp m, .int .i64 D.quota, .int .i64 (-1), .bool true]) } = { h0 with obj := Mp.set h0.obj p (.row [.mp m, .int .i64 D.quota, .int .i64 (-1), .bool true]) } := by
          have : Mp.set (Mp.set h0.obj p (.row [.mp m, .int .i64 D.quota, .int .i64 0, .bool true])) p (.row [.mp m, .int .i64 D.quota, .int .i64 (-1), .bool true]) = Mp.set h0.obj p (.row [.mp m, .int .i64 D.quota, .int .i64 (-1), .bool true]) := by
            funext j; show (if j = p then _ else (if j = p then _ else _)) = (if j = p then _ else _); split <;> rfl
          rw [this]
        apply A_go Try.func38 rfl (by rfl); (case hn => (simp [Try.ntmps38]; rfl))
        repeat (first|with_reducible refine vmR ?_|with_reducible refine vmV rfl ?_|with_reducible refine vmW rfl ?_|with_reducible refine blockW_y (by decide) ?_|with_reducible refine vmL ?_|((with_reducible first|apply vmO|apply vmT);(case a=>simp [hr, q2, hb2];with_reducible first|exact .v|exact .c))|((with_reducible apply vmC);(case e=>simp [hr, q2, hb2];with_reducible first|exact .t|exact .f)))
        rw [w1]
        refine A.mono (ht q2 q1 _ d1 x1) ?_
        rintro _ h2 ⟨d2, x2⟩
        refine ⟨_, by simp; first | done | rfl, ?_⟩
        repeat (first|with_reducible refine vmR ?_|with_reducible refine vmV rfl ?_|with_reducible refine vmW rfl ?_|with_reducible refine blockW_y (by decide) ?_|with_reducible refine vmL ?_|((with_reducible first|apply vmO|apply vmT);(case a=>simp;with_reducible first|exact .v|exact .c))|((with_reducible apply vmC);(case e=>simp;with_reducible first|exact .t|exact .f)))
        (first | apply endW_r | apply endW_n); (case h1 => (simp [Try.results38]; first | done | rfl))
        exact ⟨rfl, d2, x1.trans (x2.mono (fun _ _ q => q) (fun _ _ q => q))⟩
      · have e1 : D.deed e does torn = (0, does D.tick) := by simp [Dk.deed, q1, q2, q3]
        rw [e1]
        by_cases q4 : 0 < D.left
        · have w0 : IntKind.i64.wrap (D.left - 1) = D.left - 1 := wrap64 (by omega) (by omega)
          have d1 := d.setRow D.quota (D.left - 1) false
          have et : ({ D with quota := D.quota, left := D.left - 1, down := false } : Dk) = D.tick := by simp [Dk.tick, q4, q1]
          rw [et] at d1
          have x1 : DX p m h0 { h0 with obj := Mp.set h0.obj p (.row [.mp m, .int .i64 D.quota, .int .i64 (D.left - 1), .bool false]) } := (HX.refl _ _ _).set (fun _ => .inl rfl) _
          apply A_go Try.func38 rfl (by rfl); (case hn => (simp [Try.ntmps38]; rfl))
          repeat (first|with_reducible refine vmR ?_|with_reducible refine vmV rfl ?_|with_reducible refine vmW rfl ?_|with_reducible refine blockW_y (by decide) ?_|with_reducible refine vmL ?_|((with_reducible first|apply vmO|apply vmT);(case a=>simp [hr, q2, q3, q4, w0, hb1];with_reducible first|exact .v|exact .c))|((with_reducible apply vmC);(case e=>simp [hr, q2, q3, q4, w0, hb1];with_reducible first|exact .t|exact .f)))
          refine A.mono (hd q2 q1 _ d1 x1) ?_
          rintro _ h2 ⟨d2, x2⟩
          refine ⟨_, by simp; first | done | rfl, ?_⟩
          repeat (first|with_reducible refine vmR ?_|with_reducible refine vmV rfl ?_|with_reducible refine vmW rfl ?_|with_reducible refine blockW_y (by decide) ?_|with_reducible refine vmL ?_|((with_reducible first|apply vmO|apply vmT);(case a=>simp;with_reducible first|exact .v|exact .c))|((with_reducible apply vmC);(case e=>simp;with_reducible first|exact .t|exact .f)))
          (first | apply endW_r | apply endW_n); (case h1 => (simp [Try.results38]; first | done | rfl))
          exact ⟨rfl, d2, x1.trans (x2.mono (fun _ _ q => q) (fun _ _ q => q))⟩
        · have et : D = D.tick := by simp [Dk.tick, q4]
          apply A_go Try.func38 rfl (by rfl); (case hn => (simp [Try.ntmps38]; rfl))
          repeat (first|with_reducible refine vmR ?_|with_reducible refine vmV rfl ?_|with_reducible refine vmW rfl ?_|with_reducible refine blockW_y (by decide) ?_|with_reducible refine vmL ?_|((with_reducible first|apply vmO|apply vmT);(case a=>simp [hr, q2, q3, q4, hb1];with_reducible first|exact .v|exact .c))|((with_reducible apply vmC);(case e=>simp [hr, q2, q3, q4, hb1];with_reducible first|exact .t|exact .f)))
          refine A.mono (hd q2 q1 _ (et ▸ d) (HX.refl _ _ _)) ?_
          rintro _ h2 ⟨d2, x2⟩
          refine ⟨_, by simp; first | done | rfl, ?_⟩
          repeat (first|with_reducible refine vmR ?_|with_reducible refine vmV rfl ?_|with_reducible refine vmW rfl ?_|with_reducible refine blockW_y (by decide) ?_|with_reducible refine vmL ?_|((with_reducible first|apply vmO|apply vmT);(case a=>simp;with_reducible first|exact .v|exact .c))|((with_reducible apply vmC);(case e=>simp;with_reducible first|exact .t|exact .f)))
          (first | apply endW_r | apply endW_n); (case h1 => (simp [Try.results38]; first | done | rfl))
          exact ⟨rfl, d2, x2⟩
    · have e1 : D.deed e does torn = (e, D) := by simp [Dk.deed, q1, q2]
      rw [e1]
      apply A_go Try.func38 rfl (by rfl); (case hn => (simp [Try.ntmps38]; rfl))
      repeat (first|with_reducible refine vmR ?_|with_reducible refine vmV rfl ?_|with_reducible refine vmW rfl ?_|with_reducible refine blockW_y (by decide) ?_|with_reducible refine vmL ?_|((with_reducible first|apply vmO|apply vmT);(case a=>simp [hr, q2];with_reducible first|exact .v|exact .c))|((with_reducible apply vmC);(case e=>simp [hr, q2];with_reducible first|exact .t|exact .f)))
      (first | apply endW_r | apply endW_n); (case h1 => (simp [Try.results38]; first | done | rfl))
      exact ⟨rfl, d, HX.refl _ _ _⟩
end Go.Vn

set_option maxRecDepth 20000
namespace Go.Vn
open Go.Proofs

def signs : List UInt8 := [46, 45, 48, 49, 50, 51, 52, 53, 54, 55, 56, 57, 97, 98, 99, 100, 101, 102, 103, 104, 105, 106, 107, 108, 109, 110, 111, 112, 113, 114, 115, 116, 117, 118, 119, 120, 121, 122]
def okc (c : UInt8) : Bool := signs.contains c
/-- A text that is a file's name. -/
def namedP (s : List UInt8) : Bool := s.all okc && decide (1 ≤ s.length) && decide (s.length ≤ 20)

theorem hbib : hasBody Try.prog 94 = false := by kernel_rfl
theorem ext_ib (h : Hp Fm) (s : List UInt8) (c : Int) : externAV Try.prog h 94 [.str s, .int .u8 c] = some (.int .i64 (idxByte s (UInt8.ofNat c.toNat))) := by
  have e1 : Try.f94.body.isSome = false := by kernel_rfl
  have e2 : (Try.f94.name == "runtime.NumGoroutine") = false := by kernel_rfl
  have e3 : Try.f94.name = "internal/bytealg.IndexByteString" := by kernel_rfl
  have e4 : (Extern.allNextRows.lookup Try.f94.origin).isSome = false := by kernel_rfl
  unfold externAV
  rw [Try.func94]
  simp only [e1, e2, Bool.or_self, e3, if_true, e4]
  simp

theorem ixb_ans (s : List UInt8) (c : UInt8) (h0 : Hp Fm) : A Try.prog TT (.func 71) [.str s, byteAV c] h0 (fun r h' => r = .int .i64 (idxByte s c) ∧ HE h0 h') := by
  have e : UInt8.ofNat (c.toNat : Int).toNat = c := by simp
  have x := ext_ib h0 s c.toNat
  rw [e] at x
  apply A_go Try.func71 rfl (by rfl); (case hn => (simp [Try.ntmps71]; rfl))
  repeat (first|with_reducible refine vmR ?_|with_reducible refine vmV rfl ?_|with_reducible refine vmW rfl ?_|with_reducible refine blockW_y (by decide) ?_|with_reducible refine vmL ?_|((with_reducible first|apply vmO|apply vmT);(case a=>simp;with_reducible first|exact .v|exact .c))|((with_reducible apply vmC);(case e=>simp;with_reducible first|exact .t|exact .f)))
  refine A.mono (Q := _) (R := fun r h' => r = .int .i64 (idxByte s c) ∧ HE h0 h') ?_ ?_
  · apply A_go Try.func87 rfl (by rfl); (case hn => (simp [Try.ntmps87]; rfl))
    repeat (first|with_reducible refine vmR ?_|with_reducible refine vmV rfl ?_|with_reducible refine vmW rfl ?_|with_reducible refine blockW_y (by decide) ?_|with_reducible refine vmL ?_|((with_reducible first|apply vmO|apply vmT);(case a=>simp [enterFn, hbib, x, byteAV];with_reducible first|exact .v|exact .c))|((with_reducible apply vmC);(case e=>simp [enterFn, hbib, x, byteAV];with_reducible first|exact .t|exact .f)))
    (first | apply endW_r | apply endW_n); (case h1 => (simp [Try.results87]; first | done | rfl))
    exact ⟨rfl, HE.refl h0⟩
  · rintro _ h1 ⟨rfl, e1⟩
    refine ⟨_, by simp; first | done | rfl, ?_⟩
    repeat (first|with_reducible refine vmR ?_|with_reducible refine vmV rfl ?_|with_reducible refine vmW rfl ?_|with_reducible refine blockW_y (by decide) ?_|with_reducible refine vmL ?_|((with_reducible first|apply vmO|apply vmT);(case a=>simp;with_reducible first|exact .v|exact .c))|((with_reducible apply vmC);(case e=>simp;with_reducible first|exact .t|exact .f)))
    (first | apply endW_r | apply endW_n); (case h1 => (simp [Try.results71]; first | done | rfl))
    exact ⟨rfl, e1⟩

theorem ixb_any (l : List UInt8) (c : UInt8) : idxByte l c < 0 ↔ l.contains c = false := by
  unfold idxByte
  cases h : l.findIdx? (· == c) with
  | none =>
    have h2 := List.findIdx?_eq_none_iff.mp h
    refine ⟨fun _ => ?_, fun _ => by decide⟩
    rw [List.contains_eq_any_beq, List.any_eq_false]
    intro x hx k
    have h3 := h2 x hx
    have : x = c := (eq_of_beq k).symm
    simp [this] at h3
  | some i =>
    obtain ⟨h1, h2, _⟩ := List.findIdx?_eq_some_iff_getElem.mp h
    have h3 : l.contains c = true := by
      rw [List.contains_eq_any_beq, List.any_eq_true]
      exact ⟨l[i], List.getElem_mem h1, by rw [eq_of_beq h2]; simp⟩
    rw [h3]
    refine ⟨fun k => ?_, fun k => by cases k⟩
    simp only at k; omega
theorem ixb_neg (c : UInt8) : idxByte signs c < 0 ↔ okc c = false := ixb_any signs c

theorem named_ans (s : List UInt8) (hs : s.length ≤ 1000000) (h0 : Hp Fm) : A Try.prog TT (.func 37) [.str s] h0 (fun r h' => r = .bool (namedP s) ∧ HE h0 h') := by
  obtain ⟨n, hn⟩ : ∃ n, n = s.length := ⟨_, rfl⟩
  apply A_go Try.func37 rfl (by rfl); (case hn => (simp [Try.ntmps37]; rfl))
  repeat (first|with_reducible refine vmR ?_|with_reducible refine vmV rfl ?_|with_reducible refine vmW rfl ?_|with_reducible refine blockW_y (by decide) ?_|with_reducible refine vmL ?_|((with_reducible first|apply vmO|apply vmT);(case a=>simp;with_reducible first|exact .v|exact .c))|((with_reducible apply vmC);(case e=>simp;with_reducible first|exact .t|exact .f)))
  refine W_loop (fun mm st => ∃ (t : Fm AV) (h : Hp Fm) (i : Nat), st = ⟨t, 22, h, none⟩ ∧ mm = n - i ∧ i ≤ n ∧ (s.take i).all okc = true ∧ tget t 0 = .str s ∧ tget t 5 = .int .i64 n ∧ tget t 6 = .int .i64 i ∧ HE h0 h) n
      ⟨_, _, 0, rfl, rfl, by omega, by simp, by simp, by simp [hn], by simp, HE.refl h0⟩ ?_
  rintro _ _ ⟨t, h, i, rfl, rfl, hi, ha, ht0, ht5, ht6, he⟩
  have fold : ∀ c, A Try.prog TT (.func 71) [.str [46, 45, 48, 49, 50, 51, 52, 53, 54, 55, 56, 57, 97, 98, 99, 100, 101, 102, 103, 104, 105, 106, 107, 108, 109, 110, 111, 112, 113, 114, 115, 116, 117, 118, 119, 120, 121, 122], byteAV c] h (fun r h' => r = .int .i64 (idxByte signs c) ∧ HE h h') := fun c => ixb_ans signs c h
  have neg := ixb_neg
  generalize signs = sg at fold neg
  by_cases q : i < n
  · have q' : (i : Int) < n := by omega
    have qs : i < s.length := by omega
    have w1 : IntKind.i64.wrap ((i : Int) + 1) = ((i + 1 : Nat) : Int) := by rw [wrap64 (by omega) (by omega)]; simp
    have gi : s[i]? = some s[i] := List.getElem?_eq_getElem qs
    repeat (first|with_reducible refine vmR ?_|with_reducible refine vmV rfl ?_|with_reducible refine vmW rfl ?_|with_reducible refine blockW_y (by decide) ?_|with_reducible refine vmL ?_|((with_reducible first|apply vmO|apply vmT);(case a=>simp [ht0, ht5, ht6, q', indexAV, gi];with_reducible first|exact .v|exact .c))|((with_reducible apply vmC);(case e=>simp [ht0, ht5, ht6, q', indexAV, gi];with_reducible first|exact .t|exact .f)))
    refine A.mono (fold s[i]) ?_
    rintro _ h1 ⟨rfl, e1⟩
    refine ⟨_, by simp; first | done | rfl, ?_⟩
    cases hk : okc s[i] with
    | false =>
      have := (neg s[i]).mpr hk
      repeat (first|with_reducible refine vmR ?_|with_reducible refine vmV rfl ?_|with_reducible refine vmW rfl ?_|with_reducible refine blockW_y (by decide) ?_|with_reducible refine vmL ?_|((with_reducible first|apply vmO|apply vmT);(case a=>simp [this];with_reducible first|exact .v|exact .c))|((with_reducible apply vmC);(case e=>simp [this];with_reducible first|exact .t|exact .f)))
      (first | apply endW_r | apply endW_n); (case h1 => (simp [Try.results37]; first | done | rfl))
      refine ⟨?_, he.trans e1⟩
      have : s.all okc = false := by
        rw [List.all_eq_false]; exact ⟨s[i], List.getElem_mem qs, by simp [hk]⟩
      simp [namedP, this]
    | true =>
      have : ¬ idxByte sg s[i] < 0 := fun z => by rw [(neg s[i]).mp z] at hk; cases hk
      repeat (first|with_reducible refine vmR ?_|with_reducible refine vmV rfl ?_|with_reducible refine vmW rfl ?_|with_reducible refine blockW_y (by decide) ?_|with_reducible refine vmL ?_|((with_reducible first|apply vmO|apply vmT);(case a=>simp [this, ht6, w1];with_reducible first|exact .v|exact .c))|((with_reducible apply vmC);(case e=>simp [this, ht6, w1];with_reducible first|exact .t|exact .f)))
      refine ⟨n - (i + 1), by omega, _, _, i + 1, rfl, rfl, by omega, ?_, by simp [ht0], by simp [ht5], by simp, he.trans e1⟩
      rw [List.take_succ_eq_append_getElem qs, List.all_append, ha]; simp [hk]
  · have q' : ¬ (i : Int) < n := by omega
    have : i = n := by omega
    subst this
    rw [hn, List.take_length] at ha
    by_cases q2 : s = []
    · subst q2
      repeat (first|with_reducible refine vmR ?_|with_reducible refine vmV rfl ?_|with_reducible refine vmW rfl ?_|with_reducible refine blockW_y (by decide) ?_|with_reducible refine vmL ?_|((with_reducible first|apply vmO|apply vmT);(case a=>simp [ht0, ht5, ht6, q', eqB];with_reducible first|exact .v|exact .c))|((with_reducible apply vmC);(case e=>simp [ht0, ht5, ht6, q', eqB];with_reducible first|exact .t|exact .f)))
      (first | apply endW_r | apply endW_n); (case h1 => (simp [Try.results37]; first | done | rfl))
      exact ⟨by simp [namedP], he⟩
    · have nb : eqB s [] = false := by rw [eqB_dec]; simp [q2]
      have hp : 1 ≤ s.length := by cases s with | nil => exact (q2 rfl).elim | cons _ _ => simp
      by_cases q3 : s.length ≤ 20
      · have q3' : (s.length : Int) ≤ 20 := by omega
        repeat (first|with_reducible refine vmR ?_|with_reducible refine vmV rfl ?_|with_reducible refine vmW rfl ?_|with_reducible refine blockW_y (by decide) ?_|with_reducible refine vmL ?_|((with_reducible first|apply vmO|apply vmT);(case a=>simp [ht0, ht5, ht6, q', nb, q3', q3];with_reducible first|exact .v|exact .c))|((with_reducible apply vmC);(case e=>simp [ht0, ht5, ht6, q', nb, q3', q3];with_reducible first|exact .t|exact .f)))
        (first | apply endW_r | apply endW_n); (case h1 => (simp [Try.results37]; first | done | rfl))
        exact ⟨by simp [namedP, ha, hp, q3], he⟩
      · have q3' : ¬ (s.length : Int) ≤ 20 := by omega
        repeat (first|with_reducible refine vmR ?_|with_reducible refine vmV rfl ?_|with_reducible refine vmW rfl ?_|with_reducible refine blockW_y (by decide) ?_|with_reducible refine vmL ?_|((with_reducible first|apply vmO|apply vmT);(case a=>simp [ht0, ht5, ht6, q', nb, q3', q3];with_reducible first|exact .v|exact .c))|((with_reducible apply vmC);(case e=>simp [ht0, ht5, ht6, q', nb, q3', q3];with_reducible first|exact .t|exact .f)))
        (first | apply endW_r | apply endW_n); (case h1 => (simp [Try.results37]; first | done | rfl))
        exact ⟨by simp [namedP, q3], he⟩
end Go.Vn

set_option maxRecDepth 20000
namespace Go.Vn
open Go.Proofs

def lenOf : AV → Nat
  | .sl _ _ _ _ els => els.length
  | _ => 0
theorem SV.lenOf {sz : Nat} {xs : List AV} {v : AV} (k : SV sz xs v) : lenOf v = xs.length := by
  rcases k with ⟨rfl, rfl⟩ | ⟨_, _, _, rfl⟩ | ⟨_, rfl, rfl⟩ <;> rfl
def szE (e : AV × AV × Nat) : Nat := match e.2.1 with
  | .agg (bv :: _) => lenOf bv
  | _ => 0
def used (fs : Ents FV) : Nat := (fs.map fun f => f.2.1.1.length).sum
theorem szE_used : ∀ (fs : Ents FV) (es : List (AV × AV × Nat)), EntsR FR fs es → (es.map szE).sum = used fs
  | [], [], _ => rfl
  | [], _ :: _, h => h.elim
  | _ :: _, [], h => h.elim
  | f :: fs, e :: es, ⟨⟨_, ⟨bv, k, hv⟩, _⟩, h⟩ => by
    have ih := szE_used fs es h
    unfold used at ih ⊢
    simp only [List.map_cons, List.sum_cons, ih]
    congr 1
    simp only [szE, hv, k.lenOf, List.length_map]

theorem perm_sum {α : Type} (f : α → Nat) {l m : List α} (h : l.Perm m) : (l.map f).sum = (m.map f).sum := by
  induction h with
  | nil => rfl
  | cons a _ ih => simp [ih]
  | swap a b l => simp; omega
  | trans _ _ h1 h2 => exact h1.trans h2

set_option maxHeartbeats 1000000 in
theorem used_ans (p m : Nat) (D : Dk) (h0 : Hp Fm) (d : DKs h0 p m D) (hu : used D.fs ≤ 1000000000000) :
    A Try.prog TT (.func 51) [.ptr p 0] h0 (fun r h' => r = .int .i64 (used D.fs : Nat) ∧ HE h0 h') := by
  have hr := d.row
  obtain ⟨es, hm, hes⟩ := d.map
  have hbirth := hes.births
  have hnd : (es.map (·.2.2)).Nodup := by rw [hbirth]; exact d.born.nd
  have hlt : ∀ e ∈ es, e.2.2 < D.clk := fun e he => by
    have : e.2.2 ∈ es.map (·.2.2) := List.mem_map_of_mem he
    rw [hbirth] at this
    obtain ⟨f, hf, e1⟩ := List.mem_map.mp this
    have := d.born.lt f hf; omega
  have htot := szE_used _ _ hes
  have hmn := d.mn
  have ne : h0.no ≠ m := by omega
  apply A_go Try.func51 rfl (by rfl); (case hn => (simp [Try.ntmps51]; rfl))
  repeat (first|with_reducible refine vmR ?_|with_reducible refine vmV rfl ?_|with_reducible refine vmW rfl ?_|with_reducible refine blockW_y (by decide) ?_|with_reducible refine vmL ?_|((with_reducible first|apply vmO|apply vmT);(case a=>simp [hr, hm, rangeAV];with_reducible first|exact .v|exact .c))|((with_reducible apply vmC);(case e=>simp [hr, hm, rangeAV];with_reducible first|exact .t|exact .f)))
  obtain ⟨ha, hha⟩ : ∃ ha : Hp Fm, ha = { h0 with obj := Mp.set h0.obj h0.no (.iter (some m) D.clk [] D.clk), no := h0.no + 1 } := ⟨_, rfl⟩
  have e0 : HE h0 ha := by rw [hha]; exact (HE.refl h0).new _
  have gi : Mp.get ha.obj h0.no = some (.iter (some m) D.clk (([] : List (AV × AV × Nat)).map (·.2.2)) D.clk) := by rw [hha]; simp
  have gn : h0.no < ha.no := by rw [hha]; simp
  rw [← hha]
  refine W_loop (fun mm st => ∃ (t : Fm AV) (h : Hp Fm) (done : List (AV × AV × Nat)), st = ⟨t, 21, h, none⟩ ∧ mm = es.length - done.length ∧ (∀ e ∈ done, e ∈ es) ∧ (done.map (·.2.2)).Nodup ∧ Mp.get h.obj h0.no = some (.iter (some m) D.clk (done.map (·.2.2)) D.clk) ∧ tget t 10 = .ptr h0.no 0 ∧ tget t 3 = .int .i64 ((done.map szE).sum : Nat) ∧ HE h0 h ∧ h0.no < h.no) es.length
      ⟨_, _, [], rfl, by simp, by simp, by simp, gi, by simp, by simp, e0, gn⟩ ?_
  rintro _ _ ⟨t, h, done, rfl, rfl, hd, hdn, hi, ht10, ht3, he, hno⟩
  have hmh : Mp.get h.obj m = some (.mp es D.clk) := (he.obj m d.mn).trans hm
  repeat (first|with_reducible refine vmR ?_|with_reducible refine vmV rfl ?_|with_reducible refine vmW rfl ?_|with_reducible refine blockW_y (by decide) ?_|with_reducible refine vmL ?_|((with_reducible first|apply vmO|apply vmT);(case a=>simp;with_reducible first|exact .v|exact .c))|((with_reducible apply vmC);(case e=>simp;with_reducible first|exact .t|exact .f)))
  with_reducible refine WO_next_i done ?_ rfl ?_ hi hmh hlt hnd hd hdn ?_ ?_
  · simp
  · simp [ht10]
  · intro h1 k1 hp
    refine ⟨_, by simp; first | done | rfl, ?_⟩
    repeat (first|with_reducible refine vmR ?_|with_reducible refine vmV rfl ?_|with_reducible refine vmW rfl ?_|with_reducible refine blockW_y (by decide) ?_|with_reducible refine vmL ?_|((with_reducible first|apply vmO|apply vmT);(case a=>simp [ht3];with_reducible first|exact .v|exact .c))|((with_reducible apply vmC);(case e=>simp [ht3];with_reducible first|exact .t|exact .f)))
    (first | apply endW_r | apply endW_n); (case h1 => (simp [Try.results51]; first | done | rfl))
    exact ⟨by rw [perm_sum szE hp, htot], he.trans k1.he⟩
  · intro h1 e hin hnot k1 hno1 hit
    replace hno1 : h1.no = h.no := hno1
    replace k1 : HX (fun q => q = h0.no) (fun _ => False) h h1 := k1
    have hen := entry_some (done := done) (h := h1) (es := es) hit (by rw [k1.obj m (Nat.lt_of_lt_of_le hmn he.no) (Ne.symm ne)]; exact hmh) hnd hin
    obtain ⟨f, hf, ⟨_, ⟨bv, kb, hv⟩, _⟩⟩ := hes.mem hin
    have bc := kb.cells
    have bi := kb.isCell
    have bn := kb.nm
    have bl := kb.len Try.underlying29
    rw [List.length_map] at bl
    have hsz : szE e = f.2.1.1.length := by simp only [szE, hv, kb.lenOf, List.length_map]
    have hdn' : ((done ++ [e]).map (·.2.2)).Nodup := by
      rw [List.map_append, List.nodup_append]
      refine ⟨hdn, by simp, fun a ha b hb => ?_⟩
      simp only [List.map_cons, List.map_nil, List.mem_singleton] at hb
      subst hb; intro q; exact hnot (q ▸ ha)
    have hd' : ∀ x ∈ done ++ [e], x ∈ es := fun x hx => by
      rcases List.mem_append.mp hx with q | q
      · exact hd x q
      · rw [List.mem_singleton.mp q]; exact hin
    have hle := sum_sub szE (done ++ [e]) es (nodup_of_map _ hdn') hd'
    have hln := len_sub (done ++ [e]) es (nodup_of_map _ hdn') hd'
    rw [htot, List.map_append, List.sum_append] at hle
    simp only [List.map_cons, List.map_nil, List.sum_cons, List.sum_nil] at hle
    rw [List.length_append, List.length_singleton] at hln
    obtain ⟨sm, hsm⟩ : ∃ sm, sm = (done.map szE).sum := ⟨_, rfl⟩
    rw [← hsm] at ht3 hle
    have w1 : IntKind.i64.wrap ((sm : Int) + (f.2.1.1.length : Int)) = ((sm + f.2.1.1.length : Nat) : Int) := by rw [wrap64 (by omega) (by omega)]; simp
    obtain ⟨ek, ev, est⟩ := e
    simp only at hv
    subst hv
    refine ⟨_, by simp; first | done | rfl, ?_⟩
    repeat (first|with_reducible refine vmR ?_|with_reducible refine vmV rfl ?_|with_reducible refine vmW rfl ?_|with_reducible refine blockW_y (by decide) ?_|with_reducible refine vmL ?_|((with_reducible first|apply vmO|apply vmT);(case a=>simp [ht10, hen, ht3, bc, bi, bn, bl, w1];with_reducible first|exact .v|exact .c))|((with_reducible apply vmC);(case e=>simp [ht10, hen, ht3, bc, bi, bn, bl, w1];with_reducible first|exact .t|exact .f)))
    refine ⟨es.length - (done ++ [(ek, _, est)]).length, by simp; omega, _, _, done ++ [(ek, _, est)], rfl, rfl, hd', hdn', ?_, by simp [ht10], ?_, ?_, ?_⟩
    · simp only [Mp.get_set]
      rw [if_neg (by omega), if_neg (by omega)]; exact hit
    · simp; omega
    · refine (he.x2 k1 (fun q e => by omega) (fun _ z => z.elim)).trans ?_
      exact ((HE.refl h1).new _).set (Nat.le_refl _) _
    · simp; omega
end Go.Vn
