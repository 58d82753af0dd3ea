/- What functions of the program come to, in the value machine (a part of the proof of the claim's statement). No condition. -/
import Derived.Test.YtnbflhcbhicgmaaGreatVnG1
import Derived.Test.YtnbflhcbhicgmaaGreatVnB5
import Derived.Test.YtnbflhcbhicgmaaGreatProg
import Derived.KernelRfl
set_option linter.unusedSimpArgs false
set_option linter.unusedVariables false
set_option maxRecDepth 20000
namespace Go.Vn
open Go.Proofs
attribute [simp] extractAV capAV fieldAV
@[simp] theorem len_nils {P : Program} {t e : TypeId} (hu : P.underlying t = some (.slice e)) : lenAV P t .nils = some (.int .i64 0) := by simp [lenAV, hu]
@[simp] theorem len_esl {P : Program} {t e : TypeId} {c : Nat} (hu : P.underlying t = some (.slice e)) : lenAV P t (.esl c) = some (.int .i64 0) := by simp [lenAV, hu]
@[simp] theorem len_str {P : Program} {t : TypeId} {s : List UInt8} (hu : P.underlying t = some .string) : lenAV P t (.str s) = some (.int .i64 s.length) := by simp [lenAV, hu]

def TT : Tab := fun f => match f with
  | 50 => some (· == 5)
  | 62 => some (· == 9)
  | _ => none

attribute [simp] Tryz.underlying1 Tryz.underlying3 Tryz.underlying4 Tryz.underlying5 Tryz.underlying9 Tryz.underlying22 Tryz.underlying23 Tryz.underlying24 Tryz.underlying26 Tryz.underlying27 Tryz.underlying29 Tryz.underlying30 Tryz.underlying33 Tryz.underlying35 Tryz.underlying36 Tryz.underlying38 Tryz.underlying44 Tryz.underlying46 Tryz.underlying49 Tryz.underlying58 Tryz.underlying61 Tryz.underlying65 Tryz.underlying67 Tryz.underlying69 Tryz.underlying71 Tryz.underlying74 Tryz.underlying77 Tryz.underlying80 Tryz.underlying87 Tryz.underlying88 Tryz.underlying100 Tryz.underlying106 Tryz.underlying113 Tryz.underlying117 Tryz.underlying120 Tryz.underlying121 Tryz.underlying124 Tryz.underlying128 Tryz.underlying143 Tryz.underlying153 Tryz.underlying154 Tryz.underlying158 Tryz.underlying160
@[simp] theorem z1 : tsize Tryz.prog 1 = some 1 := by kernel_rfl
@[simp] theorem b1 : tbytes Tryz.prog 1 = some 8 := by kernel_rfl
@[simp] theorem a1 : tagg Tryz.prog 1 = some false := by kernel_rfl
@[simp] theorem t1 : tzero Tryz.prog 1 = some (.nilf) := by kernel_rfl
@[simp] theorem z3 : tsize Tryz.prog 3 = some 1 := by kernel_rfl
@[simp] theorem b3 : tbytes Tryz.prog 3 = some 8 := by kernel_rfl
@[simp] theorem a3 : tagg Tryz.prog 3 = some false := by kernel_rfl
@[simp] theorem t3 : tzero Tryz.prog 3 = some (.int .i64 0) := by kernel_rfl
@[simp] theorem z4 : tsize Tryz.prog 4 = some 1 := by kernel_rfl
@[simp] theorem b4 : tbytes Tryz.prog 4 = some 1 := by kernel_rfl
@[simp] theorem a4 : tagg Tryz.prog 4 = some false := by kernel_rfl
@[simp] theorem t4 : tzero Tryz.prog 4 = some (.bool false) := by kernel_rfl
@[simp] theorem z5 : tsize Tryz.prog 5 = some 1 := by kernel_rfl
@[simp] theorem b5 : tbytes Tryz.prog 5 = some 1 := by kernel_rfl
@[simp] theorem a5 : tagg Tryz.prog 5 = some false := by kernel_rfl
@[simp] theorem t5 : tzero Tryz.prog 5 = some (.int .u8 0) := by kernel_rfl
@[simp] theorem z9 : tsize Tryz.prog 9 = some 1 := by kernel_rfl
@[simp] theorem b9 : tbytes Tryz.prog 9 = some 16 := by kernel_rfl
@[simp] theorem a9 : tagg Tryz.prog 9 = some false := by kernel_rfl
@[simp] theorem t9 : tzero Tryz.prog 9 = some (.str []) := by kernel_rfl
@[simp] theorem z22 : tsize Tryz.prog 22 = some 1 := by kernel_rfl
@[simp] theorem b22 : tbytes Tryz.prog 22 = some 24 := by kernel_rfl
@[simp] theorem a22 : tagg Tryz.prog 22 = some false := by kernel_rfl
@[simp] theorem t22 : tzero Tryz.prog 22 = some (.nils) := by kernel_rfl
@[simp] theorem z23 : tsize Tryz.prog 23 = some 1 := by kernel_rfl
@[simp] theorem b23 : tbytes Tryz.prog 23 = some 8 := by kernel_rfl
@[simp] theorem a23 : tagg Tryz.prog 23 = some false := by kernel_rfl
@[simp] theorem t23 : tzero Tryz.prog 23 = some (.nilp) := by kernel_rfl
@[simp] theorem z24 : tsize Tryz.prog 24 = some 1 := by kernel_rfl
@[simp] theorem b24 : tbytes Tryz.prog 24 = some 8 := by kernel_rfl
@[simp] theorem a24 : tagg Tryz.prog 24 = some false := by kernel_rfl
@[simp] theorem t24 : tzero Tryz.prog 24 = some (.nilp) := by kernel_rfl
@[simp] theorem z26 : tsize Tryz.prog 26 = some 1 := by kernel_rfl
@[simp] theorem b26 : tbytes Tryz.prog 26 = some 8 := by kernel_rfl
@[simp] theorem a26 : tagg Tryz.prog 26 = some false := by kernel_rfl
@[simp] theorem t26 : tzero Tryz.prog 26 = some (.nilp) := by kernel_rfl
@[simp] theorem z27 : tsize Tryz.prog 27 = some 1 := by kernel_rfl
@[simp] theorem b27 : tbytes Tryz.prog 27 = some 24 := by kernel_rfl
@[simp] theorem a27 : tagg Tryz.prog 27 = some false := by kernel_rfl
@[simp] theorem t27 : tzero Tryz.prog 27 = some (.nils) := by kernel_rfl
@[simp] theorem z29 : tsize Tryz.prog 29 = some 5 := by kernel_rfl
@[simp] theorem b29 : tbytes Tryz.prog 29 = some 72 := by kernel_rfl
@[simp] theorem a29 : tagg Tryz.prog 29 = some true := by kernel_rfl
@[simp] theorem t29 : tzero Tryz.prog 29 = some (.agg [.nilp, .nilp, .nils, .nils, .bool false]) := by kernel_rfl
@[simp] theorem z30 : tsize Tryz.prog 30 = some 1 := by kernel_rfl
@[simp] theorem b30 : tbytes Tryz.prog 30 = some 8 := by kernel_rfl
@[simp] theorem a30 : tagg Tryz.prog 30 = some false := by kernel_rfl
@[simp] theorem t30 : tzero Tryz.prog 30 = some (.int .i64 0) := by kernel_rfl
@[simp] theorem z33 : tsize Tryz.prog 33 = some 1 := by kernel_rfl
@[simp] theorem b33 : tbytes Tryz.prog 33 = some 24 := by kernel_rfl
@[simp] theorem a33 : tagg Tryz.prog 33 = some false := by kernel_rfl
@[simp] theorem t33 : tzero Tryz.prog 33 = some (.nils) := by kernel_rfl
@[simp] theorem z35 : tsize Tryz.prog 35 = some 2 := by kernel_rfl
@[simp] theorem b35 : tbytes Tryz.prog 35 = some 32 := by kernel_rfl
@[simp] theorem a35 : tagg Tryz.prog 35 = some true := by kernel_rfl
@[simp] theorem t35 : tzero Tryz.prog 35 = some (.agg [.int .i64 0, .nils]) := by kernel_rfl
@[simp] theorem z36 : tsize Tryz.prog 36 = some 1 := by kernel_rfl
@[simp] theorem b36 : tbytes Tryz.prog 36 = some 24 := by kernel_rfl
@[simp] theorem a36 : tagg Tryz.prog 36 = some false := by kernel_rfl
@[simp] theorem t36 : tzero Tryz.prog 36 = some (.nils) := by kernel_rfl
@[simp] theorem z38 : tsize Tryz.prog 38 = some 5 := by kernel_rfl
@[simp] theorem b38 : tbytes Tryz.prog 38 = some 72 := by kernel_rfl
@[simp] theorem a38 : tagg Tryz.prog 38 = some true := by kernel_rfl
@[simp] theorem t38 : tzero Tryz.prog 38 = some (.agg [.int .i64 0, .int .i64 0, .int .i64 0, .nils, .nils]) := by kernel_rfl
@[simp] theorem z44 : tsize Tryz.prog 44 = some 1 := by kernel_rfl
@[simp] theorem b44 : tbytes Tryz.prog 44 = some 8 := by kernel_rfl
@[simp] theorem a44 : tagg Tryz.prog 44 = some false := by kernel_rfl
@[simp] theorem t44 : tzero Tryz.prog 44 = some (.nilm) := by kernel_rfl
@[simp] theorem z46 : tsize Tryz.prog 46 = some 4 := by kernel_rfl
@[simp] theorem b46 : tbytes Tryz.prog 46 = some 32 := by kernel_rfl
@[simp] theorem a46 : tagg Tryz.prog 46 = some true := by kernel_rfl
@[simp] theorem t46 : tzero Tryz.prog 46 = some (.agg [.nilm, .int .i64 0, .int .i64 0, .bool false]) := by kernel_rfl
@[simp] theorem z49 : tsize Tryz.prog 49 = some 4 := by kernel_rfl
@[simp] theorem b49 : tbytes Tryz.prog 49 = some 40 := by kernel_rfl
@[simp] theorem a49 : tagg Tryz.prog 49 = some true := by kernel_rfl
@[simp] theorem t49 : tzero Tryz.prog 49 = some (.agg [.nilp, .str [], .int .i64 0, .bool false]) := by kernel_rfl
@[simp] theorem z58 : tsize Tryz.prog 58 = some 1 := by kernel_rfl
@[simp] theorem b58 : tbytes Tryz.prog 58 = some 24 := by kernel_rfl
@[simp] theorem a58 : tagg Tryz.prog 58 = some false := by kernel_rfl
@[simp] theorem t58 : tzero Tryz.prog 58 = some (.nils) := by kernel_rfl
@[simp] theorem z61 : tsize Tryz.prog 61 = some 1 := by kernel_rfl
@[simp] theorem b61 : tbytes Tryz.prog 61 = some 8 := by kernel_rfl
@[simp] theorem a61 : tagg Tryz.prog 61 = some false := by kernel_rfl
@[simp] theorem t61 : tzero Tryz.prog 61 = some (.nilf) := by kernel_rfl
@[simp] theorem z65 : tsize Tryz.prog 65 = some 3 := by kernel_rfl
@[simp] theorem b65 : tbytes Tryz.prog 65 = some 24 := by kernel_rfl
@[simp] theorem a65 : tagg Tryz.prog 65 = some true := by kernel_rfl
@[simp] theorem t65 : tzero Tryz.prog 65 = some (.agg [.int .i64 0, .int .i64 0, .int .i64 0]) := by kernel_rfl
@[simp] theorem z67 : tsize Tryz.prog 67 = some 2 := by kernel_rfl
@[simp] theorem b67 : tbytes Tryz.prog 67 = some 16 := by kernel_rfl
@[simp] theorem a67 : tagg Tryz.prog 67 = some true := by kernel_rfl
@[simp] theorem t67 : tzero Tryz.prog 67 = some (.agg [.int .i64 0, .int .i64 0]) := by kernel_rfl
@[simp] theorem z69 : tsize Tryz.prog 69 = some 8 := by kernel_rfl
@[simp] theorem b69 : tbytes Tryz.prog 69 = some 80 := by kernel_rfl
@[simp] theorem a69 : tagg Tryz.prog 69 = some true := by kernel_rfl
@[simp] theorem t69 : tzero Tryz.prog 69 = some (.agg [.str [], .int .i64 0, .int .i64 0, .int .i64 0, .int .i64 0, .int .i64 0, .str [], .bool false]) := by kernel_rfl
@[simp] theorem z71 : tsize Tryz.prog 71 = some 1 := by kernel_rfl
@[simp] theorem b71 : tbytes Tryz.prog 71 = some 8 := by kernel_rfl
@[simp] theorem a71 : tagg Tryz.prog 71 = some false := by kernel_rfl
@[simp] theorem t71 : tzero Tryz.prog 71 = some (.nilf) := by kernel_rfl
@[simp] theorem z74 : tsize Tryz.prog 74 = some 1 := by kernel_rfl
@[simp] theorem b74 : tbytes Tryz.prog 74 = some 24 := by kernel_rfl
@[simp] theorem a74 : tagg Tryz.prog 74 = some false := by kernel_rfl
@[simp] theorem t74 : tzero Tryz.prog 74 = some (.nils) := by kernel_rfl
@[simp] theorem z77 : tsize Tryz.prog 77 = some 2 := by kernel_rfl
@[simp] theorem b77 : tbytes Tryz.prog 77 = some 32 := by kernel_rfl
@[simp] theorem a77 : tagg Tryz.prog 77 = some true := by kernel_rfl
@[simp] theorem t77 : tzero Tryz.prog 77 = some (.agg [.nils, .int .i64 0]) := by kernel_rfl
@[simp] theorem z80 : tsize Tryz.prog 80 = some 1 := by kernel_rfl
@[simp] theorem b80 : tbytes Tryz.prog 80 = some 24 := by kernel_rfl
@[simp] theorem a80 : tagg Tryz.prog 80 = some false := by kernel_rfl
@[simp] theorem t80 : tzero Tryz.prog 80 = some (.nils) := by kernel_rfl
@[simp] theorem z87 : tsize Tryz.prog 87 = some 1 := by kernel_rfl
@[simp] theorem b87 : tbytes Tryz.prog 87 = some 24 := by kernel_rfl
@[simp] theorem a87 : tagg Tryz.prog 87 = some false := by kernel_rfl
@[simp] theorem t87 : tzero Tryz.prog 87 = some (.nils) := by kernel_rfl
@[simp] theorem z88 : tsize Tryz.prog 88 = some 1 := by kernel_rfl
@[simp] theorem b88 : tbytes Tryz.prog 88 = some 8 := by kernel_rfl
@[simp] theorem a88 : tagg Tryz.prog 88 = some false := by kernel_rfl
@[simp] theorem t88 : tzero Tryz.prog 88 = some (.nilf) := by kernel_rfl
@[simp] theorem z100 : tsize Tryz.prog 100 = some 1 := by kernel_rfl
@[simp] theorem b100 : tbytes Tryz.prog 100 = some 8 := by kernel_rfl
@[simp] theorem a100 : tagg Tryz.prog 100 = some false := by kernel_rfl
@[simp] theorem t100 : tzero Tryz.prog 100 = some (.nilf) := by kernel_rfl
@[simp] theorem z106 : tsize Tryz.prog 106 = some 1 := by kernel_rfl
@[simp] theorem b106 : tbytes Tryz.prog 106 = some 8 := by kernel_rfl
@[simp] theorem a106 : tagg Tryz.prog 106 = some false := by kernel_rfl
@[simp] theorem t106 : tzero Tryz.prog 106 = some (.nilp) := by kernel_rfl
@[simp] theorem z113 : tsize Tryz.prog 113 = some 1 := by kernel_rfl
@[simp] theorem b113 : tbytes Tryz.prog 113 = some 24 := by kernel_rfl
@[simp] theorem a113 : tagg Tryz.prog 113 = some false := by kernel_rfl
@[simp] theorem t113 : tzero Tryz.prog 113 = some (.nils) := by kernel_rfl
@[simp] theorem z117 : tsize Tryz.prog 117 = some 3 := by kernel_rfl
@[simp] theorem b117 : tbytes Tryz.prog 117 = some 32 := by kernel_rfl
@[simp] theorem a117 : tagg Tryz.prog 117 = some true := by kernel_rfl
@[simp] theorem t117 : tzero Tryz.prog 117 = some (.agg [.bool false, .int .i64 0, .str []]) := by kernel_rfl
@[simp] theorem z120 : tsize Tryz.prog 120 = some 1 := by kernel_rfl
@[simp] theorem b120 : tbytes Tryz.prog 120 = some 8 := by kernel_rfl
@[simp] theorem a120 : tagg Tryz.prog 120 = some false := by kernel_rfl
@[simp] theorem t120 : tzero Tryz.prog 120 = some (.int .u64 0) := by kernel_rfl
@[simp] theorem z121 : tsize Tryz.prog 121 = some 1 := by kernel_rfl
@[simp] theorem b121 : tbytes Tryz.prog 121 = some 4 := by kernel_rfl
@[simp] theorem a121 : tagg Tryz.prog 121 = some false := by kernel_rfl
@[simp] theorem t121 : tzero Tryz.prog 121 = some (.int .u32 0) := by kernel_rfl
@[simp] theorem z124 : tsize Tryz.prog 124 = some 1 := by kernel_rfl
@[simp] theorem b124 : tbytes Tryz.prog 124 = some 8 := by kernel_rfl
@[simp] theorem a124 : tagg Tryz.prog 124 = some false := by kernel_rfl
@[simp] theorem t124 : tzero Tryz.prog 124 = some (.nilf) := by kernel_rfl
@[simp] theorem z128 : tsize Tryz.prog 128 = some 2 := by kernel_rfl
@[simp] theorem b128 : tbytes Tryz.prog 128 = some 32 := by kernel_rfl
@[simp] theorem a128 : tagg Tryz.prog 128 = some true := by kernel_rfl
@[simp] theorem t128 : tzero Tryz.prog 128 = some (.agg [.nils, .int .i64 0]) := by kernel_rfl
@[simp] theorem z143 : tsize Tryz.prog 143 = some 1 := by kernel_rfl
@[simp] theorem b143 : tbytes Tryz.prog 143 = some 8 := by kernel_rfl
@[simp] theorem a143 : tagg Tryz.prog 143 = some false := by kernel_rfl
@[simp] theorem t143 : tzero Tryz.prog 143 = some (.int .i64 0) := by kernel_rfl
@[simp] theorem z153 : tsize Tryz.prog 153 = some 1 := by kernel_rfl
@[simp] theorem b153 : tbytes Tryz.prog 153 = some 8 := by kernel_rfl
@[simp] theorem a153 : tagg Tryz.prog 153 = some false := by kernel_rfl
@[simp] theorem t153 : tzero Tryz.prog 153 = some (.int .u64 0) := by kernel_rfl
@[simp] theorem z154 : tsize Tryz.prog 154 = some 1 := by kernel_rfl
@[simp] theorem b154 : tbytes Tryz.prog 154 = some 8 := by kernel_rfl
@[simp] theorem a154 : tagg Tryz.prog 154 = some false := by kernel_rfl
@[simp] theorem t154 : tzero Tryz.prog 154 = some (.int .u64 0) := by kernel_rfl
@[simp] theorem z158 : tsize Tryz.prog 158 = some 1 := by kernel_rfl
@[simp] theorem b158 : tbytes Tryz.prog 158 = some 8 := by kernel_rfl
@[simp] theorem a158 : tagg Tryz.prog 158 = some false := by kernel_rfl
@[simp] theorem t158 : tzero Tryz.prog 158 = some (.nilp) := by kernel_rfl
@[simp] theorem z160 : tsize Tryz.prog 160 = some 1 := by kernel_rfl
@[simp] theorem b160 : tbytes Tryz.prog 160 = some 8 := by kernel_rfl
@[simp] theorem a160 : tagg Tryz.prog 160 = some false := by kernel_rfl
@[simp] theorem t160 : tzero Tryz.prog 160 = some (.nilp) := by kernel_rfl
@[simp] theorem hb3 : hasBody Tryz.prog 3 = true := by kernel_rfl
@[simp] theorem hb4 : hasBody Tryz.prog 4 = true := by kernel_rfl
@[simp] theorem hb5 : hasBody Tryz.prog 5 = true := by kernel_rfl
@[simp] theorem hb6 : hasBody Tryz.prog 6 = true := by kernel_rfl
@[simp] theorem hb7 : hasBody Tryz.prog 7 = true := by kernel_rfl
@[simp] theorem hb8 : hasBody Tryz.prog 8 = true := by kernel_rfl
@[simp] theorem hb9 : hasBody Tryz.prog 9 = true := by kernel_rfl
@[simp] theorem hb10 : hasBody Tryz.prog 10 = true := by kernel_rfl
@[simp] theorem hb11 : hasBody Tryz.prog 11 = true := by kernel_rfl
@[simp] theorem hb12 : hasBody Tryz.prog 12 = true := by kernel_rfl
@[simp] theorem hb13 : hasBody Tryz.prog 13 = true := by kernel_rfl
@[simp] theorem hb14 : hasBody Tryz.prog 14 = true := by kernel_rfl
@[simp] theorem hb15 : hasBody Tryz.prog 15 = true := by kernel_rfl
@[simp] theorem hb16 : hasBody Tryz.prog 16 = true := by kernel_rfl
@[simp] theorem hb17 : hasBody Tryz.prog 17 = true := by kernel_rfl
@[simp] theorem hb18 : hasBody Tryz.prog 18 = true := by kernel_rfl
@[simp] theorem hb19 : hasBody Tryz.prog 19 = true := by kernel_rfl
@[simp] theorem hb20 : hasBody Tryz.prog 20 = true := by kernel_rfl
@[simp] theorem hb21 : hasBody Tryz.prog 21 = true := by kernel_rfl
@[simp] theorem hb22 : hasBody Tryz.prog 22 = true := by kernel_rfl
@[simp] theorem hb23 : hasBody Tryz.prog 23 = true := by kernel_rfl
@[simp] theorem hb24 : hasBody Tryz.prog 24 = true := by kernel_rfl
@[simp] theorem hb25 : hasBody Tryz.prog 25 = true := by kernel_rfl
@[simp] theorem hb26 : hasBody Tryz.prog 26 = true := by kernel_rfl
@[simp] theorem hb27 : hasBody Tryz.prog 27 = true := by kernel_rfl
@[simp] theorem hb28 : hasBody Tryz.prog 28 = true := by kernel_rfl
@[simp] theorem hb29 : hasBody Tryz.prog 29 = true := by kernel_rfl
@[simp] theorem hb30 : hasBody Tryz.prog 30 = true := by kernel_rfl
@[simp] theorem hb31 : hasBody Tryz.prog 31 = true := by kernel_rfl
@[simp] theorem hb32 : hasBody Tryz.prog 32 = true := by kernel_rfl
@[simp] theorem hb33 : hasBody Tryz.prog 33 = true := by kernel_rfl
@[simp] theorem hb34 : hasBody Tryz.prog 34 = true := by kernel_rfl
@[simp] theorem hb35 : hasBody Tryz.prog 35 = true := by kernel_rfl
@[simp] theorem hb36 : hasBody Tryz.prog 36 = true := by kernel_rfl
@[simp] theorem hb37 : hasBody Tryz.prog 37 = true := by kernel_rfl
@[simp] theorem hb38 : hasBody Tryz.prog 38 = true := by kernel_rfl
@[simp] theorem hb39 : hasBody Tryz.prog 39 = true := by kernel_rfl
@[simp] theorem hb40 : hasBody Tryz.prog 40 = true := by kernel_rfl
@[simp] theorem hb41 : hasBody Tryz.prog 41 = true := by kernel_rfl
@[simp] theorem hb42 : hasBody Tryz.prog 42 = true := by kernel_rfl
@[simp] theorem hb43 : hasBody Tryz.prog 43 = true := by kernel_rfl
@[simp] theorem hb44 : hasBody Tryz.prog 44 = true := by kernel_rfl
@[simp] theorem hb45 : hasBody Tryz.prog 45 = true := by kernel_rfl
@[simp] theorem hb46 : hasBody Tryz.prog 46 = true := by kernel_rfl
@[simp] theorem hb47 : hasBody Tryz.prog 47 = true := by kernel_rfl
@[simp] theorem hb48 : hasBody Tryz.prog 48 = true := by kernel_rfl
@[simp] theorem hb49 : hasBody Tryz.prog 49 = true := by kernel_rfl
@[simp] theorem hb50 : hasBody Tryz.prog 50 = true := by kernel_rfl
@[simp] theorem hb51 : hasBody Tryz.prog 51 = true := by kernel_rfl
@[simp] theorem hb52 : hasBody Tryz.prog 52 = true := by kernel_rfl
@[simp] theorem hb53 : hasBody Tryz.prog 53 = true := by kernel_rfl
@[simp] theorem hb54 : hasBody Tryz.prog 54 = true := by kernel_rfl
@[simp] theorem hb55 : hasBody Tryz.prog 55 = true := by kernel_rfl
@[simp] theorem hb56 : hasBody Tryz.prog 56 = true := by kernel_rfl
@[simp] theorem hb57 : hasBody Tryz.prog 57 = true := by kernel_rfl
@[simp] theorem hb58 : hasBody Tryz.prog 58 = true := by kernel_rfl
@[simp] theorem hb59 : hasBody Tryz.prog 59 = true := by kernel_rfl
@[simp] theorem hb60 : hasBody Tryz.prog 60 = true := by kernel_rfl
@[simp] theorem hb61 : hasBody Tryz.prog 61 = true := by kernel_rfl
@[simp] theorem hb62 : hasBody Tryz.prog 62 = true := by kernel_rfl
@[simp] theorem hb63 : hasBody Tryz.prog 63 = true := by kernel_rfl
@[simp] theorem hb64 : hasBody Tryz.prog 64 = true := by kernel_rfl
@[simp] theorem hb65 : hasBody Tryz.prog 65 = true := by kernel_rfl
@[simp] theorem hb66 : hasBody Tryz.prog 66 = true := by kernel_rfl
@[simp] theorem hb67 : hasBody Tryz.prog 67 = true := by kernel_rfl
@[simp] theorem hb68 : hasBody Tryz.prog 68 = true := by kernel_rfl
@[simp] theorem hb69 : hasBody Tryz.prog 69 = true := by kernel_rfl
@[simp] theorem hb70 : hasBody Tryz.prog 70 = true := by kernel_rfl
@[simp] theorem hb71 : hasBody Tryz.prog 71 = true := by kernel_rfl
@[simp] theorem hb72 : hasBody Tryz.prog 72 = true := by kernel_rfl
@[simp] theorem hb73 : hasBody Tryz.prog 73 = true := by kernel_rfl
@[simp] theorem hb74 : hasBody Tryz.prog 74 = true := by kernel_rfl
@[simp] theorem hb75 : hasBody Tryz.prog 75 = true := by kernel_rfl
@[simp] theorem hb76 : hasBody Tryz.prog 76 = true := by kernel_rfl
@[simp] theorem hb77 : hasBody Tryz.prog 77 = true := by kernel_rfl
@[simp] theorem hb78 : hasBody Tryz.prog 78 = true := by kernel_rfl
@[simp] theorem hb79 : hasBody Tryz.prog 79 = true := by kernel_rfl
@[simp] theorem hb80 : hasBody Tryz.prog 80 = true := by kernel_rfl
@[simp] theorem hb81 : hasBody Tryz.prog 81 = true := by kernel_rfl
@[simp] theorem hb82 : hasBody Tryz.prog 82 = true := by kernel_rfl
@[simp] theorem hb83 : hasBody Tryz.prog 83 = true := by kernel_rfl
@[simp] theorem hb84 : hasBody Tryz.prog 84 = true := by kernel_rfl
@[simp] theorem hb85 : hasBody Tryz.prog 85 = true := by kernel_rfl
@[simp] theorem hb86 : hasBody Tryz.prog 86 = true := by kernel_rfl
@[simp] theorem hb87 : hasBody Tryz.prog 87 = true := by kernel_rfl
@[simp] theorem hb88 : hasBody Tryz.prog 88 = true := by kernel_rfl
@[simp] theorem hb89 : hasBody Tryz.prog 89 = true := by kernel_rfl
@[simp] theorem hb90 : hasBody Tryz.prog 90 = true := by kernel_rfl
@[simp] theorem hb91 : hasBody Tryz.prog 91 = true := by kernel_rfl
@[simp] theorem hb92 : hasBody Tryz.prog 92 = true := by kernel_rfl
@[simp] theorem hb93 : hasBody Tryz.prog 93 = true := by kernel_rfl
@[simp] theorem hb94 : hasBody Tryz.prog 94 = true := by kernel_rfl
@[simp] theorem hb95 : hasBody Tryz.prog 95 = true := by kernel_rfl
@[simp] theorem hb96 : hasBody Tryz.prog 96 = true := by kernel_rfl
@[simp] theorem hb98 : hasBody Tryz.prog 98 = true := by kernel_rfl
@[simp] theorem hb99 : hasBody Tryz.prog 99 = true := by kernel_rfl
@[simp] theorem hb100 : hasBody Tryz.prog 100 = true := by kernel_rfl
@[simp] theorem hb101 : hasBody Tryz.prog 101 = true := by kernel_rfl
@[simp] theorem hb102 : hasBody Tryz.prog 102 = true := by kernel_rfl
@[simp] theorem hb103 : hasBody Tryz.prog 103 = true := by kernel_rfl
@[simp] theorem hb104 : hasBody Tryz.prog 104 = true := by kernel_rfl
@[simp] theorem hb105 : hasBody Tryz.prog 105 = true := by kernel_rfl
@[simp] theorem hb106 : hasBody Tryz.prog 106 = true := by kernel_rfl
@[simp] theorem hb107 : hasBody Tryz.prog 107 = true := by kernel_rfl
@[simp] theorem hb108 : hasBody Tryz.prog 108 = true := by kernel_rfl
@[simp] theorem hb109 : hasBody Tryz.prog 109 = true := by kernel_rfl
@[simp] theorem hb110 : hasBody Tryz.prog 110 = true := by kernel_rfl
@[simp] theorem hb111 : hasBody Tryz.prog 111 = true := by kernel_rfl
@[simp] theorem hb112 : hasBody Tryz.prog 112 = true := by kernel_rfl
@[simp] theorem hb113 : hasBody Tryz.prog 113 = true := by kernel_rfl
@[simp] theorem hb114 : hasBody Tryz.prog 114 = true := by kernel_rfl
@[simp] theorem hb115 : hasBody Tryz.prog 115 = true := by kernel_rfl
@[simp] theorem hb116 : hasBody Tryz.prog 116 = true := by kernel_rfl
@[simp] theorem hb117 : hasBody Tryz.prog 117 = true := by kernel_rfl
@[simp] theorem hb118 : hasBody Tryz.prog 118 = true := by kernel_rfl
end Go.Vn

set_option maxRecDepth 20000
namespace Go.Vn
open Go.Proofs

structure HO (h h' : Hp Fm) : Prop where
  no : h.no ≤ h'.no
  obj : ∀ o, o < h.no → Mp.get h'.obj o = Mp.get h.obj o
theorem HO.refl (h : Hp Fm) : HO h h := ⟨Nat.le_refl _, fun _ _ => rfl⟩
theorem HO.trans {a b c : Hp Fm} (h : HO a b) (k : HO b c) : HO a c := ⟨Nat.le_trans h.no k.no, fun o ho => (k.obj o (Nat.lt_of_lt_of_le ho h.no)).trans (h.obj o ho)⟩
theorem HE.ho {h h' : Hp Fm} (k : HE h h') : HO h h' := ⟨k.no, k.obj⟩
theorem RS.ho {lo : Nat} {h h' : Hp Fm} {sz : Nat} {ag : Bool} {els : List AV} {v : AV} (k : RS lo h sz ag els v) (he : HO h h') : RS lo h' sz ag els v := by
  rcases k with k | ⟨o, cap, rfl, hlo, ⟨J, h1, h2⟩, hc, ho⟩
  · exact .inl k
  · exact .inr ⟨o, cap, rfl, hlo, ⟨J, (he.obj o ho).trans h1, h2⟩, hc, Nat.lt_of_lt_of_le ho he.no⟩
structure BV (h : Hp Fm) (v : AV) (bs : List UInt8) : Prop where
  len : lenAV Tryz.prog 58 v = some (.int .i64 bs.length)
  nm : ∀ o, v ≠ .mp o
  old : ∀ q, isRow v q → q < h.no
  new : ∀ h', (∀ q, isRow v q → Mp.get h'.obj q = Mp.get h.obj q) → newEls h' 1 false v = some (bs.map byteAV)
  cells : v.cells = [v]
  isCell : v.isCell = true

theorem SV.noRow {sz : Nat} {xs : List AV} {v : AV} (k : SV sz xs v) (q : Nat) : ¬ isRow v q := by
  rintro ⟨_, _, _, _, _, e⟩
  rcases k with ⟨rfl, _⟩ | ⟨_, _, _, rfl⟩ | ⟨_, rfl, _⟩ <;> cases e
theorem BV.sv {h : Hp Fm} {v : AV} {bs : List UInt8} (k : SV 1 (bs.map byteAV) v) : BV h v bs :=
  ⟨by have := k.len Tryz.underlying58; simpa using this, k.nm, fun q hq => (k.noRow q hq).elim, fun h' _ => k.newEls, k.cells, k.isCell⟩
theorem BV.newO {h h' : Hp Fm} {v : AV} {bs : List UInt8} (k : BV h v bs) (he : HO h h') : newEls h' 1 false v = some (bs.map byteAV) := k.new h' fun q hq => he.obj q (k.old q hq)
theorem BV.mono {h h' : Hp Fm} {v : AV} {bs : List UInt8} (k : BV h v bs) (he : HO h h') : BV h' v bs :=
  ⟨k.len, k.nm, fun q hq => Nat.lt_of_lt_of_le (k.old q hq) he.no, fun g hg => k.new g fun q hq => (hg q hq).trans (he.obj q (k.old q hq)), k.cells, k.isCell⟩
theorem BV.hx {h h' : Hp Fm} {v : AV} {bs : List UInt8} {S G : Nat → Prop} (k : BV h v bs) (he : HX S G h h') (hs : ∀ q, isRow v q → ¬ S q) : BV h' v bs :=
  ⟨k.len, k.nm, fun q hq => Nat.lt_of_lt_of_le (k.old q hq) he.no, fun g hg => k.new g fun q hq => (hg q hq).trans (he.obj q (k.old q hq) (hs q hq)), k.cells, k.isCell⟩

abbrev FV : Type := List UInt8 × Nat
def FR (a : FV) (v : AV) : Prop := ∃ bv, SV 1 (a.1.map byteAV) bv ∧ v = .agg [bv, .int .i64 (a.2 : Nat)]
structure Dk where
  fs : Ents FV
  clk : Nat
  quota : Int
  left : Int
  down : Bool
structure DKs (h : Hp Fm) (p m : Nat) (D : Dk) : Prop where
  row : Mp.get h.obj p = some (.row [.mp m, .int .i64 D.quota, .int .i64 D.left, .bool D.down])
  map : ∃ es, Mp.get h.obj m = some (.mp es D.clk) ∧ EntsR FR D.fs es
  pn : p < h.no
  mn : m < h.no
  born : Born D.clk D.fs
theorem DKs.ne {h : Hp Fm} {p m : Nat} {D : Dk} (k : DKs h p m D) : p ≠ m := fun e => by
  obtain ⟨es, h1, _⟩ := k.map
  rw [← e, k.row] at h1; cases h1
theorem DKs.he {h h' : Hp Fm} {p m : Nat} {D : Dk} (k : DKs h p m D) (he : HE h h') : DKs h' p m D := by
  obtain ⟨es, h1, h2⟩ := k.map
  exact ⟨(he.obj p k.pn).trans k.row, ⟨es, (he.obj m k.mn).trans h1, h2⟩, Nat.lt_of_lt_of_le k.pn he.no, Nat.lt_of_lt_of_le k.mn he.no, k.born⟩
abbrev DX (p m : Nat) (h h' : Hp Fm) : Prop := HX (fun o => o = p ∨ o = m) (fun _ => False) h h'

def has (k : List UInt8) (D : Dk) : Bool := (lookF k D.fs).isSome

theorem there_ans (k : List UInt8) (p m : Nat) (D : Dk) (h0 : Hp Fm) (d : DKs h0 p m D) :
    A Tryz.prog TT (.func 43) [.ptr p 0, .str k] h0 (fun r h' => r = .int .i64 (if has k D then 0 else 8) ∧ HE h0 h') := by
  have hr := d.row
  obtain ⟨es, hm, hes⟩ := d.map
  cases hl : lookF k D.fs with
  | none =>
    have lk := look_none (m := m) (clk := D.clk) (k := k) Tryz.underlying44 Tryz.underlying9 t77 hes hl
    have hh : has k D = false := by simp [has, hl]
    apply A_go Tryz.func43 rfl (by rfl); (case hn => (simp [Tryz.ntmps43]; rfl))
    repeat(first|with_reducible first|refine vmR ?_|refine vmV rfl ?_|refine vmW rfl ?_|refine vmL ?_|refine blockW_y (by decide) ?_|((with_reducible first|apply vmO|apply vmT|apply vmC);case a=>simp [hr, hm, lk];with_reducible first|exact .v|exact .c|exact .t|exact .f))
    (first | apply endW_r | apply endW_n); (case h1 => (simp [Tryz.results43]; first | done | rfl))
    exact ⟨by simp [hh], ((HE.refl h0).new _).set (by simp) _⟩
  | some a =>
    obtain ⟨v, ⟨bv, k1, rfl⟩, lk⟩ := look_some (m := m) (clk := D.clk) (k := k) Tryz.underlying44 Tryz.underlying9 hes hl
    have hh : has k D = true := by simp [has, hl]
    have c1 := k1.cells
    have c2 := k1.isCell
    apply A_go Tryz.func43 rfl (by rfl); (case hn => (simp [Tryz.ntmps43]; rfl))
    repeat(first|with_reducible first|refine vmR ?_|refine vmV rfl ?_|refine vmW rfl ?_|refine vmL ?_|refine blockW_y (by decide) ?_|((with_reducible first|apply vmO|apply vmT|apply vmC);case a=>simp [hr, hm, lk, c1, c2];with_reducible first|exact .v|exact .c|exact .t|exact .f))
    (first | apply endW_r | apply endW_n); (case h1 => (simp [Tryz.results43]; first | done | rfl))
    exact ⟨by simp [hh], ((HE.refl h0).new _).set (by simp) _⟩
end Go.Vn

set_option maxRecDepth 20000
namespace Go.Vn
open Go.Proofs

theorem etB : ElT Tryz.prog 58 5 1 1 false (.int .u8 0) := ⟨Tryz.underlying58, z5, b5, a5, t5, rfl, rfl, fun _ => rfl, by omega, by omega⟩
theorem fitB (x : UInt8) : Fit false 1 (byteAV x) := .inr ⟨rfl, rfl, rfl, rfl⟩
theorem fitBs (l : List UInt8) : ∀ e ∈ l.map byteAV, Fit false 1 e := fun e he => by obtain ⟨x, _, rfl⟩ := List.mem_map.mp he; exact fitB x

theorem RS.bv {lo : Nat} {h : Hp Fm} {bs : List UInt8} {v : AV} (k : RS lo h 1 false (bs.map byteAV) v) : BV h v bs := by
  refine ⟨?_, ?_, ?_, ?_, k.cells, k.isCell⟩
  · rcases k with ⟨rfl, e⟩ | ⟨o, cap, rfl, _, _⟩
    · have : bs = [] := by simpa using e
      subst this; simp [lenAV]
    · simp [lenAV]
  · intro o; rcases k with ⟨rfl, _⟩ | ⟨_, _, rfl, _⟩ <;> simp
  · rintro q ⟨_, _, _, _, _, e⟩
    rcases k with ⟨rfl, _⟩ | ⟨o, cap, rfl, _, k⟩
    · cases e
    · injection e with e; rw [← e]; exact k.on
  · intro h' hh
    rcases k with ⟨rfl, e⟩ | ⟨o, cap, rfl, hlo, ⟨J, h1, h2⟩, hc, ho⟩
    · rw [e]; rfl
    · exact RS.newEls (lo := 0) (h := { h' with no := o + 1 }) (.inr ⟨o, cap, rfl, Nat.zero_le _, ⟨J, (hh o ⟨_, _, _, _, _, rfl⟩).trans h1, h2⟩, hc, by simp⟩) (fitBs bs) (by omega) (fun _ => rfl)

theorem grow_ans (n : Nat) (hn : n ≤ 16777216 * 4) (h0 : Hp Fm) (hp : h0.pol 5 = true) :
    A Tryz.prog TT (.func 73) [.nils, .int .i64 n] h0 (fun r h' => RS h0.no h' 1 false [] r ∧ HE h0 h') := by
  have w0 : IntKind.i64.wrap (0 - 0) = 0 := by rfl
  have w1 : IntKind.i64.wrap ((n : Int) - 0) = n := by rw [wrap64 (by omega) (by omega)]; omega
  have w2 : IntKind.i64.wrap (n : Int) = n := wrap64 (by omega) (by omega)
  have nn : ¬ ((n : Int) < 0) := by omega
  by_cases hz : n = 0
  · subst hz
    apply A_go Tryz.func73 rfl (by rfl); (case hn => (simp [Tryz.ntmps73]; rfl))
    repeat(first|with_reducible first|refine vmR ?_|refine vmV rfl ?_|refine vmW rfl ?_|refine vmL ?_|refine blockW_y (by decide) ?_|((with_reducible first|apply vmO|apply vmT|apply vmC);case a=>simp [w0, w1, w2, nn];with_reducible first|exact .v|exact .c|exact .t|exact .f))
    (first | apply endW_r | apply endW_n); (case h1 => (simp [Tryz.results73]; first | done | rfl))
    exact ⟨.inl ⟨rfl, rfl⟩, HE.refl h0⟩
  · have pn : 0 < (n : Int) := by omega
    have pn2 : 0 < n := by omega
    have hap : appendAV Tryz.prog h0 58 3 .nils (.int .i64 n) = some (newRs h0.drew 1 false [.int .u8 0] (h0.grown n 0 5) (List.replicate n (.int .u8 0))) := by
      unfold appendAV
      have e1 : isIntD (.int .i64) = true := rfl
      have q1 : (0 : Int) ≤ n := by omega
      have q2 : (n : Int) * (1 : Nat) ≤ 2 ^ 40 := by omega
      have q3 : (n : Int) ≤ 2 ^ 40 := by omega
      have q4 : ¬ (n = 0) := hz
      have q5 : h0.drew.pol 5 = true := hp
      have q6 : n * 1 ≤ 2 ^ 40 := by omega
      simp only [Tryz.underlying58, Tryz.underlying3, z5, a5, b5, t5, Option.bind_some, e1, if_true, zeroEls, q1, q2, q3, and_self, Int.toNat_natCast, appendTo, List.length_replicate, q4, if_false, q6, newSeq, q5]
      rfl
    have sl : ∀ (o cap : Nat), sliceAV Tryz.prog 58 (.rs o 0 1 false n cap) none (some (.int .i64 0)) none = some (.rs o 0 1 false 0 cap) := fun o cap => by simp [sliceAV, obound, bound]
    have sl0 : sliceAV Tryz.prog 58 .nils none (some (.int .i64 0)) none = some .nils := by simp [sliceAV, obound, bound]
    apply A_go Tryz.func73 rfl (by rfl); (case hn => (simp [Tryz.ntmps73]; rfl))
    repeat(first|with_reducible first|refine vmR ?_|refine vmV rfl ?_|refine vmW rfl ?_|refine vmL ?_|refine blockW_y (by decide) ?_|((with_reducible first|apply vmO|apply vmT|apply vmC);case a=>simp [w0, w1, w2, nn, pn, pn2, sl0];with_reducible first|exact .v|exact .c|exact .t|exact .f))
    with_reducible apply WO_app_i; (case hw => (simp; done)); (case ho => rfl); (case hb => rfl); (case ha => (simp; first | done | exact ⟨rfl, rfl⟩ | rfl)); (case h1 => (simp; first | done | rfl)); (case h2 => (simp; first | done | rfl))
    refine ⟨_, _, hap, ?_⟩
    refine ⟨_, by simp; first | done | rfl, ?_⟩
    repeat(first|with_reducible first|refine vmR ?_|refine vmV rfl ?_|refine vmW rfl ?_|refine vmL ?_|refine blockW_y (by decide) ?_|((with_reducible first|apply vmO|apply vmT|apply vmC);case a=>simp [w0, sl, newRs];with_reducible first|exact .v|exact .c|exact .t|exact .f))
    (first | apply endW_r | apply endW_n); (case h1 => (simp [Tryz.results73]; first | done | rfl))
    refine ⟨.inr ⟨h0.no, h0.grown n 0 5, by simp, Nat.le_refl _, ⟨⟨_, by simp; rfl, ?_⟩, by simp, by simp⟩⟩, (HE.refl h0).drew.new _⟩
    have := grown_ge h0 n 0 5
    simp
    omega

theorem concat_ans (b1 b2 : List UInt8) (v1 v2 : AV) (g cap : Nat) (h0 : Hp Fm) (k1 : BV h0 v1 b1) (k2 : BV h0 v2 b2) (hl : b1.length + b2.length ≤ 16777216 * 2) :
    A Tryz.prog TT (.func 50) [.sl g 0 1 cap [v1, v2]] h0 (fun r h' => SV 1 ((b1 ++ b2).map byteAV) r ∧ HE h0 h') := by
  have l1 := k1.len
  have l2 := k2.len
  have n1 := k1.nm
  have n2 := k2.nm
  have c1 := k1.cells
  have c2 := k2.cells
  have i1 := k1.isCell
  have i2 := k2.isCell
  obtain ⟨m1, hm1⟩ : ∃ m, m = b1.length := ⟨_, rfl⟩
  obtain ⟨m, hm⟩ : ∃ m, m = b1.length + b2.length := ⟨_, rfl⟩
  have w1 : IntKind.i64.wrap (b1.length : Int) = (m1 : Int) := by rw [hm1, wrap64 (by omega) (by omega)]
  have w2 : IntKind.i64.wrap ((m1 : Int) + (b2.length : Int)) = (m : Int) := by rw [hm, hm1, wrap64 (by omega) (by omega)]; omega
  have g1 : ¬ ((m1 : Int) < 0) := by omega
  have g2 : ¬ ((m : Int) < 0) := by omega
  have p0 : partAV false 1 [v1, v2] 0 = some v1 := rfl
  have p1 : partAV false 1 [v1, v2] 1 = some v2 := rfl
  apply A_goT Tryz.func50 rfl (by rfl); (case hn => (simp [Tryz.ntmps50]; rfl))
  repeat(first|with_reducible first|refine vmR ?_|refine vmV rfl ?_|refine vmW rfl ?_|refine vmL ?_|refine blockW_y (by decide) ?_|((with_reducible first|apply vmO|apply vmT|apply vmC);case a=>simp;with_reducible first|exact .v|exact .c|exact .t|exact .f))
  refine W_loop_i ?_
  repeat(first|with_reducible first|refine vmR ?_|refine vmV rfl ?_|refine vmW rfl ?_|refine vmL ?_|refine blockW_y (by decide) ?_|((with_reducible first|apply vmO|apply vmT|apply vmC);case a=>simp [l1, l2, n1, n2, c1, c2, i1, i2, w1, g1];with_reducible first|exact .v|exact .c|exact .t|exact .f))
  refine W_loop_i ?_
  repeat(first|with_reducible first|refine vmR ?_|refine vmV rfl ?_|refine vmW rfl ?_|refine vmL ?_|refine blockW_y (by decide) ?_|((with_reducible first|apply vmO|apply vmT|apply vmC);case a=>simp [l1, l2, n1, n2, c1, c2, i1, i2, w1, w2, g1, g2];with_reducible first|exact .v|exact .c|exact .t|exact .f))
  refine W_loop_i ?_
  repeat(first|with_reducible first|refine vmR ?_|refine vmV rfl ?_|refine vmW rfl ?_|refine vmL ?_|refine blockW_y (by decide) ?_|((with_reducible first|apply vmO|apply vmT|apply vmC);case a=>simp [l1, l2, n1, n2, c1, c2, i1, i2, w1, w2, g1, g2];with_reducible first|exact .v|exact .c|exact .t|exact .f))
  obtain ⟨ha, hha⟩ : ∃ ha : Hp Fm, ha = { h0 with pol := (· == 5) } := ⟨_, rfl⟩
  have o0 : HO h0 ha := by rw [hha]; exact ⟨Nat.le_refl _, fun _ _ => rfl⟩
  have f0 : ∀ h' : Hp Fm, HE ha h' → HE h0 { h' with pol := h0.pol } := fun h' k => ⟨by have := k.no; rw [hha] at this; exact this, by have := k.ng; rw [hha] at this; exact this, rfl, by have := k.obj; rw [hha] at this; exact this, by have := k.len; rw [hha] at this; exact this⟩
  have hpa : ha.pol 5 = true := by rw [hha]; rfl
  rw [← hha]
  refine A.mono (grow_ans m (by omega) ha hpa) ?_
  rintro u1 h1 ⟨r1, e1⟩
  have wc := r1.cells
  have wi := r1.isCell
  refine ⟨_, by simp; first | done | rfl, ?_⟩
  repeat(first|with_reducible first|refine vmR ?_|refine vmV rfl ?_|refine vmW rfl ?_|refine vmL ?_|refine blockW_y (by decide) ?_|((with_reducible first|apply vmO|apply vmT|apply vmC);case a=>simp [wc, wi];with_reducible first|exact .v|exact .c|exact .t|exact .f))
  refine W_loop_i ?_
  repeat(first|with_reducible first|refine vmR ?_|refine vmV rfl ?_|refine vmW rfl ?_|refine vmL ?_|refine blockW_y (by decide) ?_|((with_reducible first|apply vmO|apply vmT|apply vmC);case a=>simp [l1, l2, n1, n2, c1, c2, i1, i2, wc, wi];with_reducible first|exact .v|exact .c|exact .t|exact .f))
  with_reducible apply WO_app_i; (case hw => (simp; done)); (case ho => rfl); (case hb => rfl); (case ha => (simp; first | done | exact ⟨rfl, rfl⟩ | rfl)); (case h1 => (simp; first | done | rfl)); (case h2 => (simp; first | done | rfl))
  refine app_then (r1.appN etB e1.no (by rw [e1.pol]; exact hpa) (k1.newO (o0.trans e1.ho)) (by simp) (fitBs b1) (by simp; omega)) ?_
  rintro u2 h2 ⟨r2, x2, p2, q2⟩
  have e2 : HE ha h2 := e1.x2 x2 r1.rows (fun _ z => z.elim)
  have uc := r2.cells
  have ui := r2.isCell
  refine ⟨_, by simp; first | done | rfl, ?_⟩
  repeat(first|with_reducible first|refine vmR ?_|refine vmV rfl ?_|refine vmW rfl ?_|refine vmL ?_|refine blockW_y (by decide) ?_|((with_reducible first|apply vmO|apply vmT|apply vmC);case a=>simp [uc, ui];with_reducible first|exact .v|exact .c|exact .t|exact .f))
  refine W_loop_i ?_
  repeat(first|with_reducible first|refine vmR ?_|refine vmV rfl ?_|refine vmW rfl ?_|refine vmL ?_|refine blockW_y (by decide) ?_|((with_reducible first|apply vmO|apply vmT|apply vmC);case a=>simp [l1, l2, n1, n2, c1, c2, i1, i2, uc, ui];with_reducible first|exact .v|exact .c|exact .t|exact .f))
  with_reducible apply WO_app_i; (case hw => (simp; done)); (case ho => rfl); (case hb => rfl); (case ha => (simp; first | done | exact ⟨rfl, rfl⟩ | rfl)); (case h1 => (simp; first | done | rfl)); (case h2 => (simp; first | done | rfl))
  refine app_then (r2.appN etB e2.no (by rw [e2.pol]; exact hpa) (k2.newO (o0.trans e2.ho)) (by simpa using fitBs b1) (fitBs b2) (by simp; omega)) ?_
  rintro u3 h3 ⟨r3, x3, p3, q3⟩
  have e3 : HE ha h3 := e2.x2 x3 r2.rows (fun _ z => z.elim)
  have tc := r3.cells
  have ti := r3.isCell
  refine ⟨_, by simp; first | done | rfl, ?_⟩
  repeat(first|with_reducible first|refine vmR ?_|refine vmV rfl ?_|refine vmW rfl ?_|refine vmL ?_|refine blockW_y (by decide) ?_|((with_reducible first|apply vmO|apply vmT|apply vmC);case a=>simp [tc, ti];with_reducible first|exact .v|exact .c|exact .t|exact .f))
  refine W_loop_i ?_
  repeat(first|with_reducible first|refine vmR ?_|refine vmV rfl ?_|refine vmW rfl ?_|refine vmL ?_|refine blockW_y (by decide) ?_|((with_reducible first|apply vmO|apply vmT|apply vmC);case a=>simp [tc, ti];with_reducible first|exact .v|exact .c|exact .t|exact .f))
  (first | apply endW_r | apply endW_n); (case h1 => (simp [Tryz.results50]; first | done | rfl))
  have fit3 : ∀ e ∈ [] ++ b1.map byteAV ++ b2.map byteAV, Fit false 1 e := by
    intro e he
    rw [List.nil_append, ← List.map_append] at he
    exact fitBs _ e he
  obtain ⟨z1, z2⟩ := r3.frz fit3 (by omega) (fun _ => rfl)
  refine ⟨by simpa using z1, f0 _ (e3.x2 z2 r3.rows (fun _ z => z.elim))⟩

theorem cloneb_ans (b : List UInt8) (v : AV) (h0 : Hp Fm) (k : SV 1 (b.map byteAV) v) (hl : b.length ≤ 16777216 * 4) (hp : h0.pol 5 = false) :
    A Tryz.prog TT (.func 64) [v] h0 (fun r h' => SV 1 (b.map byteAV) r ∧ HE h0 h') := by
  have c1 := k.cells
  have i1 := k.isCell
  rcases k with ⟨rfl, e⟩ | ⟨g, off, cp, rfl⟩ | ⟨c, rfl, e⟩
  · apply A_go Tryz.func64 rfl (by rfl); (case hn => (simp [Tryz.ntmps64]; rfl))
    repeat(first|with_reducible first|refine vmR ?_|refine vmV rfl ?_|refine vmW rfl ?_|refine vmL ?_|refine blockW_y (by decide) ?_|((with_reducible first|apply vmO|apply vmT|apply vmC);case a=>simp [eqlAV];with_reducible first|exact .v|exact .c|exact .t|exact .f))
    (first | apply endW_r | apply endW_n); (case h1 => (simp [Tryz.results64]; first | done | rfl))
    exact ⟨.inl ⟨rfl, e⟩, HE.refl h0⟩
  · apply A_go Tryz.func64 rfl (by rfl); (case hn => (simp [Tryz.ntmps64]; rfl))
    repeat(first|with_reducible first|refine vmR ?_|refine vmV rfl ?_|refine vmW rfl ?_|refine vmL ?_|refine blockW_y (by decide) ?_|((with_reducible first|apply vmO|apply vmT|apply vmC);case a=>simp [eqlAV, newSeq, hp, newSl];with_reducible first|exact .v|exact .c|exact .t|exact .f))
    obtain ⟨ha, hha⟩ : ∃ ha : Hp Fm, ha = { h0 with len := Mp.set h0.len h0.ng 0, ng := h0.ng + 1 } := ⟨_, rfl⟩
    have e0 : HE h0 ha := by rw [hha]; exact (HE.refl h0).newSl 0
    rw [← hha]
    with_reducible apply WO_app_i; (case hw => (simp; done)); (case ho => rfl); (case hb => rfl); (case ha => (simp; first | done | exact ⟨rfl, rfl⟩ | rfl)); (case h1 => (simp; first | done | rfl)); (case h2 => (simp; first | done | rfl))
    refine app_then (AC.appN etB (h0 := h0) (h := ha) (acc := []) (new := b.map byteAV) (.inr ⟨h0.ng, 0, 0, rfl, by rw [hha]; simp [Mp.get_set], by rw [hha]; simp, Nat.le_refl _⟩) e0 hp rfl (by simp; omega)) ?_
    rintro u h1 ⟨k1, e1, _⟩
    have uc := k1.sv.cells
    have ui := k1.sv.isCell
    refine ⟨_, by simp; first | done | rfl, ?_⟩
    repeat(first|with_reducible first|refine vmR ?_|refine vmV rfl ?_|refine vmW rfl ?_|refine vmL ?_|refine blockW_y (by decide) ?_|((with_reducible first|apply vmO|apply vmT|apply vmC);case a=>simp [uc, ui];with_reducible first|exact .v|exact .c|exact .t|exact .f))
    (first | apply endW_r | apply endW_n); (case h1 => (simp [Tryz.results64]; first | done | rfl))
    exact ⟨by simpa using k1.sv, e1⟩
  · have hb : b = [] := by simpa using e
    subst hb
    apply A_go Tryz.func64 rfl (by rfl); (case hn => (simp [Tryz.ntmps64]; rfl))
    repeat(first|with_reducible first|refine vmR ?_|refine vmV rfl ?_|refine vmW rfl ?_|refine vmL ?_|refine blockW_y (by decide) ?_|((with_reducible first|apply vmO|apply vmT|apply vmC);case a=>simp [eqlAV, newSeq, hp, newSl, appendAV, newEls, appendTo, isIntD];with_reducible first|exact .v|exact .c|exact .t|exact .f))
    (first | apply endW_r | apply endW_n); (case h1 => (simp [Tryz.results64]; first | done | rfl))
    exact ⟨.inr (.inl ⟨_, _, _, rfl⟩), (HE.refl h0).newSl 0⟩
theorem cloneb_ansR (b : List UInt8) (v : AV) (h0 : Hp Fm) (k : SV 1 (b.map byteAV) v) (hl : b.length ≤ 16777216 * 4) (hp : h0.pol 5 = true) :
    A Tryz.prog TT (.func 64) [v] h0 (fun r h' => RS h0.no h' 1 false (b.map byteAV) r ∧ HE h0 h') := by
  have c1 := k.cells
  have i1 := k.isCell
  have nn := k.nm
  rcases k with ⟨rfl, e⟩ | ⟨g, off, cp, rfl⟩ | ⟨c, rfl, e⟩
  · apply A_go Tryz.func64 rfl (by rfl); (case hn => (simp [Tryz.ntmps64]; rfl))
    repeat(first|with_reducible first|refine vmR ?_|refine vmV rfl ?_|refine vmW rfl ?_|refine vmL ?_|refine blockW_y (by decide) ?_|((with_reducible first|apply vmO|apply vmT|apply vmC);case a=>simp [eqlAV];with_reducible first|exact .v|exact .c|exact .t|exact .f))
    (first | apply endW_r | apply endW_n); (case h1 => (simp [Tryz.results64]; first | done | rfl))
    exact ⟨.inl ⟨rfl, e⟩, HE.refl h0⟩
  · apply A_go Tryz.func64 rfl (by rfl); (case hn => (simp [Tryz.ntmps64]; rfl))
    repeat(first|with_reducible first|refine vmR ?_|refine vmV rfl ?_|refine vmW rfl ?_|refine vmL ?_|refine blockW_y (by decide) ?_|((with_reducible first|apply vmO|apply vmT|apply vmC);case a=>simp [eqlAV, newSeq, hp, newRs];with_reducible first|exact .v|exact .c|exact .t|exact .f))
    obtain ⟨ha, hha⟩ : ∃ ha : Hp Fm, ha = { h0 with obj := Mp.set h0.obj h0.no (.row []), no := h0.no + 1 } := ⟨_, rfl⟩
    have e0 : HE h0 ha := by rw [hha]; exact (HE.refl h0).new _
    rw [← hha]
    have r0 : RS h0.no ha 1 false [] (.rs h0.no 0 1 false 0 0) := .inr ⟨h0.no, 0, rfl, Nat.le_refl _, ⟨⟨[], by rw [hha]; simp [Mp.get_set], rfl⟩, Nat.le_refl _, by rw [hha]; simp⟩⟩
    with_reducible apply WO_app_i; (case hw => (simp; done)); (case ho => rfl); (case hb => rfl); (case ha => (simp; first | done | exact ⟨rfl, rfl⟩ | rfl)); (case h1 => (simp; first | done | rfl)); (case h2 => (simp; first | done | rfl))
    refine app_then (r0.appN etB e0.no (by rw [e0.pol]; exact hp) (new := b.map byteAV) rfl (by simp) (fitBs b) (by simp; omega)) ?_
    rintro u h1 ⟨k1, x1, _, _⟩
    have uc := k1.cells
    have ui := k1.isCell
    refine ⟨_, by simp; first | done | rfl, ?_⟩
    repeat(first|with_reducible first|refine vmR ?_|refine vmV rfl ?_|refine vmW rfl ?_|refine vmL ?_|refine blockW_y (by decide) ?_|((with_reducible first|apply vmO|apply vmT|apply vmC);case a=>simp [uc, ui];with_reducible first|exact .v|exact .c|exact .t|exact .f))
    (first | apply endW_r | apply endW_n); (case h1 => (simp [Tryz.results64]; first | done | rfl))
    exact ⟨by simpa using k1, e0.x2 x1 r0.rows (fun _ z => z.elim)⟩
  · have hb : b = [] := by simpa using e
    subst hb
    apply A_go Tryz.func64 rfl (by rfl); (case hn => (simp [Tryz.ntmps64]; rfl))
    repeat(first|with_reducible first|refine vmR ?_|refine vmV rfl ?_|refine vmW rfl ?_|refine vmL ?_|refine blockW_y (by decide) ?_|((with_reducible first|apply vmO|apply vmT|apply vmC);case a=>simp [eqlAV, newSeq, hp, newRs, appendAV, newEls, appendTo, isIntD];with_reducible first|exact .v|exact .c|exact .t|exact .f))
    (first | apply endW_r | apply endW_n); (case h1 => (simp [Tryz.results64]; first | done | rfl))
    exact ⟨.inr ⟨h0.no, 0, rfl, Nat.le_refl _, ⟨⟨[], by simp, rfl⟩, Nat.le_refl _, by simp⟩⟩, (HE.refl h0).new _⟩
end Go.Vn

set_option maxRecDepth 20000
namespace Go.Vn
open Go.Proofs

def Dk.put (D : Dk) (k : List UInt8) (a : FV) : Dk := { D with fs := setF k a D.clk D.fs, clk := clkF k D.clk D.fs }
def Dk.del (D : Dk) (k : List UInt8) : Dk := { D with fs := delF k D.fs }
def Dk.tick (D : Dk) : Dk := { D with left := if 0 < D.left then D.left - 1 else D.left }
def Dk.cut (D : Dk) : Dk := { D with left := -1, down := true }
def Dk.deed (D : Dk) (e : Int) (does torn : Dk → Dk) : Int × Dk :=
  if D.down then (7, D) else if e ≠ 0 then (e, D) else if D.left = 0 then (7, torn D.cut) else (0, does D.tick)

theorem DKs.setRow {h : Hp Fm} {p m : Nat} {D : Dk} (d : DKs h p m D) (q l : Int) (b : Bool) : DKs { h with obj := Mp.set h.obj p (.row [.mp m, .int .i64 q, .int .i64 l, .bool b]) } p m { D with quota := q, left := l, down := b } := by
  obtain ⟨es, h1, h2⟩ := d.map
  refine ⟨by simp [Mp.get_set], ⟨es, ?_, h2⟩, d.pn, d.mn, d.born⟩
  simp only [Mp.get_set]
  rw [if_neg (Ne.symm d.ne)]; exact h1

theorem deed_ans (p m : Nat) (D : Dk) (h0 : Hp Fm) (d : DKs h0 p m D) (hl : -1 ≤ D.left ∧ D.left ≤ 9223372036854775807) (e : Int) (i1 i2 : Nat) (c1 c2 : List AV) (hb1 : hasBody Tryz.prog i1 = true) (hb2 : hasBody Tryz.prog i2 = true) (does torn : Dk → Dk)
    (hd : e = 0 → D.down = false → ∀ h, DKs h p m D.tick → DX p m h0 h → A Tryz.prog TT (.func i1) c1 h (fun _ h' => DKs h' p m (does D.tick) ∧ DX p m h h'))
    (ht : e = 0 → D.down = false → ∀ h, DKs h p m D.cut → DX p m h0 h → A Tryz.prog TT (.func i2) c2 h (fun _ h' => DKs h' p m (torn D.cut) ∧ DX p m h h')) :
    A Tryz.prog TT (.func 42) [.ptr p 0, .int .i64 e, .fn (.func i1) [] c1, .fn (.func i2) [] c2] h0 (fun r h' => r = .int .i64 (D.deed e does torn).1 ∧ DKs h' p m (D.deed e does torn).2 ∧ DX p m h0 h') := by
  have hr := d.row
  cases q1 : D.down with
  | true =>
    rw [q1] at hr
    apply A_go Tryz.func42 rfl (by rfl); (case hn => (simp [Tryz.ntmps42]; rfl))
    repeat(first|with_reducible first|refine vmR ?_|refine vmV rfl ?_|refine vmW rfl ?_|refine vmL ?_|refine blockW_y (by decide) ?_|((with_reducible first|apply vmO|apply vmT|apply vmC);case a=>simp [hr];with_reducible first|exact .v|exact .c|exact .t|exact .f))
    (first | apply endW_r | apply endW_n); (case h1 => (simp [Tryz.results42]; first | done | rfl))
    simp only [Dk.deed, q1, if_true]
    exact ⟨trivial, d, HX.refl _ _ _⟩
  | false =>
    rw [q1] at hr
    by_cases q2 : e = 0
    · by_cases q3 : D.left = 0
      · have e1 : D.deed e does torn = (7, torn D.cut) := by simp [Dk.deed, q1, q2, q3]
        rw [e1]
        rw [q3] at hr
        have d1 := d.setRow D.quota (-1) true
        have x1 : DX p m h0 { h0 with obj := Mp.set h0.obj p (.row [.mp m, .int .i64 D.quota, .int .i64 (-1), .bool true]) } := (HX.refl _ _ _).set (fun _ => .inl rfl) _
        have w1 : { h0 with obj := Mp.set (Mp.set h0.obj p (.row [.mp m, .int .i64 D.quota, .int .i64 0, .bool true])) p (.row [.mp m, .int .i64 D.quota, .int .i64 (-1), .bool true]) } = { h0 with obj := Mp.set h0.obj p (.row [.mp m, .int .i64 D.quota, .int .i64 (-1), .bool true]) } := by
          have : Mp.set (Mp.set h0.obj p (.row [.mp m, .int .i64 D.quota, .int .i64 0, .bool true])) p (.row [.mp m, .int .i64 D.quota, .int .i64 (-1), .bool true]) = Mp.set h0.obj p (.row [.mp m, .int .i64 D.quota, .int .i64 (-1), .bool true]) := by
            funext j; show (if j = p then _ else (if j = p then _ else _)) = (if j = p then _ else _); split <;> rfl
          rw [this]
        apply A_go Tryz.func42 rfl (by rfl); (case hn => (simp [Tryz.ntmps42]; rfl))
        repeat(first|with_reducible first|refine vmR ?_|refine vmV rfl ?_|refine vmW rfl ?_|refine vmL ?_|refine blockW_y (by decide) ?_|((with_reducible first|apply vmO|apply vmT|apply vmC);case a=>simp [hr, q2, hb2];with_reducible first|exact .v|exact .c|exact .t|exact .f))
        rw [w1]
        refine A.mono (ht q2 q1 _ d1 x1) ?_
        rintro _ h2 ⟨d2, x2⟩
        refine ⟨_, by simp; first | done | rfl, ?_⟩
        repeat(first|with_reducible first|refine vmR ?_|refine vmV rfl ?_|refine vmW rfl ?_|refine vmL ?_|refine blockW_y (by decide) ?_|((with_reducible first|apply vmO|apply vmT|apply vmC);case a=>simp;with_reducible first|exact .v|exact .c|exact .t|exact .f))
        (first | apply endW_r | apply endW_n); (case h1 => (simp [Tryz.results42]; first | done | rfl))
        exact ⟨rfl, d2, x1.trans (x2.mono (fun _ _ q => q) (fun _ _ q => q))⟩
      · have e1 : D.deed e does torn = (0, does D.tick) := by simp [Dk.deed, q1, q2, q3]
        rw [e1]
        by_cases q4 : 0 < D.left
        · have w0 : IntKind.i64.wrap (D.left - 1) = D.left - 1 := wrap64 (by omega) (by omega)
          have d1 := d.setRow D.quota (D.left - 1) false
          have et : ({ D with quota := D.quota, left := D.left - 1, down := false } : Dk) = D.tick := by simp [Dk.tick, q4, q1]
          rw [et] at d1
          have x1 : DX p m h0 { h0 with obj := Mp.set h0.obj p (.row [.mp m, .int .i64 D.quota, .int .i64 (D.left - 1), .bool false]) } := (HX.refl _ _ _).set (fun _ => .inl rfl) _
          apply A_go Tryz.func42 rfl (by rfl); (case hn => (simp [Tryz.ntmps42]; rfl))
          repeat(first|with_reducible first|refine vmR ?_|refine vmV rfl ?_|refine vmW rfl ?_|refine vmL ?_|refine blockW_y (by decide) ?_|((with_reducible first|apply vmO|apply vmT|apply vmC);case a=>simp [hr, q2, q3, q4, w0, hb1];with_reducible first|exact .v|exact .c|exact .t|exact .f))
          refine A.mono (hd q2 q1 _ d1 x1) ?_
          rintro _ h2 ⟨d2, x2⟩
          refine ⟨_, by simp; first | done | rfl, ?_⟩
          repeat(first|with_reducible first|refine vmR ?_|refine vmV rfl ?_|refine vmW rfl ?_|refine vmL ?_|refine blockW_y (by decide) ?_|((with_reducible first|apply vmO|apply vmT|apply vmC);case a=>simp;with_reducible first|exact .v|exact .c|exact .t|exact .f))
          (first | apply endW_r | apply endW_n); (case h1 => (simp [Tryz.results42]; first | done | rfl))
          exact ⟨rfl, d2, x1.trans (x2.mono (fun _ _ q => q) (fun _ _ q => q))⟩
        · have et : D = D.tick := by simp [Dk.tick, q4]
          apply A_go Tryz.func42 rfl (by rfl); (case hn => (simp [Tryz.ntmps42]; rfl))
          repeat(first|with_reducible first|refine vmR ?_|refine vmV rfl ?_|refine vmW rfl ?_|refine vmL ?_|refine blockW_y (by decide) ?_|((with_reducible first|apply vmO|apply vmT|apply vmC);case a=>simp [hr, q2, q3, q4, hb1];with_reducible first|exact .v|exact .c|exact .t|exact .f))
          refine A.mono (hd q2 q1 _ (et ▸ d) (HX.refl _ _ _)) ?_
          rintro _ h2 ⟨d2, x2⟩
          refine ⟨_, by simp; first | done | rfl, ?_⟩
          repeat(first|with_reducible first|refine vmR ?_|refine vmV rfl ?_|refine vmW rfl ?_|refine vmL ?_|refine blockW_y (by decide) ?_|((with_reducible first|apply vmO|apply vmT|apply vmC);case a=>simp;with_reducible first|exact .v|exact .c|exact .t|exact .f))
          (first | apply endW_r | apply endW_n); (case h1 => (simp [Tryz.results42]; first | done | rfl))
          exact ⟨rfl, d2, x2⟩
    · have e1 : D.deed e does torn = (e, D) := by simp [Dk.deed, q1, q2]
      rw [e1]
      apply A_go Tryz.func42 rfl (by rfl); (case hn => (simp [Tryz.ntmps42]; rfl))
      repeat(first|with_reducible first|refine vmR ?_|refine vmV rfl ?_|refine vmW rfl ?_|refine vmL ?_|refine blockW_y (by decide) ?_|((with_reducible first|apply vmO|apply vmT|apply vmC);case a=>simp [hr, q2];with_reducible first|exact .v|exact .c|exact .t|exact .f))
      (first | apply endW_r | apply endW_n); (case h1 => (simp [Tryz.results42]; first | done | rfl))
      exact ⟨rfl, d, HX.refl _ _ _⟩
end Go.Vn

set_option maxRecDepth 20000
namespace Go.Vn
open Go.Proofs

def signs : List UInt8 := [46, 45, 48, 49, 50, 51, 52, 53, 54, 55, 56, 57, 97, 98, 99, 100, 101, 102, 103, 104, 105, 106, 107, 108, 109, 110, 111, 112, 113, 114, 115, 116, 117, 118, 119, 120, 121, 122]
def okc (c : UInt8) : Bool := signs.contains c
def namedP (s : List UInt8) : Bool := s.all okc && decide (1 ≤ s.length) && decide (s.length ≤ 20)

theorem hbib : hasBody Tryz.prog 97 = false := by kernel_rfl
theorem ext_ib (h : Hp Fm) (s : List UInt8) (c : Int) : externAV Tryz.prog h 97 [.str s, .int .u8 c] = some (.int .i64 (idxByte s (UInt8.ofNat c.toNat))) := by
  have e1 : Tryz.f97.body.isSome = false := by kernel_rfl
  have e2 : (Tryz.f97.name == "runtime.NumGoroutine") = false := by kernel_rfl
  have e3 : Tryz.f97.name = "internal/bytealg.IndexByteString" := by kernel_rfl
  have e4 : (Extern.allNextRows.lookup Tryz.f97.origin).isSome = false := by kernel_rfl
  unfold externAV
  rw [Tryz.func97]
  simp only [e1, e2, Bool.or_self, e3, if_true, e4]
  simp

theorem ixb_ans (s : List UInt8) (c : UInt8) (h0 : Hp Fm) : A Tryz.prog TT (.func 72) [.str s, byteAV c] h0 (fun r h' => r = .int .i64 (idxByte s c) ∧ HE h0 h') := by
  have e : UInt8.ofNat (c.toNat : Int).toNat = c := by simp
  have x := ext_ib h0 s c.toNat
  rw [e] at x
  apply A_go Tryz.func72 rfl (by rfl); (case hn => (simp [Tryz.ntmps72]; rfl))
  repeat(first|with_reducible first|refine vmR ?_|refine vmV rfl ?_|refine vmW rfl ?_|refine vmL ?_|refine blockW_y (by decide) ?_|((with_reducible first|apply vmO|apply vmT|apply vmC);case a=>simp;with_reducible first|exact .v|exact .c|exact .t|exact .f))
  refine A.mono (Q := _) (R := fun r h' => r = .int .i64 (idxByte s c) ∧ HE h0 h') ?_ ?_
  · apply A_go Tryz.func87 rfl (by rfl); (case hn => (simp [Tryz.ntmps87]; rfl))
    repeat(first|with_reducible first|refine vmR ?_|refine vmV rfl ?_|refine vmW rfl ?_|refine vmL ?_|refine blockW_y (by decide) ?_|((with_reducible first|apply vmO|apply vmT|apply vmC);case a=>simp [enterFn, hbib, x, byteAV];with_reducible first|exact .v|exact .c|exact .t|exact .f))
    (first | apply endW_r | apply endW_n); (case h1 => (simp [Tryz.results87]; first | done | rfl))
    exact ⟨rfl, HE.refl h0⟩
  · rintro _ h1 ⟨rfl, e1⟩
    refine ⟨_, by simp; first | done | rfl, ?_⟩
    repeat(first|with_reducible first|refine vmR ?_|refine vmV rfl ?_|refine vmW rfl ?_|refine vmL ?_|refine blockW_y (by decide) ?_|((with_reducible first|apply vmO|apply vmT|apply vmC);case a=>simp;with_reducible first|exact .v|exact .c|exact .t|exact .f))
    (first | apply endW_r | apply endW_n); (case h1 => (simp [Tryz.results72]; first | done | rfl))
    exact ⟨rfl, e1⟩

theorem ixb_any (l : List UInt8) (c : UInt8) : idxByte l c < 0 ↔ l.contains c = false := by
  unfold idxByte
  cases h : l.findIdx? (· == c) with
  | none =>
    have h2 := List.findIdx?_eq_none_iff.mp h
    refine ⟨fun _ => ?_, fun _ => by decide⟩
    rw [List.contains_eq_any_beq, List.any_eq_false]
    intro x hx k
    have h3 := h2 x hx
    have : x = c := (eq_of_beq k).symm
    simp [this] at h3
  | some i =>
    obtain ⟨h1, h2, _⟩ := List.findIdx?_eq_some_iff_getElem.mp h
    have h3 : l.contains c = true := by
      rw [List.contains_eq_any_beq, List.any_eq_true]
      exact ⟨l[i], List.getElem_mem h1, by rw [eq_of_beq h2]; simp⟩
    rw [h3]
    refine ⟨fun k => ?_, fun k => by cases k⟩
    simp only at k; omega
theorem ixb_neg (c : UInt8) : idxByte signs c < 0 ↔ okc c = false := ixb_any signs c

theorem named_ans (s : List UInt8) (hs : s.length ≤ 1000000) (h0 : Hp Fm) : A Tryz.prog TT (.func 46) [.str s] h0 (fun r h' => r = .bool (namedP s) ∧ HE h0 h') := by
  obtain ⟨n, hn⟩ : ∃ n, n = s.length := ⟨_, rfl⟩
  apply A_go Tryz.func46 rfl (by rfl); (case hn => (simp [Tryz.ntmps46]; rfl))
  repeat(first|with_reducible first|refine vmR ?_|refine vmV rfl ?_|refine vmW rfl ?_|refine vmL ?_|refine blockW_y (by decide) ?_|((with_reducible first|apply vmO|apply vmT|apply vmC);case a=>simp;with_reducible first|exact .v|exact .c|exact .t|exact .f))
  refine W_loop (fun mm st => ∃ (t : Fm AV) (h : Hp Fm) (i : Nat), st = ⟨t, 22, h, none⟩ ∧ mm = n - i ∧ i ≤ n ∧ (s.take i).all okc = true ∧ tget t 0 = .str s ∧ tget t 5 = .int .i64 n ∧ tget t 6 = .int .i64 i ∧ HE h0 h) n
      ⟨_, _, 0, rfl, rfl, by omega, by simp, by simp, by simp [hn], by simp, HE.refl h0⟩ ?_
  rintro _ _ ⟨t, h, i, rfl, rfl, hi, ha, ht0, ht5, ht6, he⟩
  have fold : ∀ c, A Tryz.prog TT (.func 72) [.str [46, 45, 48, 49, 50, 51, 52, 53, 54, 55, 56, 57, 97, 98, 99, 100, 101, 102, 103, 104, 105, 106, 107, 108, 109, 110, 111, 112, 113, 114, 115, 116, 117, 118, 119, 120, 121, 122], byteAV c] h (fun r h' => r = .int .i64 (idxByte signs c) ∧ HE h h') := fun c => ixb_ans signs c h
  have neg := ixb_neg
  generalize signs = sg at fold neg
  by_cases q : i < n
  · have q' : (i : Int) < n := by omega
    have qs : i < s.length := by omega
    have w1 : IntKind.i64.wrap ((i : Int) + 1) = ((i + 1 : Nat) : Int) := by rw [wrap64 (by omega) (by omega)]; simp
    have gi : s[i]? = some s[i] := List.getElem?_eq_getElem qs
    repeat(first|with_reducible first|refine vmR ?_|refine vmV rfl ?_|refine vmW rfl ?_|refine vmL ?_|refine blockW_y (by decide) ?_|((with_reducible first|apply vmO|apply vmT|apply vmC);case a=>simp [ht0, ht5, ht6, q', indexAV, gi];with_reducible first|exact .v|exact .c|exact .t|exact .f))
    refine A.mono (fold s[i]) ?_
    rintro _ h1 ⟨rfl, e1⟩
    refine ⟨_, by simp; first | done | rfl, ?_⟩
    cases hk : okc s[i] with
    | false =>
      have := (neg s[i]).mpr hk
      repeat(first|with_reducible first|refine vmR ?_|refine vmV rfl ?_|refine vmW rfl ?_|refine vmL ?_|refine blockW_y (by decide) ?_|((with_reducible first|apply vmO|apply vmT|apply vmC);case a=>simp [this];with_reducible first|exact .v|exact .c|exact .t|exact .f))
      (first | apply endW_r | apply endW_n); (case h1 => (simp [Tryz.results46]; first | done | rfl))
      refine ⟨?_, he.trans e1⟩
      have : s.all okc = false := by
        rw [List.all_eq_false]; exact ⟨s[i], List.getElem_mem qs, by simp [hk]⟩
      simp [namedP, this]
    | true =>
      have : ¬ idxByte sg s[i] < 0 := fun z => by rw [(neg s[i]).mp z] at hk; cases hk
      repeat(first|with_reducible first|refine vmR ?_|refine vmV rfl ?_|refine vmW rfl ?_|refine vmL ?_|refine blockW_y (by decide) ?_|((with_reducible first|apply vmO|apply vmT|apply vmC);case a=>simp [this, ht6, w1];with_reducible first|exact .v|exact .c|exact .t|exact .f))
      refine ⟨n - (i + 1), by omega, _, _, i + 1, rfl, rfl, by omega, ?_, by simp [ht0], by simp [ht5], by simp, he.trans e1⟩
      rw [List.take_succ_eq_append_getElem qs, List.all_append, ha]; simp [hk]
  · have q' : ¬ (i : Int) < n := by omega
    have : i = n := by omega
    subst this
    rw [hn, List.take_length] at ha
    by_cases q2 : s = []
    · subst q2
      repeat(first|with_reducible first|refine vmR ?_|refine vmV rfl ?_|refine vmW rfl ?_|refine vmL ?_|refine blockW_y (by decide) ?_|((with_reducible first|apply vmO|apply vmT|apply vmC);case a=>simp [ht0, ht5, ht6, q', eqB];with_reducible first|exact .v|exact .c|exact .t|exact .f))
      (first | apply endW_r | apply endW_n); (case h1 => (simp [Tryz.results46]; first | done | rfl))
      exact ⟨by simp [namedP], he⟩
    · have nb : eqB s [] = false := by rw [eqB_dec]; simp [q2]
      have hp : 1 ≤ s.length := by cases s with | nil => exact (q2 rfl).elim | cons _ _ => simp
      by_cases q3 : s.length ≤ 20
      · have q3' : (s.length : Int) ≤ 20 := by omega
        repeat(first|with_reducible first|refine vmR ?_|refine vmV rfl ?_|refine vmW rfl ?_|refine vmL ?_|refine blockW_y (by decide) ?_|((with_reducible first|apply vmO|apply vmT|apply vmC);case a=>simp [ht0, ht5, ht6, q', nb, q3', q3];with_reducible first|exact .v|exact .c|exact .t|exact .f))
        (first | apply endW_r | apply endW_n); (case h1 => (simp [Tryz.results46]; first | done | rfl))
        exact ⟨by simp [namedP, ha, hp, q3], he⟩
      · have q3' : ¬ (s.length : Int) ≤ 20 := by omega
        repeat(first|with_reducible first|refine vmR ?_|refine vmV rfl ?_|refine vmW rfl ?_|refine vmL ?_|refine blockW_y (by decide) ?_|((with_reducible first|apply vmO|apply vmT|apply vmC);case a=>simp [ht0, ht5, ht6, q', nb, q3', q3];with_reducible first|exact .v|exact .c|exact .t|exact .f))
        (first | apply endW_r | apply endW_n); (case h1 => (simp [Tryz.results46]; first | done | rfl))
        exact ⟨by simp [namedP, q3], he⟩
end Go.Vn

set_option maxRecDepth 20000
namespace Go.Vn
open Go.Proofs

def lenOf : AV → Nat
  | .sl _ _ _ _ els => els.length
  | _ => 0
theorem SV.lenOf {sz : Nat} {xs : List AV} {v : AV} (k : SV sz xs v) : lenOf v = xs.length := by
  rcases k with ⟨rfl, rfl⟩ | ⟨_, _, _, rfl⟩ | ⟨_, rfl, rfl⟩ <;> rfl
def szE (e : AV × AV × Nat) : Nat := match e.2.1 with
  | .agg (bv :: _) => lenOf bv
  | _ => 0
def used (fs : Ents FV) : Nat := (fs.map fun f => f.2.1.1.length).sum
theorem szE_used : ∀ (fs : Ents FV) (es : List (AV × AV × Nat)), EntsR FR fs es → (es.map szE).sum = used fs
  | [], [], _ => rfl
  | [], _ :: _, h => h.elim
  | _ :: _, [], h => h.elim
  | f :: fs, e :: es, ⟨⟨_, ⟨bv, k, hv⟩, _⟩, h⟩ => by
    have ih := szE_used fs es h
    unfold used at ih ⊢
    simp only [List.map_cons, List.sum_cons, ih]
    congr 1
    simp only [szE, hv, k.lenOf, List.length_map]

theorem perm_sum {α : Type} (f : α → Nat) {l m : List α} (h : l.Perm m) : (l.map f).sum = (m.map f).sum := by
  induction h with
  | nil => rfl
  | cons a _ ih => simp [ih]
  | swap a b l => simp; omega
  | trans _ _ h1 h2 => exact h1.trans h2

set_option maxHeartbeats 1000000 in
theorem used_ans (p m : Nat) (D : Dk) (h0 : Hp Fm) (d : DKs h0 p m D) (hu : used D.fs ≤ 1000000000000) :
    A Tryz.prog TT (.func 48) [.ptr p 0] h0 (fun r h' => r = .int .i64 (used D.fs : Nat) ∧ HE h0 h') := by
  have hr := d.row
  obtain ⟨es, hm, hes⟩ := d.map
  have hbirth := hes.births
  have hnd : (es.map (·.2.2)).Nodup := by rw [hbirth]; exact d.born.nd
  have hlt : ∀ e ∈ es, e.2.2 < D.clk := fun e he => by
    have : e.2.2 ∈ es.map (·.2.2) := List.mem_map_of_mem he
    rw [hbirth] at this
    obtain ⟨f, hf, e1⟩ := List.mem_map.mp this
    have := d.born.lt f hf; omega
  have htot := szE_used _ _ hes
  have hmn := d.mn
  have ne : h0.no ≠ m := by omega
  apply A_go Tryz.func48 rfl (by rfl); (case hn => (simp [Tryz.ntmps48]; rfl))
  repeat(first|with_reducible first|refine vmR ?_|refine vmV rfl ?_|refine vmW rfl ?_|refine vmL ?_|refine blockW_y (by decide) ?_|((with_reducible first|apply vmO|apply vmT|apply vmC);case a=>simp [hr, hm, rangeAV];with_reducible first|exact .v|exact .c|exact .t|exact .f))
  obtain ⟨ha, hha⟩ : ∃ ha : Hp Fm, ha = { h0 with obj := Mp.set h0.obj h0.no (.iter (some m) D.clk [] D.clk), no := h0.no + 1 } := ⟨_, rfl⟩
  have e0 : HE h0 ha := by rw [hha]; exact (HE.refl h0).new _
  have gi : Mp.get ha.obj h0.no = some (.iter (some m) D.clk (([] : List (AV × AV × Nat)).map (·.2.2)) D.clk) := by rw [hha]; simp
  have gn : h0.no < ha.no := by rw [hha]; simp
  rw [← hha]
  refine W_loop (fun mm st => ∃ (t : Fm AV) (h : Hp Fm) (done : List (AV × AV × Nat)), st = ⟨t, 21, h, none⟩ ∧ mm = es.length - done.length ∧ (∀ e ∈ done, e ∈ es) ∧ (done.map (·.2.2)).Nodup ∧ Mp.get h.obj h0.no = some (.iter (some m) D.clk (done.map (·.2.2)) D.clk) ∧ tget t 10 = .ptr h0.no 0 ∧ tget t 3 = .int .i64 ((done.map szE).sum : Nat) ∧ HE h0 h ∧ h0.no < h.no) es.length
      ⟨_, _, [], rfl, by simp, by simp, by simp, gi, by simp, by simp, e0, gn⟩ ?_
  rintro _ _ ⟨t, h, done, rfl, rfl, hd, hdn, hi, ht10, ht3, he, hno⟩
  have hmh : Mp.get h.obj m = some (.mp es D.clk) := (he.obj m d.mn).trans hm
  repeat(first|with_reducible first|refine vmR ?_|refine vmV rfl ?_|refine vmW rfl ?_|refine vmL ?_|refine blockW_y (by decide) ?_|((with_reducible first|apply vmO|apply vmT|apply vmC);case a=>simp;with_reducible first|exact .v|exact .c|exact .t|exact .f))
  with_reducible refine WO_next_i done ?_ rfl ?_ hi hmh hlt hnd hd hdn ?_ ?_
  · simp
  · simp [ht10]
  · intro h1 k1 hp
    refine ⟨_, by simp; first | done | rfl, ?_⟩
    repeat(first|with_reducible first|refine vmR ?_|refine vmV rfl ?_|refine vmW rfl ?_|refine vmL ?_|refine blockW_y (by decide) ?_|((with_reducible first|apply vmO|apply vmT|apply vmC);case a=>simp [ht3];with_reducible first|exact .v|exact .c|exact .t|exact .f))
    (first | apply endW_r | apply endW_n); (case h1 => (simp [Tryz.results48]; first | done | rfl))
    exact ⟨by rw [perm_sum szE hp, htot], he.trans k1.he⟩
  · intro h1 e hin hnot k1 hno1 hit
    replace hno1 : h1.no = h.no := hno1
    replace k1 : HX (fun q => q = h0.no) (fun _ => False) h h1 := k1
    have hen := entry_some (done := done) (h := h1) (es := es) hit (by rw [k1.obj m (Nat.lt_of_lt_of_le hmn he.no) (Ne.symm ne)]; exact hmh) hnd hin
    obtain ⟨f, hf, ⟨_, ⟨bv, kb, hv⟩, _⟩⟩ := hes.mem hin
    have bc := kb.cells
    have bi := kb.isCell
    have bn := kb.nm
    have bl := kb.len Tryz.underlying58
    rw [List.length_map] at bl
    have hsz : szE e = f.2.1.1.length := by simp only [szE, hv, kb.lenOf, List.length_map]
    have hdn' : ((done ++ [e]).map (·.2.2)).Nodup := by
      rw [List.map_append, List.nodup_append]
      refine ⟨hdn, by simp, fun a ha b hb => ?_⟩
      simp only [List.map_cons, List.map_nil, List.mem_singleton] at hb
      subst hb; intro q; exact hnot (q ▸ ha)
    have hd' : ∀ x ∈ done ++ [e], x ∈ es := fun x hx => by
      rcases List.mem_append.mp hx with q | q
      · exact hd x q
      · rw [List.mem_singleton.mp q]; exact hin
    have hle := sum_sub szE (done ++ [e]) es (nodup_of_map _ hdn') hd'
    have hln := len_sub (done ++ [e]) es (nodup_of_map _ hdn') hd'
    rw [htot, List.map_append, List.sum_append] at hle
    simp only [List.map_cons, List.map_nil, List.sum_cons, List.sum_nil] at hle
    rw [List.length_append, List.length_singleton] at hln
    obtain ⟨sm, hsm⟩ : ∃ sm, sm = (done.map szE).sum := ⟨_, rfl⟩
    rw [← hsm] at ht3 hle
    have w1 : IntKind.i64.wrap ((sm : Int) + (f.2.1.1.length : Int)) = ((sm + f.2.1.1.length : Nat) : Int) := by rw [wrap64 (by omega) (by omega)]; simp
    obtain ⟨ek, ev, est⟩ := e
    simp only at hv
    subst hv
    refine ⟨_, by simp; first | done | rfl, ?_⟩
    repeat(first|with_reducible first|refine vmR ?_|refine vmV rfl ?_|refine vmW rfl ?_|refine vmL ?_|refine blockW_y (by decide) ?_|((with_reducible first|apply vmO|apply vmT|apply vmC);case a=>simp [ht10, hen, ht3, bc, bi, bn, bl, w1];with_reducible first|exact .v|exact .c|exact .t|exact .f))
    refine ⟨es.length - (done ++ [(ek, _, est)]).length, by simp; omega, _, _, done ++ [(ek, _, est)], rfl, rfl, hd', hdn', ?_, by simp [ht10], ?_, ?_, ?_⟩
    · simp only [Mp.get_set]
      rw [if_neg (by omega), if_neg (by omega)]; exact hit
    · simp; omega
    · refine (he.x2 k1 (fun q e => by omega) (fun _ z => z.elim)).trans ?_
      exact ((HE.refl h1).new _).set (Nat.le_refl _) _
    · simp; omega
end Go.Vn
