/- What functions of the program come to, in the value machine (a part of the proof of the claim's statement). No condition. -/
import Derived.Test.YtpodlpemlkkojaaVnG1
import Derived.Test.YtpodlpemlkkojaaVnB5
import Derived.Test.YtpodlpemlkkojaaProg
import Derived.KernelRfl
set_option linter.unusedSimpArgs false
set_option linter.unusedVariables false
set_option maxRecDepth 20000
namespace Go.Vn
open Go.Proofs

def TT : Tab := fun f => match f with
  | 13 => some (· == 39)
  | 23 => some (· == 33)
  | 16 => some (· == 33)
  | 39 => some (· == 9)
  | _ => none

attribute [simp] Try.underlying3 Try.underlying4 Try.underlying5 Try.underlying9 Try.underlying22 Try.underlying23 Try.underlying26 Try.underlying31 Try.underlying33 Try.underlying37 Try.underlying39 Try.underlying49 Try.underlying59 Try.underlying65 Try.underlying69 Try.underlying72 Try.underlying73 Try.underlying74 Try.underlying77 Try.underlying81 Try.underlying84 Try.underlying86 Try.underlying89 Try.underlying91 Try.underlying94 Try.underlying99 Try.underlying101 Try.underlying109 Try.underlying110 Try.underlying113 Try.underlying115 Try.underlying117 Try.underlying126 Try.underlying128 Try.underlying131 Try.underlying135 Try.underlying137
@[simp] theorem z3 : tsize Try.prog 3 = some 1 := by kernel_rfl
@[simp] theorem b3 : tbytes Try.prog 3 = some 8 := by kernel_rfl
@[simp] theorem a3 : tagg Try.prog 3 = some false := by kernel_rfl
@[simp] theorem t3 : tzero Try.prog 3 = some (.int .i64 0) := by kernel_rfl
@[simp] theorem z4 : tsize Try.prog 4 = some 1 := by kernel_rfl
@[simp] theorem b4 : tbytes Try.prog 4 = some 1 := by kernel_rfl
@[simp] theorem a4 : tagg Try.prog 4 = some false := by kernel_rfl
@[simp] theorem t4 : tzero Try.prog 4 = some (.bool false) := by kernel_rfl
@[simp] theorem z5 : tsize Try.prog 5 = some 1 := by kernel_rfl
@[simp] theorem b5 : tbytes Try.prog 5 = some 1 := by kernel_rfl
@[simp] theorem a5 : tagg Try.prog 5 = some false := by kernel_rfl
@[simp] theorem t5 : tzero Try.prog 5 = some (.int .u8 0) := by kernel_rfl
@[simp] theorem z9 : tsize Try.prog 9 = some 1 := by kernel_rfl
@[simp] theorem b9 : tbytes Try.prog 9 = some 16 := by kernel_rfl
@[simp] theorem a9 : tagg Try.prog 9 = some false := by kernel_rfl
@[simp] theorem t9 : tzero Try.prog 9 = some (.str []) := by kernel_rfl
@[simp] theorem z22 : tsize Try.prog 22 = some 1 := by kernel_rfl
@[simp] theorem b22 : tbytes Try.prog 22 = some 24 := by kernel_rfl
@[simp] theorem a22 : tagg Try.prog 22 = some false := by kernel_rfl
@[simp] theorem t22 : tzero Try.prog 22 = some (.nils) := by kernel_rfl
@[simp] theorem z23 : tsize Try.prog 23 = some 1 := by kernel_rfl
@[simp] theorem b23 : tbytes Try.prog 23 = some 24 := by kernel_rfl
@[simp] theorem a23 : tagg Try.prog 23 = some false := by kernel_rfl
@[simp] theorem t23 : tzero Try.prog 23 = some (.nils) := by kernel_rfl
@[simp] theorem z26 : tsize Try.prog 26 = some 1 := by kernel_rfl
@[simp] theorem b26 : tbytes Try.prog 26 = some 24 := by kernel_rfl
@[simp] theorem a26 : tagg Try.prog 26 = some false := by kernel_rfl
@[simp] theorem t26 : tzero Try.prog 26 = some (.nils) := by kernel_rfl
@[simp] theorem z31 : tsize Try.prog 31 = some 2 := by kernel_rfl
@[simp] theorem b31 : tbytes Try.prog 31 = some 16 := by kernel_rfl
@[simp] theorem a31 : tagg Try.prog 31 = some true := by kernel_rfl
@[simp] theorem t31 : tzero Try.prog 31 = some (.agg [.int .i64 0, .int .i64 0]) := by kernel_rfl
@[simp] theorem z33 : tsize Try.prog 33 = some 3 := by kernel_rfl
@[simp] theorem b33 : tbytes Try.prog 33 = some 32 := by kernel_rfl
@[simp] theorem a33 : tagg Try.prog 33 = some true := by kernel_rfl
@[simp] theorem t33 : tzero Try.prog 33 = some (.agg [.int .i64 0, .int .i64 0, .str []]) := by kernel_rfl
@[simp] theorem z37 : tsize Try.prog 37 = some 3 := by kernel_rfl
@[simp] theorem b37 : tbytes Try.prog 37 = some 24 := by kernel_rfl
@[simp] theorem a37 : tagg Try.prog 37 = some true := by kernel_rfl
@[simp] theorem t37 : tzero Try.prog 37 = some (.agg [.int .i64 0, .int .i64 0, .int .i64 0]) := by kernel_rfl
@[simp] theorem z39 : tsize Try.prog 39 = some 8 := by kernel_rfl
@[simp] theorem b39 : tbytes Try.prog 39 = some 80 := by kernel_rfl
@[simp] theorem a39 : tagg Try.prog 39 = some true := by kernel_rfl
@[simp] theorem t39 : tzero Try.prog 39 = some (.agg [.str [], .int .i64 0, .int .i64 0, .int .i64 0, .int .i64 0, .int .i64 0, .str [], .bool false]) := by kernel_rfl
@[simp] theorem z49 : tsize Try.prog 49 = some 1 := by kernel_rfl
@[simp] theorem b49 : tbytes Try.prog 49 = some 24 := by kernel_rfl
@[simp] theorem a49 : tagg Try.prog 49 = some false := by kernel_rfl
@[simp] theorem t49 : tzero Try.prog 49 = some (.nils) := by kernel_rfl
@[simp] theorem z59 : tsize Try.prog 59 = some 2 := by kernel_rfl
@[simp] theorem b59 : tbytes Try.prog 59 = some 16 := by kernel_rfl
@[simp] theorem a59 : tagg Try.prog 59 = some true := by kernel_rfl
@[simp] theorem t59 : tzero Try.prog 59 = some (.agg [.int .i64 0, .int .i64 0]) := by kernel_rfl
@[simp] theorem z65 : tsize Try.prog 65 = some 1 := by kernel_rfl
@[simp] theorem b65 : tbytes Try.prog 65 = some 8 := by kernel_rfl
@[simp] theorem a65 : tagg Try.prog 65 = some false := by kernel_rfl
@[simp] theorem t65 : tzero Try.prog 65 = some (.nilf) := by kernel_rfl
@[simp] theorem z69 : tsize Try.prog 69 = some 1 := by kernel_rfl
@[simp] theorem b69 : tbytes Try.prog 69 = some 8 := by kernel_rfl
@[simp] theorem a69 : tagg Try.prog 69 = some false := by kernel_rfl
@[simp] theorem t69 : tzero Try.prog 69 = some (.nilf) := by kernel_rfl
@[simp] theorem z72 : tsize Try.prog 72 = some 2 := by kernel_rfl
@[simp] theorem b72 : tbytes Try.prog 72 = some 32 := by kernel_rfl
@[simp] theorem a72 : tagg Try.prog 72 = some true := by kernel_rfl
@[simp] theorem t72 : tzero Try.prog 72 = some (.agg [.str [], .str []]) := by kernel_rfl
@[simp] theorem z73 : tsize Try.prog 73 = some 1 := by kernel_rfl
@[simp] theorem b73 : tbytes Try.prog 73 = some 8 := by kernel_rfl
@[simp] theorem a73 : tagg Try.prog 73 = some false := by kernel_rfl
@[simp] theorem t73 : tzero Try.prog 73 = some (.nilm) := by kernel_rfl
@[simp] theorem z74 : tsize Try.prog 74 = some 1 := by kernel_rfl
@[simp] theorem b74 : tbytes Try.prog 74 = some 24 := by kernel_rfl
@[simp] theorem a74 : tagg Try.prog 74 = some false := by kernel_rfl
@[simp] theorem t74 : tzero Try.prog 74 = some (.nils) := by kernel_rfl
@[simp] theorem z77 : tsize Try.prog 77 = some 1 := by kernel_rfl
@[simp] theorem b77 : tbytes Try.prog 77 = some 8 := by kernel_rfl
@[simp] theorem a77 : tagg Try.prog 77 = some false := by kernel_rfl
@[simp] theorem t77 : tzero Try.prog 77 = some (.nilf) := by kernel_rfl
@[simp] theorem z81 : tsize Try.prog 81 = some 1 := by kernel_rfl
@[simp] theorem b81 : tbytes Try.prog 81 = some 24 := by kernel_rfl
@[simp] theorem a81 : tagg Try.prog 81 = some false := by kernel_rfl
@[simp] theorem t81 : tzero Try.prog 81 = some (.nils) := by kernel_rfl
@[simp] theorem z84 : tsize Try.prog 84 = some 1 := by kernel_rfl
@[simp] theorem b84 : tbytes Try.prog 84 = some 8 := by kernel_rfl
@[simp] theorem a84 : tagg Try.prog 84 = some false := by kernel_rfl
@[simp] theorem t84 : tzero Try.prog 84 = some (.nilf) := by kernel_rfl
@[simp] theorem z86 : tsize Try.prog 86 = some 1 := by kernel_rfl
@[simp] theorem b86 : tbytes Try.prog 86 = some 8 := by kernel_rfl
@[simp] theorem a86 : tagg Try.prog 86 = some false := by kernel_rfl
@[simp] theorem t86 : tzero Try.prog 86 = some (.nilf) := by kernel_rfl
@[simp] theorem z89 : tsize Try.prog 89 = some 1 := by kernel_rfl
@[simp] theorem b89 : tbytes Try.prog 89 = some 8 := by kernel_rfl
@[simp] theorem a89 : tagg Try.prog 89 = some false := by kernel_rfl
@[simp] theorem t89 : tzero Try.prog 89 = some (.nilf) := by kernel_rfl
@[simp] theorem z91 : tsize Try.prog 91 = some 1 := by kernel_rfl
@[simp] theorem b91 : tbytes Try.prog 91 = some 24 := by kernel_rfl
@[simp] theorem a91 : tagg Try.prog 91 = some false := by kernel_rfl
@[simp] theorem t91 : tzero Try.prog 91 = some (.nils) := by kernel_rfl
@[simp] theorem z94 : tsize Try.prog 94 = some 1 := by kernel_rfl
@[simp] theorem b94 : tbytes Try.prog 94 = some 8 := by kernel_rfl
@[simp] theorem a94 : tagg Try.prog 94 = some false := by kernel_rfl
@[simp] theorem t94 : tzero Try.prog 94 = some (.nilf) := by kernel_rfl
@[simp] theorem z99 : tsize Try.prog 99 = some 4 := by kernel_rfl
@[simp] theorem b99 : tbytes Try.prog 99 = some 32 := by kernel_rfl
@[simp] theorem a99 : tagg Try.prog 99 = some true := by kernel_rfl
@[simp] theorem t99 : tzero Try.prog 99 = some (.agg [.int .i64 0, .int .i64 0, .int .i64 0, .int .i64 0]) := by kernel_rfl
@[simp] theorem z101 : tsize Try.prog 101 = some 1 := by kernel_rfl
@[simp] theorem b101 : tbytes Try.prog 101 = some 8 := by kernel_rfl
@[simp] theorem a101 : tagg Try.prog 101 = some false := by kernel_rfl
@[simp] theorem t101 : tzero Try.prog 101 = some (.int .i64 0) := by kernel_rfl
@[simp] theorem z109 : tsize Try.prog 109 = some 1 := by kernel_rfl
@[simp] theorem b109 : tbytes Try.prog 109 = some 8 := by kernel_rfl
@[simp] theorem a109 : tagg Try.prog 109 = some false := by kernel_rfl
@[simp] theorem t109 : tzero Try.prog 109 = some (.int .u64 0) := by kernel_rfl
@[simp] theorem z110 : tsize Try.prog 110 = some 1 := by kernel_rfl
@[simp] theorem b110 : tbytes Try.prog 110 = some 24 := by kernel_rfl
@[simp] theorem a110 : tagg Try.prog 110 = some false := by kernel_rfl
@[simp] theorem t110 : tzero Try.prog 110 = some (.nils) := by kernel_rfl
@[simp] theorem z113 : tsize Try.prog 113 = some 1 := by kernel_rfl
@[simp] theorem b113 : tbytes Try.prog 113 = some 24 := by kernel_rfl
@[simp] theorem a113 : tagg Try.prog 113 = some false := by kernel_rfl
@[simp] theorem t113 : tzero Try.prog 113 = some (.nils) := by kernel_rfl
@[simp] theorem z115 : tsize Try.prog 115 = some 3 := by kernel_rfl
@[simp] theorem b115 : tbytes Try.prog 115 = some 32 := by kernel_rfl
@[simp] theorem a115 : tagg Try.prog 115 = some true := by kernel_rfl
@[simp] theorem t115 : tzero Try.prog 115 = some (.agg [.bool false, .int .i64 0, .str []]) := by kernel_rfl
@[simp] theorem z117 : tsize Try.prog 117 = some 1 := by kernel_rfl
@[simp] theorem b117 : tbytes Try.prog 117 = some 8 := by kernel_rfl
@[simp] theorem a117 : tagg Try.prog 117 = some false := by kernel_rfl
@[simp] theorem t117 : tzero Try.prog 117 = some (.int .i64 0) := by kernel_rfl
@[simp] theorem z126 : tsize Try.prog 126 = some 1 := by kernel_rfl
@[simp] theorem b126 : tbytes Try.prog 126 = some 4 := by kernel_rfl
@[simp] theorem a126 : tagg Try.prog 126 = some false := by kernel_rfl
@[simp] theorem t126 : tzero Try.prog 126 = some (.int .u32 0) := by kernel_rfl
@[simp] theorem z128 : tsize Try.prog 128 = some 1 := by kernel_rfl
@[simp] theorem b128 : tbytes Try.prog 128 = some 8 := by kernel_rfl
@[simp] theorem a128 : tagg Try.prog 128 = some false := by kernel_rfl
@[simp] theorem t128 : tzero Try.prog 128 = some (.int .u64 0) := by kernel_rfl
@[simp] theorem z131 : tsize Try.prog 131 = some 1 := by kernel_rfl
@[simp] theorem b131 : tbytes Try.prog 131 = some 8 := by kernel_rfl
@[simp] theorem a131 : tagg Try.prog 131 = some false := by kernel_rfl
@[simp] theorem t131 : tzero Try.prog 131 = some (.int .u64 0) := by kernel_rfl
@[simp] theorem z135 : tsize Try.prog 135 = some 1 := by kernel_rfl
@[simp] theorem b135 : tbytes Try.prog 135 = some 8 := by kernel_rfl
@[simp] theorem a135 : tagg Try.prog 135 = some false := by kernel_rfl
@[simp] theorem t135 : tzero Try.prog 135 = some (.nilp) := by kernel_rfl
@[simp] theorem z137 : tsize Try.prog 137 = some 1 := by kernel_rfl
@[simp] theorem b137 : tbytes Try.prog 137 = some 8 := by kernel_rfl
@[simp] theorem a137 : tagg Try.prog 137 = some false := by kernel_rfl
@[simp] theorem t137 : tzero Try.prog 137 = some (.nilp) := by kernel_rfl
@[simp] theorem hb3 : hasBody Try.prog 3 = true := by kernel_rfl
@[simp] theorem hb4 : hasBody Try.prog 4 = true := by kernel_rfl
@[simp] theorem hb5 : hasBody Try.prog 5 = true := by kernel_rfl
@[simp] theorem hb6 : hasBody Try.prog 6 = true := by kernel_rfl
@[simp] theorem hb7 : hasBody Try.prog 7 = true := by kernel_rfl
@[simp] theorem hb8 : hasBody Try.prog 8 = true := by kernel_rfl
@[simp] theorem hb9 : hasBody Try.prog 9 = true := by kernel_rfl
@[simp] theorem hb10 : hasBody Try.prog 10 = true := by kernel_rfl
@[simp] theorem hb11 : hasBody Try.prog 11 = true := by kernel_rfl
@[simp] theorem hb12 : hasBody Try.prog 12 = true := by kernel_rfl
@[simp] theorem hb13 : hasBody Try.prog 13 = true := by kernel_rfl
@[simp] theorem hb14 : hasBody Try.prog 14 = true := by kernel_rfl
@[simp] theorem hb15 : hasBody Try.prog 15 = true := by kernel_rfl
@[simp] theorem hb16 : hasBody Try.prog 16 = true := by kernel_rfl
@[simp] theorem hb17 : hasBody Try.prog 17 = true := by kernel_rfl
@[simp] theorem hb18 : hasBody Try.prog 18 = true := by kernel_rfl
@[simp] theorem hb19 : hasBody Try.prog 19 = true := by kernel_rfl
@[simp] theorem hb20 : hasBody Try.prog 20 = true := by kernel_rfl
@[simp] theorem hb21 : hasBody Try.prog 21 = true := by kernel_rfl
@[simp] theorem hb22 : hasBody Try.prog 22 = true := by kernel_rfl
@[simp] theorem hb23 : hasBody Try.prog 23 = true := by kernel_rfl
@[simp] theorem hb24 : hasBody Try.prog 24 = true := by kernel_rfl
@[simp] theorem hb25 : hasBody Try.prog 25 = true := by kernel_rfl
@[simp] theorem hb26 : hasBody Try.prog 26 = true := by kernel_rfl
@[simp] theorem hb27 : hasBody Try.prog 27 = true := by kernel_rfl
@[simp] theorem hb28 : hasBody Try.prog 28 = true := by kernel_rfl
@[simp] theorem hb29 : hasBody Try.prog 29 = true := by kernel_rfl
@[simp] theorem hb30 : hasBody Try.prog 30 = true := by kernel_rfl
@[simp] theorem hb31 : hasBody Try.prog 31 = true := by kernel_rfl
@[simp] theorem hb32 : hasBody Try.prog 32 = true := by kernel_rfl
@[simp] theorem hb33 : hasBody Try.prog 33 = true := by kernel_rfl
@[simp] theorem hb34 : hasBody Try.prog 34 = true := by kernel_rfl
@[simp] theorem hb35 : hasBody Try.prog 35 = true := by kernel_rfl
@[simp] theorem hb36 : hasBody Try.prog 36 = true := by kernel_rfl
@[simp] theorem hb37 : hasBody Try.prog 37 = true := by kernel_rfl
@[simp] theorem hb38 : hasBody Try.prog 38 = true := by kernel_rfl
@[simp] theorem hb39 : hasBody Try.prog 39 = true := by kernel_rfl
@[simp] theorem hb40 : hasBody Try.prog 40 = true := by kernel_rfl
@[simp] theorem hb41 : hasBody Try.prog 41 = true := by kernel_rfl
@[simp] theorem hb42 : hasBody Try.prog 42 = true := by kernel_rfl
@[simp] theorem hb43 : hasBody Try.prog 43 = true := by kernel_rfl
@[simp] theorem hb44 : hasBody Try.prog 44 = true := by kernel_rfl
@[simp] theorem hb45 : hasBody Try.prog 45 = true := by kernel_rfl
@[simp] theorem hb46 : hasBody Try.prog 46 = true := by kernel_rfl
@[simp] theorem hb47 : hasBody Try.prog 47 = true := by kernel_rfl
@[simp] theorem hb48 : hasBody Try.prog 48 = true := by kernel_rfl
@[simp] theorem hb49 : hasBody Try.prog 49 = true := by kernel_rfl
@[simp] theorem hb50 : hasBody Try.prog 50 = true := by kernel_rfl
@[simp] theorem hb51 : hasBody Try.prog 51 = true := by kernel_rfl
@[simp] theorem hb52 : hasBody Try.prog 52 = true := by kernel_rfl
@[simp] theorem hb53 : hasBody Try.prog 53 = true := by kernel_rfl
@[simp] theorem hb54 : hasBody Try.prog 54 = true := by kernel_rfl
@[simp] theorem hb55 : hasBody Try.prog 55 = true := by kernel_rfl
@[simp] theorem hb56 : hasBody Try.prog 56 = true := by kernel_rfl
@[simp] theorem hb57 : hasBody Try.prog 57 = true := by kernel_rfl
@[simp] theorem hb58 : hasBody Try.prog 58 = true := by kernel_rfl
@[simp] theorem hb59 : hasBody Try.prog 59 = true := by kernel_rfl
@[simp] theorem hb60 : hasBody Try.prog 60 = true := by kernel_rfl
@[simp] theorem hb61 : hasBody Try.prog 61 = true := by kernel_rfl
@[simp] theorem hb63 : hasBody Try.prog 63 = true := by kernel_rfl
@[simp] theorem hb64 : hasBody Try.prog 64 = true := by kernel_rfl
@[simp] theorem hb65 : hasBody Try.prog 65 = true := by kernel_rfl
@[simp] theorem hb66 : hasBody Try.prog 66 = true := by kernel_rfl
@[simp] theorem hb67 : hasBody Try.prog 67 = true := by kernel_rfl
@[simp] theorem hb68 : hasBody Try.prog 68 = true := by kernel_rfl
@[simp] theorem hb69 : hasBody Try.prog 69 = true := by kernel_rfl
@[simp] theorem hb70 : hasBody Try.prog 70 = true := by kernel_rfl
@[simp] theorem hb71 : hasBody Try.prog 71 = true := by kernel_rfl
@[simp] theorem hb72 : hasBody Try.prog 72 = true := by kernel_rfl
@[simp] theorem hb73 : hasBody Try.prog 73 = true := by kernel_rfl
@[simp] theorem hb74 : hasBody Try.prog 74 = true := by kernel_rfl
@[simp] theorem hb75 : hasBody Try.prog 75 = true := by kernel_rfl
@[simp] theorem hb76 : hasBody Try.prog 76 = true := by kernel_rfl
@[simp] theorem hb77 : hasBody Try.prog 77 = true := by kernel_rfl
@[simp] theorem hb78 : hasBody Try.prog 78 = true := by kernel_rfl
@[simp] theorem hb79 : hasBody Try.prog 79 = true := by kernel_rfl
@[simp] theorem hb80 : hasBody Try.prog 80 = true := by kernel_rfl
@[simp] theorem hb81 : hasBody Try.prog 81 = true := by kernel_rfl
@[simp] theorem hb82 : hasBody Try.prog 82 = true := by kernel_rfl
@[simp] theorem hb83 : hasBody Try.prog 83 = true := by kernel_rfl
@[simp] theorem hb84 : hasBody Try.prog 84 = true := by kernel_rfl
@[simp] theorem hb85 : hasBody Try.prog 85 = true := by kernel_rfl
@[simp] theorem hb86 : hasBody Try.prog 86 = true := by kernel_rfl
@[simp] theorem hb87 : hasBody Try.prog 87 = true := by kernel_rfl
@[simp] theorem hb88 : hasBody Try.prog 88 = true := by kernel_rfl
@[simp] theorem hb89 : hasBody Try.prog 89 = true := by kernel_rfl
@[simp] theorem hb90 : hasBody Try.prog 90 = true := by kernel_rfl
@[simp] theorem hb91 : hasBody Try.prog 91 = true := by kernel_rfl
@[simp] theorem hb92 : hasBody Try.prog 92 = true := by kernel_rfl
@[simp] theorem hb93 : hasBody Try.prog 93 = true := by kernel_rfl
@[simp] theorem hb94 : hasBody Try.prog 94 = true := by kernel_rfl
@[simp] theorem hb95 : hasBody Try.prog 95 = true := by kernel_rfl
@[simp] theorem hb96 : hasBody Try.prog 96 = true := by kernel_rfl
@[simp] theorem hb97 : hasBody Try.prog 97 = true := by kernel_rfl
end Go.Vn

set_option maxRecDepth 20000
namespace Go.Vn
open Go.Proofs
attribute [simp] extractAV capAV fieldAV
@[simp] theorem len_nils {P : Program} {t e : TypeId} (hu : P.underlying t = some (.slice e)) : lenAV P t .nils = some (.int .i64 0) := by simp [lenAV, hu]
@[simp] theorem len_esl {P : Program} {t e : TypeId} {c : Nat} (hu : P.underlying t = some (.slice e)) : lenAV P t (.esl c) = some (.int .i64 0) := by simp [lenAV, hu]
@[simp] theorem len_str {P : Program} {t : TypeId} {s : List UInt8} (hu : P.underlying t = some .string) : lenAV P t (.str s) = some (.int .i64 s.length) := by simp [lenAV, hu]
end Go.Vn
