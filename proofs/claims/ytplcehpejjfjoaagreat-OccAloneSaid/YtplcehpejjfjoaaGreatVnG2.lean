/- What functions of the program come to, in the value machine (a part of the proof of the claim's statement). No condition. -/
import Derived.Test.YtplcehpejjfjoaaGreatVnG1
import Derived.Test.YtplcehpejjfjoaaGreatVnB5
import Derived.Test.YtplcehpejjfjoaaGreatProg
import Derived.KernelRfl
set_option linter.unusedSimpArgs false
set_option linter.unusedVariables false
set_option maxRecDepth 20000
namespace Go.Vn
open Go.Proofs
def TT:Tab:=fun f=>match f with
 | 80=>some (· == 117)
 | 70=>some (· == 49)
 | 66=>some (· == 49)
 | 65=>some (· == 9)
 | 84=>some (· == 188)
 | 186=>some (· == 188)
 | 21=>some (· == 112)
 | 182=>some (fun _=>false)
 | 57=>some (· == 9)
 | 42=>some (fun _=>false)
 | 37=>some (fun _=>false)
 | 90=>some (· == 5)
 | 3=>some (· == 93)
 | 4=>some (· == 93)
 | 5=>some (· == 93)
 | 6=>some (· == 93)
 | 7=>some (· == 93)
 | _=>none
attribute [simp] Tryz.underlying3 Tryz.underlying4 Tryz.underlying5 Tryz.underlying9 Tryz.underlying22 Tryz.underlying23 Tryz.underlying24 Tryz.underlying25 Tryz.underlying29 Tryz.underlying33 Tryz.underlying35 Tryz.underlying36 Tryz.underlying42 Tryz.underlying49 Tryz.underlying55 Tryz.underlying56 Tryz.underlying58 Tryz.underlying62 Tryz.underlying64 Tryz.underlying67 Tryz.underlying71 Tryz.underlying73 Tryz.underlying75 Tryz.underlying76 Tryz.underlying78 Tryz.underlying79 Tryz.underlying80 Tryz.underlying81 Tryz.underlying83 Tryz.underlying84 Tryz.underlying88 Tryz.underlying89 Tryz.underlying93 Tryz.underlying97 Tryz.underlying101 Tryz.underlying102 Tryz.underlying106 Tryz.underlying108 Tryz.underlying112 Tryz.underlying113 Tryz.underlying117 Tryz.underlying120 Tryz.underlying123 Tryz.underlying127 Tryz.underlying130 Tryz.underlying136 Tryz.underlying139 Tryz.underlying140 Tryz.underlying141 Tryz.underlying149 Tryz.underlying152 Tryz.underlying156 Tryz.underlying158 Tryz.underlying161 Tryz.underlying168 Tryz.underlying175 Tryz.underlying180 Tryz.underlying183 Tryz.underlying187 Tryz.underlying188 Tryz.underlying189 Tryz.underlying191 Tryz.underlying193 Tryz.underlying196 Tryz.underlying203 Tryz.underlying207 Tryz.underlying216 Tryz.underlying218 Tryz.underlying221 Tryz.underlying224 Tryz.underlying226 Tryz.underlying230 Tryz.underlying233 Tryz.underlying253 Tryz.underlying254 Tryz.underlying255 Tryz.underlying256 Tryz.underlying258 Tryz.underlying273 Tryz.underlying275
@[simp] theorem z3:tsize Tryz.prog 3=some 1:=by kernel_rfl
@[simp] theorem b3:tbytes Tryz.prog 3=some 8:=by kernel_rfl
@[simp] theorem a3:tagg Tryz.prog 3=some false:=by kernel_rfl
@[simp] theorem t3:tzero Tryz.prog 3=some (.int .i64 0):=by kernel_rfl
@[simp] theorem z4:tsize Tryz.prog 4=some 1:=by kernel_rfl
@[simp] theorem b4:tbytes Tryz.prog 4=some 1:=by kernel_rfl
@[simp] theorem a4:tagg Tryz.prog 4=some false:=by kernel_rfl
@[simp] theorem t4:tzero Tryz.prog 4=some (.bool false):=by kernel_rfl
@[simp] theorem z5:tsize Tryz.prog 5=some 1:=by kernel_rfl
@[simp] theorem b5:tbytes Tryz.prog 5=some 1:=by kernel_rfl
@[simp] theorem a5:tagg Tryz.prog 5=some false:=by kernel_rfl
@[simp] theorem t5:tzero Tryz.prog 5=some (.int .u8 0):=by kernel_rfl
@[simp] theorem z9:tsize Tryz.prog 9=some 1:=by kernel_rfl
@[simp] theorem b9:tbytes Tryz.prog 9=some 16:=by kernel_rfl
@[simp] theorem a9:tagg Tryz.prog 9=some false:=by kernel_rfl
@[simp] theorem t9:tzero Tryz.prog 9=some (.str []):=by kernel_rfl
@[simp] theorem z22:tsize Tryz.prog 22=some 1:=by kernel_rfl
@[simp] theorem b22:tbytes Tryz.prog 22=some 24:=by kernel_rfl
@[simp] theorem a22:tagg Tryz.prog 22=some false:=by kernel_rfl
@[simp] theorem t22:tzero Tryz.prog 22=some (.nils):=by kernel_rfl
@[simp] theorem z23:tsize Tryz.prog 23=some 1:=by kernel_rfl
@[simp] theorem b23:tbytes Tryz.prog 23=some 8:=by kernel_rfl
@[simp] theorem a23:tagg Tryz.prog 23=some false:=by kernel_rfl
@[simp] theorem t23:tzero Tryz.prog 23=some (.nilp):=by kernel_rfl
@[simp] theorem z24:tsize Tryz.prog 24=some 1:=by kernel_rfl
@[simp] theorem b24:tbytes Tryz.prog 24=some 8:=by kernel_rfl
@[simp] theorem a24:tagg Tryz.prog 24=some false:=by kernel_rfl
@[simp] theorem t24:tzero Tryz.prog 24=some (.nilp):=by kernel_rfl
@[simp] theorem z25:tsize Tryz.prog 25=some 1:=by kernel_rfl
@[simp] theorem b25:tbytes Tryz.prog 25=some 8:=by kernel_rfl
@[simp] theorem a25:tagg Tryz.prog 25=some false:=by kernel_rfl
@[simp] theorem t25:tzero Tryz.prog 25=some (.nilp):=by kernel_rfl
@[simp] theorem z29:tsize Tryz.prog 29=some 3:=by kernel_rfl
@[simp] theorem b29:tbytes Tryz.prog 29=some 24:=by kernel_rfl
@[simp] theorem a29:tagg Tryz.prog 29=some true:=by kernel_rfl
@[simp] theorem t29:tzero Tryz.prog 29=some (.agg [.int .i64 0,.int .i64 0,.int .i64 0]):=by kernel_rfl
@[simp] theorem z33:tsize Tryz.prog 33=some 2:=by kernel_rfl
@[simp] theorem b33:tbytes Tryz.prog 33=some 16:=by kernel_rfl
@[simp] theorem a33:tagg Tryz.prog 33=some true:=by kernel_rfl
@[simp] theorem t33:tzero Tryz.prog 33=some (.agg [.int .i64 0,.int .i64 0]):=by kernel_rfl
@[simp] theorem z35:tsize Tryz.prog 35=some 8:=by kernel_rfl
@[simp] theorem b35:tbytes Tryz.prog 35=some 88:=by kernel_rfl
@[simp] theorem a35:tagg Tryz.prog 35=some true:=by kernel_rfl
@[simp] theorem t35:tzero Tryz.prog 35=some (.agg [.int .i64 0,.int .i64 0,.int .i64 0,.str [],.str [],.int .i64 0,.int .i64 0,.str []]):=by kernel_rfl
@[simp] theorem z36:tsize Tryz.prog 36=some 1:=by kernel_rfl
@[simp] theorem b36:tbytes Tryz.prog 36=some 8:=by kernel_rfl
@[simp] theorem a36:tagg Tryz.prog 36=some false:=by kernel_rfl
@[simp] theorem t36:tzero Tryz.prog 36=some (.int .i64 0):=by kernel_rfl
@[simp] theorem z42:tsize Tryz.prog 42=some 1:=by kernel_rfl
@[simp] theorem b42:tbytes Tryz.prog 42=some 24:=by kernel_rfl
@[simp] theorem a42:tagg Tryz.prog 42=some false:=by kernel_rfl
@[simp] theorem t42:tzero Tryz.prog 42=some (.nils):=by kernel_rfl
@[simp] theorem z49:tsize Tryz.prog 49=some 3:=by kernel_rfl
@[simp] theorem b49:tbytes Tryz.prog 49=some 32:=by kernel_rfl
@[simp] theorem a49:tagg Tryz.prog 49=some true:=by kernel_rfl
@[simp] theorem t49:tzero Tryz.prog 49=some (.agg [.int .i64 0,.int .i64 0,.str []]):=by kernel_rfl
@[simp] theorem z55:tsize Tryz.prog 55=some 1:=by kernel_rfl
@[simp] theorem b55:tbytes Tryz.prog 55=some 8:=by kernel_rfl
@[simp] theorem a55:tagg Tryz.prog 55=some false:=by kernel_rfl
@[simp] theorem t55:tzero Tryz.prog 55=some (.nilp):=by kernel_rfl
@[simp] theorem z56:tsize Tryz.prog 56=some 1:=by kernel_rfl
@[simp] theorem b56:tbytes Tryz.prog 56=some 24:=by kernel_rfl
@[simp] theorem a56:tagg Tryz.prog 56=some false:=by kernel_rfl
@[simp] theorem t56:tzero Tryz.prog 56=some (.nils):=by kernel_rfl
@[simp] theorem z58:tsize Tryz.prog 58=some 1:=by kernel_rfl
@[simp] theorem b58:tbytes Tryz.prog 58=some 24:=by kernel_rfl
@[simp] theorem a58:tagg Tryz.prog 58=some true:=by kernel_rfl
@[simp] theorem t58:tzero Tryz.prog 58=some (.agg [.nils]):=by kernel_rfl
@[simp] theorem z62:tsize Tryz.prog 62=some 1:=by kernel_rfl
@[simp] theorem b62:tbytes Tryz.prog 62=some 24:=by kernel_rfl
@[simp] theorem a62:tagg Tryz.prog 62=some false:=by kernel_rfl
@[simp] theorem t62:tzero Tryz.prog 62=some (.nils):=by kernel_rfl
@[simp] theorem z64:tsize Tryz.prog 64=some 1:=by kernel_rfl
@[simp] theorem b64:tbytes Tryz.prog 64=some 24:=by kernel_rfl
@[simp] theorem a64:tagg Tryz.prog 64=some false:=by kernel_rfl
@[simp] theorem t64:tzero Tryz.prog 64=some (.nils):=by kernel_rfl
@[simp] theorem z67:tsize Tryz.prog 67=some 1:=by kernel_rfl
@[simp] theorem b67:tbytes Tryz.prog 67=some 24:=by kernel_rfl
@[simp] theorem a67:tagg Tryz.prog 67=some false:=by kernel_rfl
@[simp] theorem t67:tzero Tryz.prog 67=some (.nils):=by kernel_rfl
@[simp] theorem z71:tsize Tryz.prog 71=some 1:=by kernel_rfl
@[simp] theorem b71:tbytes Tryz.prog 71=some 24:=by kernel_rfl
@[simp] theorem a71:tagg Tryz.prog 71=some false:=by kernel_rfl
@[simp] theorem t71:tzero Tryz.prog 71=some (.nils):=by kernel_rfl
@[simp] theorem z73:tsize Tryz.prog 73=some 5:=by kernel_rfl
@[simp] theorem b73:tbytes Tryz.prog 73=some 88:=by kernel_rfl
@[simp] theorem a73:tagg Tryz.prog 73=some true:=by kernel_rfl
@[simp] theorem t73:tzero Tryz.prog 73=some (.agg [.nils,.nils,.int .i64 0,.int .i64 0,.nils]):=by kernel_rfl
@[simp] theorem z75:tsize Tryz.prog 75=some 1:=by kernel_rfl
@[simp] theorem b75:tbytes Tryz.prog 75=some 16:=by kernel_rfl
@[simp] theorem a75:tagg Tryz.prog 75=some false:=by kernel_rfl
@[simp] theorem t75:tzero Tryz.prog 75=some (.nili):=by kernel_rfl
@[simp] theorem z76:tsize Tryz.prog 76=some 1:=by kernel_rfl
@[simp] theorem b76:tbytes Tryz.prog 76=some 24:=by kernel_rfl
@[simp] theorem a76:tagg Tryz.prog 76=some false:=by kernel_rfl
@[simp] theorem t76:tzero Tryz.prog 76=some (.nils):=by kernel_rfl
@[simp] theorem z78:tsize Tryz.prog 78=some 4:=by kernel_rfl
@[simp] theorem b78:tbytes Tryz.prog 78=some 56:=by kernel_rfl
@[simp] theorem a78:tagg Tryz.prog 78=some true:=by kernel_rfl
@[simp] theorem t78:tzero Tryz.prog 78=some (.agg [.nili,.int .i64 0,.int .i64 0,.nils]):=by kernel_rfl
@[simp] theorem z79:tsize Tryz.prog 79=some 1:=by kernel_rfl
@[simp] theorem b79:tbytes Tryz.prog 79=some 8:=by kernel_rfl
@[simp] theorem a79:tagg Tryz.prog 79=some false:=by kernel_rfl
@[simp] theorem t79:tzero Tryz.prog 79=some (.nilm):=by kernel_rfl
@[simp] theorem z80:tsize Tryz.prog 80=some 1:=by kernel_rfl
@[simp] theorem b80:tbytes Tryz.prog 80=some 24:=by kernel_rfl
@[simp] theorem a80:tagg Tryz.prog 80=some false:=by kernel_rfl
@[simp] theorem t80:tzero Tryz.prog 80=some (.nils):=by kernel_rfl
@[simp] theorem z81:tsize Tryz.prog 81=some 1:=by kernel_rfl
@[simp] theorem b81:tbytes Tryz.prog 81=some 24:=by kernel_rfl
@[simp] theorem a81:tagg Tryz.prog 81=some false:=by kernel_rfl
@[simp] theorem t81:tzero Tryz.prog 81=some (.nils):=by kernel_rfl
@[simp] theorem z83:tsize Tryz.prog 83=some 9:=by kernel_rfl
@[simp] theorem b83:tbytes Tryz.prog 83=some 104:=by kernel_rfl
@[simp] theorem a83:tagg Tryz.prog 83=some true:=by kernel_rfl
@[simp] theorem t83:tzero Tryz.prog 83=some (.agg [.int .i64 0,.int .i64 0,.int .i64 0,.int .i64 0,.int .i64 0,.int .i64 0,.nilm,.nils,.nils]):=by kernel_rfl
@[simp] theorem z84:tsize Tryz.prog 84=some 1:=by kernel_rfl
@[simp] theorem b84:tbytes Tryz.prog 84=some 8:=by kernel_rfl
@[simp] theorem a84:tagg Tryz.prog 84=some false:=by kernel_rfl
@[simp] theorem t84:tzero Tryz.prog 84=some (.nilp):=by kernel_rfl
@[simp] theorem z88:tsize Tryz.prog 88=some 1:=by kernel_rfl
@[simp] theorem b88:tbytes Tryz.prog 88=some 8:=by kernel_rfl
@[simp] theorem a88:tagg Tryz.prog 88=some false:=by kernel_rfl
@[simp] theorem t88:tzero Tryz.prog 88=some (.nilf):=by kernel_rfl
@[simp] theorem z89:tsize Tryz.prog 89=some 1:=by kernel_rfl
@[simp] theorem b89:tbytes Tryz.prog 89=some 8:=by kernel_rfl
@[simp] theorem a89:tagg Tryz.prog 89=some false:=by kernel_rfl
@[simp] theorem t89:tzero Tryz.prog 89=some (.nilf):=by kernel_rfl
@[simp] theorem z93:tsize Tryz.prog 93=some 4:=by kernel_rfl
@[simp] theorem b93:tbytes Tryz.prog 93=some 32:=by kernel_rfl
@[simp] theorem a93:tagg Tryz.prog 93=some true:=by kernel_rfl
@[simp] theorem t93:tzero Tryz.prog 93=some (.agg [.int .i64 0,.int .i64 0,.int .i64 0,.bool false]):=by kernel_rfl
@[simp] theorem z97:tsize Tryz.prog 97=some 1:=by kernel_rfl
@[simp] theorem b97:tbytes Tryz.prog 97=some 24:=by kernel_rfl
@[simp] theorem a97:tagg Tryz.prog 97=some false:=by kernel_rfl
@[simp] theorem t97:tzero Tryz.prog 97=some (.nils):=by kernel_rfl
@[simp] theorem z101:tsize Tryz.prog 101=some 4:=by kernel_rfl
@[simp] theorem b101:tbytes Tryz.prog 101=some 40:=by kernel_rfl
@[simp] theorem a101:tagg Tryz.prog 101=some true:=by kernel_rfl
@[simp] theorem t101:tzero Tryz.prog 101=some (.agg [.str [],.int .i64 0,.int .i64 0,.int .i64 0]):=by kernel_rfl
@[simp] theorem z102:tsize Tryz.prog 102=some 1:=by kernel_rfl
@[simp] theorem b102:tbytes Tryz.prog 102=some 8:=by kernel_rfl
@[simp] theorem a102:tagg Tryz.prog 102=some false:=by kernel_rfl
@[simp] theorem t102:tzero Tryz.prog 102=some (.nilf):=by kernel_rfl
@[simp] theorem z106:tsize Tryz.prog 106=some 1:=by kernel_rfl
@[simp] theorem b106:tbytes Tryz.prog 106=some 24:=by kernel_rfl
@[simp] theorem a106:tagg Tryz.prog 106=some false:=by kernel_rfl
@[simp] theorem t106:tzero Tryz.prog 106=some (.nils):=by kernel_rfl
@[simp] theorem z108:tsize Tryz.prog 108=some 11:=by kernel_rfl
@[simp] theorem b108:tbytes Tryz.prog 108=some 136:=by kernel_rfl
@[simp] theorem a108:tagg Tryz.prog 108=some true:=by kernel_rfl
@[simp] theorem t108:tzero Tryz.prog 108=some (.agg [.int .i64 0,.int .i64 0,.int .i64 0,.str [],.str [],.int .i64 0,.int .i64 0,.str [],.str [],.bool false,.nils]):=by kernel_rfl
@[simp] theorem z112:tsize Tryz.prog 112=some 1:=by kernel_rfl
@[simp] theorem b112:tbytes Tryz.prog 112=some 24:=by kernel_rfl
@[simp] theorem a112:tagg Tryz.prog 112=some false:=by kernel_rfl
@[simp] theorem t112:tzero Tryz.prog 112=some (.nils):=by kernel_rfl
@[simp] theorem z113:tsize Tryz.prog 113=some 1:=by kernel_rfl
@[simp] theorem b113:tbytes Tryz.prog 113=some 24:=by kernel_rfl
@[simp] theorem a113:tagg Tryz.prog 113=some false:=by kernel_rfl
@[simp] theorem t113:tzero Tryz.prog 113=some (.nils):=by kernel_rfl
@[simp] theorem z117:tsize Tryz.prog 117=some 8:=by kernel_rfl
@[simp] theorem b117:tbytes Tryz.prog 117=some 80:=by kernel_rfl
@[simp] theorem a117:tagg Tryz.prog 117=some true:=by kernel_rfl
@[simp] theorem t117:tzero Tryz.prog 117=some (.agg [.str [],.int .i64 0,.int .i64 0,.int .i64 0,.int .i64 0,.int .i64 0,.str [],.bool false]):=by kernel_rfl
@[simp] theorem z120:tsize Tryz.prog 120=some 1:=by kernel_rfl
@[simp] theorem b120:tbytes Tryz.prog 120=some 8:=by kernel_rfl
@[simp] theorem a120:tagg Tryz.prog 120=some false:=by kernel_rfl
@[simp] theorem t120:tzero Tryz.prog 120=some (.nilp):=by kernel_rfl
@[simp] theorem z123:tsize Tryz.prog 123=some 2:=by kernel_rfl
@[simp] theorem b123:tbytes Tryz.prog 123=some 32:=by kernel_rfl
@[simp] theorem a123:tagg Tryz.prog 123=some true:=by kernel_rfl
@[simp] theorem t123:tzero Tryz.prog 123=some (.agg [.nilp,.nils]):=by kernel_rfl
@[simp] theorem z127:tsize Tryz.prog 127=some 1:=by kernel_rfl
@[simp] theorem b127:tbytes Tryz.prog 127=some 8:=by kernel_rfl
@[simp] theorem a127:tagg Tryz.prog 127=some false:=by kernel_rfl
@[simp] theorem t127:tzero Tryz.prog 127=some (.nilf):=by kernel_rfl
@[simp] theorem z130:tsize Tryz.prog 130=some 3:=by kernel_rfl
@[simp] theorem b130:tbytes Tryz.prog 130=some 56:=by kernel_rfl
@[simp] theorem a130:tagg Tryz.prog 130=some true:=by kernel_rfl
@[simp] theorem t130:tzero Tryz.prog 130=some (.agg [.str [],.str [],.nils]):=by kernel_rfl
@[simp] theorem z136:tsize Tryz.prog 136=some 1:=by kernel_rfl
@[simp] theorem b136:tbytes Tryz.prog 136=some 24:=by kernel_rfl
@[simp] theorem a136:tagg Tryz.prog 136=some false:=by kernel_rfl
@[simp] theorem t136:tzero Tryz.prog 136=some (.nils):=by kernel_rfl
@[simp] theorem z139:tsize Tryz.prog 139=some 3:=by kernel_rfl
@[simp] theorem b139:tbytes Tryz.prog 139=some 32:=by kernel_rfl
@[simp] theorem a139:tagg Tryz.prog 139=some true:=by kernel_rfl
@[simp] theorem t139:tzero Tryz.prog 139=some (.agg [.bool false,.int .i64 0,.str []]):=by kernel_rfl
@[simp] theorem z140:tsize Tryz.prog 140=some 1:=by kernel_rfl
@[simp] theorem b140:tbytes Tryz.prog 140=some 24:=by kernel_rfl
@[simp] theorem a140:tagg Tryz.prog 140=some false:=by kernel_rfl
@[simp] theorem t140:tzero Tryz.prog 140=some (.nils):=by kernel_rfl
@[simp] theorem z141:tsize Tryz.prog 141=some 1:=by kernel_rfl
@[simp] theorem b141:tbytes Tryz.prog 141=some 24:=by kernel_rfl
@[simp] theorem a141:tagg Tryz.prog 141=some false:=by kernel_rfl
@[simp] theorem t141:tzero Tryz.prog 141=some (.nils):=by kernel_rfl
@[simp] theorem z149:tsize Tryz.prog 149=some 1:=by kernel_rfl
@[simp] theorem b149:tbytes Tryz.prog 149=some 8:=by kernel_rfl
@[simp] theorem a149:tagg Tryz.prog 149=some false:=by kernel_rfl
@[simp] theorem t149:tzero Tryz.prog 149=some (.nilm):=by kernel_rfl
@[simp] theorem z152:tsize Tryz.prog 152=some 2:=by kernel_rfl
@[simp] theorem b152:tbytes Tryz.prog 152=some 32:=by kernel_rfl
@[simp] theorem a152:tagg Tryz.prog 152=some true:=by kernel_rfl
@[simp] theorem t152:tzero Tryz.prog 152=some (.agg [.str [],.str []]):=by kernel_rfl
@[simp] theorem z156:tsize Tryz.prog 156=some 1:=by kernel_rfl
@[simp] theorem b156:tbytes Tryz.prog 156=some 24:=by kernel_rfl
@[simp] theorem a156:tagg Tryz.prog 156=some false:=by kernel_rfl
@[simp] theorem t156:tzero Tryz.prog 156=some (.nils):=by kernel_rfl
@[simp] theorem z158:tsize Tryz.prog 158=some 1:=by kernel_rfl
@[simp] theorem b158:tbytes Tryz.prog 158=some 8:=by kernel_rfl
@[simp] theorem a158:tagg Tryz.prog 158=some false:=by kernel_rfl
@[simp] theorem t158:tzero Tryz.prog 158=some (.nilp):=by kernel_rfl
@[simp] theorem z161:tsize Tryz.prog 161=some 2:=by kernel_rfl
@[simp] theorem b161:tbytes Tryz.prog 161=some 16:=by kernel_rfl
@[simp] theorem a161:tagg Tryz.prog 161=some true:=by kernel_rfl
@[simp] theorem t161:tzero Tryz.prog 161=some (.agg [.nilp,.int .i64 0]):=by kernel_rfl
@[simp] theorem z168:tsize Tryz.prog 168=some 1:=by kernel_rfl
@[simp] theorem b168:tbytes Tryz.prog 168=some 8:=by kernel_rfl
@[simp] theorem a168:tagg Tryz.prog 168=some false:=by kernel_rfl
@[simp] theorem t168:tzero Tryz.prog 168=some (.nilf):=by kernel_rfl
@[simp] theorem z175:tsize Tryz.prog 175=some 1:=by kernel_rfl
@[simp] theorem b175:tbytes Tryz.prog 175=some 8:=by kernel_rfl
@[simp] theorem a175:tagg Tryz.prog 175=some false:=by kernel_rfl
@[simp] theorem t175:tzero Tryz.prog 175=some (.nilf):=by kernel_rfl
@[simp] theorem z180:tsize Tryz.prog 180=some 1:=by kernel_rfl
@[simp] theorem b180:tbytes Tryz.prog 180=some 8:=by kernel_rfl
@[simp] theorem a180:tagg Tryz.prog 180=some false:=by kernel_rfl
@[simp] theorem t180:tzero Tryz.prog 180=some (.nilf):=by kernel_rfl
@[simp] theorem z183:tsize Tryz.prog 183=some 1:=by kernel_rfl
@[simp] theorem b183:tbytes Tryz.prog 183=some 8:=by kernel_rfl
@[simp] theorem a183:tagg Tryz.prog 183=some false:=by kernel_rfl
@[simp] theorem t183:tzero Tryz.prog 183=some (.nilf):=by kernel_rfl
@[simp] theorem z187:tsize Tryz.prog 187=some 2:=by kernel_rfl
@[simp] theorem b187:tbytes Tryz.prog 187=some 16:=by kernel_rfl
@[simp] theorem a187:tagg Tryz.prog 187=some true:=by kernel_rfl
@[simp] theorem t187:tzero Tryz.prog 187=some (.agg [.int .i64 0,.int .i64 0]):=by kernel_rfl
@[simp] theorem z188:tsize Tryz.prog 188=some 1:=by kernel_rfl
@[simp] theorem b188:tbytes Tryz.prog 188=some 8:=by kernel_rfl
@[simp] theorem a188:tagg Tryz.prog 188=some false:=by kernel_rfl
@[simp] theorem t188:tzero Tryz.prog 188=some (.nilp):=by kernel_rfl
@[simp] theorem z189:tsize Tryz.prog 189=some 1:=by kernel_rfl
@[simp] theorem b189:tbytes Tryz.prog 189=some 24:=by kernel_rfl
@[simp] theorem a189:tagg Tryz.prog 189=some false:=by kernel_rfl
@[simp] theorem t189:tzero Tryz.prog 189=some (.nils):=by kernel_rfl
@[simp] theorem z191:tsize Tryz.prog 191=some 3:=by kernel_rfl
@[simp] theorem b191:tbytes Tryz.prog 191=some 64:=by kernel_rfl
@[simp] theorem a191:tagg Tryz.prog 191=some true:=by kernel_rfl
@[simp] theorem t191:tzero Tryz.prog 191=some (.agg [.str [],.nils,.nils]):=by kernel_rfl
@[simp] theorem z193:tsize Tryz.prog 193=some 2:=by kernel_rfl
@[simp] theorem b193:tbytes Tryz.prog 193=some 16:=by kernel_rfl
@[simp] theorem a193:tagg Tryz.prog 193=some true:=by kernel_rfl
@[simp] theorem t193:tzero Tryz.prog 193=some (.agg [.nilp,.int .i64 0]):=by kernel_rfl
@[simp] theorem z196:tsize Tryz.prog 196=some 1:=by kernel_rfl
@[simp] theorem b196:tbytes Tryz.prog 196=some 8:=by kernel_rfl
@[simp] theorem a196:tagg Tryz.prog 196=some false:=by kernel_rfl
@[simp] theorem t196:tzero Tryz.prog 196=some (.int .u64 0):=by kernel_rfl
@[simp] theorem z203:tsize Tryz.prog 203=some 1:=by kernel_rfl
@[simp] theorem b203:tbytes Tryz.prog 203=some 8:=by kernel_rfl
@[simp] theorem a203:tagg Tryz.prog 203=some false:=by kernel_rfl
@[simp] theorem t203:tzero Tryz.prog 203=some (.nilf):=by kernel_rfl
@[simp] theorem z207:tsize Tryz.prog 207=some 1:=by kernel_rfl
@[simp] theorem b207:tbytes Tryz.prog 207=some 8:=by kernel_rfl
@[simp] theorem a207:tagg Tryz.prog 207=some false:=by kernel_rfl
@[simp] theorem t207:tzero Tryz.prog 207=some (.int .i64 0):=by kernel_rfl
@[simp] theorem z216:tsize Tryz.prog 216=some 1:=by kernel_rfl
@[simp] theorem b216:tbytes Tryz.prog 216=some 4:=by kernel_rfl
@[simp] theorem a216:tagg Tryz.prog 216=some false:=by kernel_rfl
@[simp] theorem t216:tzero Tryz.prog 216=some (.int .u32 0):=by kernel_rfl
@[simp] theorem z218:tsize Tryz.prog 218=some 1:=by kernel_rfl
@[simp] theorem b218:tbytes Tryz.prog 218=some 8:=by kernel_rfl
@[simp] theorem a218:tagg Tryz.prog 218=some false:=by kernel_rfl
@[simp] theorem t218:tzero Tryz.prog 218=some (.int .u64 0):=by kernel_rfl
@[simp] theorem z221:tsize Tryz.prog 221=some 4:=by kernel_rfl
@[simp] theorem b221:tbytes Tryz.prog 221=some 32:=by kernel_rfl
@[simp] theorem a221:tagg Tryz.prog 221=some true:=by kernel_rfl
@[simp] theorem t221:tzero Tryz.prog 221=some (.agg [.int .i64 0,.int .i64 0,.int .i64 0,.int .i64 0]):=by kernel_rfl
@[simp] theorem z224:tsize Tryz.prog 224=some 8:=by kernel_rfl
@[simp] theorem b224:tbytes Tryz.prog 224=some 64:=by kernel_rfl
@[simp] theorem a224:tagg Tryz.prog 224=some true:=by kernel_rfl
@[simp] theorem t224:tzero Tryz.prog 224=some (.agg [.nilp,.nilp,.nilp,.nilp,.nilp,.nilp,.nilp,.nilp]):=by kernel_rfl
@[simp] theorem z226:tsize Tryz.prog 226=some 1:=by kernel_rfl
@[simp] theorem b226:tbytes Tryz.prog 226=some 8:=by kernel_rfl
@[simp] theorem a226:tagg Tryz.prog 226=some false:=by kernel_rfl
@[simp] theorem t226:tzero Tryz.prog 226=some (.int .u64 0):=by kernel_rfl
@[simp] theorem z230:tsize Tryz.prog 230=some 1:=by kernel_rfl
@[simp] theorem b230:tbytes Tryz.prog 230=some 8:=by kernel_rfl
@[simp] theorem a230:tagg Tryz.prog 230=some false:=by kernel_rfl
@[simp] theorem t230:tzero Tryz.prog 230=some (.nilp):=by kernel_rfl
@[simp] theorem z233:tsize Tryz.prog 233=some 1:=by kernel_rfl
@[simp] theorem b233:tbytes Tryz.prog 233=some 8:=by kernel_rfl
@[simp] theorem a233:tagg Tryz.prog 233=some false:=by kernel_rfl
@[simp] theorem t233:tzero Tryz.prog 233=some (.nilp):=by kernel_rfl
@[simp] theorem z253:tsize Tryz.prog 253=some 5:=by kernel_rfl
@[simp] theorem b253:tbytes Tryz.prog 253=some 56:=by kernel_rfl
@[simp] theorem a253:tagg Tryz.prog 253=some true:=by kernel_rfl
@[simp] theorem t253:tzero Tryz.prog 253=some (.agg [.str [],.int .i64 0,.int .i64 0,.str [],.bool false]):=by kernel_rfl
@[simp] theorem z254:tsize Tryz.prog 254=some 1:=by kernel_rfl
@[simp] theorem b254:tbytes Tryz.prog 254=some 24:=by kernel_rfl
@[simp] theorem a254:tagg Tryz.prog 254=some false:=by kernel_rfl
@[simp] theorem t254:tzero Tryz.prog 254=some (.nils):=by kernel_rfl
@[simp] theorem z255:tsize Tryz.prog 255=some 1:=by kernel_rfl
@[simp] theorem b255:tbytes Tryz.prog 255=some 24:=by kernel_rfl
@[simp] theorem a255:tagg Tryz.prog 255=some false:=by kernel_rfl
@[simp] theorem t255:tzero Tryz.prog 255=some (.nils):=by kernel_rfl
@[simp] theorem z256:tsize Tryz.prog 256=some 1:=by kernel_rfl
@[simp] theorem b256:tbytes Tryz.prog 256=some 24:=by kernel_rfl
@[simp] theorem a256:tagg Tryz.prog 256=some false:=by kernel_rfl
@[simp] theorem t256:tzero Tryz.prog 256=some (.nils):=by kernel_rfl
@[simp] theorem z258:tsize Tryz.prog 258=some 9:=by kernel_rfl
@[simp] theorem b258:tbytes Tryz.prog 258=some 120:=by kernel_rfl
@[simp] theorem a258:tagg Tryz.prog 258=some true:=by kernel_rfl
@[simp] theorem t258:tzero Tryz.prog 258=some (.agg [.int .i64 0,.int .i64 0,.int .i64 0,.int .i64 0,.int .i64 0,.int .i64 0,.nils,.nils,.nils]):=by kernel_rfl
@[simp] theorem z273:tsize Tryz.prog 273=some 4:=by kernel_rfl
@[simp] theorem b273:tbytes Tryz.prog 273=some 40:=by kernel_rfl
@[simp] theorem a273:tagg Tryz.prog 273=some true:=by kernel_rfl
@[simp] theorem t273:tzero Tryz.prog 273=some (.agg [.str [],.int .i64 0,.int .i64 0,.int .i64 0]):=by kernel_rfl
@[simp] theorem z275:tsize Tryz.prog 275=some 3:=by kernel_rfl
@[simp] theorem b275:tbytes Tryz.prog 275=some 56:=by kernel_rfl
@[simp] theorem a275:tagg Tryz.prog 275=some true:=by kernel_rfl
@[simp] theorem t275:tzero Tryz.prog 275=some (.agg [.str [],.str [],.nils]):=by kernel_rfl
@[simp] theorem hb3:hasBody Tryz.prog 3=true:=by kernel_rfl
@[simp] theorem hb4:hasBody Tryz.prog 4=true:=by kernel_rfl
@[simp] theorem hb5:hasBody Tryz.prog 5=true:=by kernel_rfl
@[simp] theorem hb6:hasBody Tryz.prog 6=true:=by kernel_rfl
@[simp] theorem hb7:hasBody Tryz.prog 7=true:=by kernel_rfl
@[simp] theorem hb8:hasBody Tryz.prog 8=true:=by kernel_rfl
@[simp] theorem hb9:hasBody Tryz.prog 9=true:=by kernel_rfl
@[simp] theorem hb10:hasBody Tryz.prog 10=true:=by kernel_rfl
@[simp] theorem hb11:hasBody Tryz.prog 11=true:=by kernel_rfl
@[simp] theorem hb12:hasBody Tryz.prog 12=true:=by kernel_rfl
@[simp] theorem hb13:hasBody Tryz.prog 13=true:=by kernel_rfl
@[simp] theorem hb14:hasBody Tryz.prog 14=true:=by kernel_rfl
@[simp] theorem hb15:hasBody Tryz.prog 15=true:=by kernel_rfl
@[simp] theorem hb16:hasBody Tryz.prog 16=true:=by kernel_rfl
@[simp] theorem hb17:hasBody Tryz.prog 17=true:=by kernel_rfl
@[simp] theorem hb18:hasBody Tryz.prog 18=true:=by kernel_rfl
@[simp] theorem hb19:hasBody Tryz.prog 19=true:=by kernel_rfl
@[simp] theorem hb20:hasBody Tryz.prog 20=true:=by kernel_rfl
@[simp] theorem hb21:hasBody Tryz.prog 21=true:=by kernel_rfl
@[simp] theorem hb22:hasBody Tryz.prog 22=true:=by kernel_rfl
@[simp] theorem hb23:hasBody Tryz.prog 23=true:=by kernel_rfl
@[simp] theorem hb24:hasBody Tryz.prog 24=true:=by kernel_rfl
@[simp] theorem hb25:hasBody Tryz.prog 25=true:=by kernel_rfl
@[simp] theorem hb26:hasBody Tryz.prog 26=true:=by kernel_rfl
@[simp] theorem hb27:hasBody Tryz.prog 27=true:=by kernel_rfl
@[simp] theorem hb28:hasBody Tryz.prog 28=true:=by kernel_rfl
@[simp] theorem hb29:hasBody Tryz.prog 29=true:=by kernel_rfl
@[simp] theorem hb30:hasBody Tryz.prog 30=true:=by kernel_rfl
@[simp] theorem hb31:hasBody Tryz.prog 31=true:=by kernel_rfl
@[simp] theorem hb32:hasBody Tryz.prog 32=true:=by kernel_rfl
@[simp] theorem hb33:hasBody Tryz.prog 33=true:=by kernel_rfl
@[simp] theorem hb34:hasBody Tryz.prog 34=true:=by kernel_rfl
@[simp] theorem hb35:hasBody Tryz.prog 35=true:=by kernel_rfl
@[simp] theorem hb36:hasBody Tryz.prog 36=true:=by kernel_rfl
@[simp] theorem hb37:hasBody Tryz.prog 37=true:=by kernel_rfl
@[simp] theorem hb38:hasBody Tryz.prog 38=true:=by kernel_rfl
@[simp] theorem hb39:hasBody Tryz.prog 39=true:=by kernel_rfl
@[simp] theorem hb40:hasBody Tryz.prog 40=true:=by kernel_rfl
@[simp] theorem hb41:hasBody Tryz.prog 41=true:=by kernel_rfl
@[simp] theorem hb42:hasBody Tryz.prog 42=true:=by kernel_rfl
@[simp] theorem hb43:hasBody Tryz.prog 43=true:=by kernel_rfl
@[simp] theorem hb44:hasBody Tryz.prog 44=true:=by kernel_rfl
@[simp] theorem hb45:hasBody Tryz.prog 45=true:=by kernel_rfl
@[simp] theorem hb46:hasBody Tryz.prog 46=true:=by kernel_rfl
@[simp] theorem hb47:hasBody Tryz.prog 47=true:=by kernel_rfl
@[simp] theorem hb48:hasBody Tryz.prog 48=true:=by kernel_rfl
@[simp] theorem hb49:hasBody Tryz.prog 49=true:=by kernel_rfl
@[simp] theorem hb50:hasBody Tryz.prog 50=true:=by kernel_rfl
@[simp] theorem hb51:hasBody Tryz.prog 51=true:=by kernel_rfl
@[simp] theorem hb52:hasBody Tryz.prog 52=true:=by kernel_rfl
@[simp] theorem hb53:hasBody Tryz.prog 53=true:=by kernel_rfl
@[simp] theorem hb54:hasBody Tryz.prog 54=true:=by kernel_rfl
@[simp] theorem hb55:hasBody Tryz.prog 55=true:=by kernel_rfl
@[simp] theorem hb56:hasBody Tryz.prog 56=true:=by kernel_rfl
@[simp] theorem hb57:hasBody Tryz.prog 57=true:=by kernel_rfl
@[simp] theorem hb58:hasBody Tryz.prog 58=true:=by kernel_rfl
@[simp] theorem hb59:hasBody Tryz.prog 59=true:=by kernel_rfl
@[simp] theorem hb60:hasBody Tryz.prog 60=true:=by kernel_rfl
@[simp] theorem hb61:hasBody Tryz.prog 61=true:=by kernel_rfl
@[simp] theorem hb62:hasBody Tryz.prog 62=true:=by kernel_rfl
@[simp] theorem hb63:hasBody Tryz.prog 63=true:=by kernel_rfl
@[simp] theorem hb64:hasBody Tryz.prog 64=true:=by kernel_rfl
@[simp] theorem hb65:hasBody Tryz.prog 65=true:=by kernel_rfl
@[simp] theorem hb66:hasBody Tryz.prog 66=true:=by kernel_rfl
@[simp] theorem hb67:hasBody Tryz.prog 67=true:=by kernel_rfl
@[simp] theorem hb68:hasBody Tryz.prog 68=true:=by kernel_rfl
@[simp] theorem hb69:hasBody Tryz.prog 69=true:=by kernel_rfl
@[simp] theorem hb70:hasBody Tryz.prog 70=true:=by kernel_rfl
@[simp] theorem hb71:hasBody Tryz.prog 71=true:=by kernel_rfl
@[simp] theorem hb72:hasBody Tryz.prog 72=true:=by kernel_rfl
@[simp] theorem hb73:hasBody Tryz.prog 73=true:=by kernel_rfl
@[simp] theorem hb74:hasBody Tryz.prog 74=true:=by kernel_rfl
@[simp] theorem hb75:hasBody Tryz.prog 75=true:=by kernel_rfl
@[simp] theorem hb76:hasBody Tryz.prog 76=true:=by kernel_rfl
@[simp] theorem hb77:hasBody Tryz.prog 77=true:=by kernel_rfl
@[simp] theorem hb78:hasBody Tryz.prog 78=true:=by kernel_rfl
@[simp] theorem hb79:hasBody Tryz.prog 79=true:=by kernel_rfl
@[simp] theorem hb80:hasBody Tryz.prog 80=true:=by kernel_rfl
@[simp] theorem hb81:hasBody Tryz.prog 81=true:=by kernel_rfl
@[simp] theorem hb82:hasBody Tryz.prog 82=true:=by kernel_rfl
@[simp] theorem hb83:hasBody Tryz.prog 83=true:=by kernel_rfl
@[simp] theorem hb84:hasBody Tryz.prog 84=true:=by kernel_rfl
@[simp] theorem hb85:hasBody Tryz.prog 85=true:=by kernel_rfl
@[simp] theorem hb86:hasBody Tryz.prog 86=true:=by kernel_rfl
@[simp] theorem hb87:hasBody Tryz.prog 87=true:=by kernel_rfl
@[simp] theorem hb88:hasBody Tryz.prog 88=true:=by kernel_rfl
@[simp] theorem hb89:hasBody Tryz.prog 89=true:=by kernel_rfl
@[simp] theorem hb90:hasBody Tryz.prog 90=true:=by kernel_rfl
@[simp] theorem hb91:hasBody Tryz.prog 91=true:=by kernel_rfl
@[simp] theorem hb92:hasBody Tryz.prog 92=true:=by kernel_rfl
@[simp] theorem hb93:hasBody Tryz.prog 93=true:=by kernel_rfl
@[simp] theorem hb94:hasBody Tryz.prog 94=true:=by kernel_rfl
@[simp] theorem hb95:hasBody Tryz.prog 95=true:=by kernel_rfl
@[simp] theorem hb96:hasBody Tryz.prog 96=true:=by kernel_rfl
@[simp] theorem hb97:hasBody Tryz.prog 97=true:=by kernel_rfl
@[simp] theorem hb98:hasBody Tryz.prog 98=true:=by kernel_rfl
@[simp] theorem hb99:hasBody Tryz.prog 99=true:=by kernel_rfl
@[simp] theorem hb100:hasBody Tryz.prog 100=true:=by kernel_rfl
@[simp] theorem hb101:hasBody Tryz.prog 101=true:=by kernel_rfl
@[simp] theorem hb102:hasBody Tryz.prog 102=true:=by kernel_rfl
@[simp] theorem hb103:hasBody Tryz.prog 103=true:=by kernel_rfl
@[simp] theorem hb104:hasBody Tryz.prog 104=true:=by kernel_rfl
@[simp] theorem hb105:hasBody Tryz.prog 105=true:=by kernel_rfl
@[simp] theorem hb106:hasBody Tryz.prog 106=true:=by kernel_rfl
@[simp] theorem hb107:hasBody Tryz.prog 107=true:=by kernel_rfl
@[simp] theorem hb108:hasBody Tryz.prog 108=true:=by kernel_rfl
@[simp] theorem hb109:hasBody Tryz.prog 109=true:=by kernel_rfl
@[simp] theorem hb110:hasBody Tryz.prog 110=true:=by kernel_rfl
@[simp] theorem hb111:hasBody Tryz.prog 111=true:=by kernel_rfl
@[simp] theorem hb112:hasBody Tryz.prog 112=true:=by kernel_rfl
@[simp] theorem hb113:hasBody Tryz.prog 113=true:=by kernel_rfl
@[simp] theorem hb115:hasBody Tryz.prog 115=true:=by kernel_rfl
@[simp] theorem hb116:hasBody Tryz.prog 116=true:=by kernel_rfl
@[simp] theorem hb117:hasBody Tryz.prog 117=true:=by kernel_rfl
@[simp] theorem hb118:hasBody Tryz.prog 118=true:=by kernel_rfl
@[simp] theorem hb119:hasBody Tryz.prog 119=true:=by kernel_rfl
@[simp] theorem hb120:hasBody Tryz.prog 120=true:=by kernel_rfl
@[simp] theorem hb121:hasBody Tryz.prog 121=true:=by kernel_rfl
@[simp] theorem hb122:hasBody Tryz.prog 122=true:=by kernel_rfl
@[simp] theorem hb123:hasBody Tryz.prog 123=true:=by kernel_rfl
@[simp] theorem hb124:hasBody Tryz.prog 124=true:=by kernel_rfl
@[simp] theorem hb125:hasBody Tryz.prog 125=true:=by kernel_rfl
@[simp] theorem hb126:hasBody Tryz.prog 126=true:=by kernel_rfl
@[simp] theorem hb127:hasBody Tryz.prog 127=true:=by kernel_rfl
@[simp] theorem hb128:hasBody Tryz.prog 128=true:=by kernel_rfl
@[simp] theorem hb129:hasBody Tryz.prog 129=true:=by kernel_rfl
@[simp] theorem hb130:hasBody Tryz.prog 130=true:=by kernel_rfl
@[simp] theorem hb131:hasBody Tryz.prog 131=true:=by kernel_rfl
@[simp] theorem hb132:hasBody Tryz.prog 132=true:=by kernel_rfl
@[simp] theorem hb133:hasBody Tryz.prog 133=true:=by kernel_rfl
@[simp] theorem hb134:hasBody Tryz.prog 134=true:=by kernel_rfl
@[simp] theorem hb135:hasBody Tryz.prog 135=true:=by kernel_rfl
@[simp] theorem hb136:hasBody Tryz.prog 136=true:=by kernel_rfl
@[simp] theorem hb137:hasBody Tryz.prog 137=true:=by kernel_rfl
@[simp] theorem hb138:hasBody Tryz.prog 138=true:=by kernel_rfl
@[simp] theorem hb139:hasBody Tryz.prog 139=true:=by kernel_rfl
@[simp] theorem hb140:hasBody Tryz.prog 140=true:=by kernel_rfl
@[simp] theorem hb141:hasBody Tryz.prog 141=true:=by kernel_rfl
@[simp] theorem hb142:hasBody Tryz.prog 142=true:=by kernel_rfl
@[simp] theorem hb143:hasBody Tryz.prog 143=true:=by kernel_rfl
@[simp] theorem hb144:hasBody Tryz.prog 144=true:=by kernel_rfl
@[simp] theorem hb145:hasBody Tryz.prog 145=true:=by kernel_rfl
@[simp] theorem hb146:hasBody Tryz.prog 146=true:=by kernel_rfl
@[simp] theorem hb147:hasBody Tryz.prog 147=true:=by kernel_rfl
@[simp] theorem hb148:hasBody Tryz.prog 148=true:=by kernel_rfl
@[simp] theorem hb149:hasBody Tryz.prog 149=true:=by kernel_rfl
@[simp] theorem hb150:hasBody Tryz.prog 150=true:=by kernel_rfl
@[simp] theorem hb168:hasBody Tryz.prog 168=true:=by kernel_rfl
@[simp] theorem hb169:hasBody Tryz.prog 169=true:=by kernel_rfl
@[simp] theorem hb170:hasBody Tryz.prog 170=true:=by kernel_rfl
@[simp] theorem hb171:hasBody Tryz.prog 171=true:=by kernel_rfl
@[simp] theorem hb172:hasBody Tryz.prog 172=true:=by kernel_rfl
@[simp] theorem hb173:hasBody Tryz.prog 173=true:=by kernel_rfl
@[simp] theorem hb174:hasBody Tryz.prog 174=true:=by kernel_rfl
@[simp] theorem hb175:hasBody Tryz.prog 175=true:=by kernel_rfl
@[simp] theorem hb176:hasBody Tryz.prog 176=true:=by kernel_rfl
@[simp] theorem hb177:hasBody Tryz.prog 177=true:=by kernel_rfl
@[simp] theorem hb178:hasBody Tryz.prog 178=true:=by kernel_rfl
@[simp] theorem hb179:hasBody Tryz.prog 179=true:=by kernel_rfl
@[simp] theorem hb180:hasBody Tryz.prog 180=true:=by kernel_rfl
@[simp] theorem hb181:hasBody Tryz.prog 181=true:=by kernel_rfl
@[simp] theorem hb182:hasBody Tryz.prog 182=true:=by kernel_rfl
@[simp] theorem hb183:hasBody Tryz.prog 183=true:=by kernel_rfl
@[simp] theorem hb184:hasBody Tryz.prog 184=true:=by kernel_rfl
@[simp] theorem hb185:hasBody Tryz.prog 185=true:=by kernel_rfl
@[simp] theorem hb186:hasBody Tryz.prog 186=true:=by kernel_rfl
@[simp] theorem hb187:hasBody Tryz.prog 187=true:=by kernel_rfl
@[simp] theorem hb188:hasBody Tryz.prog 188=true:=by kernel_rfl
@[simp] theorem hb189:hasBody Tryz.prog 189=true:=by kernel_rfl
@[simp] theorem hb190:hasBody Tryz.prog 190=true:=by kernel_rfl
@[simp] theorem hb192:hasBody Tryz.prog 192=true:=by kernel_rfl
@[simp] theorem hb193:hasBody Tryz.prog 193=true:=by kernel_rfl
@[simp] theorem hb194:hasBody Tryz.prog 194=true:=by kernel_rfl
end Go.Vn

set_option maxRecDepth 20000
namespace Go.Vn
open Go.Proofs
attribute [simp] extractAV capAV fieldAV
@[simp] theorem len_nils{P:Program}{t e:TypeId}(hu:P.underlying t=some (.slice e)):lenAV P t .nils=some (.int .i64 0):=by simp[lenAV,hu]
@[simp] theorem len_esl{P:Program}{t e:TypeId}{c:Nat}(hu:P.underlying t=some (.slice e)):lenAV P t (.esl c)=some (.int .i64 0):=by simp[lenAV,hu]
@[simp] theorem len_str{P:Program}{t:TypeId}{s:List UInt8}(hu:P.underlying t=some .string):lenAV P t (.str s)=some (.int .i64 s.length):=by simp[lenAV,hu]
end Go.Vn
