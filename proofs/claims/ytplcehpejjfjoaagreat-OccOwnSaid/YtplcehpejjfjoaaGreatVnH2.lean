/- What functions of the program come to, in the value machine (a part of the proof of the claim's statement). No condition. -/
import Derived.Test.YtplcehpejjfjoaaGreatVnH1
set_option linter.unusedSimpArgs false
set_option linter.unusedVariables false
set_option maxRecDepth 20000
namespace Go.Vn
open Go.Proofs

structure Ctr (h0 h : Hp Fm) (q : Nat) : Prop where
  row : ∃ v : Int, Mp.get h.obj q = some (.row [.int .i64 v])
  hx : HX (fun o => o = q) (fun _ => False) h0 h
  on : q < h0.no
theorem Ctr.trans {h0 h h' : Hp Fm} {q : Nat} (k : Ctr h0 h q) (m : Ctr h h' q) : Ctr h0 h' q := ⟨m.row, k.hx.trans (m.hx.mono (fun _ _ z => z) (fun _ _ z => z)), k.on⟩

end Go.Vn

set_option maxRecDepth 20000
namespace Go.Vn
open Go.Proofs

end Go.Vn

set_option maxRecDepth 20000
namespace Go.Vn
open Go.Proofs

end Go.Vn
