/- What functions of the program come to, in the value machine (a part of the proof of the claim's statement). No condition. -/
import Derived.Test.YtplcehpejjfjoaaGreatVnG3
set_option linter.unusedSimpArgs false
set_option linter.unusedVariables false
set_option maxRecDepth 20000
namespace Go.Vn
open Go.Proofs
theorem CmpOk.flip{E:Type}{c:E→E→Int}(k:CmpOk c):CmpOk (fun a b=>c b a):=
 ⟨fun a b=>k.anti b a,fun a b=>k.zero b a,fun a b d h1 h2=>k.tr d b a h2 h1,fun a b d h1 h2=>k.tz d b a h2 h1,fun a b d h1 h2=>k.ltr d b a h2 h1,fun a b d h1 h2=>k.ltl d b a h2 h1⟩
theorem cmpO_ok(path:List Lg):CmpOk (cmpO path):=by
 have h1:CmpOk (fun a b:Ver=>cmpI (legV path b) (legV path a)):=(cmpI_ok.pull (legV path)).flip
 have h:=h1.lex ((cmpI_ok.pull Ver.ep).lex ((cmpI_ok.pull Ver.sq).lex (cmpI_ok.pull Ver.fr)))
 have e:cmpO path=(fun a b:Ver=>if cmpI (legV path b) (legV path a)≠0 then cmpI (legV path b) (legV path a)else if cmpI a.ep b.ep≠0 then cmpI a.ep b.ep else if cmpI a.sq b.sq≠0 then cmpI a.sq b.sq else cmpI a.fr b.fr):=by
  funext a b
  simp only[cmpO,orI]
  by_cases q1:cmpI (legV path b) (legV path a)=0 <;> by_cases q2:cmpI a.ep b.ep=0 <;> by_cases q3:cmpI a.sq b.sq=0 <;> by_cases q4:cmpI a.fr b.fr=0 <;> simp[q1,q2,q3,q4]
 rw[e];exact h
end Go.Vn

set_option maxRecDepth 20000
namespace Go.Vn
open Go.Proofs
noncomputable def orderP(path:List Lg)(xs:List Ver):List Ver:=(sort_all (cmpO_ok path) (xs.filter fun a => !unseen path a)).choose
end Go.Vn
