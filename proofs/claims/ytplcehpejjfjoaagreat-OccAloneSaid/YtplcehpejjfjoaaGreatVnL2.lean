/- What functions of the program come to, in the value machine (a part of the proof of the claim's statement). No condition. -/
import Derived.Test.YtplcehpejjfjoaaGreatVnL1
import Derived.Test.YtplcehpejjfjoaaGreatVnI5
import Derived.Test.YtplcehpejjfjoaaGreatVnG4
import Derived.Test.YtplcehpejjfjoaaGreatVnI1
set_option linter.unusedSimpArgs false
set_option linter.unusedVariables false
set_option maxRecDepth 20000
namespace Go.Vn
open Go.Proofs
theorem isNaN_str(a:List UInt8)(h:Hp Fm):A Tryz.prog TT (.func 146) [.str a] h (fun r h'=>r=.bool false∧h'=h):=by
 have e:eqB a a=true:=by rw[eqB_dec];simp
 apply A_go Tryz.func146 rfl (by rfl);(case hn=>(simp[Tryz.ntmps146];rfl))
 refine vF e ?_
 (first | apply endW_r | apply endW_n);(case h1=>(simp[Tryz.results146];first | done | rfl))
 exact⟨by simp[e],rfl⟩
theorem ltB_irr:∀a:List UInt8,ltB a a=false
 | []=>rfl
 | c::a=>by simp[ltB,ltB_irr a]
theorem compare_str(a:List UInt8)(h:Hp Fm):A Tryz.prog TT (.func 190) [.str a,.str a] h (fun r h'=>r=.int .i64 0∧h'=h):=by
 have e:=ltB_irr a
 have e2:eqB a a=true:=by rw[eqB_dec];simp
 apply A_go Tryz.func190 rfl (by rfl);(case hn=>(simp[Tryz.ntmps190];rfl))
 refine vZ ?_
 refine A.mono (isNaN_str _ _) ?_;rintro _ hh ⟨rfl,rfl⟩;refine⟨_,by simp;first | done | rfl,?_⟩
 refine vZ ?_
 refine A.mono (isNaN_str _ _) ?_;rintro _ hh ⟨rfl,rfl⟩;refine⟨_,by simp;first | done | rfl,?_⟩
 refine vF (cJ e e2) ?_
 (first | apply endW_r | apply endW_n);(case h1=>(simp[Tryz.results190];first | done | rfl))
 exact⟨by simp,rfl⟩
def LtV(a b:Ver):Prop:=a.key=b.key∧a.br=b.br∧(a.ep<b.ep∨(a.ep=b.ep∧(a.sq<b.sq∨(a.sq=b.sq∧a.fr<b.fr))))
def isNeg(n:Int):Prop:=n<0
theorem first_ans(c d e:Int)(g cp:Nat)(h:Hp Fm)(hn:orI [c,d,e]<0):A Tryz.prog TT (.func 189) [.sl g 0 1 cp [.int .i64 0,.int .i64 0,.int .i64 c,.int .i64 d,.int .i64 e]] h (fun r h'=>(∃n,r=.int .i64 n∧n<0)∧h'=h):=by
 by_cases qc:c=0
 case neg=>
  have hc:c<0:=by simpa[orI,qc]using hn
  apply A_go Tryz.func189 rfl (by rfl);(case hn=>(simp[Tryz.ntmps189];rfl))
  refine vZ ?_
  refine W_loop_i ?_
  refine vZ ?_
  refine W_loop_i ?_
  refine vZ ?_
  refine W_loop_i ?_
  refine vF qc ?_
  (first | apply endW_r | apply endW_n);(case h1=>(simp[Tryz.results189];first | done | rfl))
  exact⟨⟨c,by simp,hc⟩,rfl⟩
 subst qc
 by_cases qd:d=0
 case neg=>
  have hc:d<0:=by simpa[orI,qd]using hn
  apply A_go Tryz.func189 rfl (by rfl);(case hn=>(simp[Tryz.ntmps189];rfl))
  refine vZ ?_
  refine W_loop_i ?_
  refine vZ ?_
  refine W_loop_i ?_
  refine vZ ?_
  refine W_loop_i ?_
  refine vZ ?_
  refine W_loop_i ?_
  refine vF qd ?_
  (first | apply endW_r | apply endW_n);(case h1=>(simp[Tryz.results189];first | done | rfl))
  exact⟨⟨d,by simp,hc⟩,rfl⟩
 subst qd
 by_cases qe:e=0
 ·subst qe;simp[orI]at hn
 have hc:e<0:=by simpa[orI,qe]using hn
 apply A_go Tryz.func189 rfl (by rfl);(case hn=>(simp[Tryz.ntmps189];rfl))
 refine vZ ?_
 refine W_loop_i ?_
 refine vZ ?_
 refine W_loop_i ?_
 refine vZ ?_
 refine W_loop_i ?_
 refine vZ ?_
 refine W_loop_i ?_
 refine vZ ?_
 refine W_loop_i ?_
 refine vF qe ?_
 (first | apply endW_r | apply endW_n);(case h1=>(simp[Tryz.results189];first | done | rfl))
 exact⟨⟨e,by simp,hc⟩,rfl⟩
theorem vNe24{F G K:Prop}(f:F)(k:K)(h:F→K→G:=by intro f k;(repeat(first|with_reducible first|refine vmR ?_|refine vmV rfl ?_|refine vmW rfl ?_|refine vmL ?_|refine blockW_y (by decide) ?_|((with_reducible first|apply vmO|apply vmT|apply vmC);case a=>simp[f,buildSliceAV,newSeq,newSl];with_reducible first|exact .v|exact .c|exact .t|exact .f)));exact k):G:=h f k
set_option maxHeartbeats 2000000 in
theorem rcmp_lt(a b:Ver)(hab:LtV a b)(h0:Hp Fm)(hp:h0.pol 3=false) :
  A Tryz.prog TT (.func 185) [encV a,encV b] h0 (fun r h'=>(∃n,r=.int .i64 n∧n<0)∧HE h0 h'):=by
 obtain⟨ek,eb,hl⟩:=hab
 have hn:orI [cmpI a.ep b.ep,cmpI a.sq b.sq,cmpI a.fr b.fr]<0:=by
  rcases hl with z | ⟨z,z2 | ⟨z2,z3⟩⟩
  ·simp[orI,cmpI,z]
  ·simp[orI,cmpI,z,z2]
  ·simp[orI,cmpI,z,z2,z3]
 have ebr:cmpI a.br b.br=0:=by rw[eb];simp[cmpI]
 apply A_go Tryz.func185 rfl (by rfl);(case hn=>(simp[Tryz.ntmps185];rfl))
 refine vZ ?_
 refine W_heap ?_
 intro h1 hh1
 have e1:HE h0 h1:=by rw[hh1];exact((HE.refl h0).new _).new _
 have ga:Mp.get h1.obj h0.no=some (.row (encV a).cells):=by rw[hh1];simp[show h0.no≠h0.no+1 by omega]
 have gb:Mp.get h1.obj (h0.no+1)=some (.row (encV b).cells):=by rw[hh1];simp
 clear hh1
 simp only[encV,cells_agg]at ga gb
 have hp1:h1.pol 3=false:=by rw[e1.pol];exact hp
 rw[←ek]at gb
 (with_reducible refine W_draw_id (pln:=true) [0,1,2,3,4,5,6,7,8,9,10,11,12,13,14,15,16,17,18,19,20,21,22,23,24,25,26,27,28,29,30,31,32,33,34,35] [(1,(1,[])),(3,(3,[])),(7,(7,[0])),(10,(10,[0])),(14,(14,[0,5])),(17,(17,[0,5])),(21,(21,[0,5,12])),(24,(24,[0,5,12])),(28,(28,[0,5,12,19])),(31,(31,[0,5,12,19]))] (by kernel_rfl) rfl ?_)
 refine vF (cJ ga gb) ?_
 refine A.mono (compare_str a.key _) ?_
 rintro _ _ ⟨rfl,eh⟩
 rw[eh]
 clear eh
 refine vP ?_
 refine vF (cJ ga gb) ?_
 refine A.mono (compare_int a.br b.br _) ?_
 rintro _ _ ⟨rfl,eh⟩
 rw[eh]
 clear eh
 rw[ebr]
 refine vP ?_
 refine vF (cJ ga gb) ?_
 refine A.mono (compare_int a.ep b.ep _) ?_
 rintro _ _ ⟨rfl,eh⟩
 rw[eh]
 clear eh
 refine vP ?_
 refine vF (cJ ga gb) ?_
 refine A.mono (compare_int a.sq b.sq _) ?_
 rintro _ _ ⟨rfl,eh⟩
 rw[eh]
 clear eh
 refine vP ?_
 refine vF (cJ ga gb) ?_
 refine A.mono (compare_int a.fr b.fr _) ?_
 rintro _ _ ⟨rfl,eh⟩
 rw[eh]
 clear eh
 refine vP ?_
 refine vNe24 (cJ ga (cJ gb hp1)) ?_
 refine A.mono (first_ans _ _ _ _ _ _ hn) ?_
 rintro _ _ ⟨⟨n,rfl,hneg⟩,eh⟩
 rw[eh]
 clear eh
 refine vP ?_
 refine vF (cJ ga gb) ?_
 refine⟨by simp[readSame,beqAV_self,ga,gb];done,_,by simp;first | done | rfl,?_⟩
 refine vZ ?_
 (first | apply endW_r | apply endW_n);(case h1=>(simp[Tryz.results185];first | done | rfl))
 exact⟨⟨n,rfl,hneg⟩,(e1.drew).newSl _⟩
theorem rin_ans(n a b:Int)(h0:Hp Fm):A Tryz.prog TT (.func 188) [.int .i64 n,.int .i64 a,.int .i64 b] h0 (fun r h'=>r=.bool (decide (a≤n∧n≤b))∧h'=h0):=by
 by_cases q1:a≤n
 ·by_cases q2:n≤b
  all_goals
   apply A_go Tryz.func188 rfl (by rfl);(case hn=>(simp[Tryz.ntmps188];rfl))
   refine vF (cJ q1 q2) ?_
   (first | apply endW_r | apply endW_n);(case h1=>(simp[Tryz.results188];first | done | rfl))
   exact⟨by simp[q1,q2],rfl⟩
 ·apply A_go Tryz.func188 rfl (by rfl);(case hn=>(simp[Tryz.ntmps188];rfl))
  refine vF q1 ?_
  (first | apply endW_r | apply endW_n);(case h1=>(simp[Tryz.results188];first | done | rfl))
  exact⟨by simp[q1],rfl⟩
def VMay(v:Ver):Bool:=keyOk v.key&&decide (0≤v.br∧v.br≤15)&&decide (1≤v.ep∧v.ep≤10000)&&decide (1≤v.sq∧v.sq≤100000)&&decide (SpMay v.fr v.to)&&decide (v.val.length≤200)&&(!v.gone || v.val.isEmpty)
theorem eqB_nil(s:List UInt8):eqB s []=s.isEmpty:=by cases s <;> rfl
theorem vNe25{F G K:Prop}(f:F)(k:K)(h:F→K→G:=by intro f k;(repeat(first|with_reducible first|refine vmR ?_|refine vmV rfl ?_|refine vmW rfl ?_|refine vmL ?_|refine blockW_y (by decide) ?_|((with_reducible first|apply vmO|apply vmT|apply vmC);case a=>simp[f,eqB_nil];with_reducible first|exact .v|exact .c|exact .t|exact .f)));exact k):G:=h f k
set_option maxHeartbeats 4000000 in
theorem rowmay_ans(v:Ver)(h0:Hp Fm)(hl:v.key.length≤100000)(hp:∀z,h0.pol z=false) :
  A Tryz.prog TT (.func 183) [encV v] h0 (fun r h'=>r=.bool (VMay v)∧HE h0 h'):=by
 obtain⟨key,br,ep,sq,fr,to,val,gone⟩:=v
 simp only at hl
 have e0:=(HE.refl h0).new (.row [.str key,.int .i64 br,.int .i64 ep,.int .i64 sq,.int .i64 fr,.int .i64 to,.str val,.bool gone])
 apply A_go Tryz.func183 rfl (by rfl);(case hn=>(simp[Tryz.ntmps183];rfl))
 refine vZ ?_
 refine A.mono (osplit_ans key _ hl (by exact hp)) ?_
 rintro _ h1 ⟨⟨a,s,e,rfl,hk⟩,e1⟩
 have e01:=e0.trans e1
 have g1:Mp.get h1.obj h0.no=some (.row [.str key,.int .i64 br,.int .i64 ep,.int .i64 sq,.int .i64 fr,.int .i64 to,.str val,.bool gone]):=(e1.obj _ (by show h0.no<h0.no+1;omega)).trans (by simp)
 have n1:h0.no<h1.no:=Nat.lt_of_lt_of_le (by show h0.no<h0.no+1;omega) e1.no
 clear e0 e1
 refine vP ?_
 refine vF g1 ?_
 refine A.mono (rin_ans br 0 15 h1) ?_
 rintro _ _ ⟨rfl,eh⟩
 rw[eh]
 clear eh
 obtain⟨zq1,hb1⟩:∃z,z=decide (0≤br∧br≤15):=⟨_,rfl⟩
 rw[←hb1]
 refine vP ?_
 cases zq1
 case false=>
  by_cases qe:e=0
  all_goals
   refine vF (cJ g1 qe) ?_
   (first | apply endW_r | apply endW_n);(case h1=>(simp[Tryz.results183];first | done | rfl))
   exact⟨by unfold VMay;simp only[←hb1];simp,e01⟩
 refine vF g1 ?_
 refine A.mono (rin_ans ep 1 10000 h1) ?_
 rintro _ _ ⟨rfl,eh⟩
 rw[eh]
 clear eh
 obtain⟨zq2,hb2⟩:∃z,z=decide (1≤ep∧ep≤10000):=⟨_,rfl⟩
 rw[←hb2]
 refine vP ?_
 cases zq2
 case false=>
  by_cases qe:e=0
  all_goals
   refine vF (cJ g1 qe) ?_
   (first | apply endW_r | apply endW_n);(case h1=>(simp[Tryz.results183];first | done | rfl))
   exact⟨by unfold VMay;simp only[←hb2];simp,e01⟩
 refine vF g1 ?_
 refine A.mono (rin_ans sq 1 100000 h1) ?_
 rintro _ _ ⟨rfl,eh⟩
 rw[eh]
 clear eh
 obtain⟨zq3,hb3⟩:∃z,z=decide (1≤sq∧sq≤100000):=⟨_,rfl⟩
 rw[←hb3]
 refine vP ?_
 cases zq3
 case false=>
  by_cases qe:e=0
  all_goals
   refine vF (cJ g1 qe) ?_
   (first | apply endW_r | apply endW_n);(case h1=>(simp[Tryz.results183];first | done | rfl))
   exact⟨by unfold VMay;simp only[←hb3];simp,e01⟩
 by_cases qe:e=0
 case neg=>
  have hk':keyOk key=false:=by rw[←hk];simp[qe]
  refine vF (cJ g1 qe) ?_
  (first | apply endW_r | apply endW_n);(case h1=>(simp[Tryz.results183];first | done | rfl))
  exact⟨by simp[VMay,hk'],e01⟩
 have hk':keyOk key=true:=by rw[←hk];simp[qe]
 refine vF (cJ g1 qe) ?_
 refine A.mono (smay_ans fr to h1) ?_
 rintro _ h2 ⟨rfl,e2⟩
 have g2:Mp.get h2.obj h0.no=some (.row [.str key,.int .i64 br,.int .i64 ep,.int .i64 sq,.int .i64 fr,.int .i64 to,.str val,.bool gone]):=(e2.obj _ n1).trans g1
 have e02:=e01.trans e2
 refine vP ?_
 by_cases q4:SpMay fr to
 case neg=>
  refine vF (cJ g2 q4) ?_
  (first | apply endW_r | apply endW_n);(case h1=>(simp[Tryz.results183];first | done | rfl))
  exact⟨by simp[VMay,q4],e02⟩
 by_cases q5:val.length≤200
 case neg=>
  have q5':¬(val.length:Int)≤200:=by omega
  refine vF (cJ g2 (cJ q4 (cJ q5 q5'))) ?_
  (first | apply endW_r | apply endW_n);(case h1=>(simp[Tryz.results183];first | done | rfl))
  exact⟨by simp[VMay,q5],e02⟩
 have q5':(val.length:Int)≤200:=by omega
 cases gone with
 | false=>
  refine vF (cJ g2 (cJ q4 (cJ q5 q5'))) ?_
  (first | apply endW_r | apply endW_n);(case h1=>(simp[Tryz.results183];first | done | rfl))
  exact⟨by unfold VMay;simp only[←hb1,←hb2,←hb3];simp[q4,q5,hk'],e02⟩
 | true=>
  refine vNe25 (cJ g2 (cJ q4 (cJ q5 q5'))) ?_
  (first | apply endW_r | apply endW_n);(case h1=>(simp[Tryz.results183];first | done | rfl))
  exact⟨by unfold VMay;simp only[←hb1,←hb2,←hb3];simp[q4,q5,hk'],e02⟩
theorem vNe26{F G K:Prop}(f:F)(k:K)(h:F→K→G:=by intro f k;(repeat(first|with_reducible first|refine vmR ?_|refine vmV rfl ?_|refine vmW rfl ?_|refine vmL ?_|refine blockW_y (by decide) ?_|((with_reducible first|apply vmO|apply vmT|apply vmC);case a=>simp[f,newSeq,newSl];with_reducible first|exact .v|exact .c|exact .t|exact .f)));exact k):G:=h f k
theorem clonev_sl(xs:List Ver)(v:AV)(hv:SL 8 (xs.map encV) v)(hl:xs.length≤1000000)(h0:Hp Fm)(hp:h0.pol 117=false) :
  A Tryz.prog TT (.func 103) [v] h0 (fun r h'=>AC h0 h' 8 (xs.map encV) r∧HE h0 h'):=by
 have vc:=hv.sv.cells
 have vd:=hv.sv.isCell
 have hv':=hv.sv
 rcases hv with⟨rfl,hx⟩ | ⟨g,off,cp,rfl⟩
 ·apply A_go Tryz.func103 rfl (by rfl);(case hn=>(simp[Tryz.ntmps103];rfl))
  refine vZ ?_
  (first | apply endW_r | apply endW_n);(case h1=>(simp[Tryz.results103];first | done | rfl))
  exact⟨.inl ⟨rfl,hx⟩,HE.refl _⟩
 ·apply A_go Tryz.func103 rfl (by rfl);(case hn=>(simp[Tryz.ntmps103];rfl))
  refine vNe26 hp ?_
  with_reducible apply WO_app_i;(case hw=>(simp[newSeq,newSl,hp];done));(case ho=>rfl);(case hb=>rfl);(case ha=>(simp[newSeq,newSl,hp];first | done | exact⟨rfl,rfl⟩ | rfl));(case h1=>(simp;first | done | rfl));(case h2=>(simp;first | done | rfl))
  have ac0:AC h0 ({ h0 with len:=Mp.set h0.len h0.ng 0,ng:=h0.ng+1 }:Hp Fm) 8 [] (.sl h0.ng 0 8 0 []):=.inr ⟨_,_,_,rfl,by simp,by simp,Nat.le_refl _⟩
  refine app_then (AC.appN (h0:=h0) etv ac0 ((HE.refl h0).newSl 0) hp (SV.newEls hv') (by simp;omega)) ?_
  rintro w h2 ⟨ac2,he2,_,_,_⟩
  have e2:=ac2.sv.cells
  have f2:=ac2.sv.isCell
  refine vP ?_
  refine vF (cJ e2 f2) ?_
  (first | apply endW_r | apply endW_n);(case h1=>(simp[Tryz.results103];first | done | rfl))
  exact⟨by simpa using ac2,he2⟩
set_option maxHeartbeats 2000000 in
theorem bsend_ans(xs:List Ver)(v:AV)(hv:SL 8 (xs.map encV) v)(hl:xs.length≤1000000)(x:Ver)(hx:∀y∈xs,LtV y x)(h0:Hp Fm)(hp:h0.pol 3=false) :
  A Tryz.prog TT (.func 184) [v,encV x,.fn (.func 185) [] []] h0 (fun r h'=>r=.tup [.int .i64 xs.length,.bool false]∧HE h0 h'):=by
 have vc:=hv.sv.cells
 have vi:=hv.sv.isCell
 have vn:=hv.sv.nm
 have vl:=hv.sv.len Tryz.underlying64
 rw[List.length_map]at vl
 obtain⟨n,hn⟩:∃n,n=xs.length:=⟨_,rfl⟩
 rw[←hn]at vl hl ⊢
 apply A_go Tryz.func184 rfl (by rfl);(case hn=>(simp[Tryz.ntmps184];rfl))
 refine vF (cJ vc (cJ vi (cJ vn vl))) ?_
 refine W_heap ?_
 intro h1 hh1
 have e1:HE h0 h1:=by rw[hh1];exact(HE.refl h0).new _
 have gx:Mp.get h1.obj h0.no=some (.row (encV x).cells):=by rw[hh1];simp
 have nx:h0.no<h1.no:=by rw[hh1];exact Nat.lt_succ_self _
 clear hh1
 simp only[encV,cells_agg]at gx
 refine W.mono (R:=fun e s=>e=.exit 0∧∃(t:Fm AV) (h:Hp Fm),s=⟨t,49,h,none⟩∧tget t 8=.int .i64 n∧tget t 9=.int .i64 n∧HE h1 h) ?_ ?_
 ·refine W_loop (fun z s=>∃(t:Fm AV) (h:Hp Fm) (i:Nat),s=⟨t,49,h,none⟩∧z=n-i∧i≤n∧tget t 0=v∧tget t 2=.fn (.func 185) [] []∧tget t 4=.ptr h0.no 0∧tget t 8=.int .i64 n∧tget t 9=.int .i64 i∧tget t 10=.int .i64 n∧HE h1 h) n
   ⟨_,_,0,rfl,rfl,by omega,by simp,by simp,by simp,by simp,by simp,by simp,HE.refl _⟩ ?_
  rintro _ s ⟨t,h,i,rfl,rfl,hi,t0,t2,t4,t8,t9,t10,he⟩
  by_cases q:i<n
  case neg=>
   have q':¬(i:Int)<n:=by omega
   have ei:i=n:=by omega
   rw[ei]at t9
   have qq:¬n<n:=by omega
   refine vF (cJ t9 (cJ t10 qq)) ?_
   exact⟨rfl,_,_,rfl,by simp[t8],by simp[t9],he⟩
  have q':(i:Int)<n:=by omega
  obtain⟨c,hc⟩:∃c,c=(i+n) / 2:=⟨_,rfl⟩
  have wc:=half_nf i n (by omega)
  rw[←hc]at wc
  obtain⟨c1,hc1⟩:∃c1,c1=c+1:=⟨_,rfl⟩
  have wc1:IntKind.i64.wrap ((c:Int)+1)=(c1:Int):=by rw[wrap64 (by omega) (by omega)];omega
  obtain⟨y,hy⟩:∃y,y=xs[c]'(by omega):=⟨_,rfl⟩
  have ix:=hv.sv.idx (k:=.i64) (i:=(c:Int)) Tryz.underlying64 z117 (by omega) (by rw[List.length_map];omega)
  have ix':indexAddrAV Tryz.prog 64 v (.int .i64 (c:Int))=some (.el (encV y) 0):=by rw[ix];simp[hy]
  have gh:=(he.obj _ nx).trans gx
  have hyx:=hx y (by rw[hy];exact List.getElem_mem _)
  simp only[encV]at ix'
  refine vF (cJ t9 (cJ t10 (cJ q (cJ q' wc)))) ?_
  (with_reducible refine W_draw_id (pln:=true) [0,1,2,3,4,5,6,7] [(4,(4,[])),(5,(5,[]))] (by kernel_rfl) rfl ?_)
  refine vF (cJ t0 (cJ t2 (cJ t4 (cJ ix' gh)))) ?_
  refine A.mono (rcmp_lt y x hyx h.drew (by show h.pol 3=false;rw[he.pol,e1.pol];exact hp)) ?_
  rintro _ h3 ⟨⟨m,rfl,hm⟩,e3⟩
  refine vP ?_
  have he3:=(he.drew).trans e3
  have gh3:=(he3.obj _ nx).trans gx
  refine vF (cJ t0 (cJ t2 (cJ t4 hm))) ?_
  refine⟨by simp[readSame,beqAV_self,t0,t2,t4,hm,gh,gh3];done,_,by simp;first | done | rfl,?_⟩
  refine vF (cJ hm wc1) ?_
  exact⟨n-c1,by omega,_,_,c1,rfl,rfl,by omega,by simp[t0],by simp[t2],by simp[t4],by simp[t8],by simp,by simp[t10],he3⟩
 rintro e s ⟨rfl,t,h,rfl,t8,t9,he⟩
 have qq:¬n<n:=by omega
 refine vF (cJ t8 (cJ t9 qq)) ?_
 (with_reducible refine W_draw_id (pln:=true) [0,1,2,3,4,5,6,7,8,9,10,11,12,13,14,15] [(9,(9,[])),(10,(10,[]))] (by kernel_rfl) rfl ?_)
 refine vF (cJ t8 (cJ t9 qq)) ?_
 refine⟨by simp[readSame,beqAV_self,t8,t9,qq];done,_,by simp;first | done | rfl,?_⟩
 refine vZ ?_
 (first | apply endW_r | apply endW_n);(case h1=>(simp[Tryz.results184];first | done | rfl))
 exact⟨by simp,(e1.trans he).drew⟩
set_option maxHeartbeats 1000000 in
theorem insend_ans(xs:List Ver)(v:AV)(hb h0:Hp Fm)(ac:AC hb h0 8 (xs.map encV) v)(he:HE hb h0)(hl:xs.length≤1000000)(x:Ver)(hp:hb.pol 117=false)(g o c:Nat) :
  A Tryz.prog TT (.func 187) [v,.int .i64 xs.length,.sl g o 8 c [encV x]] h0 (fun r h'=>SL 8 ((xs++[x]).map encV) r∧HE hb h'):=by
 have vc:=ac.sv.cells
 have vi:=ac.sv.isCell
 have vn:=ac.sv.nm
 have vl:=ac.sv.len Tryz.underlying64
 rw[List.length_map]at vl
 obtain⟨n,hn⟩:∃n,n=xs.length:=⟨_,rfl⟩
 rw[←hn]at vl hl ⊢
 have sl0:∃r,sliceAV Tryz.prog 64 v (some (.int .i64 (n:Int))) none none=some r:=by
  rcases ac with⟨rfl,hx⟩ | ⟨g,off,cap,rfl,_⟩
  ·have hz:n=0:=by
    have:xs.length=0:=by simpa using congrArg List.length hx
    omega
   subst hz
   exact⟨.nils,by simp[sliceAV,Tryz.underlying64,obound,bound]⟩
  ·exact⟨_,by simp[sliceAV,Tryz.underlying64,obound,bound,hn];rfl⟩
 obtain⟨r0,sl0⟩:=sl0
 have new1:newEls h0 8 true (.sl g o 8 c [encV x])=some [encV x]:=SV.newEls (.inr (.inl ⟨g,o,c,rfl⟩))
 simp only[encV]at new1 ⊢
 apply A_go Tryz.func187 rfl (by rfl);(case hn=>(simp[Tryz.ntmps187];rfl))
 refine vF (cJ sl0 (cJ vc (cJ vi (cJ vn vl)))) ?_
 with_reducible apply WO_app_i;(case hw=>(simp[sl0,vc,vi,vn,vl];done));(case ho=>rfl);(case hb=>rfl);(case ha=>(simp[sl0,vc,vi,vn,vl];first | done | exact⟨rfl,rfl⟩ | rfl));(case h1=>(simp;first | done | rfl));(case h2=>(simp;first | done | rfl))
 refine app_then (AC.appN (h0:=hb) etv ac he hp new1 (by simp;omega)) ?_
 rintro w h2 ⟨ac2,he2,_,_,_⟩
 have e2:=ac2.sv.cells
 have f2:=ac2.sv.isCell
 refine vP ?_
 refine vF (cJ e2 f2) ?_
 (first | apply endW_r | apply endW_n);(case h1=>(simp[Tryz.results187];first | done | rfl))
 exact⟨by simpa using ac2.sl,he2⟩
end Go.Vn

set_option maxRecDepth 20000
namespace Go.Vn
open Go.Proofs
abbrev Mem:Type:=List (List UInt8 × List Ver)
def NR:Mem→List Nd→Prop
 | [],[]=>True
 | m::M,n::ns=>(n.key=m.1∧SL 8 (m.2.map encV) n.v)∧NR M ns
 | _,_=>False
def findM(key:List UInt8):Mem→Option (List Ver)
 | []=>none
 | m::M=>if ltB m.1 key=true then findM key M else if m.1=key then some m.2 else none
def getM(key:List UInt8)(M:Mem):List Ver:=(findM key M).getD []
def insM(key:List UInt8)(vs:List Ver):Mem→Mem
 | []=>[(key,vs)]
 | m::M=>if ltB m.1 key=true then m::insM key vs M else(key,vs)::m::M
def setM(key:List UInt8)(vs:List Ver):Mem→Mem
 | []=>[]
 | m::M=>if ltB m.1 key=true then m::setM key vs M else(m.1,vs)::M
def putM(key:List UInt8)(vs:List Ver)(M:Mem):Mem:=match findM key M with | some _=>setM key vs M | none=>insM key vs M
def cntM:Mem→Nat
 | []=>0
 | m::M=>m.2.length+cntM M
def addM(M:Mem)(x:Ver):Mem:=putM x.key (getM x.key M++[x]) M
theorem findM_mem{key:List UInt8}{vs:List Ver}:∀{M:Mem},findM key M=some vs→(key,vs)∈M
 | [],h=>by cases h
 | m::M,h=>by
  unfold findM at h
  split at h
  ·exact List.mem_cons_of_mem _ (findM_mem h)
  ·split at h
   ·rename_i q;cases h;rw[←q];simp
   ·cases h
theorem insM_mem{key:List UInt8}{vs:List Ver}{a}:∀{M:Mem},a∈insM key vs M→a∈M∨a=(key,vs)
 | [],h=>.inr (by simpa[insM]using h)
 | m::M,h=>by
  unfold insM at h
  split at h
  ·rcases List.mem_cons.mp h with h | h
   ·exact .inl (by rw[h];simp)
   ·rcases insM_mem h with h | h
    ·exact .inl (List.mem_cons_of_mem _ h)
    ·exact .inr h
  ·rcases List.mem_cons.mp h with h | h
   ·exact .inr h
   ·exact .inl h
theorem setM_mem{key:List UInt8}{vs ws:List Ver}{a}:∀{M:Mem},findM key M=some ws→a∈setM key vs M→a∈M∨a=(key,vs)
 | [],hf,_=>by cases hf
 | m::M,hf,h=>by
  unfold findM at hf
  unfold setM at h
  split at h
  ·rename_i q
   rw[if_pos q]at hf
   rcases List.mem_cons.mp h with h | h
   ·exact .inl (by rw[h];simp)
   ·rcases setM_mem hf h with h | h
    ·exact .inl (List.mem_cons_of_mem _ h)
    ·exact .inr h
  ·rename_i q
   rw[if_neg q]at hf
   split at hf
   ·rename_i q2
    rcases List.mem_cons.mp h with h | h
    ·exact .inr (by rw[h,q2])
    ·exact .inl (List.mem_cons_of_mem _ h)
   ·cases hf
theorem putM_mem{key:List UInt8}{vs:List Ver}{M:Mem}{a}(h:a∈putM key vs M):a∈M∨a=(key,vs):=by
 unfold putM at h
 split at h
 ·rename_i hf;exact setM_mem hf h
 ·exact insM_mem h
theorem insM_len(key:List UInt8)(vs:List Ver):∀M:Mem,(insM key vs M).length=M.length+1∧cntM (insM key vs M)=cntM M+vs.length
 | []=>by simp[insM,cntM]
 | m::M=>by
  unfold insM
  have:=insM_len key vs M
  split
  ·simp only[List.length_cons,cntM]at this ⊢;omega
  ·refine⟨rfl,?_⟩
   show vs.length+(m.2.length+cntM M)=(m.2.length+cntM M)+vs.length
   omega
theorem setM_len(key:List UInt8)(vs ws:List Ver):∀M:Mem,findM key M=some ws→(setM key vs M).length=M.length∧cntM (setM key vs M)+ws.length=cntM M+vs.length
 | [],hf=>by cases hf
 | m::M,hf=>by
  unfold findM at hf
  unfold setM
  split
  ·rename_i q
   rw[if_pos q]at hf
   have:=setM_len key vs ws M hf
   simp only[List.length_cons,cntM]at this ⊢;omega
  ·rename_i q
   rw[if_neg q]at hf
   split at hf
   ·injection hf with hf
    subst hf
    refine⟨rfl,?_⟩
    show(vs.length+cntM M)+m.2.length=(m.2.length+cntM M)+vs.length
    omega
   ·cases hf
theorem addM_cnt(M:Mem)(x:Ver):cntM (addM M x)=cntM M+1:=by
 unfold addM putM getM
 cases hf:findM x.key M with
 | none=>
  have:=(insM_len x.key (((none:Option (List Ver)).getD [])++[x]) M).2
  simpa using this
 | some ws=>
  have:=(setM_len x.key (((some ws).getD [])++[x]) ws M hf).2
  simp only[Option.getD_some,List.length_append,List.length_singleton]at this ⊢
  omega
theorem NR.find{key:List UInt8}:∀{M:Mem} {ns:List Nd},NR M ns→(findN key ns).isSome=(findM key M).isSome∧SL 8 ((getM key M).map encV) (thingN key ns)
 | [],[],_=>⟨rfl,.inl ⟨rfl,rfl⟩⟩
 | m::M,n::ns,⟨⟨h1,h2⟩,h3⟩=>by
  unfold getM thingN findN findM
  rw[h1]
  by_cases q:ltB m.1 key=true
  ·rw[if_pos q,if_pos q];exact NR.find h3
  ·rw[if_neg q,if_neg q]
   by_cases q2:m.1=key
   ·rw[if_pos q2,if_pos q2];exact⟨rfl,h2⟩
   ·rw[if_neg q2,if_neg q2];exact⟨rfl,.inl ⟨rfl,rfl⟩⟩
theorem NR.len:∀{M:Mem} {ns:List Nd},NR M ns→ns.length=M.length
 | [],[],_=>rfl
 | _::_,_::_,h=>by simp[NR.len h.2]
theorem NR.ins{key:List UInt8}{vs:List Ver}{nd:Nd}(hk:nd.key=key)(hv:SL 8 (vs.map encV) nd.v):∀{M:Mem} {ns:List Nd},NR M ns→NR (insM key vs M) (insN key nd ns)
 | [],[],_=>⟨⟨hk,hv⟩,trivial⟩
 | m::M,n::ns,⟨⟨h1,h2⟩,h3⟩=>by
  unfold insM insN
  rw[h1]
  by_cases q:ltB m.1 key=true
  ·rw[if_pos q,if_pos q];exact⟨⟨h1,h2⟩,NR.ins hk hv h3⟩
  ·rw[if_neg q,if_neg q];exact⟨⟨hk,hv⟩,⟨h1,h2⟩,h3⟩
theorem NR.set{key:List UInt8}{vs:List Ver}{v:AV}(hv:SL 8 (vs.map encV) v):∀{M:Mem} {ns:List Nd},NR M ns→NR (setM key vs M) (setN key v ns)
 | [],[],_=>trivial
 | m::M,n::ns,⟨⟨h1,h2⟩,h3⟩=>by
  unfold setM setN
  rw[h1]
  by_cases q:ltB m.1 key=true
  ·rw[if_pos q,if_pos q];exact⟨⟨h1,h2⟩,NR.set hv h3⟩
  ·rw[if_neg q,if_neg q];exact⟨⟨rfl,hv⟩,h3⟩
structure IdxH(h:Hp Fm)(pc pl pn po:Nat)(M:Mem)(ns:List Nd):Prop where
 row:Mp.get h.obj pc=some (.row [.ptr pl 0,.int .i64 (cntM M)])
 sk:SkL h pl pn po ns M.length
 nr:NR M ns
 nd:(pc::pl::pn::po::objsN ns).Nodup
 cn:pc<h.no
theorem IdxH.he{h h':Hp Fm}{pc pl pn po:Nat}{M:Mem}{ns:List Nd}(k:IdxH h pc pl pn po M ns)(e:HE h h'):IdxH h' pc pl pn po M ns:=
 ⟨(e.obj _ k.cn).trans k.row,k.sk.he e,k.nr,k.nd,Nat.lt_of_lt_of_le k.cn e.no⟩
theorem IdxH.lt{h:Hp Fm}{pc pl pn po:Nat}{M:Mem}{ns:List Nd}(k:IdxH h pc pl pn po M ns):∀o∈pc::pl::pn::po::objsN ns,o<h.no:=by
 intro o ho
 have h1:=k.cn
 have h2:=k.sk.ln
 have h3:=k.sk.nn
 have h4:=k.sk.on
 simp only[List.mem_cons]at ho
 rcases ho with rfl | rfl | rfl | rfl | ho <;> try assumption
 obtain⟨m,hm,hz⟩:=List.mem_flatMap.mp ho
 have:=k.sk.c.lt m hm
 simp only[List.mem_cons,List.not_mem_nil,or_false]at hz
 rcases hz with hz | hz <;> omega
theorem cof_ans(key:List UInt8)(pc pl pn po:Nat)(M:Mem)(ns:List Nd)(h0:Hp Fm)(k0:IdxH h0 pc pl pn po M ns)(hl:cntM M≤1000000)(hgl:(getM key M).length≤1000000)(hp:h0.pol 117=false) :
  A Tryz.prog TT (.func 81) [.ptr pc 0,.str key] h0 (fun r h'=>AC h0 h' 8 ((getM key M).map encV) r∧HE h0 h'):=by
 have gc:=k0.row
 obtain⟨_,sl⟩:=k0.nr.find (key:=key)
 have tc:=sl.sv.cells
 have ti:=sl.sv.isCell
 apply A_go Tryz.func81 rfl (by rfl);(case hn=>(simp[Tryz.ntmps81];rfl))
 refine vF gc ?_
 refine A.mono (sget_ans key pl pn po ns _ h0 k0.sk) ?_
 rintro _ h1 ⟨rfl,e1⟩
 refine vP ?_
 refine vF (cJ tc ti) ?_
 refine A.mono (clonev_sl _ _ sl hgl h1 (by rw[e1.pol];exact hp)) ?_
 rintro w h2 ⟨ac,e2⟩
 have wc:=ac.sv.cells
 have wi:=ac.sv.isCell
 refine vP ?_
 refine vF (cJ wc wi) ?_
 (first | apply endW_r | apply endW_n);(case h1=>(simp[Tryz.results81];first | done | rfl))
 refine⟨?_,e1.trans e2⟩
 rcases ac with z | ⟨g,off,cap,a,b,c,d⟩
 ·exact .inl z
 ·exact .inr ⟨g,off,cap,a,b,c,Nat.le_trans e1.ng d⟩
theorem ckeys_ans(pc pl pn po:Nat)(M:Mem)(ns:List Nd)(h0:Hp Fm)(k0:IdxH h0 pc pl pn po M ns)(hl:M.length≤1000000)(hp:h0.pol 9=false) :
  A Tryz.prog TT (.func 79) [.ptr pc 0] h0 (fun r h'=>SV 1 (M.map fun m=>.str m.1) r∧HE h0 h'):=by
 have gc:=k0.row
 apply A_go Tryz.func79 rfl (by rfl);(case hn=>(simp[Tryz.ntmps79];rfl))
 refine vF gc ?_
 refine A.mono (srow_ans pl pn po ns _ h0 k0.sk (by rw[k0.nr.len];exact hl) hp) ?_
 rintro w h1 ⟨sv,e1⟩
 have wc:=sv.cells
 have wi:=sv.isCell
 refine vP ?_
 refine vF (cJ wc wi) ?_
 (first | apply endW_r | apply endW_n);(case h1=>(simp[Tryz.results79];first | done | rfl))
 have:∀{M:Mem} {ns:List Nd},NR M ns→ns.map (fun n=>AV.str n.key)=M.map fun m=>.str m.1:=by
  intro M
  induction M with
  | nil=>intro ns h;cases ns with
   | nil=>rfl
   | cons _ _=>exact h.elim
  | cons m M ih=>intro ns h;cases ns with
   | nil=>exact h.elim
   | cons n ns=>simp[h.1.1,ih h.2]
 rw[this k0.nr]at sv
 exact⟨sv,e1⟩
theorem vNf23{F G K:Prop}(f:F)(k:K)(h:F→K→G:=by intro f k;(repeat(first|with_reducible first|refine vmR ?_|refine vmV rfl ?_|refine vmW rfl ?_|refine vmL ?_|refine blockW_y (by decide) ?_|((with_reducible first|apply vmO|apply vmT|apply vmC);case a=>simp[f,buildSliceAV,newSeq,newSl];with_reducible first|exact .v|exact .c|exact .t|exact .f)));exact k):G:=h f k
set_option maxHeartbeats 4000000 in
theorem cadd_ans(x:Ver)(hx:VMay x=true)(hkl:x.key.length≤100000)(pc pl pn po:Nat)(M:Mem)(ns:List Nd)(h0:Hp Fm)(k0:IdxH h0 pc pl pn po M ns)(hl:cntM M≤900000)(hml:M.length≤900000)(hgl:(getM x.key M).length≤900000)(hlt:∀y∈getM x.key M,LtV y x) :
  A Tryz.prog TT (.func 182) [.ptr pc 0,encV x,.int .i64 1] h0 (fun r h'=>r=.int .i64 0∧∃ns',IdxH h' pc pl pn po (addM M x) ns'∧(∀o∈objsN ns',o∈objsN ns∨(h0.no≤o∧o<h'.no))∧HX (fun q=>q∈pc::pl::pn::po::objsN ns) (fun _=>False) h0 h'):=by
 obtain⟨hb,hhb⟩:∃hb:Hp Fm,hb={ h0 with pol:=(fun _=>false) }:=⟨_,rfl⟩
 have kb:IdxH hb pc pl pn po M ns:=by rw[hhb];exact⟨k0.row,k0.sk.pol _,k0.nr,k0.nd,k0.cn⟩
 have hbn:hb.no=h0.no:=by rw[hhb]
 have hbg:hb.ng=h0.ng:=by rw[hhb]
 have hbo:hb.obj=h0.obj:=by rw[hhb]
 have hbl:hb.len=h0.len:=by rw[hhb]
 have hbp:∀z,hb.pol z=false:=by rw[hhb];exact fun _=>rfl
 obtain⟨hA,hhA⟩:∃hA:Hp Fm,hA={ hb with obj:=Mp.set hb.obj hb.no (.row (encV x).cells),no:=hb.no+1 }:=⟨_,rfl⟩
 have eA:HE hb hA:=by rw[hhA];exact(HE.refl hb).new _
 have gA:Mp.get hA.obj h0.no=some (.row (encV x).cells):=by rw[hhA,←hbn];simp
 have nA:h0.no<hA.no:=by rw[hhA,←hbn];exact Nat.lt_succ_self _
 have hAe:hA={ h0 with obj:=Mp.set h0.obj h0.no (.row (encV x).cells),no:=h0.no+1,pol:=(fun _=>false) }:=by rw[hhA,hhb]
 clear hhA hhb
 simp only[encV,cells_agg]at gA hAe
 have kA:=kb.he eA
 have hpA:∀z,hA.pol z=false:=by rw[eA.pol];exact hbp
 have rm:=rowmay_ans x hA hkl hpA
 simp only[encV]at rm
 apply A_goT Tryz.func182 rfl (by rfl);(case hn=>(simp[Tryz.ntmps182];rfl))
 refine vZ ?_
 rw[←hAe]
 clear hAe
 refine vF gA ?_
 refine A.mono rm ?_
 rintro _ h1 ⟨rfl,e1⟩
 rw[hx]
 have g1:=(e1.obj _ nA).trans gA
 have k1:=kA.he e1
 have r1:=k1.row
 refine vP ?_
 refine vZ ?_
 obtain⟨hfi,sl⟩:=k1.nr.find (key:=x.key)
 have tc:=sl.sv.cells
 have ti:=sl.sv.isCell
 (with_reducible refine W_draw_id (pln:=true) [0,1,2,3,4,5,6,7,8,9,10,11] [(3,(3,[])),(5,(5,[]))] (by kernel_rfl) rfl ?_)
 refine vF (cJ g1 r1) ?_
 refine A.mono (sget_ans x.key pl pn po ns _ h1.drew (k1.sk.he (HE.refl h1).drew)) ?_
 rintro _ h2 ⟨rfl,e2⟩
 have e12:=((HE.refl h1).drew).trans e2
 have n1:h0.no<h1.no:=Nat.lt_of_lt_of_le nA e1.no
 have g2:=(e12.obj _ n1).trans g1
 have k2:=k1.he e12
 have r2:=k2.row
 refine vP ?_
 refine vF (cJ tc ti) ?_
 refine⟨by simp[readSame,beqAV_self,g1,r1,g2,r2];done,_,by simp;first | done | rfl,?_⟩
 refine vF (cJ tc (cJ ti g2)) ?_
 have hp2:∀z,h2.pol z=false:=by rw[e12.pol,e1.pol];exact hpA
 have bs:=bsend_ans (getM x.key M) _ sl (by omega) x hlt h2 (hp2 3)
 simp only[encV]at bs
 refine A.mono bs ?_
 rintro _ h3 ⟨rfl,e3⟩
 have n2:h0.no<h2.no:=Nat.lt_of_lt_of_le n1 e12.no
 have g3:=(e3.obj _ n2).trans g2
 have k3:=k2.he e3
 have r3:=k3.row
 have hp3:∀z,h3.pol z=false:=by rw[e3.pol];exact hp2
 refine vP ?_
 refine vF (cJ tc ti) ?_
 (with_reducible apply W_draw_i (pln:=false) [7,8,9,10,11,12,0,1,2,3,4,5,6,13] [(3,(9,[0,2])),(5,(11,[0,2])),(10,(3,[0]))] _ (by kernel_rfl));(case hl=>(simp only[inPlaces,List.filterMap_cons,List.filterMap_nil,List.getElem?_toArray,List.getElem?_cons_succ,List.getElem?_cons_zero];rfl))
 refine vF (cJ tc ti) ?_
 refine A.mono (clonev_sl (getM x.key M) _ sl (by omega) h3.drew (hp3 _)) ?_
 rintro w h4 ⟨ac4,e4⟩
 have e34:=((HE.refl h3).drew).trans e4
 have n3:h0.no<h3.no:=Nat.lt_of_lt_of_le n2 e3.no
 have g4:=(e34.obj _ n3).trans g3
 have r4:=(k3.he e34).row
 have wc:=ac4.sv.cells
 have wi:=ac4.sv.isCell
 have hp4:h4.pol 117=false:=by rw[e34.pol];exact hp3 _
 refine vP ?_
 refine vNf23 (cJ tc (cJ ti (cJ wc (cJ wi (cJ g4 hp4))))) ?_
 refine A_heap ?_
 intro h5 hh5
 have e45:HE h4 h5:=by rw[hh5];exact(HE.refl h4).newSl 1
 clear hh5
 have ins:=fun g=>insend_ans (getM x.key M) w h3.drew h5 (ac4.of e45) (e4.trans e45) (by omega) x (hp3 _) g 0 1
 simp only[encV]at ins
 refine A.mono (ins _) ?_
 rintro w2 h6 ⟨sl6,e6⟩
 have c6:=sl6.sv.cells
 have i6:=sl6.sv.isCell
 have e36:=((HE.refl h3).drew).trans e6
 have g6:=(e36.obj _ n3).trans g3
 have k6:=k3.he e36
 have r6:=k6.row
 refine vP ?_
 refine vF (cJ tc (cJ ti (cJ wc (cJ wi (cJ g4 (cJ g6 (cJ r6 (cJ c6 i6)))))))) ?_
 have slk:∀nx:Nd,nx.key=x.key→nx.v=w2→SL 8 ((getM x.key M++[x]).map encV) nx.v:=fun nx _ h=>by rw[h];exact sl6
 have m64:(0:Int)≤(M.length:Int)∧(M.length:Int)≤1000000000:=by omega
 have w1:IntKind.i64.wrap ((cntM M:Int)+1)=(cntM (addM M x):Int):=by rw[wrap64 (by omega) (by omega),addM_cnt];omega
 have put:A Tryz.prog TT (.func 186) [.ptr pl 0,.str x.key,.int .i64 1,w2] h6 (fun _ h7=>∃ns',SkL h7 pl pn po ns' (addM M x).length∧NR (addM M x) ns'∧(pc::pl::pn::po::objsN ns').Nodup∧(∀o∈objsN ns',o∈objsN ns∨(h6.no≤o∧o<h7.no))∧HX (fun q=>q∈pl::po::objsN ns) (fun _=>False) h6 h7):=by
  have nd0:=(List.nodup_cons.mp k6.nd)
  cases hf:findN x.key ns with
  | some nd=>
   have hM:∃ws,findM x.key M=some ws:=Option.isSome_iff_exists.mp (by rw[←hfi,hf];rfl)
   obtain⟨ws,hM⟩:=hM
   have ea:addM M x=setM x.key (getM x.key M++[x]) M:=by unfold addM putM;rw[hM]
   refine A.mono (sput_old x.key w2 ⟨c6,i6⟩ pl pn po ns _ h6 k6.sk nd0.2 nd hf) ?_
   rintro _ h7 ⟨sk,hx7⟩
   refine⟨setN x.key w2 ns,?_,?_,?_,?_,?_⟩
   ·rw[ea,(setM_len x.key _ ws M hM).1];exact sk
   ·rw[ea];exact NR.set sl6 k6.nr
   ·rw[objsN_set];exact k6.nd
   ·intro o ho;rw[objsN_set]at ho;exact .inl ho
   ·refine hx7.mono (fun o _ ho=>?_) (fun _ _ z=>z)
    rw[ho]
    have:=(findN_mem hf).1
    exact List.mem_cons_of_mem _ (List.mem_cons_of_mem _ (List.mem_flatMap.mpr ⟨nd,this,by simp⟩))
  | none=>
   have hM:findM x.key M=none:=by
    cases h:findM x.key M with
    | none=>rfl
    | some _=>rw[hf,h]at hfi;cases hfi
   have ea:addM M x=insM x.key (getM x.key M++[x]) M:=by unfold addM putM;rw[hM]
   refine A.mono (sput_new x.key w2 ⟨c6,i6⟩ pl pn po ns _ m64 h6 k6.sk nd0.2 hf) ?_
   rintro _ h7 ⟨p,o,hp,ho,hpo,hp7,ho7,sk,hx7⟩
   have pm:=objsN_ins x.key ⟨p,o,x.key,w2⟩ ns
   have lt6:=k6.lt
   refine⟨insN x.key ⟨p,o,x.key,w2⟩ ns,?_,?_,?_,?_,hx7⟩
   ·rw[ea,(insM_len x.key _ M).1]
    have:((M.length+1:Nat):Int)=(M.length:Int)+1:=by omega
    rw[this];exact sk
   ·rw[ea];exact NR.ins (nd:=⟨p,o,x.key,w2⟩) rfl sl6 k6.nr
   ·have pm2:(pc::pl::pn::po::objsN (insN x.key ⟨p,o,x.key,w2⟩ ns)).Perm (p::o::(pc::pl::pn::po::objsN ns)):=by
     refine(List.Perm.cons _ (List.Perm.cons _ (List.Perm.cons _ (List.Perm.cons _ pm)))).trans ?_
     have:=List.perm_append_comm (l₁:=[pc,pl,pn,po]) (l₂:=[p,o])
     exact List.Perm.append_right (objsN ns) this
    refine pm2.nodup_iff.mpr (List.nodup_cons.mpr ⟨?_,List.nodup_cons.mpr ⟨?_,k6.nd⟩⟩)
    ·intro hm
     rcases List.mem_cons.mp hm with z | z
     ·exact hpo z
     ·have:=lt6 p z;omega
    ·intro hm
     have:=lt6 o hm;omega
   ·intro q hq
    have:=pm.mem_iff.mp hq
    rcases List.mem_cons.mp this with z | z
    ·exact .inr ⟨by rw[z];exact hp,by rw[z];exact hp7⟩
    ·rcases List.mem_cons.mp z with z | z
     ·exact .inr ⟨by rw[z];exact ho,by rw[z];exact ho7⟩
     ·exact .inl z
 refine A.mono put ?_
 rintro rv h7 ⟨ns',sk7,nr7,nd7,on7,hx7⟩
 have pcS:¬(pc∈pl::po::objsN ns):=fun z=>(List.nodup_cons.mp k6.nd).1 (by
  rcases List.mem_cons.mp z with z | z
  ·rw[z];simp
  ·rcases List.mem_cons.mp z with z | z
   ·rw[z];simp
   ·simp[z])
 have r7:=(hx7.obj pc k6.cn pcS).trans r6
 have nS:∀o,h0.no≤o→¬(o∈pl::po::objsN ns):=fun o ho z=>by
  have:=k0.lt o (by
   rcases List.mem_cons.mp z with z | z
   ·rw[z];simp
   ·rcases List.mem_cons.mp z with z | z
    ·rw[z];simp
    ·simp[z])
  omega
 have n6:h0.no<h6.no:=Nat.lt_of_lt_of_le n3 e36.no
 have g7:=(hx7.obj h0.no n6 (nS _ (Nat.le_refl _))).trans g6
 refine vP ?_
 refine vF (cJ tc (cJ ti (cJ wc wi))) ?_
 refine⟨by simp[readSame,beqAV_self,tc,ti,g3,g4,g6,g7,r3,r4,r6,r7];done,_,by simp;first | done | rfl,?_⟩
 refine vF (cJ r7 w1) ?_
 (first | apply endW_r | apply endW_n);(case h1=>(simp[Tryz.results182];first | done | rfl))
 have e06:HE hb h6:=eA.trans (e1.trans (e12.trans (e3.trans e36)))
 have ndx:=List.nodup_cons.mp nd7
 refine⟨rfl,ns',⟨?_,?_,nr7,nd7,?_⟩,?_,?_⟩
 ·show Mp.get (Mp.set h7.obj pc _) pc=_
  rw[Mp.get_set,if_pos rfl]
 ·have ob:∀r,∀o,o≠pc→Mp.get (Mp.set h7.obj pc r) o=Mp.get h7.obj o:=fun r o ho=>by rw[Mp.get_set,if_neg ho]
  refine⟨?_,?_,?_,?_,sk7.ln,sk7.nn,sk7.on⟩
  ·exact(ob _ pl (fun z=>ndx.1 (by rw[←z];simp))).trans sk7.l
  ·exact(ob _ pn (fun z=>ndx.1 (by rw[←z];simp))).trans sk7.n
  ·exact(ob _ po (fun z=>ndx.1 (by rw[←z];simp))).trans sk7.o
  ·refine sk7.c.of (fun m hm=>⟨ob _ _ (fun z=>ndx.1 ?_),ob _ _ (fun z=>ndx.1 ?_)⟩) (Nat.le_refl _)
   ·rw[←z];simp only[List.mem_cons];exact .inr (.inr (.inr (List.mem_flatMap.mpr ⟨m,hm,by simp⟩)))
   ·rw[←z];simp only[List.mem_cons];exact .inr (.inr (.inr (List.mem_flatMap.mpr ⟨m,hm,by simp⟩)))
 ·show pc<h7.no
  exact Nat.lt_of_lt_of_le k6.cn hx7.no
 ·intro o ho
  rcases on7 o ho with z | ⟨z,z2⟩
  ·exact .inl z
  ·exact .inr ⟨by have:=e06.no;omega,z2⟩
 ·refine⟨?_,?_,rfl,fun o ho hs=>?_,fun g hg _=>?_⟩
  ·show h0.no≤h7.no
   have:=e06.no
   have:=hx7.no
   omega
  ·show h0.ng≤h7.ng
   have:=e06.ng
   have:=hx7.ng
   omega
  ·have h1:o≠pc:=fun z=>hs (by rw[z];simp)
   have h2:¬o∈pl::po::objsN ns:=fun z=>hs (by
    rcases List.mem_cons.mp z with z | z
    ·rw[z];simp
    ·rcases List.mem_cons.mp z with z | z
     ·rw[z];simp
     ·simp[z])
   show Mp.get (Mp.set h7.obj pc _) o=_
   rw[Mp.get_set,if_neg h1]
   have:=e06.no
   exact(hx7.obj o (by omega) h2).trans ((e06.obj o (by omega)).trans (by rw[hbo]))
  ·have:=e06.ng
   exact(hx7.len g (by omega) (fun z=>z)).trans ((e06.len g (by omega)).trans (by rw[hbl]))
end Go.Vn

set_option maxRecDepth 20000
namespace Go.Vn
open Go.Proofs
structure VOk(k:List UInt8)(vs:List Ver):Prop where
 all:∀v∈vs,v.key=k∧v.br=0∧v.ep≤10000
 rise:vs.Pairwise LtV
def MOk(M:Mem):Prop:=∀m∈M,VOk m.1 m.2
theorem MOk.get{M:Mem}(h:MOk M)(key:List UInt8):VOk key (getM key M):=by
 unfold getM
 cases hf:findM key M with
 | none=>exact⟨fun v hv=>(by cases hv),List.Pairwise.nil⟩
 | some vs=>exact h _ (findM_mem hf)
theorem getM_len(key:List UInt8)(M:Mem):(getM key M).length≤cntM M:=by
 unfold getM
 cases hf:findM key M with
 | none=>exact Nat.zero_le _
 | some vs=>
  have:∀{M:Mem} {m},m∈M→m.2.length≤cntM M:=by
   intro M
   induction M with
   | nil=>intro m h;cases h
   | cons a M ih=>
    intro m h
    simp only[cntM]
    rcases List.mem_cons.mp h with rfl | h
    ·omega
    ·have:=ih h;omega
  exact this (findM_mem hf)
abbrev path0:List Lg:=[⟨0,10000⟩]
theorem pathB0(bs:List Br):pathB bs 0 10000=path0:=by simp[pathB,pathP]
theorem legV0{v:Ver}(h1:v.br=0)(h2:v.ep≤10000):legV path0 v=0:=by
 unfold legV legI firstI
 simp[sees,h1,h2]
theorem VOk.seen{k:List UInt8}{vs:List Ver}(h:VOk k vs):∀x∈vs,unseen path0 x=false:=fun x hx=>by
 obtain⟨_,h1,h2⟩:=h.all x hx
 simp[unseen,legV0 h1 h2]
theorem VOk.dec{k:List UInt8}{vs:List Ver}(h:VOk k vs):NDec path0 vs:=by
 intro i j hj hij
 obtain⟨_,a1,a2⟩:=h.all vs[j] (List.getElem_mem _)
 obtain⟨_,b1,b2⟩:=h.all (vs[i]'(by omega)) (List.getElem_mem _)
 unfold cmpO
 rw[legV0 a1 a2,legV0 b1 b2]
 by_cases e:i=j
 ·subst e;simp[orI,cmpI]
 ·obtain⟨_,_,hl⟩:=List.pairwise_iff_getElem.mp h.rise i j (by omega) hj (by omega)
  rcases hl with z | ⟨z,z2 | ⟨z2,z3⟩⟩
  ·have:¬(vs[j]).ep<(vs[i]'(by omega)).ep:=by omega
   simp[orI,cmpI,z,this]
  ·have:¬(vs[j]).sq<(vs[i]'(by omega)).sq:=by omega
   simp[orI,cmpI,z,z2,this]
  ·have:¬(vs[j]).fr<(vs[i]'(by omega)).fr:=by omega
   simp[orI,cmpI,z,z2,z3,this]
theorem SkL.of{h h':Hp Fm}{pl pn po:Nat}{ns:List Nd}{many:Int}(k:SkL h pl pn po ns many)(ho:∀o∈pl::pn::po::objsN ns,Mp.get h'.obj o=Mp.get h.obj o)(hn:h.no≤h'.no):SkL h' pl pn po ns many:=
 ⟨(ho _ (by simp)).trans k.l,(ho _ (by simp)).trans k.n,(ho _ (by simp)).trans k.o,k.c.of (fun m hm=>⟨ho _ (by
  have:m.p∈objsN ns:=List.mem_flatMap.mpr ⟨m,hm,by simp⟩
  simp[this]),ho _ (by
  have:m.o∈objsN ns:=List.mem_flatMap.mpr ⟨m,hm,by simp⟩
  simp[this])⟩) hn,Nat.lt_of_lt_of_le k.ln hn,Nat.lt_of_lt_of_le k.nn hn,Nat.lt_of_lt_of_le k.on hn⟩
theorem IdxH.of{h h':Hp Fm}{pc pl pn po:Nat}{M:Mem}{ns:List Nd}(k:IdxH h pc pl pn po M ns)(ho:∀o∈pc::pl::pn::po::objsN ns,Mp.get h'.obj o=Mp.get h.obj o)(hn:h.no≤h'.no):IdxH h' pc pl pn po M ns:=
 ⟨(ho _ (by simp)).trans k.row,k.sk.of (fun o hm=>ho o (List.mem_cons_of_mem _ hm)) hn,k.nr,k.nd,Nat.lt_of_lt_of_le k.cn hn⟩
structure MemH(h:Hp Fm)(D:Nat→Prop)(pm:Nat)(bs:List Br)(M:Mem):Prop where
 ex:∃pc pl pn po ns bv,Mp.get h.obj pm=some (.row [.ptr pc 0,bv])∧IdxH h pc pl pn po M ns∧BRs 0 h bs bv∧pm∉pc::pl::pn::po::objsN ns∧(∀q,isRow bv q→D q∧q∉pm::pc::pl::pn::po::objsN ns)∧(∀o∈pm::pc::pl::pn::po::objsN ns,D o)
 ok:BOk bs
 lt:∀o,D o→o<h.no
theorem MemH.of{h h':Hp Fm}{D S G:Nat→Prop}{pm:Nat}{bs:List Br}{M:Mem}(k:MemH h D pm bs M)(hx:HX S G h h')(hS:∀o,D o→¬S o):MemH h' D pm bs M:=by
 obtain⟨pc,pl,pn,po,ns,bv,a,b,c,d,e,f⟩:=k.ex
 have ho:∀o,D o→Mp.get h'.obj o=Mp.get h.obj o:=fun o hD=>hx.obj o (k.lt o hD) (hS o hD)
 exact⟨⟨pc,pl,pn,po,ns,bv,(ho pm (f pm (by simp))).trans a,b.of (fun o hm=>ho o (f o (List.mem_cons_of_mem _ hm))) hx.no,RS.of c hx (fun q hq=>hS q (e q hq).1),d,e,f⟩,k.ok,fun o hD=>Nat.lt_of_lt_of_le (k.lt o hD) hx.no⟩
theorem MemH.he{h h':Hp Fm}{D:Nat→Prop}{pm:Nat}{bs:List Br}{M:Mem}(k:MemH h D pm bs M)(e:HE h h'):MemH h' D pm bs M:=k.of (e.x (fun _=>False) (fun _=>False)) (fun _ _ z=>z)
set_option maxHeartbeats 1000000 in
theorem mrows_ans(key:List UInt8)(pm:Nat)(D:Nat→Prop)(bs:List Br)(M:Mem)(hM:MOk M)(hc:cntM M≤900000)(h0:Hp Fm)(k0:MemH h0 D pm bs M)(hp:h0.pol 187=false)(hp2:h0.pol 117=false) :
  A Tryz.prog TT (.func 52) [.ptr pm 0,.int .i64 0,.str key] h0 (fun r h'=>SL 8 ((getM key M).map encV) r∧HE h0 h'):=by
 obtain⟨pc,pl,pn,po,ns,bv,a1,a2,a3,a4,a5,a6⟩:=k0.ex
 have b1:pm<h0.no:=k0.lt pm (a6 pm (by simp))
 have vc:=a3.cells
 have vi:=a3.isCell
 have gl:=getM_len key M
 apply A_go Tryz.func52 rfl (by rfl);(case hn=>(simp[Tryz.ntmps52];rfl))
 refine vZ ?_
 (with_reducible refine W_draw_id (pln:=true) [0,1,2,3,4,5,6,7,8,9,10,11,12,13] [(3,(3,[])),(9,(9,[0]))] (by kernel_rfl) rfl ?_)
 refine vF a1 ?_
 refine A.mono (cof_ans key pc pl pn po M ns _ (a2.he (HE.refl h0).drew) (by omega) (by omega) hp2) ?_
 rintro w h1 ⟨ac,e1⟩
 have wc:=ac.sv.cells
 have wi:=ac.sv.isCell
 refine vP ?_
 have e01:=((HE.refl h0).drew).trans e1
 have m1:=(e01.obj _ b1).trans a1
 refine vF (cJ a1 (cJ m1 (cJ vc (cJ vi (cJ wc wi))))) ?_
 refine A.mono (tpath_ans 0 bs bv k0.ok 0 (by have:=k0.ok.ge;omega) 10000 h1 (RS.he a3 e01) (by rw[e01.pol];exact hp)) ?_
 rintro r2 h2 ⟨ac2,e2⟩
 have rc:=ac2.sv.cells
 have ri:=ac2.sv.isCell
 refine vP ?_
 refine vF (cJ rc (cJ ri (cJ wc wi))) ?_
 rw[pathB0]at ac2
 have vo:=hM.get key
 refine A.mono (order_id path0 r2 ac2.sv (by simp) (getM key M) w ac.sl (by omega) vo.seen vo.dec h2) ?_
 rintro r3 h3 ⟨s3,e3⟩
 have rc3:=s3.sv.cells
 have ri3:=s3.sv.isCell
 refine vP ?_
 have e03:=e01.trans (e2.trans e3)
 have m2:=((e2.trans e3).obj _ (Nat.lt_of_lt_of_le b1 e01.no)).trans m1
 have m3:=(e2.obj _ (Nat.lt_of_lt_of_le b1 e01.no)).trans m1
 refine vF (cJ rc3 ri3) ?_
 refine⟨by simp[readSame,beqAV_self,a1,m1,m2,m3,vc,vi];done,_,by simp;first | done | rfl,?_⟩
 refine vZ ?_
 (first | apply endW_r | apply endW_n);(case h1=>(simp[Tryz.results52];first | done | rfl))
 exact⟨s3,e03⟩
def keyIn(M:Mem)(a b:List UInt8)(k:List UInt8):Bool := !ltB k a&&(ltB k b&&decide (0<(getM k M).length))
def keysM(M:Mem)(a b:List UInt8):List (List UInt8):=(M.map (·.1)).filter (keyIn M a b)
theorem vNg22{F G K:Prop}(f:F)(k:K)(h:F→K→G:=by intro f k;(repeat(first|with_reducible first|refine vmR ?_|refine vmV rfl ?_|refine vmW rfl ?_|refine vmL ?_|refine blockW_y (by decide) ?_|((with_reducible first|apply vmO|apply vmT|apply vmC);case a=>simp[f,newSeq,newSl];with_reducible first|exact .v|exact .c|exact .t|exact .f)));exact k):G:=h f k
set_option maxHeartbeats 1000000 in
theorem mkeys_ans(fr to:List UInt8)(pm:Nat)(D:Nat→Prop)(bs:List Br)(M:Mem)(hM:MOk M)(hc:cntM M≤900000)(hml:M.length≤900000)(h0:Hp Fm)(k0:MemH h0 D pm bs M)(hp:h0.pol 187=false)(hp2:h0.pol 117=false)(hp3:h0.pol 9=false) :
  A Tryz.prog TT (.func 51) [.ptr pm 0,.int .i64 0,.str fr,.str to] h0 (fun r h'=>SV 1 ((keysM M fr to).map .str) r∧HE h0 h'):=by
 obtain⟨pc,pl,pn,po,ns,bv,a1,a2,a3,a4,a5,a6⟩:=k0.ex
 have b1:pm<h0.no:=k0.lt pm (a6 pm (by simp))
 apply A_go Tryz.func51 rfl (by rfl);(case hn=>(simp[Tryz.ntmps51];rfl))
 refine vF a1 ?_
 refine A.mono (ckeys_ans pc pl pn po M ns h0 a2 (by omega) hp3) ?_
 rintro w h1 ⟨sv,e1⟩
 have wc:=sv.cells
 have wi:=sv.isCell
 have wn:=sv.nm
 have wl:=sv.len Tryz.underlying113
 rw[List.length_map]at wl
 obtain⟨n,hn⟩:∃n,n=M.length:=⟨_,rfl⟩
 rw[←hn]at wl
 refine vP ?_
 refine vF (cJ wc (cJ wi (cJ wn wl))) ?_
 refine W_loop (fun z s=>∃(t:Fm AV) (h:Hp Fm) (i:Nat) (a:AV),s=⟨t,44,h,none⟩∧z=n-i∧i≤n∧tget t 0=.ptr pm 0∧tget t 1=.int .i64 0∧tget t 2=.str fr∧tget t 3=.str to∧tget t 9=a∧tget t 16=w∧tget t 17=.int .i64 n∧tget t 18=.int .i64 i∧AC h0 h 1 ((((M.take i).map (·.1)).filter (keyIn M fr to)).map .str) a∧HE h0 h) n
  ⟨_,_,0,_,rfl,rfl,by omega,by simp,by simp,by simp,by simp,rfl,by simp,by simp,by simp,.inl ⟨by simp,rfl⟩,e1⟩ ?_
 rintro _ s ⟨t,h,i,a,rfl,rfl,hi,t0,t1,t2,t3,t9,t16,t17,t18,ac,he⟩
 have uc:=ac.sv.cells
 have ui:=ac.sv.isCell
 by_cases q:i<n
 case neg=>
  have q':¬(i:Int)<n:=by omega
  rw[List.take_of_length_le (by omega)]at ac
  refine vF (cJ t9 (cJ t17 (cJ t18 (cJ q (cJ q' (cJ uc ui)))))) ?_
  (first | apply endW_r | apply endW_n);(case h1=>(simp[Tryz.results51];first | done | rfl))
  exact⟨ac.sv,he⟩
 have q':(i:Int)<n:=by omega
 obtain⟨k,hk⟩:∃k,k=(M[i]'(by omega)).1:=⟨_,rfl⟩
 have ix:=sv.idx (k:=.i64) (i:=(i:Int)) Tryz.underlying113 z9 (by omega) (by rw[List.length_map];omega)
 have ix':indexAddrAV Tryz.prog 113 w (.int .i64 (i:Int))=some (.el (.str k) 0):=by rw[ix];simp[hk]
 obtain⟨ip,hip⟩:∃ip,ip=i+1:=⟨_,rfl⟩
 have wip:IntKind.i64.wrap ((i:Int)+1)=(ip:Int):=by rw[wrap64 (by omega) (by omega)];omega
 have step:((M.take ip).map (·.1)).filter (keyIn M fr to)=((M.take i).map (·.1)).filter (keyIn M fr to)++(if keyIn M fr to k then [k]else []):=by
  rw[hip,List.take_succ_eq_append_getElem (by omega),List.map_append,List.filter_append,List.map_cons,List.map_nil,←hk]
  congr 1
  rw[List.filter_cons];rfl
 by_cases q1:ltB k fr=true
 ·have kf:keyIn M fr to k=false:=by simp[keyIn,q1]
  rw[kf]at step
  simp only[Bool.false_eq_true,if_false,List.append_nil]at step
  refine vF (cJ t0 (cJ t1 (cJ t2 (cJ t3 (cJ t9 (cJ t16 (cJ t17 (cJ t18 (cJ q (cJ q' (cJ ix' (cJ q1 wip)))))))))))) ?_
  exact⟨n-ip,by omega,_,_,ip,_,rfl,rfl,by omega,by simp[t0],by simp[t1],by simp[t2],by simp[t3],rfl,by simp[t16],by simp[t17],by simp,by rw[step];simpa[t9]using ac,he⟩
 simp only[Bool.not_eq_true]at q1
 by_cases q2:ltB k to=true
 case neg=>
  simp only[Bool.not_eq_true]at q2
  have kf:keyIn M fr to k=false:=by simp[keyIn,q1,q2]
  rw[kf]at step
  simp only[Bool.false_eq_true,if_false,List.append_nil]at step
  refine vF (cJ t0 (cJ t1 (cJ t2 (cJ t3 (cJ t9 (cJ t16 (cJ t17 (cJ t18 (cJ q (cJ q' (cJ ix' (cJ q1 (cJ q2 wip))))))))))))) ?_
  exact⟨n-ip,by omega,_,_,ip,_,rfl,rfl,by omega,by simp[t0],by simp[t1],by simp[t2],by simp[t3],rfl,by simp[t16],by simp[t17],by simp,by rw[step];simpa[t9]using ac,he⟩
 refine vF (cJ t0 (cJ t1 (cJ t2 (cJ t3 (cJ t9 (cJ t16 (cJ t17 (cJ t18 (cJ q (cJ q' (cJ ix' (cJ q1 q2)))))))))))) ?_
 refine A.mono (mrows_ans k pm D bs M hM hc h (k0.he he) (by rw[he.pol];exact hp) (by rw[he.pol];exact hp2)) ?_
 rintro r h2 ⟨sl,e2⟩
 have rc:=sl.sv.cells
 have ri:=sl.sv.isCell
 have rn:=sl.sv.nm
 have rl:=sl.sv.len Tryz.underlying64
 rw[List.length_map]at rl
 have he2:=he.trans e2
 have ac2:=ac.of e2
 refine vP ?_
 obtain⟨c,hcc⟩:∃c,c=(getM k M).length:=⟨_,rfl⟩
 rw[←hcc]at rl
 by_cases q3:0<c
 case neg=>
  have q3':¬(0:Int)<c:=by omega
  have kf:keyIn M fr to k=false:=by simp[keyIn,q1,q2,←hcc,q3]
  rw[kf]at step
  simp only[Bool.false_eq_true,if_false,List.append_nil]at step
  refine vF (cJ t9 (cJ t18 (cJ rc (cJ ri (cJ rn (cJ rl (cJ q3 (cJ q3' wip)))))))) ?_
  exact⟨n-ip,by omega,_,_,ip,_,rfl,rfl,by omega,by simp[t0],by simp[t1],by simp[t2],by simp[t3],rfl,by simp[t16],by simp[t17],by simp,by rw[step];simpa[t9]using ac2,he2⟩
 have q3':(0:Int)<c:=by omega
 have kf:keyIn M fr to k=true:=by simp[keyIn,q1,q2,←hcc,q3]
 rw[kf]at step
 simp only[if_true]at step
 have hph:h2.pol 9=false:=by rw[he2.pol];exact hp3
 refine vNg22 (cJ t9 (cJ t18 (cJ rc (cJ ri (cJ rn (cJ rl (cJ q3 (cJ q3' (cJ uc (cJ ui hph)))))))))) ?_
 with_reducible apply WO_app_i;(case hw=>(simp[t9,t18,uc,ui,newSeq,newSl,hph];done));(case ho=>rfl);(case hb=>rfl);(case ha=>(simp[t9,t18,uc,ui,newSeq,newSl,hph];first | done | exact⟨rfl,rfl⟩ | rfl));(case h1=>(simp;first | done | rfl));(case h2=>(simp;first | done | rfl))
 have accl:((((M.take i).map (·.1)).filter (keyIn M fr to)).map AV.str).length≤i:=by
  rw[List.length_map]
  refine Nat.le_trans (List.length_filter_le _ _) ?_
  rw[List.length_map,List.length_take];omega
 refine app_then (AC.app (h0:=h0) etS (ac2.of ((HE.refl h2).newSl 1)) (he2.newSl 1) hp3 (by omega)) ?_
 rintro x4 h4 ⟨ac4,he4,hob,hno,_⟩
 have e4:=ac4.sv.cells
 have f4:=ac4.sv.isCell
 refine vP ?_
 refine vF (cJ t18 (cJ e4 (cJ f4 wip))) ?_
 exact⟨n-ip,by omega,_,_,ip,_,rfl,rfl,by omega,by simp[t0],by simp[t1],by simp[t2],by simp[t3],rfl,by simp[t16],by simp[t17],by simp,by rw[step];simpa using ac4,he4⟩
set_option maxHeartbeats 1000000 in
theorem mput_ans(x:Ver)(hx:VMay x=true)(hkl:x.key.length≤100000)(pm:Nat)(D:Nat→Prop)(bs:List Br)(M:Mem)(hc:cntM M≤900000)(hml:M.length≤900000)(hlt:∀y∈getM x.key M,LtV y x)(h0:Hp Fm)(k0:MemH h0 D pm bs M) :
  A Tryz.prog TT (.func 181) [.ptr pm 0,encV x] h0 (fun _ h'=>MemH h' (fun o=>D o∨(h0.no≤o∧o<h'.no)) pm bs (addM M x)∧HX D (fun _=>False) h0 h'):=by
 obtain⟨pc,pl,pn,po,ns,bv,a1,a2,a3,a4,a5,a6⟩:=k0.ex
 have b1:pm<h0.no:=k0.lt pm (a6 pm (by simp))
 have z1:pm≠h0.no:=by omega
 have gl:=getM_len x.key M
 obtain⟨h1,hh1⟩:∃h1:Hp Fm,h1={ h0 with obj:=Mp.set h0.obj h0.no (.row (encV x).cells),no:=h0.no+1 }:=⟨_,rfl⟩
 have e1:HE h0 h1:=by rw[hh1];exact(HE.refl h0).new _
 have g1:Mp.get h1.obj h0.no=some (.row (encV x).cells):=by rw[hh1];simp
 have n1:h1.no=h0.no+1:=by rw[hh1]
 simp only[encV,cells_agg]at hh1 g1
 have e1d:=(e1).drew
 have ca:=cadd_ans x hx hkl pc pl pn po M ns h1.drew (a2.he e1d) hc hml (by omega) hlt
 simp only[encV]at ca
 have m1:=(e1.obj _ b1).trans a1
 apply A_go Tryz.func181 rfl (by rfl);(case hn=>(simp[Tryz.ntmps181];rfl))
 refine vZ ?_
 rw[←hh1]
 clear hh1
 (with_reducible refine W_draw_id (pln:=true) [0,1,2,3,4,5] [(3,(3,[])),(4,(4,[]))] (by kernel_rfl) rfl ?_)
 refine vF (cJ m1 g1) ?_
 refine A.mono ca ?_
 rintro _ h2 ⟨rfl,ns',k2,on2,hx2⟩
 have S1:∀o,D o→o<h0.no:=k0.lt
 have pmS:¬(pm∈pc::pl::pn::po::objsN ns):=a4
 have m2:=(hx2.obj pm (by show pm<h1.no;omega) pmS).trans m1
 have nS:¬(h0.no∈pc::pl::pn::po::objsN ns):=fun z=>by have:=S1 _ (a6 _ (List.mem_cons_of_mem _ z));omega
 have g2:=(hx2.obj h0.no (by show h0.no<h1.no;omega) nS).trans g1
 refine vP ?_
 refine vF (cJ m1 (cJ m2 (cJ g1 g2))) ?_
 refine⟨by simp[readSame,beqAV_self,m1,m2,g1,g2];done,_,by simp;first | done | rfl,?_⟩
 refine vZ ?_
 (first | apply endW_r | apply endW_n);(case h1=>(simp[Tryz.results181];first | done | rfl))
 have n12:h0.no+1≤h2.no:=by rw[←n1];exact hx2.no
 have hx02:HX D (fun _=>False) h0 h2:=by
  refine⟨by omega,Nat.le_trans e1d.ng hx2.ng,hx2.pol.trans e1d.pol,fun o ho hs=>?_,fun g hg _=>?_⟩
  ·exact(hx2.obj o (by show o<h1.no;omega) (fun z=>hs (a6 o (List.mem_cons_of_mem _ z)))).trans (e1d.obj o ho)
  ·exact(hx2.len g (Nat.lt_of_lt_of_le hg e1d.ng) (fun z=>z)).trans (e1d.len g hg)
 have inN:∀o,o∈pc::pl::pn::po::objsN ns'→o∈pc::pl::pn::po::objsN ns∨(h0.no≤o∧o<h2.no):=fun o ho=>by
  simp only[List.mem_cons]at ho ⊢
  rcases ho with z | z | z | z | z
  ·exact .inl (.inl z)
  ·exact .inl (.inr (.inl z))
  ·exact .inl (.inr (.inr (.inl z)))
  ·exact .inl (.inr (.inr (.inr (.inl z))))
  ·rcases on2 o z with y | ⟨y,y2⟩
   ·exact .inl (.inr (.inr (.inr (.inr y))))
   ·exact .inr ⟨by have:h1.drew.no=h1.no:=rfl;omega,y2⟩
 refine⟨⟨⟨pc,pl,pn,po,ns',bv,m2,k2,RS.of a3 (hx2 |> fun(z:HX _ _ _ _)=>(show HX (fun q=>q∈pc::pl::pn::po::objsN ns) (fun _=>False) h0 h2 from⟨hx02.no,hx02.ng,hx02.pol,fun o ho hs=>(z.obj o (by show o<h1.no;omega) hs).trans (e1d.obj o ho),hx02.len⟩)) (fun q hq z=>(a5 q hq).2 (List.mem_cons_of_mem _ z)),?_,?_,?_⟩,k0.ok,?_⟩,hx02⟩
 ·intro hm
  rcases inN pm hm with z | z
  ·exact a4 z
  ·omega
 ·intro q hq
  refine⟨.inl (a5 q hq).1,fun hm=>?_⟩
  rcases List.mem_cons.mp hm with z | z
  ·exact(a5 q hq).2 (by rw[z];simp)
  ·rcases inN q z with y | y
   ·exact(a5 q hq).2 (List.mem_cons_of_mem _ y)
   ·have:=S1 q (a5 q hq).1;omega
 ·intro o ho
  rcases List.mem_cons.mp ho with z | z
  ·exact .inl (by rw[z];exact a6 pm (by simp))
  ·rcases inN o z with y | y
   ·exact .inl (a6 o (List.mem_cons_of_mem _ y))
   ·exact .inr y
 ·intro o ho
  rcases ho with z | z
  ·have:=S1 o z
   show o<h2.no
   omega
  ·exact z.2
end Go.Vn
