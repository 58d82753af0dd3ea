/- What functions of the program come to, in the value machine (a part of the proof of the claim's statement). No condition. -/
import Derived.Test.YtplcehpejjfjoaaGreatVnG4
import Derived.Test.YtplcehpejjfjoaaGreatVnG1
set_option linter.unusedSimpArgs false
set_option linter.unusedVariables false
set_option maxRecDepth 20000
namespace Go.Vn
open Go.Proofs
@[simp] def encS2(a b:Int):AV:=.agg [.int .i64 a,.int .i64 b]
@[simp] def encP(p:Pc):AV:=.agg [.int .i64 p.fr,.int .i64 p.to,.str p.val]
theorem may_ans(a b:Int)(h0:Hp Fm):A Tryz.prog TT (.func 69) [encS2 a b] h0 (fun r h'=>r=.bool (decide (May a b))∧HE h0 h'):=by
 by_cases q1:0≤a
 ·by_cases q2:a<b
  ·by_cases q3:b≤1099511627776
   ·apply A_go Tryz.func69 rfl (by rfl);(case hn=>(simp[Tryz.ntmps69];rfl))
    refine vF (cJ q1 (cJ q2 q3)) ?_
    (first | apply endW_r | apply endW_n);(case h1=>(simp[Tryz.results69];first | done | rfl))
    exact⟨by simp[May,q1,q2,q3],(HE.refl h0).new _⟩
   ·apply A_go Tryz.func69 rfl (by rfl);(case hn=>(simp[Tryz.ntmps69];rfl))
    refine vF (cJ q1 (cJ q2 q3)) ?_
    (first | apply endW_r | apply endW_n);(case h1=>(simp[Tryz.results69];first | done | rfl))
    exact⟨by simp[May,q1,q2,q3],(HE.refl h0).new _⟩
  ·apply A_go Tryz.func69 rfl (by rfl);(case hn=>(simp[Tryz.ntmps69];rfl))
   refine vF (cJ q1 q2) ?_
   (first | apply endW_r | apply endW_n);(case h1=>(simp[Tryz.results69];first | done | rfl))
   exact⟨by simp[May,q1,q2],(HE.refl h0).new _⟩
 ·apply A_go Tryz.func69 rfl (by rfl);(case hn=>(simp[Tryz.ntmps69];rfl))
  refine vF q1 ?_
  (first | apply endW_r | apply endW_n);(case h1=>(simp[Tryz.results69];first | done | rfl))
  exact⟨by simp[May,q1],(HE.refl h0).new _⟩
theorem has_ans(a b t:Int)(h0:Hp Fm):A Tryz.prog TT (.func 76) [encS2 a b,.int .i64 t] h0 (fun r h'=>r=.bool (decide (Has a b t))∧HE h0 h'):=by
 apply A_go Tryz.func76 rfl (by rfl);(case hn=>(simp[Tryz.ntmps76];rfl))
 refine vZ ?_
 refine A.mono (may_ans a b _) ?_
 rintro _ hh ⟨rfl,heh⟩
 have g1:Mp.get hh.obj h0.no=some (.row [.int .i64 a,.int .i64 b]):=by rw[heh.obj _ (by simp)];simp
 refine vP ?_
 by_cases q1:May a b
 ·by_cases q2:a≤t
  ·by_cases q3:t<b
   ·refine vF (cJ q1 (cJ q2 (cJ q3 g1))) ?_
    (first | apply endW_r | apply endW_n);(case h1=>(simp[Tryz.results76];first | done | rfl))
    exact⟨by simp[Has,q1,q2,q3],((HE.refl h0).new _).trans heh⟩
   ·refine vF (cJ q1 (cJ q2 (cJ q3 g1))) ?_
    (first | apply endW_r | apply endW_n);(case h1=>(simp[Tryz.results76];first | done | rfl))
    exact⟨by simp[Has,q1,q2,q3],((HE.refl h0).new _).trans heh⟩
  ·refine vF (cJ q1 (cJ q2 g1)) ?_
   (first | apply endW_r | apply endW_n);(case h1=>(simp[Tryz.results76];first | done | rfl))
   exact⟨by simp[Has,q1,q2],((HE.refl h0).new _).trans heh⟩
 ·refine vF (cJ q1 g1) ?_
  (first | apply endW_r | apply endW_n);(case h1=>(simp[Tryz.results76];first | done | rfl))
  exact⟨by simp[Has,q1],((HE.refl h0).new _).trans heh⟩
theorem meet_ans(a b c d:Int)(h0:Hp Fm)(k1:May a b)(k2:May c d):A Tryz.prog TT (.func 136) [encS2 a b,encS2 c d] h0 (fun r h'=>r=.tup [if May (max a c) (min b d)then encS2 (max a c) (min b d)else encS2 0 0,.bool (decide (May (max a c) (min b d)))]∧HE h0 h'):=by
 have n1:h0.no≠h0.no+1:=by omega
 have n2:h0.no≠h0.no+1+1:=by omega
 have n3:h0.no+1≠h0.no+1+1:=by omega
 have n4:h0.no≠h0.no+1+1+1:=by omega
 have n5:h0.no+1≠h0.no+1+1+1:=by omega
 have n6:h0.no+1+1≠h0.no+1+1+1:=by omega
 have n7:h0.no+1+1+1≠h0.no+1+1:=by omega
 have go:∀x y:Int,x=max a c→y=min b d→(if a<c then c else a)=x→(if d<b then d else b)=y→A Tryz.prog TT (.func 136) [encS2 a b,encS2 c d] h0 (fun r h'=>r=.tup [if May x y then encS2 x y else encS2 0 0,.bool (decide (May x y))]∧HE h0 h'):=by
  intro x y _ _ ex ey
  apply A_go Tryz.func136 rfl (by rfl);(case hn=>(simp[Tryz.ntmps136];rfl))
  refine vF (cJ n1 (cJ n2 (cJ n3 (cJ n4 (cJ n5 (cJ n6 (cJ ex ey))))))) ?_
  refine A.mono (may_ans a b _) ?_
  rintro _ h1 ⟨rfl,e1⟩
  have g2:Mp.get h1.obj h0.no=some (.row [.int .i64 a,.int .i64 b]):=by rw[e1.obj _ (by show h0.no<h0.no+1+1+1+1;omega)];simp[n1,n2,n4]
  have g3:Mp.get h1.obj (h0.no+1)=some (.row [.int .i64 c,.int .i64 d]):=by rw[e1.obj _ (by show h0.no+1<h0.no+1+1+1+1;omega)];simp[n3,n5]
  have g4:Mp.get h1.obj (h0.no+1+1)=some (.row [.int .i64 0,.int .i64 0]):=by rw[e1.obj _ (by show h0.no+1+1<h0.no+1+1+1+1;omega)];simp[n6]
  have g6:Mp.get h1.obj (h0.no+1+1+1)=some (.row [.int .i64 x,.int .i64 y]):=by rw[e1.obj _ (by simp)];simp[ex,ey]
  have no1:h0.no+1+1+1<h1.no:=Nat.lt_of_lt_of_le (by simp) e1.no
  have ho1:∀q,q<h0.no→Mp.get h1.obj q=Mp.get h0.obj q:=by
   intro q hq
   rw[e1.obj _ (by show q<h0.no+1+1+1+1;omega)];simp[show q≠h0.no by omega,show q≠h0.no+1 by omega,show q≠h0.no+1+1 by omega,show q≠h0.no+1+1+1 by omega]
  have hx1:HE h0 h1:=⟨Nat.le_trans (by show h0.no≤h0.no+1+1+1+1;omega) e1.no,e1.ng,e1.pol,ho1,e1.len⟩
  refine vP ?_
  refine vF (cJ k1 (cJ g2 (cJ g3 (cJ g4 g6)))) ?_
  refine A.mono (may_ans c d _) ?_
  rintro _ h2 ⟨rfl,e2⟩
  have f4:=(e2.obj _ (by omega)).trans g4
  have f6:=(e2.obj _ no1).trans g6
  have hx2:=hx1.trans e2
  refine vP ?_
  refine vF (cJ k1 (cJ k2 (cJ f4 f6))) ?_
  refine A.mono (may_ans x y _) ?_
  rintro _ h3 ⟨rfl,e3⟩
  have m4:=(e3.obj _ (Nat.lt_of_lt_of_le (by omega) e2.no)).trans f4
  have m6:=(e3.obj _ (Nat.lt_of_lt_of_le no1 e2.no)).trans f6
  have hx3:=hx2.trans e3
  refine vP ?_
  by_cases q:May x y
  ·refine vF (cJ k1 (cJ k2 (cJ q (cJ m4 (cJ m6 n7))))) ?_
   (first | apply endW_r | apply endW_n);(case h1=>(simp[Tryz.results136];first | done | rfl))
   exact⟨by simp[q],hx3.set (by omega) _⟩
  ·refine vF (cJ k1 (cJ k2 (cJ q (cJ m4 (cJ m6 n7))))) ?_
   (first | apply endW_r | apply endW_n);(case h1=>(simp[Tryz.results136];first | done | rfl))
   exact⟨by simp[q],hx3.set (by omega) _⟩
 refine go _ _ rfl rfl ?_ ?_
 ·split <;> omega
 ·split <;> omega
end Go.Vn

set_option maxRecDepth 20000
namespace Go.Vn
open Go.Proofs
attribute [simp] extractAV
@[simp] theorem arr0(a b c d:Int):indexAV Tryz.prog 221 (.agg [.int .i64 a,.int .i64 b,.int .i64 c,.int .i64 d]) (.int .i64 0)=some (encS2 a b):=by simp[indexAV,Tryz.underlying221,z33,a33]
@[simp] theorem arr1(a b c d:Int):indexAV Tryz.prog 221 (.agg [.int .i64 a,.int .i64 b,.int .i64 c,.int .i64 d]) (.int .i64 1)=some (encS2 c d):=by simp[indexAV,Tryz.underlying221,z33,a33]
theorem ets:ElT Tryz.prog 97 33 2 16 true (.agg [.int .i64 0,.int .i64 0]):=⟨Tryz.underlying97,z33,b33,a33,t33,rfl,rfl,(fun h=>by first | rfl | cases h),by omega,by omega⟩
def encSp(s:Int × Int):AV:=encS2 s.1 s.2
theorem vQj46{F G K:Prop}(f:F)(k:K)(h:F→K→G:=by intro f k;(repeat(first|with_reducible first|refine vmR ?_|refine vmV rfl ?_|refine vmW rfl ?_|refine vmL ?_|refine blockW_y (by decide) ?_|((with_reducible first|apply vmO|apply vmT|apply vmC);case a=>simp[f,newSeq,newSl];with_reducible first|exact .v|exact .c|exact .t|exact .f)));exact k):G:=h f k
set_option maxHeartbeats 4000000 in
theorem minus_ans(a b c d:Int)(k2:May c d)(h0:Hp Fm)(hp:h0.pol 33=false):A Tryz.prog TT (.func 113) [encS2 a b,encS2 c d] h0 (fun r h'=>SV 2 ((minusS a b c d).map encSp) r∧HE h0 h'):=by
 have n1:h0.no≠h0.no+1:=by omega
 apply A_go Tryz.func113 rfl (by rfl);(case hn=>(simp[Tryz.ntmps113];rfl))
 refine vF n1 ?_
 refine A.mono (may_ans a b _) ?_
 rintro _ h1 ⟨rfl,e1⟩
 have g2:Mp.get h1.obj h0.no=some (.row [.int .i64 a,.int .i64 b]):=by rw[e1.obj _ (by show h0.no<h0.no+1+1;omega)];simp[n1]
 have g3:Mp.get h1.obj (h0.no+1)=some (.row [.int .i64 c,.int .i64 d]):=by rw[e1.obj _ (by show h0.no+1<h0.no+1+1;omega)];simp
 have no1:h0.no+1<h1.no:=Nat.lt_of_lt_of_le (by show h0.no+1<h0.no+1+1;omega) e1.no
 have hx1:HE h0 h1:=⟨Nat.le_trans (by show h0.no≤h0.no+1+1;omega) e1.no,e1.ng,e1.pol,fun q hq=>by rw[e1.obj _ (by show q<h0.no+1+1;omega)];simp[show q≠h0.no by omega,show q≠h0.no+1 by omega],e1.len⟩
 refine vP ?_
 by_cases k1:May a b
 case neg=>
  refine vF k1 ?_
  (first | apply endW_r | apply endW_n);(case h1=>(simp[Tryz.results113];first | done | rfl))
  exact⟨.inl ⟨rfl,by simp[minusS,k1]⟩,hx1⟩
 refine vF (cJ k1 (cJ g2 g3)) ?_
 refine A.mono (meet_ans a b c d _ k1 k2) ?_
 rintro _ h2 ⟨rfl,e2⟩
 have f2:=(e2.obj _ (by omega)).trans g2
 have hx2:=hx1.trans e2
 have p2:h2.pol 33=false:=by rw[hx2.pol];exact hp
 have no2:h0.no+1<h2.no:=Nat.lt_of_lt_of_le no1 e2.no
 have m1:h0.no≠h2.no:=by omega
 refine vP ?_
 obtain⟨x,hx⟩:∃x,x=max a c:=⟨_,rfl⟩
 obtain⟨y,hy⟩:∃y,y=min b d:=⟨_,rfl⟩
 have hmin:minusS a b c d=if ¬May x y then [(a,b)]else(if May a x then [(a,x)]else [])++(if May y b then [(y,b)]else []):=by
  unfold minusS;rw[if_neg (by simp[k1]),hx,hy]
 rw[hmin,←hx,←hy]
 by_cases k3:May x y
 case neg=>
  refine vQj46 (cJ k3 (cJ f2 (cJ m1 p2))) ?_
  (first | apply endW_r | apply endW_n);(case h1=>(simp[Tryz.results113];first | done | rfl))
  refine⟨?_,?_⟩
  ·rw[if_pos k3];exact .inr (.inl ⟨_,_,_,rfl⟩)
  ·exact((hx2.new (.row [.int .i64 0,.int .i64 0])).set (by have:=hx2.no;omega) (.row [.int .i64 0,.int .i64 0])).newSl 1
 obtain⟨cd,hcd⟩:∃cd:List (Int × Int),cd=[(a,x),(y,b)]:=⟨_,rfl⟩
 have hres:(if ¬May x y then [(a,b)]else(if May a x then [(a,x)]else [])++(if May y b then [(y,b)]else []))=cd.filter fun s=>decide (May s.1 s.2):=by
  rw[if_neg (by simp[k3]),hcd]
  by_cases q1:May a x <;> by_cases q2:May y b <;> simp[q1,q2]
 rw[hres]
 have hia:∀i (hi:i<2),indexAV Tryz.prog 221 (.agg [.int .i64 a,.int .i64 x,.int .i64 y,.int .i64 b]) (.int .i64 (i:Nat))=some (encS2 (cd[i]'(by rw[hcd];exact hi)).1 (cd[i]'(by rw[hcd];exact hi)).2):=by
  intro i hi
  rw[show(cd[i]'(by rw[hcd];exact hi))=[(a,x),(y,b)][i]'hi by simp only[hcd]]
  match i,hi with
  | 0,_=>exact arr0 a x y b
  | 1,_=>exact arr1 a x y b
 have hcl:cd.length=2:=by rw[hcd];rfl
 refine vF (cJ k3 (cJ f2 m1)) ?_
 refine W_loop (fun m s=>∃(t:Fm AV) (h:Hp Fm) (i:Nat) (u:AV),s=⟨t,45,h,none⟩∧m=2-i∧i≤2∧tget t 33=.agg [.int .i64 a,.int .i64 x,.int .i64 y,.int .i64 b]∧tget t 34=.int .i64 i∧tget t 7=u∧AC h0 h 2 (((cd.take i).filter fun s=>decide (May s.1 s.2)).map encSp) u∧HE h0 h) 2
  ⟨_,_,0,.nils,rfl,rfl,by omega,by simp,by simp,by simp,.inl ⟨rfl,by simp⟩,(hx2.new (.row [.int .i64 0,.int .i64 0])).set (by have:=hx2.no;omega) (.row [.int .i64 x,.int .i64 y])⟩ ?_
 rintro m s ⟨t,h,i,u,rfl,rfl,hi,t33,t34,t7,hu,he⟩
 have uc:=hu.sv.cells
 have ud:=hu.sv.isCell
 by_cases qi:i<2
 case neg=>
  have qj:¬((i:Int)<2):=by omega
  refine vF (cJ t33 (cJ t34 (cJ t7 (cJ qi (cJ qj (cJ uc ud)))))) ?_
  (first | apply endW_r | apply endW_n);(case h1=>(simp[Tryz.results113];first | done | rfl))
  have:cd.take i=cd:=List.take_of_length_le (by omega)
  rw[this]at hu
  exact⟨by simpa using hu.sv,he⟩
 have qj:((i:Int)<2):=by omega
 have ia:=hia i qi
 have hfl:((cd.take i).filter fun s=>decide (May s.1 s.2)).length≤2:=Nat.le_trans (List.length_filter_le _ _) (by simp;omega)
 have htk:(cd.take (i+1)).filter (fun s=>decide (May s.1 s.2))=(cd.take i).filter (fun s=>decide (May s.1 s.2))++(if May (cd[i]'(by omega)).1 (cd[i]'(by omega)).2 then [cd[i]'(by omega)]else []):=by
  rw[List.take_succ_eq_append_getElem (by omega),List.filter_append]
  by_cases q:May (cd[i]'(by omega)).1 (cd[i]'(by omega)).2 <;> simp[q]
 obtain⟨pq,hpq⟩:∃pq,pq=cd[i]'(by omega):=⟨_,rfl⟩
 rw[←hpq]at ia htk
 obtain⟨p,q⟩:=pq
 simp only at ia htk
 have w1:IntKind.i64.wrap ((i:Int)+1)=((i+1:Nat):Int):=by rw[wrap64 (by omega) (by omega)];simp
 refine vF (cJ t33 (cJ t34 (cJ t7 (cJ qi (cJ qj ia))))) ?_
 refine A.mono (may_ans p q _) ?_
 rintro _ h3 ⟨rfl,e3⟩
 have g9:Mp.get h3.obj h.no=some (.row [.int .i64 p,.int .i64 q]):=by rw[e3.obj _ (by show h.no<h.no+1;omega)];simp
 have e3':HE h h3:=(((HE.refl h).new (.row [.int .i64 0,.int .i64 0])).set (Nat.le_refl _) (.row [.int .i64 p,.int .i64 q])).trans e3
 have hx3:=he.trans e3'
 have p3:h3.pol 33=false:=by rw[hx3.pol];exact hp
 refine vP ?_
 by_cases qm:May p q
 ·rw[if_pos qm]at htk
  refine vQj46 (cJ t33 (cJ t34 (cJ t7 (cJ qm (cJ g9 (cJ p3 (cJ uc ud))))))) ?_
  with_reducible apply WO_app_i;(case hw=>(simp[t33,t34,t7,qm,g9,newSeq,newSl,p3,uc,ud];done));(case ho=>rfl);(case hb=>rfl);(case ha=>(simp[t33,t34,t7,qm,g9,newSeq,newSl,p3,uc,ud];first | done | exact⟨rfl,rfl⟩ | rfl));(case h1=>(simp;first | done | rfl));(case h2=>(simp;first | done | rfl))
  refine app_then (AC.app (h0:=h0) ets (hu.of (e3'.newSl 1)) (hx3.newSl 1) hp (by simp;omega)) ?_
  rintro x4 h4 ⟨ac4,he4,_,_,_⟩
  have e4:=ac4.sv.cells
  have f4:=ac4.sv.isCell
  refine vP ?_
  refine vF (cJ t33 (cJ t34 (cJ t7 (cJ e4 (cJ f4 w1))))) ?_
  refine⟨_,?_,_,_,i+1,_,rfl,rfl,by omega,by simp[t33],by simp,rfl,?_,he4⟩
  ·omega
  ·rw[htk,List.map_append];simpa[encSp]using ac4
 ·rw[if_neg qm,List.append_nil]at htk
  refine vF (cJ t33 (cJ t34 (cJ t7 (cJ qm w1)))) ?_
  refine⟨_,?_,_,_,i+1,u,rfl,rfl,by omega,by simp[t33],by simp,by simp[t7],?_,hx3⟩
  ·omega
  ·rw[htk];exact hu.of e3'
end Go.Vn

set_option maxRecDepth 20000
namespace Go.Vn
open Go.Proofs
theorem etp:ElT Tryz.prog 42 49 3 32 true (.agg [.int .i64 0,.int .i64 0,.str []]):=⟨Tryz.underlying42,z49,b49,a49,t49,rfl,rfl,(fun h=>by first | rfl | cases h),by omega,by omega⟩
theorem fitP(a:Pc):Fit true 3 (encP a):=.inl ⟨rfl,_,rfl,rfl⟩
theorem fitPs(l:List Pc):∀e∈l.map encP,Fit true 3 e:=by
 intro e he
 obtain⟨a,_,rfl⟩:=List.mem_map.mp he
 exact fitP a
@[simp] theorem eqp_nn:eqlAV Tryz.prog 20 42 .nils .nils=some true:=by simp[eqlAV,Tryz.underlying42]
@[simp] theorem eqp_sn(g o z c:Nat)(l:List AV):eqlAV Tryz.prog 20 42 (.sl g o z c l) .nils=some false:=by simp[eqlAV,Tryz.underlying42]
theorem vQk45{F G K:Prop}(f:F)(k:K)(h:F→K→G:=by intro f k;(repeat(first|with_reducible first|refine vmR ?_|refine vmV rfl ?_|refine vmW rfl ?_|refine vmL ?_|refine blockW_y (by decide) ?_|((with_reducible first|apply vmO|apply vmT|apply vmC);case a=>simp[f,newSeq];with_reducible first|exact .v|exact .c|exact .t|exact .f)));exact k):G:=h f k
theorem clonep_rs(xs:List Pc)(v:AV)(hv:SL 3 (xs.map encP) v)(hl:xs.length≤4000000)(h0:Hp Fm)(hp:h0.pol 49=true) :
  A Tryz.prog TT (.func 91) [v] h0 (fun r h'=>RS h0.no h' 3 true (xs.map encP) r∧HE h0 h'):=by
 have he1:HE h0 (newRs h0 3 true [.int .i64 0,.int .i64 0,.str []] 0 []).2:=HE.x2 (HE.refl _) (newRs_hx (fun _=>False) (fun _=>False) _ _ _ _ _ _) (fun _ e=>e.elim) (fun _ e=>e.elim)
 have vc:=hv.sv.cells
 have vd:=hv.sv.isCell
 have hv':=hv.sv
 rcases hv with⟨rfl,hx⟩ | ⟨g,off,cp,rfl⟩
 ·apply A_go Tryz.func91 rfl (by rfl);(case hn=>(simp[Tryz.ntmps91];rfl))
  refine vZ ?_
  (first | apply endW_r | apply endW_n);(case h1=>(simp[Tryz.results91];first | done | rfl))
  exact⟨.inl ⟨rfl,hx⟩,HE.refl _⟩
 ·apply A_go Tryz.func91 rfl (by rfl);(case hn=>(simp[Tryz.ntmps91];rfl))
  refine vQk45 hp ?_
  with_reducible apply WO_app_i;(case hw=>(simp[newSeq,hp];done));(case ho=>rfl);(case hb=>rfl);(case ha=>(simp[newSeq,hp];first | done | exact⟨rfl,rfl⟩ | rfl));(case h1=>(simp;first | done | rfl));(case h2=>(simp;first | done | rfl))
  refine app_then (RS.appN (lo:=h0.no) (h:=(newRs h0 3 true [.int .i64 0,.int .i64 0,.str []] 0 []).2) etp (RS.fresh etp (Nat.le_refl _) 0 [] (Nat.le_refl _)) he1.no (by rw[he1.pol];exact hp) (SV.newEls hv') (by simp) (fitPs _) (by simp;omega)) ?_
  rintro w h2 ⟨rs2,hx2,hp2,hr2⟩
  have e2:=rs2.cells
  have f2:=rs2.isCell
  refine vP ?_
  refine vF (cJ e2 f2) ?_
  (first | apply endW_r | apply endW_n);(case h1=>(simp[Tryz.results91];first | done | rfl))
  refine⟨by simpa using rs2,he1.x2 hx2 ?_ (fun _ e=>e.elim)⟩
  rintro q ⟨_,_,_,_,_,e⟩
  simp only[newRs]at e
  injection e with e
  omega
theorem RS.lo{lo lo':Nat}{h:Hp Fm}{sz:Nat}{ag:Bool}{els:List AV}{v:AV}(k:RS lo h sz ag els v)(hl:lo'≤lo):RS lo' h sz ag els v:=by
 rcases k with k | ⟨o,cap,h1,h2,h3⟩
 ·exact .inl k
 ·exact .inr ⟨o,cap,h1,Nat.le_trans hl h2,h3⟩
theorem minusS_len(a b c d:Int):(minusS a b c d).length≤2:=by
 unfold minusS
 repeat' split
 all_goals simp
theorem minusP_len(c d:Int)(p:Pc):(minusP c d p).length≤2:=by
 unfold minusP;rw[List.length_map];exact minusS_len _ _ _ _
theorem without_len(c d:Int):∀l:List Pc,(l.flatMap (minusP c d)).length≤2*l.length
 | []=>by simp
 | p::l=>by
  have:=without_len c d l
  have:=minusP_len c d p
  rw[List.flatMap_cons,List.length_append,List.length_cons];omega
set_option maxHeartbeats 4000000 in
theorem without_rs(ps:List Pc)(v:AV)(hv:SL 3 (ps.map encP) v)(hl:ps.length≤4000000)(c d:Int)(km:May c d)(h0:Hp Fm)(hpol:h0.pol=(· == 49)) :
  A Tryz.prog TT (.func 92) [v,encS2 c d] h0 (fun r h'=>RS h0.no h' 3 true ((withoutP ps c d).map encP) r∧HE h0 h'):=by
 have l1:=hv.sv.len Tryz.underlying42
 rw[List.length_map]at l1
 have n1:=hv.sv.nm
 have vc:=hv.sv.cells
 have vd:=hv.sv.isCell
 have hps:h0.pol 33=false:=by rw[hpol];rfl
 apply A_go Tryz.func92 rfl (by rfl);(case hn=>(simp[Tryz.ntmps92];rfl))
 refine vZ ?_
 refine A.mono (may_ans c d _) ?_
 rintro _ h1 ⟨rfl,e1⟩
 have g2:Mp.get h1.obj h0.no=some (.row [.int .i64 c,.int .i64 d]):=by rw[e1.obj _ (by show h0.no<h0.no+1;omega)];simp
 have hx1:HE h0 h1:=((HE.refl h0).new _).trans e1
 have no1:h0.no<h1.no:=Nat.lt_of_lt_of_le (by show h0.no<h0.no+1;omega) e1.no
 refine vP ?_
 refine vF (cJ km (cJ l1 n1)) ?_
 refine W_loop (fun m s=>∃(t:Fm AV) (h:Hp Fm) (i:Nat) (u:AV),s=⟨t,40,h,none⟩∧m=ps.length-i∧i≤ps.length∧tget t 3=.ptr h0.no 0∧tget t 15=v∧tget t 16=.int .i64 ps.length∧tget t 17=.int .i64 i∧tget t 5=u∧RS h1.no h 3 true (((ps.take i).flatMap (minusP c d)).map encP) u∧HE h1 h) ps.length
  ⟨_,_,0,.nils,rfl,rfl,by omega,by simp,by simp,by simp,by simp,by simp,.inl ⟨rfl,by simp⟩,HE.refl _⟩ ?_
 rintro m s ⟨t,h,i,u,rfl,rfl,hi,t3,t15,t16,t17,t5,hu,he⟩
 have uc:=hu.cells
 have ud:=hu.isCell
 by_cases qi:i<ps.length
 case neg=>
  have qn:¬(i<ps.length):=qi
  refine vF (cJ t3 (cJ t15 (cJ t16 (cJ t17 (cJ t5 (cJ qi (cJ qn (cJ uc ud)))))))) ?_
  (first | apply endW_r | apply endW_n);(case h1=>(simp[Tryz.results92];first | done | rfl))
  rw[List.take_of_length_le (by omega)]at hu
  have hw:withoutP ps c d=ps.flatMap (minusP c d):=by unfold withoutP;rw[if_pos km]
  rw[hw]
  exact⟨by simpa using hu.lo hx1.no,hx1.trans he⟩
 have g3:=(he.obj _ no1).trans g2
 have i1:=hv.sv.idx Tryz.underlying42 z49 (k:=.i64) (i:=i) (by simp) (by simpa using qi)
 simp only[List.getElem_map,Int.toNat_natCast]at i1
 have htk:(ps.take (i+1)).flatMap (minusP c d)=(ps.take i).flatMap (minusP c d)++minusP c d ps[i]:=by
  rw[List.take_succ_eq_append_getElem qi,List.flatMap_append];simp
 have hlen:((ps.take i).flatMap (minusP c d)).length≤2*i:=Nat.le_trans (without_len c d _) (by rw[List.length_take];omega)
 obtain⟨prev,hprev⟩:∃prev,prev=(ps.take i).flatMap (minusP c d):=⟨_,rfl⟩
 obtain⟨p,hp'⟩:∃p,p=ps[i]:=⟨_,rfl⟩
 rw[←hprev]at hu htk hlen
 rw[←hp']at i1 htk
 have w1:IntKind.i64.wrap ((i:Int)+1)=((i+1:Nat):Int):=by rw[wrap64 (by omega) (by omega)];simp
 have nz:h0.no≠h.no:=by have:=he.no;omega
 refine vF (cJ t3 (cJ t15 (cJ t16 (cJ t17 (cJ t5 (cJ qi (cJ i1 (cJ g3 nz)))))))) ?_
 refine A.mono (minus_ans p.fr p.to c d km _ (by show h.pol 33=false;rw[he.pol,hx1.pol];exact hps)) ?_
 rintro mv h2 ⟨hmv,e2⟩
 have g4:Mp.get h2.obj h.no=some (.row [.int .i64 p.fr,.int .i64 p.to,.str p.val]):=by rw[e2.obj _ (by show h.no<h.no+1;omega)];simp
 have e2':HE h h2:=(((HE.refl h).new (.row [.int .i64 0,.int .i64 0,.str []])).set (Nat.le_refl _) (.row [.int .i64 p.fr,.int .i64 p.to,.str p.val])).trans e2
 have no2:h.no<h2.no:=Nat.lt_of_lt_of_le (by show h.no<h.no+1;omega) e2.no
 have lm:=hmv.len Tryz.underlying97
 rw[List.length_map]at lm
 have nm:=hmv.nm
 obtain⟨ss,hss⟩:∃ss,ss=minusS p.fr p.to c d:=⟨_,rfl⟩
 have hsl:ss.length≤2:=by rw[hss];exact minusS_len _ _ _ _
 rw[←hss]at hmv lm
 have hmp:minusP c d p=ss.map fun s=>⟨s.1,s.2,p.val⟩:=by rw[hss];rfl
 have hrow0:∀q,isRow u q→q≠h.no:=by
  rintro q ⟨_,_,_,_,_,e⟩
  rcases hu with⟨e1,_⟩ | ⟨o,cap,e1,_,hk⟩
  ·rw[e1]at e;cases e
  ·rw[e1]at e;injection e with e;have:=hk.on;omega
 refine vP ?_
 refine vF (cJ lm nm) ?_
 refine W_loop (fun m s=>∃(t:Fm AV) (h3:Hp Fm) (k:Nat) (u:AV),s=⟨t,40,h3,none⟩∧m=ss.length-k∧k≤ss.length∧tget t 3=.ptr h0.no 0∧tget t 15=v∧tget t 16=.int .i64 ps.length∧tget t 17=.int .i64 i∧tget t 7=.ptr h.no 0∧tget t 24=mv∧tget t 25=.int .i64 ss.length∧tget t 26=.int .i64 k∧tget t 5=u∧RS h1.no h3 3 true ((prev++(ss.take k).map fun s=>(⟨s.1,s.2,p.val⟩:Pc)).map encP) u∧HE h1 h3∧Mp.get h3.obj h.no=some (.row [.int .i64 p.fr,.int .i64 p.to,.str p.val])∧h.no<h3.no∧(∀q,isRow u q→q≠h.no)) ss.length
  ⟨_,_,0,u,rfl,rfl,by omega,by simp[t3],by simp[t15],by simp[t16],by simp[t17],by simp,by simp,by simp,by simp,by simp[t5],by simpa using hu.he e2',he.trans e2',g4,no2,hrow0⟩ ?_
 clear t3 t15 t16 t17 t5 t uc ud hrow0 hu u
 rintro m s ⟨t,h3,k,u,rfl,rfl,hk,t3,t15,t16,t17,t7,t24,t25,t26,t5,hu,hx3,g5,no3,hrw⟩
 have uc:=hu.cells
 have ud:=hu.isCell
 by_cases qk:k<ss.length
 case neg=>
  have qn:¬(k<ss.length):=qk
  refine vF (cJ t3 (cJ t15 (cJ t16 (cJ t17 (cJ t7 (cJ t24 (cJ t25 (cJ t26 (cJ t5 (cJ qk (cJ qn (cJ w1 (cJ uc ud))))))))))))) ?_
  rw[List.take_of_length_le (by omega),←hmp,←htk]at hu
  refine⟨_,?_,_,_,i+1,u,rfl,rfl,by omega,by simp[t3],by simp[t15],by simp[t16],by simp,by simp[t5],hu,hx3⟩
  omega
 have i2:=hmv.idx Tryz.underlying97 z33 (k:=.i64) (i:=k) (by simp) (by simpa using qk)
 simp only[List.getElem_map,Int.toNat_natCast,encSp,encS2]at i2
 have nz3:h.no≠h3.no:=by omega
 have w2:IntKind.i64.wrap ((k:Int)+1)=((k+1:Nat):Int):=by rw[wrap64 (by omega) (by omega)];simp
 have p3:h3.pol 49=true:=by rw[hx3.pol,hx1.pol];rw[hpol];rfl
 have htk2:(ss.take (k+1)).map (fun s=>(⟨s.1,s.2,p.val⟩:Pc))=(ss.take k).map (fun s=>(⟨s.1,s.2,p.val⟩:Pc))++[⟨ss[k].1,ss[k].2,p.val⟩]:=by
  rw[List.take_succ_eq_append_getElem qk,List.map_append];rfl
 refine vQk45 (cJ t3 (cJ t15 (cJ t16 (cJ t17 (cJ t7 (cJ t24 (cJ t25 (cJ t26 (cJ t5 (cJ qk (cJ i2 (cJ g5 (cJ nz3 (cJ p3 (cJ uc ud))))))))))))))) ?_
 with_reducible apply WO_app_i;(case hw=>(simp[t3,t15,t16,t17,t7,t24,t25,t26,t5,qk,i2,g5,nz3,newSeq,p3,uc,ud];done));(case ho=>rfl);(case hb=>rfl);(case ha=>(simp[t3,t15,t16,t17,t7,t24,t25,t26,t5,qk,i2,g5,nz3,newSeq,p3,uc,ud];first | done | exact⟨rfl,rfl⟩ | rfl));(case h1=>(simp;first | done | rfl));(case h2=>(simp;first | done | rfl))
 have hy:HE h3 { h3 with obj:=Mp.set (Mp.set h3.obj h3.no (.row [.int .i64 0,.int .i64 0])) h3.no (.row [.int .i64 ss[k].1,.int .i64 ss[k].2]),no:=h3.no+1 }:=((HE.refl h3).new (.row [.int .i64 0,.int .i64 0])).set (Nat.le_refl _) (.row [.int .i64 ss[k].1,.int .i64 ss[k].2])
 have hz1:HE h3 (newRs { h3 with obj:=Mp.set (Mp.set h3.obj h3.no (.row [.int .i64 0,.int .i64 0])) h3.no (.row [.int .i64 ss[k].1,.int .i64 ss[k].2]),no:=h3.no+1 } 3 true [.int .i64 0,.int .i64 0,.str []] 1 [encP ⟨ss[k].1,ss[k].2,p.val⟩]).2:=hy.x2 (newRs_hx (fun _=>False) (fun _=>False) _ _ _ _ _ _) (fun _ e=>e.elim) (fun _ e=>e.elim)
 have hz2:=hx3.trans hz1
 refine app_then (RS.appN (lo:=h1.no) (h:=(newRs { h3 with obj:=Mp.set (Mp.set h3.obj h3.no (.row [.int .i64 0,.int .i64 0])) h3.no (.row [.int .i64 ss[k].1,.int .i64 ss[k].2]),no:=h3.no+1 } 3 true [.int .i64 0,.int .i64 0,.str []] 1 [encP ⟨ss[k].1,ss[k].2,p.val⟩]).2) etp (v:=u) (hu.he hz1) hz2.no (by rw[hz2.pol,hx1.pol,hpol];rfl) ((RS.fresh etp (lo:=0) (h:={ h3 with obj:=Mp.set (Mp.set h3.obj h3.no (.row [.int .i64 0,.int .i64 0])) h3.no (.row [.int .i64 ss[k].1,.int .i64 ss[k].2]),no:=h3.no+1 }) (Nat.zero_le _) 1 [encP ⟨ss[k].1,ss[k].2,p.val⟩] (by simp)).newEls (fitPs [⟨ss[k].1,ss[k].2,p.val⟩]) (by omega) (fun e=>by cases e)) (fitPs _) (fitPs [⟨ss[k].1,ss[k].2,p.val⟩]) (by simp;omega)) ?_
 rintro x4 h4 ⟨ac4,hx4,hq4,hr4⟩
 have g6:Mp.get (newRs { h3 with obj:=Mp.set (Mp.set h3.obj h3.no (.row [.int .i64 0,.int .i64 0])) h3.no (.row [.int .i64 ss[k].1,.int .i64 ss[k].2]),no:=h3.no+1 } 3 true [.int .i64 0,.int .i64 0,.str []] 1 [encP ⟨ss[k].1,ss[k].2,p.val⟩]).2.obj h.no=some (.row [.int .i64 p.fr,.int .i64 p.to,.str p.val]):=by
  rw[(hy.trans (HE.x2 (HE.refl _) (newRs_hx (fun _=>False) (fun _=>False) _ _ _ _ _ _) (fun _ e=>e.elim) (fun _ e=>e.elim))).obj _ no3];exact g5
 have e4:=ac4.cells
 have f4:=ac4.isCell
 refine vP ?_
 refine vF (cJ t3 (cJ t15 (cJ t16 (cJ t17 (cJ t7 (cJ t24 (cJ t25 (cJ t26 (cJ t5 (cJ e4 (cJ f4 w2))))))))))) ?_
 refine⟨_,?_,_,_,k+1,_,rfl,rfl,by omega,by simp[t3],by simp[t15],by simp[t16],by simp[t17],by simp[t7],by simp[t24],by simp[t25],by simp,rfl,?_,(hx3.trans hz1).x2 hx4 hu.rows (fun _ e=>e.elim),(hx4.obj _ (Nat.lt_of_lt_of_le no3 hz1.no) (fun e=>hrw _ e rfl)).trans g6,Nat.lt_of_lt_of_le no3 (Nat.le_trans hz1.no hx4.no),fun q hq=>by rcases hr4 q hq with e | e;exact hrw q e;have:=hz1.no;omega⟩
 ·omega
 ·rw[htk2,←List.append_assoc,List.map_append];simpa using ac4
end Go.Vn
