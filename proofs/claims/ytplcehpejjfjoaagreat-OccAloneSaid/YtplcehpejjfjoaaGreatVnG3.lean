/- What functions of the program come to, in the value machine (a part of the proof of the claim's statement). No condition. -/
import Derived.Test.YtplcehpejjfjoaaGreatVnG2
set_option linter.unusedSimpArgs false
set_option linter.unusedVariables false
set_option maxRecDepth 20000
namespace Go.Vn
open Go.Proofs
structure Ver where
 key:List UInt8
 br:Int
 ep:Int
 sq:Int
 fr:Int
 to:Int
 val:List UInt8
 gone:Bool
deriving Inhabited,DecidableEq
@[simp] def encV(v:Ver):AV:=.agg [.str v.key,.int .i64 v.br,.int .i64 v.ep,.int .i64 v.sq,.int .i64 v.fr,.int .i64 v.to,.str v.val,.bool v.gone]
structure Lg where
 b:Int
 e:Int
deriving Inhabited,DecidableEq
@[simp] def encL(l:Lg):AV:=.agg [.int .i64 l.b,.int .i64 l.e]
def sees(b e:Int)(l:Lg):Bool:=decide (l.b=b)&&decide (e≤l.e)
def firstI{E:Type}(p:E→Bool)(l:List E):Int:=match l.findIdx? p with | some i=>(i:Int) | none=>-1
theorem firstI_none{E:Type}{p:E→Bool}{l:List E}(h:∀x∈l,p x=false):firstI p l=-1:=by
 unfold firstI
 have:l.findIdx? p=none:=List.findIdx?_eq_none_iff.mpr h
 rw[this]
theorem firstI_at{E:Type}{p:E→Bool}{l:List E}{i:Nat}(hi:i<l.length)(hp:p l[i]=true)(hn:∀j (hj:j<i),p (l[j]'(by omega))=false):firstI p l=i:=by
 unfold firstI
 have:l.findIdx? p=some i:=List.findIdx?_eq_some_iff_getElem.mpr ⟨hi,hp,fun j hj=>by rw[hn j hj];simp⟩
 rw[this]
def legI(path:List Lg)(b e:Int):Int:=firstI (sees b e) path
theorem legf_ans(l:Lg)(b e s:Int)(o:Nat)(h0:Hp Fm)(ho:Mp.get h0.obj o=some (.row [.int .i64 b,.int .i64 e,.int .i64 s]))(hon:o<h0.no) :
  A Tryz.prog TT (.func 121) [encL l,.ptr o 0] h0 (fun r h'=>r=.bool (sees b e l)∧HE h0 h'):=by
 have nz:o≠h0.no:=by omega
 by_cases q1:l.b=b
 ·by_cases q2:e≤l.e
  ·apply A_go Tryz.func121 rfl (by rfl);(case hn=>(simp[Tryz.ntmps121];rfl))
   refine vF (cJ ho (cJ nz (cJ q1 q2))) ?_
   (first | apply endW_r | apply endW_n);(case h1=>(simp[Tryz.results121];first | done | rfl))
   exact⟨by simp[sees,q1,q2],(HE.refl h0).new _⟩
  ·apply A_go Tryz.func121 rfl (by rfl);(case hn=>(simp[Tryz.ntmps121];rfl))
   refine vF (cJ ho (cJ nz (cJ q1 q2))) ?_
   (first | apply endW_r | apply endW_n);(case h1=>(simp[Tryz.results121];first | done | rfl))
   exact⟨by simp[sees,q1,q2],(HE.refl h0).new _⟩
 ·apply A_go Tryz.func121 rfl (by rfl);(case hn=>(simp[Tryz.ntmps121];rfl))
  refine vF (cJ ho (cJ nz q1)) ?_
  (first | apply endW_r | apply endW_n);(case h1=>(simp[Tryz.results121];first | done | rfl))
  exact⟨by simp[sees,q1],(HE.refl h0).new _⟩
theorem idxL{f o:Nat}(hbf:hasBody Tryz.prog f=true)(p:Lg→Bool)(xs:List Lg)(v:AV)(hv:SV 2 (xs.map encL) v)(hl:xs.length≤1000000)(h0:Hp Fm)
  (hf:∀x∈xs,∀h,HE h0 h→A Tryz.prog TT (.func f) [encL x,.ptr o 0] h (fun r h'=>r=.bool (p x)∧HE h h')) :
  A Tryz.prog TT (.func 120) [v,.fn (.func f) [] [.ptr o 0]] h0 (fun r h'=>r=.int .i64 (firstI p xs)∧HE h0 h'):=by
 have l1:=hv.len Tryz.underlying156
 rw[List.length_map]at l1
 have n1:=hv.nm
 apply A_go Tryz.func120 rfl (by rfl);(case hn=>(simp[Tryz.ntmps120];rfl))
 refine vF (cJ l1 n1) ?_
 refine W_loop (fun m s=>∃(t:Fm AV) (h:Hp Fm) (i:Nat),s=⟨t,19,h,none⟩∧m=xs.length-i∧i≤xs.length∧tget t 0=v∧tget t 1=.fn (.func f) [] [.ptr o 0]∧tget t 7=.int .i64 xs.length∧tget t 8=.int .i64 i∧(∀j (hj:j<i) (hx:j<xs.length),p xs[j]=false)∧HE h0 h) xs.length
  ⟨_,_,0,rfl,rfl,by omega,by simp,by simp,by simp,by simp,fun j hj=>absurd hj (Nat.not_lt_zero _),HE.refl _⟩ ?_
 rintro m s ⟨t,h,i,rfl,rfl,hi,t0,t1,t7,t8,hn,he⟩
 by_cases qi:i<xs.length
 ·have i1:=hv.idx Tryz.underlying156 z187 (k:=.i64) (i:=i) (by simp) (by simpa using qi)
  simp only[List.getElem_map,Int.toNat_natCast]at i1
  have w1:IntKind.i64.wrap ((i:Int)+1)=((i+1:Nat):Int):=by rw[wrap64 (by omega) (by omega)];simp
  refine vF (cJ t0 (cJ t1 (cJ t7 (cJ t8 (cJ qi (cJ i1 hbf)))))) ?_
  refine A.mono (hf xs[i] (List.getElem_mem qi) _ he) ?_
  rintro _ hh ⟨rfl,heh⟩
  refine vP ?_
  cases qp:p xs[i]
  ·refine vF (cJ t0 (cJ t1 (cJ t7 (cJ t8 (cJ qp w1))))) ?_
   refine⟨_,?_,_,_,i+1,rfl,rfl,by omega,by simp[t0],by simp[t1],by simp[t7],by simp,?_,he.trans heh⟩
   ·omega
   ·intro j hj hx
    by_cases e:j=i
    ·subst e;exact qp
    ·exact hn j (by omega) hx
  ·refine vF (cJ t0 (cJ t1 (cJ t7 (cJ t8 qp)))) ?_
   (first | apply endW_r | apply endW_n);(case h1=>(simp[Tryz.results120];first | done | rfl))
   exact⟨by rw[firstI_at qi qp fun j hj=>hn j hj (by omega)],he.trans heh⟩
 ·have qn:¬(i<xs.length):=qi
  have hie:i=xs.length:=by omega
  refine vF (cJ t0 (cJ t1 (cJ t7 (cJ t8 (cJ qi qn))))) ?_
  (first | apply endW_r | apply endW_n);(case h1=>(simp[Tryz.results120];first | done | rfl))
  refine⟨?_,he⟩
  rw[firstI_none]
  intro x hx
  obtain⟨j,hj,rfl⟩:=List.getElem_of_mem hx
  exact hn j (by omega) hj
theorem leg_ans(xs:List Lg)(v:AV)(hv:SV 2 (xs.map encL) v)(hl:xs.length≤1000000)(b e s:Int)(h0:Hp Fm) :
  A Tryz.prog TT (.func 105) [v,.agg [.int .i64 b,.int .i64 e,.int .i64 s]] h0 (fun r h'=>r=.int .i64 (legI xs b e)∧HE h0 h'):=by
 have hc:=hv.cells
 have hd:=hv.isCell
 apply A_go Tryz.func105 rfl (by rfl);(case hn=>(simp[Tryz.ntmps105];rfl))
 refine vF (cJ hc hd) ?_
 refine A.mono (idxL (by simp) (sees b e) xs v hv hl _ ?_) ?_
 ·intro x hx h he
  refine legf_ans x b e s _ h ?_ ?_
  ·rw[he.obj _ (by simp)];simp
  ·exact Nat.lt_of_lt_of_le (by simp) he.no
 ·rintro _ hh ⟨rfl,heh⟩
  refine vP ?_
  refine vZ ?_
  (first | apply endW_r | apply endW_n);(case h1=>(simp[Tryz.results105];first | done | rfl))
  exact⟨rfl,((HE.refl h0).new _).trans heh⟩
end Go.Vn

set_option maxRecDepth 20000
namespace Go.Vn
open Go.Proofs
theorem isNaN_int(a:Int)(h:Hp Fm):A Tryz.prog TT (.func 123) [.int .i64 a] h (fun r h'=>r=.bool false∧h'=h):=by
 apply A_go Tryz.func123 rfl (by rfl);(case hn=>(simp[Tryz.ntmps123];rfl))
 refine vZ ?_
 (first | apply endW_r | apply endW_n);(case h1=>(simp[Tryz.results123];first | done | rfl))
 exact⟨by simp,rfl⟩
theorem compare_int(a b:Int)(h:Hp Fm):A Tryz.prog TT (.func 109) [.int .i64 a,.int .i64 b] h (fun r h'=>r=.int .i64 (cmpI a b)∧h'=h):=by
 by_cases q:a<b
 ·apply A_go Tryz.func109 rfl (by rfl);(case hn=>(simp[Tryz.ntmps109];rfl))
  refine vZ ?_
  refine A.mono (isNaN_int _ _) ?_;rintro _ hh ⟨rfl,rfl⟩;refine⟨_,by simp;first | done | rfl,?_⟩
  refine vZ ?_
  refine A.mono (isNaN_int _ _) ?_;rintro _ hh ⟨rfl,rfl⟩;refine⟨_,by simp;first | done | rfl,?_⟩
  refine vF q ?_
  (first | apply endW_r | apply endW_n);(case h1=>(simp[Tryz.results109];first | done | rfl))
  exact⟨by simp[cmpI,q],rfl⟩
 ·by_cases q2:b<a
  ·apply A_go Tryz.func109 rfl (by rfl);(case hn=>(simp[Tryz.ntmps109];rfl))
   refine vZ ?_
   refine A.mono (isNaN_int _ _) ?_;rintro _ hh ⟨rfl,rfl⟩;refine⟨_,by simp;first | done | rfl,?_⟩
   refine vZ ?_
   refine A.mono (isNaN_int _ _) ?_;rintro _ hh ⟨rfl,rfl⟩;refine⟨_,by simp;first | done | rfl,?_⟩
   refine vF (cJ q q2) ?_
   (first | apply endW_r | apply endW_n);(case h1=>(simp[Tryz.results109];first | done | rfl))
   exact⟨by simp[cmpI,q,q2],rfl⟩
  ·apply A_go Tryz.func109 rfl (by rfl);(case hn=>(simp[Tryz.ntmps109];rfl))
   refine vZ ?_
   refine A.mono (isNaN_int _ _) ?_;rintro _ hh ⟨rfl,rfl⟩;refine⟨_,by simp;first | done | rfl,?_⟩
   refine vZ ?_
   refine A.mono (isNaN_int _ _) ?_;rintro _ hh ⟨rfl,rfl⟩;refine⟨_,by simp;first | done | rfl,?_⟩
   refine vF (cJ q q2) ?_
   (first | apply endW_r | apply endW_n);(case h1=>(simp[Tryz.results109];first | done | rfl))
   exact⟨by simp[cmpI,q,q2],rfl⟩
def orI:List Int→Int
 | []=>0
 | a::l=>if a=0 then orI l else a
theorem or_ans(a b c d:Int)(g cp:Nat)(h:Hp Fm):A Tryz.prog TT (.func 108) [.sl g 0 1 cp [.int .i64 a,.int .i64 b,.int .i64 c,.int .i64 d]] h (fun r h'=>r=.int .i64 (orI [a,b,c,d])∧h'=h):=by
 by_cases qa:a=0
 case neg=>
  apply A_go Tryz.func108 rfl (by rfl);(case hn=>(simp[Tryz.ntmps108];rfl))
  refine vZ ?_
  refine W_loop_i ?_
  refine vF qa ?_
  (first | apply endW_r | apply endW_n);(case h1=>(simp[Tryz.results108];first | done | rfl))
  exact⟨by simp[orI,qa],rfl⟩
 subst qa
 by_cases qb:b=0
 case neg=>
  apply A_go Tryz.func108 rfl (by rfl);(case hn=>(simp[Tryz.ntmps108];rfl))
  refine vZ ?_
  refine W_loop_i ?_
  refine vZ ?_
  refine W_loop_i ?_
  refine vF qb ?_
  (first | apply endW_r | apply endW_n);(case h1=>(simp[Tryz.results108];first | done | rfl))
  exact⟨by simp[orI,qb],rfl⟩
 subst qb
 by_cases qc:c=0
 case neg=>
  apply A_go Tryz.func108 rfl (by rfl);(case hn=>(simp[Tryz.ntmps108];rfl))
  refine vZ ?_
  refine W_loop_i ?_
  refine vZ ?_
  refine W_loop_i ?_
  refine vZ ?_
  refine W_loop_i ?_
  refine vF qc ?_
  (first | apply endW_r | apply endW_n);(case h1=>(simp[Tryz.results108];first | done | rfl))
  exact⟨by simp[orI,qc],rfl⟩
 subst qc
 by_cases qd:d=0
 case neg=>
  apply A_go Tryz.func108 rfl (by rfl);(case hn=>(simp[Tryz.ntmps108];rfl))
  refine vZ ?_
  refine W_loop_i ?_
  refine vZ ?_
  refine W_loop_i ?_
  refine vZ ?_
  refine W_loop_i ?_
  refine vZ ?_
  refine W_loop_i ?_
  refine vF qd ?_
  (first | apply endW_r | apply endW_n);(case h1=>(simp[Tryz.results108];first | done | rfl))
  exact⟨by simp[orI,qd],rfl⟩
 subst qd
 apply A_go Tryz.func108 rfl (by rfl);(case hn=>(simp[Tryz.ntmps108];rfl))
 refine vZ ?_
 refine W_loop_i ?_
 refine vZ ?_
 refine W_loop_i ?_
 refine vZ ?_
 refine W_loop_i ?_
 refine vZ ?_
 refine W_loop_i ?_
 refine vZ ?_
 refine W_loop_i ?_
 refine vZ ?_
 (first | apply endW_r | apply endW_n);(case h1=>(simp[Tryz.results108];first | done | rfl))
 exact⟨by simp[orI],rfl⟩
def legV(path:List Lg)(v:Ver):Int:=legI path v.br v.ep
def cmpO(path:List Lg)(a b:Ver):Int:=orI [cmpI (legV path b) (legV path a),cmpI a.ep b.ep,cmpI a.sq b.sq,cmpI a.fr b.fr]
theorem ord1_ans(path:List Lg)(vp:AV)(hvp:SV 2 (path.map encL) vp)(hl:path.length≤1000000)(a:Ver)(o:Nat)(h0:Hp Fm)(ho:Mp.get h0.obj o=some (.row [vp]))(hon:o<h0.no) :
  A Tryz.prog TT (.func 104) [encV a,.ptr o 0] h0 (fun r h'=>r=.bool (decide (legV path a<0))∧HE h0 h'):=by
 have nz:o≠h0.no:=by omega
 apply A_go Tryz.func104 rfl (by rfl);(case hn=>(simp[Tryz.ntmps104];rfl))
 refine vF (cJ ho nz) ?_
 refine A.mono (leg_ans path vp hvp hl a.br a.ep a.sq _) ?_
 rintro _ hh ⟨rfl,heh⟩
 refine vP ?_
 refine vZ ?_
 (first | apply endW_r | apply endW_n);(case h1=>(simp[Tryz.results104];first | done | rfl))
 exact⟨by unfold legV;rfl,((HE.refl h0).new _).trans heh⟩
theorem vQc43{F G K:Prop}(f:F)(k:K)(h:F→K→G:=by intro f k;(repeat(first|with_reducible first|refine vmR ?_|refine vmV rfl ?_|refine vmW rfl ?_|refine vmL ?_|refine blockW_y (by decide) ?_|((with_reducible first|apply vmO|apply vmT|apply vmC);case a=>simp[f,newSeq,newSl];with_reducible first|exact .v|exact .c|exact .t|exact .f)));exact k):G:=h f k
set_option maxHeartbeats 1000000 in
theorem ord2_ans(path:List Lg)(vp:AV)(hvp:SV 2 (path.map encL) vp)(hl:path.length≤1000000)(a b:Ver)(o:Nat)(h0:Hp Fm)(ho:Mp.get h0.obj o=some (.row [vp]))(hon:o<h0.no)(hpol:h0.pol 3=false) :
  A Tryz.prog TT (.func 107) [encV a,encV b,.ptr o 0] h0 (fun r h'=>r=.int .i64 (cmpO path a b)∧HE h0 h'):=by
 have nz:o≠h0.no:=by omega
 have nz2:o≠h0.no+1:=by omega
 have nz3:h0.no≠h0.no+1:=by omega
 apply A_go Tryz.func107 rfl (by rfl);(case hn=>(simp[Tryz.ntmps107];rfl))
 refine vF (cJ ho (cJ nz nz2)) ?_
 obtain⟨h1,hh1⟩:∃h1:Hp Fm,h1={ h0 with obj:=Mp.set (Mp.set h0.obj h0.no (.row (encV a).cells)) (h0.no+1) (.row (encV b).cells),no:=h0.no+1+1 }:=⟨_,rfl⟩
 have e1:HE h0 h1:=by rw[hh1];exact⟨by show h0.no≤h0.no+1+1;omega,Nat.le_refl _,rfl,fun q hq=>by simp[show q≠h0.no by omega,show q≠h0.no+1 by omega],fun _ _=>rfl⟩
 have ga:Mp.get h1.obj h0.no=some (.row (encV a).cells):=by rw[hh1];simp[nz3]
 have gb:Mp.get h1.obj (h0.no+1)=some (.row (encV b).cells):=by rw[hh1];simp
 have go:Mp.get h1.obj o=some (.row [vp]):=by rw[e1.obj _ hon];exact ho
 have na:h0.no<h1.no:=by rw[hh1];simp;omega
 have nb:h0.no+1<h1.no:=by rw[hh1];simp
 have no:o<h1.no:=by omega
 simp only[encV,cells_agg]at hh1 ga gb
 rw[←hh1]
 (with_reducible refine W_draw_id (pln:=true) [0,1,2,3,4,5,6,7,8,9,10,11,12,13,14,15,16,17,18,19,20,21,22,23,24,25,26,27,28,29,30,31,32] [(0,(0,[])),(2,(2,[])),(4,(4,[0])),(6,(6,[0])),(11,(11,[0,4,8])),(14,(14,[0,4,8])),(18,(18,[0,4,8,9])),(21,(21,[0,4,8,9])),(25,(25,[0,4,8,9,16])),(28,(28,[0,4,8,9,16]))] (by kernel_rfl) rfl ?_)
 refine vF (cJ go (cJ ga gb)) ?_
 refine A.mono (leg_ans path vp hvp hl b.br b.ep b.sq _) ?_
 rintro _ h2 ⟨rfl,e2⟩
 have e2':=(HE.refl h1).drew.trans e2
 have ga2:=(e2'.obj _ na).trans ga
 have gb2:=(e2'.obj _ nb).trans gb
 have go2:=(e2'.obj _ no).trans go
 refine vP ?_
 refine vF (cJ go2 (cJ ga2 gb2)) ?_
 refine A.mono (leg_ans path vp hvp hl a.br a.ep a.sq _) ?_
 rintro _ h3 ⟨rfl,e3⟩
 have e3':=e2'.trans e3
 have ga3:=(e3'.obj _ na).trans ga
 have gb3:=(e3'.obj _ nb).trans gb
 have go3:=(e3'.obj _ no).trans go
 have p3:h3.pol 3=false:=by rw[e3'.pol,e1.pol];exact hpol
 refine vP ?_
 refine vF (cJ go3 (cJ ga3 gb3)) ?_
 refine A.mono (compare_int _ _ _) ?_;rintro _ hh ⟨rfl,rfl⟩;refine⟨_,by simp;first | done | rfl,?_⟩
 refine vF (cJ go3 (cJ ga3 gb3)) ?_
 refine A.mono (compare_int _ _ _) ?_;rintro _ hh ⟨rfl,rfl⟩;refine⟨_,by simp;first | done | rfl,?_⟩
 refine vF (cJ go3 (cJ ga3 gb3)) ?_
 refine A.mono (compare_int _ _ _) ?_;rintro _ hh ⟨rfl,rfl⟩;refine⟨_,by simp;first | done | rfl,?_⟩
 refine vF (cJ go3 (cJ ga3 gb3)) ?_
 refine A.mono (compare_int _ _ _) ?_;rintro _ hh ⟨rfl,rfl⟩;refine⟨_,by simp;first | done | rfl,?_⟩
 refine vQc43 (cJ go3 (cJ ga3 (cJ gb3 p3))) ?_
 refine A.mono (or_ans _ _ _ _ _ _ _) ?_;rintro _ hh ⟨rfl,rfl⟩;refine⟨_,by simp;first | done | rfl,?_⟩
 refine vZ ?_
 refine⟨by simp[readSame,beqAV_self,go,ga,gb,go2,ga2,gb2,go3,ga3,gb3];done,_,by simp;first | done | rfl,?_⟩
 refine vZ ?_
 (first | apply endW_r | apply endW_n);(case h1=>(simp[Tryz.results107];first | done | rfl))
 exact⟨by simp[cmpO,legV],(e1.trans e3').newSl _⟩
end Go.Vn

set_option maxRecDepth 20000
namespace Go.Vn
open Go.Proofs
theorem RSat.at_{h:Hp Fm}{sz o cap:Nat}{els:List AV}(k:RSat h sz els o cap)(hf:∀e∈els,Fit true sz e){i:Nat}(hi:i<els.length) :
  ∃cs,Mp.get h.obj o=some (.row cs)∧partAV true sz cs (i*sz)=some els[i]∧i*sz+sz≤cs.length∧∀x h',Fit true sz x→Mp.get h'.obj o=some (.row (splice cs (i*sz) x.cells))→o<h'.no→RSat h' sz (els.set i x) o cap:=by
 obtain⟨⟨J,h1,h2⟩,h3,h4⟩:=k
 obtain⟨A,hA⟩:∃A,A=els.take i:=⟨_,rfl⟩
 obtain⟨C,hC⟩:∃C,C=els.drop (i+1):=⟨_,rfl⟩
 have hels:els=A++els[i]::C:=by rw[hA,hC,List.getElem_cons_drop,List.take_append_drop]
 have hAl:(A.flatMap AV.cells).length=i*sz:=by
  rw[fits_len (fun e he=>hf e (by rw[hels];simp[he]))]
  rw[hA,List.length_take];congr 1;omega
 have hfi:=hf els[i] (List.getElem_mem hi)
 have hcs:els.flatMap AV.cells++J=A.flatMap AV.cells++(els[i].cells++(C.flatMap AV.cells++J)):=by
  have:els.flatMap AV.cells=A.flatMap AV.cells++(els[i].cells++C.flatMap AV.cells):=by
   conv=>lhs;rw[hels]
   rw[List.flatMap_append,List.flatMap_cons]
  rw[this];simp
 refine⟨_,h1,?_,?_,?_⟩
 ·rw[hcs]
  unfold partAV
  rw[if_pos rfl,if_pos (by rw[List.length_append,hAl,List.length_append,hfi.len];omega)]
  rw[←hAl,List.drop_left,←hfi.len,List.take_left]
  rcases hfi with⟨_,cs,he,_⟩ | ⟨e,_⟩
  ·rw[he];rfl
  ·cases e
 ·rw[hcs,List.length_append,hAl,List.length_append,hfi.len];omega
 ·intro x h' hx hg hn
  have hset:els.set i x=A++x::C:=by
   rw[hA,hC]
   exact List.set_eq_take_append_cons_drop▸(by rw[if_pos hi])
  refine⟨⟨J,?_,by rw[List.length_set];exact h2⟩,by rw[List.length_set];exact h3,hn⟩
  rw[hg,hcs,hset]
  unfold splice
  rw[←hAl,List.take_left,←List.drop_drop,List.drop_left,hx.len,←hfi.len,List.drop_left,List.flatMap_append,List.flatMap_cons]
  simp
theorem fitV(a:Ver):Fit true 8 (encV a):=.inl ⟨rfl,_,rfl,rfl⟩
theorem fitVs(l:List Ver):∀e∈l.map encV,Fit true 8 e:=by
 intro e he
 obtain⟨a,_,rfl⟩:=List.mem_map.mp he
 exact fitV a
theorem RS.len{P:Program}{t e:TypeId}{lo:Nat}{h:Hp Fm}{sz:Nat}{ag:Bool}{els:List AV}{v:AV}(k:RS lo h sz ag els v)(hu:P.underlying t=some (.slice e)):lenAV P t v=some (.int .i64 els.length):=by
 rcases k with⟨rfl,rfl⟩ | ⟨o,cap,rfl,_⟩ <;> simp[lenAV,hu]
theorem RS.nm{lo:Nat}{h:Hp Fm}{sz:Nat}{ag:Bool}{els:List AV}{v:AV}(k:RS lo h sz ag els v)(o:Nat):v≠.mp o:=by
 rcases k with⟨rfl,_⟩ | ⟨_,_,rfl,_⟩ <;> simp
theorem RS.idx{P:Program}{t e:TypeId}{lo:Nat}{h:Hp Fm}{sz:Nat}{els:List AV}{v:AV}(k:RS lo h sz true els v)(hu:P.underlying t=some (.slice e))(hs:tsize P e=some sz)(hf:∀e∈els,Fit true sz e){i:Nat}(hi:i<els.length) :
  ∃o cs,indexAddrAV P t v (.int .i64 (i:Int))=some (.ptr o (i*sz))∧Mp.get h.obj o=some (.row cs)∧partAV true sz cs (i*sz)=some els[i]:=by
 rcases k with⟨rfl,rfl⟩ | ⟨o,cap,rfl,_,hk⟩
 ·simp at hi
 ·obtain⟨cs,h1,h2,_⟩:=hk.at_ hf hi
  exact⟨o,cs,by rw[index_rs hu hs (by omega) (by omega),Int.toNat_natCast],h1,h2⟩
theorem idxV(path:List Lg)(vp:AV)(hvp:SV 2 (path.map encL) vp)(hl:path.length≤1000000)(oc:Nat)(hb:Hp Fm)(hoc:Mp.get hb.obj oc=some (.row [vp]))(hcn:oc<hb.no)(xs:List Ver)(v:AV)(hxl:xs.length≤1000000)(h0:Hp Fm)(he0:HE hb h0)(hr:RS hb.no h0 8 true (xs.map encV) v) :
  A Tryz.prog TT (.func 119) [v,.fn (.func 104) [] [.ptr oc 0]] h0 (fun r h'=>r=.int .i64 (firstI (fun a=>decide (legV path a<0)) xs)∧HE h0 h'):=by
 have l1:=hr.len Tryz.underlying64
 rw[List.length_map]at l1
 have n1:=hr.nm
 apply A_go Tryz.func119 rfl (by rfl);(case hn=>(simp[Tryz.ntmps119];rfl))
 refine vF (cJ l1 n1) ?_
 refine W_loop (fun m s=>∃(t:Fm AV) (h:Hp Fm) (i:Nat),s=⟨t,19,h,none⟩∧m=xs.length-i∧i≤xs.length∧tget t 0=v∧tget t 1=.fn (.func 104) [] [.ptr oc 0]∧tget t 7=.int .i64 xs.length∧tget t 8=.int .i64 i∧(∀j (hj:j<i) (hx:j<xs.length),decide (legV path xs[j]<0)=false)∧HE h0 h) xs.length
  ⟨_,_,0,rfl,rfl,by omega,by simp,by simp,by simp,by simp,fun j hj=>absurd hj (Nat.not_lt_zero _),HE.refl _⟩ ?_
 rintro m s ⟨t,h,i,rfl,rfl,hi,t0,t1,t7,t8,hn,he⟩
 by_cases qi:i<xs.length
 ·obtain⟨o,cs,ix,gr,pt⟩:=(hr.he he).idx Tryz.underlying64 z117 (fitVs _) (i:=i) (by simpa using qi)
  simp only[List.getElem_map,encV]at pt
  have w1:IntKind.i64.wrap ((i:Int)+1)=((i+1:Nat):Int):=by rw[wrap64 (by omega) (by omega)];simp
  refine vF (cJ t0 (cJ t1 (cJ t7 (cJ t8 (cJ qi (cJ ix (cJ gr pt))))))) ?_
  refine A.mono (ord1_ans path vp hvp hl xs[i] oc h (((he0.trans he).obj _ hcn).trans hoc) (Nat.lt_of_lt_of_le hcn (he0.trans he).no)) ?_
  rintro _ hh ⟨rfl,heh⟩
  refine vP ?_
  cases qp:decide (legV path xs[i]<0)
  ·refine vF (cJ t0 (cJ t1 (cJ t7 (cJ t8 w1)))) ?_
   refine⟨_,?_,_,_,i+1,rfl,rfl,by omega,by simp[t0],by simp[t1],by simp[t7],by simp,?_,he.trans heh⟩
   ·omega
   ·intro j hj hx
    by_cases e:j=i
    ·subst e;exact qp
    ·exact hn j (by omega) hx
  ·refine vF (cJ t0 (cJ t1 (cJ t7 t8))) ?_
   (first | apply endW_r | apply endW_n);(case h1=>(simp[Tryz.results119];first | done | rfl))
   exact⟨by rw[firstI_at qi qp fun j hj=>hn j hj (by omega)],he.trans heh⟩
 ·have qn:¬(i<xs.length):=qi
  have hie:i=xs.length:=by omega
  refine vF (cJ t0 (cJ t1 (cJ t7 (cJ t8 (cJ qi qn))))) ?_
  (first | apply endW_r | apply endW_n);(case h1=>(simp[Tryz.results119];first | done | rfl))
  refine⟨?_,he⟩
  rw[firstI_none]
  intro x hx
  obtain⟨j,hj,rfl⟩:=List.getElem_of_mem hx
  exact hn j (by omega) hj
end Go.Vn

set_option maxRecDepth 20000
namespace Go.Vn
open Go.Proofs
theorem RSat.cut{h h':Hp Fm}{sz o cap:Nat}{els:List AV}(k:RSat h sz els o cap)(hf:∀e∈els,Fit true sz e){i:Nat}(hi:i≤els.length){cs cs':List AV}(hg:Mp.get h.obj o=some (.row cs))(hg':Mp.get h'.obj o=some (.row cs'))(hl:cs'.length=cs.length)(ht:cs'.take (i*sz)=cs.take (i*sz))(hn:o<h'.no):RSat h' sz (els.take i) o cap:=by
 obtain⟨⟨J,h1,h2⟩,h3,h4⟩:=k
 rw[h1]at hg
 injection hg with hg
 injection hg with hg
 have hA:((els.take i).flatMap AV.cells).length=i*sz:=by
  rw[fits_len (fun e he=>hf e (List.mem_of_mem_take he)),List.length_take];congr 1;omega
 have hcs:cs=(els.take i).flatMap AV.cells++((els.drop i).flatMap AV.cells++J):=by
  rw[←hg,←List.append_assoc,←List.flatMap_append,List.take_append_drop]
 have hcl:cs.length=cap*sz:=by
  rw[←hg,List.length_append,fits_len hf,h2,←Nat.add_mul];congr 1;omega
 have e1:cs'.take (i*sz)=(els.take i).flatMap AV.cells:=by rw[ht,hcs,←hA,List.take_left]
 have hlt:(els.take i).length=i:=by rw[List.length_take];omega
 refine⟨⟨cs'.drop (i*sz),by rw[hg',←e1,List.take_append_drop],?_⟩,by omega,hn⟩
 rw[List.length_drop,hl,hcl,hlt,Nat.sub_mul]
theorem RSat.len_{h:Hp Fm}{sz o cap:Nat}{els:List AV}(k:RSat h sz els o cap)(hf:∀e∈els,Fit true sz e){cs:List AV}(hg:Mp.get h.obj o=some (.row cs)):cs.length=cap*sz:=by
 obtain⟨⟨J,h1,h2⟩,h3,h4⟩:=k
 rw[h1]at hg
 injection hg with hg
 injection hg with hg
 rw[←hg,List.length_append,fits_len hf,h2,←Nat.add_mul];congr 1;omega
theorem RSat.he{h h':Hp Fm}{sz o cap:Nat}{els:List AV}(k:RSat h sz els o cap)(he:HE h h'):RSat h' sz els o cap:=by
 obtain⟨⟨J,h1,h2⟩,h3,h4⟩:=k
 exact⟨⟨J,(he.obj _ h4).trans h1,h2⟩,h3,Nat.lt_of_lt_of_le h4 he.no⟩
def unseen(path:List Lg)(a:Ver):Bool:=decide (legV path a<0)
set_option maxHeartbeats 2000000 in
theorem delf_ans(path:List Lg)(vp:AV)(hvp:SV 2 (path.map encL) vp)(hl:path.length≤1000000)(oc:Nat)(hb:Hp Fm)(hoc:Mp.get hb.obj oc=some (.row [vp]))(hcn:oc<hb.no)(xs:List Ver)(v:AV)(hxl:xs.length≤1000000)(h0:Hp Fm)(he0:HE hb h0)(hr:RS hb.no h0 8 true (xs.map encV) v) :
  A Tryz.prog TT (.func 102) [v,.fn (.func 104) [] [.ptr oc 0]] h0 (fun r h'=>RS hb.no h' 8 true ((xs.filter fun a => !unseen path a).map encV) r∧HE hb h'):=by
 have vc:=hr.cells
 have vd:=hr.isCell
 apply A_go Tryz.func102 rfl (by rfl);(case hn=>(simp[Tryz.ntmps102];rfl))
 refine vZ ?_
 refine A.mono (idxV path vp hvp hl oc hb hoc hcn xs v hxl _ he0 hr) ?_
 rintro _ h1 ⟨rfl,he1⟩
 refine vP ?_
 cases q:xs.findIdx? (unseen path)with
 | none=>
  have hall:=List.findIdx?_eq_none_iff.mp q
  have e:firstI (fun a=>decide (legV path a<0)) xs=-1:=firstI_none hall
  rw[e]
  refine vF (cJ vc vd) ?_
  (first | apply endW_r | apply endW_n);(case h1=>(simp[Tryz.results102];first | done | rfl))
  refine⟨?_,he0.trans he1⟩
  have:(xs.filter fun a => !unseen path a)=xs:=List.filter_eq_self.mpr fun a ha=>by simp[hall a ha]
  rw[this]
  exact hr.he he1
 | some i0=>
  obtain⟨hi0,hp0,hn0⟩:=List.findIdx?_eq_some_iff_getElem.mp q
  have e:firstI (fun a=>decide (legV path a<0)) xs=(i0:Int):=by
   show firstI (unseen path) xs=_
   unfold firstI;rw[q]
  rw[e]
  have hr1:=hr.he he1
  rcases hr1 with⟨_,hnil⟩ | ⟨o,cap,rfl,hlo,hk⟩
  ·have:xs=[]:=by simpa using hnil
   subst this;simp at hi0
  have hcapn:=hk.cap
  rw[List.length_map]at hcapn
  have ne:¬((i0:Int)=-1):=by omega
  have w0:IntKind.i64.wrap ((i0:Int)+1)=((i0+1:Nat):Int):=by rw[wrap64 (by omega) (by omega)];simp
  obtain⟨n,hn⟩:∃n,n=xs.length:=⟨_,rfl⟩
  rw[List.length_map,←hn]
  rw[List.length_map,←hn]at vc vd
  refine vF (cJ ne w0) ?_
  refine W_loop (fun m s=>∃(t:Fm AV) (h:Hp Fm) (i j:Nat) (ys:List Ver),s=⟨t,42,h,none⟩∧m=n-j∧j≤n∧i<j∧ys.length=n∧ys.take i=(xs.take j).filter (fun a => !unseen path a)∧ys.drop j=xs.drop j∧tget t 0=.rs o 0 8 true n cap∧tget t 1=.fn (.func 104) [] [.ptr oc 0]∧tget t 5=.int .i64 i∧tget t 6=.int .i64 j∧RSat h 8 (ys.map encV) o cap∧HE hb h) (n-(i0+1))
   ⟨_,_,i0,i0+1,xs,rfl,rfl,by omega,by omega,hn.symm,?_,rfl,by simp,by simp,by simp,by simp,hk,he0.trans he1⟩ ?_
  ·rw[List.take_succ_eq_append_getElem hi0,List.filter_append]
   have h1:((xs.take i0).filter fun a => !unseen path a)=xs.take i0:=by
    rw[List.filter_eq_self]
    intro a ha
    obtain⟨j,hj,rfl⟩:=List.getElem_of_mem ha
    rw[List.length_take]at hj
    have:=hn0 j (by omega)
    simpa using this
   rw[h1];simp[hp0]
  rintro m s ⟨t,h,i,j,ys,rfl,rfl,hj,hij,hyl,htk,hdr,t0,t1,t5,t6,hk2,he⟩
  have hon:=hk2.on
  by_cases qj:j<n
  ·have hyj:ys[j]'(by omega)=xs[j]'(by omega):=by
    have h1:(ys.drop j)[0]'(by simp;omega)=(xs.drop j)[0]'(by simp;omega):=by simp only[hdr]
    simpa using h1
   obtain⟨a,ha⟩:∃a,a=xs[j]'(by omega):=⟨_,rfl⟩
   obtain⟨cs,gr,pt,hle,hset⟩:=hk2.at_ (fitVs _) (i:=j) (by rw[List.length_map];omega)
   simp only[List.getElem_map,hyj,←ha,encV]at pt
   have ix:indexAddrAV Tryz.prog 64 (.rs o 0 8 true n cap) (.int .i64 (j:Int))=some (.ptr o (j*8)):=by
    rw[index_rs Tryz.underlying64 z117 (by omega) (by omega),Int.toNat_natCast]
   have w1:IntKind.i64.wrap ((j:Int)+1)=((j+1:Nat):Int):=by rw[wrap64 (by omega) (by omega)];simp
   have w2:IntKind.i64.wrap ((i:Int)+1)=((i+1:Nat):Int):=by rw[wrap64 (by omega) (by omega)];simp
   refine vF (cJ t0 (cJ t1 (cJ t5 (cJ t6 (cJ qj (cJ ix (cJ gr pt))))))) ?_
   obtain⟨h2,hh2⟩:∃h2:Hp Fm,h2={ h with obj:=Mp.set (Mp.set h.obj h.no (.row [.str [],.int .i64 0,.int .i64 0,.int .i64 0,.int .i64 0,.int .i64 0,.str [],.bool false])) h.no (.row (encV a).cells),no:=h.no+1 }:=⟨_,rfl⟩
   have hx2:HE h h2:=by rw[hh2];exact((HE.refl h).new (.row [.str [],.int .i64 0,.int .i64 0,.int .i64 0,.int .i64 0,.int .i64 0,.str [],.bool false])).set (Nat.le_refl _) _
   have g7:Mp.get h2.obj h.no=some (.row (encV a).cells):=by rw[hh2];simp
   have hno:h.no<h2.no:=by rw[hh2];simp
   simp only[encV,cells_agg]at hh2 g7
   rw[←hh2]
   have he2:=he.trans hx2
   refine A.mono (ord1_ans path vp hvp hl a oc h2 ((he2.obj _ hcn).trans hoc) (Nat.lt_of_lt_of_le hcn he2.no)) ?_
   rintro _ h3 ⟨rfl,hx3⟩
   have he3:=he2.trans hx3
   have g8:=(hx3.obj _ hno).trans g7
   have gr3:=((hx2.trans hx3).obj _ hon).trans gr
   have hk3:=hk2.he (hx2.trans hx3)
   refine vP ?_
   have hfl:(xs.take (j+1)).filter (fun a => !unseen path a)=(xs.take j).filter (fun a => !unseen path a)++(if unseen path a then []else [a]):=by
    rw[List.take_succ_eq_append_getElem (by omega),List.filter_append,←ha]
    cases hu:unseen path a <;> simp[hu]
   have hdr2:ys.drop (j+1)=xs.drop (j+1):=by
    have:=congrArg (List.drop 1) hdr
    simpa[List.drop_drop]using this
   cases qp:decide (legV path a<0)
   ·obtain⟨cs3,gr3',pt3,hle3,hset3⟩:=hk3.at_ (fitVs _) (i:=i) (by rw[List.length_map];omega)
    rw[gr3]at gr3'
    injection gr3' with gr3'
    injection gr3' with gr3'
    subst gr3'
    have ix2:indexAddrAV Tryz.prog 64 (.rs o 0 8 true n cap) (.int .i64 (i:Int))=some (.ptr o (i*8)):=by
     rw[index_rs Tryz.underlying64 z117 (by omega) (by omega),Int.toNat_natCast]
    refine vF (cJ t0 (cJ t1 (cJ t5 (cJ t6 (cJ g8 (cJ ix2 (cJ gr3 (cJ hle3 (cJ w1 w2))))))))) ?_
    have hk4:=hset3 (encV a) { h3 with obj:=Mp.set h3.obj o (.row (splice cs (i*8) (encV a).cells)) } (fitV a) (by simp) hk3.on
    rw[←List.map_set]at hk4
    refine⟨_,?_,_,_,i+1,j+1,ys.set i a,rfl,rfl,by omega,by omega,by simp[hyl],?_,?_,by simp[t0],by simp[t1],by simp,by simp,hk4,he3.set hlo _⟩
    ·omega
    ·rw[hfl,←htk]
     have:unseen path a=false:=qp
     rw[this,List.take_succ_eq_append_getElem (by rw[List.length_set];omega),List.take_set_of_le (Nat.le_refl _)]
     simp
    ·rw[List.drop_set_of_lt (by omega)];exact hdr2
   ·refine vF (cJ t0 (cJ t1 (cJ t5 (cJ t6 w1)))) ?_
    refine⟨_,?_,_,_,i,j+1,ys,rfl,rfl,by omega,by omega,hyl,?_,hdr2,by simp[t0],by simp[t1],by simp[t5],by simp,hk3,he3⟩
    ·omega
    ·rw[hfl,htk]
     have:unseen path a=true:=qp
     simp[this]
  ·have hje:j=n:=by omega
   have qn:¬(j<n):=qj
   obtain⟨J,hJ,hJl⟩:=hk2.row
   obtain⟨cs,gr,_,_⟩:=hk2.at_ (fitVs _) (i:=i) (by rw[List.length_map];omega)
   have hcl:=hk2.len_ (fitVs _) gr
   obtain⟨d,hd⟩:∃d,d=n-i:=⟨_,rfl⟩
   have sl1:sliceAV Tryz.prog 64 (.rs o 0 8 true n cap) (some (.int .i64 (i:Int))) none none=some (.rs o (i*8) 8 true d (cap-i)):=by
    have h1:(i:Int)≤n:=by omega
    have h2:n≤cap:=by omega
    have h3:¬cap=i:=by omega
    have h4:(n:Int)≤cap:=by omega
    have h5:i≤n:=by omega
    simp[sliceAV,Tryz.underlying64,z117,obound,bound,h1,h2,h3,h4,h5,←hd]
   have dn:¬d=0:=by omega
   have hle:i*8+d*8≤cs.length:=by rw[hcl];omega
   have cl:clearAV Tryz.prog h 64 (.rs o (i*8) 8 true d (cap-i))=some (.tup [],{ h with obj:=Mp.set h.obj o (.row (splice cs (i*8) (List.replicate d [AV.str [],.int .i64 0,.int .i64 0,.int .i64 0,.int .i64 0,.int .i64 0,.str [],.bool false]).flatten)) }):=by
    simp[clearAV,Tryz.underlying64,z117,t117,dn,gr,hle]
   have sl2:sliceAV Tryz.prog 64 (.rs o 0 8 true n cap) none (some (.int .i64 (i:Int))) none=some (.rs o 0 8 true i cap):=by
    rw[take_rs Tryz.underlying64 z117 (by omega) (by omega) (by omega),Int.toNat_natCast]
   refine vF (cJ t0 (cJ t1 (cJ t5 (cJ t6 (cJ qj (cJ qn (cJ sl1 (cJ sl2 cl)))))))) ?_
   (first | apply endW_r | apply endW_n);(case h1=>(simp[Tryz.results102];first | done | rfl))
   have hs:xs.filter (fun a => !unseen path a)=ys.take i:=by
    rw[htk,hje,hn,List.take_length]
   have hspl:(splice cs (i*8) (List.replicate d [AV.str [],.int .i64 0,.int .i64 0,.int .i64 0,.int .i64 0,.int .i64 0,.str [],.bool false]).flatten).length=cs.length:=by
    have:∀d,(List.replicate d [AV.str [],.int .i64 0,.int .i64 0,.int .i64 0,.int .i64 0,.int .i64 0,.str [],.bool false]).flatten.length=d*8:=by
     intro d
     induction d with
     | zero=>rfl
     | succ d ih=>rw[List.replicate_succ,List.flatten_cons,List.length_append,ih];simp;omega
    unfold splice
    rw[List.length_append,List.length_append,List.length_take,List.length_drop,this];omega
   have hk5:=hk2.cut (fitVs _) (i:=i) (by rw[List.length_map];omega) gr (h':={ h with obj:=Mp.set h.obj o (.row (splice cs (i*8) (List.replicate d [AV.str [],.int .i64 0,.int .i64 0,.int .i64 0,.int .i64 0,.int .i64 0,.str [],.bool false]).flatten)) }) (by simp only[Mp.get_set,if_true]) hspl (by unfold splice;rw[List.append_assoc,List.take_append_of_le_length (by rw[List.length_take];omega),List.take_take,Nat.min_self]) hon
   rw[←List.map_take]at hk5
   refine⟨.inr ⟨o,cap,?_,hlo,?_⟩,he.set hlo _⟩
   ·simp[hs];omega
   ·rw[hs];exact hk5
end Go.Vn

set_option maxRecDepth 20000
namespace Go.Vn
open Go.Proofs
theorem etv:ElT Tryz.prog 64 117 8 80 true (.agg [.str [],.int .i64 0,.int .i64 0,.int .i64 0,.int .i64 0,.int .i64 0,.str [],.bool false]):=⟨Tryz.underlying64,z117,b117,a117,t117,rfl,rfl,(fun h=>by first | rfl | cases h),by omega,by omega⟩
@[simp] theorem eql_nn:eqlAV Tryz.prog 20 64 .nils .nils=some true:=by simp[eqlAV,Tryz.underlying64]
@[simp] theorem eql_sn(g o z c:Nat)(l:List AV):eqlAV Tryz.prog 20 64 (.sl g o z c l) .nils=some false:=by simp[eqlAV,Tryz.underlying64]
@[simp] theorem eql_en(c:Nat):eqlAV Tryz.prog 20 64 (.esl c) .nils=some false:=by simp[eqlAV,Tryz.underlying64]
def SL(sz:Nat)(xs:List AV)(v:AV):Prop:=(v=.nils∧xs=[])∨∃g off cp,v=.sl g off sz cp xs
theorem SL.sv{sz:Nat}{xs:List AV}{v:AV}(k:SL sz xs v):SV sz xs v:=by
 rcases k with h | h
 ·exact .inl h
 ·exact .inr (.inl h)
theorem AC.sl{h0 h:Hp Fm}{sz:Nat}{acc:List AV}{v:AV}(k:AC h0 h sz acc v):SL sz acc v:=by
 rcases k with h | ⟨g,off,cap,h,_⟩
 ·exact .inl h
 ·exact .inr ⟨g,off,cap,h⟩
theorem vQf44{F G K:Prop}(f:F)(k:K)(h:F→K→G:=by intro f k;(repeat(first|with_reducible first|refine vmR ?_|refine vmV rfl ?_|refine vmW rfl ?_|refine vmL ?_|refine blockW_y (by decide) ?_|((with_reducible first|apply vmO|apply vmT|apply vmC);case a=>simp[f,newSeq];with_reducible first|exact .v|exact .c|exact .t|exact .f)));exact k):G:=h f k
theorem clonev_ans(xs:List Ver)(v:AV)(hv:SL 8 (xs.map encV) v)(hl:xs.length≤1000000)(h0:Hp Fm)(hp:h0.pol 117=true) :
  A Tryz.prog TT (.func 103) [v] h0 (fun r h'=>RS h0.no h' 8 true (xs.map encV) r∧HE h0 h'):=by
 have he1:HE h0 (newRs h0 8 true [.str [],.int .i64 0,.int .i64 0,.int .i64 0,.int .i64 0,.int .i64 0,.str [],.bool false] 0 []).2:=HE.x2 (HE.refl _) (newRs_hx (fun _=>False) (fun _=>False) _ _ _ _ _ _) (fun _ e=>e.elim) (fun _ e=>e.elim)
 have hv':=hv.sv
 rcases hv with⟨rfl,hx⟩ | ⟨g,off,cp,rfl⟩
 ·apply A_go Tryz.func103 rfl (by rfl);(case hn=>(simp[Tryz.ntmps103];rfl))
  refine vZ ?_
  (first | apply endW_r | apply endW_n);(case h1=>(simp[Tryz.results103];first | done | rfl))
  exact⟨.inl ⟨rfl,hx⟩,HE.refl _⟩
 ·apply A_go Tryz.func103 rfl (by rfl);(case hn=>(simp[Tryz.ntmps103];rfl))
  refine vQf44 hp ?_
  with_reducible apply WO_app_i;(case hw=>(simp[newSeq,hp];done));(case ho=>rfl);(case hb=>rfl);(case ha=>(simp[newSeq,hp];first | done | exact⟨rfl,rfl⟩ | rfl));(case h1=>(simp;first | done | rfl));(case h2=>(simp;first | done | rfl))
  refine app_then (RS.appN (lo:=h0.no) (h:=(newRs h0 8 true [.str [],.int .i64 0,.int .i64 0,.int .i64 0,.int .i64 0,.int .i64 0,.str [],.bool false] 0 []).2) etv (RS.fresh etv (Nat.le_refl _) 0 [] (Nat.le_refl _)) he1.no (by rw[he1.pol];exact hp) (SV.newEls hv') (by simp) (fitVs _) (by simp;omega)) ?_
  rintro w h2 ⟨rs2,hx2,hp2,hr2⟩
  have e2:=rs2.cells
  have f2:=rs2.isCell
  refine vP ?_
  refine vF (cJ e2 f2) ?_
  (first | apply endW_r | apply endW_n);(case h1=>(simp[Tryz.results103];first | done | rfl))
  refine⟨by simpa using rs2,he1.x2 hx2 ?_ (fun _ e=>e.elim)⟩
  rintro q ⟨_,_,_,_,_,e⟩
  simp only[newRs]at e
  injection e with e
  omega
end Go.Vn
