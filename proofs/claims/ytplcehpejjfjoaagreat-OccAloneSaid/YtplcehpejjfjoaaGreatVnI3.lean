/- What functions of the program come to, in the value machine (a part of the proof of the claim's statement). No condition. -/
import Derived.Test.YtplcehpejjfjoaaGreatVnI2
import Derived.Test.YtplcehpejjfjoaaGreatVnH4
set_option linter.unusedSimpArgs false
set_option linter.unusedVariables false
set_option maxRecDepth 20000
namespace Go.Vn
open Go.Proofs
theorem set_split{α:Type}(xs:List α)(j:Nat)(hj:j<xs.length)(y:α):∃l1 l2,xs=l1++xs[j]::l2∧xs.set j y=l1++y::l2:=
 ⟨xs.take j,xs.drop (j+1),by simp,by rw[List.set_eq_take_append_cons_drop,if_pos hj]⟩
theorem EngH.upd{h0 h h':Hp Fm}{g pm:Nat}{ep sq ep' sq':Int}{xs:List Tr}{lv:AV}{lg:List Nat}(k:EngH h0 h g pm ep sq xs lv lg){j:Nat}(hj:j<xs.length){x x':Tr}(ex:x=xs[j])
  (hx:HX (fun o=>o=g∨o=x.p∨o=x.m) (fun q=>q∈x.rg++x.sg) h h') (row:Mp.get h'.obj g=some (.row [.ifc 25 (.ptr pm 0),.int .i64 ep',.int .i64 sq',lv]))
  (T':TrI h' x') (ep1:x'.p=x.p) (em1:x'.m=x.m) (gn:(x'.rg++x'.sg).Nodup) (gs:∀q∈x'.rg++x'.sg,q∈x.rg++x.sg∨h.ng≤q):EngH h0 h' g pm ep' sq' (xs.set j x') lv lg:=by
 have hmem:x∈xs:=by rw[ex];exact List.getElem_mem _
 have em:(xs.set j x').map (fun x:Tr=>AV.ptr x.p 0)=xs.map (fun x=>.ptr x.p 0):=by
  rw[List.map_set,ep1,ex]
  apply List.ext_getElem (by simp)
  intro i h1 h2
  rw[List.getElem_set]
  split
  ·rename_i e;subst e;simp
  ·rfl
 obtain⟨l1,l2,s1,s2⟩:=set_split xs j hj x'
 rw[←ex]at s1
 have eo:objsT (xs.set j x')=objsT xs:=by
  rw[s2]
  conv=>rhs;rw[s1]
  simp[objsT,ep1,em1]
 have g1:grpsT xs=grpsT l1++((x.rg++x.sg)++grpsT l2):=by
  conv=>lhs;rw[s1]
  simp[grpsT]
 have g2:grpsT (xs.set j x')=grpsT l1++((x'.rg++x'.sg)++grpsT l2):=by
  rw[s2];simp[grpsT]
 have ndg:=k.ndg
 rw[g1]at ndg
 have p1:∀G:List Nat,(lg++(grpsT l1++(G++grpsT l2))).Perm (G++(lg++(grpsT l1++grpsT l2))):=fun G=>by
  refine((List.Perm.append_left lg (List.Perm.append_left (grpsT l1) List.perm_append_comm)).trans ?_).trans List.perm_append_comm
  simp
 have ndg1:=(p1 _).nodup_iff.mp ndg
 have glt:∀q∈lg++(grpsT l1++grpsT l2),q<h.ng:=fun q hq=>by
  rcases List.mem_append.mp hq with hq | hq
  ·exact k.ac.lt q hq
  ·have:q∈grpsT xs:=by
    rw[g1]
    rcases List.mem_append.mp hq with hq | hq
    ·exact List.mem_append_left _ hq
    ·exact List.mem_append_right _ (List.mem_append_right _ hq)
   obtain⟨z,hz,hq⟩:=List.mem_flatMap.mp this
   exact(k.tr z hz).glt q hq
 have pne:=k.p_ne hmem
 have kn:=k.nd
 refine⟨row,?_,?_,?_,?_,Nat.lt_of_lt_of_le k.gn hx.no,?_,?_,?_⟩
 ·rw[em]
  exact k.ac.of (fun q hq=>hx.len q (k.ac.lt q hq) (fun z=>k.g_ne hmem q z hq)) hx.ng
 ·intro z hz
  rw[s2]at hz
  have other:z∈l1∨z∈l2→TrI h' z:=fun hz=>by
   have hzm:z∈xs:=by
    rw[s1]
    rcases hz with hz | hz
    ·exact List.mem_append_left _ hz
    ·exact List.mem_append_right _ (List.mem_cons_of_mem _ hz)
   have zne:=k.p_ne hzm
   have nd2:=(List.nodup_cons.mp kn).2
   have ho:∀o∈[z.p,z.m],o≠x.p∧o≠x.m:=fun o ho=>by
    rw[s1]at nd2
    simp only[objsT,List.flatMap_append,List.flatMap_cons]at nd2
    obtain⟨n1,n2,n3⟩:=List.nodup_append.mp nd2
    obtain⟨n4,n5,n6⟩:=List.nodup_append.mp n2
    rcases hz with hz | hz
    ·have m1:o∈l1.flatMap (fun x:Tr=>[x.p,x.m]):=List.mem_flatMap.mpr ⟨z,hz,ho⟩
     exact⟨n3 o m1 x.p (by simp),n3 o m1 x.m (by simp)⟩
    ·have m1:o∈l2.flatMap (fun x:Tr=>[x.p,x.m]):=List.mem_flatMap.mpr ⟨z,hz,ho⟩
     exact⟨fun e=>n6 x.p (by simp) o m1 e.symm,fun e=>n6 x.m (by simp) o m1 e.symm⟩
   refine(k.tr z hzm).of hx ?_ ?_ ?_
   ·rintro (e | e | e)
    ·exact zne.1 e
    ·exact(ho z.p (by simp)).1 e
    ·exact(ho z.p (by simp)).2 e
   ·rintro (e | e | e)
    ·exact zne.2.1 e
    ·exact(ho z.m (by simp)).1 e
    ·exact(ho z.m (by simp)).2 e
   ·intro q hq hq2
    refine(List.nodup_append.mp ndg1).2.2 q hq2 q (List.mem_append_right _ ?_) rfl
    rcases hz with hz | hz
    ·exact List.mem_append_left _ (grpsT_mem hz hq)
    ·exact List.mem_append_right _ (grpsT_mem hz hq)
  rcases List.mem_append.mp hz with hz | hz
  ·exact other (.inl hz)
  ·rcases List.mem_cons.mp hz with rfl | hz
   ·exact T'
   ·exact other (.inr hz)
 ·rw[eo];exact kn
 ·rw[g2]
  refine(p1 _).nodup_iff.mpr (List.nodup_append.mpr ⟨gn,(List.nodup_append.mp ndg1).2.1,fun q hq r hr e=>?_⟩)
  subst e
  rcases gs q hq with z | z
  ·exact(List.nodup_append.mp ndg1).2.2 q z q hr rfl
  ·have:=glt q hr;omega
 ·rw[eo];exact k.lo
 ·intro q hq
  rw[g2]at hq
  have hq:=(p1 _).mem_iff.mp hq
  rcases List.mem_append.mp hq with hq | hq
  ·rcases gs q hq with z | z
   ·exact k.log q ((by rw[g1];exact(p1 _).mem_iff.mpr (List.mem_append_left _ z)))
   ·exact Nat.le_trans k.he.ng z
  ·exact k.log q (by rw[g1];exact(p1 _).mem_iff.mpr (List.mem_append_right _ hq))
 ·refine k.he.x2 hx (fun o ho=>?_) (fun q hq=>k.log q (List.mem_append_right _ (grpsT_mem hmem hq)))
  rcases ho with rfl | rfl | rfl
  ·exact k.lo _ (by simp)
  ·exact k.lo _ (List.mem_cons_of_mem _ (objsT_mem hmem).1)
  ·exact k.lo _ (List.mem_cons_of_mem _ (objsT_mem hmem).2)
theorem TrI.row{h h':Hp Fm}{x:Tr}(k:TrI h x)(st:Int)(ops:Int)(at_:St3)(hx:HX (fun o=>o=x.p) (fun _=>False) h h')(hm:x.m≠x.p)
  (row:∀a b c,Mp.get h.obj x.p=some (.row [.int .i64 x.br,.int .i64 x.st,.int .i64 x.ops,.int .i64 x.at_.b,.int .i64 x.at_.e,.int .i64 x.at_.s,a,b,c])→Mp.get h'.obj x.p=some (.row [.int .i64 x.br,.int .i64 st,.int .i64 ops,.int .i64 at_.b,.int .i64 at_.e,.int .i64 at_.s,a,b,c])) :
  TrI h' { x with st:=st,ops:=ops,at_:=at_ }:=by
 obtain⟨es,rdv,scv,sls,T⟩:=k
 exact⟨es,rdv,scv,sls,row _ _ _ T.row,(hx.obj _ T.mn hm).trans T.map,T.en,T.born,T.rd.of (fun g hg=>hx.len g (T.rd.lt g hg) (fun z=>z)) hx.ng,T.sc.of (fun g hg=>hx.len g (T.sc.lt g hg) (fun z=>z)) hx.ng,T.scr,Nat.lt_of_lt_of_le T.pn hx.no,Nat.lt_of_lt_of_le T.mn hx.no⟩
theorem HX.wide{h h':Hp Fm}{S G:Nat→Prop}(k:HX S (fun _=>False) h h'):HX S G h h':=⟨k.no,k.ng,k.pol,k.obj,fun q hq _=>k.len q hq (fun z=>z)⟩
theorem HX.set1{h h':Hp Fm}{S:Nat→Prop}{o:Nat}{r:AObj Fm}(ho:S o):HX S (fun _=>False) h { h with obj:=Mp.set h.obj o r }:=
 ⟨Nat.le_refl _,Nat.le_refl _,rfl,fun p hp hs=>by
  show Mp.get (Mp.set h.obj o r) p=_
  rw[Mp.get_set,if_neg (fun e=>hs (by rw[e];exact ho))],fun _ _ _=>rfl⟩
theorem TrH.ops{h:Hp Fm}{x:Tr}{es:List (AV × AV × Nat)}{rdv scv:AV}{sls:List AV}(T:TrH h x es rdv scv sls){h':Hp Fm}(st ops:Int)(at_:St3)
  (hx:HX (fun o=>o=x.p) (fun _=>False) h h') (hm:x.m≠x.p) (row:Mp.get h'.obj x.p=some (.row [.int .i64 x.br,.int .i64 st,.int .i64 ops,.int .i64 at_.b,.int .i64 at_.e,.int .i64 at_.s,.mp x.m,rdv,scv])) :
  TrI h' { x with st:=st,ops:=ops,at_:=at_ }:=
 ⟨es,rdv,scv,sls,row,(hx.obj _ T.mn hm).trans T.map,T.en,T.born,T.rd.of (fun g hg=>hx.len g (T.rd.lt g hg) (fun z=>z)) hx.ng,T.sc.of (fun g hg=>hx.len g (T.sc.lt g hg) (fun z=>z)) hx.ng,T.scr,Nat.lt_of_lt_of_le T.pn hx.no,Nat.lt_of_lt_of_le T.mn hx.no⟩
theorem EngH.st{h0 h:Hp Fm}{g pm:Nat}{ep sq:Int}{xs:List Tr}{lv:AV}{lg:List Nat}(k:EngH h0 h g pm ep sq xs lv lg){j:Nat}(hj:j<xs.length){x:Tr}(ex:x=xs[j])(st ops:Int){es:List (AV × AV × Nat)}{rdv scv:AV}{sls:List AV}(T:TrH h x es rdv scv sls) :
  EngH h0 { h with obj:=Mp.set h.obj x.p (.row [.int .i64 x.br,.int .i64 st,.int .i64 ops,.int .i64 x.at_.b,.int .i64 x.at_.e,.int .i64 x.at_.s,.mp x.m,rdv,scv]) } g pm ep sq (xs.set j { x with st:=st,ops:=ops }) lv lg:=by
 have hmem:x∈xs:=by rw[ex];exact List.getElem_mem _
 have xg:=k.p_ne hmem
 refine k.upd hj ex (HX.set1 (h':=h) (.inr (.inl rfl))).wide ?_ (T.ops st ops x.at_ (HX.set1 (h':=h) rfl) (fun e=>xg.2.2 e.symm) (by simp)) rfl rfl ?_ (fun q hq=>.inl hq)
 ·show Mp.get (Mp.set h.obj x.p _) g=_
  rw[Mp.get_set,if_neg (fun e=>xg.1 e.symm)];exact k.row
 ·obtain⟨l1,l2,s1,_⟩:=set_split xs j hj x
  have ndg:=(List.nodup_append.mp k.ndg).2.1
  rw[s1,←ex]at ndg
  simp only[grpsT,List.flatMap_append,List.flatMap_cons]at ndg
  exact(List.nodup_append.mp (List.nodup_append.mp ndg).2.1).1
theorem EngH.st2{h0 h h':Hp Fm}{g pm:Nat}{ep sq ep' sq':Int}{xs:List Tr}{lv:AV}{lg:List Nat}(k:EngH h0 h g pm ep sq xs lv lg){j:Nat}(hj:j<xs.length){x:Tr}(ex:x=xs[j])(st ops:Int)(at_:St3){es:List (AV × AV × Nat)}{rdv scv:AV}{sls:List AV}(T:TrH h x es rdv scv sls)
  (hno:h'.no=h.no) (hng:h'.ng=h.ng) (hpol:h'.pol=h.pol) (hlen:h'.len=h.len) (ho:∀o,o≠g→o≠x.p→Mp.get h'.obj o=Mp.get h.obj o) (row:Mp.get h'.obj g=some (.row [.ifc 25 (.ptr pm 0),.int .i64 ep',.int .i64 sq',lv]))
  (rowx:Mp.get h'.obj x.p=some (.row [.int .i64 x.br,.int .i64 st,.int .i64 ops,.int .i64 at_.b,.int .i64 at_.e,.int .i64 at_.s,.mp x.m,rdv,scv])) :
  EngH h0 h' g pm ep' sq' (xs.set j { x with st:=st,ops:=ops,at_:=at_ }) lv lg:=by
 have hmem:x∈xs:=by rw[ex];exact List.getElem_mem _
 have xg:=k.p_ne hmem
 have hx:HX (fun o=>o=g∨o=x.p∨o=x.m) (fun q=>q∈x.rg++x.sg) h h':=⟨Nat.le_of_eq hno.symm,Nat.le_of_eq hng.symm,hpol,fun o _ hs=>ho o (fun e=>hs (.inl e)) (fun e=>hs (.inr (.inl e))),fun _ _ _=>by rw[hlen]⟩
 refine k.upd hj ex hx row ⟨es,rdv,scv,sls,rowx,(ho x.m xg.2.1 (fun e=>xg.2.2 e.symm)).trans T.map,T.en,T.born,T.rd.of (fun g _=>by rw[hlen]) (Nat.le_of_eq hng.symm),T.sc.of (fun g _=>by rw[hlen]) (Nat.le_of_eq hng.symm),T.scr,by rw[hno];exact T.pn,by rw[hno];exact T.mn⟩ rfl rfl ?_ (fun q hq=>.inl hq)
 obtain⟨l1,l2,s1,_⟩:=set_split xs j hj x
 have ndg:=(List.nodup_append.mp k.ndg).2.1
 rw[s1,←ex]at ndg
 simp only[grpsT,List.flatMap_append,List.flatMap_cons]at ndg
 exact(List.nodup_append.mp (List.nodup_append.mp ndg).2.1).1
end Go.Vn

set_option maxRecDepth 20000
namespace Go.Vn
open Go.Proofs
theorem step_none(h0 h:Hp Fm)(g pm:Nat)(ep sq:Int)(xs:List Tr)(lv:AV)(lg:List Nat)(k:EngH h0 h g pm ep sq xs lv lg)(i:Int)(hi64:-9223372036854775808≤i∧i≤9223372036854775807)(hxl:xs.length≤1000000)(hn:findR xs i≠0) :
  A Tryz.prog TT (.func 11) [.ptr g 0,.int .i64 i] h (fun r h'=>r=.tup [.int .i64 0,.int .i64 (findR xs i)]∧HE h h'):=by
 apply A_go Tryz.func11 rfl (by rfl);(case hn=>(simp[Tryz.ntmps11];rfl))
 refine vZ ?_
 refine A.mono (find_ans h0 h g pm ep sq xs lv lg k i hi64 hxl) ?_
 rintro _ h1 ⟨eh,⟨f1,rfl⟩ | ⟨f1,_⟩⟩
 case inr=>exact absurd f1 hn
 rw[eh]
 clear eh h1
 refine vP ?_
 obtain⟨e,he⟩:∃e,e=findR xs i:=⟨_,rfl⟩
 rw[←he]at f1 ⊢
 refine vF f1 ?_
 (first | apply endW_r | apply endW_n);(case h1=>(simp[Tryz.results11];first | done | rfl))
 exact⟨rfl,((HE.refl h).new _).set (Nat.le_refl _) _⟩
theorem step_done(h0 h:Hp Fm)(g pm:Nat)(ep sq:Int)(xs:List Tr)(lv:AV)(lg:List Nat)(k:EngH h0 h g pm ep sq xs lv lg)(j:Nat)(hj:j<xs.length)(hst:(xs[j]).st=4)(hxl:xs.length≤1000000) :
  A Tryz.prog TT (.func 11) [.ptr g 0,.int .i64 ((j:Int)+1)] h (fun r h'=>r=.tup [.int .i64 0,.int .i64 26]∧HE h h'):=by
 have hmem:xs[j]∈xs:=List.getElem_mem _
 have hne:(xs[j]).st≠5:=by rw[hst];omega
 obtain⟨x,ex⟩:∃x,x=xs[j]:=⟨_,rfl⟩
 have hfr:findR xs ((j:Int)+1)=0:=by
  unfold findR
  rw[if_pos (by omega),show((j:Int)+1-1).toNat=j by omega,List.getD_eq_getElem?_getD,List.getElem?_eq_getElem hj,Option.getD_some,if_neg hne]
 rw[←ex]at hst hmem hne
 have xg:=k.p_ne hmem
 have T:=k.tr x hmem
 obtain⟨es,rdv,scv,sls,Tx⟩:=k.tr x hmem
 have tr:=Tx.row
 rw[hst]at tr
 apply A_go Tryz.func11 rfl (by rfl);(case hn=>(simp[Tryz.ntmps11];rfl))
 refine vZ ?_
 refine A.mono (find_ans h0 h g pm ep sq xs lv lg k ((j:Int)+1) (by omega) hxl) ?_
 rintro _ h1 ⟨eh,⟨f1,_⟩ | ⟨_,j',hj',e1,_,rfl⟩⟩
 case inl=>exact absurd hfr f1
 rw[eh]
 clear eh h1
 have:j'=j:=by omega
 subst this
 rw[←ex]
 refine vP ?_
 have ph:x.p≠h.no:=Nat.ne_of_lt Tx.pn
 have gh:g≠h.no:=Nat.ne_of_lt k.gn
 refine vF (cJ tr (cJ ph gh)) ?_
 (first | apply endW_r | apply endW_n);(case h1=>(simp[Tryz.results11];first | done | rfl))
 exact⟨rfl,((HE.refl h).new _).set (Nat.le_refl _) _⟩
set_option maxHeartbeats 1000000 in
theorem step_open(h0 h:Hp Fm)(g pm:Nat)(ep sq:Int)(xs:List Tr)(lv:AV)(lg:List Nat)(k:EngH h0 h g pm ep sq xs lv lg)(j:Nat)(hj:j<xs.length)(hst:(xs[j]).st=1)(hxl:xs.length≤1000000)(hwl:∀y∈xs,y.wr.length≤60000) :
  A Tryz.prog TT (.func 11) [.ptr g 0,.int .i64 ((j:Int)+1)] h (fun r h'=>
   ((xs.any fun y=>lockQ xs[j] y (wroteQ xs[j]))=true∧r=.tup [.int .i64 5,.int .i64 25]∧EngH h0 h' g pm ep sq (xs.set j { xs[j]with st:=5 }) lv lg∧HX (fun o=>o=(xs[j]).p) (fun _=>False) h h') ∨
   ((xs.any fun y=>lockQ xs[j] y (wroteQ xs[j]))=false∧r=.tup [.int .i64 2,.int .i64 0]∧EngH h0 h' g pm ep sq (xs.set j { xs[j]with st:=2 }) lv lg∧HX (fun o=>o=(xs[j]).p) (fun _=>False) h h')):=by
 have hmem:xs[j]∈xs:=List.getElem_mem _
 have hne:(xs[j]).st≠5:=by rw[hst];omega
 obtain⟨x,ex⟩:∃x,x=xs[j]:=⟨_,rfl⟩
 have hfr:findR xs ((j:Int)+1)=0:=by
  unfold findR
  rw[if_pos (by omega),show((j:Int)+1-1).toNat=j by omega,List.getD_eq_getElem?_getD,List.getElem?_eq_getElem hj,Option.getD_some,if_neg hne]
 rw[←ex]at hst hmem hne
 have xg:=k.p_ne hmem
 have T:=k.tr x hmem
 obtain⟨es,rdv,scv,sls,Tx⟩:=k.tr x hmem
 have tr:=Tx.row
 rw[hst]at tr
 apply A_go Tryz.func11 rfl (by rfl);(case hn=>(simp[Tryz.ntmps11];rfl))
 refine vZ ?_
 refine A.mono (find_ans h0 h g pm ep sq xs lv lg k ((j:Int)+1) (by omega) hxl) ?_
 rintro _ h1 ⟨eh,⟨f1,_⟩ | ⟨_,j',hj',e1,_,rfl⟩⟩
 case inl=>exact absurd hfr f1
 rw[eh]
 clear eh h1
 have:j'=j:=by omega
 subst this
 rw[←ex]
 refine vP ?_
 have ph:x.p≠h.no:=Nat.ne_of_lt Tx.pn
 have gh:g≠h.no:=Nat.ne_of_lt k.gn
 refine vF (cJ tr (cJ ph gh)) ?_
 refine A_heap ?_
 intro hA hhA
 have eA:HE h hA:=by rw[hhA];exact((HE.refl h).new _).set (Nat.le_refl _) _
 have gA:Mp.get hA.obj h.no=some (.row [.ptr x.p 0]):=by rw[hhA];simp
 have nA:h.no<hA.no:=by rw[hhA];exact Nat.lt_succ_self _
 clear hhA
 have kA:=k.of eA
 have TA:=kA.tr x hmem
 refine A.mono (locked_ans h0 hA g pm ep sq xs lv lg kA x hmem hxl hwl 32 (by simp) [.ptr h.no 0] (wroteQ x) (fun y hy=>step1_ans hA x TA h.no gA nA _)) ?_
 rintro _ hB ⟨rfl,eB⟩
 refine vP ?_
 have kB:=kA.of eB
 obtain⟨esB,rdB,scB,slB,TB⟩:=kB.tr x hmem
 have gB:=(eB.obj _ nA).trans gA
 have trB:=TB.row
 rw[hst]at trB
 have grB:=kB.row
 have nB:h.no≠x.p:=fun z=>ph z.symm
 cases hq:(xs.any fun y=>lockQ x y (wroteQ x))with
 | true=>
  refine vF (cJ gB (cJ trB (cJ nB ph))) ?_
  (first | apply endW_r | apply endW_n);(case h1=>(simp[Tryz.results11];first | done | rfl))
  refine .inl ⟨rfl,rfl,?_,(HE.x (HE.trans eA eB) (fun o=>o=x.p) (fun _=>False)).set (fun _=>rfl) _⟩
  exact kB.st hj ex 5 x.ops TB
 | false=>
  refine vF (cJ gB (cJ trB (cJ nB ph))) ?_
  (first | apply endW_r | apply endW_n);(case h1=>(simp[Tryz.results11];first | done | rfl))
  refine .inr ⟨rfl,rfl,?_,(HE.x (HE.trans eA eB) (fun o=>o=x.p) (fun _=>False)).set (fun _=>rfl) _⟩
  exact kB.st hj ex 2 x.ops TB
set_option maxHeartbeats 1000000 in
theorem step_lock(h0 h:Hp Fm)(g pm:Nat)(ep sq:Int)(xs:List Tr)(lv:AV)(lg:List Nat)(k:EngH h0 h g pm ep sq xs lv lg)(j:Nat)(hj:j<xs.length)(hst:(xs[j]).st=2)(hxl:xs.length≤1000000)(hsq:0≤sq∧sq≤100000)(vq:Bool)
  (hval:∀h1,HE h h1→A Tryz.prog TT (.func 33) [.ptr g 0,.ptr (xs[j]).p 0] h1 (fun r h'=>r=.bool vq∧HE h1 h')) :
  A Tryz.prog TT (.func 11) [.ptr g 0,.int .i64 ((j:Int)+1)] h (fun r h'=>
   (vq=false∧r=.tup [.int .i64 5,.int .i64 25]∧EngH h0 h' g pm ep sq (xs.set j { xs[j]with st:=5 }) lv lg∧HX (fun o=>o=g∨o=(xs[j]).p) (fun _=>False) h h') ∨
   (vq=true∧100000≤sq∧r=.tup [.int .i64 0,.int .i64 27]∧EngH h0 h' g pm ep sq xs lv lg∧HX (fun o=>o=g∨o=(xs[j]).p) (fun _=>False) h h') ∨
   (vq=true∧sq<100000∧r=.tup [.int .i64 3,.int .i64 0]∧EngH h0 h' g pm ep (sq+1) (xs.set j { xs[j]with st:=3,at_:=⟨(xs[j]).br,ep,sq+1⟩ }) lv lg∧HX (fun o=>o=g∨o=(xs[j]).p) (fun _=>False) h h')):=by
 have hmem:xs[j]∈xs:=List.getElem_mem _
 have hne:(xs[j]).st≠5:=by rw[hst];omega
 obtain⟨x,ex⟩:∃x,x=xs[j]:=⟨_,rfl⟩
 have hfr:findR xs ((j:Int)+1)=0:=by
  unfold findR
  rw[if_pos (by omega),show((j:Int)+1-1).toNat=j by omega,List.getD_eq_getElem?_getD,List.getElem?_eq_getElem hj,Option.getD_some,if_neg hne]
 rw[←ex]at hst hmem hne
 have xg:=k.p_ne hmem
 have T:=k.tr x hmem
 obtain⟨es,rdv,scv,sls,Tx⟩:=k.tr x hmem
 have tr:=Tx.row
 rw[hst]at tr
 apply A_go Tryz.func11 rfl (by rfl);(case hn=>(simp[Tryz.ntmps11];rfl))
 refine vZ ?_
 refine A.mono (find_ans h0 h g pm ep sq xs lv lg k ((j:Int)+1) (by omega) hxl) ?_
 rintro _ h1 ⟨eh,⟨f1,_⟩ | ⟨_,j',hj',e1,_,rfl⟩⟩
 case inl=>exact absurd hfr f1
 rw[eh]
 clear eh h1
 have:j'=j:=by omega
 subst this
 rw[←ex]
 refine vP ?_
 have ph:x.p≠h.no:=Nat.ne_of_lt Tx.pn
 have gh:g≠h.no:=Nat.ne_of_lt k.gn
 rw[←ex]at hval
 refine vF (cJ tr (cJ ph gh)) ?_
 refine A_heap ?_
 intro hA hhA
 have eA:HE h hA:=by rw[hhA];exact((HE.refl h).new _).set (Nat.le_refl _) _
 have gA:Mp.get hA.obj h.no=some (.row [.ptr x.p 0]):=by rw[hhA];simp
 have nA:h.no<hA.no:=by rw[hhA];exact Nat.lt_succ_self _
 clear hhA
 have kA:=k.of eA
 refine A.mono (hval hA eA) ?_
 rintro _ hB ⟨rfl,eB⟩
 refine vP ?_
 have kB:=kA.of eB
 obtain⟨esB,rdB,scB,slB,TB⟩:=kB.tr x hmem
 have gB:=(eB.obj _ nA).trans gA
 have trB:=TB.row
 rw[hst]at trB
 have grB:=kB.row
 have nB:h.no≠x.p:=fun z=>ph z.symm
 have nG:h.no≠g:=fun z=>gh z.symm
 have xg1:=xg.1
 have xg2:g≠x.p:=fun e=>xg.1 e.symm
 cases vq with
 | false=>
  refine vF (cJ gB (cJ trB (cJ nB ph))) ?_
  (first | apply endW_r | apply endW_n);(case h1=>(simp[Tryz.results11];first | done | rfl))
  exact .inl ⟨rfl,rfl,kB.st hj ex 5 x.ops TB,(HE.x (HE.trans eA eB) (fun o=>o=g∨o=x.p) (fun _=>False)).set (fun _=>.inr rfl) _⟩
 | true=>
  by_cases q:100000≤sq
  ·refine vF (cJ gB (cJ trB (cJ nB (cJ ph (cJ grB q))))) ?_
   (first | apply endW_r | apply endW_n);(case h1=>(simp[Tryz.results11];first | done | rfl))
   exact .inr (.inl ⟨rfl,q,rfl,kB,HE.x (HE.trans eA eB) (fun o=>o=g∨o=x.p) (fun _=>False)⟩)
  ·have w1:IntKind.i64.wrap (sq+1)=sq+1:=wrap64 (by omega) (by omega)
   refine vF (cJ gB (cJ trB (cJ nB (cJ nG (cJ ph (cJ gh (cJ xg1 (cJ xg2 (cJ grB (cJ q w1)))))))))) ?_
   (with_reducible refine W_draw_id (pln:=true) [0,1,2,3,4,5,6,7,8,9,10,11,12,13,14,15,16] [(0,(0,[])),(1,(1,[])),(4,(4,[])),(8,(8,[])),(12,(12,[]))] (by kernel_rfl) rfl ?_)
   refine vF (cJ gB (cJ trB (cJ nB (cJ nG (cJ ph (cJ gh (cJ xg1 (cJ xg2 (cJ grB (cJ q w1)))))))))) ?_
   refine⟨by simp[readSame,beqAV_self,gB,trB,nB,nG,ph,gh,xg1,xg2,grB,q,w1];done,_,by simp;first | done | rfl,?_⟩
   refine vF (cJ gB (cJ trB (cJ nB (cJ nG (cJ ph (cJ gh (cJ xg1 (cJ xg2 (cJ grB (cJ q w1)))))))))) ?_
   (first | apply endW_r | apply endW_n);(case h1=>(simp[Tryz.results11];first | done | rfl))
   refine .inr (.inr ⟨rfl,by omega,rfl,?_,⟨(HE.trans eA eB).no,(HE.trans eA eB).ng,(HE.trans eA eB).pol,fun o ho hs=>by
    have h1:o≠g:=fun z=>hs (.inl z)
    have h2:o≠x.p:=fun z=>hs (.inr z)
    simp[h1,h2,Hp.drew]
    exact(HE.trans eA eB).obj o ho,fun q hq _=>(HE.trans eA eB).len q hq⟩⟩)
   exact kB.st2 hj ex 3 x.ops ⟨x.br,ep,sq+1⟩ TB rfl rfl rfl rfl (fun o o1 o2=>by simp[o1,o2,Hp.drew]) (by simp[xg1,xg2,Hp.drew]) (by simp[xg1,xg2,Hp.drew])
theorem step_valid(h0 h:Hp Fm)(g pm:Nat)(ep sq:Int)(xs:List Tr)(lv:AV)(lg:List Nat)(k:EngH h0 h g pm ep sq xs lv lg)(j:Nat)(hj:j<xs.length)(hst:(xs[j]).st=3)(hxl:xs.length≤1000000)(P:Hp Fm→Prop)(hP:∀h1 r,P h1→P { h1 with obj:=Mp.set h1.obj (xs[j]).p r })
  (hins:∀h1,HE h h1→A Tryz.prog TT (.func 34) [.ptr g 0,.ptr (xs[j]).p 0] h1 (fun _ h'=>EngH h0 h' g pm ep sq xs lv lg∧P h'∧∀o,h.no≤o→o<h1.no→Mp.get h'.obj o=Mp.get h1.obj o)) :
  A Tryz.prog TT (.func 11) [.ptr g 0,.int .i64 ((j:Int)+1)] h (fun r h'=>r=.tup [.int .i64 4,.int .i64 0]∧EngH h0 h' g pm ep sq (xs.set j { xs[j]with st:=4 }) lv lg∧P h'):=by
 have hmem:xs[j]∈xs:=List.getElem_mem _
 have hne:(xs[j]).st≠5:=by rw[hst];omega
 obtain⟨x,ex⟩:∃x,x=xs[j]:=⟨_,rfl⟩
 have hfr:findR xs ((j:Int)+1)=0:=by
  unfold findR
  rw[if_pos (by omega),show((j:Int)+1-1).toNat=j by omega,List.getD_eq_getElem?_getD,List.getElem?_eq_getElem hj,Option.getD_some,if_neg hne]
 rw[←ex]at hst hmem hne
 have xg:=k.p_ne hmem
 have T:=k.tr x hmem
 obtain⟨es,rdv,scv,sls,Tx⟩:=k.tr x hmem
 have tr:=Tx.row
 rw[hst]at tr
 apply A_go Tryz.func11 rfl (by rfl);(case hn=>(simp[Tryz.ntmps11];rfl))
 refine vZ ?_
 refine A.mono (find_ans h0 h g pm ep sq xs lv lg k ((j:Int)+1) (by omega) hxl) ?_
 rintro _ h1 ⟨eh,⟨f1,_⟩ | ⟨_,j',hj',e1,_,rfl⟩⟩
 case inl=>exact absurd hfr f1
 rw[eh]
 clear eh h1
 have:j'=j:=by omega
 subst this
 rw[←ex]
 refine vP ?_
 have ph:x.p≠h.no:=Nat.ne_of_lt Tx.pn
 have gh:g≠h.no:=Nat.ne_of_lt k.gn
 rw[←ex]at hins hP
 refine vF (cJ tr (cJ ph gh)) ?_
 refine A_heap ?_
 intro hA hhA
 have eA:HE h hA:=by rw[hhA];exact((HE.refl h).new _).set (Nat.le_refl _) _
 have gA:Mp.get hA.obj h.no=some (.row [.ptr x.p 0]):=by rw[hhA];simp
 have nA:h.no<hA.no:=by rw[hhA];exact Nat.lt_succ_self _
 clear hhA
 refine A.mono (hins hA eA) ?_
 rintro _ hB ⟨kB,pB,oB⟩
 refine vP ?_
 obtain⟨esB,rdB,scB,slB,TB⟩:=kB.tr x hmem
 have gB:=(oB _ (Nat.le_refl _) nA).trans gA
 have trB:=TB.row
 rw[hst]at trB
 have nB:h.no≠x.p:=fun z=>ph z.symm
 refine vF (cJ gB (cJ trB (cJ nB ph))) ?_
 (first | apply endW_r | apply endW_n);(case h1=>(simp[Tryz.results11];first | done | rfl))
 exact⟨rfl,kB.st hj ex 4 x.ops TB,hP _ _ pB⟩
end Go.Vn

set_option maxRecDepth 20000
namespace Go.Vn
open Go.Proofs
end Go.Vn

set_option maxRecDepth 20000
namespace Go.Vn
open Go.Proofs
theorem sorts_nil(h0:Hp Fm):A Tryz.prog TT (.func 88) [.nils] h0 (fun _ h'=>h'=h0):=by
 have ins:∀h,A Tryz.prog TT (.func 125) [.nils,.int .i64 0,.int .i64 0] h (fun _ h'=>h'=h):=fun h=>by
  apply A_go Tryz.func125 rfl (by rfl);(case hn=>(simp[Tryz.ntmps125];rfl))
  refine vZ ?_
  refine W_loop_i ?_
  refine vZ ?_
  (first | apply endW_r | apply endW_n);(case h1=>(simp[Tryz.results125];first | done | rfl))
  rfl
 have pd:∀(v:Int) (h:Hp Fm),A Tryz.prog TT (.func 111) [.nils,.int .i64 0,.int .i64 0,.int .i64 v] h (fun _ h'=>h'=h):=fun v h=>by
  apply A_go Tryz.func111 rfl (by rfl);(case hn=>(simp[Tryz.ntmps111];rfl))
  refine vZ ?_
  refine W_loop_i ?_
  refine vZ ?_
  refine A.mono (ins h) ?_
  rintro r _ rfl
  refine vP ?_
  refine vZ ?_
  (first | apply endW_r | apply endW_n);(case h1=>(simp[Tryz.results111];first | done | rfl))
  rfl
 have w1:IntKind.u64.wrap 0=0:=by rfl
 apply A_go Tryz.func88 rfl (by rfl);(case hn=>(simp[Tryz.ntmps88];rfl))
 refine vF w1 ?_
 refine A.mono (bitslen_ans 0 (by omega) h0) ?_
 rintro _ hh ⟨v,rfl,v1,v2,_,ehh⟩
 rw[ehh]
 refine vP ?_
 refine vZ ?_
 refine A.mono (pd v h0) ?_
 rintro r _ rfl
 refine vP ?_
 refine vZ ?_
 (first | apply endW_r | apply endW_n);(case h1=>(simp[Tryz.results88];first | done | rfl))
 rfl
def Rising(l:List Tx):Prop:=SortR ltB l 0 l.length
theorem fitS(l:List Tx):∀e∈l.map AV.str,Fit false 1 e:=fun e he=>by obtain⟨x,_,rfl⟩:=List.mem_map.mp he;exact .inr ⟨rfl,rfl,rfl,rfl⟩
theorem clsE_str(l:List Tx):clsE AV.str l=l.map AV.str:=by
 induction l with
 | nil=>rfl
 | cons a l ih=>simp[clsE]at ih ⊢;exact ih
theorem flat_str(l:List Tx):(l.map AV.str).flatMap AV.cells=l.map AV.str:=by
 induction l with
 | nil=>rfl
 | cons a l ih=>simp[AV.cells]at ih ⊢;exact ih
set_option maxHeartbeats 1000000 in
theorem sorted_ans(F:Nat)(hF:hasBody Tryz.prog F=true)(kc:KeysC F)(bx m clk:Nat)(es:List (AV × AV × Nat))(hlt:∀e∈es,e.2.2<clk)(hnd:(es.map (·.2.2)).Nodup)(ks:AV × AV × Nat→List UInt8)(hkc:∀e∈es,e.1=.str (ks e))(hlen:es.length≤60000)(h0:Hp Fm)(hb:Mp.get h0.obj bx=some (.row [.mp m]))(hm:Mp.get h0.obj m=some (.mp es clk))(bn:bx<h0.no)(mn:m<h0.no) :
  A Tryz.prog TT (.func 65) [.fn (.func F) [] [.ptr bx 0]] h0 (fun r h'=>∃l:List Tx,SV 1 (l.map AV.str) r∧l.Perm (es.map ks)∧Rising l∧HE h0 h'):=by
 obtain⟨ha,hha⟩:∃ha:Hp Fm,ha={ h0 with pol:=(· == 9) }:=⟨_,rfl⟩
 have hpa:ha.pol 9=true:=by rw[hha];rfl
 have hba:Mp.get ha.obj bx=some (.row [.mp m]):=by rw[hha];exact hb
 have hma:Mp.get ha.obj m=some (.mp es clk):=by rw[hha];exact hm
 have hno:ha.no=h0.no:=by rw[hha]
 have f0:∀h':Hp Fm,HE ha h'→HE h0 { h' with pol:=h0.pol }:=fun h' k=>⟨by have:=k.no;rw[hha]at this;exact this,by have:=k.ng;rw[hha]at this;exact this,rfl,by have:=k.obj;rw[hha]at this;exact this,by have:=k.len;rw[hha]at this;exact this⟩
 have coll:A Tryz.prog TT (.func 59) [.fn (.func F) [] [.ptr bx 0]] ha (fun r h'=>∃done:List (AV × AV × Nat),done.Perm es∧RS ha.no h' 1 false (done.map (·.1)) r∧HE ha h'):=by
  apply A_go Tryz.func59 rfl (by rfl);(case hn=>(simp[Tryz.ntmps59];rfl))
  refine vZ ?_
  refine A.mono (appseq_ans F hF kc bx m clk es hlt hnd ks hkc hlen ha hpa hba hma (by omega) (by omega)) ?_
  rintro r h1 ⟨done,d1,d2,d3⟩
  have c1:=d2.cells
  have c2:=d2.isCell
  refine vP ?_
  refine vF (cJ c1 c2) ?_
  (first | apply endW_r | apply endW_n);(case h1=>(simp[Tryz.results59];first | done | rfl))
  exact⟨done,d1,d2,d3⟩
 apply A_goT Tryz.func65 rfl (by rfl);(case hn=>(simp[Tryz.ntmps65];rfl))
 refine vZ ?_
 rw[←hha]
 refine A.mono coll ?_
 rintro r h1 ⟨done,d1,d2,d3⟩
 have c1:=d2.cells
 have c2:=d2.isCell
 refine vP ?_
 have dk:done.map (·.1)=(done.map ks).map AV.str:=by
  rw[List.map_map]
  exact List.map_congr_left fun e he=>hkc e (d1.mem_iff.mp he)
 rw[dk]at d2
 have dl:(done.map ks).length=es.length:=by rw[List.length_map,d1.length_eq]
 have dp:(done.map ks).Perm (es.map ks):=d1.map ks
 obtain⟨l0,hl0⟩:∃l0,l0=done.map ks:=⟨_,rfl⟩
 rw[←hl0]at d2 dl dp
 clear hl0 dk d1 done
 rcases d2 with⟨rfl,e⟩ | ⟨o,cap,rfl,hlo,⟨J,h2,h3⟩,hc,ho⟩
 ·have hl0:l0=[]:=by simpa using e
  subst hl0
  refine vZ ?_
  refine A.mono (sorts_nil h1) ?_
  rintro r _ rfl
  refine vP ?_
  refine vZ ?_
  (first | apply endW_r | apply endW_n);(case h1=>(simp[Tryz.results65];first | done | rfl))
  exact⟨[],.inl ⟨rfl,rfl⟩,dp,fun i j h1 h2 h3=>by simp at h3,f0 _ d3⟩
 ·obtain⟨n,hn⟩:∃n,n=(l0.map AV.str).length:=⟨_,rfl⟩
  rw[←hn]at h3 hc ⊢
  rw[List.length_map]at hn
  refine vZ ?_
  rw[flat_str,←clsE_str]at h2
  refine A.mono (sorts_ans o n cap J l0 hn.symm (by omega) h1 ⟨h2,HX.refl _ _ _,ho⟩) ?_
  rintro r h4 ⟨l4,k4,p4,s4⟩
  have hll:l4.length=n:=p4.len.trans hn.symm
  refine vP ?_
  refine vZ ?_
  (first | apply endW_r | apply endW_n);(case h1=>(simp[Tryz.results65];first | done | rfl))
  have k5:RS o h4 1 false (l4.map AV.str) (.rs o 0 1 false n cap):=.inr ⟨o,cap,by rw[List.length_map,hll],Nat.le_refl _,⟨J,by rw[flat_str,←clsE_str];exact k4.row,by rw[List.length_map,hll];exact h3⟩,by rw[List.length_map,hll];exact hc,Nat.lt_of_lt_of_le ho k4.hx.no⟩
  obtain⟨z1,z2⟩:=k5.frz (fitS l4) (by omega) (fun _=>rfl)
  refine⟨l4,z1,p4.perm.trans dp,by unfold Rising;rw[hll];exact s4,?_⟩
  refine f0 _ ((d3.x2 k4.hx (fun q e=>by omega) (fun _ z=>z.elim)).x2 z2 (fun q hq=>by have:=k5.rows q hq;omega) (fun _ z=>z.elim))
end Go.Vn

set_option maxRecDepth 20000
namespace Go.Vn
open Go.Proofs
theorem MemE.lo{h:Hp Fm}{pm lo lo':Nat}{bs:List Br}(k:MemE h pm bs lo)(e:lo'≤lo):MemE h pm bs lo':=by
 obtain⟨ok,pc,pl,pn,po,bv,a1,a2,a3,a4,a5,a6,b1,b2,b3,b4,b5,c1,c2,c3,c4,c5⟩:=k
 exact⟨ok,pc,pl,pn,po,bv,a1,a2,a3,a4,a5,RS.lo a6 e,b1,b2,b3,b4,b5,by omega,by omega,by omega,by omega,by omega⟩
end Go.Vn

set_option maxRecDepth 20000
namespace Go.Vn
open Go.Proofs
end Go.Vn

set_option maxRecDepth 20000
namespace Go.Vn
open Go.Proofs
structure Cl where
 k:Int
 id:Int
 t:Int
 key:Bs
 to:Bs
 f:Int
 u:Int
 v:Bs
deriving Inhabited
@[simp] def encC(c:Cl):AV:=.agg [.int .i64 c.k,.int .i64 c.id,.int .i64 c.t,.str c.key,.str c.to,.int .i64 c.f,.int .i64 c.u,.str c.v]
def ClR(c:Cl):Prop:=i64R c.k∧i64R c.id∧i64R c.t∧i64R c.f∧i64R c.u
structure Bare(x:Tr):Prop where
 br:x.br=0
 wr:x.wr=[]
 rd:x.rd=[]
 sc:x.sc=[]
 s1:1≤x.st
 s4:x.st≤4
end Go.Vn

set_option maxRecDepth 20000
namespace Go.Vn
open Go.Proofs
end Go.Vn
