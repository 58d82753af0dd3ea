/- What functions of the program come to, in the value machine (a part of the proof of the claim's statement). No condition. -/
import Derived.Test.YtplcehpejjfjoaaGreatVnL4
set_option linter.unusedSimpArgs false
set_option linter.unusedVariables false
set_option maxRecDepth 20000
namespace Go.Vn
open Go.Proofs
theorem EngH.ofX{hz h h':Hp Fm}{g pm:Nat}{ep sq:Int}{xs:List Tr}{lv:AV}{lg:List Nat}(k:EngH hz h g pm ep sq xs lv lg)(z0:hz.no=0)(zg:hz.ng=0){S G:Nat→Prop}(hx:HX S G h h')(hS:∀o∈g::objsT xs,¬S o)(hG:∀q∈lg++grpsT xs,¬G q):EngH hz h' g pm ep sq xs lv lg:=by
 refine⟨(hx.obj _ k.gn (hS g (by simp))).trans k.row,k.ac.of (fun q hq=>hx.len q (k.ac.lt q hq) (hG q (List.mem_append_left _ hq))) hx.ng,fun x hm=>?_,k.nd,k.ndg,Nat.lt_of_lt_of_le k.gn hx.no,k.lo,k.log,⟨by omega,by omega,hx.pol.trans k.he.pol,fun o ho=>by omega,fun q hq=>by omega⟩⟩
 obtain⟨a,b⟩:=objsT_mem hm
 exact(k.tr x hm).of hx (hS _ (List.mem_cons_of_mem _ a)) (hS _ (List.mem_cons_of_mem _ b)) (fun q hq=>hG q (List.mem_append_right _ (grpsT_mem hm hq)))
def verP(a:St3)(k:List UInt8)(p:Pc):Ver:=⟨k,0,a.e,a.s,p.fr,p.to,p.val.tail,decide (p.val=[45])⟩
def LowV(v:Ver)(a:St3):Prop:=v.ep<a.e∨(v.ep=a.e∧v.sq<a.s)
theorem verP_may{a:St3}(ha:1≤a.e∧a.e≤10000∧1≤a.s∧a.s≤100000){k:List UInt8}(hk:keyOk k=true){p:Pc}(hp:PcMay p):VMay (verP a k p)=true:=by
 obtain⟨h1,h2,h3⟩:=hp
 obtain⟨a1,a2,a3,a4⟩:=ha
 have b1:decide ((0:Int)≤0∧(0:Int)≤15)=true:=by decide
 have b2:decide (1≤a.e∧a.e≤10000)=true:=decide_eq_true ⟨a1,a2⟩
 have b3:decide (1≤a.s∧a.s≤100000)=true:=decide_eq_true ⟨a3,a4⟩
 have b4:decide (SpMay p.fr p.to)=true:=decide_eq_true h1
 have b5:decide (p.val.tail.length≤200)=true:=decide_eq_true (by rw[List.length_tail];omega)
 have hg:(!decide (p.val=[45]) || p.val.tail.isEmpty)=true:=by
  by_cases e:p.val=[45]
  ·simp[e]
  ·simp[e]
 show(keyOk k&&decide ((0:Int)≤0∧(0:Int)≤15)&&decide (1≤a.e∧a.e≤10000)&&decide (1≤a.s∧a.s≤100000)&&decide (SpMay p.fr p.to)&&decide (p.val.tail.length≤200)&&(!decide (p.val=[45]) || p.val.tail.isEmpty))=true
 rw[hk,b1,b2,b3,b4,b5,hg];rfl
theorem findM_ins(key:List UInt8)(vs:List Ver):∀M:Mem,findM key M=none→findM key (insM key vs M)=some vs
 | [],_=>by simp[insM,findM,ltB_irr]
 | m::M,h=>by
  unfold insM
  unfold findM at h
  split
  ·rename_i q
   rw[if_pos q]at h
   unfold findM
   rw[if_pos q];exact findM_ins key vs M h
  ·unfold findM
   rw[ltB_irr];simp
theorem findM_set(key:List UInt8)(vs ws:List Ver):∀M:Mem,findM key M=some ws→findM key (setM key vs M)=some vs
 | [],h=>by cases h
 | m::M,h=>by
  unfold setM
  unfold findM at h
  split
  ·rename_i q
   rw[if_pos q]at h
   unfold findM
   rw[if_pos q];exact findM_set key vs ws M h
  ·rename_i q
   rw[if_neg q]at h
   split at h
   ·rename_i q2
    unfold findM
    rw[if_neg q,if_pos q2]
   ·cases h
theorem addM_get(M:Mem)(x:Ver):findM x.key (addM M x)=some (getM x.key M++[x]):=by
 unfold addM putM
 split
 ·rename_i ws h;exact findM_set _ _ ws M h
 ·rename_i h;exact findM_ins _ _ M h
theorem addM_len(M:Mem)(x:Ver):(addM M x).length=M.length+(if (findM x.key M).isSome then 0 else 1):=by
 unfold addM putM
 split
 ·rename_i ws h;rw[(setM_len _ _ ws M h).1,h];rfl
 ·rename_i h;rw[(insM_len _ _ M).1,h];rfl
theorem MOk.add{M:Mem}(h:MOk M){x:Ver}(hb:x.br=0)(he:x.ep≤10000)(hlt:∀y∈getM x.key M,LtV y x):MOk (addM M x):=by
 intro m hm
 rcases putM_mem hm with hm | rfl
 ·exact h m hm
 ·have vo:=h.get x.key
  refine⟨fun v hv=>?_,?_⟩
  ·rcases List.mem_append.mp hv with z | z
   ·exact vo.all v z
   ·rw[List.mem_singleton.mp z];exact⟨rfl,hb,he⟩
  ·show(getM x.key M++[x]).Pairwise LtV
   rw[List.pairwise_append]
   exact⟨vo.rise,by simp,fun a ha b hb=>by rw[List.mem_singleton.mp hb];exact hlt a ha⟩
theorem getM_mem{M:Mem}{key:List UInt8}{v:Ver}(h:v∈getM key M):∃m∈M,m.1=key∧v∈m.2:=by
 unfold getM at h
 cases hf:findM key M with
 | none=>rw[hf]at h;cases h
 | some vs=>rw[hf]at h;exact⟨_,findM_mem hf,rfl,h⟩
def FromM(M:Mem)(x:Tr)(ks:List (List UInt8))(M':Mem):Prop:=∀m∈M',∀v∈m.2,(∃m0∈M,m0.1=m.1∧v∈m0.2)∨(m.1∈ks∧v.ep=x.at_.e∧v.sq=x.at_.s)
theorem FromM.add{M M':Mem}{x:Tr}{ks:List (List UInt8)}(h:FromM M x ks M')(k:List UInt8)(hk:k∈ks)(p:Pc):FromM M x ks (addM M' (verP x.at_ k p)):=by
 intro m hm v hv
 rcases putM_mem hm with hm | rfl
 ·exact h m hm v hv
 ·rcases List.mem_append.mp hv with z | z
  ·obtain⟨m1,h1,h2,h3⟩:=getM_mem z
   have:=h m1 h1 v h3
   rw[h2]at this
   exact this
  ·rw[List.mem_singleton.mp z];exact .inr ⟨hk,rfl,rfl⟩
theorem FromM.mono{M M':Mem}{x:Tr}{ks ks':List (List UInt8)}(h:FromM M x ks M')(hs:∀k∈ks,k∈ks'):FromM M x ks' M':=fun m hm v hv=>(h m hm v hv).imp (fun z=>z) fun z=>⟨hs _ z.1,z.2⟩
structure InS(h0 hh:Hp Fm)(D0 D:Nat→Prop)(pm:Nat)(bs:List Br)(M:Mem):Prop where
 mem:MemH hh D pm bs M
 hx:HX D0 (fun _=>False) h0 hh
 dn:∀o,D o→D0 o∨h0.no≤o
theorem InS.he{h0 hh h':Hp Fm}{D0 D:Nat→Prop}{pm:Nat}{bs:List Br}{M:Mem}(k:InS h0 hh D0 D pm bs M)(e:HE hh h'):InS h0 h' D0 D pm bs M:=
 ⟨k.mem.he e,⟨Nat.le_trans k.hx.no e.no,Nat.le_trans k.hx.ng e.ng,e.pol.trans k.hx.pol,fun o ho hs=>(e.obj o (Nat.lt_of_lt_of_le ho k.hx.no)).trans (k.hx.obj o ho hs),fun q hq hn=>(e.len q (Nat.lt_of_lt_of_le hq k.hx.ng)).trans (k.hx.len q hq hn)⟩,k.dn⟩
theorem vNn8{F G K:Prop}(f:F)(k:K)(h:F→K→G:=by intro f k;(repeat(first|with_reducible first|refine vmR ?_|refine vmV rfl ?_|refine vmW rfl ?_|refine vmL ?_|refine blockW_y (by decide) ?_|((with_reducible first|apply vmO|apply vmT|apply vmC);case a=>simp[f,splice];with_reducible first|exact .v|exact .c|exact .t|exact .f)));exact k):G:=h f k
theorem vNn9{F G K:Prop}(f:F)(k:K)(h:F→K→G:=by intro f k;(repeat(first|with_reducible first|refine vmR ?_|refine vmV rfl ?_|refine vmW rfl ?_|refine vmL ?_|refine blockW_y (by decide) ?_|((with_reducible first|apply vmO|apply vmT|apply vmC);case a=>simp[f,inv_put];with_reducible first|exact .v|exact .c|exact .t|exact .f)));exact k):G:=h f k
set_option maxHeartbeats 4000000 in
theorem inst_m{hz h:Hp Fm}{D:Nat→Prop}{g pm:Nat}{ep sq:Int}{xs:List Tr}{lv:AV}{lg:List Nat}{bs:List Br}{M:Mem}(k:Sys hz h D g pm ep sq xs lv lg bs M)(x:Tr)(hx:x∈xs)(hat:x.at_.b=0∧1≤x.at_.e∧x.at_.e≤10000∧1≤x.at_.s∧x.at_.s≤100000)
  (hlow:∀m∈M,m.1∈x.wr.map (·.1)→∀v∈m.2,LowV v x.at_) (hcnt:cntM M+3200≤900000) (hlen:M.length+40≤900000) :
  A Tryz.prog TT (.func 34) [.ptr g 0,.ptr x.p 0] h (fun _ h'=>∃D' M',Sys hz h' D' g pm ep sq xs lv lg bs M'∧HX D (fun _=>False) h h'∧(∀o,D' o→D o∨h.no≤o)∧FromM M x (x.wr.map (·.1)) M'∧cntM M'≤cntM M+3200∧M'.length≤M.length+40):=by
 have tok:=k.tx x hx
 have o40:=tok.o1
 have owl:=tok.wl
 obtain⟨es,rdv,scv,sls,T⟩:=k.eng.tr x hx
 have tr:=T.row
 rw[tok.br,hat.1]at tr
 have tm:=T.map
 obtain⟨hat0,ha⟩:=hat
 obtain⟨em1,em2⟩:=objsT_mem hx
 have pD:¬D x.p:=fun z=>k.dis _ z (List.mem_cons_of_mem _ em1)
 have mD:¬D x.m:=fun z=>k.dis _ z (List.mem_cons_of_mem _ em2)
 have gD:¬D g:=fun z=>k.dis _ z (by simp)
 obtain⟨ents1,ents2⟩:=ents_ok1 T.en T.born
 obtain⟨ents3,ents4⟩:=ents_keys1 T.en
 have esl:=T.en.len
 apply A_go Tryz.func34 rfl (by rfl);(case hn=>(simp[Tryz.ntmps34];rfl))
 refine vF tr ?_
 refine A.mono (keysof_ans x.m _) ?_
 rintro _ h2 ⟨rfl,gk,hk,e2⟩
 refine vP ?_
 refine vZ ?_
 refine A.mono (sorted_ans 87 (by simp) keys1_ans h.no x.m x.clk es ents1 ents2 kstr ents4 (by omega) h2 gk ((e2.obj _ T.mn).trans tm) (by omega) (by have:=T.mn;omega)) ?_
 rintro v h3 ⟨l,sv,pml,_,e3⟩
 rw[ents3]at pml
 have he3:=e2.trans e3
 have vc:=sv.cells
 have vi:=sv.isCell
 have vn:=sv.nm
 have vl:=sv.len Tryz.underlying113
 rw[List.length_map]at vl
 have lnd:l.Nodup:=pml.nodup_iff.mpr tok.wnd
 have ll:l.length≤40:=by rw[pml.length_eq,List.length_map];omega
 obtain⟨N,hN⟩:∃N,N=l.length:=⟨_,rfl⟩
 rw[←hN]at vl ll
 have in0:InS h h3 D D pm bs M:=(⟨k.mem,HX.refl _ _ h,fun o z=>.inl z⟩:InS h h D D pm bs M).he he3
 refine vP ?_
 refine vF (cJ vc (cJ vi (cJ vn vl))) ?_
 refine W_loop (fun z s=>∃(t:Fm AV) (hh:Hp Fm) (i:Nat) (Di:Nat→Prop) (Mi:Mem),s=⟨t,54,hh,none⟩∧z=N-i∧i≤N∧tget t 0=.ptr g 0∧tget t 1=.ptr x.p 0∧tget t 13=v∧tget t 14=.int .i64 N∧tget t 15=.int .i64 i∧InS h hh D Di pm bs Mi∧MOk Mi∧FromM M x (l.take i) Mi∧cntM Mi≤cntM M+80*i∧Mi.length≤M.length+i) N
  ⟨_,_,0,D,M,rfl,rfl,by omega,by simp,by simp,by simp,by simp,by simp,in0,k.ok,fun m hm v hv=>.inl ⟨m,hm,rfl,hv⟩,by omega,by omega⟩ ?_
 rintro _ s ⟨t,hh,i,Di,Mi,rfl,rfl,hi,t0,t1,t13,t14,t15,inS,mok,frm,hc,hln⟩
 by_cases q:i<N
 case neg=>
  have q':¬(i:Int)<N:=by omega
  refine vF (cJ t14 (cJ t15 (cJ q q'))) ?_
  (first | apply endW_r | apply endW_n);(case h1=>(simp[Tryz.results34];first | done | rfl))
  rw[List.take_of_length_le (by omega)]at frm
  refine⟨Di,Mi,⟨k.z0,k.zg,k.eng.ofX k.z0 k.zg inS.hx (fun o ho z=>k.dis o z ho) (fun _ _ z=>z),inS.mem,fun o ho=>?_,mok,by omega,by omega,by rw[inS.hx.pol];exact k.pol,k.tx,k.xl⟩,inS.hx,inS.dn,frm.mono (fun kk hkk=>pml.mem_iff.mp hkk),by omega,by omega⟩
  rcases inS.dn o ho with z | z
  ·exact k.dis o z
  ·intro hm
   rcases List.mem_cons.mp hm with y | y
   ·have:=k.eng.gn;omega
   ·obtain⟨y1,hy1,hy2⟩:=List.mem_flatMap.mp y
    obtain⟨_,_,_,_,Ty⟩:=k.eng.tr y1 hy1
    have:=Ty.pn
    have:=Ty.mn
    simp only[List.mem_cons,List.not_mem_nil,or_false]at hy2
    rcases hy2 with hy2 | hy2 <;> omega
 have q':(i:Int)<N:=by omega
 obtain⟨key,hkey⟩:∃key,key=l[i]'(by omega):=⟨_,rfl⟩
 have ix:=sv.idx (k:=.i64) (i:=(i:Int)) Tryz.underlying113 z9 (by omega) (by rw[List.length_map];omega)
 replace ix:indexAddrAV Tryz.prog 113 v (.int .i64 (i:Int))=some (.el (.str key) 0):=by rw[ix];simp[hkey]
 obtain⟨ip,hip⟩:∃ip,ip=i+1:=⟨_,rfl⟩
 have wip:IntKind.i64.wrap ((i:Int)+1)=(ip:Int):=by rw[wrap64 (by omega) (by omega)];omega
 have kmem:key∈x.wr.map (·.1):=pml.mem_iff.mp (by rw[hkey];exact List.getElem_mem _)
 have knot:key∉l.take i:=fun hm=>by
  obtain⟨j,hj,e⟩:=List.getElem_of_mem hm
  rw[List.getElem_take]at e
  rw[List.length_take]at hj
  have:=(List.getElem_inj (i:=j) (j:=i) (h₀:=by omega) (h₁:=by omega) lnd).mp (by rw[e,hkey])
  omega
 obtain⟨wk1,wk2⟩:keyOk key=true∧key.length≤100000:=by
  obtain⟨e,he,hee⟩:=List.mem_map.mp kmem
  have:=tok.key e he
  rw[hee]at this;exact this
 obtain⟨ps,hps⟩:∃ps,lookF key x.wr=some ps:=Option.isSome_iff_exists.mp (by
  have:∀{fs:Ents (List Pc)},key∈fs.map (·.1)→(lookF key fs).isSome=true:=by
   intro fs
   induction fs with
   | nil=>intro hm;cases hm
   | cons f fs ih=>
    intro hm
    simp only[lookF]
    split
    ·rfl
    ·rename_i hne
     rcases List.mem_cons.mp hm with z | z
     ·exact absurd z.symm hne
     ·exact ih z
  exact this kmem)
 obtain⟨pcok,pcl⟩:=tok.pcs key ps hps
 obtain⟨pv,hpv,lk⟩:=look_some (m:=x.m) (clk:=x.clk) (k:=key) Tryz.underlying79 Tryz.underlying9 T.en hps
 obtain⟨lok,lle⟩:=least_ok pcok
 obtain⟨qs,hqs⟩:∃qs,qs=leastP ps:=⟨_,rfl⟩
 have trh:=(inS.hx.obj _ T.pn pD).trans tr
 have tmh:=(inS.hx.obj _ T.mn mD).trans tm
 have lkh:=lk hh false tmh
 have pc:=(SL.sv hpv).cells
 have pi:=(SL.sv hpv).isCell
 refine vF (cJ t1 (cJ t13 (cJ t14 (cJ t15 (cJ q (cJ q' (cJ ix (cJ trh (cJ lkh (cJ pc pi)))))))))) ?_
 refine A.mono (least_ans ps pv (SL.sv hpv) (by omega) hh) ?_
 rintro lw h4 ⟨sll,e4⟩
 rw[←hqs]at sll lok lle
 have sl:=sll.sv
 have lc:=sl.cells
 have li:=sl.isCell
 have ln:=sl.nm
 have lle':=sl.len Tryz.underlying42
 rw[List.length_map]at lle'
 obtain⟨n,hn⟩:∃n,n=qs.length:=⟨_,rfl⟩
 rw[←hn]at lle' lle
 have n80:n≤80:=by omega
 have inS4:=inS.he e4
 refine vP ?_
 refine vF (cJ lc (cJ li (cJ ln lle'))) ?_
 refine W.mono (R:=fun e s=>e=.exit 2∧∃(t:Fm AV) (hh:Hp Fm) (Dj:Nat→Prop) (Mj:Mem),s=⟨t,54,hh,none⟩∧tget t 0=.ptr g 0∧tget t 1=.ptr x.p 0∧tget t 13=v∧tget t 14=.int .i64 N∧tget t 15=.int .i64 i∧InS h hh D Dj pm bs Mj∧MOk Mj∧FromM M x (l.take ip) Mj∧cntM Mj≤cntM Mi+80∧Mj.length≤Mi.length+1) ?_ ?_
 ·refine W_loop (fun z s=>∃(t:Fm AV) (hh:Hp Fm) (j:Nat) (Dj:Nat→Prop) (Mj:Mem),s=⟨t,54,hh,none⟩∧z=n-j∧j≤n∧tget t 0=.ptr g 0∧tget t 1=.ptr x.p 0∧tget t 5=.str key∧tget t 13=v∧tget t 14=.int .i64 N∧tget t 15=.int .i64 i∧tget t 25=lw∧tget t 26=.int .i64 n∧tget t 27=.int .i64 j ∧
    InS h hh D Dj pm bs Mj∧MOk Mj∧FromM M x (l.take ip) Mj∧cntM Mj=cntM Mi+j∧(j=0→Mj=Mi)∧(1≤j→(findM key Mj).isSome=true)∧Mj.length≤Mi.length+1∧getM key Mj=getM key Mi++(qs.take j).map (verP x.at_ key)) n
   ⟨_,_,0,Di,Mi,rfl,rfl,by omega,by simp[t0],by simp[t1],by simp,by simp[t13],by simp[t14],by simp[t15],by simp,by simp,by simp,inS4,mok,frm.mono (fun kk hkk=>by rw[hip];exact(List.take_prefix_take_left (by omega)).subset hkk),by omega,fun _=>rfl,fun z=>absurd z (by omega),by omega,by simp⟩ ?_
  clear t0 t1 t13 t14 t15 t
  rintro _ s ⟨t,h5,j,Dj,Mj,rfl,rfl,hj,t0,t1,t5,t13,t14,t15,t25,t26,t27,in5,mok5,frm5,hc5,hj0,hj1,hl5,hg5⟩
  by_cases qj:j<n
  case neg=>
   have qj':¬(j:Int)<n:=by omega
   refine vF (cJ t26 (cJ t27 (cJ qj qj'))) ?_
   exact⟨rfl,_,_,Dj,Mj,rfl,by simp[t0],by simp[t1],by simp[t13],by simp[t14],by simp[t15],in5,mok5,frm5,by omega,hl5⟩
  have qj':(j:Int)<n:=by omega
  obtain⟨p,hp⟩:∃p,p=qs[j]'(by omega):=⟨_,rfl⟩
  have hpm:=lok.may p (by rw[hp];exact List.getElem_mem _)
  have iy:=sl.idx (k:=.i64) (i:=(j:Int)) Tryz.underlying42 z49 (by omega) (by rw[List.length_map];omega)
  replace iy:indexAddrAV Tryz.prog 42 lw (.int .i64 (j:Int))=some (.el (encP p) 0):=by rw[iy];simp[hp]
  simp only[encP]at iy
  obtain⟨jp,hjp⟩:∃jp,jp=j+1:=⟨_,rfl⟩
  have wjp:IntKind.i64.wrap ((j:Int)+1)=(jp:Int):=by rw[wrap64 (by omega) (by omega)];omega
  have hvl:1≤p.val.length:=by
   rcases hpm.2.1 with z | z
   ·cases hv:p.val with
    | nil=>rw[hv]at z;cases z
    | cons _ _=>simp
   ·rw[z];simp
  have sl1:=sl_lo p.val 1 hvl
  have e1:((1:Nat):Int)=1:=rfl
  rw[e1]at sl1
  have eqv:eqB p.val [45]=decide (p.val=[45]):=eqB_dec _ _
  refine vNn8 (cJ t25 (cJ t26 (cJ t27 (cJ qj (cJ qj' iy))))) ?_
  refine W_heap ?_
  intro hA hhA
  have eA:HE h5 hA:=by rw[hhA];exact((HE.refl h5).new _).set (Nat.le_refl _) _
  have gA:Mp.get hA.obj h5.no=some (.row [.int .i64 p.fr,.int .i64 p.to,.str p.val]):=by rw[hhA];simp
  have nA:h5.no<hA.no:=by rw[hhA];exact Nat.lt_succ_self _
  clear hhA
  have inA:=in5.he eA
  have trA:=(inA.hx.obj _ T.pn pD).trans tr
  have grA:=(inA.hx.obj _ k.eng.gn gD).trans k.eng.row
  have hlt:∀y∈getM (verP x.at_ key p).key Mj,LtV y (verP x.at_ key p):=by
   intro y hy
   have hy':y∈getM key Mj:=hy
   have hyk:=(mok5.get key).all y hy'
   rw[hg5]at hy'
   refine⟨hyk.1,hyk.2.1,?_⟩
   rcases List.mem_append.mp hy' with z | z
   ·obtain⟨m1,hm1,ek1,hv1⟩:=getM_mem z
    rcases frm m1 hm1 y hv1 with⟨m0,w1,w2,w3⟩ | ⟨w1,_⟩
    ·rcases hlow m0 w1 (by rw[w2,ek1];exact kmem) y w3 with u | ⟨u1,u2⟩
     ·exact .inl u
     ·exact .inr ⟨u1,.inl u2⟩
    ·rw[ek1]at w1;exact absurd w1 knot
   ·obtain⟨p0,hp0,rfl⟩:=List.mem_map.mp z
    obtain⟨j0,hj0',e0⟩:=List.getElem_of_mem hp0
    rw[List.getElem_take]at e0
    rw[List.length_take]at hj0'
    have hr:=List.pairwise_iff_getElem.mp lok.rise j0 j (by omega) (by omega) (by omega)
    rw[e0,←hp]at hr
    obtain⟨_,u2,_⟩:=(lok.may p0 (List.mem_of_mem_take hp0)).1
    exact .inr ⟨rfl,.inr ⟨rfl,by show p0.fr<p.fr;omega⟩⟩
  have put:=mput_ans (verP x.at_ key p) (verP_may ha wk1 hpm) wk2 pm Dj bs Mj (by omega) (by omega) hlt hA.drew (inA.mem.he (HE.refl hA).drew)
  simp only[verP,encV]at put
  (with_reducible refine W_draw_id (pln:=true) [0,1,2,3,4,5,6,7,8,9,10,11,12,13,14,15,16,17,18,19,20] [(3,(3,[])),(8,(8,[])),(10,(10,[])),(12,(12,[])),(15,(15,[]))] (by kernel_rfl) rfl ?_)
  refine vNn9 (cJ t0 (cJ t1 (cJ t5 (cJ grA (cJ trA (cJ gA (cJ sl1 eqv))))))) ?_
  refine A.mono put ?_
  rintro rv hB ⟨memB,hxB⟩
  have xB:HX Dj (fun _=>False) hA hB:=⟨hxB.no,hxB.ng,hxB.pol,hxB.obj,hxB.len⟩
  have inB:InS h hB D (fun o=>Dj o∨(hA.drew.no≤o∧o<hB.no)) pm bs (addM Mj (verP x.at_ key p)):=by
   refine⟨memB,⟨Nat.le_trans inA.hx.no xB.no,Nat.le_trans inA.hx.ng xB.ng,xB.pol.trans inA.hx.pol,fun o ho hs=>?_,fun q hq hn=>?_⟩,fun o ho=>?_⟩
   ·exact(xB.obj o (Nat.lt_of_lt_of_le ho inA.hx.no) (fun z=>by rcases inA.dn o z with y | y;exact hs y;omega)).trans (inA.hx.obj o ho hs)
   ·exact(xB.len q (Nat.lt_of_lt_of_le hq inA.hx.ng) (fun z=>z)).trans (inA.hx.len q hq hn)
   ·rcases ho with z | ⟨z,_⟩
    ·exact inA.dn o z
    ·exact .inr (Nat.le_trans inA.hx.no z)
  have trB:=(inB.hx.obj _ T.pn pD).trans tr
  have grB:=(inB.hx.obj _ k.eng.gn gD).trans k.eng.row
  have nDj:¬Dj h5.no:=fun z=>by have:=in5.mem.lt _ z;omega
  have gB:=(xB.obj _ nA nDj).trans gA
  have adl:=addM_len Mj (verP x.at_ key p)
  have adc:=addM_cnt Mj (verP x.at_ key p)
  have adg:=addM_get Mj (verP x.at_ key p)
  have ekey:(verP x.at_ key p).key=key:=rfl
  rw[ekey]at adl adg
  refine vP ?_
  refine vF (cJ t0 (cJ t1 (cJ t5 (cJ grA (cJ trA (cJ gA (cJ grB (cJ trB (cJ gB (cJ sl1 eqv)))))))))) ?_
  refine⟨by simp[readSame,beqAV_self,t0,t1,t5,grA,trA,gA,grB,trB,gB,sl1,eqv];done,_,by simp;first | done | rfl,?_⟩
  refine vF (cJ t27 wjp) ?_
  refine⟨n-jp,by omega,_,_,jp,_,addM Mj (verP x.at_ key p),rfl,rfl,by omega,by simp[t0],by simp[t1],by simp[t5],by simp[t13],by simp[t14],by simp[t15],by simp[t25],by simp[t26],by simp,inB,mok5.add rfl (by show x.at_.e≤10000;omega) hlt,frm5.add key (by rw[hip,List.take_succ_eq_append_getElem (by omega),hkey];exact List.mem_append_right _ (List.mem_singleton.mpr rfl)) p,by omega,fun z=>absurd z (by omega),fun _=>by rw[adg];rfl,?_,?_⟩
  ·by_cases z:j=0
   ·rw[hj0 z]at adl ⊢
    split at adl <;> omega
   ·rw[hj1 (by omega)]at adl
    simp only[if_true]at adl
    omega
  ·have:getM key (addM Mj (verP x.at_ key p))=getM key Mj++[verP x.at_ key p]:=by
    show(findM key _).getD []=_
    rw[adg];rfl
   rw[this,hg5,hjp,List.take_succ_eq_append_getElem (by omega),List.map_append,←hp]
   simp
 clear t0 t1 t13 t14 t15 t
 rintro e s ⟨rfl,t,h6,Dj,Mj,rfl,t0,t1,t13,t14,t15,in6,mok6,frm6,hc6,hl6⟩
 refine vF (cJ t15 wip) ?_
 exact⟨N-ip,by omega,_,_,ip,Dj,Mj,rfl,rfl,by omega,by simp[t0],by simp[t1],by simp[t13],by simp[t14],by simp,in6,mok6,frm6,by omega,by omega⟩
end Go.Vn

set_option maxRecDepth 20000
namespace Go.Vn
open Go.Proofs
structure SS where
 D:Nat→Prop
 ep:Int
 sq:Int
 xs:List Tr
 lv:AV
 lg:List Nat
 M:Mem
def LeE(e s e' s':Int):Prop:=e<e'∨(e=e'∧s≤s')
def LtE(e s e' s':Int):Prop:=e<e'∨(e=e'∧s<s')
def held(x:Tr):Prop:=x.st=2∨x.st=3
abbrev keysX(x:Tr):List (List UInt8):=x.wr.map (·.1)
structure TxI(ep sq:Int)(M:Mem)(x:Tr):Prop where
 st:1≤x.st∧x.st≤5
 ne:∀k ps,lookF k x.wr=some ps→ps≠[]
 at_:x.st=3∨x.st=4→x.at_.b=0∧1≤x.at_.e∧1≤x.at_.s∧x.at_.s≤100000∧LeE x.at_.e x.at_.s ep sq
 low:x.st=3→∀m∈M,m.1∈keysX x→∀v∈m.2,LowV v x.at_
abbrev SysS(hz h:Hp Fm)(g pm:Nat)(bs:List Br)(σ:SS):Prop:=Sys hz h σ.D g pm σ.ep σ.sq σ.xs σ.lv σ.lg bs σ.M
structure OInv(hz h:Hp Fm)(g pm:Nat)(bs:List Br)(σ:SS)(n:Nat):Prop where
 sys:SysS hz h g pm bs σ
 e1:1≤σ.ep∧σ.ep≤10000
 s1:0≤σ.sq∧σ.sq≤100000
 tx:∀x∈σ.xs,TxI σ.ep σ.sq σ.M x
 lock:∀i j (hi:i<σ.xs.length) (hj:j<σ.xs.length),i≠j→held σ.xs[i]→held σ.xs[j]→∀k∈keysX σ.xs[i],k∉keysX σ.xs[j]
 mlow:∀m∈σ.M,∀v∈m.2,LeE v.ep v.sq σ.ep σ.sq
 cnt:cntM σ.M≤3200*n
 len:σ.M.length≤40*n
 xl:σ.xs.length≤n
structure Fr(h h':Hp Fm)(g:Nat)(σ σ':SS):Prop where
 hx:HX (fun o=>o∈g::objsT σ.xs∨σ.D o) (fun q=>q∈σ.lg++grpsT σ.xs) h h'
 ob:∀o∈objsT σ'.xs,o∈objsT σ.xs∨h.no≤o
 gr:∀q∈σ'.lg++grpsT σ'.xs,q∈σ.lg++grpsT σ.xs∨h.ng≤q
 dn:∀o,σ'.D o→σ.D o∨h.no≤o
theorem Fr.he{h h':Hp Fm}{g:Nat}{σ:SS}(e:HE h h'):Fr h h' g σ σ:=⟨e.x _ _,fun _ z=>.inl z,fun _ z=>.inl z,fun _ z=>.inl z⟩
def TMove(σ σ':SS)(x x':Tr):Prop:=(x'.st=x.st∧x'.at_=x.at_)∨(x.st=1∧x'.st=2)∨x'.st=5∨(x.st=2∧x'.st=3∧LtE σ.ep σ.sq x'.at_.e x'.at_.s)∨(x.st=3∧x'.st=4∧x'.at_=x.at_)
def Moves(σ σ':SS):Prop:=LeE σ.ep σ.sq σ'.ep σ'.sq∧((∃y,σ'.xs=σ.xs++[y]∧y.st=1)∨(σ'.xs.length=σ.xs.length∧∀i (h:i<σ.xs.length) (h':i<σ'.xs.length),TMove σ σ' σ.xs[i] σ'.xs[i]))
def FreshT(M:Mem)(x:Tr):Prop:=(∀s∈x.rd,lastM M s.1=s.2)∧(∀s∈x.sc,lookM M s.1 s.2.1=s.2.2)
def Quiet(σ σ':SS):Prop:=σ'.M=σ.M∧σ'.ep=σ.ep∧σ'.sq=σ.sq∧σ'.xs.length=σ.xs.length∧∀i (h:i<σ.xs.length) (h':i<σ'.xs.length),σ'.xs[i].st=σ.xs[i].st∧σ'.xs[i].at_=σ.xs[i].at_∧(FreshT σ.M σ.xs[i]→FreshT σ.M σ'.xs[i])
theorem Quiet.refl(σ:SS):Quiet σ σ:=⟨rfl,rfl,rfl,rfl,fun _ _ _=>⟨rfl,rfl,fun z=>z⟩⟩
theorem LeE.refl(e s:Int):LeE e s e s:=.inr ⟨rfl,Int.le_refl _⟩
theorem Quiet.moves{σ σ':SS}(q:Quiet σ σ'):Moves σ σ':=⟨by rw[q.2.1,q.2.2.1];exact LeE.refl _ _,.inr ⟨q.2.2.2.1,fun i h h'=>.inl ⟨(q.2.2.2.2 i h h').1,(q.2.2.2.2 i h h').2.1⟩⟩⟩
theorem OInv.he{hz h h':Hp Fm}{g pm:Nat}{bs:List Br}{σ:SS}{n:Nat}(k:OInv hz h g pm bs σ n)(e:HE h h'):OInv hz h' g pm bs σ n:=
 ⟨k.sys.he e,k.e1,k.s1,k.tx,k.lock,k.mlow,k.cnt,k.len,k.xl⟩
theorem OInv.up{hz h:Hp Fm}{g pm:Nat}{bs:List Br}{σ:SS}{n:Nat}(k:OInv hz h g pm bs σ n){m:Nat}(hm:n≤m):OInv hz h g pm bs σ m:=
 ⟨k.sys,k.e1,k.s1,k.tx,k.lock,k.mlow,by have:=k.cnt;omega,by have:=k.len;omega,by have:=k.xl;omega⟩
section
variable {hz h h':Hp Fm} {g pm:Nat} {bs:List Br} {σ:SS} {n j:Nat}
def SS.put(σ:SS)(j:Nat)(x':Tr):SS:={ σ with xs:=σ.xs.set j x' }
theorem OInv.keep(k:OInv hz h g pm bs σ n)(hj:j<σ.xs.length){x':Tr}(sys':SysS hz h' g pm bs (σ.put j x'))(hst:x'.st=(σ.xs[j]).st)(hat:x'.at_=(σ.xs[j]).at_)(hw:x'.st=1∨x'.wr=(σ.xs[j]).wr)(hne:∀k ps,lookF k x'.wr=some ps→ps≠[])(hfr:FreshT σ.M σ.xs[j]→FreshT σ.M x') :
  OInv hz h' g pm bs (σ.put j x') n∧Quiet σ (σ.put j x'):=by
 have gs:∀i (hi:i<(σ.xs.set j x').length),(σ.xs.set j x')[i]=if j=i then x' else σ.xs[i]'(by rw[List.length_set]at hi;exact hi):=fun i hi=>List.getElem_set hi
 refine⟨⟨sys',k.e1,k.s1,fun x hx=>?_,fun i i2 hi hi2 hne2 h1 h2 kk hk=>?_,k.mlow,k.cnt,k.len,?_⟩,rfl,rfl,rfl,by simp[SS.put],fun i hi hi'=>?_⟩
 ·rcases List.mem_or_eq_of_mem_set hx with hx | rfl
  ·exact k.tx x hx
  ·have t:=k.tx _ (List.getElem_mem hj)
   refine⟨by rw[hst];exact t.st,hne,fun z=>by rw[hat];exact t.at_ (by rw[hst]at z;exact z),fun z m hm hmk v hv=>?_⟩
   rw[hat]
   rcases hw with hw | hw
   ·omega
   ·exact t.low (by rw[←hst];exact z) m hm (by unfold keysX at hmk ⊢;rw[hw]at hmk;exact hmk) v hv
 ·have old:∀i (hi:i<(σ.put j x').xs.length),held (σ.put j x').xs[i]→∃hi':i<σ.xs.length,held σ.xs[i]∧keysX (σ.put j x').xs[i]=keysX σ.xs[i]:=fun i hi hh=>by
   have hi':i<σ.xs.length:=by simpa[SS.put]using hi
   have e:=gs i hi
   have e:(σ.put j x').xs[i]=if j=i then x' else σ.xs[i]:=e
   rw[e]at hh ⊢
   by_cases q:j=i
   ·subst q
    rw[if_pos rfl]at hh ⊢
    refine⟨hj,?_,?_⟩
    ·unfold held at hh ⊢;rw[hst]at hh;exact hh
    ·rcases hw with hw | hw
     ·unfold held at hh;omega
     ·unfold keysX;rw[hw]
   ·rw[if_neg q]at hh ⊢
    exact⟨hi',hh,rfl⟩
  obtain⟨a1,a2,a3⟩:=old i hi h1
  obtain⟨b1,b2,b3⟩:=old i2 hi2 h2
  rw[a3]at hk
  rw[b3]
  exact k.lock i i2 a1 b1 hne2 a2 b2 kk hk
 ·have:=k.xl;simpa[SS.put]using this
 ·have e:(σ.put j x').xs[i]=if j=i then x' else σ.xs[i]:=gs i hi'
  rw[e]
  split
  ·rename_i q;subst q;exact⟨hst,hat,hfr⟩
  ·exact⟨rfl,rfl,fun z=>z⟩
theorem objs_set{xs:List Tr}(hj:j<xs.length){x':Tr}(hp:x'.p=(xs[j]).p)(hm:x'.m=(xs[j]).m):objsT (xs.set j x')=objsT xs:=by
 obtain⟨l1,l2,s1,s2⟩:=set_split xs j hj x'
 rw[s2]
 conv=>rhs;rw[s1]
 simp[objsT,hp,hm]
theorem grps_set{xs:List Tr}(hj:j<xs.length){x':Tr}{P:Nat→Prop}(h:∀q∈x'.rg++x'.sg,q∈(xs[j]).rg++(xs[j]).sg∨P q):∀q∈grpsT (xs.set j x'),q∈grpsT xs∨P q:=by
 obtain⟨l1,l2,s1,s2⟩:=set_split xs j hj x'
 rw[s2]
 intro q hq
 have e:grpsT xs=grpsT l1++(((xs[j]).rg++(xs[j]).sg)++grpsT l2):=by
  conv=>lhs;rw[s1]
  simp[grpsT]
 have e2:grpsT (l1++x'::l2)=grpsT l1++((x'.rg++x'.sg)++grpsT l2):=by simp[grpsT]
 rw[e2]at hq
 rw[e]
 rcases List.mem_append.mp hq with z | z
 ·exact .inl (List.mem_append_left _ z)
 ·rcases List.mem_append.mp z with z | z
  ·rcases h q z with y | y
   ·exact .inl (List.mem_append_right _ (List.mem_append_left _ y))
   ·exact .inr y
  ·exact .inl (List.mem_append_right _ (List.mem_append_right _ z))
theorem Fr.set(hj:j<σ.xs.length){x':Tr}(hp:x'.p=(σ.xs[j]).p)(hm:x'.m=(σ.xs[j]).m){S G:Nat→Prop}(hx:HX S G h h')(hS:∀o,S o→o=g∨o=(σ.xs[j]).p∨o=(σ.xs[j]).m)(hG:∀q,G q→q∈(σ.xs[j]).rg++(σ.xs[j]).sg)(hg:∀q∈x'.rg++x'.sg,q∈(σ.xs[j]).rg++(σ.xs[j]).sg∨h.ng≤q):Fr h h' g σ (σ.put j x'):=by
 refine⟨hx.mono (fun o _ z=>.inl (tx_objs hj g (hS o z))) (fun q _ z=>List.mem_append_right _ (grpsT_mem (List.getElem_mem hj) (hG q z))),fun o ho=>.inl ?_,fun q hq=>?_,fun _ z=>.inl z⟩
 ·have:(σ.put j x').xs=σ.xs.set j x':=rfl
  rw[this,objs_set hj hp hm]at ho;exact ho
 ·rcases List.mem_append.mp hq with z | z
  ·exact .inl (List.mem_append_left _ z)
  ·rcases grps_set hj hg q z with y | y
   ·exact .inl (List.mem_append_right _ y)
   ·exact .inr y
end
def Went(hz h h':Hp Fm)(g pm:Nat)(bs:List Br)(σ:SS)(n:Nat)(σ':SS):Prop:=OInv hz h' g pm bs σ' n∧Fr h h' g σ σ'
theorem Went.he{hz h h' h'':Hp Fm}{g pm:Nat}{bs:List Br}{σ σ':SS}{n:Nat}(k:Went hz h h' g pm bs σ n σ')(e:HE h' h''):Went hz h h'' g pm bs σ n σ':=
 ⟨k.1.he e,⟨⟨Nat.le_trans k.2.hx.no e.no,Nat.le_trans k.2.hx.ng e.ng,e.pol.trans k.2.hx.pol,fun o ho hs=>(e.obj o (Nat.lt_of_lt_of_le ho k.2.hx.no)).trans (k.2.hx.obj o ho hs),fun q hq hn=>(e.len q (Nat.lt_of_lt_of_le hq k.2.hx.ng)).trans (k.2.hx.len q hq hn)⟩,k.2.ob,k.2.gr,k.2.dn⟩⟩
theorem Went.pre{hz h0 h h':Hp Fm}{g pm:Nat}{bs:List Br}{σ σ':SS}{n:Nat}(e:HE h0 h)(k:Went hz h h' g pm bs σ n σ'):Went hz h0 h' g pm bs σ n σ':=
 ⟨k.1,⟨⟨Nat.le_trans e.no k.2.hx.no,Nat.le_trans e.ng k.2.hx.ng,k.2.hx.pol.trans e.pol,fun o ho hs=>(k.2.hx.obj o (Nat.lt_of_lt_of_le ho e.no) hs).trans (e.obj o ho),fun q hq hn=>(k.2.hx.len q (Nat.lt_of_lt_of_le hq e.ng) hn).trans (e.len q hq)⟩,fun o ho=>(k.2.ob o ho).imp (fun z=>z) (fun z=>Nat.le_trans e.no z),fun q hq=>(k.2.gr q hq).imp (fun z=>z) (fun z=>Nat.le_trans e.ng z),fun o ho=>(k.2.dn o ho).imp (fun z=>z) (fun z=>Nat.le_trans e.no z)⟩⟩
theorem get_i{hz h:Hp Fm}{g pm:Nat}{bs:List Br}{σ:SS}{n:Nat}(k:OInv hz h g pm bs σ n)(i:Int)(hi:i64R i)(key:List UInt8)(hkl:key.length≤100000)(tm:Int) :
  A Tryz.prog TT (.func 19) [.ptr g 0,.int .i64 i,.str key,.int .i64 tm] h (fun r h'=>∃s b e σ',r=.tup [.str s,.bool b,.int .i64 e]∧Went hz h h' g pm bs σ n σ'∧Quiet σ σ'):=by
 refine A.mono (get_m k.sys i hi key hkl tm) ?_
 rintro _ h' ⟨s,b,e,rfl,⟨_,e1⟩ | ⟨_,_,j,hj,G,rfl,sys',hx,hG⟩⟩
 ·exact⟨s,b,e,σ,rfl,⟨k.he e1,Fr.he e1⟩,Quiet.refl σ⟩
 ·have t:=k.tx _ (List.getElem_mem hj)
  obtain⟨k1,k2⟩:=k.keep hj (x':=getT σ.xs[j] key σ.M G) sys' rfl rfl (.inr rfl) t.ne (fun z=>⟨fun s hs=>by
   have hs:s∈(if (σ.xs[j]).rd.any (fun s=>decide (s.1=key))then(σ.xs[j]).rd else(σ.xs[j]).rd++[(key,lastM σ.M key)]):=hs
   split at hs
   ·exact z.1 s hs
   ·rcases List.mem_append.mp hs with y | y
    ·exact z.1 s y
    ·rw[List.mem_singleton.mp y],z.2⟩)
  refine⟨s,b,e,_,rfl,⟨k1,Fr.set hj rfl rfl hx (fun o z=>.inr (.inl z)) (fun q z=>List.mem_append_left _ z) (fun q hq=>?_)⟩,k2⟩
  rcases List.mem_append.mp hq with z | z
  ·exact(hG q z).imp (fun y=>List.mem_append_left _ y) (fun y=>y)
  ·exact .inl (List.mem_append_right _ z)
theorem scan_i{hz h:Hp Fm}{g pm:Nat}{bs:List Br}{σ:SS}{n:Nat}(k:OInv hz h g pm bs σ n)(hn:n≤1000)(i:Int)(hi:i64R i)(fr to:List UInt8)(tm:Int) :
  A Tryz.prog TT (.func 49) [.ptr g 0,.int .i64 i,.str fr,.str to,.int .i64 tm] h (fun r h'=>∃pv l e σ',r=.tup [pv,.int .i64 e]∧SV 2 l pv∧Went hz h h' g pm bs σ n σ'∧Quiet σ σ'):=by
 refine A.mono (scan_m k.sys (by have:=k.len;omega) i hi fr to tm) ?_
 rintro _ h' ⟨pv,l,e,rfl,sv,⟨_,e1⟩ | ⟨_,_,j,hj,G,rfl,sys',hx,hG⟩⟩
 ·exact⟨pv,l,e,σ,rfl,sv,⟨k.he e1,Fr.he e1⟩,Quiet.refl σ⟩
 ·have t:=k.tx _ (List.getElem_mem hj)
  obtain⟨k1,k2⟩:=k.keep hj (x':=scanT σ.xs[j] fr to σ.M G) sys' rfl rfl (.inr rfl) t.ne (fun z=>⟨z.1,fun s hs=>by
   rcases List.mem_append.mp (show s∈(σ.xs[j]).sc++[(fr,to,lookM σ.M fr to)]from hs)with y | y
   ·exact z.2 s y
   ·rw[List.mem_singleton.mp y]⟩)
  refine⟨pv,l,e,_,rfl,sv,⟨k1,Fr.set hj rfl rfl hx (fun o z=>.inr (.inl z)) (fun q z=>List.mem_append_right _ z) (fun q hq=>?_)⟩,k2⟩
  rcases List.mem_append.mp hq with z | z
  ·exact .inl (List.mem_append_left _ z)
  ·exact(hG q z).imp (fun y=>List.mem_append_right _ y) (fun y=>y)
end Go.Vn

set_option maxRecDepth 20000
namespace Go.Vn
open Go.Proofs
theorem gone_ans(h0 h:Hp Fm)(g pm:Nat)(ep sq:Int)(xs:List Tr)(lv:AV)(lg:List Nat)(k:EngH h0 h g pm ep sq xs lv lg)(i:Int)(hi64:-9223372036854775808≤i∧i≤9223372036854775807)(hxl:xs.length≤1000000)
  (key:Bs) (hkl:key.length≤100000) (f u:Int) (hops:∀x∈xs,0≤x.ops) (hps:∀x∈xs,∀ps,lookF key x.wr=some ps→ps.length≤4000000) :
  A Tryz.prog TT (.func 15) [.ptr g 0,.int .i64 i,.str key,.agg [.int .i64 f,.int .i64 u]] h (fun r h'=>∃h1,HE h h1∧WrR h0 h1 g pm ep sq xs lv lg i key ⟨f,u,[45]⟩ r h'):=by
 apply A_go Tryz.func15 rfl (by rfl);(case hn=>(simp[Tryz.ntmps15];rfl))
 refine vZ ?_
 refine A_heap ?_
 intro hA hhA
 have eA:HE h hA:=by rw[hhA];exact(HE.refl h).new _
 clear hhA
 refine A.mono (write_ans h0 hA g pm ep sq xs lv lg (k.of eA) i hi64 hxl key hkl ⟨f,u,[45]⟩ (by simp) hops hps) ?_
 intro r hB hw
 have hr:∃n,r=.int .i64 n:=by
  rcases hw with⟨_,h,_⟩ | ⟨_,_,h,_⟩ | ⟨_,_,h,_⟩ <;> exact⟨_,h⟩
 obtain⟨n,rfl⟩:=hr
 refine vP ?_
 refine vZ ?_
 (first | apply endW_r | apply endW_n);(case h1=>(simp[Tryz.results15];first | done | rfl))
 exact⟨hA,eA,hw⟩
theorem setF_keys{α:Type}{k:List UInt8}{a:α}{clk:Nat}(fs:Ents α):(setF k a clk fs).map (·.1)=if (lookF k fs).isSome then fs.map (·.1)else fs.map (·.1)++[k]:=by
 induction fs with
 | nil=>rfl
 | cons g fs ih=>
  simp only[setF,lookF]
  split
  ·rename_i hg;simp[hg]
  ·simp only[List.map_cons,ih]
   split <;> simp
theorem lookF_mem{α:Type}{k:List UInt8}{fs:Ents α}:k∈fs.map (·.1)↔(lookF k fs).isSome=true:=by
 induction fs with
 | nil=>simp[lookF]
 | cons g fs ih=>
  simp only[lookF,List.map_cons,List.mem_cons]
  split
  ·rename_i hg;simp[hg]
  ·rename_i hg;rw[ih]
   exact⟨fun q=>q.elim (fun e=>absurd e.symm hg) id,.inr⟩
theorem overP_ne{ps:List Pc}{p:Pc}(h:SpMay p.fr p.to):overP ps p≠[]:=by
 unfold overP
 rw[if_pos (show Vn.May p.fr p.to from h)]
 simp
theorem TxOk.put{x:Tr}(t:TxOk x)(ho:x.ops<40){key:List UInt8}{p:Pc}(hk:keyOk key=true)(hkl:key.length≤100000)(hp:PcMay p):TxOk (putT x key p):=by
 refine⟨t.br,by have:=t.o0;show 0≤x.ops+1;omega,by show x.ops+1≤40;omega,by show(x.rd.length:Int)≤x.ops+1;have:=t.rd;omega,by show(x.sc.length:Int)≤x.ops+1;have:=t.sc;omega,?_,fun k ps hl=>?_,fun e he=>?_,?_⟩
 ·have:=setF_len key (overP ((lookF key x.wr).getD []) p) x.clk x.wr
  have:=t.wl
  show(((setF key _ x.clk x.wr).length:Nat):Int)≤x.ops+1
  omega
 ·simp only[putT,lookF_setF]at hl
  show PcsOk ps∧(ps.length:Int)≤2*(x.ops+1)
  split at hl
  ·injection hl with hl
   subst hl
   have base:PcsOk ((lookF key x.wr).getD [])∧(((lookF key x.wr).getD []).length:Int)≤2*x.ops:=by
    cases h:lookF key x.wr with
    | none=>have:=t.o0;exact⟨⟨(fun p hp=>by cases hp),List.Pairwise.nil⟩,by simp;omega⟩
    | some qs=>exact t.pcs key qs h
   obtain⟨a,b⟩:=over_ok base.1 hp
   exact⟨a,by have:=base.2;omega⟩
  ·obtain⟨a,b⟩:=t.pcs k ps hl
   exact⟨a,by omega⟩
 ·have hm:e.1∈(setF key (overP ((lookF key x.wr).getD []) p) x.clk x.wr).map (·.1):=List.mem_map_of_mem he
  rw[setF_keys]at hm
  have old:e.1∈x.wr.map (·.1)→keyOk e.1=true∧e.1.length≤100000:=fun z=>by
   obtain⟨e',h1,h2⟩:=List.mem_map.mp z
   rw[←h2];exact t.key e' h1
  split at hm
  ·exact old hm
  ·rcases List.mem_append.mp hm with z | z
   ·exact old z
   ·rw[List.mem_singleton.mp z];exact⟨hk,hkl⟩
 ·show((setF key _ x.clk x.wr).map (·.1)).Nodup
  rw[setF_keys]
  split
  ·exact t.wnd
  ·rename_i hn
   refine List.nodup_append.mpr ⟨t.wnd,by simp,fun a ha b hb e=>?_⟩
   rw[List.mem_singleton.mp hb]at e
   subst e
   exact hn (lookF_mem.mp ha)
theorem write_i{hz h h1 h':Hp Fm}{g pm:Nat}{bs:List Br}{σ:SS}{n:Nat}(k:OInv hz h g pm bs σ n)(e1:HE h h1){i:Int}{key:List UInt8}(hkl:key.length≤100000){p:Pc}(htag:p.val.take 1=[43]∨p.val=[45]){r:AV}(w:WrR hz h1 g pm σ.ep σ.sq σ.xs σ.lv σ.lg i key p r h') :
  ∃e σ',r=.int .i64 e∧Went hz h h' g pm bs σ n σ'∧Quiet σ σ':=by
 rcases w with⟨_,rfl,e2⟩ | ⟨_,_,rfl,e2⟩ | ⟨oe,ok,rfl,j,hj,rfl,eng,hx⟩
 ·have e:=e1.trans e2
  exact⟨_,σ,rfl,⟨k.he e,Fr.he e⟩,Quiet.refl σ⟩
 ·have e:=e1.trans e2
  exact⟨_,σ,rfl,⟨k.he e,Fr.he e⟩,Quiet.refl σ⟩
 ·obtain⟨j',hj',ej,st1,op⟩:=openE_st oe
  have:j'=j:=by omega
  subst this
  have k1:=k.he e1
  have t:=k.tx _ (List.getElem_mem hj)
  simp only[okW,Bool.and_eq_true,decide_eq_true_eq]at ok
  have sys':=k1.sys.upd (x':=putT σ.xs[j'] key p) hj eng rfl rfl hx (fun o z=>tx_objs hj g (.inr z)) ((k.sys.tx _ (List.getElem_mem hj)).put op ok.1.1 hkl ⟨ok.1.2,htag,ok.2⟩)
  obtain⟨k2,k3⟩:=k1.keep hj (x':=putT σ.xs[j'] key p) sys' rfl rfl (.inl st1) (fun kk ps hl=>by
   simp only[putT,lookF_setF]at hl
   split at hl
   ·injection hl with hl;rw[←hl];exact overP_ne ok.1.2
   ·exact t.ne kk ps hl) (fun z=>⟨z.1,z.2⟩)
  exact⟨0,_,rfl,Went.pre e1 ⟨k2,Fr.set hj rfl rfl hx (fun o z=>.inr z) (fun q z=>z.elim) (fun q z=>.inl z)⟩,k3⟩
theorem put_i{hz h:Hp Fm}{g pm:Nat}{bs:List Br}{σ:SS}{n:Nat}(k:OInv hz h g pm bs σ n)(i:Int)(hi:i64R i)(key:List UInt8)(hkl:key.length≤100000)(f u:Int)(v:List UInt8)(hv:v.length≤99999) :
  A Tryz.prog TT (.func 17) [.ptr g 0,.int .i64 i,.str key,.agg [.int .i64 f,.int .i64 u],.str v] h (fun r h'=>∃e σ',r=.int .i64 e∧Went hz h h' g pm bs σ n σ'∧Quiet σ σ'):=by
 refine A.mono (put_ans hz h g pm σ.ep σ.sq σ.xs σ.lv σ.lg k.sys.eng i hi k.sys.xl2 key hkl f u v hv (fun x hx=>(k.sys.tx x hx).o0) (fun x hx ps hl=>by have:=(k.sys.tx x hx).pcs key ps hl;have:=(k.sys.tx x hx).o1;omega)) ?_
 rintro r h' ⟨h1,e1,w⟩
 exact write_i k e1 hkl (.inl (by simp)) w
theorem gone_i{hz h:Hp Fm}{g pm:Nat}{bs:List Br}{σ:SS}{n:Nat}(k:OInv hz h g pm bs σ n)(i:Int)(hi:i64R i)(key:List UInt8)(hkl:key.length≤100000)(f u:Int) :
  A Tryz.prog TT (.func 15) [.ptr g 0,.int .i64 i,.str key,.agg [.int .i64 f,.int .i64 u]] h (fun r h'=>∃e σ',r=.int .i64 e∧Went hz h h' g pm bs σ n σ'∧Quiet σ σ'):=by
 refine A.mono (gone_ans hz h g pm σ.ep σ.sq σ.xs σ.lv σ.lg k.sys.eng i hi k.sys.xl2 key hkl f u (fun x hx=>(k.sys.tx x hx).o0) (fun x hx ps hl=>by have:=(k.sys.tx x hx).pcs key ps hl;have:=(k.sys.tx x hx).o1;omega)) ?_
 rintro r h' ⟨h1,e1,w⟩
 exact write_i k e1 hkl (.inr rfl) w
theorem LeE.trans{a b c d e f:Int}(h:LeE a b c d)(k:LeE c d e f):LeE a b e f:=by unfold LeE at *;omega
section
variable {hz h h':Hp Fm} {g pm:Nat} {bs:List Br} {σ:SS} {n j:Nat}
theorem TxI.mono{ep sq ep' sq':Int}{M:Mem}{x:Tr}(t:TxI ep sq M x)(hl:LeE ep sq ep' sq'):TxI ep' sq' M x:=
 ⟨t.st,t.ne,fun z=>by obtain⟨a,b,c,d,e⟩:=t.at_ z;exact⟨a,b,c,d,e.trans hl⟩,t.low⟩
theorem OInv.move(k:OInv hz h g pm bs σ n)(hj:j<σ.xs.length){x':Tr}{ep' sq':Int}(hle:LeE σ.ep σ.sq ep' sq')(e1':1≤ep'∧ep'≤10000)(s1':0≤sq'∧sq'≤100000)
  (sys':SysS hz h' g pm bs { σ with xs:=σ.xs.set j x',ep:=ep',sq:=sq' }) (htx:TxI ep' sq' σ.M x') (hlock:held x'→∀i (hi:i<σ.xs.length),i≠j→held σ.xs[i]→∀kk∈keysX x',kk∉keysX σ.xs[i]) :
  OInv hz h' g pm bs { σ with xs:=σ.xs.set j x',ep:=ep',sq:=sq' } n:=by
 have gs:∀i (hi:i<(σ.xs.set j x').length),(σ.xs.set j x')[i]=if j=i then x' else σ.xs[i]'(by rw[List.length_set]at hi;exact hi):=fun i hi=>List.getElem_set hi
 refine⟨sys',e1',s1',fun x hx=>?_,fun i i2 hi hi2 hne h1 h2 kk hk=>?_,fun m hm v hv=>(k.mlow m hm v hv).trans hle,k.cnt,k.len,by have:=k.xl;simpa using this⟩
 ·rcases List.mem_or_eq_of_mem_set hx with hx | rfl
  ·exact(k.tx x hx).mono hle
  ·exact htx
 ·have hi':i<σ.xs.length:=by simpa using hi
  have hi2':i2<σ.xs.length:=by simpa using hi2
  have e:({ σ with xs:=σ.xs.set j x',ep:=ep',sq:=sq' }:SS).xs[i]=if j=i then x' else σ.xs[i]:=gs i hi
  have e2:({ σ with xs:=σ.xs.set j x',ep:=ep',sq:=sq' }:SS).xs[i2]=if j=i2 then x' else σ.xs[i2]:=gs i2 hi2
  rw[e]at h1 hk
  rw[e2]at h2 ⊢
  by_cases q:j=i
  ·subst q
   rw[if_pos rfl]at h1 hk
   rw[if_neg hne]at h2 ⊢
   exact hlock h1 i2 hi2' (fun z=>hne z.symm) h2 kk hk
  ·rw[if_neg q]at h1 hk
   by_cases q2:j=i2
   ·subst q2
    rw[if_pos rfl]at h2 ⊢
    exact fun z=>hlock h2 i hi' hne h1 kk z hk
   ·rw[if_neg q2]at h2 ⊢
    exact k.lock i i2 hi' hi2' hne h1 h2 kk hk
theorem objs_p:∀{xs:List Tr},(objsT xs).Nodup→∀{i j:Nat} (hi:i<xs.length) (hj:j<xs.length),i≠j→(xs[i]).p≠(xs[j]).p
 | [],_,i,_,hi,_,_=>by cases hi
 | x::xs,hn,i,j,hi,hj,hne=>by
  have e:objsT (x::xs)=x.p::x.m::objsT xs:=rfl
  rw[e]at hn
  have h1:=(List.nodup_cons.mp hn).1
  have h2:=(List.nodup_cons.mp (List.nodup_cons.mp hn).2).2
  cases i with
  | zero=>
   cases j with
   | zero=>exact absurd rfl hne
   | succ j=>
    intro z
    have hj':j<xs.length:=by simpa using hj
    exact h1 (List.mem_cons_of_mem _ (by
     have z':x.p=(xs[j]).p:=z
     rw[z'];exact(objsT_mem (List.getElem_mem hj')).1))
  | succ i=>
   have hi':i<xs.length:=by simpa using hi
   cases j with
   | zero=>
    intro z
    exact h1 (List.mem_cons_of_mem _ (by
     have z':(xs[i]).p=x.p:=z
     rw[←z'];exact(objsT_mem (List.getElem_mem hi')).1))
   | succ j=>
    have hj':j<xs.length:=by simpa using hj
    exact objs_p h2 hi' hj' (fun z=>hne (by rw[z]))
theorem lock_free(k:OInv hz h g pm bs σ n)(hj:j<σ.xs.length)(hl:(σ.xs.any fun y=>lockQ σ.xs[j] y (wroteQ σ.xs[j]))=false) :
  ∀i (hi:i<σ.xs.length),i≠j→held σ.xs[i]→∀kk∈keysX σ.xs[j],kk∉keysX σ.xs[i]:=by
 intro i hi hne hh kk hk hk2
 have hpn:=objs_p (List.nodup_cons.mp k.sys.eng.nd).2 hi hj hne
 obtain⟨ps,hps⟩:=Option.isSome_iff_exists.mp (lookF_mem.mp hk)
 have pne:=(k.tx _ (List.getElem_mem hj)).ne kk ps hps
 have wq:wroteQ σ.xs[j] kk=true:=by
  unfold wroteQ
  rw[hps]
  exact decide_eq_true (List.length_pos_iff.mpr pne)
 have b1:=(k.sys.tx _ (List.getElem_mem hi)).br
 have b2:=(k.sys.tx _ (List.getElem_mem hj)).br
 have:(σ.xs.any fun y=>lockQ σ.xs[j] y (wroteQ σ.xs[j]))=true:=by
  refine List.any_eq_true.mpr ⟨σ.xs[i],List.getElem_mem hi,?_⟩
  unfold lockQ holds
  have hst:(decide ((σ.xs[i]).st=2) || decide ((σ.xs[i]).st=3))=true:=by
   rcases hh with z | z <;> simp[z]
  simp only[hst,hpn,b1,b2,decide_false,decide_true,Bool.not_false,Bool.and_self,Bool.true_and]
  exact List.any_eq_true.mpr ⟨kk,hk2,wq⟩
 rw[this]at hl;cases hl
end
end Go.Vn

set_option maxRecDepth 20000
namespace Go.Vn
open Go.Proofs
def StepR(σ σ':SS)(i st e:Int):Prop:=
 (findR σ.xs i≠0∧σ'=σ∧st=0)∨∃(j:Nat) (hj:j<σ.xs.length),i=(j:Int)+1 ∧
  (((σ.xs[j]).st=4∧σ'=σ∧st=0) ∨
   ((σ.xs[j]).st=1∧(σ.xs.any fun y=>lockQ σ.xs[j] y (wroteQ σ.xs[j]))=true∧st=5∧e=25∧σ'={ σ with xs:=σ.xs.set j { σ.xs[j]with st:=5 } }) ∨
   ((σ.xs[j]).st=1∧(σ.xs.any fun y=>lockQ σ.xs[j] y (wroteQ σ.xs[j]))=false∧st=2∧e=0∧σ'={ σ with xs:=σ.xs.set j { σ.xs[j]with st:=2 } }) ∨
   ((σ.xs[j]).st=2∧validM σ.xs σ.xs[j] σ.M=false∧st=5∧e=25∧σ'={ σ with xs:=σ.xs.set j { σ.xs[j]with st:=5 } }) ∨
   ((σ.xs[j]).st=2∧100000≤σ.sq∧σ'=σ) ∨
   ((σ.xs[j]).st=2∧validM σ.xs σ.xs[j] σ.M=true∧σ.sq<100000∧st=3∧e=0∧σ'={ σ with xs:=σ.xs.set j { σ.xs[j]with st:=3,at_:=⟨(σ.xs[j]).br,σ.ep,σ.sq+1⟩ },sq:=σ.sq+1 }) ∨
   ((σ.xs[j]).st=3∧st=4∧e=0∧∃D' M',σ'={ σ with xs:=σ.xs.set j { σ.xs[j]with st:=4 },D:=D',M:=M' }))
theorem Moves.refl(σ:SS):Moves σ σ:=(Quiet.refl σ).moves
theorem moves_set{σ σ':SS}{j:Nat}(hj:j<σ.xs.length){x':Tr}(hx:σ'.xs=σ.xs.set j x')(hl:LeE σ.ep σ.sq σ'.ep σ'.sq)(ht:TMove σ σ' σ.xs[j] x'):Moves σ σ':=by
 refine⟨hl,.inr ⟨by rw[hx,List.length_set],fun i h h'=>?_⟩⟩
 have e:σ'.xs[i]=if j=i then x' else σ.xs[i]:=by
  have:∀(l:List Tr) (hl:l=σ.xs.set j x') (hi:i<l.length),l[i]=if j=i then x' else σ.xs[i]:=fun l hl hi=>by subst hl;exact List.getElem_set hi
  exact this _ hx h'
 rw[e]
 split
 ·rename_i q;subst q;exact ht
 ·exact .inl ⟨rfl,rfl⟩
theorem findR_st{xs:List Tr}{i:Int}(h:findR xs i=0):∃(j:Nat) (hj:j<xs.length),i=(j:Int)+1∧(xs[j]).st≠5:=by
 unfold findR at h
 by_cases q:1≤i∧i≤xs.length
 case neg=>simp[q]at h
 obtain⟨j,rfl⟩:∃j:Nat,i=(j:Int)+1:=⟨(i-1).toNat,by omega⟩
 have hj:j<xs.length:=by omega
 have e:xs.getD ((j:Int)+1-1).toNat default=xs[j]:=by rw[show((j:Int)+1-1).toNat=j by omega,List.getD_eq_getElem?_getD,List.getElem?_eq_getElem hj];rfl
 rw[e,if_pos q]at h
 refine⟨j,hj,rfl,fun z=>by simp[z]at h⟩
set_option maxHeartbeats 2000000 in
theorem step_i{hz h:Hp Fm}{g pm:Nat}{bs:List Br}{σ:SS}{n:Nat}(k:OInv hz h g pm bs σ n)(hn:n≤270)(i:Int)(hi:i64R i) :
  A Tryz.prog TT (.func 11) [.ptr g 0,.int .i64 i] h (fun r h'=>∃st e σ',r=.tup [.int .i64 st,.int .i64 e]∧Went hz h h' g pm bs σ (n+1) σ'∧Moves σ σ'∧StepR σ σ' i st e):=by
 have sy:=k.sys
 have kc:=k.cnt
 have kl:=k.len
 have hwl:∀y∈σ.xs,y.wr.length≤60000:=fun y hy=>by have:=(sy.tx y hy).wl;have:=(sy.tx y hy).o1;omega
 by_cases hf:findR σ.xs i=0
 case neg=>
  refine A.mono (step_none hz h g pm σ.ep σ.sq σ.xs σ.lv σ.lg sy.eng i hi sy.xl2 hf) ?_
  rintro _ h' ⟨rfl,e⟩
  exact⟨0,_,σ,rfl,⟨(k.he e).up (by omega),Fr.he e⟩,Moves.refl σ,.inl ⟨hf,rfl,rfl⟩⟩
 obtain⟨j,hj,rfl,h5⟩:=findR_st hf
 have t:=k.tx _ (List.getElem_mem hj)
 have tok:=sy.tx _ (List.getElem_mem hj)
 have hs:=t.st
 have hc:(σ.xs[j]).st=1∨(σ.xs[j]).st=2∨(σ.xs[j]).st=3∨(σ.xs[j]).st=4:=by omega
 have up:∀{h':Hp Fm} {σ':SS},OInv hz h' g pm bs σ' n→OInv hz h' g pm bs σ' (n+1):=fun z=>z.up (by omega)
 have fr:∀{h':Hp Fm} {S:Nat→Prop} (x':Tr) (ep' sq':Int),x'.p=(σ.xs[j]).p→x'.m=(σ.xs[j]).m→x'.rg=(σ.xs[j]).rg→x'.sg=(σ.xs[j]).sg→HX S (fun _=>False) h h'→(∀o,S o→o=g∨o=(σ.xs[j]).p∨o=(σ.xs[j]).m)→Fr h h' g σ { σ with xs:=σ.xs.set j x',ep:=ep',sq:=sq' }:=by
  intro h' S x' ep' sq' e1 e2 e3 e4 hx hS
  have:=Fr.set (σ:=σ) (g:=g) hj e1 e2 hx hS (fun q z=>z.elim) (fun q z=>.inl (by rw[←e3,←e4];exact z))
  exact⟨this.hx,this.ob,this.gr,this.dn⟩
 have put5:∀{h':Hp Fm},EngH hz h' g pm σ.ep σ.sq (σ.xs.set j { σ.xs[j]with st:=5 }) σ.lv σ.lg→HX (fun o=>o=g∨o=(σ.xs[j]).p) (fun _=>False) h h'→Went hz h h' g pm bs σ (n+1) { σ with xs:=σ.xs.set j { σ.xs[j]with st:=5 } }:=by
  intro h' eng hx
  have sys':=sy.upd (x':={ σ.xs[j]with st:=5 }) hj eng rfl rfl hx (fun o z=>tx_objs hj g (z.imp (fun y=>y) (fun y=>.inl y))) ⟨tok.br,tok.o0,tok.o1,tok.rd,tok.sc,tok.wl,tok.pcs,tok.key,tok.wnd⟩
  refine⟨up (k.move hj (LeE.refl _ _) k.e1 k.s1 sys' ⟨by simp,t.ne,fun z=>by simp at z,fun z=>by simp at z⟩ (fun z=>by simp[held]at z)),fr _ _ _ rfl rfl rfl rfl hx (fun o z=>z.imp (fun y=>y) (fun y=>.inl y))⟩
 rcases hc with hc | hc | hc | hc
 ·refine A.mono (step_open hz h g pm σ.ep σ.sq σ.xs σ.lv σ.lg sy.eng j hj hc sy.xl2 hwl) ?_
  rintro _ h' (⟨ha,rfl,eng,hx⟩ | ⟨ha,rfl,eng,hx⟩)
  ·exact⟨5,25,_,rfl,put5 eng (hx.mono (fun o _ z=>.inr z) (fun _ _ z=>z)),moves_set hj rfl (LeE.refl _ _) (.inr (.inr (.inl rfl))),.inr ⟨j,hj,rfl,.inr (.inl ⟨hc,ha,rfl,rfl,rfl⟩)⟩⟩
  ·have sys':=sy.upd (x':={ σ.xs[j]with st:=2 }) hj eng rfl rfl hx (fun o z=>tx_objs hj g (.inr (.inl z))) ⟨tok.br,tok.o0,tok.o1,tok.rd,tok.sc,tok.wl,tok.pcs,tok.key,tok.wnd⟩
   refine⟨2,0,_,rfl,⟨up (k.move hj (LeE.refl _ _) k.e1 k.s1 sys' ⟨by simp,t.ne,fun z=>by simp at z,fun z=>by simp at z⟩ (fun _=>lock_free k hj ha)),fr _ _ _ rfl rfl rfl rfl hx (fun o z=>.inr (.inl z))⟩,moves_set hj rfl (LeE.refl _ _) (.inr (.inl ⟨hc,rfl⟩)),.inr ⟨j,hj,rfl,.inr (.inr (.inl ⟨hc,ha,rfl,rfl,rfl⟩))⟩⟩
 ·refine A.mono (step_lock hz h g pm σ.ep σ.sq σ.xs σ.lv σ.lg sy.eng j hj hc sy.xl2 k.s1 (validM σ.xs σ.xs[j] σ.M) (fun h1 e1=>valid_m (sy.he e1) _ (List.getElem_mem hj))) ?_
  rintro _ h' (⟨hv,rfl,eng,hx⟩ | ⟨hv,hs5,rfl,eng,hx⟩ | ⟨hv,hs5,rfl,eng,hx⟩)
  ·exact⟨5,25,_,rfl,put5 eng hx,moves_set hj rfl (LeE.refl _ _) (.inr (.inr (.inl rfl))),.inr ⟨j,hj,rfl,.inr (.inr (.inr (.inl ⟨hc,hv,rfl,rfl,rfl⟩)))⟩⟩
  ·have sys':SysS hz h' g pm bs σ:=⟨sy.z0,sy.zg,eng,sy.mem.of hx (fun o ho z=>sy.dis o ho (tx_objs hj g (z.imp (fun y=>y) (fun y=>.inl y)))),sy.dis,sy.ok,sy.cnt,sy.len,by rw[hx.pol];exact sy.pol,sy.tx,sy.xl⟩
   refine⟨0,27,σ,rfl,⟨up ⟨sys',k.e1,k.s1,k.tx,k.lock,k.mlow,k.cnt,k.len,k.xl⟩,⟨hx.mono (fun o _ z=>.inl (tx_objs hj g (z.imp (fun y=>y) (fun y=>.inl y)))) (fun _ _ z=>z.elim),fun _ z=>.inl z,fun _ z=>.inl z,fun _ z=>.inl z⟩⟩,Moves.refl σ,.inr ⟨j,hj,rfl,.inr (.inr (.inr (.inr (.inl ⟨hc,hs5,rfl⟩))))⟩⟩
  ·have ks:=k.s1
   have ke:=k.e1
   have sys':=sy.upd (ep':=σ.ep) (sq':=σ.sq+1) (x':={ σ.xs[j]with st:=3,at_:=⟨(σ.xs[j]).br,σ.ep,σ.sq+1⟩ }) hj eng rfl rfl hx (fun o z=>tx_objs hj g (z.imp (fun y=>y) (fun y=>.inl y))) ⟨tok.br,tok.o0,tok.o1,tok.rd,tok.sc,tok.wl,tok.pcs,tok.key,tok.wnd⟩
   have hle:LeE σ.ep σ.sq σ.ep (σ.sq+1):=.inr ⟨rfl,by omega⟩
   refine⟨3,0,{ σ with xs:=σ.xs.set j { σ.xs[j]with st:=3,at_:=⟨(σ.xs[j]).br,σ.ep,σ.sq+1⟩ },sq:=σ.sq+1 },rfl,⟨up (k.move (ep':=σ.ep) (sq':=σ.sq+1) hj hle k.e1 (by omega) sys' ⟨by simp,t.ne,fun _=>⟨tok.br,ke.1,by show 1≤σ.sq+1;omega,by show σ.sq+1≤100000;omega,LeE.refl _ _⟩,fun _ m hm _ v hv=>?_⟩ (fun _ ii hii hne hh=>k.lock j ii hj hii (fun z=>hne z.symm) (.inl hc) hh)),fr _ _ _ rfl rfl rfl rfl hx (fun o z=>z.imp (fun y=>y) (fun y=>.inl y))⟩,moves_set hj rfl hle (.inr (.inr (.inr (.inl ⟨hc,rfl,.inr ⟨rfl,by show σ.sq<σ.sq+1;omega⟩⟩)))),.inr ⟨j,hj,rfl,.inr (.inr (.inr (.inr (.inr (.inl ⟨hc,hv,hs5,rfl,rfl,rfl⟩)))))⟩⟩
   have:=k.mlow m hm v hv
   show v.ep<σ.ep∨(v.ep=σ.ep∧v.sq<σ.sq+1)
   unfold LeE at this
   omega
 ·obtain⟨b0,a1,a2,a3,a4⟩:=t.at_ (.inl hc)
  have ke:=k.e1
  obtain⟨P,hP⟩:∃P:Hp Fm→Prop,P=fun h1=>∃D' M',MemH h1 D' pm bs M'∧(∀o,D' o→σ.D o∨h.no≤o)∧MOk M'∧FromM σ.M σ.xs[j] (keysX σ.xs[j]) M'∧cntM M'≤cntM σ.M+3200∧M'.length≤σ.M.length+40∧HX (fun o=>σ.D o∨o=(σ.xs[j]).p) (fun _=>False) h h1∧h1.pol=h.pol:=⟨_,rfl⟩
  have pl:(σ.xs[j]).p<h.no:=by obtain⟨_,_,_,_,T⟩:=sy.eng.tr _ (List.getElem_mem hj);exact T.pn
  have pD:∀(D':Nat→Prop),(∀o,D' o→σ.D o∨h.no≤o)→∀o,D' o→¬o=(σ.xs[j]).p:=fun D' hD o ho z=>by
   rcases hD o ho with y | y
   ·exact sy.dis o y (tx_objs hj g (.inr (.inl z)))
   ·omega
  refine A.mono (step_valid hz h g pm σ.ep σ.sq σ.xs σ.lv σ.lg sy.eng j hj hc sy.xl2 P ?_ ?_) ?_
  ·intro h1 r hp1
   rw[hP]at hp1 ⊢
   obtain⟨D',M',q1,q2,q3,q4,q5,q6,q7,q8⟩:=hp1
   refine⟨D',M',q1.of (HX.set1 (h':=h1) (S:=fun o=>o=(σ.xs[j]).p) rfl) (pD D' q2),q2,q3,q4,q5,q6,q7.set (fun _=>.inr rfl) _,q8⟩
  ·intro h1 e1
   refine A.mono (inst_m (sy.he e1) _ (List.getElem_mem hj) ⟨b0,a1,by unfold LeE at a4;omega,a2,a3⟩ (t.low hc) (by omega) (by omega)) ?_
   rintro _ h2 ⟨D',M',s2,hx2,dn2,fm2,c2,l2⟩
   refine⟨s2.eng,?_,fun o ho ho2=>hx2.obj o ho2 (fun z=>by have:=sy.mem.lt o z;omega)⟩
   rw[hP]
   exact⟨D',M',s2.mem,fun o z=>(dn2 o z).imp (fun y=>y) (fun y=>Nat.le_trans e1.no y),s2.ok,fm2,c2,l2,⟨Nat.le_trans e1.no hx2.no,Nat.le_trans e1.ng hx2.ng,hx2.pol.trans e1.pol,fun o ho hs=>(hx2.obj o (Nat.lt_of_lt_of_le ho e1.no) (fun z=>hs (.inl z))).trans (e1.obj o ho),fun q hq hn=>(hx2.len q (Nat.lt_of_lt_of_le hq e1.ng) hn).trans (e1.len q hq)⟩,hx2.pol.trans e1.pol⟩
  ·rintro _ h' ⟨rfl,eng,hp'⟩
   rw[hP]at hp'
   obtain⟨D',M',q1,q2,q3,q4,q5,q6,q7,q8⟩:=hp'
   have hfrom:=q4
   have sys':SysS hz h' g pm bs { σ with xs:=σ.xs.set j { σ.xs[j]with st:=4 },D:=D',M:=M' }:=by
    refine⟨sy.z0,sy.zg,eng,q1,fun o ho=>?_,q3,by show cntM M'≤900000;omega,by show M'.length≤900000;omega,by rw[q8];exact sy.pol,fun x hx=>?_,by show(σ.xs.set j _).length≤1000;rw[List.length_set];exact sy.xl⟩
    ·show o∉g::objsT (σ.xs.set j { σ.xs[j]with st:=4 })
     rw[objs_set hj (x':={ σ.xs[j]with st:=4 }) rfl rfl]
     rcases q2 o ho with z | z
     ·exact sy.dis o z
     ·intro hm
      rcases List.mem_cons.mp hm with y | y
      ·have:=sy.eng.gn;omega
      ·obtain⟨y1,hy1,hy2⟩:=List.mem_flatMap.mp y
       obtain⟨_,_,_,_,Ty⟩:=sy.eng.tr y1 hy1
       have:=Ty.pn
       have:=Ty.mn
       simp only[List.mem_cons,List.not_mem_nil,or_false]at hy2
       rcases hy2 with hy2 | hy2 <;> omega
    ·rcases List.mem_or_eq_of_mem_set hx with hx | rfl
     ·exact sy.tx x hx
     ·exact⟨tok.br,tok.o0,tok.o1,tok.rd,tok.sc,tok.wl,tok.pcs,tok.key,tok.wnd⟩
   have gs:∀ii (hi:ii<(σ.xs.set j { σ.xs[j]with st:=4 }).length),(σ.xs.set j { σ.xs[j]with st:=4 })[ii]=if j=ii then { σ.xs[j]with st:=4 }else σ.xs[ii]'(by rw[List.length_set]at hi;exact hi):=fun ii hi=>List.getElem_set hi
   refine⟨4,0,_,rfl,⟨⟨sys',k.e1,k.s1,fun x hx=>?_,fun i1 i2 hi1 hi2 hne h1 h2 kk hk=>?_,fun m hm v hv=>?_,by show cntM M'≤_;omega,by show M'.length≤_;omega,by have:=k.xl;show(σ.xs.set j _).length≤_;rw[List.length_set];omega⟩,⟨q7.mono (fun o _ z=>z.elim (fun y=>.inr y) (fun y=>.inl (tx_objs hj g (.inr (.inl y))))) (fun _ _ z=>z.elim),fun o ho=>?_,fun q hq=>?_,q2⟩⟩,moves_set hj rfl (LeE.refl _ _) (.inr (.inr (.inr (.inr ⟨hc,rfl,rfl⟩)))),.inr ⟨j,hj,rfl,.inr (.inr (.inr (.inr (.inr (.inr ⟨hc,rfl,rfl,D',M',rfl⟩)))))⟩⟩
   ·obtain⟨ii,hii,rfl⟩:=List.getElem_of_mem hx
    have hii':ii<σ.xs.length:=by simpa using hii
    have e:=gs ii hii
    show TxI σ.ep σ.sq M' ((σ.xs.set j { σ.xs[j]with st:=4 })[ii])
    rw[e]
    split
    ·exact⟨by simp,t.ne,fun _=>⟨b0,a1,a2,a3,a4⟩,fun z=>by simp at z⟩
    ·rename_i hne
     have ti:=k.tx _ (List.getElem_mem hii')
     refine⟨ti.st,ti.ne,ti.at_,fun z m hm hmk v hv=>?_⟩
     rcases hfrom m hm v hv with⟨m0,u1,u2,u3⟩ | ⟨u1,_⟩
     ·exact ti.low z m0 u1 (by rw[u2];exact hmk) v u3
     ·exact absurd u1 (k.lock ii j hii' hj (fun y=>hne y.symm) (.inr z) (.inr hc) m.1 hmk)
   ·have hi1':i1<σ.xs.length:=by simpa using hi1
    have hi2':i2<σ.xs.length:=by simpa using hi2
    have e:=gs i1 hi1
    have e2:=gs i2 hi2
    change held (σ.xs.set j { σ.xs[j]with st:=4 })[i1]at h1
    change held (σ.xs.set j { σ.xs[j]with st:=4 })[i2]at h2
    change kk∈keysX (σ.xs.set j { σ.xs[j]with st:=4 })[i1]at hk
    show kk∉keysX (σ.xs.set j { σ.xs[j]with st:=4 })[i2]
    rw[e]at h1 hk
    rw[e2]at h2 ⊢
    by_cases z1:j=i1
    ·rw[if_pos z1]at h1;simp[held]at h1
    ·by_cases z2:j=i2
     ·rw[if_pos z2]at h2;simp[held]at h2
     ·rw[if_neg z1]at h1 hk
      rw[if_neg z2]at h2 ⊢
      exact k.lock i1 i2 hi1' hi2' hne h1 h2 kk hk
   ·rcases hfrom m hm v hv with⟨m0,u1,u2,u3⟩ | ⟨_,u2,u3⟩
    ·exact k.mlow m0 u1 v u3
    ·show LeE v.ep v.sq σ.ep σ.sq
     rw[u2,u3];exact a4
   ·have:objsT (σ.xs.set j { σ.xs[j]with st:=4 })=objsT σ.xs:=objs_set hj rfl rfl
    exact .inl (by rw[←this];exact ho)
   ·rcases List.mem_append.mp hq with z | z
    ·exact .inl (List.mem_append_left _ z)
    ·rcases grps_set (P:=fun _=>False) hj (x':={ σ.xs[j]with st:=4 }) (fun q y=>.inl y) q z with y | y
     ·exact .inl (List.mem_append_right _ y)
     ·exact y.elim
 ·refine A.mono (step_done hz h g pm σ.ep σ.sq σ.xs σ.lv σ.lg sy.eng j hj hc sy.xl2) ?_
  rintro _ h' ⟨rfl,e⟩
  exact⟨0,26,σ,rfl,⟨(k.he e).up (by omega),Fr.he e⟩,Moves.refl σ,.inr ⟨j,hj,rfl,.inl ⟨hc,rfl,rfl⟩⟩⟩
end Go.Vn

set_option maxRecDepth 20000
namespace Go.Vn
open Go.Proofs
def AbortR(σ σ':SS)(i e:Int):Prop:=
 (findR σ.xs i≠0∧σ'=σ∧e=findR σ.xs i)∨∃(j:Nat) (hj:j<σ.xs.length),i=(j:Int)+1∧(σ.xs[j]).st≠5∧((3≤(σ.xs[j]).st∧σ'=σ∧e=26)∨((σ.xs[j]).st<3∧e=0∧σ'={ σ with xs:=σ.xs.set j { σ.xs[j]with st:=5 } }))
theorem vNs7{F G K:Prop}(f:F)(k:K)(h:F→K→G:=by intro f k;(repeat(first|with_reducible first|refine vmR ?_|refine vmV rfl ?_|refine vmW rfl ?_|refine vmL ?_|refine blockW_y (by decide) ?_|((with_reducible first|apply vmO|apply vmT|apply vmC);case a=>simp[f,splice];with_reducible first|exact .v|exact .c|exact .t|exact .f)));exact k):G:=h f k
set_option maxHeartbeats 1000000 in
theorem abort_i{hz h:Hp Fm}{g pm:Nat}{bs:List Br}{σ:SS}{n:Nat}(k:OInv hz h g pm bs σ n)(i:Int)(hi:i64R i) :
  A Tryz.prog TT (.func 22) [.ptr g 0,.int .i64 i] h (fun r h'=>∃e σ',r=.int .i64 e∧Went hz h h' g pm bs σ n σ'∧Moves σ σ'∧AbortR σ σ' i e):=by
 have sy:=k.sys
 apply A_go Tryz.func22 rfl (by rfl);(case hn=>(simp[Tryz.ntmps22];rfl))
 refine vZ ?_
 refine A.mono (find_ans hz h g pm σ.ep σ.sq σ.xs σ.lv σ.lg sy.eng i hi sy.xl2) ?_
 rintro _ h1 ⟨eh,⟨f1,rfl⟩ | ⟨f1,j,hj,rfl,s5,rfl⟩⟩
 ·rw[eh]
  clear eh h1
  obtain⟨e,he⟩:∃e,e=findR σ.xs i:=⟨_,rfl⟩
  have f2:=f1
  rw[←he]at f1 ⊢
  refine vP ?_
  refine vF f1 ?_
  (first | apply endW_r | apply endW_n);(case h1=>(simp[Tryz.results22];first | done | rfl))
  exact⟨e,σ,rfl,⟨k,Fr.he (HE.refl h)⟩,Moves.refl σ,.inl ⟨f2,rfl,he⟩⟩
 rw[eh]
 clear eh h1
 obtain⟨x,ex⟩:∃x,x=σ.xs[j]:=⟨_,rfl⟩
 have hmem:x∈σ.xs:=by rw[ex];exact List.getElem_mem _
 obtain⟨es,rdv,scv,sls,T⟩:=sy.eng.tr x hmem
 have tr:=T.row
 have t:=k.tx x hmem
 have tok:=sy.tx x hmem
 rw[←ex]
 refine vP ?_
 by_cases q:3≤x.st
 ·refine vF (cJ tr q) ?_
  (first | apply endW_r | apply endW_n);(case h1=>(simp[Tryz.results22];first | done | rfl))
  exact⟨26,σ,rfl,⟨k,Fr.he (HE.refl h)⟩,Moves.refl σ,.inr ⟨j,hj,rfl,s5,.inl ⟨by rw[←ex];exact q,rfl,rfl⟩⟩⟩
 ·refine vNs7 (cJ tr q) ?_
  (first | apply endW_r | apply endW_n);(case h1=>(simp[Tryz.results22];first | done | rfl))
  have eng:=sy.eng.st hj ex 5 x.ops T
  have hx:HX (fun o=>o=x.p) (fun _=>False) h { h with obj:=Mp.set h.obj x.p (.row [.int .i64 x.br,.int .i64 5,.int .i64 x.ops,.int .i64 x.at_.b,.int .i64 x.at_.e,.int .i64 x.at_.s,.mp x.m,rdv,scv]) }:=HX.set1 (h':=h) rfl
  have sys':=sy.upd (x':={ x with st:=5 }) hj eng (by rw[←ex]) (by rw[←ex]) hx (fun o z=>tx_objs hj g (.inr (.inl (by rw[z,ex])))) ⟨tok.br,tok.o0,tok.o1,tok.rd,tok.sc,tok.wl,tok.pcs,tok.key,tok.wnd⟩
  have mv:=k.move (x':={ x with st:=5 }) hj (LeE.refl _ _) k.e1 k.s1 sys' ⟨by simp,t.ne,fun z=>by simp at z,fun z=>by simp at z⟩ (fun z=>by simp[held]at z)
  have fr:=Fr.set (σ:=σ) (g:=g) (x':={ x with st:=5 }) hj (by rw[←ex]) (by rw[←ex]) hx (fun o z=>.inr (.inl (by rw[z,ex]))) (fun q z=>z.elim) (fun q z=>.inl (by rw[←ex];exact z))
  exact⟨0,_,rfl,⟨mv,⟨fr.hx,fr.ob,fr.gr,fr.dn⟩⟩,moves_set hj rfl (LeE.refl _ _) (.inr (.inr (.inl rfl))),.inr ⟨j,hj,rfl,s5,.inr ⟨by rw[←ex];omega,rfl,by rw[←ex]⟩⟩⟩
theorem tick1_ans(h:Hp Fm)(x:Tr)(T:TrI h x):A Tryz.prog TT (.func 78) [.ptr x.p 0] h (fun r h'=>r=.bool (decide (x.st=3))∧HE h h'):=by
 obtain⟨es,rdv,scv,sls,Tx⟩:=T
 have tr:=Tx.row
 apply A_go Tryz.func78 rfl (by rfl);(case hn=>(simp[Tryz.ntmps78];rfl))
 refine vF tr ?_
 (first | apply endW_r | apply endW_n);(case h1=>(simp[Tryz.results78];first | done | rfl))
 exact⟨by simp,HE.refl _⟩
theorem EngH.gset{h0 h:Hp Fm}{g pm:Nat}{ep sq ep' sq':Int}{xs:List Tr}{lv:AV}{lg:List Nat}(k:EngH h0 h g pm ep sq xs lv lg):EngH h0 { h with obj:=Mp.set h.obj g (.row [.ifc 25 (.ptr pm 0),.int .i64 ep',.int .i64 sq',lv]) } g pm ep' sq' xs lv lg:=by
 refine⟨by simp,k.ac,fun x hx=>?_,k.nd,k.ndg,k.gn,k.lo,k.log,k.he.set (k.lo g (by simp)) _⟩
 have pn:=k.p_ne hx
 exact(k.tr x hx).of (HX.set1 (h':=h) (S:=fun o=>o=g) rfl) (fun z=>pn.1 z) (fun z=>pn.2.1 z) (fun _ _ z=>z)
set_option maxHeartbeats 1000000 in
theorem tick_i{hz h:Hp Fm}{g pm:Nat}{bs:List Br}{σ:SS}{n:Nat}(k:OInv hz h g pm bs σ n) :
  A Tryz.prog TT (.func 50) [.ptr g 0] h (fun r h'=>∃e σ',r=.int .i64 e∧Went hz h h' g pm bs σ n σ'∧Moves σ σ'∧σ'.xs=σ.xs∧σ'.sq≤σ.sq):=by
 have sy:=k.sys
 have ke:=k.e1
 have ks:=k.s1
 have gr:=sy.eng.row
 have lc:=sy.eng.ac.sv.cells
 have li:=sy.eng.ac.sv.isCell
 apply A_go Tryz.func50 rfl (by rfl);(case hn=>(simp[Tryz.ntmps50];rfl))
 refine vF (cJ gr (cJ lc li)) ?_
 refine A.mono (conttx_ans h σ.xs σ.lv sy.eng.ac.sv sy.xl2 78 (by simp) [] (fun x=>decide (x.st=3)) (fun x hx h1 e1=>tick1_ans h1 x ((sy.eng.tr x hx).of (e1.x (fun _=>False) (fun _=>False)) (fun z=>z) (fun z=>z) (fun _ _ z=>z))) h (HE.refl h)) ?_
 rintro _ h1 ⟨rfl,e1⟩
 have k1:=k.he e1
 have gr1:=k1.sys.eng.row
 refine vP ?_
 cases qa:(σ.xs.any fun x=>decide (x.st=3))with
 | true=>
  refine vZ ?_
  (first | apply endW_r | apply endW_n);(case h1=>(simp[Tryz.results50];first | done | rfl))
  exact⟨24,σ,rfl,⟨k1,Fr.he e1⟩,Moves.refl σ,rfl,Int.le_refl _⟩
 | false=>
  by_cases q:10000≤σ.ep
  ·refine vF (cJ gr1 q) ?_
   (first | apply endW_r | apply endW_n);(case h1=>(simp[Tryz.results50];first | done | rfl))
   exact⟨27,σ,rfl,⟨k1,Fr.he e1⟩,Moves.refl σ,rfl,Int.le_refl _⟩
  ·have w1:IntKind.i64.wrap (σ.ep+1)=σ.ep+1:=wrap64 (by omega) (by omega)
   refine vNs7 (cJ gr1 (cJ q (cJ w1 (cJ lc li)))) ?_
   (first | apply endW_r | apply endW_n);(case h1=>(simp[Tryz.results50];first | done | rfl))
   have e:=(k1.sys.eng.gset (ep':=σ.ep+1) (sq':=σ.sq)).gset (ep':=σ.ep+1) (sq':=0)
   have hx1:HX (fun o=>o=g) (fun _=>False) h1 { h1 with obj:=Mp.set (Mp.set h1.obj g (.row [.ifc 25 (.ptr pm 0),.int .i64 (σ.ep+1),.int .i64 σ.sq,σ.lv])) g (.row [.ifc 25 (.ptr pm 0),.int .i64 (σ.ep+1),.int .i64 0,σ.lv]) }:=(HX.set1 (h':=h1) (S:=fun o=>o=g) rfl).set (fun _=>rfl) _
   have hx:HX (fun o=>o=g) (fun _=>False) h _:=⟨Nat.le_trans e1.no hx1.no,Nat.le_trans e1.ng hx1.ng,hx1.pol.trans e1.pol,fun o ho hs=>(hx1.obj o (Nat.lt_of_lt_of_le ho e1.no) hs).trans (e1.obj o ho),fun q hq hn=>(hx1.len q (Nat.lt_of_lt_of_le hq e1.ng) hn).trans (e1.len q hq)⟩
   have hle:LeE σ.ep σ.sq (σ.ep+1) 0:=.inl (by omega)
   refine⟨0,{ σ with ep:=σ.ep+1,sq:=0 },rfl,⟨⟨⟨sy.z0,sy.zg,e,sy.mem.of hx (fun o ho z=>sy.dis o ho (by rw[z];simp)),sy.dis,sy.ok,sy.cnt,sy.len,by rw[hx.pol];exact sy.pol,sy.tx,sy.xl⟩,⟨by show 1≤σ.ep+1;omega,by show σ.ep+1≤10000;omega⟩,⟨Int.le_refl _,by show(0:Int)≤100000;omega⟩,fun x hx=>(k.tx x hx).mono hle,k.lock,fun m hm v hv=>(k.mlow m hm v hv).trans hle,k.cnt,k.len,k.xl⟩,⟨hx.mono (fun o _ z=>.inl (by rw[z];simp)) (fun _ _ z=>z.elim),fun _ z=>.inl z,fun _ z=>.inl z,fun _ z=>.inl z⟩⟩,⟨hle,.inr ⟨rfl,fun i _ _=>.inl ⟨rfl,rfl⟩⟩⟩,rfl,k.s1.1⟩
theorem begin_i{hz h:Hp Fm}{g pm:Nat}{bs:List Br}{σ:SS}{n:Nat}(k:OInv hz h g pm bs σ n)(hn:n≤270) :
  A Tryz.prog TT (.func 10) [.ptr g 0,.int .i64 0] h (fun r h'=>∃id e σ',r=.tup [.int .i64 id,.int .i64 e]∧Went hz h h' g pm bs σ (n+1) σ'∧Moves σ σ'∧((e=6∧6≤cntG σ.xs∧σ'=σ)∨(e=0∧id=(σ.xs.length:Int)+1∧cntG σ.xs<6∧σ'.M=σ.M∧σ'.ep=σ.ep∧σ'.sq=σ.sq∧∃p m,σ'.xs=σ.xs++[newTr p m 0]))):=by
 have sy:=k.sys
 refine A.mono (begin_ans hz h g pm σ.ep σ.sq σ.xs σ.lv σ.lg sy.eng 0 sy.xl2 (by have:=sy.pol.txp;rw[sy.eng.he.pol]at this;exact this)) ?_
 rintro _ h' (⟨q6,rfl,e⟩ | ⟨q6,rfl,p,m,lv',lg',hp,hm,eng,hx,hlg⟩)
 ·exact⟨0,6,σ,rfl,⟨(k.he e).up (by omega),Fr.he e⟩,Moves.refl σ,.inl ⟨rfl,q6,rfl⟩⟩
 ·have eo:objsT (σ.xs++[newTr p m 0])=objsT σ.xs++[p,m]:=by simp[objsT,newTr]
  have eg:grpsT (σ.xs++[newTr p m 0])=grpsT σ.xs:=by simp[grpsT,newTr]
  have new:TxOk (newTr p m 0):=⟨rfl,by simp[newTr],by simp[newTr],by simp[newTr],by simp[newTr],by simp[newTr],fun k ps hl=>by simp[newTr,lookF]at hl,fun e he=>by simp[newTr]at he,by simp[newTr]⟩
  have Dp:∀o,σ.D o→¬o=g:=fun o ho z=>sy.dis o ho (by rw[z];simp)
  refine⟨_,0,{ σ with xs:=σ.xs++[newTr p m 0],lv:=lv',lg:=lg' },rfl,⟨⟨⟨sy.z0,sy.zg,eng,sy.mem.of hx Dp,fun o ho=>?_,sy.ok,sy.cnt,sy.len,by rw[hx.pol];exact sy.pol,fun x hx=>?_,?_⟩,k.e1,k.s1,fun x hx=>?_,fun i1 i2 hi1 hi2 hne h1 h2=>?_,k.mlow,by have:=k.cnt;show cntM σ.M≤3200*(n+1);omega,by have:=k.len;show σ.M.length≤40*(n+1);omega,?_⟩,⟨hx.mono (fun o _ z=>.inl (by rw[z];simp)) (fun q _ z=>List.mem_append_left _ z),fun o ho=>?_,fun q hq=>?_,fun _ z=>.inl z⟩⟩,⟨LeE.refl _ _,.inl ⟨_,rfl,rfl⟩⟩,.inr ⟨rfl,rfl,q6,rfl,rfl,rfl,p,m,rfl⟩⟩
  ·show o∉g::objsT (σ.xs++[newTr p m 0])
   rw[eo]
   intro z
   have:=sy.mem.lt o ho
   rw[←List.cons_append]at z
   rcases List.mem_append.mp z with z | z
   ·exact sy.dis o ho z
   ·simp only[List.mem_cons,List.not_mem_nil,or_false]at z
    omega
  ·rcases List.mem_append.mp hx with z | z
   ·exact sy.tx x z
   ·rw[List.mem_singleton.mp z];exact new
  ·show(σ.xs++[newTr p m 0]).length≤1000
   have:=k.xl
   rw[List.length_append,List.length_singleton];omega
  ·rcases List.mem_append.mp hx with z | z
   ·exact k.tx x z
   ·rw[List.mem_singleton.mp z]
    exact⟨by simp[newTr],fun k ps hl=>by simp[newTr,lookF]at hl,fun z=>by simp[newTr]at z,fun z=>by simp[newTr]at z⟩
  ·have old:∀i (hi:i<(σ.xs++[newTr p m 0]).length),held (σ.xs++[newTr p m 0])[i]→∃hi':i<σ.xs.length,(σ.xs++[newTr p m 0])[i]=σ.xs[i]:=fun i hi hh=>by
    by_cases q:i<σ.xs.length
    ·exact⟨q,List.getElem_append_left q⟩
    ·rw[List.getElem_append_right (by omega)]at hh
     simp[held,newTr]at hh
   obtain⟨a1,a2⟩:=old i1 hi1 h1
   obtain⟨b1,b2⟩:=old i2 hi2 h2
   change held (σ.xs++[newTr p m 0])[i1]at h1
   change held (σ.xs++[newTr p m 0])[i2]at h2
   show ∀kk∈keysX (σ.xs++[newTr p m 0])[i1],kk∉keysX (σ.xs++[newTr p m 0])[i2]
   rw[a2]at h1 ⊢
   rw[b2]at h2 ⊢
   exact k.lock i1 i2 a1 b1 hne h1 h2
  ·show(σ.xs++[newTr p m 0]).length≤n+1
   have:=k.xl
   rw[List.length_append,List.length_singleton];omega
  ·have ho:o∈objsT (σ.xs++[newTr p m 0]):=ho
   rw[eo]at ho
   rcases List.mem_append.mp ho with z | z
   ·exact .inl z
   ·simp only[List.mem_cons,List.not_mem_nil,or_false]at z
    rcases z with z | z
    ·exact .inr (by rw[z];exact hp)
    ·exact .inr (by rw[z];exact hm)
  ·have hq:q∈lg'++grpsT (σ.xs++[newTr p m 0]):=hq
   rw[eg]at hq
   rcases List.mem_append.mp hq with z | z
   ·rcases hlg q z with y | y
    ·exact .inl (List.mem_append_left _ y)
    ·exact .inr y
   ·exact .inl (List.mem_append_right _ z)
end Go.Vn
