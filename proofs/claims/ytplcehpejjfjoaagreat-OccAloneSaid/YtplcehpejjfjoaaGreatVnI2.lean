/- What functions of the program come to, in the value machine (a part of the proof of the claim's statement). No condition. -/
import Derived.Test.YtplcehpejjfjoaaGreatVnI1
set_option linter.unusedSimpArgs false
set_option linter.unusedVariables false
set_option maxRecDepth 20000
namespace Go.Vn
open Go.Proofs
abbrev Bs:Type:=List UInt8
structure St3 where
 b:Int
 e:Int
 s:Int
deriving Inhabited,DecidableEq
structure Tr where
 p:Nat
 m:Nat
 clk:Nat
 br:Int
 st:Int
 ops:Int
 at_:St3
 wr:Ents (List Pc)
 rd:List (Bs × St3)
 sc:List (Bs × Bs × List (Bs × St3))
 rg:List Nat
 sg:List Nat
deriving Inhabited
@[simp] def encSeen(s:Bs × St3):AV:=.agg [.str s.1,.int .i64 s.2.b,.int .i64 s.2.e,.int .i64 s.2.s]
def PcR(ps:List Pc)(v:AV):Prop:=SL 3 (ps.map encP) v
def ScR:List (Bs × Bs × List (Bs × St3))→List AV→Prop
 | [],[]=>True
 | s::ss,v::vs=>(∃lv,v=.agg [.str s.1,.str s.2.1,lv]∧SV 4 (s.2.2.map encSeen) lv)∧ScR ss vs
 | _,_=>False
def ACg(h:Hp Fm)(sz:Nat)(acc:List AV)(v:AV)(G:List Nat):Prop:=(v=.nils∧acc=[]∧G=[])∨∃g off cap,v=.sl g off sz cap acc∧Mp.get h.len g=some (off+acc.length)∧g<h.ng∧G=[g]
theorem ACg.sv{h:Hp Fm}{sz:Nat}{acc:List AV}{v:AV}{G:List Nat}(k:ACg h sz acc v G):SV sz acc v:=by
 rcases k with⟨a,b,_⟩ | ⟨g,off,cap,a,_⟩
 ·exact .inl ⟨a,b⟩
 ·exact .inr (.inl ⟨g,off,cap,a⟩)
theorem ACg.lt{h:Hp Fm}{sz:Nat}{acc:List AV}{v:AV}{G:List Nat}(k:ACg h sz acc v G):∀g∈G,g<h.ng:=by
 rcases k with⟨_,_,rfl⟩ | ⟨g,off,cap,_,_,b,rfl⟩
 ·intro g hg;cases hg
 ·intro g' hg;rw[List.mem_singleton.mp hg];exact b
theorem ACg.of{h h':Hp Fm}{sz:Nat}{acc:List AV}{v:AV}{G:List Nat}(k:ACg h sz acc v G)(hl:∀g∈G,Mp.get h'.len g=Mp.get h.len g)(hn:h.ng≤h'.ng):ACg h' sz acc v G:=by
 rcases k with k | ⟨g,off,cap,a,b,c,rfl⟩
 ·exact .inl k
 ·exact .inr ⟨g,off,cap,a,(hl g (by simp)).trans b,by omega,rfl⟩
theorem ACg.appN{P:Program}{t e sz by_:Nat}{ag:Bool}{z:AV}(et:ElT P t e sz by_ ag z){h:Hp Fm}{acc new:List AV}{v x:AV}{G:List Nat}
  (k:ACg h sz acc v G) (hp:h.pol e=false) (hx:newEls h sz ag x=some new) (hl:(acc.length+new.length)*by_≤2 ^ 40) :
  ∃r h',appendAV P h t t v x=some (r,h')∧∃G',ACg h' sz (acc++new) r G'∧(G'=G∨∃g,G'=[g]∧h.ng≤g)∧h'.obj=h.obj∧h'.no=h.no∧h'.pol=h.pol∧h.ng≤h'.ng∧∀g,g<h.ng→g∉G→Mp.get h'.len g=Mp.get h.len g:=by
 have hok:=et.ok
 have hd:¬(isIntD (.slice e)=true):=by simp[isIntD]
 have base:appendAV P h t t v x=appendTo h e sz by_ ag z v new:=by
  unfold appendAV
  simp only[et.u,if_neg hd,et.s,et.g,et.b,et.zz,hx,Option.bind_some,if_neg hok]
 rw[base]
 unfold appendTo
 by_cases hn:new.length=0
 ·have:new=[]:=List.length_eq_zero_iff.mp hn
  subst this
  refine⟨v,h,?_,G,by simpa using k,.inl rfl,rfl,rfl,rfl,Nat.le_refl _,fun _ _ _=>rfl⟩
  rcases k with⟨rfl,rfl,_⟩ | ⟨g,off,cap,rfl,hf,hg,_⟩
  ·simp
  ·simp
 ·have hn':new≠[]:=fun z=>hn (by simp[z])
  rcases k with⟨rfl,rfl,rfl⟩ | ⟨g,off,cap,rfl,hf,hg,rfl⟩
  ·have hl':new.length*by_≤1099511627776:=by simpa using hl
   refine⟨_,_,by simp[newSeq,hp,Hp.drew,newSl,hl',hn'];exact⟨rfl,rfl⟩,[h.ng],?_,.inr ⟨_,rfl,Nat.le_refl _⟩,?_,?_,?_,?_,fun g hg _=>?_⟩
   ·exact .inr ⟨h.ng,0,_,rfl,by simp[Mp.get_set,Hp.drew],by simp[Hp.drew],rfl⟩
   ·rfl
   ·rfl
   ·rfl
   ·exact Nat.le_succ _
   ·simp[Hp.drew,show g≠h.ng by omega]
  ·have hl':(acc.length+new.length)*by_≤1099511627776:=by simpa using hl
   by_cases hc:cap<acc.length+new.length
   ·refine⟨_,_,by simp[newSeq,hp,Hp.drew,newSl,hl',hn',hc];exact⟨rfl,rfl⟩,[h.ng],?_,.inr ⟨_,rfl,Nat.le_refl _⟩,?_,?_,?_,?_,fun g hg _=>?_⟩
    ·exact .inr ⟨h.ng,0,_,rfl,by simp[Mp.get_set,Hp.drew],by simp[Hp.drew],rfl⟩
    ·rfl
    ·rfl
    ·rfl
    ·exact Nat.le_succ _
    ·simp[Hp.drew,show g≠h.ng by omega]
   ·refine⟨_,_,by simp[hf,hl',hn',hc];exact⟨rfl,rfl⟩,[g],?_,.inl rfl,?_,?_,?_,?_,fun g' hg' hne=>?_⟩
    ·exact .inr ⟨g,off,cap,rfl,by simp[Mp.get_set];omega,hg,rfl⟩
    ·rfl
    ·rfl
    ·rfl
    ·exact Nat.le_refl _
    ·simp[show g'≠g by simpa using hne]
theorem ACg.app{P:Program}{t e sz by_:Nat}{ag:Bool}{z:AV}(et:ElT P t e sz by_ ag z){h:Hp Fm}{acc:List AV}{v x:AV}{G:List Nat}{g' o' c':Nat}
  (k:ACg h sz acc v G) (hp:h.pol e=false) (hl:(acc.length+1)*by_≤2 ^ 40) :
  ∃r h',appendAV P h t t v (.sl g' o' sz c' [x])=some (r,h')∧∃G',ACg h' sz (acc++[x]) r G'∧(G'=G∨∃g,G'=[g]∧h.ng≤g)∧h'.obj=h.obj∧h'.no=h.no∧h'.pol=h.pol∧h.ng≤h'.ng∧∀g,g<h.ng→g∉G→Mp.get h'.len g=Mp.get h.len g:=
 ACg.appN et k hp (SV.newEls (.inr (.inl ⟨g',o',c',rfl⟩))) (by simpa using hl)
structure TrH(h:Hp Fm)(x:Tr)(es:List (AV × AV × Nat))(rdv scv:AV)(sls:List AV):Prop where
 row:Mp.get h.obj x.p=some (.row [.int .i64 x.br,.int .i64 x.st,.int .i64 x.ops,.int .i64 x.at_.b,.int .i64 x.at_.e,.int .i64 x.at_.s,.mp x.m,rdv,scv])
 map:Mp.get h.obj x.m=some (.mp es x.clk)
 en:EntsR PcR x.wr es
 born:Born x.clk x.wr
 rd:ACg h 4 (x.rd.map encSeen) rdv x.rg
 sc:ACg h 3 sls scv x.sg
 scr:ScR x.sc sls
 pn:x.p<h.no
 mn:x.m<h.no
def TrI(h:Hp Fm)(x:Tr):Prop:=∃es rdv scv sls,TrH h x es rdv scv sls
theorem TrI.of{h h':Hp Fm}{x:Tr}{S G:Nat→Prop}(k:TrI h x)(hx:HX S G h h')(hp:¬S x.p)(hm:¬S x.m)(hg:∀g∈x.rg++x.sg,¬G g):TrI h' x:=by
 obtain⟨es,rdv,scv,sls,a,b,c,d,e,f,g,i,j⟩:=k
 exact⟨es,rdv,scv,sls,(hx.obj _ i hp).trans a,(hx.obj _ j hm).trans b,c,d,e.of (fun g hgg=>hx.len g (e.lt g hgg) (hg g (by simp[hgg]))) hx.ng,f.of (fun g hgg=>hx.len g (f.lt g hgg) (hg g (by simp[hgg]))) hx.ng,g,Nat.lt_of_lt_of_le i hx.no,Nat.lt_of_lt_of_le j hx.no⟩
theorem TrI.glt{h:Hp Fm}{x:Tr}(k:TrI h x):∀g∈x.rg++x.sg,g<h.ng:=by
 obtain⟨es,rdv,scv,sls,T⟩:=k
 intro g hg
 rcases List.mem_append.mp hg with hg | hg
 ·exact T.rd.lt g hg
 ·exact T.sc.lt g hg
def objsT(xs:List Tr):List Nat:=xs.flatMap fun x=>[x.p,x.m]
def grpsT(xs:List Tr):List Nat:=xs.flatMap fun x=>x.rg++x.sg
structure EngH(h0 h:Hp Fm)(g pm:Nat)(ep sq:Int)(xs:List Tr)(lv:AV)(lg:List Nat):Prop where
 row:Mp.get h.obj g=some (.row [.ifc 25 (.ptr pm 0),.int .i64 ep,.int .i64 sq,lv])
 ac:ACg h 1 (xs.map fun x=>.ptr x.p 0) lv lg
 tr:∀x∈xs,TrI h x
 nd:(g::objsT xs).Nodup
 ndg:(lg++grpsT xs).Nodup
 gn:g<h.no
 lo:∀o∈g::objsT xs,h0.no≤o
 log:∀q∈lg++grpsT xs,h0.ng≤q
 he:HE h0 h
theorem objsT_mem{xs:List Tr}{x:Tr}(h:x∈xs):x.p∈objsT xs∧x.m∈objsT xs:=by
 unfold objsT
 constructor <;> exact List.mem_flatMap.mpr ⟨x,h,by simp⟩
theorem grpsT_mem{xs:List Tr}{x:Tr}(h:x∈xs){g:Nat}(hg:g∈x.rg++x.sg):g∈grpsT xs:=List.mem_flatMap.mpr ⟨x,h,hg⟩
section
variable {h0 h:Hp Fm} {g pm:Nat} {ep sq:Int} {xs:List Tr} {lv:AV} {lg:List Nat}
theorem EngH.p_ne(k:EngH h0 h g pm ep sq xs lv lg){x:Tr}(hx:x∈xs):x.p≠g∧x.m≠g∧x.p≠x.m:=by
 have nd:=k.nd
 rw[List.nodup_cons]at nd
 obtain⟨a,b⟩:=objsT_mem hx
 refine⟨fun e=>nd.1 (e▸a),fun e=>nd.1 (e▸b),fun e=>?_⟩
 obtain⟨l1,l2,rfl⟩:=List.append_of_mem hx
 have h2:=nd.2
 simp only[objsT,List.flatMap_append,List.flatMap_cons]at h2
 have h3:=(List.nodup_append.mp h2).2.1
 simp[e]at h3
theorem EngH.g_ne(k:EngH h0 h g pm ep sq xs lv lg){x:Tr}(hx:x∈xs):∀q∈x.rg++x.sg,q∉lg:=fun q hq hl=>
 (List.nodup_append.mp k.ndg).2.2 q hl q (grpsT_mem hx hq) rfl
theorem EngH.of{h':Hp Fm}(k:EngH h0 h g pm ep sq xs lv lg)(he:HE h h'):EngH h0 h' g pm ep sq xs lv lg:=
 ⟨(he.obj _ k.gn).trans k.row,k.ac.of (fun g hg=>he.len g (k.ac.lt g hg)) he.ng,fun x hx=>(k.tr x hx).of (he.x (fun _=>False) (fun _=>False)) (fun z=>z) (fun z=>z) (fun _ _ z=>z),k.nd,k.ndg,Nat.lt_of_lt_of_le k.gn he.no,k.lo,k.log,k.he.trans he⟩
end
def stOf(xs:List Tr)(i:Int):Int:=if 1≤i∧i≤xs.length then(xs.getD (i-1).toNat default).st else 0
def atOf(xs:List Tr)(i:Int):St3:=if 1≤i∧i≤xs.length then(xs.getD (i-1).toNat default).at_ else⟨0,0,0⟩
theorem tx_at{h0 h:Hp Fm}{g pm:Nat}{ep sq:Int}{xs:List Tr}{lv:AV}{lg:List Nat}(k:EngH h0 h g pm ep sq xs lv lg){i:Nat}(hi:i<xs.length):indexAddrAV Tryz.prog 76 lv (.int .i64 (i:Int))=some (.el (.ptr (xs[i]).p 0) 0):=by
 have:=k.ac.sv.idx (k:=.i64) (i:=(i:Int)) Tryz.underlying76 z84 (by omega) (by rw[List.length_map];omega)
 rw[this];simp
def going(x:Tr):Bool:=decide (x.st<4)
theorem going_ans(h:Hp Fm)(x:Tr)(T:TrI h x):A Tryz.prog TT (.func 29) [.ptr x.p 0] h (fun r h'=>r=.bool (going x)∧h'=h):=by
 obtain⟨es,rdv,scv,sls,T⟩:=T
 have tr:=T.row
 apply A_go Tryz.func29 rfl (by rfl);(case hn=>(simp[Tryz.ntmps29];rfl))
 refine vF tr ?_
 (first | apply endW_r | apply endW_n);(case h1=>(simp[Tryz.results29];first | done | rfl))
 exact⟨rfl,rfl⟩
theorem etTx:ElT Tryz.prog 76 84 1 8 false .nilp:=⟨Tryz.underlying76,z84,b84,a84,t84,rfl,rfl,fun _=>rfl,by omega,by omega⟩
def cntG(xs:List Tr):Nat:=(xs.filter going).length
theorem cntG_succ{xs:List Tr}{i:Nat}(hi:i<xs.length):cntG (xs.take (i+1))=cntG (xs.take i)+(if going xs[i]then 1 else 0):=by
 unfold cntG
 rw[List.take_succ_eq_append_getElem hi,List.filter_append,List.length_append]
 cases hg:going xs[i] <;> simp[hg,List.filter]
theorem cntG_le(xs:List Tr):cntG xs≤xs.length:=List.length_filter_le _ _
def newTr(p m:Nat)(b:Int):Tr:=⟨p,m,0,b,1,0,⟨0,0,0⟩,[],[],[],[],[]⟩
theorem vJb68{F G K:Prop}(f:F)(k:K)(h:F→K→G:=by intro f k;(repeat(first|with_reducible first|refine vmR ?_|refine vmV rfl ?_|refine vmW rfl ?_|refine vmL ?_|refine blockW_y (by decide) ?_|((with_reducible first|apply vmO|apply vmT|apply vmC);case a=>simp[f,makeMapAV,newSeq,newSl];with_reducible first|exact .v|exact .c|exact .t|exact .f)));exact k):G:=h f k
set_option maxHeartbeats 2000000 in
theorem begin_ans(h0 h:Hp Fm)(g pm:Nat)(ep sq:Int)(xs:List Tr)(lv:AV)(lg:List Nat)(k:EngH h0 h g pm ep sq xs lv lg)(b:Int)(hxl:xs.length≤1000000)(hp:h0.pol 84=false) :
  A Tryz.prog TT (.func 10) [.ptr g 0,.int .i64 b] h (fun r h'=>(6≤cntG xs∧r=.tup [.int .i64 0,.int .i64 6]∧HE h h') ∨
   (cntG xs<6∧r=.tup [.int .i64 (xs.length+1),.int .i64 0]∧∃p m lv' lg',h.no≤p∧h.no≤m∧EngH h0 h' g pm ep sq (xs++[newTr p m b]) lv' lg'∧HX (fun o=>o=g) (fun q=>q∈lg) h h'∧∀q∈lg',q∈lg∨h.ng≤q)):=by
 have gr:=k.row
 have ll:=k.ac.sv.len Tryz.underlying76
 rw[List.length_map]at ll
 have ln:=k.ac.sv.nm
 have lc:=k.ac.sv.cells
 have li:=k.ac.sv.isCell
 have cl:=cntG_le xs
 apply A_go Tryz.func10 rfl (by rfl);(case hn=>(simp[Tryz.ntmps10];rfl))
 refine vF (cJ gr (cJ ll (cJ ln (cJ lc li)))) ?_
 refine W.mono (R:=fun e s=>e=.exit 0∧∃(t:Fm AV),s=⟨t,43,h,none⟩∧tget t 0=.ptr g 0∧tget t 1=.int .i64 b∧tget t 6=.int .i64 (cntG xs)) ?_ ?_
 ·refine W_loop (fun z s=>∃(t:Fm AV) (i:Nat),s=⟨t,43,h,none⟩∧z=xs.length-i∧i≤xs.length∧tget t 0=.ptr g 0∧tget t 1=.int .i64 b∧tget t 6=.int .i64 (cntG (xs.take i))∧tget t 12=lv∧tget t 13=.int .i64 xs.length∧tget t 14=.int .i64 i) xs.length
   ⟨_,0,rfl,rfl,by omega,by simp,by simp,by simp[cntG],by simp,by simp,by simp⟩ ?_
  rintro _ _ ⟨t,i,rfl,rfl,hi,t0,t1,t6,t12,t13,t14⟩
  by_cases q:i<xs.length
  case neg=>
   have q':¬((i:Int)<xs.length):=by omega
   refine vF (cJ t0 (cJ t12 (cJ t13 (cJ t14 (cJ q q'))))) ?_
   rw[List.take_of_length_le (by omega)]at t6
   exact⟨rfl,_,rfl,by simp[t0],by simp[t1],by simp[t6]⟩
  have q':(i:Int)<xs.length:=by omega
  obtain⟨x,hx⟩:∃x,x=xs[i]:=⟨_,rfl⟩
  have ix:=tx_at k q
  rw[←hx]at ix
  obtain⟨ip,hip⟩:∃ip,ip=i+1:=⟨_,rfl⟩
  have wip:IntKind.i64.wrap ((i:Int)+1)=(ip:Int):=by rw[wrap64 (by omega) (by omega)];omega
  obtain⟨n,hn⟩:∃n,n=cntG (xs.take i):=⟨_,rfl⟩
  have hnl:=cntG_le (xs.take i)
  rw[List.length_take]at hnl
  have cs:=cntG_succ q
  rw[←hip,←hx,←hn]at cs
  rw[←hn]at t6 hnl
  obtain⟨n1,hn1⟩:∃n1,n1=n+1:=⟨_,rfl⟩
  have wn:IntKind.i64.wrap ((n:Int)+1)=(n1:Int):=by rw[wrap64 (by omega) (by omega)];omega
  refine vF (cJ t0 (cJ t12 (cJ t13 (cJ t14 (cJ q (cJ q' (cJ ix (cJ lc li)))))))) ?_
  refine A.mono (going_ans h x (k.tr x (by rw[hx];exact List.getElem_mem _))) ?_
  rintro _ hh ⟨rfl,ehh⟩
  rw[ehh]
  clear ehh hh
  refine vP ?_
  cases hg:going x with
  | true=>
   rw[hg]at cs
   refine vF (cJ t6 (cJ t14 (cJ wip wn))) ?_
   exact⟨xs.length-ip,by omega,_,ip,rfl,rfl,by omega,by simp[t0],by simp[t1],by simp[cs,hn1],by simp[t12],by simp[t13],by simp⟩
  | false=>
   rw[hg]at cs
   refine vF (cJ t6 (cJ t14 wip)) ?_
   exact⟨xs.length-ip,by omega,_,ip,rfl,rfl,by omega,by simp[t0],by simp[t1],by simp[cs,t6],by simp[t12],by simp[t13],by simp⟩
 rintro e s ⟨rfl,t,rfl,t0,t1,t6⟩
 by_cases q6:6≤cntG xs
 ·have q6':(6:Int)≤cntG xs:=by omega
  refine vF (cJ t0 (cJ t6 (cJ q6 q6'))) ?_
  (first | apply endW_r | apply endW_n);(case h1=>(simp[Tryz.results10];first | done | rfl))
  exact .inl ⟨q6,rfl,HE.refl _⟩
 have q6':¬(6:Int)≤cntG xs:=by omega
 have hph:h.pol 84=false:=by rw[k.he.pol];exact hp
 have gn:=k.gn
 have z1:g≠h.no:=by omega
 have z2:g≠h.no+1:=by omega
 refine vJb68 (cJ t0 (cJ t1 (cJ t6 (cJ q6 (cJ q6' (cJ gr (cJ ll (cJ ln (cJ lc (cJ li (cJ hph (cJ z1 z2)))))))))))) ?_
 refine WO_heap ?_
 intro hA hhA
 have eA:HE h hA:=by rw[hhA];exact(((HE.refl h).new _).new _).newSl 1
 have gp:Mp.get hA.obj (h.no+1)=some (.row [.int .i64 b,.int .i64 1,.int .i64 0,.int .i64 0,.int .i64 0,.int .i64 0,.mp h.no,.nils,.nils]):=by rw[hhA];simp
 have gm:Mp.get hA.obj h.no=some (.mp [] 0):=by rw[hhA];simp[show h.no≠h.no+1 by omega]
 have An:hA.no=h.no+2:=by rw[hhA]
 clear hhA
 have grA:=(eA.obj _ gn).trans gr
 with_reducible apply WO_app_i;(case hw=>(simp[t0,lc,li];done));(case ho=>rfl);(case hb=>rfl);(case ha=>(simp[t0,lc,li];first | done | exact⟨rfl,rfl⟩ | rfl));(case h1=>(simp;first | done | rfl));(case h2=>(simp;first | done | rfl))
 refine app_then (ACg.app etTx (k.ac.of (fun q hq=>eA.len q (k.ac.lt q hq)) eA.ng) (by rw[eA.pol];exact hph) (by rw[List.length_map];omega)) ?_
 rintro lv' hB ⟨lg',ac',hG,hoB,hnB,hpB,hgB,hlB⟩
 have c':=ac'.sv.cells
 have i':=ac'.sv.isCell
 have n':=ac'.sv.nm
 have l':=ac'.sv.len Tryz.underlying76
 rw[List.length_append,List.length_map,List.length_singleton]at l'
 have grB:=grA
 rw[←hoB]at grB
 refine vP ?_
 obtain⟨L,hL⟩:∃L,L=xs.length+1:=⟨_,rfl⟩
 rw[←hL]at l'
 refine vF (cJ t0 (cJ grB (cJ c' (cJ i' (cJ n' l'))))) ?_
 (first | apply endW_r | apply endW_n);(case h1=>(simp[Tryz.results10];first | done | rfl))
 have hBn:hB.no=h.no+2:=hnB.trans An
 have hBg:h.ng≤hB.ng:=Nat.le_trans eA.ng hgB
 have xB:HX (fun o=>o=g) (fun q=>q∈lg) h { hB with obj:=Mp.set hB.obj g (.row [.ifc 25 (.ptr pm 0),.int .i64 ep,.int .i64 sq,lv']) }:=by
  refine⟨by show h.no≤hB.no;omega,hBg,by show hB.pol=h.pol;rw[hpB,eA.pol],fun o ho hg=>?_,fun q hq hn=>?_⟩
  ·have e1:=eA.obj o ho
   rw[←hoB]at e1
   simp only[Mp.get_set,if_neg hg]
   exact e1
  ·exact(hlB q (Nat.lt_of_lt_of_le hq eA.ng) hn).trans (eA.len q hq)
 have hlg:∀q∈lg',q∈lg∨h.ng≤q:=fun q hq=>by
  rcases hG with rfl | ⟨g1,rfl,h1⟩
  ·exact .inl hq
  ·rw[List.mem_singleton.mp hq];exact .inr (Nat.le_trans eA.ng h1)
 have eo:objsT (xs++[newTr (h.no+1) h.no b])=objsT xs++[h.no+1,h.no]:=by simp[objsT,newTr]
 have eg:grpsT (xs++[newTr (h.no+1) h.no b])=grpsT xs:=by simp[grpsT,newTr]
 have olt:∀o∈g::objsT xs,o<h.no:=fun o ho=>by
  rcases List.mem_cons.mp ho with rfl | ho
  ·exact gn
  ·obtain⟨x,hx,ho⟩:=List.mem_flatMap.mp ho
   obtain⟨es,rdv,scv,sls,T⟩:=k.tr x hx
   simp only[List.mem_cons,List.not_mem_nil,or_false]at ho
   rcases ho with rfl | rfl
   ·exact T.pn
   ·exact T.mn
 have glt:∀q∈grpsT xs,q<h.ng:=fun q hq=>by
  obtain⟨x,hx,hq⟩:=List.mem_flatMap.mp hq
  exact(k.tr x hx).glt q hq
 have heE:HE h0 { hB with obj:=Mp.set hB.obj g (.row [.ifc 25 (.ptr pm 0),.int .i64 ep,.int .i64 sq,lv']) }:=k.he.x2 xB (fun o ho=>by rw[ho];exact k.lo g (by simp)) (fun q hq=>k.log q (by simp[hq]))
 refine .inr ⟨by omega,by rw[hL];simp,h.no+1,h.no,lv',lg',by omega,Nat.le_refl _,⟨by simp,?_,?_,?_,?_,?_,?_,?_,heE⟩,xB,hlg⟩
 ·have:(xs++[newTr (h.no+1) h.no b]).map (fun x:Tr=>AV.ptr x.p 0)=xs.map (fun x=>.ptr x.p 0)++[.ptr (h.no+1) 0]:=by simp[newTr]
  rw[this];exact ac'
 ·intro x hx
  rcases List.mem_append.mp hx with hx | hx
  ·have kx:=k.p_ne hx
   exact(k.tr x hx).of xB kx.1 kx.2.1 (k.g_ne hx)
  ·rw[List.mem_singleton.mp hx]
   refine⟨[],.nils,.nils,[],⟨?_,?_,trivial,⟨by simp[newTr],by simp[newTr]⟩,.inl ⟨rfl,rfl,rfl⟩,.inl ⟨rfl,rfl,rfl⟩,trivial,?_,?_⟩⟩
   ·show Mp.get (Mp.set hB.obj g _) (h.no+1)=_
    rw[Mp.get_set,if_neg (by omega),hoB];exact gp
   ·show Mp.get (Mp.set hB.obj g _) h.no=_
    rw[Mp.get_set,if_neg (by omega),hoB];exact gm
   ·show h.no+1<hB.no;omega
   ·show h.no<hB.no;omega
 ·rw[eo,←List.cons_append,List.nodup_append]
  refine⟨k.nd,by simp,fun o ho o' ho' e=>?_⟩
  have:=olt o ho
  simp only[List.mem_cons,List.not_mem_nil,or_false]at ho'
  omega
 ·rw[eg]
  have kn:=List.nodup_append.mp k.ndg
  refine List.nodup_append.mpr ⟨?_,kn.2.1,fun q hq q' hq' e=>?_⟩
  ·rcases hG with rfl | ⟨g1,rfl,_⟩
   ·exact kn.1
   ·simp
  ·subst e
   rcases hlg q hq with z | z
   ·exact kn.2.2 q z q hq' rfl
   ·have:=glt q hq';omega
 ·show g<hB.no;omega
 ·intro o ho
  rw[eo,←List.cons_append]at ho
  rcases List.mem_append.mp ho with ho | ho
  ·exact k.lo o ho
  ·have:=k.he.no
   simp only[List.mem_cons,List.not_mem_nil,or_false]at ho
   omega
 ·intro q hq
  rw[eg]at hq
  rcases List.mem_append.mp hq with hq | hq
  ·rcases hlg q hq with z | z
   ·exact k.log q (by simp[z])
   ·exact Nat.le_trans k.he.ng z
  ·exact k.log q (by simp[hq])
end Go.Vn

set_option maxRecDepth 20000
namespace Go.Vn
open Go.Proofs
set_option maxHeartbeats 1000000 in
theorem conttx_ans(hb:Hp Fm)(xs:List Tr)(lv:AV)(sv:SV 1 (xs.map fun x=>.ptr x.p 0) lv)(hxl:xs.length≤1000000)(F:Nat)(hF:hasBody Tryz.prog F=true)(caps:List AV)(q:Tr→Bool)
  (hf:∀x∈xs,∀h,HE hb h→A Tryz.prog TT (.func F) (.ptr x.p 0::caps) h (fun r h'=>r=.bool (q x)∧HE h h')) (h0:Hp Fm) (e0:HE hb h0) :
  A Tryz.prog TT (.func 35) [lv,.fn (.func F) [] caps] h0 (fun r h'=>r=.bool (xs.any q)∧HE h0 h'):=by
 have ll:=sv.len Tryz.underlying76
 rw[List.length_map]at ll
 have ln:=sv.nm
 have lc:=sv.cells
 have li:=sv.isCell
 have idx:A Tryz.prog TT (.func 67) [lv,.fn (.func F) [] caps] h0 (fun r h'=>(∃n:Int,r=.int .i64 n∧((0≤n)↔xs.any q=true))∧HE h0 h'):=by
  apply A_go Tryz.func67 rfl (by rfl);(case hn=>(simp[Tryz.ntmps67];rfl))
  refine vF (cJ ll (cJ ln (cJ lc li))) ?_
  refine W_loop (fun z s=>∃(t:Fm AV) (h:Hp Fm) (i:Nat),s=⟨t,19,h,none⟩∧z=xs.length-i∧i≤xs.length∧(xs.take i).any q=false∧tget t 0=lv∧tget t 1=.fn (.func F) [] caps∧tget t 7=.int .i64 xs.length∧tget t 8=.int .i64 i∧HE h0 h) xs.length
   ⟨_,_,0,rfl,rfl,by omega,by simp,by simp,by simp,by simp,by simp,HE.refl _⟩ ?_
  rintro _ _ ⟨t,h,i,rfl,rfl,hi,hn,t0,t1,t7,t8,e1⟩
  by_cases qi:i<xs.length
  case neg=>
   have qi':¬((i:Int)<xs.length):=by omega
   refine vF (cJ t0 (cJ t1 (cJ t7 (cJ t8 (cJ qi qi'))))) ?_
   (first | apply endW_r | apply endW_n);(case h1=>(simp[Tryz.results67];first | done | rfl))
   rw[List.take_of_length_le (by omega)]at hn
   exact⟨⟨-1,rfl,by rw[hn];simp⟩,e1⟩
  have qi':(i:Int)<xs.length:=by omega
  obtain⟨x,hx⟩:∃x,x=xs[i]:=⟨_,rfl⟩
  have ix:=sv.idx (k:=.i64) (i:=(i:Int)) Tryz.underlying76 z84 (by omega) (by rw[List.length_map];omega)
  replace ix:indexAddrAV Tryz.prog 76 lv (.int .i64 (i:Int))=some (.el (.ptr x.p 0) 0):=by rw[ix];simp[hx]
  obtain⟨ip,hip⟩:∃ip,ip=i+1:=⟨_,rfl⟩
  have wip:IntKind.i64.wrap ((i:Int)+1)=(ip:Int):=by rw[wrap64 (by omega) (by omega)];omega
  have hmem:x∈xs:=by rw[hx];exact List.getElem_mem _
  refine vF (cJ t0 (cJ t1 (cJ t7 (cJ t8 (cJ qi (cJ qi' (cJ ix (cJ lc (cJ li hF))))))))) ?_
  refine A.mono (hf x hmem h (e0.trans e1)) ?_
  rintro _ h2 ⟨rfl,e2⟩
  refine vP ?_
  cases hq:q x with
  | true=>
   refine vF t0 ?_
   (first | apply endW_r | apply endW_n);(case h1=>(simp[Tryz.results67];first | done | rfl))
   refine⟨⟨(i:Int),rfl,?_⟩,e1.trans e2⟩
   constructor
   ·intro _;exact List.any_eq_true.mpr ⟨x,hmem,hq⟩
   ·intro _;omega
  | false=>
   refine vF (cJ t8 wip) ?_
   refine⟨xs.length-ip,by omega,_,_,ip,rfl,rfl,by omega,?_,by simp[t0],by simp[t1],by simp[t7],by simp,e1.trans e2⟩
   rw[hip,List.take_succ_eq_append_getElem qi,List.any_append,hn,←hx]
   simp[hq]
 apply A_go Tryz.func35 rfl (by rfl);(case hn=>(simp[Tryz.ntmps35];rfl))
 refine vF (cJ lc li) ?_
 refine A.mono idx ?_
 rintro _ h2 ⟨⟨n,rfl,hn⟩,e2⟩
 refine vP ?_
 refine vZ ?_
 (first | apply endW_r | apply endW_n);(case h1=>(simp[Tryz.results35];first | done | rfl))
 refine⟨?_,e2⟩
 congr 1
 rw[Bool.eq_iff_iff,←hn];simp
theorem flatB_str(l:List Bs):(l.map AV.str).flatMap AV.cells=l.map AV.str:=by
 induction l with
 | nil=>rfl
 | cons a l ih=>simp[AV.cells]at ih ⊢;exact ih
set_option maxHeartbeats 1000000 in
theorem conts_ans(hb:Hp Fm)(xs:List Bs)(lo:Nat)(lv:AV)(F:Nat)(hF:hasBody Tryz.prog F=true)(caps:List AV)(q:Bs→Bool)(hxl:xs.length≤1000000)
  (hf:∀x∈xs,∀h,HE hb h→A Tryz.prog TT (.func F) (.str x::caps) h (fun r h'=>r=.bool (q x)∧HE h h')) (h0:Hp Fm) (e0:HE hb h0) (rs:RS lo h0 1 false (xs.map .str) lv) :
  A Tryz.prog TT (.func 58) [lv,.fn (.func F) [] caps] h0 (fun r h'=>r=.bool (xs.any q)∧HE h0 h'):=by
 have ll:=rs.len Tryz.underlying113
 rw[List.length_map]at ll
 have ln:=rs.nm
 have lc:=rs.cells
 have li:=rs.isCell
 have idx:A Tryz.prog TT (.func 85) [lv,.fn (.func F) [] caps] h0 (fun r h'=>(∃n:Int,r=.int .i64 n∧((0≤n)↔xs.any q=true))∧HE h0 h'):=by
  apply A_go Tryz.func85 rfl (by rfl);(case hn=>(simp[Tryz.ntmps85];rfl))
  refine vF (cJ ll (cJ ln (cJ lc li))) ?_
  refine W_loop (fun z s=>∃(t:Fm AV) (h:Hp Fm) (i:Nat),s=⟨t,19,h,none⟩∧z=xs.length-i∧i≤xs.length∧(xs.take i).any q=false∧tget t 0=lv∧tget t 1=.fn (.func F) [] caps∧tget t 7=.int .i64 xs.length∧tget t 8=.int .i64 i∧HE h0 h) xs.length
   ⟨_,_,0,rfl,rfl,by omega,by simp,by simp,by simp,by simp,by simp,HE.refl _⟩ ?_
  rintro _ _ ⟨t,h,i,rfl,rfl,hi,hn,t0,t1,t7,t8,e1⟩
  by_cases qi:i<xs.length
  case neg=>
   have qi':¬((i:Int)<xs.length):=by omega
   refine vF (cJ t0 (cJ t1 (cJ t7 (cJ t8 (cJ qi qi'))))) ?_
   (first | apply endW_r | apply endW_n);(case h1=>(simp[Tryz.results85];first | done | rfl))
   rw[List.take_of_length_le (by omega)]at hn
   exact⟨⟨-1,rfl,by rw[hn];simp⟩,e1⟩
  have qi':(i:Int)<xs.length:=by omega
  obtain⟨x,hx⟩:∃x,x=xs[i]:=⟨_,rfl⟩
  obtain⟨ro,cap,rfl⟩:∃ro cap,lv=.rs ro 0 1 false xs.length cap:=by
   rcases rs with⟨_,z⟩ | ⟨o,cap,z,_⟩
   ·have:xs=[]:=by simpa using z
    subst this;simp at qi
   ·exact⟨o,cap,by rw[z,List.length_map]⟩
  have ix:indexAddrAV Tryz.prog 113 (.rs ro 0 1 false xs.length cap) (.int .i64 (i:Int))=some (.ptr ro i):=by
   rw[index_rs Tryz.underlying113 z9 (by omega) (by omega),Int.toNat_natCast,Nat.mul_one]
  obtain⟨J,gJ⟩:∃J,Mp.get h.obj ro=some (.row (xs.map AV.str++J)):=by
   rcases RS.he rs e1 with⟨z,_⟩ | ⟨o,cap',z,_,⟨J,h2,_⟩,_⟩
   ·cases z
   ·injection z with z
    subst z
    rw[flatB_str]at h2
    exact⟨J,h2⟩
  have pa:partAV false 1 (xs.map AV.str++J) i=some (.str x):=by
   simp only[partAV]
   rw[List.getElem?_append_left (by rw[List.length_map];exact qi),List.getElem?_map,List.getElem?_eq_getElem qi,hx];rfl
  obtain⟨ip,hip⟩:∃ip,ip=i+1:=⟨_,rfl⟩
  have wip:IntKind.i64.wrap ((i:Int)+1)=(ip:Int):=by rw[wrap64 (by omega) (by omega)];omega
  have hmem:x∈xs:=by rw[hx];exact List.getElem_mem _
  refine vF (cJ t0 (cJ t1 (cJ t7 (cJ t8 (cJ qi (cJ qi' (cJ ix (cJ lc (cJ li (cJ hF (cJ gJ pa))))))))))) ?_
  refine A.mono (hf x hmem h (e0.trans e1)) ?_
  rintro _ h2 ⟨rfl,e2⟩
  refine vP ?_
  cases hq:q x with
  | true=>
   refine vF t0 ?_
   (first | apply endW_r | apply endW_n);(case h1=>(simp[Tryz.results85];first | done | rfl))
   refine⟨⟨(i:Int),rfl,?_⟩,e1.trans e2⟩
   constructor
   ·intro _;exact List.any_eq_true.mpr ⟨x,hmem,hq⟩
   ·intro _;omega
  | false=>
   refine vF (cJ t8 wip) ?_
   refine⟨xs.length-ip,by omega,_,_,ip,rfl,rfl,by omega,?_,by simp[t0],by simp[t1],by simp[t7],by simp,e1.trans e2⟩
   rw[hip,List.take_succ_eq_append_getElem qi,List.any_append,hn,←hx]
   simp[hq]
 apply A_go Tryz.func58 rfl (by rfl);(case hn=>(simp[Tryz.ntmps58];rfl))
 refine vF (cJ lc li) ?_
 refine A.mono idx ?_
 rintro _ h2 ⟨⟨n,rfl,hn⟩,e2⟩
 refine vP ?_
 refine vZ ?_
 (first | apply endW_r | apply endW_n);(case h1=>(simp[Tryz.results58];first | done | rfl))
 refine⟨?_,e2⟩
 congr 1
 rw[Bool.eq_iff_iff,←hn];simp
def kstr(e:AV × AV × Nat):Bs:=match e.1 with | .str s=>s | _=>[]
theorem ents_keys{R:List Pc→AV→Prop}:∀{wr:Ents (List Pc)} {es:List (AV × AV × Nat)},EntsR R wr es→es.map kstr=wr.map (·.1)∧∀e∈es,e.1=.str (kstr e):=by
 intro wr
 induction wr with
 | nil=>intro es en;cases es with
  | nil=>exact⟨rfl,fun e he=>by cases he⟩
  | cons _ _=>exact en.elim
 | cons f fs ih=>intro es en;cases es with
  | nil=>exact en.elim
  | cons e es=>
   obtain⟨h1,h2⟩:=ih en.2
   have h3:kstr e=f.1:=by unfold kstr;rw[en.1.1]
   refine⟨by simp[h1,h3],fun x hx=>?_⟩
   rcases List.mem_cons.mp hx with rfl | hx
   ·rw[h3];exact en.1.1
   ·exact h2 x hx
theorem ents_ok{es:List (AV × AV × Nat)}{R:List Pc→AV→Prop}{wr:Ents (List Pc)}{clk:Nat}(en:EntsR R wr es)(bo:Born clk wr) :
  (∀e∈es,e.2.2<clk)∧(es.map (·.2.2)).Nodup:=by
 have hbirth:=en.births
 refine⟨fun e he=>?_,by rw[hbirth];exact bo.nd⟩
 have:e.2.2∈es.map (·.2.2):=List.mem_map_of_mem he
 rw[hbirth]at this
 obtain⟨f,hf,e1⟩:=List.mem_map.mp this
 have:=bo.lt f hf;omega
set_option maxHeartbeats 1000000 in
theorem collect_ans(bx m clk:Nat)(es:List (AV × AV × Nat))(hlt:∀e∈es,e.2.2<clk)(hnd:(es.map (·.2.2)).Nodup)(ks:AV × AV × Nat→Bs)(hkc:∀e∈es,e.1=.str (ks e))(hlen:es.length≤60000)(h0:Hp Fm)(hp:h0.pol 9=true)(hb:Mp.get h0.obj bx=some (.row [.mp m]))(hm:Mp.get h0.obj m=some (.mp es clk))(bn:bx<h0.no)(mn:m<h0.no) :
  A Tryz.prog TT (.func 59) [.fn (.func 87) [] [.ptr bx 0]] h0 (fun r h'=>∃done:List (AV × AV × Nat),done.Perm es∧RS h0.no h' 1 false (done.map (·.1)) r∧HE h0 h'):=by
 apply A_go Tryz.func59 rfl (by rfl);(case hn=>(simp[Tryz.ntmps59];rfl))
 refine vZ ?_
 refine A.mono (appseq_ans 87 (by simp) keys1_ans bx m clk es hlt hnd ks hkc hlen h0 hp hb hm bn mn) ?_
 rintro r h1 ⟨done,d1,d2,d3⟩
 have c1:=d2.cells
 have c2:=d2.isCell
 refine vP ?_
 refine vF (cJ c1 c2) ?_
 (first | apply endW_r | apply endW_n);(case h1=>(simp[Tryz.results59];first | done | rfl))
 exact⟨done,d1,d2,d3⟩
theorem keysof_ans(m:Nat)(h0:Hp Fm) :
  A Tryz.prog TT (.func 60) [.mp m] h0 (fun r h'=>r=.fn (.func 87) [] [.ptr h0.no 0]∧Mp.get h'.obj h0.no=some (.row [.mp m])∧h'.no=h0.no+1∧HE h0 h'):=by
 apply A_go Tryz.func60 rfl (by rfl);(case hn=>(simp[Tryz.ntmps60];rfl))
 refine vZ ?_
 (first | apply endW_r | apply endW_n);(case h1=>(simp[Tryz.results60];first | done | rfl))
 exact⟨rfl,by simp,rfl,(HE.refl h0).new _⟩
end Go.Vn

set_option maxRecDepth 20000
namespace Go.Vn
open Go.Proofs
abbrev CL(h:Hp Fm)(F:Nat)(caps:List AV)(dom:List Bs)(q:Bs→Bool):Prop:=
 ∀k∈dom,∀h1,HE { h with pol:=h1.pol } h1→A Tryz.prog TT (.func F) (.str k::caps) h1 (fun r h'=>r=.bool (q k)∧HE h1 h')
def keysW(y:Tr):List Bs:=y.wr.map (·.1)
def holds(x y:Tr):Bool := !(decide (y.p=x.p))&&decide (y.br=x.br)&&(decide (y.st=2) || decide (y.st=3))
def lockQ(x y:Tr)(q:Bs→Bool):Bool:=holds x y&&(keysW y).any q
theorem any_perm{α:Type}{l m:List α}(h:l.Perm m)(q:α→Bool):l.any q=m.any q:=by
 rw[Bool.eq_iff_iff,List.any_eq_true,List.any_eq_true]
 exact⟨fun⟨x,hx,e⟩=>⟨x,h.mem_iff.mp hx,e⟩,fun⟨x,hx,e⟩=>⟨x,h.mem_iff.mpr hx,e⟩⟩
theorem HE.pol_in{h h':Hp Fm}{f g:TypeId→Bool}(k:HE { h with pol:=f } h')(e:g=h'.pol):HE { h with pol:=g } h':=
 ⟨k.no,k.ng,e.symm,k.obj,k.len⟩
theorem HE.pol_out{h h':Hp Fm}{f:TypeId→Bool}(k:HE { h with pol:=f } h'):HE h { h' with pol:=h.pol }:=
 ⟨k.no,k.ng,rfl,k.obj,k.len⟩
set_option maxHeartbeats 4000000 in
theorem locked1_ans(h:Hp Fm)(b1 b2:Nat)(x y:Tr)(hx:TrI h x)(hy:TrI h y)(hyl:y.wr.length≤60000)(F:Nat)(hF:hasBody Tryz.prog F=true)(caps:List AV)(q:Bs→Bool)
  (g1:Mp.get h.obj b1=some (.row [.ptr x.p 0])) (g2:Mp.get h.obj b2=some (.row [.fn (.func F) [] caps])) (n1:b1<h.no) (n2:b2<h.no) (hf:CL h F caps (keysW y) q) :
  A Tryz.prog TT (.func 57) [.ptr y.p 0,.ptr b1 0,.ptr b2 0] h (fun r h'=>r=.bool (lockQ x y q)∧HE h h'):=by
 obtain⟨esx,rx,sx,lx,Tx⟩:=hx
 obtain⟨es,ry,sy,ly,Ty⟩:=hy
 have rwx:=Tx.row
 have rwy:=Ty.row
 obtain⟨ha,hha⟩:∃ha:Hp Fm,ha={ h with pol:=(· == 9) }:=⟨_,rfl⟩
 have hpa:ha.pol 9=true:=by rw[hha];rfl
 have g1a:Mp.get ha.obj b1=some (.row [.ptr x.p 0]):=by rw[hha];exact g1
 have g2a:Mp.get ha.obj b2=some (.row [.fn (.func F) [] caps]):=by rw[hha];exact g2
 have rwxa:=rwx
 have rwya:=rwy
 have gma:=Ty.map
 have ano:ha.no=h.no:=by rw[hha]
 rw[show h.obj=ha.obj by rw[hha]]at rwxa rwya gma
 apply A_goT Tryz.func57 rfl (by rfl);(case hn=>(simp[Tryz.ntmps57];rfl))
 refine vZ ?_
 rw[←hha]
 (with_reducible refine W_draw_id (pln:=true) [0,1,2,3,4,5,6,7,8,9,10,11,12,13,14,15,16,17,18,19,20,21,22,23,24,25,26,27] [(1,(1,[])),(2,(2,[])),(7,(7,[])),(8,(8,[])),(11,(11,[])),(18,(18,[])),(24,(24,[]))] (by kernel_rfl) rfl ?_)
 have f0:∀h':Hp Fm,HE ha h'→HE h { h' with pol:=h.pol }:=fun h' k=>by
  rw[hha]at k;exact k.pol_out
 by_cases qp:y.p=x.p
 case pos=>
  have e1:lockQ x y q=false:=by simp[lockQ,holds,qp]
  rw[e1]
  rw[qp]
  refine vF (cJ g1a (cJ g2a rwxa)) ?_
  refine⟨by simp[readSame,beqAV_self,g1a];done,_,by simp;first | done | rfl,?_⟩
  refine vZ ?_
  (first | apply endW_r | apply endW_n);(case h1=>(simp[Tryz.results57];first | done | rfl))
  exact⟨rfl,f0 _ (HE.refl ha).drew⟩
 have dne:ptrEqAV ha.drew y.p 0 x.p 0=some false:=ptrEq_diff qp rwya rwxa
 by_cases qb:y.br=x.br
 case neg=>
  have e1:lockQ x y q=false:=by simp[lockQ,holds,qp,qb]
  rw[e1]
  refine vF (cJ g1a (cJ g2a (cJ rwxa (cJ rwya (cJ dne qb))))) ?_
  refine⟨by simp[readSame,beqAV_self,g1a,g2a,rwxa,rwya,dne,qb];done,_,by simp;first | done | rfl,?_⟩
  refine vZ ?_
  (first | apply endW_r | apply endW_n);(case h1=>(simp[Tryz.results57];first | done | rfl))
  exact⟨rfl,f0 _ (HE.refl ha).drew⟩
 rw[qb]at rwya
 by_cases q2:y.st=2∨y.st=3
 case neg=>
  have q3:¬y.st=2:=fun z=>q2 (.inl z)
  have q4:¬y.st=3:=fun z=>q2 (.inr z)
  have e1:lockQ x y q=false:=by simp[lockQ,holds,q3,q4]
  rw[e1]
  refine vF (cJ g1a (cJ g2a (cJ rwxa (cJ rwya (cJ dne (cJ q3 q4)))))) ?_
  refine⟨by simp[readSame,beqAV_self,g1a,g2a,rwxa,rwya,dne,q3,q4];done,_,by simp;first | done | rfl,?_⟩
  refine vZ ?_
  (first | apply endW_r | apply endW_n);(case h1=>(simp[Tryz.results57];first | done | rfl))
  exact⟨rfl,f0 _ (HE.refl ha).drew⟩
 have e1:lockQ x y q=(keysW y).any q:=by simp[lockQ,holds,qp,qb,q2]
 rw[e1]
 obtain⟨st,hst⟩:∃st,st=y.st:=⟨_,rfl⟩
 rw[←hst]at q2 rwya
 obtain⟨ents1,ents2⟩:=ents_ok Ty.en Ty.born
 obtain⟨ents3,ents4⟩:=ents_keys Ty.en
 have el:es.length≤60000:=by rw[Ty.en.len];exact hyl
 rcases q2 with rfl | rfl
 case inl=>
  refine vF (cJ g1a (cJ g2a (cJ rwxa (cJ rwya dne)))) ?_
  refine⟨by simp[readSame,beqAV_self,g1a,g2a,rwxa,rwya,dne];done,_,by simp;first | done | rfl,?_⟩
  refine vZ ?_
  (with_reducible refine W_draw_id (pln:=true) [0,1,2,3,4,5,6,7,8] [(3,(3,[])),(6,(6,[0,5]))] (by kernel_rfl) rfl ?_)
  refine vF rwya ?_
  refine A.mono (keysof_ans y.m _) ?_
  rintro _ h1 ⟨rfl,gk,hk,e1⟩
  have e1':HE ha h1:=((HE.refl ha).drew).drew.trans e1
  refine vP ?_
  refine vZ ?_
  have bn:ha.drew.drew.no<h1.no:=by rw[hk];exact Nat.lt_succ_self _
  have mn:y.m<ha.no:=by rw[ano];exact Ty.mn
  refine A.mono (collect_ans _ y.m y.clk es ents1 ents2 kstr ents4 el h1 (by rw[e1'.pol];exact hpa) gk ((e1'.obj _ mn).trans gma) bn (Nat.lt_of_lt_of_le mn e1'.no)) ?_
  rintro r h2 ⟨done,d1,d2,e2⟩
  have e2':=e1'.trans e2
  have c1:=d2.cells
  have c2:=d2.isCell
  refine vP ?_
  have g2c:=(e1'.obj _ (by rw[ano];exact n2)).trans g2a
  have g2b:=(e2'.obj _ (by rw[ano];exact n2)).trans g2a
  have dk:done.map (·.1)=(done.map kstr).map AV.str:=by
   rw[List.map_map]
   exact List.map_congr_left fun e he=>ents4 e (d1.mem_iff.mp he)
  rw[dk]at d2
  have dp:(done.map kstr).Perm (keysW y):=by rw[keysW,←ents3];exact d1.map kstr
  obtain⟨dm,hdm⟩:∃dm,dm=done.map kstr:=⟨_,rfl⟩
  rw[←hdm]at d2 dp
  have dl:dm.length≤1000000:=by rw[dp.length_eq];simp only[keysW,List.length_map];omega
  refine vF (cJ c1 (cJ c2 g2b)) ?_
  refine A.mono (conts_ans h2 _ _ r F hF caps q dl (fun k hk h3 e3=>hf k (dp.mem_iff.mp hk) h3 ?_) h2 (HE.refl _) d2) ?_
  ·have:=(e2'.trans e3)
   rw[hha]at this
   exact this.pol_in rfl
  rintro r2 h3 ⟨rfl,e3⟩
  refine vP ?_
  refine vZ ?_
  refine⟨by simp[readSame,beqAV_self,g2b,g2a,g2c];done,_,by simp;first | done | rfl,?_⟩
  refine vZ ?_
  (first | apply endW_r | apply endW_n);(case h1=>(simp[Tryz.results57];first | done | rfl))
  exact⟨by rw[any_perm dp];rfl,f0 _ (e2'.trans e3)⟩
 case inr=>
  refine vF (cJ g1a (cJ g2a (cJ rwxa (cJ rwya dne)))) ?_
  refine⟨by simp[readSame,beqAV_self,g1a,g2a,rwxa,rwya,dne];done,_,by simp;first | done | rfl,?_⟩
  refine vZ ?_
  (with_reducible refine W_draw_id (pln:=true) [0,1,2,3,4,5,6,7,8] [(3,(3,[])),(6,(6,[0,5]))] (by kernel_rfl) rfl ?_)
  refine vF rwya ?_
  refine A.mono (keysof_ans y.m _) ?_
  rintro _ h1 ⟨rfl,gk,hk,e1⟩
  have e1':HE ha h1:=((HE.refl ha).drew).drew.trans e1
  refine vP ?_
  refine vZ ?_
  have bn:ha.drew.drew.no<h1.no:=by rw[hk];exact Nat.lt_succ_self _
  have mn:y.m<ha.no:=by rw[ano];exact Ty.mn
  refine A.mono (collect_ans _ y.m y.clk es ents1 ents2 kstr ents4 el h1 (by rw[e1'.pol];exact hpa) gk ((e1'.obj _ mn).trans gma) bn (Nat.lt_of_lt_of_le mn e1'.no)) ?_
  rintro r h2 ⟨done,d1,d2,e2⟩
  have e2':=e1'.trans e2
  have c1:=d2.cells
  have c2:=d2.isCell
  refine vP ?_
  have g2c:=(e1'.obj _ (by rw[ano];exact n2)).trans g2a
  have g2b:=(e2'.obj _ (by rw[ano];exact n2)).trans g2a
  have dk:done.map (·.1)=(done.map kstr).map AV.str:=by
   rw[List.map_map]
   exact List.map_congr_left fun e he=>ents4 e (d1.mem_iff.mp he)
  rw[dk]at d2
  have dp:(done.map kstr).Perm (keysW y):=by rw[keysW,←ents3];exact d1.map kstr
  obtain⟨dm,hdm⟩:∃dm,dm=done.map kstr:=⟨_,rfl⟩
  rw[←hdm]at d2 dp
  have dl:dm.length≤1000000:=by rw[dp.length_eq];simp only[keysW,List.length_map];omega
  refine vF (cJ c1 (cJ c2 g2b)) ?_
  refine A.mono (conts_ans h2 _ _ r F hF caps q dl (fun k hk h3 e3=>hf k (dp.mem_iff.mp hk) h3 ?_) h2 (HE.refl _) d2) ?_
  ·have:=(e2'.trans e3)
   rw[hha]at this
   exact this.pol_in rfl
  rintro r2 h3 ⟨rfl,e3⟩
  refine vP ?_
  refine vZ ?_
  refine⟨by simp[readSame,beqAV_self,g2b,g2a,g2c];done,_,by simp;first | done | rfl,?_⟩
  refine vZ ?_
  (first | apply endW_r | apply endW_n);(case h1=>(simp[Tryz.results57];first | done | rfl))
  exact⟨by rw[any_perm dp];rfl,f0 _ (e2'.trans e3)⟩
end Go.Vn

set_option maxRecDepth 20000
namespace Go.Vn
open Go.Proofs
def findR(xs:List Tr)(i:Int):Int:=if 1≤i∧i≤xs.length then(if (xs.getD (i-1).toNat default).st=5 then 25 else 0)else 8
set_option maxHeartbeats 1000000 in
theorem find_ans(h0 h:Hp Fm)(g pm:Nat)(ep sq:Int)(xs:List Tr)(lv:AV)(lg:List Nat)(k:EngH h0 h g pm ep sq xs lv lg)(i:Int)(hi64:-9223372036854775808≤i∧i≤9223372036854775807)(hxl:xs.length≤1000000) :
  A Tryz.prog TT (.func 30) [.ptr g 0,.int .i64 i] h (fun r h'=>h'=h∧((findR xs i≠0∧r=.tup [.nilp,.int .i64 (findR xs i)]) ∨
   (findR xs i=0∧∃(j:Nat) (hj:j<xs.length),i=(j:Int)+1∧(xs[j]).st≠5∧r=.tup [.ptr (xs[j]).p 0,.int .i64 0]))):=by
 have gr:=k.row
 have ll:=k.ac.sv.len Tryz.underlying76
 rw[List.length_map]at ll
 have ln:=k.ac.sv.nm
 have lc:=k.ac.sv.cells
 have li:=k.ac.sv.isCell
 by_cases q1:i<1
 ·have e1:¬(1≤i∧i≤xs.length):=by omega
  have e2:findR xs i=8:=by unfold findR;rw[if_neg e1]
  rw[e2]
  apply A_go Tryz.func30 rfl (by rfl);(case hn=>(simp[Tryz.ntmps30];rfl))
  refine vF q1 ?_
  (first | apply endW_r | apply endW_n);(case h1=>(simp[Tryz.results30,q1];first | done | rfl))
  exact⟨rfl,.inl ⟨by omega,rfl⟩⟩
 by_cases q2:(xs.length:Int)<i
 ·have e1:¬(1≤i∧i≤xs.length):=by omega
  have e2:findR xs i=8:=by unfold findR;rw[if_neg e1]
  rw[e2]
  apply A_go Tryz.func30 rfl (by rfl);(case hn=>(simp[Tryz.ntmps30];rfl))
  refine vF (cJ q1 (cJ q2 (cJ gr (cJ ll (cJ ln (cJ lc li)))))) ?_
  (first | apply endW_r | apply endW_n);(case h1=>(simp[Tryz.results30,q1];first | done | rfl))
  exact⟨rfl,.inl ⟨by omega,rfl⟩⟩
 obtain⟨j,hj⟩:∃j:Nat,i=(j:Int)+1:=⟨(i-1).toNat,by omega⟩
 subst hj
 have hjl:j<xs.length:=by omega
 have w1:IntKind.i64.wrap ((j:Int)+1-1)=(j:Int):=by rw[wrap64 (by omega) (by omega)];omega
 have w2:IntKind.i64.wrap (j:Int)=(j:Int):=wrap64 (by omega) (by omega)
 obtain⟨x,hx⟩:∃x,x=xs[j]:=⟨_,rfl⟩
 have ix:=tx_at k hjl
 rw[←hx]at ix
 obtain⟨es,rdv,scv,sls,T⟩:=k.tr x (by rw[hx];exact List.getElem_mem _)
 have tr:=T.row
 have e1:(1≤(j:Int)+1∧(j:Int)+1≤xs.length):=by omega
 have e2:((j:Int)+1-1).toNat=j:=by omega
 have e3:findR xs ((j:Int)+1)=if x.st=5 then 25 else 0:=by unfold findR;rw[if_pos e1,e2,List.getD_eq_getElem?_getD,List.getElem?_eq_getElem hjl,hx];rfl
 rw[e3]
 by_cases q5:x.st=5
 ·rw[if_pos q5]
  rw[q5]at tr
  apply A_go Tryz.func30 rfl (by rfl);(case hn=>(simp[Tryz.ntmps30];rfl))
  refine vF (cJ q1 (cJ q2 (cJ gr (cJ ll (cJ ln (cJ lc (cJ li (cJ w1 (cJ w2 (cJ ix tr)))))))))) ?_
  (first | apply endW_r | apply endW_n);(case h1=>(simp[Tryz.results30,q1];first | done | rfl))
  exact⟨rfl,.inl ⟨by omega,rfl⟩⟩
 ·rw[if_neg q5]
  apply A_go Tryz.func30 rfl (by rfl);(case hn=>(simp[Tryz.ntmps30];rfl))
  refine vF (cJ q1 (cJ q2 (cJ gr (cJ ll (cJ ln (cJ lc (cJ li (cJ w1 (cJ w2 (cJ ix (cJ tr q5))))))))))) ?_
  (first | apply endW_r | apply endW_n);(case h1=>(simp[Tryz.results30,q1];first | done | rfl))
  exact⟨rfl,.inr ⟨rfl,j,hjl,rfl,by rw[←hx];exact q5,by rw[←hx]⟩⟩
def busyQ(b:Int)(x:Tr):Bool:=decide (x.br=b)&&going x
theorem busy1_ans(h:Hp Fm)(x:Tr)(T:TrI h x)(bx:Nat)(b:Int)(hb:Mp.get h.obj bx=some (.row [.int .i64 b])) :
  A Tryz.prog TT (.func 36) [.ptr x.p 0,.ptr bx 0] h (fun r h'=>r=.bool (busyQ b x)∧HE h h'):=by
 have T0:=T
 obtain⟨es,rdv,scv,sls,T⟩:=T
 have tr:=T.row
 apply A_go Tryz.func36 rfl (by rfl);(case hn=>(simp[Tryz.ntmps36];rfl))
 refine vZ ?_
 (with_reducible refine W_draw_id (pln:=true) [0,1,2,3,4,5,6,7,8,9,10] [(3,(3,[])),(4,(4,[]))] (by kernel_rfl) rfl ?_)
 by_cases qb:x.br=b
 case neg=>
  have e1:busyQ b x=false:=by simp[busyQ,qb]
  rw[e1]
  refine vF (cJ tr (cJ hb qb)) ?_
  refine⟨by simp[readSame,beqAV_self,tr,hb,qb];done,_,by simp;first | done | rfl,?_⟩
  refine vZ ?_
  (first | apply endW_r | apply endW_n);(case h1=>(simp[Tryz.results36];first | done | rfl))
  exact⟨rfl,(HE.refl h).drew⟩
 have e1:busyQ b x=going x:=by simp[busyQ,qb]
 rw[e1]
 rw[qb]at tr
 refine vF (cJ tr hb) ?_
 refine A.mono (going_ans _ x (T0.of (((HE.refl h).drew).x (fun _=>False) (fun _=>False)) (fun z=>z) (fun z=>z) (fun _ _ z=>z))) ?_
 rintro _ hh ⟨rfl,ehh⟩
 rw[ehh]
 clear ehh hh
 refine vP ?_
 refine vZ ?_
 refine⟨by simp[readSame,beqAV_self,tr,hb];done,_,by simp;first | done | rfl,?_⟩
 refine vZ ?_
 (first | apply endW_r | apply endW_n);(case h1=>(simp[Tryz.results36];first | done | rfl))
 exact⟨rfl,(HE.refl h).drew⟩
set_option maxHeartbeats 1000000 in
theorem busy_ans(h0 h:Hp Fm)(g pm:Nat)(ep sq:Int)(xs:List Tr)(lv:AV)(lg:List Nat)(k:EngH h0 h g pm ep sq xs lv lg)(b:Int)(hxl:xs.length≤1000000) :
  A Tryz.prog TT (.func 12) [.ptr g 0,.int .i64 b] h (fun r h'=>r=.bool (xs.any (busyQ b))∧HE h h'):=by
 have gr:=k.row
 have gn:g≠h.no:=Nat.ne_of_lt k.gn
 have lc:=k.ac.sv.cells
 have li:=k.ac.sv.isCell
 apply A_go Tryz.func12 rfl (by rfl);(case hn=>(simp[Tryz.ntmps12];rfl))
 refine vF (cJ gr (cJ gn (cJ lc li))) ?_
 refine A_heap ?_
 intro hA hhA
 have eA:HE h hA:=by rw[hhA];exact(HE.refl h).new _
 have gA:Mp.get hA.obj h.no=some (.row [.int .i64 b]):=by rw[hhA];simp
 have nA:h.no<hA.no:=by rw[hhA];exact Nat.lt_succ_self _
 clear hhA
 refine A.mono (conttx_ans hA xs lv k.ac.sv hxl 36 (by simp) [.ptr h.no 0] (busyQ b) (fun x hx h1 e1=>?_) hA (HE.refl _)) ?_
 ·exact A.mono (busy1_ans h1 x ((k.tr x hx).of ((eA.trans e1).x (fun _=>False) (fun _=>False)) (fun z=>z) (fun z=>z) (fun _ _ z=>z)) h.no b ((e1.obj _ nA).trans gA)) (fun _ _ z=>z)
 rintro _ h2 ⟨rfl,e2⟩
 refine vP ?_
 refine vZ ?_
 (first | apply endW_r | apply endW_n);(case h1=>(simp[Tryz.results12];first | done | rfl))
 exact⟨rfl,eA.trans e2⟩
theorem CL.he{h h':Hp Fm}{F:Nat}{caps:List AV}{dom:List Bs}{q:Bs→Bool}(k:CL h F caps dom q)(e:HE h h'):CL h' F caps dom q:=
 fun x hx h1 e1=>k x hx h1 ((show HE { h with pol:=h1.pol } { h' with pol:=h1.pol }from⟨e.no,e.ng,rfl,e.obj,e.len⟩).trans e1)
def wroteQ(x:Tr)(k:Bs):Bool:=match lookF k x.wr with | some ps=>decide (0<ps.length) | none=>false
set_option maxHeartbeats 1000000 in
theorem step1_ans(h:Hp Fm)(x:Tr)(T:TrI h x)(bx:Nat)(hb:Mp.get h.obj bx=some (.row [.ptr x.p 0]))(bn:bx<h.no)(dom:List Bs) :
  CL h 32 [.ptr bx 0] dom (wroteQ x):=by
 intro k _ h1 e1
 obtain⟨es,rdv,scv,sls,T⟩:=T
 have tr:=(e1.obj _ T.pn).trans T.row
 have hb1:=(e1.obj _ bn).trans hb
 have tm:=(e1.obj _ T.mn).trans T.map
 cases hl:lookF k x.wr with
 | none=>
  have eq:wroteQ x k=false:=by unfold wroteQ;rw[hl]
  rw[eq]
  have lk:=look_none (m:=x.m) (clk:=x.clk) (k:=k) Tryz.underlying79 Tryz.underlying9 t42 T.en hl
  have lk1:=lk h1 false tm
  apply A_go Tryz.func32 rfl (by rfl);(case hn=>(simp[Tryz.ntmps32];rfl))
  refine vF (cJ tr (cJ hb1 lk1)) ?_
  (first | apply endW_r | apply endW_n);(case h1=>(simp[Tryz.results32];first | done | rfl))
  exact⟨rfl,HE.refl _⟩
 | some ps=>
  obtain⟨v,hv,lk⟩:=look_some (m:=x.m) (clk:=x.clk) (k:=k) Tryz.underlying79 Tryz.underlying9 T.en hl
  have lk1:=lk h1 false tm
  have sv:=SL.sv hv
  have vl:=sv.len Tryz.underlying42
  rw[List.length_map]at vl
  have vc:=sv.cells
  have vi:=sv.isCell
  have vn:=sv.nm
  have eq:wroteQ x k=decide (0<ps.length):=by unfold wroteQ;rw[hl]
  rw[eq]
  have e3:decide (0<ps.length)=decide ((0:Int)<ps.length):=by simp
  rw[e3]
  apply A_go Tryz.func32 rfl (by rfl);(case hn=>(simp[Tryz.ntmps32];rfl))
  refine vF (cJ tr (cJ hb1 (cJ lk1 (cJ vl (cJ vn (cJ vc vi)))))) ?_
  (first | apply endW_r | apply endW_n);(case h1=>(simp[Tryz.results32];first | done | rfl))
  exact⟨by simp,HE.refl _⟩
set_option maxHeartbeats 1000000 in
theorem locked_ans(h0 h:Hp Fm)(g pm:Nat)(ep sq:Int)(xs:List Tr)(lv:AV)(lg:List Nat)(k:EngH h0 h g pm ep sq xs lv lg)(x:Tr)(hx:x∈xs)(hxl:xs.length≤1000000)(hwl:∀y∈xs,y.wr.length≤60000)
  (F:Nat) (hF:hasBody Tryz.prog F=true) (caps:List AV) (q:Bs→Bool) (hf:∀y∈xs,CL h F caps (keysW y) q) :
  A Tryz.prog TT (.func 31) [.ptr g 0,.ptr x.p 0,.fn (.func F) [] caps] h (fun r h'=>r=.bool (xs.any fun y=>lockQ x y q)∧HE h h'):=by
 have gr:=k.row
 have gn:=k.gn
 have z1:g≠h.no:=by omega
 have z2:g≠h.no+1:=by omega
 have lc:=k.ac.sv.cells
 have li:=k.ac.sv.isCell
 apply A_go Tryz.func31 rfl (by rfl);(case hn=>(simp[Tryz.ntmps31];rfl))
 refine vF (cJ gr (cJ z1 (cJ z2 (cJ lc li)))) ?_
 refine A_heap ?_
 intro hA hhA
 have eA:HE h hA:=by rw[hhA];exact((HE.refl h).new _).new _
 have gA:Mp.get hA.obj h.no=some (.row [.ptr x.p 0]):=by rw[hhA];simp[show h.no≠h.no+1 by omega]
 have gB:Mp.get hA.obj (h.no+1)=some (.row [.fn (.func F) [] caps]):=by rw[hhA];simp
 have nA:h.no+1<hA.no:=by rw[hhA];exact Nat.lt_succ_self _
 clear hhA
 refine A.mono (conttx_ans hA xs lv k.ac.sv hxl 57 (by simp) [.ptr h.no 0,.ptr (h.no+1) 0] (fun y=>lockQ x y q) (fun y hy h1 e1=>?_) hA (HE.refl _)) ?_
 ·have e2:=eA.trans e1
  have tr:∀z∈xs,TrI h1 z:=fun z hz=>(k.tr z hz).of (e2.x (fun _=>False) (fun _=>False)) (fun z=>z) (fun z=>z) (fun _ _ z=>z)
  exact A.mono (locked1_ans h1 h.no (h.no+1) x y (tr x hx) (tr y hy) (hwl y hy) F hF caps q ((e1.obj _ (by omega)).trans gA) ((e1.obj _ nA).trans gB) (Nat.lt_of_lt_of_le (by omega) e1.no) (Nat.lt_of_lt_of_le nA e1.no) ((hf y hy).he e2)) (fun _ _ z=>z)
 rintro _ h2 ⟨rfl,e2⟩
 refine vP ?_
 refine vZ ?_
 (first | apply endW_r | apply endW_n);(case h1=>(simp[Tryz.results31];first | done | rfl))
 exact⟨rfl,eA.trans e2⟩
end Go.Vn
