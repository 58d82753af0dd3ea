/- What functions of the program come to, in the value machine (a part of the proof of the claim's statement). No condition. -/
import Derived.Test.YtplcehpejjfjoaaGreatVnL4
import Derived.Test.YtplcehpejjfjoaaGreatVnL6
set_option linter.unusedSimpArgs false
set_option linter.unusedVariables false
set_option maxRecDepth 20000
namespace Go.Vn
open Go.Proofs
def allM(M:Mem):List Ver:=(keysM M [] [255]).flatMap fun k=>getM k M
theorem eqlSN(d:Nat)(a b:Int):eqlAV Tryz.prog (d+2) 33 (.agg [.int .i64 a,.int .i64 b]) (.agg [.int .i64 a,.int .i64 b])=some true:=by
 have hg:(Tryz.prog.stoodInHeld 33 || Tryz.prog.eqGuardType Tryz.prog.depth 33)=false:=by kernel_rfl
 unfold eqlAV
 rw[Tryz.underlying33]
 simp only[hg,Bool.false_eq_true,if_false]
 simp[eqlAV,partAV]
theorem eqlVV(v:Ver):eqlAV Tryz.prog 20 117 (encV v) (encV v)=some true:=by
 have hg:(Tryz.prog.stoodInHeld 117 || Tryz.prog.eqGuardType Tryz.prog.depth 117)=false:=by kernel_rfl
 unfold eqlAV
 rw[Tryz.underlying117]
 simp only[hg,Bool.false_eq_true,if_false,encV]
 simp[eqlTX,eqlST,eqlSN,partAV,eqB_dec]
 simp[eqlAV]
set_option maxHeartbeats 1000000 in
theorem same6_ans(a:List Ver)(va vb:AV)(sa:SV 8 (a.map encV) va)(sb:SV 8 (a.map encV) vb)(h0:Hp Fm)(hl:a.length≤1000000000) :
  A Tryz.prog TT (.func 25) [va,vb] h0 (fun r h'=>r=.bool true∧HE h0 h'):=by
 have ac:=sa.cells
 have ai:=sa.isCell
 have an:=sa.nm
 have al:=sa.len Tryz.underlying64
 have bc:=sb.cells
 have bi:=sb.isCell
 have bn:=sb.nm
 have bl:=sb.len Tryz.underlying64
 rw[List.length_map]at al bl
 obtain⟨n,hn⟩:∃n,n=a.length:=⟨_,rfl⟩
 rw[←hn]at al bl hl
 apply A_go Tryz.func25 rfl (by rfl);(case hn=>(simp[Tryz.ntmps25];rfl))
 refine vF (cJ ac (cJ ai (cJ an (cJ al (cJ bc (cJ bi (cJ bn bl))))))) ?_
 refine W_loop (fun z s=>∃(t:Fm AV) (h:Hp Fm) (i:Nat),s=⟨t,26,h,none⟩∧z=n-i∧i≤n∧tget t 0=va∧tget t 1=vb∧tget t 5=.int .i64 i∧HE h0 h) n
  ⟨_,_,0,rfl,rfl,by omega,by simp,by simp,by simp,HE.refl _⟩ ?_
 rintro _ s ⟨t,h,i,rfl,rfl,hi,t0,t1,t5,he⟩
 by_cases qi:i<n
 case neg=>
  have qi':¬(i:Int)<n:=by omega
  refine vF (cJ t0 (cJ t5 (cJ an (cJ al (cJ ac (cJ ai (cJ qi qi'))))))) ?_
  (first | apply endW_r | apply endW_n);(case h1=>(simp[Tryz.results25];first | done | rfl))
  exact⟨rfl,he⟩
 have qi':(i:Int)<n:=by omega
 obtain⟨x,hx⟩:∃x,x=a[i]'(by omega):=⟨_,rfl⟩
 have ix:=sa.idx (k:=.i64) (i:=(i:Int)) Tryz.underlying64 z117 (by omega) (by rw[List.length_map];omega)
 replace ix:indexAddrAV Tryz.prog 64 va (.int .i64 (i:Int))=some (.el (encV x) 0):=by rw[ix];simp[hx]
 have iy:=sb.idx (k:=.i64) (i:=(i:Int)) Tryz.underlying64 z117 (by omega) (by rw[List.length_map];omega)
 replace iy:indexAddrAV Tryz.prog 64 vb (.int .i64 (i:Int))=some (.el (encV x) 0):=by rw[iy];simp[hx]
 simp only[encV]at ix iy
 obtain⟨ip,hip⟩:∃ip,ip=i+1:=⟨_,rfl⟩
 have wip:IntKind.i64.wrap ((i:Int)+1)=(ip:Int):=by rw[wrap64 (by omega) (by omega)];omega
 have nq:=eqlVV x
 simp only[encV]at nq
 refine vF (cJ t0 (cJ t5 (cJ an (cJ al (cJ ac (cJ ai (cJ qi qi'))))))) ?_
 (with_reducible refine W_draw_id (pln:=true) [0,1,2,3,4,5,6,7,8] [(3,(3,[])),(7,(7,[]))] (by kernel_rfl) rfl ?_)
 refine vF (cJ t0 (cJ t1 (cJ t5 (cJ ix (cJ iy nq))))) ?_
 refine⟨by simp[readSame,beqAV_self,t0,t1,t5,ix,iy];done,_,by simp;first | done | rfl,?_⟩
 refine vF (cJ t5 wip) ?_
 exact⟨n-ip,by omega,_,_,ip,rfl,rfl,by omega,by simp[t0],by simp[t1],by simp,he.drew⟩
set_option maxHeartbeats 1000000 in
theorem oall_ans(pm:Nat)(D:Nat→Prop)(bs:List Br)(M:Mem)(hM:MOk M)(hc:cntM M≤300000)(hml:M.length≤3000)(h0:Hp Fm)(k0:MemH h0 D pm bs M)(hp:h0.pol 187=false)(hp2:h0.pol 117=false)(hp3:h0.pol 9=false) :
  A Tryz.prog TT (.func 24) [.ptr pm 0] h0 (fun r h'=>SV 8 ((allM M).map encV) r∧HE h0 h'):=by
 apply A_go Tryz.func24 rfl (by rfl);(case hn=>(simp[Tryz.ntmps24];rfl))
 refine vZ ?_
 refine A.mono (mkeys_ans [] [255] pm D bs M hM (by omega) (by omega) h0 k0 hp hp2 hp3) ?_
 rintro w hB ⟨sv,eB⟩
 have wc:=sv.cells
 have wi:=sv.isCell
 have wn:=sv.nm
 have wl:=sv.len Tryz.underlying113
 rw[List.length_map]at wl
 have kl:=keysM_len M [] [255]
 obtain⟨ks,hks⟩:∃ks,ks=keysM M [] [255]:=⟨_,rfl⟩
 obtain⟨n,hn⟩:∃n,n=ks.length:=⟨_,rfl⟩
 rw[←hks]at wl sv kl
 rw[←hn]at wl kl
 have bound:∀i,(((ks.take i).flatMap fun k=>getM k M)).length≤i*300000:=by
  intro i
  induction i with
  | zero=>simp
  | succ i ih=>
   by_cases q:i<ks.length
   ·rw[List.take_succ_eq_append_getElem q,List.flatMap_append,List.length_append]
    have:=getM_len ks[i] M
    simp only[List.flatMap_cons,List.flatMap_nil,List.append_nil]
    omega
   ·rw[List.take_of_length_le (by omega)]
    rw[List.take_of_length_le (by omega)]at ih
    exact Nat.le_trans ih (Nat.mul_le_mul_right _ (Nat.le_succ i))
 refine vP ?_
 refine vF (cJ wc (cJ wi (cJ wn wl))) ?_
 refine W_loop (fun z s=>∃(t:Fm AV) (hh:Hp Fm) (i:Nat) (a:AV),s=⟨t,23,hh,none⟩∧z=n-i∧i≤n∧tget t 0=.ptr pm 0∧tget t 3=a∧tget t 4=w∧tget t 5=.int .i64 i∧AC h0 hh 8 (((ks.take i).flatMap fun k=>getM k M).map encV) a∧HE h0 hh) n
  ⟨_,_,0,_,rfl,rfl,by omega,by simp,rfl,by simp,by simp,.inl ⟨by simp,by simp⟩,eB⟩ ?_
 rintro _ s ⟨t,hh,i,a,rfl,rfl,hi,t0,t3,t4,t5,ac,he⟩
 have uc:=ac.sv.cells
 have ui:=ac.sv.isCell
 by_cases q:i<n
 case neg=>
  have q':¬(i:Int)<n:=by omega
  rw[List.take_of_length_le (by omega)]at ac
  refine vF (cJ t3 (cJ t4 (cJ t5 (cJ wc (cJ wi (cJ wn (cJ wl (cJ q (cJ q' (cJ uc ui)))))))))) ?_
  (first | apply endW_r | apply endW_n);(case h1=>(simp[Tryz.results24];first | done | rfl))
  exact⟨by rw[allM,←hks];exact ac.sv,he⟩
 have q':(i:Int)<n:=by omega
 obtain⟨kk,hkk⟩:∃kk,kk=ks[i]'(by omega):=⟨_,rfl⟩
 have ix:=sv.idx (k:=.i64) (i:=(i:Int)) Tryz.underlying113 z9 (by omega) (by rw[List.length_map];omega)
 replace ix:indexAddrAV Tryz.prog 113 w (.int .i64 (i:Int))=some (.el (.str kk) 0):=by rw[ix];simp[hkk]
 obtain⟨ip,hip⟩:∃ip,ip=i+1:=⟨_,rfl⟩
 have wip:IntKind.i64.wrap ((i:Int)+1)=(ip:Int):=by rw[wrap64 (by omega) (by omega)];omega
 have ph:=he.pol
 refine vF (cJ t0 (cJ t3 (cJ t4 (cJ t5 (cJ wc (cJ wi (cJ wn (cJ wl (cJ q (cJ q' (cJ uc (cJ ui ix)))))))))))) ?_
 refine A.mono (mrows_ans kk pm D bs M hM (by omega) hh (k0.he he) (by rw[ph];exact hp) (by rw[ph];exact hp2)) ?_
 rintro rw_ h2 ⟨sl,e2⟩
 have rc:=sl.sv.cells
 have ri:=sl.sv.isCell
 have rn:=sl.sv.nm
 have he2:=he.trans e2
 have ac2:=ac.of e2
 have b1:=bound i
 have b2:=getM_len kk M
 refine vP ?_
 refine vF (cJ t3 (cJ uc (cJ ui (cJ rc ri)))) ?_
 with_reducible apply WO_app_i;(case hw=>(simp[t3,uc,ui,rc,ri];done));(case ho=>rfl);(case hb=>rfl);(case ha=>(simp[t3,uc,ui,rc,ri];first | done | exact⟨rfl,rfl⟩ | rfl));(case h1=>(simp;first | done | rfl));(case h2=>(simp;first | done | rfl))
 refine app_then (AC.appN (h0:=h0) etv ac2 he2 hp2 (SV.newEls sl.sv) (by rw[List.length_map,List.length_map];omega)) ?_
 rintro x4 h4 ⟨ac4,he4,hob,hno,_⟩
 have e4:=ac4.sv.cells
 have f4:=ac4.sv.isCell
 refine vP ?_
 refine vF (cJ t5 (cJ e4 (cJ f4 wip))) ?_
 refine⟨n-ip,by omega,_,_,ip,x4,rfl,rfl,by omega,by simp[t0],by simp,by simp[t4],by simp,?_,he4⟩
 have:((ks.take ip).flatMap fun k=>getM k M).map encV=((ks.take i).flatMap fun k=>getM k M).map encV++(getM kk M).map encV:=by
  rw[hip,List.take_succ_eq_append_getElem (by omega),List.flatMap_append,List.map_append,←hkk];simp
 rw[this]
 exact ac4
end Go.Vn

set_option maxRecDepth 20000
namespace Go.Vn
open Go.Proofs
theorem stOf_at{xs:List Tr}{L:Nat}(h:L<xs.length):stOf xs ((L:Int)+1)=(xs[L]).st:=by
 unfold stOf
 rw[if_pos (by omega),show((L:Int)+1-1).toNat=L by omega,List.getD_eq_getElem?_getD,List.getElem?_eq_getElem h];rfl
theorem findR_at{xs:List Tr}{L:Nat}(h:L<xs.length):findR xs ((L:Int)+1)=if (xs[L]).st=5 then 25 else 0:=by
 unfold findR
 rw[if_pos (by omega),show((L:Int)+1-1).toNat=L by omega,List.getD_eq_getElem?_getD,List.getElem?_eq_getElem h];rfl
theorem getSet{xs ys:List Tr}{L:Nat}{x:Tr}(e:ys=xs.set L x)(h:L<xs.length):∃h':L<ys.length,ys[L]=x:=by
 subst e;exact⟨by rw[List.length_set];exact h,by simp⟩
theorem StepR.open_{σ σ':SS}{L:Nat}{st e:Int}(h:StepR σ σ' ((L:Int)+1) st e)(hL:L<σ.xs.length)(h1:(σ.xs[L]).st=1) :
  σ'.M=σ.M∧∃h':L<σ'.xs.length,(σ'.xs[L]).st=5∨(σ'.xs[L]).st=2:=by
 rcases h with⟨a,_⟩ | ⟨j,hj,ej,h⟩
 ·rw[findR_at hL,h1]at a;simp at a
 ·have:j=L:=by omega
  subst this
  rcases h with⟨a,_⟩ | ⟨_,_,_,_,rfl⟩ | ⟨_,_,_,_,rfl⟩ | ⟨a,_⟩ | ⟨a,_⟩ | ⟨a,_⟩ | ⟨a,_⟩
  ·omega
  ·obtain⟨x1,x2⟩:=getSet (x:={ σ.xs[j]with st:=5 }) rfl hj
   exact⟨rfl,x1,.inl (by rw[x2])⟩
  ·obtain⟨x1,x2⟩:=getSet (x:={ σ.xs[j]with st:=2 }) rfl hj
   exact⟨rfl,x1,.inr (by rw[x2])⟩
  all_goals omega
theorem AbortR.at5{σ σ':SS}{L:Nat}{e:Int}(h:AbortR σ σ' ((L:Int)+1) e)(hL:L<σ.xs.length)(h1:(σ.xs[L]).st=5) :
  σ'.M=σ.M∧e=25∧∃h':L<σ'.xs.length,(σ'.xs[L]).st=5:=by
 have f:=findR_at hL
 rw[h1,if_pos rfl]at f
 rcases h with⟨a,rfl,b⟩ | ⟨j,hj,ej,h5,h⟩
 ·exact⟨rfl,by rw[b,f],hL,h1⟩
 ·have:j=L:=by omega
  subst this
  exact absurd h1 h5
theorem AbortR.at2{σ σ':SS}{L:Nat}{e:Int}(h:AbortR σ σ' ((L:Int)+1) e)(hL:L<σ.xs.length)(h1:(σ.xs[L]).st=2) :
  σ'.M=σ.M∧e=0∧∃h':L<σ'.xs.length,(σ'.xs[L]).st=5:=by
 have f:=findR_at hL
 rw[h1,if_neg (by omega)]at f
 rcases h with⟨a,rfl,b⟩ | ⟨j,hj,ej,_,h⟩
 ·exact absurd f a
 ·have:j=L:=by omega
  subst this
  rcases h with⟨a,_⟩ | ⟨_,he,rfl⟩
  ·omega
  ·obtain⟨x1,x2⟩:=getSet (x:={ σ.xs[j]with st:=5 }) rfl hj
   exact⟨rfl,he,x1,by rw[x2]⟩
end Go.Vn

set_option maxRecDepth 20000
namespace Go.Vn
open Go.Proofs
theorem pl_begin{hz h1 hA:Hp Fm}{g pm:Nat}{bs:List Br}{D:Nat→Prop}(k0:OInv hz h1 g pm bs ⟨D,1,0,[],.nils,[],[]⟩ 0)(eA:HE h1 hA){pp:Nat}(hpp:pp=h1.no)(gA:Mp.get hA.obj pp=some (.row [.nils]))(nA:hA.no=h1.no+1) :
  PL hz hA g pm bs ⟨D,1,0,[],.nils,[],[]⟩ 0 pp [] [] (fun o=>o=pp):=by
 refine⟨k0.he eA,⟨⟨.nils,gA,.inl ⟨rfl,rfl⟩,fun q hq=>by obtain⟨_,_,_,_,_,e⟩:=hq;cases e⟩,⟨rfl,fun i hi=>by cases hi⟩,by simp,rfl,fun o ho=>by rw[ho];omega⟩,fun o ho=>?_,fun q hq=>by simp at hq,Nat.le_refl _⟩
 rw[ho]
 have h2:=k0.sys.eng.gn
 refine⟨fun z=>?_,fun z=>by have:=k0.sys.mem.lt _ z;omega⟩
 simp only[objsT,List.flatMap_nil,List.mem_cons,List.not_mem_nil,or_false]at z
 omega
theorem PL.all{hz h:Hp Fm}{g pm:Nat}{bs:List Br}{σ:SS}{n:Nat}(k:OInv hz h g pm bs σ n)(hn:n≤75) :
  A Tryz.prog TT (.func 24) [.ptr pm 0] h (fun r h'=>SV 8 ((allM σ.M).map encV) r∧HE h h'):=
 oall_ans pm σ.D bs σ.M k.sys.ok (by have:=k.cnt;omega) (by have:=k.len;omega) h k.sys.mem k.sys.pol.leg k.sys.pol.ver k.sys.pol.str
theorem allM_le{M:Mem}(hc:cntM M≤300000)(hml:M.length≤3000):(allM M).length≤1000000000:=by
 have kl:=keysM_len M [] [255]
 have:∀ks:List (List UInt8),(ks.flatMap fun k=>getM k M).length≤ks.length*300000:=by
  intro ks
  induction ks with
  | nil=>simp
  | cons k ks ih=>
   rw[List.flatMap_cons,List.length_append,List.length_cons]
   have:=getM_len k M
   omega
 have:=this (keysM M [] [255])
 unfold allM
 omega
theorem ClR.id{c:Cl}(h:ClR c){i:Int}(hi:i64R i):ClR { c with id:=i }:=⟨h.1,hi,h.2.2.1,h.2.2.2.1,h.2.2.2.2⟩
theorem vPc1{G K:Prop}(k:K)(h:K→G:=by intro k;(repeat(first|with_reducible first|refine vmR ?_|refine vmV rfl ?_|refine vmW rfl ?_|refine vmL ?_|refine blockW_y (by decide) ?_|((with_reducible first|apply vmO|apply vmT|apply vmC);case a=>simp[eqlAV];with_reducible first|exact .v|exact .c|exact .t|exact .f)));exact k):G:=h k
theorem vPc2{F G K:Prop}(f:F)(k:K)(h:F→K→G:=by intro f k;(repeat(first|with_reducible first|refine vmR ?_|refine vmV rfl ?_|refine vmW rfl ?_|refine vmL ?_|refine blockW_y (by decide) ?_|((with_reducible first|apply vmO|apply vmT|apply vmC);case a=>simp[f,splice];with_reducible first|exact .v|exact .c|exact .t|exact .f)));exact k):G:=h f k
set_option maxHeartbeats 4000000 in
theorem oaborted_ans(l own:List Cl)(v v2:AV)(hv:SV 8 (l.map encC) v)(hv2:SV 8 (own.map encC) v2)(hr:∀c∈l,ClR c)(hr2:∀c∈own,ClR c)(hz0:Hp Fm) :
  A Tryz.prog TT (.func 7) [v,v2] hz0 (fun r _=>r=.bool true):=by
 have vc:=hv.cells
 have vi:=hv.isCell
 have vn:=hv.nm
 have vl:=hv.len Tryz.underlying22
 rw[List.length_map]at vl
 obtain⟨N,hN⟩:∃N,N=l.length:=⟨_,rfl⟩
 rw[←hN]at vl
 have uc2:=hv2.cells
 have ui2:=hv2.isCell
 have un2:=hv2.nm
 have ul2:=hv2.len Tryz.underlying22
 rw[List.length_map]at ul2
 obtain⟨N2,hN2⟩:∃N2,N2=own.length:=⟨_,rfl⟩
 rw[←hN2]at ul2
 obtain⟨h0,hh0⟩:∃h0:Hp Fm,h0={ hz0 with pol:=(· == 93) }:=⟨_,rfl⟩
 have hp:h0.pol 93=true:=by rw[hh0];rfl
 have hpo:PolOk h0.pol:=by rw[hh0];exact polLaw
 apply A_goT Tryz.func7 rfl (by rfl);(case hn=>(simp[Tryz.ntmps7];rfl))
 refine vZ ?_
 rw[←hh0]
 refine A.mono (obegin3_ans h0 hp hpo) ?_
 rintro _ h1 ⟨g,e,pm,bs,D,rfl,k0,e01⟩
 obtain⟨hz,hhz⟩:∃hz:Hp Fm,hz={ h0 with no:=0,ng:=0 }:=⟨_,rfl⟩
 rw[←hhz]at k0
 have hpol1:h1.pol=h0.pol:=e01.pol
 refine vP ?_
 refine vPc1 ?_
 refine W_heap ?_
 intro hA hhA
 have eA:HE h1 hA:=by rw[hhA];exact(HE.refl h1).new _
 have gA:Mp.get hA.obj h1.no=some (.row [.nils]):=by rw[hhA];simp
 have nA:hA.no=h1.no+1:=by rw[hhA]
 clear hhA
 obtain⟨pp,hpp⟩:∃pp,pp=h1.no:=⟨_,rfl⟩
 rw[←hpp]at gA ⊢
 have kA:=pl_begin k0 eA hpp gA nA
 refine W.mono (R:=fun e s=>e=.exit 0∧∃(t:Fm AV) (h:Hp Fm) (σ:SS) (n:Nat) (vs:List AV) (gs:List (List Nat)) (Q:Nat→Prop),s=⟨t,131,h,none⟩∧tget t 1=v2∧tget t 5=.ptr g 0∧tget t 7=.ptr pm 0∧tget t 8=.ptr pp 0∧PL hz h g pm bs σ n pp vs gs Q∧n≤40∧h.pol=h0.pol) ?_ ?_
 ·refine W_loop (fun z s=>∃(t:Fm AV) (h:Hp Fm) (i:Nat) (σ:SS) (vs:List AV) (gs:List (List Nat)) (Q:Nat→Prop),s=⟨t,131,h,none⟩∧z=40-i∧i≤40∧i≤N∧tget t 0=v∧tget t 1=v2∧tget t 5=.ptr g 0∧tget t 7=.ptr pm 0∧tget t 8=.ptr pp 0∧tget t 9=.int .i64 i∧PL hz h g pm bs σ i pp vs gs Q∧h.pol=h0.pol) 40
   ⟨_,_,0,⟨D,1,0,[],.nils,[],[]⟩,[],[],_,rfl,by omega,by omega,by omega,by simp,by simp,by simp,by simp,by simp,by simp,kA,eA.pol.trans hpol1⟩ ?_
  rintro _ s ⟨t,h,i,σ,vs,gs,Q,rfl,rfl,hi,hiN,t0,t1,t5,t7,t8,t9,k,hpl⟩
  by_cases q:i<N
  case neg=>
   have q':¬(i:Int)<N:=by omega
   refine vF (cJ t0 (cJ t9 (cJ vl (cJ vn (cJ vc (cJ vi (cJ q q'))))))) ?_
   exact⟨rfl,_,_,σ,i,vs,gs,Q,rfl,by simp[t1],by simp[t5],by simp[t7],by simp[t8],k,by omega,hpl⟩
  have q':(i:Int)<N:=by omega
  by_cases q6:i<40
  case neg=>
   have q6':¬(i:Int)<40:=by omega
   refine vF (cJ t0 (cJ t9 (cJ vl (cJ vn (cJ vc (cJ vi (cJ q (cJ q' (cJ q6 q6'))))))))) ?_
   exact⟨rfl,_,_,σ,i,vs,gs,Q,rfl,by simp[t1],by simp[t5],by simp[t7],by simp[t8],k,by omega,hpl⟩
  have q6':(i:Int)<40:=by omega
  obtain⟨c,hc⟩:∃c,c=l[i]'(by omega):=⟨_,rfl⟩
  have ix:=hv.idx (k:=.i64) (i:=(i:Int)) Tryz.underlying22 z35 (by omega) (by rw[List.length_map];omega)
  replace ix:indexAddrAV Tryz.prog 22 v (.int .i64 (i:Int))=some (.el (encC c) 0):=by rw[ix];simp[hc]
  simp only[encC]at ix
  obtain⟨ip,hip⟩:∃ip,ip=i+1:=⟨_,rfl⟩
  have wip:IntKind.i64.wrap ((i:Int)+1)=(ip:Int):=by rw[wrap64 (by omega) (by omega)];omega
  have pl:=play_ans k (by omega) c (hr c (by rw[hc];exact List.getElem_mem _))
  simp only[encC]at pl
  refine vF (cJ t0 (cJ t5 (cJ t8 (cJ t9 (cJ vl (cJ vn (cJ vc (cJ vi (cJ q (cJ q' (cJ q6 (cJ q6' ix)))))))))))) ?_
  refine A.mono pl ?_
  rintro rv h2 ⟨σ',vs',gs',Q',k2,fr,mv,_,hlen⟩
  refine vP ?_
  refine vF (cJ t9 wip) ?_
  exact⟨40-ip,by omega,_,_,ip,σ',vs',gs',Q',rfl,rfl,by omega,by omega,by simp[t0],by simp[t1],by simp[t5],by simp[t7],by simp[t8],by simp,by rw[hip];exact k2,fr.hx.pol.trans hpl⟩
 rintro e2 s ⟨rfl,t,h,σ,n,vs,gs,Q,rfl,t1,t5,t7,t8,k,hn,hpl⟩
 clear hv vc vi vn vl hr k0 kA eA gA nA
 refine vF t7 ?_
 refine A.mono (PL.all k.inv (by omega)) ?_
 rintro w h2 ⟨svw,e2⟩
 have wc:=svw.cells
 have wi:=svw.isCell
 have k2:=k.he e2
 have hpl2:h2.pol=h0.pol:=e2.pol.trans hpl
 clear k e2 hpl h
 refine vP ?_
 refine vF (cJ t5 (cJ wc wi)) ?_
 refine A.mono (begin_i k2.inv (by omega)) ?_
 rintro _ h3 ⟨id,ee,σ1,rfl,w3,mv3,hres⟩
 have hpl3:h3.pol=h0.pol:=w3.2.hx.pol.trans hpl2
 refine vP ?_
 rcases hres with⟨rfl,_,_⟩ | ⟨rfl,rfl,q6,eM,eE,eS,p,m,exs⟩
 ·refine vZ ?_
  refine A.mono (lives_ans h3 (by rw[hpl3];exact hp) (by rw[hpl3];exact hpo.txp)) ?_
  rintro _ h4 rfl
  refine vP ?_
  refine vZ ?_
  (first | apply endW_r | apply endW_n);(case h1=>(simp[Tryz.results7];first | done | rfl))
  rfl
 obtain⟨L,hL⟩:∃L,L=σ.xs.length:=⟨_,rfl⟩
 have hLx:=k2.inv.xl
 have idR:i64R ((L:Int)+1):=by unfold i64R;omega
 rw[←hL]
 have k3:=k2.went w3 (by rw[exs,List.length_append];omega) (by omega)
 have lst:∃h':L<σ1.xs.length,(σ1.xs[L]).st=1:=by
  have g1:∀ys:List Tr,ys=σ.xs++[newTr p m 0]→∃h':L<ys.length,(ys[L]).st=1:=fun ys e=>by
   subst e
   exact⟨by rw[List.length_append,List.length_singleton];omega,by rw[List.getElem_append_right (by omega)];simp[newTr]⟩
  exact g1 _ exs
 refine vZ ?_
 refine W.mono (R:=fun e s=>e=.exit 2∧∃(t:Fm AV) (h:Hp Fm) (σ2:SS) (n2:Nat) (vs:List AV) (gs:List (List Nat)) (Q:Nat→Prop),s=⟨t,131,h,none⟩∧tget t 5=.ptr g 0∧tget t 7=.ptr pm 0∧tget t 10=w∧tget t 11=.int .i64 ((L:Int)+1)∧PL hz h g pm bs σ2 n2 pp vs gs Q∧n2≤61∧h.pol=h0.pol∧σ2.M=σ.M∧∃h':L<σ2.xs.length,(σ2.xs[L]).st=1) ?_ ?_
 ·refine W_loop (fun z s=>∃(t:Fm AV) (h:Hp Fm) (i:Nat) (σ2:SS) (vs:List AV) (gs:List (List Nat)) (Q:Nat→Prop) (n2:Nat),s=⟨t,131,h,none⟩∧z=20-i∧i≤20∧i≤N2∧tget t 1=v2∧tget t 5=.ptr g 0∧tget t 7=.ptr pm 0∧tget t 8=.ptr pp 0∧tget t 10=w∧tget t 11=.int .i64 ((L:Int)+1)∧tget t 13=.int .i64 i∧PL hz h g pm bs σ2 n2 pp vs gs Q∧n2≤41+i∧h.pol=h0.pol∧σ2.M=σ.M∧∃h':L<σ2.xs.length,(σ2.xs[L]).st=1) 20
   ⟨_,_,0,σ1,vs,gs,Q,n+1,rfl,by omega,by omega,by omega,by simp[t1],by simp[t5],by simp[t7],by simp[t8],by simp,by simp,by simp,k3,by omega,hpl3,eM,lst⟩ ?_
  clear t1 t5 t7 t8 t k3 hpl3 lst exs eS eE eM w3 mv3 h3
  rintro _ s ⟨t,h,i,σ2,vs,gs,Q,n2,rfl,rfl,hi,hiN,t1,t5,t7,t8,t10,t11,t13,k,hn2,hpl,hM,hx,hst⟩
  by_cases q:i<N2
  case neg=>
   have q':¬(i:Int)<N2:=by omega
   refine vF (cJ t1 (cJ t13 (cJ ul2 (cJ un2 (cJ uc2 (cJ ui2 (cJ q q'))))))) ?_
   exact⟨rfl,_,_,σ2,n2,vs,gs,Q,rfl,by simp[t5],by simp[t7],by simp[t10],by simp[t11],k,by omega,hpl,hM,hx,hst⟩
  have q':(i:Int)<N2:=by omega
  by_cases q6:i<20
  case neg=>
   have q6':¬(i:Int)<20:=by omega
   refine vF (cJ t1 (cJ t13 (cJ ul2 (cJ un2 (cJ uc2 (cJ ui2 (cJ q (cJ q' (cJ q6 q6'))))))))) ?_
   exact⟨rfl,_,_,σ2,n2,vs,gs,Q,rfl,by simp[t5],by simp[t7],by simp[t10],by simp[t11],k,by omega,hpl,hM,hx,hst⟩
  have q6':(i:Int)<20:=by omega
  obtain⟨c,hc⟩:∃c,c=own[i]'(by omega):=⟨_,rfl⟩
  have ix:=hv2.idx (k:=.i64) (i:=(i:Int)) Tryz.underlying22 z35 (by omega) (by rw[List.length_map];omega)
  replace ix:indexAddrAV Tryz.prog 22 v2 (.int .i64 (i:Int))=some (.el (encC c) 0):=by rw[ix];simp[hc]
  simp only[encC]at ix
  obtain⟨ip,hip⟩:∃ip,ip=i+1:=⟨_,rfl⟩
  have wip:IntKind.i64.wrap ((i:Int)+1)=(ip:Int):=by rw[wrap64 (by omega) (by omega)];omega
  have cr:=hr2 c (by rw[hc];exact List.getElem_mem _)
  have eN:∀a b,HE h { h with obj:=Mp.set (Mp.set h.obj h.no a) h.no b,no:=h.no+1 }:=fun a b=>((HE.refl h).new a).set (Nat.le_refl _) b
  by_cases c1:1≤c.k
  case neg=>
   refine vPc2 (cJ t1 (cJ t13 (cJ ul2 (cJ un2 (cJ uc2 (cJ ui2 (cJ q (cJ q' (cJ q6 (cJ q6' (cJ ix (cJ c1 wip)))))))))))) ?_
   exact⟨20-ip,by omega,_,_,ip,σ2,vs,gs,Q,n2,rfl,rfl,by omega,by omega,by simp[t1],by simp[t5],by simp[t7],by simp[t8],by simp[t10],by simp[t11],by simp,k.he (eN _ _),by omega,hpl,hM,hx,hst⟩
  by_cases c4:c.k≤4
  case neg=>
   refine vPc2 (cJ t1 (cJ t13 (cJ ul2 (cJ un2 (cJ uc2 (cJ ui2 (cJ q (cJ q' (cJ q6 (cJ q6' (cJ ix (cJ c1 (cJ c4 wip))))))))))))) ?_
   exact⟨20-ip,by omega,_,_,ip,σ2,vs,gs,Q,n2,rfl,rfl,by omega,by omega,by simp[t1],by simp[t5],by simp[t7],by simp[t8],by simp[t10],by simp[t11],by simp,k.he (eN _ _),by omega,hpl,hM,hx,hst⟩
  refine vPc2 (cJ t1 (cJ t5 (cJ t8 (cJ t11 (cJ t13 (cJ ul2 (cJ un2 (cJ uc2 (cJ ui2 (cJ q (cJ q' (cJ q6 (cJ q6' (cJ ix (cJ c1 c4))))))))))))))) ?_
  refine A_heap ?_
  intro hB hhB
  have eB:HE h hB:=by rw[hhB];exact(((HE.refl h).new _).set (Nat.le_refl _) _).set (Nat.le_refl _) _
  clear hhB
  have pl:=play_ans (k.he eB) (by omega) { c with id:=(L:Int)+1 } (cr.id idR)
  simp only[encC]at pl
  refine A.mono pl ?_
  rintro rv h2 ⟨σ',vs',gs',Q',k2,fr,mv,qt,hlen⟩
  have qt:=qt ⟨c1,c4⟩
  refine vP ?_
  refine vF (cJ t13 wip) ?_
  have hx':L<σ'.xs.length:=by rw[qt.2.2.2.1];exact hx
  exact⟨20-ip,by omega,_,_,ip,σ',vs',gs',Q',n2+1,rfl,rfl,by omega,by omega,by simp[t1],by simp[t5],by simp[t7],by simp[t8],by simp[t10],by simp[t11],by simp,k2,by omega,(fr.hx.pol.trans eB.pol).trans hpl,qt.1.trans hM,hx',(qt.2.2.2.2 L hx hx').1.trans hst⟩
 clear t1 t5 t7 t8 t k3 hpl3 lst exs eS eE eM w3 mv3
 rintro _ s ⟨rfl,t,h,σ2,n2,vs,gs,Q,rfl,t5,t7,t10,t11,k,hn2,hpl,hM,hx,hst⟩
 refine vF (cJ t5 t11) ?_
 refine A.mono (step_i k.inv (by omega) _ idR) ?_
 rintro _ h3 ⟨st,e,σ3,rfl,w3,mv3,sr3⟩
 obtain⟨hM3,hx3,hst3⟩:=sr3.open_ hx hst
 refine vP ?_
 refine vF (cJ t5 t11) ?_
 refine A.mono (state_ans hz h3 g pm σ3.ep σ3.sq σ3.xs σ3.lv σ3.lg w3.1.sys.eng _ idR w3.1.sys.xl2) ?_
 rintro _ h4 ⟨rfl,e4⟩
 rw[stOf_at hx3]
 obtain⟨s3,hs3⟩:∃s3,s3=(σ3.xs[L]).st:=⟨_,rfl⟩
 rw[←hs3]at hst3 ⊢
 refine vP ?_
 refine vPc2 (cJ t5 t11) ?_
 refine A_heap ?_
 intro hB hhB
 have eB:HE h4 hB:=by rw[hhB];exact((HE.refl h4).new _).set (Nat.le_refl _) _
 clear hhB
 have k5:=w3.1.he (e4.trans eB)
 refine A.mono (abort_i k5 _ idR) ?_
 rintro _ h6 ⟨e6,σ6,rfl,w6,mv6,ar6⟩
 have res:σ6.M=σ3.M∧((s3=5∧e6=25)∨(s3=2∧e6=0))∧∃h':L<σ6.xs.length,(σ6.xs[L]).st=5:=by
  rcases hst3 with z | z
  ·obtain⟨a,b,c⟩:=ar6.at5 hx3 (by rw[←hs3];exact z)
   exact⟨a,.inl ⟨z,b⟩,c⟩
  ·obtain⟨a,b,c⟩:=ar6.at2 hx3 (by rw[←hs3];exact z)
   exact⟨a,.inr ⟨z,b⟩,c⟩
 obtain⟨hM6,hse,hx6,hst6⟩:=res
 refine vP ?_
 refine vF (cJ t5 t11) ?_
 refine A.mono (state_ans hz h6 g pm σ6.ep σ6.sq σ6.xs σ6.lv σ6.lg w6.1.sys.eng _ idR w6.1.sys.xl2) ?_
 rintro _ h7 ⟨rfl,e7⟩
 rw[stOf_at hx6,hst6]
 refine vP ?_
 have hMM:σ6.M=σ.M:=hM6.trans (hM3.trans hM)
 have eN:∀a b,HE h6 { h7 with obj:=Mp.set (Mp.set h7.obj h7.no a) h7.no b,no:=h7.no+1 }:=fun a b=>(e7.new a).set e7.no b
 have hpl6:h6.pol=h0.pol:=w6.2.hx.pol.trans (eB.pol.trans (e4.pol.trans (w3.2.hx.pol.trans hpl)))
 have fin:∀hC:Hp Fm,HE h6 hC→OInv hz hC g pm bs σ6 (n2+1)∧hC.pol=h0.pol:=fun hC e=>⟨w6.1.he e,e.pol.trans hpl6⟩
 have am:(allM σ6.M).length≤1000000000:=allM_le (by have:=w6.1.cnt;omega) (by have:=w6.1.len;omega)
 have go:∀hC:Hp Fm,HE h6 hC→A Tryz.prog TT (.func 24) [.ptr pm 0] hC (fun r h'=>(SV 8 ((allM σ6.M).map encV) r)∧HE h6 h'):=fun hC e=>A.mono (PL.all (w6.1.he e) (by omega)) (fun r h' x=>⟨x.1,e.trans x.2⟩)
 rw[←hMM]at svw
 rcases hse with⟨rfl,rfl⟩ | ⟨rfl,rfl⟩
 all_goals
  refine vPc2 (cJ t7 t10) ?_
  refine A.mono (go _ (eN _ _)) ?_
  rintro w2 h8 ⟨svw2,e8⟩
  have wc2:=svw2.cells
  have wi2:=svw2.isCell
  refine vP ?_
  refine vF (cJ t10 (cJ wc2 (cJ wi2 (cJ wc wi)))) ?_
  refine A.mono (same6_ans (allM σ6.M) w2 w svw2 svw h8 am) ?_
  rintro _ h9 ⟨rfl,e9⟩
  refine vP ?_
  refine vZ ?_
  refine A.mono (lives_ans h9 (by rw[e9.pol,e8.pol,hpl6];exact hp) (by rw[e9.pol,e8.pol,hpl6];exact hpo.txp)) ?_
  rintro _ h10 rfl
  refine vP ?_
  refine vZ ?_
  (first | apply endW_r | apply endW_n);(case h1=>(simp[Tryz.results7];first | done | rfl))
  rfl
theorem occaborted_law(l own:List Cl)(v v2:AV)(hv:SV 8 (l.map encC) v)(hv2:SV 8 (own.map encC) v2)(hr:∀c∈l,ClR c)(hr2:∀c∈own,ClR c)(h0:Hp Fm) :
  A Tryz.prog TT (.func 7) [v,v2] h0 (fun r _=>r=.bool true∧True):=
 A.mono (oaborted_ans l own v v2 hv hv2 hr hr2 h0) (fun _ _ e=>⟨e,trivial⟩)
end Go.Vn
