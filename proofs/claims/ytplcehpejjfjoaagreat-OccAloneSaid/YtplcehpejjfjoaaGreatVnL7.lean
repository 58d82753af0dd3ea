/- What functions of the program come to, in the value machine (a part of the proof of the claim's statement). No condition. -/
import Derived.Test.YtplcehpejjfjoaaGreatVnL4
import Derived.Test.YtplcehpejjfjoaaGreatVnL6
set_option linter.unusedSimpArgs false
set_option linter.unusedVariables false
set_option maxRecDepth 20000
namespace Go.Vn
open Go.Proofs
def allM(M:Mem):List Ver:=(keysM M [] [255]).flatMap fun k=>getM k M
set_option maxHeartbeats 1000000 in
theorem oall_ans(pm:Nat)(D:Nat→Prop)(bs:List Br)(M:Mem)(hM:MOk M)(hc:cntM M≤300000)(hml:M.length≤3000)(h0:Hp Fm)(k0:MemH h0 D pm bs M)(hp:h0.pol 187=false)(hp2:h0.pol 117=false)(hp3:h0.pol 9=false) :
  A Tryz.prog TT (.func 24) [.ptr pm 0] h0 (fun r h'=>SV 8 ((allM M).map encV) r∧HE h0 h'):=by
 apply A_go Tryz.func24 rfl (by rfl);(case hn=>(simp[Tryz.ntmps24];rfl))
 refine vZ ?_
 refine A.mono (mkeys_ans [] [255] pm D bs M hM (by omega) (by omega) h0 k0 hp hp2 hp3) ?_
 rintro w hB ⟨sv,eB⟩
 have wc:=sv.cells
 have wi:=sv.isCell
 have wn:=sv.nm
 have wl:=sv.len Tryz.underlying113
 rw[List.length_map]at wl
 have kl:=keysM_len M [] [255]
 obtain⟨ks,hks⟩:∃ks,ks=keysM M [] [255]:=⟨_,rfl⟩
 obtain⟨n,hn⟩:∃n,n=ks.length:=⟨_,rfl⟩
 rw[←hks]at wl sv kl
 rw[←hn]at wl kl
 have bound:∀i,(((ks.take i).flatMap fun k=>getM k M)).length≤i*300000:=by
  intro i
  induction i with
  | zero=>simp
  | succ i ih=>
   by_cases q:i<ks.length
   ·rw[List.take_succ_eq_append_getElem q,List.flatMap_append,List.length_append]
    have:=getM_len ks[i] M
    simp only[List.flatMap_cons,List.flatMap_nil,List.append_nil]
    omega
   ·rw[List.take_of_length_le (by omega)]
    rw[List.take_of_length_le (by omega)]at ih
    exact Nat.le_trans ih (Nat.mul_le_mul_right _ (Nat.le_succ i))
 refine vP ?_
 refine vF (cJ wc (cJ wi (cJ wn wl))) ?_
 refine W_loop (fun z s=>∃(t:Fm AV) (hh:Hp Fm) (i:Nat) (a:AV),s=⟨t,23,hh,none⟩∧z=n-i∧i≤n∧tget t 0=.ptr pm 0∧tget t 3=a∧tget t 4=w∧tget t 5=.int .i64 i∧AC h0 hh 8 (((ks.take i).flatMap fun k=>getM k M).map encV) a∧HE h0 hh) n
  ⟨_,_,0,_,rfl,rfl,by omega,by simp,rfl,by simp,by simp,.inl ⟨by simp,by simp⟩,eB⟩ ?_
 rintro _ s ⟨t,hh,i,a,rfl,rfl,hi,t0,t3,t4,t5,ac,he⟩
 have uc:=ac.sv.cells
 have ui:=ac.sv.isCell
 by_cases q:i<n
 case neg=>
  have q':¬(i:Int)<n:=by omega
  rw[List.take_of_length_le (by omega)]at ac
  refine vF (cJ t3 (cJ t4 (cJ t5 (cJ wc (cJ wi (cJ wn (cJ wl (cJ q (cJ q' (cJ uc ui)))))))))) ?_
  (first | apply endW_r | apply endW_n);(case h1=>(simp[Tryz.results24];first | done | rfl))
  exact⟨by rw[allM,←hks];exact ac.sv,he⟩
 have q':(i:Int)<n:=by omega
 obtain⟨kk,hkk⟩:∃kk,kk=ks[i]'(by omega):=⟨_,rfl⟩
 have ix:=sv.idx (k:=.i64) (i:=(i:Int)) Tryz.underlying113 z9 (by omega) (by rw[List.length_map];omega)
 replace ix:indexAddrAV Tryz.prog 113 w (.int .i64 (i:Int))=some (.el (.str kk) 0):=by rw[ix];simp[hkk]
 obtain⟨ip,hip⟩:∃ip,ip=i+1:=⟨_,rfl⟩
 have wip:IntKind.i64.wrap ((i:Int)+1)=(ip:Int):=by rw[wrap64 (by omega) (by omega)];omega
 have ph:=he.pol
 refine vF (cJ t0 (cJ t3 (cJ t4 (cJ t5 (cJ wc (cJ wi (cJ wn (cJ wl (cJ q (cJ q' (cJ uc (cJ ui ix)))))))))))) ?_
 refine A.mono (mrows_ans kk pm D bs M hM (by omega) hh (k0.he he) (by rw[ph];exact hp) (by rw[ph];exact hp2)) ?_
 rintro rw_ h2 ⟨sl,e2⟩
 have rc:=sl.sv.cells
 have ri:=sl.sv.isCell
 have rn:=sl.sv.nm
 have he2:=he.trans e2
 have ac2:=ac.of e2
 have b1:=bound i
 have b2:=getM_len kk M
 refine vP ?_
 refine vF (cJ t3 (cJ uc (cJ ui (cJ rc ri)))) ?_
 with_reducible apply WO_app_i;(case hw=>(simp[t3,uc,ui,rc,ri];done));(case ho=>rfl);(case hb=>rfl);(case ha=>(simp[t3,uc,ui,rc,ri];first | done | exact⟨rfl,rfl⟩ | rfl));(case h1=>(simp;first | done | rfl));(case h2=>(simp;first | done | rfl))
 refine app_then (AC.appN (h0:=h0) etv ac2 he2 hp2 (SV.newEls sl.sv) (by rw[List.length_map,List.length_map];omega)) ?_
 rintro x4 h4 ⟨ac4,he4,hob,hno,_⟩
 have e4:=ac4.sv.cells
 have f4:=ac4.sv.isCell
 refine vP ?_
 refine vF (cJ t5 (cJ e4 (cJ f4 wip))) ?_
 refine⟨n-ip,by omega,_,_,ip,x4,rfl,rfl,by omega,by simp[t0],by simp,by simp[t4],by simp,?_,he4⟩
 have:((ks.take ip).flatMap fun k=>getM k M).map encV=((ks.take i).flatMap fun k=>getM k M).map encV++(getM kk M).map encV:=by
  rw[hip,List.take_succ_eq_append_getElem (by omega),List.flatMap_append,List.map_append,←hkk];simp
 rw[this]
 exact ac4
end Go.Vn

set_option maxRecDepth 20000
namespace Go.Vn
open Go.Proofs
theorem findR_at{xs:List Tr}{L:Nat}(h:L<xs.length):findR xs ((L:Int)+1)=if (xs[L]).st=5 then 25 else 0:=by
 unfold findR
 rw[if_pos (by omega),show((L:Int)+1-1).toNat=L by omega,List.getD_eq_getElem?_getD,List.getElem?_eq_getElem h];rfl
theorem getSet{xs ys:List Tr}{L:Nat}{x:Tr}(e:ys=xs.set L x)(h:L<xs.length):∃h':L<ys.length,ys[L]=x:=by
 subst e;exact⟨by rw[List.length_set];exact h,by simp⟩
end Go.Vn

set_option maxRecDepth 20000
namespace Go.Vn
open Go.Proofs
theorem pl_begin{hz h1 hA:Hp Fm}{g pm:Nat}{bs:List Br}{D:Nat→Prop}(k0:OInv hz h1 g pm bs ⟨D,1,0,[],.nils,[],[]⟩ 0)(eA:HE h1 hA){pp:Nat}(hpp:pp=h1.no)(gA:Mp.get hA.obj pp=some (.row [.nils]))(nA:hA.no=h1.no+1) :
  PL hz hA g pm bs ⟨D,1,0,[],.nils,[],[]⟩ 0 pp [] [] (fun o=>o=pp):=by
 refine⟨k0.he eA,⟨⟨.nils,gA,.inl ⟨rfl,rfl⟩,fun q hq=>by obtain⟨_,_,_,_,_,e⟩:=hq;cases e⟩,⟨rfl,fun i hi=>by cases hi⟩,by simp,rfl,fun o ho=>by rw[ho];omega⟩,fun o ho=>?_,fun q hq=>by simp at hq,Nat.le_refl _⟩
 rw[ho]
 have h2:=k0.sys.eng.gn
 refine⟨fun z=>?_,fun z=>by have:=k0.sys.mem.lt _ z;omega⟩
 simp only[objsT,List.flatMap_nil,List.mem_cons,List.not_mem_nil,or_false]at z
 omega
theorem PL.all{hz h:Hp Fm}{g pm:Nat}{bs:List Br}{σ:SS}{n:Nat}(k:OInv hz h g pm bs σ n)(hn:n≤75) :
  A Tryz.prog TT (.func 24) [.ptr pm 0] h (fun r h'=>SV 8 ((allM σ.M).map encV) r∧HE h h'):=
 oall_ans pm σ.D bs σ.M k.sys.ok (by have:=k.cnt;omega) (by have:=k.len;omega) h k.sys.mem k.sys.pol.leg k.sys.pol.ver k.sys.pol.str
theorem ClR.id{c:Cl}(h:ClR c){i:Int}(hi:i64R i):ClR { c with id:=i }:=⟨h.1,hi,h.2.2.1,h.2.2.2.1,h.2.2.2.2⟩
end Go.Vn

set_option maxRecDepth 20000
namespace Go.Vn
open Go.Proofs
def FinT(x:Tr):Prop:=x.st=4∨x.st=5
theorem set_ne{xs ys:List Tr}{L i:Nat}{x:Tr}(e:ys=xs.set L x)(h:i<xs.length)(h':i<ys.length)(hn:i≠L):ys[i]=xs[i]:=by
 subst e;exact List.getElem_set_ne (fun z=>hn z.symm) h'
theorem StepR.fin{σ σ':SS}{L:Nat}{st e:Int}(h:StepR σ σ' ((L:Int)+1) st e)(hL:L<σ.xs.length)(hf:FinT σ.xs[L]):σ'=σ:=by
 rcases h with⟨_,rfl,_⟩ | ⟨j,hj,ej,h⟩
 ·rfl
 ·have:j=L:=by omega
  subst this
  unfold FinT at hf
  rcases h with⟨_,rfl,_⟩ | ⟨a,_⟩ | ⟨a,_⟩ | ⟨a,_⟩ | ⟨a,_⟩ | ⟨a,_⟩ | ⟨a,_⟩
  ·rfl
  all_goals omega
theorem AbortR.fin{σ σ':SS}{L:Nat}{e:Int}(h:AbortR σ σ' ((L:Int)+1) e)(hL:L<σ.xs.length)(hf:FinT σ.xs[L]):σ'=σ:=by
 rcases h with⟨_,rfl,_⟩ | ⟨j,hj,ej,_,⟨_,rfl,_⟩ | ⟨a,_⟩⟩
 ·rfl
 ·rfl
 ·have:j=L:=by omega
  subst this
  unfold FinT at hf
  omega
theorem StepR.prog{σ σ':SS}{L:Nat}{st e:Int}(h:StepR σ σ' ((L:Int)+1) st e)(hL:L<σ.xs.length)(hs:σ.sq<100000) :
  ∃h':L<σ'.xs.length,(FinT σ'.xs[L]∨(σ'.xs[L]).st=(σ.xs[L]).st+1)∧∀i (hi:i<σ.xs.length) (hi':i<σ'.xs.length),i≠L→(σ'.xs[i]).st=(σ.xs[i]).st:=by
 have go:∀(x:Tr) (σ'':SS),σ''.xs=σ.xs.set L x→(FinT x∨x.st=(σ.xs[L]).st+1)→∃h':L<σ''.xs.length,(FinT σ''.xs[L]∨(σ''.xs[L]).st=(σ.xs[L]).st+1)∧∀i (hi:i<σ.xs.length) (hi':i<σ''.xs.length),i≠L→(σ''.xs[i]).st=(σ.xs[i]).st:=by
  intro x σ'' e hx
  obtain⟨a,b⟩:=getSet e hL
  exact⟨a,by rw[b];exact hx,fun i hi hi' hn=>by rw[set_ne e hi hi' hn]⟩
 rcases h with⟨a,rfl,_⟩ | ⟨j,hj,ej,h⟩
 ·refine⟨hL,.inl (.inr ?_),fun _ _ _ _=>rfl⟩
  rw[findR_at hL]at a
  by_cases q:(σ'.xs[L]).st=5
  ·exact q
  ·rw[if_neg q]at a;exact absurd rfl a
 ·have:j=L:=by omega
  subst this
  rcases h with⟨a,rfl,_⟩ | ⟨_,_,_,_,rfl⟩ | ⟨a,_,_,_,rfl⟩ | ⟨_,_,_,_,rfl⟩ | ⟨_,b,_⟩ | ⟨a,_,_,_,_,rfl⟩ | ⟨a,_,_,D',M',rfl⟩
  ·exact⟨hL,.inl (.inl a),fun _ _ _ _=>rfl⟩
  ·exact go _ _ rfl (.inl (.inr rfl))
  ·exact go _ _ rfl (.inr (by rw[a];rfl))
  ·exact go _ _ rfl (.inl (.inr rfl))
  ·omega
  ·exact go _ _ rfl (.inr (by rw[a];rfl))
  ·exact go _ _ rfl (.inr (by rw[a];rfl))
theorem three_steps{σ σ1 σ2 σ3:SS}{L:Nat}{s1 s2 s3 e1 e2 e3:Int}(h1:StepR σ σ1 ((L:Int)+1) s1 e1)(h2:StepR σ1 σ2 ((L:Int)+1) s2 e2)(h3:StepR σ2 σ3 ((L:Int)+1) s3 e3)(hL:L<σ.xs.length)(hs:σ.sq≤99990)(h0:1≤(σ.xs[L]).st)(h5:∀(h:L<σ3.xs.length),(σ3.xs[L]).st≤5) :
  ∃h':L<σ3.xs.length,FinT σ3.xs[L]∧∀i (hi:i<σ.xs.length) (hi':i<σ3.xs.length),i≠L→(σ3.xs[i]).st=(σ.xs[i]).st:=by
 have q1:=h1.sq
 have q2:=h2.sq
 have l1:=h1.len
 have l2:=h2.len
 obtain⟨a1,b1,c1⟩:=h1.prog hL (by omega)
 rcases b1 with b1 | b1
 ·have z:=h2.fin a1 b1
  subst z
  have z:=h3.fin a1 b1
  subst z
  exact⟨a1,b1,c1⟩
 obtain⟨a2,b2,c2⟩:=h2.prog a1 (by omega)
 rcases b2 with b2 | b2
 ·have z:=h3.fin a2 b2
  subst z
  exact⟨a2,b2,fun i hi hi' hn=>(c2 i (by omega) hi' hn).trans (c1 i hi (by omega) hn)⟩
 obtain⟨a3,b3,c3⟩:=h3.prog a2 (by omega)
 refine⟨a3,?_,fun i hi hi' hn=>(c3 i (by omega) hi' hn).trans ((c2 i (by omega) (by omega) hn).trans (c1 i hi (by omega) hn))⟩
 rcases b3 with b3 | b3
 ·exact b3
 ·have:=h5 a3
  unfold FinT
  omega
theorem no_lock{ys:List Tr}{L:Nat}(hl:ys.length=L+1)(hL:L<ys.length)(fin:∀i (h:i<ys.length),i<L→FinT ys[i]){x:Tr}(e:(ys[L]).p=x.p)(q:List UInt8→Bool):(ys.any fun y=>lockQ x y q)=false:=by
 rw[List.any_eq_false]
 intro y hy
 obtain⟨i,hi,rfl⟩:=List.getElem_of_mem hy
 by_cases h:i<L
 ·have f:=fin i hi h
  unfold FinT at f
  have n2:¬(ys[i]).st=2:=by omega
  have n3:¬(ys[i]).st=3:=by omega
  simp[lockQ,holds,n2,n3]
 ·have:i=L:=by omega
  subst this
  simp[lockQ,holds,e]
theorem no_going{xs:List Tr}(h:∀i (hi:i<xs.length),FinT xs[i]):cntG xs=0:=by
 unfold cntG
 rw[List.length_eq_zero_iff,List.filter_eq_nil_iff]
 intro y hy
 obtain⟨i,hi,rfl⟩:=List.getElem_of_mem hy
 have f:=h i hi
 unfold FinT at f
 have n:¬(xs[i]).st<4:=by omega
 simp[going,n]
theorem lone_steps{σ σ3 σ4 σ5:SS}{L:Nat}{s1 s2 s3 e1 e2 e3:Int}(h1:StepR σ σ3 ((L:Int)+1) s1 e1)(h2:StepR σ3 σ4 ((L:Int)+1) s2 e2)(h3:StepR σ4 σ5 ((L:Int)+1) s3 e3)(hl:σ.xs.length=L+1)(hL:L<σ.xs.length)(fin:∀i (h:i<σ.xs.length),i<L→FinT σ.xs[i])(ho:(σ.xs[L]).st=1)(fr:FreshT σ.M σ.xs[L])(hs:σ.sq<100000) :
  s1=2∧e1=0∧s2=3∧e2=0∧s3=4∧e3=0∧σ5.xs.any (busyQ 0)=false:=by
 have nl:=no_lock hl hL fin (x:=σ.xs[L]) rfl (wroteQ σ.xs[L])
 rcases h1 with⟨a,_⟩ | ⟨j,hj,ej,h1⟩
 ·rw[findR_at hL,ho]at a;simp at a
 have:j=L:=by omega
 subst this
 rcases h1 with⟨a,_⟩ | ⟨_,a,_⟩ | ⟨_,_,rfl,rfl,rfl⟩ | ⟨a,_⟩ | ⟨a,_⟩ | ⟨a,_⟩ | ⟨a,_⟩
 ·omega
 ·rw[nl]at a;cases a
 rotate_left
 all_goals try omega
 obtain⟨x1,hx1⟩:∃x1:Tr,x1={ σ.xs[j]with st:=2 }:=⟨_,rfl⟩
 obtain⟨xs1,hxs1⟩:∃xs1,xs1=σ.xs.set j { σ.xs[j]with st:=2 }:=⟨_,rfl⟩
 obtain⟨j1,g1⟩:=getSet hxs1 hj
 have l1:xs1.length=j+1:=by rw[hxs1,List.length_set];exact hl
 have fin1:∀i (h:i<xs1.length),i<j→FinT xs1[i]:=fun i h q=>by
  rw[set_ne hxs1 (by omega) h (by omega)];exact fin i (by omega) q
 rw[←hx1]at g1
 have hv:validM xs1 x1 σ.M=true:=by
  unfold validM
  rw[Bool.and_eq_true,List.all_eq_true,List.all_eq_true]
  refine⟨fun s hs=>?_,fun s hs=>?_⟩
  ·unfold readOk
   rw[no_lock l1 j1 fin1 (x:=x1) (by rw[g1]) _,fr.1 s (by rw[hx1]at hs;exact hs)]
   simp
  ·unfold scanOk
   rw[no_lock l1 j1 fin1 (x:=x1) (by rw[g1]) _,fr.2 s (by rw[hx1]at hs;exact hs)]
   simp
 rw[←hxs1]at h2
 rcases h2 with⟨a,_⟩ | ⟨j',hj',ej',h2⟩
 ·change findR xs1 _≠0 at a
  rw[findR_at j1,g1,hx1]at a;simp at a
 have:j'=j:=by omega
 subst this
 change j'<xs1.length at hj'
 change (((xs1[j']).st=4∧_)∨((xs1[j']).st=1∧_)∨((xs1[j']).st=1∧_)∨((xs1[j']).st=2∧validM xs1 xs1[j'] σ.M=false∧_)∨((xs1[j']).st=2∧100000≤σ.sq∧_)∨((xs1[j']).st=2∧_)∨((xs1[j']).st=3∧_))at h2
 have st1:(xs1[j']).st=2:=by rw[g1,hx1]
 rcases h2 with⟨a,_⟩ | ⟨a,_⟩ | ⟨a,_⟩ | ⟨_,a,_⟩ | ⟨_,a,_⟩ | ⟨_,_,_,rfl,rfl,rfl⟩ | ⟨a,_⟩
 ·omega
 ·omega
 ·omega
 ·rw[g1,hv]at a;cases a
 ·omega
 rotate_left
 ·omega
 obtain⟨x2,hx2⟩:∃x2:Tr,x2={ xs1[j']with st:=3,at_:=⟨(xs1[j']).br,σ.ep,σ.sq+1⟩ }:=⟨_,rfl⟩
 obtain⟨xs2,hxs2⟩:∃xs2,xs2=xs1.set j' { xs1[j']with st:=3,at_:=⟨(xs1[j']).br,σ.ep,σ.sq+1⟩ }:=⟨_,rfl⟩
 obtain⟨j2,g2⟩:=getSet hxs2 j1
 have st2:(xs2[j']).st=3:=by rw[g2]
 have l2:xs2.length=j'+1:=by rw[hxs2,List.length_set];exact l1
 have fin2:∀i (h:i<xs2.length),i<j'→FinT xs2[i]:=fun i h q=>by
  rw[set_ne hxs2 (by omega) h (by omega)];exact fin1 i (by omega) q
 rw[←hxs2]at h3
 rcases h3 with⟨a,_⟩ | ⟨j3,hj3,ej3,h3⟩
 ·change findR xs2 _≠0 at a
  rw[findR_at j2,st2]at a;simp at a
 have:j3=j':=by omega
 subst this
 change j3<xs2.length at hj3
 change (((xs2[j3]).st=4∧_)∨((xs2[j3]).st=1∧_)∨((xs2[j3]).st=1∧_)∨((xs2[j3]).st=2∧_)∨((xs2[j3]).st=2∧_)∨((xs2[j3]).st=2∧_)∨((xs2[j3]).st=3∧_∧_∧∃D' M',σ5={ D:=D',ep:=σ.ep,sq:=σ.sq+1,xs:=xs2.set j3 { xs2[j3]with st:=4 },lv:=σ.lv,lg:=σ.lg,M:=M' }))at h3
 rcases h3 with⟨a,_⟩ | ⟨a,_⟩ | ⟨a,_⟩ | ⟨a,_⟩ | ⟨a,_⟩ | ⟨a,_⟩ | ⟨_,rfl,rfl,D',M',rfl⟩
 all_goals try omega
 refine⟨rfl,rfl,rfl,rfl,rfl,rfl,?_⟩
 obtain⟨xs3,hxs3⟩:∃xs3,xs3=xs2.set j3 { xs2[j3]with st:=4 }:=⟨_,rfl⟩
 show(xs2.set j3 { xs2[j3]with st:=4 }).any (busyQ 0)=false
 rw[←hxs3]
 obtain⟨j4,g4⟩:=getSet hxs3 j2
 rw[List.any_eq_false]
 intro y hy
 obtain⟨i,hi,rfl⟩:=List.getElem_of_mem hy
 have l3:xs3.length=j3+1:=by rw[hxs3,List.length_set];exact l2
 by_cases h:i<j3
 ·have f:=fin2 i (by omega) h
  rw[set_ne hxs3 (by omega) hi (by omega)]
  unfold FinT at f
  have n:¬(xs2[i]).st<4:=by omega
  simp[busyQ,going,n]
 ·have:i=j3:=by omega
  subst this
  rw[g4]
  simp[busyQ,going]
end Go.Vn

set_option maxRecDepth 20000
namespace Go.Vn
open Go.Proofs
theorem vPe1{G K:Prop}(k:K)(h:K→G:=by intro k;(repeat(first|with_reducible first|refine vmR ?_|refine vmV rfl ?_|refine vmW rfl ?_|refine vmL ?_|refine blockW_y (by decide) ?_|((with_reducible first|apply vmO|apply vmT|apply vmC);case a=>simp[eqlAV];with_reducible first|exact .v|exact .c|exact .t|exact .f)));exact k):G:=h k
theorem vPe2{F G K:Prop}(f:F)(k:K)(h:F→K→G:=by intro f k;(repeat(first|with_reducible first|refine vmR ?_|refine vmV rfl ?_|refine vmW rfl ?_|refine vmL ?_|refine blockW_y (by decide) ?_|((with_reducible first|apply vmO|apply vmT|apply vmC);case a=>simp[f,splice];with_reducible first|exact .v|exact .c|exact .t|exact .f)));exact k):G:=h f k
set_option maxHeartbeats 4000000 in
theorem oalone_ans(l own:List Cl)(v v2:AV)(hv:SV 8 (l.map encC) v)(hv2:SV 8 (own.map encC) v2)(hr:∀c∈l,ClR c)(hr2:∀c∈own,ClR c)(hz0:Hp Fm) :
  A Tryz.prog TT (.func 5) [v,v2] hz0 (fun r _=>r=.bool true):=by
 have vc:=hv.cells
 have vi:=hv.isCell
 have vn:=hv.nm
 have vl:=hv.len Tryz.underlying22
 rw[List.length_map]at vl
 obtain⟨N,hN⟩:∃N,N=l.length:=⟨_,rfl⟩
 rw[←hN]at vl
 have uc2:=hv2.cells
 have ui2:=hv2.isCell
 have un2:=hv2.nm
 have ul2:=hv2.len Tryz.underlying22
 rw[List.length_map]at ul2
 obtain⟨N2,hN2⟩:∃N2,N2=own.length:=⟨_,rfl⟩
 rw[←hN2]at ul2
 obtain⟨h0,hh0⟩:∃h0:Hp Fm,h0={ hz0 with pol:=(· == 93) }:=⟨_,rfl⟩
 have hp:h0.pol 93=true:=by rw[hh0];rfl
 have hpo:PolOk h0.pol:=by rw[hh0];exact polLaw
 apply A_goT Tryz.func5 rfl (by rfl);(case hn=>(simp[Tryz.ntmps5];rfl))
 refine vZ ?_
 rw[←hh0]
 refine A.mono (obegin3_ans h0 hp hpo) ?_
 rintro _ h1 ⟨g,e,pm,bs,D,rfl,k0,e01⟩
 obtain⟨hz,hhz⟩:∃hz:Hp Fm,hz={ h0 with no:=0,ng:=0 }:=⟨_,rfl⟩
 rw[←hhz]at k0
 have hpol1:h1.pol=h0.pol:=e01.pol
 refine vP ?_
 refine vPe1 ?_
 refine W_heap ?_
 intro hA hhA
 have eA:HE h1 hA:=by rw[hhA];exact(HE.refl h1).new _
 have gA:Mp.get hA.obj h1.no=some (.row [.nils]):=by rw[hhA];simp
 have nA:hA.no=h1.no+1:=by rw[hhA]
 clear hhA
 obtain⟨pp,hpp⟩:∃pp,pp=h1.no:=⟨_,rfl⟩
 rw[←hpp]at gA ⊢
 have kA:=pl_begin k0 eA hpp gA nA
 refine W.mono (R:=fun e s=>e=.exit 0∧∃(t:Fm AV) (h:Hp Fm) (σ:SS) (n:Nat) (vs:List AV) (gs:List (List Nat)) (Q:Nat→Prop),s=⟨t,151,h,none⟩∧tget t 1=v2∧tget t 5=.ptr g 0∧tget t 8=.ptr pp 0∧PL hz h g pm bs σ n pp vs gs Q∧n≤40∧vs.length=σ.xs.length∧σ.sq≤40∧h.pol=h0.pol) ?_ ?_
 ·refine W_loop (fun z s=>∃(t:Fm AV) (h:Hp Fm) (i:Nat) (σ:SS) (vs:List AV) (gs:List (List Nat)) (Q:Nat→Prop),s=⟨t,151,h,none⟩∧z=40-i∧i≤40∧i≤N∧tget t 0=v∧tget t 1=v2∧tget t 5=.ptr g 0∧tget t 8=.ptr pp 0∧tget t 9=.int .i64 i∧PL hz h g pm bs σ i pp vs gs Q∧vs.length=σ.xs.length∧σ.sq≤i∧h.pol=h0.pol) 40
   ⟨_,_,0,⟨D,1,0,[],.nils,[],[]⟩,[],[],_,rfl,by omega,by omega,by omega,by simp,by simp,by simp,by simp,by simp,kA,rfl,Int.le_refl _,eA.pol.trans hpol1⟩ ?_
  rintro _ s ⟨t,h,i,σ,vs,gs,Q,rfl,rfl,hi,hiN,t0,t1,t5,t8,t9,k,hvl,hsq,hpl⟩
  by_cases q:i<N
  case neg=>
   have q':¬(i:Int)<N:=by omega
   refine vF (cJ t0 (cJ t9 (cJ vl (cJ vn (cJ vc (cJ vi (cJ q q'))))))) ?_
   exact⟨rfl,_,_,σ,i,vs,gs,Q,rfl,by simp[t1],by simp[t5],by simp[t8],k,by omega,hvl,by omega,hpl⟩
  have q':(i:Int)<N:=by omega
  by_cases q6:i<40
  case neg=>
   have q6':¬(i:Int)<40:=by omega
   refine vF (cJ t0 (cJ t9 (cJ vl (cJ vn (cJ vc (cJ vi (cJ q (cJ q' (cJ q6 q6'))))))))) ?_
   exact⟨rfl,_,_,σ,i,vs,gs,Q,rfl,by simp[t1],by simp[t5],by simp[t8],k,by omega,hvl,by omega,hpl⟩
  have q6':(i:Int)<40:=by omega
  obtain⟨c,hc⟩:∃c,c=l[i]'(by omega):=⟨_,rfl⟩
  have ix:=hv.idx (k:=.i64) (i:=(i:Int)) Tryz.underlying22 z35 (by omega) (by rw[List.length_map];omega)
  replace ix:indexAddrAV Tryz.prog 22 v (.int .i64 (i:Int))=some (.el (encC c) 0):=by rw[ix];simp[hc]
  simp only[encC]at ix
  obtain⟨ip,hip⟩:∃ip,ip=i+1:=⟨_,rfl⟩
  have wip:IntKind.i64.wrap ((i:Int)+1)=(ip:Int):=by rw[wrap64 (by omega) (by omega)];omega
  have pl:=play_ans k (by omega) c (hr c (by rw[hc];exact List.getElem_mem _))
  simp only[encC]at pl
  refine vF (cJ t0 (cJ t5 (cJ t8 (cJ t9 (cJ vl (cJ vn (cJ vc (cJ vi (cJ q (cJ q' (cJ q6 (cJ q6' ix)))))))))))) ?_
  refine A.mono pl ?_
  rintro rv h2 ⟨σ',vs',gs',Q',k2,fr,mv,_,hlen,hsq'⟩
  refine vP ?_
  refine vF (cJ t9 wip) ?_
  exact⟨40-ip,by omega,_,_,ip,σ',vs',gs',Q',rfl,rfl,by omega,by omega,by simp[t0],by simp[t1],by simp[t5],by simp[t8],by simp,by rw[hip];exact k2,by omega,by omega,fr.hx.pol.trans hpl⟩
 rintro e2 s ⟨rfl,t,h,σ,n,vs,gs,Q,rfl,t1,t5,t8,k,hn,hvl,hsq,hpl⟩
 clear hv vc vi vn vl hr k0 kA eA gA nA
 obtain⟨X,hX⟩:∃X,X=vs.length:=⟨_,rfl⟩
 have hXx:σ.xs.length=X:=by omega
 have hXn:X≤40:=by have:=k.inv.xl;omega
 refine vZ ?_
 refine W.mono (R:=fun e s=>e=.exit 2∧∃(t:Fm AV) (h:Hp Fm) (σ:SS) (n:Nat),s=⟨t,151,h,none⟩∧tget t 1=v2∧tget t 5=.ptr g 0∧tget t 8=.ptr pp 0∧PL hz h g pm bs σ n pp vs gs Q∧n≤160∧σ.xs.length=X∧σ.sq≤160∧(∀i (hi:i<σ.xs.length),FinT σ.xs[i])∧h.pol=h0.pol) ?_ ?_
 ·refine W_loop (fun z s=>∃(t:Fm AV) (h:Hp Fm) (i:Nat) (σ:SS) (n:Nat),s=⟨t,151,h,none⟩∧z=X-i∧i≤X∧tget t 1=v2∧tget t 5=.ptr g 0∧tget t 8=.ptr pp 0∧tget t 10=.int .i64 ((i:Int)+1)∧PL hz h g pm bs σ n pp vs gs Q∧n≤40+3*i∧σ.xs.length=X∧σ.sq≤40+3*i∧(∀j (hj:j<σ.xs.length),j<i→FinT σ.xs[j])∧h.pol=h0.pol) X
   ⟨_,_,0,σ,n,rfl,by omega,by omega,by simp[t1],by simp[t5],by simp[t8],by simp,k,by omega,hXx,by omega,fun j hj z=>by omega,hpl⟩ ?_
  clear t1 t5 t8 t k hpl hvl hsq hXx h σ hn
  rintro _ s ⟨t,h,i,σ,n,rfl,rfl,hi,t1,t5,t8,t10,k,hn,hXx,hsq,hfin,hpl⟩
  obtain⟨Lv,gp,rs,rq⟩:=k.past.ex
  have Lc:=rs.cells
  have Li:=rs.isCell
  have Ln:=rs.nm
  have Ll:=rs.len Tryz.underlying56
  rw[←hX]at Ll
  obtain⟨ii,hii⟩:∃ii:Int,ii=(i:Int)+1:=⟨_,rfl⟩
  rw[←hii]at t10
  by_cases q:i<X
  case neg=>
   have q':¬ii≤(X:Int):=by omega
   refine vF (cJ t8 (cJ t10 (cJ gp (cJ Lc (cJ Li (cJ Ln (cJ Ll q'))))))) ?_
   exact⟨rfl,_,_,σ,n,rfl,by simp[t1],by simp[t5],by simp[t8],k,by omega,hXx,by omega,fun j hj=>hfin j hj (by omega),hpl⟩
  have q':ii≤(X:Int):=by omega
  have idR:i64R ((i:Int)+1):=by unfold i64R;omega
  obtain⟨ip,hip⟩:∃ip,ip=i+1:=⟨_,rfl⟩
  have wip:IntKind.i64.wrap (ii+1)=(ip:Int)+1:=by rw[wrap64 (by omega) (by omega)];omega
  have hiL:i<σ.xs.length:=by omega
  have s1:=step_i k.inv (by omega) _ idR
  rw[←hii]at s1
  refine vF (cJ t5 (cJ t8 (cJ t10 (cJ gp (cJ Lc (cJ Li (cJ Ln (cJ Ll q')))))))) ?_
  refine A.mono s1 ?_
  rintro _ h1 ⟨st1,er1,σ1,rfl,w1,mv1,sr1⟩
  have k1:=k.went w1 (by rw[sr1.len];exact Nat.le_refl _) (by omega)
  refine vP ?_
  have s2:=step_i k1.inv (by omega) _ idR
  rw[←hii]at s2
  refine vF (cJ t5 t10) ?_
  refine A.mono s2 ?_
  rintro _ h2 ⟨st2,er2,σ2,rfl,w2,mv2,sr2⟩
  have k2:=k1.went w2 (by rw[sr2.len];exact Nat.le_refl _) (by omega)
  refine vP ?_
  have s3:=step_i k2.inv (by omega) _ idR
  rw[←hii]at s3
  refine vF (cJ t5 t10) ?_
  refine A.mono s3 ?_
  rintro _ h3 ⟨st3,er3,σ3,rfl,w3,mv3,sr3⟩
  have k3:=k2.went w3 (by rw[sr3.len];exact Nat.le_refl _) (by omega)
  refine vP ?_
  have s4:=abort_i k3.inv _ idR
  rw[←hii]at s4
  refine vF (cJ t5 t10) ?_
  refine A.mono s4 ?_
  rintro _ h4 ⟨er4,σ4,rfl,w4,mv4,ar4⟩
  have k4:=k3.went w4 (by rw[ar4.len];exact Nat.le_refl _) (Nat.le_refl _)
  refine vP ?_
  rw[hii]at sr1 sr2 sr3 ar4
  have hsq1:=sr1.sq
  have hsq2:=sr2.sq
  have hsq3:=sr3.sq
  have hl3:σ3.xs.length=σ.xs.length:=sr3.len.trans (sr2.len.trans sr1.len)
  obtain⟨hx3,hf3,ho3⟩:=three_steps sr1 sr2 sr3 hiL (by omega) (k.inv.tx _ (List.getElem_mem hiL)).st.1 (fun hh=>(k3.inv.tx _ (List.getElem_mem hh)).st.2)
  have e4:=ar4.fin hx3 hf3
  subst e4
  refine vF (cJ t10 wip) ?_
  refine⟨X-ip,by omega,_,_,ip,σ4,n+1+1+1,rfl,rfl,by omega,by simp[t1],by simp[t5],by simp[t8],by simp,k4,by omega,by omega,by omega,fun j hj z=>?_,w4.2.hx.pol.trans (w3.2.hx.pol.trans (w2.2.hx.pol.trans (w1.2.hx.pol.trans hpl)))⟩
  by_cases qj:j=i
  ·subst qj;exact hf3
  ·have f:=hfin j (by omega) (by omega)
   have e:=ho3 j (by omega) hj qj
   unfold FinT at f ⊢
   omega
 clear t1 t5 t8 t k hpl hvl hsq hXx h σ hn
 rintro _ s ⟨rfl,t,h2,σ,n,rfl,t1,t5,t8,k2,hn,hXx,hsq,hfin,hpl2⟩
 refine vF t5 ?_
 refine A.mono (begin_i k2.inv (by omega)) ?_
 rintro _ h3 ⟨id,ee,σ1,rfl,w3,mv3,hres⟩
 have hpl3:h3.pol=h0.pol:=w3.2.hx.pol.trans hpl2
 refine vP ?_
 rcases hres with⟨_,q6,_⟩ | ⟨rfl,rfl,q6,eM,eE,eS,p,m,exs⟩
 ·rw[no_going hfin]at q6;omega
 obtain⟨L,hL⟩:∃L,L=σ.xs.length:=⟨_,rfl⟩
 have idR:i64R ((L:Int)+1):=by unfold i64R;omega
 rw[←hL]
 have k3:=k2.went w3 (by rw[exs,List.length_append];omega) (by omega)
 have lst:σ1.xs.length=L+1∧(∀i (hi:i<σ1.xs.length),i<L→FinT σ1.xs[i])∧∃h':L<σ1.xs.length,(σ1.xs[L]).st=1∧FreshT σ1.M σ1.xs[L]:=by
  have g1:∀(M:Mem) (ys:List Tr),ys=σ.xs++[newTr p m 0]→ys.length=L+1∧(∀i (hi:i<ys.length),i<L→FinT ys[i])∧∃h':L<ys.length,(ys[L]).st=1∧FreshT M ys[L]:=fun M ys e=>by
   subst e
   have e2:∀(hh:L<(σ.xs++[newTr p m 0]).length),(σ.xs++[newTr p m 0])[L]=newTr p m 0:=fun hh=>by
    rw[List.getElem_append_right (by omega)];simp
   refine⟨by rw[List.length_append,List.length_singleton];omega,fun i hi q=>?_,by rw[List.length_append,List.length_singleton];omega,?_,?_⟩
   ·rw[List.getElem_append_left (by omega)];exact hfin i (by omega)
   ·rw[e2];rfl
   ·rw[e2];exact⟨fun s hs=>by simp[newTr]at hs,fun s hs=>by simp[newTr]at hs⟩
  exact g1 σ1.M _ exs
 refine vZ ?_
 refine W.mono (R:=fun e s=>e=.exit 4∧∃(t:Fm AV) (h:Hp Fm) (σ2:SS) (n2:Nat) (vs:List AV) (gs:List (List Nat)) (Q:Nat→Prop),s=⟨t,151,h,none⟩∧tget t 5=.ptr g 0∧tget t 11=.int .i64 ((L:Int)+1)∧PL hz h g pm bs σ2 n2 pp vs gs Q∧n2≤200∧h.pol=h0.pol∧σ2.sq≤160∧σ2.xs.length=L+1∧(∀i (hi:i<σ2.xs.length),i<L→FinT σ2.xs[i])∧∃h':L<σ2.xs.length,(σ2.xs[L]).st=1∧FreshT σ2.M σ2.xs[L]) ?_ ?_
 ·refine W_loop (fun z s=>∃(t:Fm AV) (h:Hp Fm) (i:Nat) (σ2:SS) (vs:List AV) (gs:List (List Nat)) (Q:Nat→Prop) (n2:Nat),s=⟨t,151,h,none⟩∧z=20-i∧i≤20∧i≤N2∧tget t 1=v2∧tget t 5=.ptr g 0∧tget t 8=.ptr pp 0∧tget t 11=.int .i64 ((L:Int)+1)∧tget t 13=.int .i64 i∧PL hz h g pm bs σ2 n2 pp vs gs Q∧n2≤161+i∧h.pol=h0.pol∧σ2.sq≤160∧σ2.xs.length=L+1∧(∀i (hi:i<σ2.xs.length),i<L→FinT σ2.xs[i])∧∃h':L<σ2.xs.length,(σ2.xs[L]).st=1∧FreshT σ2.M σ2.xs[L]) 20
   ⟨_,_,0,σ1,vs,gs,Q,n+1,rfl,by omega,by omega,by omega,by simp[t1],by simp[t5],by simp[t8],by simp,by simp,k3,by omega,hpl3,by omega,lst⟩ ?_
  clear t1 t5 t8 t k3 hpl3 lst exs eS eE eM w3 mv3 h3
  rintro _ s ⟨t,h,i,σ2,vs,gs,Q,n2,rfl,rfl,hi,hiN,t1,t5,t8,t11,t13,k,hn2,hpl,hsq2,hl2,hf2,hx,hst,hfr⟩
  by_cases q:i<N2
  case neg=>
   have q':¬(i:Int)<N2:=by omega
   refine vF (cJ t1 (cJ t13 (cJ ul2 (cJ un2 (cJ uc2 (cJ ui2 (cJ q q'))))))) ?_
   exact⟨rfl,_,_,σ2,n2,vs,gs,Q,rfl,by simp[t5],by simp[t11],k,by omega,hpl,hsq2,hl2,hf2,hx,hst,hfr⟩
  have q':(i:Int)<N2:=by omega
  by_cases q6:i<20
  case neg=>
   have q6':¬(i:Int)<20:=by omega
   refine vF (cJ t1 (cJ t13 (cJ ul2 (cJ un2 (cJ uc2 (cJ ui2 (cJ q (cJ q' (cJ q6 q6'))))))))) ?_
   exact⟨rfl,_,_,σ2,n2,vs,gs,Q,rfl,by simp[t5],by simp[t11],k,by omega,hpl,hsq2,hl2,hf2,hx,hst,hfr⟩
  have q6':(i:Int)<20:=by omega
  obtain⟨c,hc⟩:∃c,c=own[i]'(by omega):=⟨_,rfl⟩
  have ix:=hv2.idx (k:=.i64) (i:=(i:Int)) Tryz.underlying22 z35 (by omega) (by rw[List.length_map];omega)
  replace ix:indexAddrAV Tryz.prog 22 v2 (.int .i64 (i:Int))=some (.el (encC c) 0):=by rw[ix];simp[hc]
  simp only[encC]at ix
  obtain⟨ip,hip⟩:∃ip,ip=i+1:=⟨_,rfl⟩
  have wip:IntKind.i64.wrap ((i:Int)+1)=(ip:Int):=by rw[wrap64 (by omega) (by omega)];omega
  have cr:=hr2 c (by rw[hc];exact List.getElem_mem _)
  have eN:∀a b,HE h { h with obj:=Mp.set (Mp.set h.obj h.no a) h.no b,no:=h.no+1 }:=fun a b=>((HE.refl h).new a).set (Nat.le_refl _) b
  by_cases c1:1≤c.k
  case neg=>
   refine vPe2 (cJ t1 (cJ t13 (cJ ul2 (cJ un2 (cJ uc2 (cJ ui2 (cJ q (cJ q' (cJ q6 (cJ q6' (cJ ix (cJ c1 wip)))))))))))) ?_
   exact⟨20-ip,by omega,_,_,ip,σ2,vs,gs,Q,n2,rfl,rfl,by omega,by omega,by simp[t1],by simp[t5],by simp[t8],by simp[t11],by simp,k.he (eN _ _),by omega,hpl,hsq2,hl2,hf2,hx,hst,hfr⟩
  by_cases c4:c.k≤4
  case neg=>
   refine vPe2 (cJ t1 (cJ t13 (cJ ul2 (cJ un2 (cJ uc2 (cJ ui2 (cJ q (cJ q' (cJ q6 (cJ q6' (cJ ix (cJ c1 (cJ c4 wip))))))))))))) ?_
   exact⟨20-ip,by omega,_,_,ip,σ2,vs,gs,Q,n2,rfl,rfl,by omega,by omega,by simp[t1],by simp[t5],by simp[t8],by simp[t11],by simp,k.he (eN _ _),by omega,hpl,hsq2,hl2,hf2,hx,hst,hfr⟩
  refine vPe2 (cJ t1 (cJ t5 (cJ t8 (cJ t11 (cJ t13 (cJ ul2 (cJ un2 (cJ uc2 (cJ ui2 (cJ q (cJ q' (cJ q6 (cJ q6' (cJ ix (cJ c1 c4))))))))))))))) ?_
  refine A_heap ?_
  intro hB hhB
  have eB:HE h hB:=by rw[hhB];exact(((HE.refl h).new _).set (Nat.le_refl _) _).set (Nat.le_refl _) _
  clear hhB
  have pl:=play_ans (k.he eB) (by omega) { c with id:=(L:Int)+1 } (cr.id idR)
  simp only[encC]at pl
  refine A.mono pl ?_
  rintro rv h2 ⟨σ',vs',gs',Q',k2,fr,mv,qt,hlen,hsq'⟩
  have qt:=qt ⟨c1,c4⟩
  refine vP ?_
  refine vF (cJ t13 wip) ?_
  have hx':L<σ'.xs.length:=by rw[qt.2.2.2.1];exact hx
  have qL:=qt.2.2.2.2 L hx hx'
  refine⟨20-ip,by omega,_,_,ip,σ',vs',gs',Q',n2+1,rfl,rfl,by omega,by omega,by simp[t1],by simp[t5],by simp[t8],by simp[t11],by simp,k2,by omega,(fr.hx.pol.trans eB.pol).trans hpl,by rw[qt.2.2.1];exact hsq2,qt.2.2.2.1.trans hl2,fun j hj z=>?_,hx',qL.1.trans hst,by rw[qt.1];exact qL.2.2 hfr⟩
  have hj2:j<σ2.xs.length:=by rw[←qt.2.2.2.1];exact hj
  have f:=hf2 j hj2 z
  have e:=(qt.2.2.2.2 j hj2 hj).1
  unfold FinT at f ⊢
  omega
 clear t1 t5 t8 t k3 hpl3 lst exs eS eE eM w3 mv3
 rintro _ s ⟨rfl,t,h,σ2,n2,vs,gs,Q,rfl,t5,t11,k,hn2,hpl,hsq2,hl2,hf2,hx,hst,hfr⟩
 refine vF (cJ t5 t11) ?_
 refine A.mono (step_i k.inv (by omega) _ idR) ?_
 rintro _ h3 ⟨st1,er1,σ3,rfl,w3,mv3,sr3⟩
 refine vP ?_
 refine vF (cJ t5 t11) ?_
 refine A.mono (step_i w3.1 (by omega) _ idR) ?_
 rintro _ h4 ⟨st2,er2,σ4,rfl,w4,mv4,sr4⟩
 refine vP ?_
 refine vF (cJ t5 t11) ?_
 refine A.mono (step_i w4.1 (by omega) _ idR) ?_
 rintro _ h5 ⟨st3,er3,σ5,rfl,w5,mv5,sr5⟩
 obtain⟨rfl,rfl,rfl,rfl,rfl,rfl,hb⟩:=lone_steps sr3 sr4 sr5 hl2 hx hf2 hst hfr (by omega)
 have hpl5:h5.pol=h0.pol:=w5.2.hx.pol.trans (w4.2.hx.pol.trans (w3.2.hx.pol.trans hpl))
 refine vP ?_
 refine vF t5 ?_
 refine A.mono (busy_ans hz h5 g pm σ5.ep σ5.sq σ5.xs σ5.lv σ5.lg w5.1.sys.eng 0 w5.1.sys.xl2) ?_
 rintro _ h6 ⟨rfl,e6⟩
 rw[hb]
 refine vP ?_
 refine vZ ?_
 refine A.mono (lives_ans h6 (by rw[e6.pol,hpl5];exact hp) (by rw[e6.pol,hpl5];exact hpo.txp)) ?_
 rintro _ h7 rfl
 refine vP ?_
 refine vZ ?_
 (first | apply endW_r | apply endW_n);(case h1=>(simp[Tryz.results5];first | done | rfl))
 rfl
theorem occalone_law(l own:List Cl)(v v2:AV)(hv:SV 8 (l.map encC) v)(hv2:SV 8 (own.map encC) v2)(hr:∀c∈l,ClR c)(hr2:∀c∈own,ClR c)(h0:Hp Fm) :
  A Tryz.prog TT (.func 5) [v,v2] h0 (fun r _=>r=.bool true∧True):=
 A.mono (oalone_ans l own v v2 hv hv2 hr hr2 h0) (fun _ _ e=>⟨e,trivial⟩)
end Go.Vn
