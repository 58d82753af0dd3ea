/- What functions of the program come to, in the value machine (a part of the proof of the claim's statement). No condition. -/
import Derived.Test.YtplcehpejjfjoaaGreatVnG6
set_option linter.unusedSimpArgs false
set_option linter.unusedVariables false
set_option maxRecDepth 20000
namespace Go.Vn
open Go.Proofs
theorem guP:(Tryz.prog.stoodInHeld 49 || Tryz.prog.eqGuardType Tryz.prog.depth 49)=false:=by kernel_rfl
theorem guS:(Tryz.prog.stoodInHeld 33 || Tryz.prog.eqGuardType Tryz.prog.depth 33)=false:=by kernel_rfl
theorem eqB_iff(a b:List UInt8):eqB a b=decide (a=b):=by rw[eqB_eq];by_cases h:a=b <;> simp[h]
theorem eql9(d:Nat)(a b:List UInt8):eqlAV Tryz.prog (d+1) 9 (.str a) (.str b)=some (eqB a b):=by simp[eqlAV]
theorem eqlS(d:Nat)(a b x y:Int):eqlAV Tryz.prog (d+2) 33 (.agg [.int .i64 a,.int .i64 b]) (.agg [.int .i64 x,.int .i64 y])=some (decide (a=x)&&decide (b=y)):=by
 unfold eqlAV
 simp only[Tryz.underlying33,guS,List.toList_toArray,List.foldr_cons,List.foldr_nil]
 simp[eqlAV]
 by_cases h1:a=x <;> by_cases h2:b=y <;> simp[h1,h2]
theorem eqlP(x y:Pc):eqlAV Tryz.prog 20 49 (encP x) (encP y)=some (decide (x=y)):=by
 obtain⟨a1,b1,c1⟩:=x
 obtain⟨a2,b2,c2⟩:=y
 unfold eqlAV
 simp only[Tryz.underlying49,guP,List.toList_toArray,List.foldr_cons,List.foldr_nil]
 simp[eql9,eqlS,eqB_iff]
 by_cases h1:a1=a2 <;> by_cases h2:b1=b2 <;> by_cases h3:c1=c2 <;> simp[h1,h2,h3]
theorem part3{cs:List AV}{off:Nat}{a b c:AV}(h:partAV true 3 cs off=some (.agg [a,b,c])):partAV false 1 cs off=some a∧(∀y,splice cs (off+1) [y]=splice cs off [a,y,c])∧off+3≤cs.length:=by
 unfold partAV at h
 rw[if_pos rfl]at h
 split at h
 ·rename_i hl
  injection h with h
  injection h with h
  obtain⟨D,hD⟩:∃D,D=cs.drop (off+3):=⟨_,rfl⟩
  have hd:cs.drop off=a::b::c::D:=by
   have:=List.take_append_drop 3 (cs.drop off)
   rw[h,List.drop_drop,←hD]at this
   simpa using this.symm
  obtain⟨A,hA⟩:∃A,A=cs.take off:=⟨_,rfl⟩
  have hcs:cs=A++a::b::c::D:=by rw[hA,←hd,List.take_append_drop]
  have hAl:A.length=off:=by rw[hA,List.length_take];omega
  refine⟨?_,?_,hl⟩
  ·unfold partAV
   rw[if_neg (by simp),hcs,List.getElem?_append_right (by omega),hAl,Nat.sub_self];rfl
  ·intro y
   unfold splice
   have t1:cs.take (off+1)=A++[a]:=by rw[hcs,List.take_append,hAl,List.take_of_length_le (by omega)];simp
   have t2:cs.take off=A:=hA.symm
   have d1:cs.drop (off+1+[y].length)=c::D:=by
    rw[show off+1+[y].length=off+2 by rfl,←List.drop_drop,hd];rfl
   have d2:cs.drop (off+[a,y,c].length)=D:=by rw[hD];rfl
   rw[t1,t2,d1,d2];simp
 ·cases h
theorem leastS_len(out:List Pc)(p:Pc):(leastS out p).length≤out.length+1:=by
 rcases snoc_cases out with rfl | ⟨m,q,rfl⟩
 ·simp[leastS_nil]
 ·rw[leastS_snoc];split <;> simp
theorem least_len_go:∀(l out:List Pc),(l.foldl leastS out).length≤out.length+l.length
 | [],out=>by simp
 | p::l,out=>by
  have:=leastS_len out p
  have:=least_len_go l (leastS out p)
  rw[List.foldl_cons,List.length_cons];omega
theorem vQo77{F G K:Prop}(f:F)(k:K)(h:F→K→G:=by intro f k;(repeat(first|with_reducible first|refine vmR ?_|refine vmV rfl ?_|refine vmW rfl ?_|refine vmL ?_|refine blockW_y (by decide) ?_|((with_reducible first|apply vmO|apply vmT|apply vmC);case a=>simp[f,newSeq];with_reducible first|exact .v|exact .c|exact .t|exact .f)));exact k):G:=h f k
set_option maxHeartbeats 4000000 in
theorem least_ans(ps:List Pc)(v:AV)(hv:SV 3 (ps.map encP) v)(hl:ps.length≤16000000)(h0:Hp Fm) :
  A Tryz.prog TT (.func 66) [v] h0 (fun r h'=>SL 3 ((leastP ps).map encP) r∧HE h0 h'):=by
 have vc:=hv.cells
 have vd:=hv.isCell
 have l1:=hv.len Tryz.underlying42
 rw[List.length_map]at l1
 have n1:=hv.nm
 apply A_goT Tryz.func66 rfl (by rfl);(case hn=>(simp[Tryz.ntmps66];rfl))
 obtain⟨hq,hhq⟩:∃hq:Hp Fm,hq={ h0 with pol:=(· == 49) }:=⟨_,rfl⟩
 have hqp:hq.pol=(· == 49):=by rw[hhq]
 rw[←hhq]
 refine vF (cJ l1 n1) ?_
 refine W_loop (fun m s=>∃(t:Fm AV) (h:Hp Fm) (i:Nat) (u:AV),s=⟨t,52,h,none⟩∧m=ps.length-i∧i≤ps.length∧tget t 7=v∧tget t 8=.int .i64 ps.length∧tget t 9=.int .i64 i∧tget t 3=u∧RS hq.no h 3 true (((ps.take i).foldl leastS []).map encP) u∧HE hq h) ps.length
  ⟨_,_,0,.nils,rfl,rfl,by omega,by simp,by simp,by simp,by simp,.inl ⟨rfl,by simp⟩,HE.refl _⟩ ?_
 rintro m s ⟨t,h,i,u,rfl,rfl,hi,t7,t8,t9,t3,hu,he⟩
 have uc:=hu.cells
 have ud:=hu.isCell
 by_cases qi:i<ps.length
 case neg=>
  have qn:¬(i<ps.length):=qi
  refine vF (cJ t7 (cJ t8 (cJ t9 (cJ t3 (cJ qi (cJ qn (cJ uc ud))))))) ?_
  (first | apply endW_r | apply endW_n);(case h1=>(simp[Tryz.results66];first | done | rfl))
  rw[List.take_of_length_le (by omega)]at hu
  obtain⟨f1,f2⟩:=hu.frz (fitPs _) (by omega) (fun e=>by cases e)
  have f3:=he.x2 f2 hu.rows (fun _ e=>e.elim)
  have f4:=hu.frzL (fitPs _) (by omega) (fun e=>by cases e)
  simp only[t3]
  refine⟨f4,?_⟩
  subst hhq
  exact⟨f3.no,f3.ng,rfl,f3.obj,f3.len⟩
 have i1:=hv.idx Tryz.underlying42 z49 (k:=.i64) (i:=i) (by simp) (by simpa using qi)
 simp only[List.getElem_map,Int.toNat_natCast]at i1
 have hal:=least_len_go (ps.take i) []
 rw[List.length_take,List.length_nil]at hal
 have htk:(ps.take (i+1)).foldl leastS []=leastS ((ps.take i).foldl leastS []) ps[i]:=by
  rw[List.take_succ_eq_append_getElem qi,List.foldl_append];rfl
 obtain⟨acc,hacc⟩:∃acc,acc=(ps.take i).foldl leastS []:=⟨_,rfl⟩
 obtain⟨x,hx⟩:∃x,x=ps[i]:=⟨_,rfl⟩
 rw[←hacc]at hu htk hal
 rw[←hx]at i1 htk
 have w1:IntKind.i64.wrap ((i:Int)+1)=((i+1:Nat):Int):=by rw[wrap64 (by omega) (by omega)];simp
 have lu:=hu.len Tryz.underlying42
 rw[List.length_map]at lu
 have nu:=hu.nm
 refine vF (cJ t7 (cJ t8 (cJ t9 (cJ t3 (cJ qi i1))))) ?_
 obtain⟨h1,hh1⟩:∃h1:Hp Fm,h1={ h with obj:=Mp.set (Mp.set h.obj h.no (.row [.int .i64 0,.int .i64 0,.str []])) h.no (.row [.int .i64 x.fr,.int .i64 x.to,.str x.val]),no:=h.no+1 }:=⟨_,rfl⟩
 have hx1:HE h h1:=by rw[hh1];exact((HE.refl h).new (.row [.int .i64 0,.int .i64 0,.str []])).set (Nat.le_refl _) _
 have g7:Mp.get h1.obj h.no=some (.row [.int .i64 x.fr,.int .i64 x.to,.str x.val]):=by rw[hh1];simp
 have hno:h.no<h1.no:=by rw[hh1];simp
 rw[←hh1]
 have he1:=he.trans hx1
 have hu1:=hu.he hx1
 have q1:h1.pol 49=true:=by rw[he1.pol,hqp];rfl
 rcases snoc_cases acc with hnil | ⟨mm,q,hsn⟩
 ·have hal0:acc.length=0:=by rw[hnil];rfl
  have w2:IntKind.i64.wrap ((acc.length:Int)-1)=-1:=by rw[hal0];rfl
  refine vF (cJ t7 (cJ t8 (cJ t9 (cJ t3 (cJ lu (cJ nu w2)))))) ?_
  (with_reducible refine W_draw_id (pln:=true) [0,1,2,3,4,5,6,7,8,9,10,11,12,13,14,15,16,17,18,19,20,21] [(6,(6,[])),(12,(12,[])),(15,(15,[])),(18,(18,[]))] (by kernel_rfl) rfl ?_)
  refine vF (cJ t7 (cJ t8 (cJ t9 t3))) ?_
  refine⟨by simp[readSame,beqAV_self,t3];done,_,by simp;first | done | rfl,?_⟩
  refine vQo77 (cJ t7 (cJ t8 (cJ t9 (cJ t3 (cJ g7 (cJ q1 (cJ uc ud))))))) ?_
  with_reducible apply WO_app_i;(case hw=>(simp[t7,t8,t9,t3,g7,newSeq,q1,uc,ud];done));(case ho=>rfl);(case hb=>rfl);(case ha=>(simp[t7,t8,t9,t3,g7,newSeq,q1,uc,ud];first | done | exact⟨rfl,rfl⟩ | rfl));(case h1=>(simp;first | done | rfl));(case h2=>(simp;first | done | rfl))
  have hz1:HE h1.drew (newRs h1.drew 3 true [.int .i64 0,.int .i64 0,.str []] 1 [encP x]).2:=HE.x2 (HE.refl _) (newRs_hx (fun _=>False) (fun _=>False) _ _ _ _ _ _) (fun _ e=>e.elim) (fun _ e=>e.elim)
  have hz2:=he1.drew.trans hz1
  refine app_then (RS.appN (lo:=hq.no) (h:=(newRs h1.drew 3 true [.int .i64 0,.int .i64 0,.str []] 1 [encP x]).2) etp (v:=u) ((hu1.he (HE.refl h1).drew).he hz1) hz2.no (by rw[hz2.pol,hqp];rfl) ((RS.fresh etp (lo:=0) (h:=h1.drew) (Nat.zero_le _) 1 [encP x] (by simp)).newEls (fitPs [x]) (by omega) (fun e=>by cases e)) (fitPs _) (fitPs [x]) (by simp;omega)) ?_
  rintro w4 h4 ⟨rs4,hx4,hq4,hr4⟩
  have e4:=rs4.cells
  have f4:=rs4.isCell
  refine vP ?_
  refine vF (cJ t7 (cJ t8 (cJ t9 (cJ t3 (cJ e4 (cJ f4 w1)))))) ?_
  refine⟨_,?_,_,_,i+1,_,rfl,rfl,by omega,by simp[t7],by simp[t8],by simp,rfl,?_,hz2.x2 hx4 hu.rows (fun _ e=>e.elim)⟩
  ·omega
  ·rw[htk,show leastS acc x=acc++[x]by rw[hnil];rfl,List.map_append];simpa using rs4
 obtain⟨k,hk⟩:∃k,k=mm.length:=⟨_,rfl⟩
 have hakl:acc.length=k+1:=by rw[hsn,hk];simp
 have w2:IntKind.i64.wrap ((acc.length:Int)-1)=(k:Int):=by rw[wrap64 (by omega) (by omega)];omega
 have hkq:acc[k]'(by omega)=q:=by simp[hsn,hk]
 rcases hu with⟨e0,hx0⟩ | ⟨o,cap,e0,hlo,hrs⟩
 ·have:acc.length=0:=by simpa using congrArg List.length hx0
  omega
 have hrs1:=hrs.he hx1
 have hon:=hrs.on
 obtain⟨cs,gr,pt,hle,hset⟩:=hrs1.at_ (fitPs _) (i:=k) (by rw[List.length_map];omega)
 simp only[List.getElem_map,hkq]at pt
 have pt':=pt
 simp only[encP]at pt
 obtain⟨pf0,psp,pl⟩:=part3 pt
 have ix:indexAddrAV Tryz.prog 42 u (.int .i64 (k:Int))=some (.ptr o (k*3)):=by
  rw[e0,index_rs Tryz.underlying42 z49 (by omega) (by rw[List.length_map];omega),Int.toNat_natCast]
 have ho:o≠h.no:=by omega
 have ho':h.no≠o:=by omega
 have eq33:=eqlP q ⟨q.fr,x.fr,x.val⟩
 simp only[encP]at eq33
 have hls:leastS acc x=if q.to=x.fr∧q.val=x.val then mm++[⟨q.fr,x.to,q.val⟩]else acc++[x]:=by rw[hsn,leastS_snoc]
 have hdec:decide (q=⟨q.fr,x.fr,x.val⟩)=decide (q.to=x.fr∧q.val=x.val):=by
  obtain⟨a,b,c⟩:=q
  simp
 rw[hdec]at eq33
 have kk:(0:Int)≤(k:Int):=by omega
 refine vF (cJ t7 (cJ t8 (cJ t9 (cJ t3 (cJ lu (cJ nu w2)))))) ?_
 (with_reducible refine W_draw_id (pln:=true) [0,1,2,3,4,5,6,7,8,9,10,11,12,13,14,15,16,17,18,19,20,21] [(6,(6,[])),(12,(12,[])),(15,(15,[])),(18,(18,[]))] (by kernel_rfl) rfl ?_)
 by_cases qc:q.to=x.fr∧q.val=x.val
 case neg=>
  rw[if_neg qc]at hls
  rw[decide_eq_false qc]at eq33
  have hu:RS hq.no h 3 true (acc.map encP) u:=.inr ⟨o,cap,e0,hlo,hrs⟩
  refine vF (cJ t7 (cJ t8 (cJ t9 (cJ t3 (cJ kk (cJ ix (cJ gr (cJ pt (cJ pf0 (cJ g7 eq33)))))))))) ?_
  refine⟨by simp[readSame,beqAV_self,t3];done,_,by simp;first | done | rfl,?_⟩
  refine vQo77 (cJ t7 (cJ t8 (cJ t9 (cJ t3 (cJ g7 (cJ q1 (cJ uc ud))))))) ?_
  with_reducible apply WO_app_i;(case hw=>(simp[t7,t8,t9,t3,g7,newSeq,q1,uc,ud];done));(case ho=>rfl);(case hb=>rfl);(case ha=>(simp[t7,t8,t9,t3,g7,newSeq,q1,uc,ud];first | done | exact⟨rfl,rfl⟩ | rfl));(case h1=>(simp;first | done | rfl));(case h2=>(simp;first | done | rfl))
  have hz1:HE h1.drew (newRs h1.drew 3 true [.int .i64 0,.int .i64 0,.str []] 1 [encP x]).2:=HE.x2 (HE.refl _) (newRs_hx (fun _=>False) (fun _=>False) _ _ _ _ _ _) (fun _ e=>e.elim) (fun _ e=>e.elim)
  have hz2:=he1.drew.trans hz1
  refine app_then (RS.appN (lo:=hq.no) (h:=(newRs h1.drew 3 true [.int .i64 0,.int .i64 0,.str []] 1 [encP x]).2) etp (v:=u) ((hu1.he (HE.refl h1).drew).he hz1) hz2.no (by rw[hz2.pol,hqp];rfl) ((RS.fresh etp (lo:=0) (h:=h1.drew) (Nat.zero_le _) 1 [encP x] (by simp)).newEls (fitPs [x]) (by omega) (fun e=>by cases e)) (fitPs _) (fitPs [x]) (by simp;omega)) ?_
  rintro w4 h4 ⟨rs4,hx4,hq4,hr4⟩
  have e4:=rs4.cells
  have f4:=rs4.isCell
  refine vP ?_
  refine vF (cJ t7 (cJ t8 (cJ t9 (cJ t3 (cJ e4 (cJ f4 w1)))))) ?_
  refine⟨_,?_,_,_,i+1,_,rfl,rfl,by omega,by simp[t7],by simp[t8],by simp,rfl,?_,hz2.x2 hx4 hu.rows (fun _ e=>e.elim)⟩
  ·omega
  ·rw[htk,hls,List.map_append];simpa using rs4
 rw[if_pos qc]at hls
 rw[decide_eq_true qc]at eq33
 have hle2:k*3+1+1≤cs.length:=by omega
 refine vF (cJ t7 (cJ t8 (cJ t9 (cJ t3 (cJ kk (cJ ix (cJ gr (cJ pt (cJ pf0 (cJ g7 eq33)))))))))) ?_
 refine⟨by simp[readSame,beqAV_self,t3];done,_,by simp;first | done | rfl,?_⟩
 refine vF (cJ t7 (cJ t8 (cJ t9 (cJ t3 (cJ ix (cJ gr (cJ g7 (cJ hle2 w1)))))))) ?_
 have hk4:=hset (encP ⟨q.fr,x.to,q.val⟩) { h1.drew with obj:=Mp.set h1.drew.obj o (.row (splice cs (k*3+1) [.int .i64 x.to])) } (fitP _) (by rw[psp];simp) hrs1.on
 rw[←List.map_set]at hk4
 have hst:acc.set k ⟨q.fr,x.to,q.val⟩=mm++[⟨q.fr,x.to,q.val⟩]:=by
  rw[hsn,List.set_append_right _ _ (by omega),hk,Nat.sub_self];rfl
 rw[hst]at hk4
 refine⟨_,?_,_,_,i+1,u,rfl,rfl,by omega,by simp[t7],by simp[t8],by simp,by simp[t3],?_,he1.drew.set hlo _⟩
 ·omega
 ·rw[htk,hls]
  refine .inr ⟨o,cap,?_,hlo,hk4⟩
  rw[e0];simp[hsn]
end Go.Vn

set_option maxRecDepth 20000
namespace Go.Vn
open Go.Proofs
def stS(acc:List Pc)(v:Ver):List Pc:=if v.gone then withoutP acc v.fr v.to else overP acc ⟨v.fr,v.to,v.val⟩
def stF(os:List Ver):List Pc:=os.foldl stS []
end Go.Vn

set_option maxRecDepth 20000
namespace Go.Vn
open Go.Proofs
theorem backy(y a:Nat)(xs:List Ver)(v:AV)(hv:SV 8 (xs.map encV) v)(hl:xs.length≤1000000)(J:Nat→Hp Fm→Prop)(K:Hp Fm→Prop)(hJ:∀i h,J i h→Mp.get h.obj a=some (.row [v]))
  (hy:∀i (hi:i<xs.length) h,J (i+1) h→A Tryz.prog TT (.yield y) [.int .i64 (i:Nat),encV xs[i]] h (fun r h'=>(r=.bool true∧J i h')∨(r=.bool false∧K h'))) (h0:Hp Fm) (h00:J xs.length h0) :
  A Tryz.prog TT (.func 99) [.yl y,.ptr a 0] h0 (fun _ h'=>J 0 h'∨K h'):=by
 have l1:=hv.len Tryz.underlying64
 rw[List.length_map]at l1
 have n1:=hv.nm
 have g0:=hJ _ _ h00
 obtain⟨z,hz⟩:∃z:Int,z=(xs.length:Int)-1:=⟨_,rfl⟩
 have w0:IntKind.i64.wrap ((xs.length:Int)-1)=z:=by rw[wrap64 (by omega) (by omega)];omega
 apply A_go Tryz.func99 rfl (by rfl);(case hn=>(simp[Tryz.ntmps99];rfl))
 refine vF (cJ g0 (cJ l1 (cJ n1 w0))) ?_
 refine W_loop (fun m s=>∃(t:Fm AV) (h:Hp Fm) (z:Int),s=⟨t,19,h,none⟩∧z=(m:Int)-1∧m≤xs.length∧tget t 0=.yl y∧tget t 1=.ptr a 0∧tget t 3=.int .i64 z∧J m h) xs.length
  ⟨_,_,z,rfl,hz,Nat.le_refl _,by simp,by simp,by simp,h00⟩ ?_
 clear w0 hz z
 rintro m s ⟨t,h,z,rfl,hz,hm,t0,t1,t3,hj⟩
 by_cases q0:0<m
 case neg=>
  have qz:¬(0≤z):=by omega
  refine vF (cJ t0 (cJ t1 (cJ t3 qz))) ?_
  (first | apply endW_r | apply endW_n);(case h1=>(simp[Tryz.results99];first | done | rfl))
  left
  rw[show m=0 by omega]at hj;exact hj
 have qz:0≤z:=by omega
 obtain⟨i,hi⟩:∃i,i=m-1:=⟨_,rfl⟩
 have hzi:z=(i:Int):=by omega
 have hmi:m=i+1:=by omega
 subst hzi
 have hil:i<xs.length:=by omega
 have g1:=hJ _ _ hj
 have i1:=hv.idx Tryz.underlying64 z117 (k:=.i64) (i:=i) (by simp) (by simpa using hil)
 simp only[List.getElem_map,Int.toNat_natCast]at i1
 have hyi:=hy i hil h (by rw[←hmi];exact hj)
 obtain⟨w,hw⟩:∃w:Int,w=(i:Int)-1:=⟨_,rfl⟩
 have w1:IntKind.i64.wrap ((i:Int)-1)=w:=by rw[wrap64 (by omega) (by omega)];omega
 refine vF (cJ t0 (cJ t1 (cJ t3 (cJ qz (cJ g1 i1))))) ?_
 refine A.mono hyi ?_
 rintro r h2 hr
 refine vP ?_
 rcases hr with⟨rfl,hj2⟩ | ⟨rfl,hk⟩
 ·refine vF (cJ t0 (cJ t1 (cJ t3 w1))) ?_
  exact⟨i,by omega,_,_,w,rfl,hw,by omega,by simp[t0],by simp[t1],by simp,hj2⟩
 ·refine vF (cJ t0 (cJ t1 t3)) ?_
  (first | apply endW_r | apply endW_n);(case h1=>(simp[Tryz.results99];first | done | rfl))
  right;exact hk
theorem seqB(v:AV)(hv:v.cells=[v]∧v.isCell=true)(h:Hp Fm):A Tryz.prog TT (.func 75) [v] h (fun r h'=>r=.fn (.func 99) [] [.ptr h.no 0]∧h'={ h with obj:=Mp.set h.obj h.no (.row [v]),no:=h.no+1 }):=by
 obtain⟨v1,v2⟩:=hv
 apply A_go Tryz.func75 rfl (by rfl);(case hn=>(simp[Tryz.ntmps75];rfl))
 refine vF (cJ v1 v2) ?_
 (first | apply endW_r | apply endW_n);(case h1=>(simp[Tryz.results75];first | done | rfl))
 simp
def getF(os:List Ver)(t:Int):Option (List UInt8):=match os.reverse.find? (fun v=>decide (Has v.fr v.to t))with
 | some v=>if v.gone then none else some v.val
 | none=>none
theorem getF_none{os:List Ver}{t:Int}(h:∀v∈os,¬Has v.fr v.to t):getF os t=none:=by
 unfold getF
 have:os.reverse.find? (fun v=>decide (Has v.fr v.to t))=none:=by
  rw[List.find?_eq_none];intro v hv;simpa using h v (List.mem_reverse.mp hv)
 rw[this]
def outG(o:Option (List UInt8)):AV:=match o with
 | some s=>.tup [.str s,.bool true]
 | none=>.tup [.str [],.bool false]
end Go.Vn

set_option maxRecDepth 20000
namespace Go.Vn
open Go.Proofs
theorem at_ans(ps:List Pc)(v:AV)(hv:SV 3 (ps.map encP) v)(hl:ps.length≤16000000)(tm:Int)(h0:Hp Fm) :
  A Tryz.prog TT (.func 74) [v,.int .i64 tm] h0 (fun r h'=>r=outG (atP ps tm)∧HE h0 h'):=by
 have l1:=hv.len Tryz.underlying42
 rw[List.length_map]at l1
 have n1:=hv.nm
 apply A_go Tryz.func74 rfl (by rfl);(case hn=>(simp[Tryz.ntmps74];rfl))
 refine vF (cJ l1 n1) ?_
 refine W_loop (fun m s=>∃(t:Fm AV) (h:Hp Fm) (i:Nat),s=⟨t,21,h,none⟩∧m=ps.length-i∧i≤ps.length∧tget t 1=.int .i64 tm∧tget t 8=v∧tget t 9=.int .i64 ps.length∧tget t 10=.int .i64 i∧atP ps tm=atP (ps.drop i) tm∧HE h0 h) ps.length
  ⟨_,_,0,rfl,rfl,by omega,by simp,by simp,by simp,by simp,rfl,HE.refl _⟩ ?_
 rintro m s ⟨t,h,i,rfl,rfl,hi,t1,t8,t9,t10,hat,he⟩
 by_cases qi:i<ps.length
 case neg=>
  have qn:¬(i<ps.length):=qi
  refine vF (cJ t1 (cJ t8 (cJ t9 (cJ t10 (cJ qi qn))))) ?_
  (first | apply endW_r | apply endW_n);(case h1=>(simp[Tryz.results74];first | done | rfl))
  rw[hat,List.drop_eq_nil_of_le (by omega)]
  exact⟨rfl,he⟩
 have i1:=hv.idx Tryz.underlying42 z49 (k:=.i64) (i:=i) (by simp) (by simpa using qi)
 simp only[List.getElem_map,Int.toNat_natCast]at i1
 have w1:IntKind.i64.wrap ((i:Int)+1)=((i+1:Nat):Int):=by rw[wrap64 (by omega) (by omega)];simp
 rw[List.drop_eq_getElem_cons qi,atP_cons]at hat
 obtain⟨x,hx⟩:∃x,x=ps[i]:=⟨_,rfl⟩
 rw[←hx]at i1 hat
 refine vF (cJ t1 (cJ t8 (cJ t9 (cJ t10 (cJ qi i1))))) ?_
 refine A.mono (has_ans x.fr x.to tm _) ?_
 rintro _ hh ⟨rfl,heh⟩
 have m9:Mp.get hh.obj h.no=some (.row [.int .i64 x.fr,.int .i64 x.to,.str x.val]):=by rw[heh.obj _ (by show h.no<h.no+1;omega)];simp
 have he2:HE h0 hh:=he.trans ((((HE.refl h).new (.row [.int .i64 0,.int .i64 0,.str []])).set (Nat.le_refl _) (.row [.int .i64 x.fr,.int .i64 x.to,.str x.val])).trans heh)
 refine vP ?_
 by_cases qh:Has x.fr x.to tm
 ·refine vF (cJ t1 (cJ t8 (cJ t9 (cJ t10 (cJ qh m9))))) ?_
  (first | apply endW_r | apply endW_n);(case h1=>(simp[Tryz.results74];first | done | rfl))
  rw[hat,if_pos qh]
  exact⟨rfl,he2⟩
 ·refine vF (cJ t1 (cJ t8 (cJ t9 (cJ t10 (cJ qh w1))))) ?_
  rw[if_neg qh]at hat
  refine⟨_,?_,_,_,i+1,rfl,rfl,by omega,by simp[t1],by simp[t8],by simp[t9],by simp,hat,he2⟩
  omega
end Go.Vn
