/- What functions of the program come to, in the value machine (a part of the proof of the claim's statement). No condition. -/
import Derived.Test.YtplcehpejjfjoaaGreatVnG4
import Derived.Test.YtplcehpejjfjoaaGreatVnI1
set_option linter.unusedSimpArgs false
set_option linter.unusedVariables false
set_option maxRecDepth 20000
namespace Go.Vn
open Go.Proofs
def NDec(path:List Lg)(xs:List Ver):Prop:=∀i j (hj:j<xs.length) (hij:i≤j),¬cmpO path xs[j] (xs[i]'(by omega))<0
structure OEnv(path:List Lg)(oc:Nat)(hb:Hp Fm):Prop where
 ex:∃vp,SV 2 (path.map encL) vp∧path.length≤1000000∧Mp.get hb.obj oc=some (.row [vp])∧oc<hb.no∧hb.pol 3=false
theorem OEnv.cmp{path:List Lg}{oc:Nat}{hb:Hp Fm}(E:OEnv path oc hb)(a b:Ver)(h:Hp Fm)(he:HE hb h) :
  A Tryz.prog TT (.func 107) [encV a,encV b,.ptr oc 0] h (fun r h'=>r=.int .i64 (cmpO path a b)∧HE h h'):=by
 obtain⟨vp,h1,h2,h3,h4,h5⟩:=E.ex
 exact ord2_ans path vp h1 h2 a b oc h ((he.obj _ h4).trans h3) (Nat.lt_of_lt_of_le h4 he.no) (by rw[he.pol];exact h5)
set_option maxHeartbeats 1000000 in
theorem inssort_id{path:List Lg}{oc:Nat}{hb:Hp Fm}(E:OEnv path oc hb)(xs:List Ver)(hxl:xs.length≤1000000)(hs:NDec path xs)(v:AV)(h0:Hp Fm)(he0:HE hb h0)(hr:RS hb.no h0 8 true (xs.map encV) v)(a b:Nat)(hbl:b≤xs.length)(hal:a≤1000000) :
  A Tryz.prog TT (.func 138) [v,.int .i64 a,.int .i64 b,.fn (.func 107) [] [.ptr oc 0]] h0 (fun _ h'=>HE h0 h'):=by
 obtain⟨a1,ha1⟩:∃a1,a1=a+1:=⟨_,rfl⟩
 have w0:IntKind.i64.wrap ((a:Int)+1)=(a1:Int):=by rw[wrap64 (by omega) (by omega)];omega
 apply A_go Tryz.func138 rfl (by rfl);(case hn=>(simp[Tryz.ntmps138];rfl))
 refine vF w0 ?_
 refine W_loop (fun m s=>∃(t:Fm AV) (h:Hp Fm) (i:Nat),s=⟨t,53,h,none⟩∧m=b+1-i∧a1≤i∧i≤1000001∧tget t 0=v∧tget t 1=.int .i64 a∧tget t 2=.int .i64 b∧tget t 3=.fn (.func 107) [] [.ptr oc 0]∧tget t 8=.int .i64 i∧HE h0 h) (b+1-a1)
  ⟨_,_,a1,rfl,rfl,by omega,by omega,by simp,by simp,by simp,by simp,by simp,HE.refl _⟩ ?_
 rintro m s ⟨t,h,i,rfl,rfl,hi1,hi2,t0,t1,t2,t3,t8,he⟩
 by_cases qi:i<b
 case neg=>
  have qn:¬((i:Int)<b):=by omega
  refine vF (cJ t0 (cJ t1 (cJ t2 (cJ t3 (cJ t8 (cJ qi qn)))))) ?_
  (first | apply endW_r | apply endW_n);(case h1=>(simp[Tryz.results138];first | done | rfl))
  exact he
 have qi':(i:Int)<b:=by omega
 obtain⟨im,him⟩:∃im,im=i-1:=⟨_,rfl⟩
 obtain⟨ip,hip⟩:∃ip,ip=i+1:=⟨_,rfl⟩
 have w1:IntKind.i64.wrap ((i:Int)-1)=(im:Int):=by rw[wrap64 (by omega) (by omega)];omega
 have w2:IntKind.i64.wrap ((i:Int)+1)=(ip:Int):=by rw[wrap64 (by omega) (by omega)];omega
 obtain⟨o,cs,ix,gr,pt⟩:=(hr.he he).idx Tryz.underlying64 z117 (fitVs _) (i:=i) (by rw[List.length_map];omega)
 obtain⟨o',cs',ix',gr',pt'⟩:=(hr.he he).idx Tryz.underlying64 z117 (fitVs _) (i:=im) (by rw[List.length_map];omega)
 obtain⟨x,hx⟩:∃x,x=xs[i]'(by omega):=⟨_,rfl⟩
 obtain⟨y,hy⟩:∃y,y=xs[im]'(by omega):=⟨_,rfl⟩
 have ql:=hs im i (by omega) (by omega)
 simp only[List.getElem_map,←hx,←hy,encV]at pt pt' ql
 have qg:a<i:=by omega
 have qg':(a:Int)<i:=by omega
 refine vF (cJ t0 (cJ t1 (cJ t2 (cJ t3 (cJ t8 (cJ qi qi')))))) ?_
 refine W_loop_i ?_
 refine vF (cJ t0 (cJ t1 (cJ t2 (cJ t3 (cJ t8 (cJ qg qg')))))) ?_
 (with_reducible refine W_draw_id (pln:=true) [0,1,2,3,4,5,6,7,8,9,10,11,12,13,14,15,16] [(8,(8,[])),(13,(13,[]))] (by kernel_rfl) rfl ?_)
 refine vF (cJ t0 (cJ t1 (cJ t2 (cJ t3 (cJ t8 (cJ qg (cJ qg' (cJ w1 (cJ ix (cJ ix' (cJ gr (cJ gr' (cJ pt pt'))))))))))))) ?_
 refine A.mono (E.cmp x y h.drew (he0.trans he.drew)) ?_
 rintro _ h3 ⟨rfl,e3⟩
 refine vP ?_
 refine vF (cJ t0 (cJ t1 (cJ t2 (cJ t3 (cJ t8 ql))))) ?_
 refine⟨by simp[readSame,beqAV_self,t0];done,_,by simp;first | done | rfl,?_⟩
 refine vF (cJ t0 (cJ t1 (cJ t2 (cJ t3 (cJ t8 w2))))) ?_
 refine⟨_,?_,_,_,ip,rfl,rfl,by omega,by omega,by simp[t0],by simp[t1],by simp[t2],by simp[t3],by simp,(he.drew).trans e3⟩
 omega
theorem half_nf(i j:Nat)(hl:i+j≤4000000):IntKind.i64.wrap ((IntKind.u64.wrap (IntKind.i64.wrap ((i:Int)+j))).fdiv (2 ^ min 1 IntKind.u64.bits))=(((i+j) / 2:Nat):Int):=by
 have e:(2:Int) ^ min 1 IntKind.u64.bits=2:=by rfl
 have w:IntKind.u64.wrap ((i:Int)+j)=(i:Int)+j:=by
  have:(i:Int)+j=((i+j:Nat):Int):=by omega
  rw[this];simp only[IntKind.wrap,IntKind.signed,IntKind.bits];simp;omega
 have w0:IntKind.i64.wrap ((i:Int)+j)=(i:Int)+j:=wrap64 (by omega) (by omega)
 rw[w0,w,e,Int.fdiv_eq_ediv_of_nonneg _ (by omega),wrap64 (by omega) (by omega)]
 omega
theorem el_at{path:List Lg}{xs:List Ver}{v:AV}{lo:Nat}{h:Hp Fm}(hr:RS lo h 8 true (xs.map encV) v)(hxl:xs.length≤1000000){k:Nat}(hk:k<xs.length) :
  ∃(x:Ver) (o:Nat) (cs:List AV),x=xs[k]∧indexAddrAV Tryz.prog 64 v (.int .i64 (k:Int))=some (.ptr o (k*8))∧Mp.get h.obj o=some (.row cs)∧partAV true 8 cs (k*8)=some (.agg [.str x.key,.int .i64 x.br,.int .i64 x.ep,.int .i64 x.sq,.int .i64 x.fr,.int .i64 x.to,.str x.val,.bool x.gone]):=by
 obtain⟨o,cs,ix,gr,pt⟩:=hr.idx Tryz.underlying64 z117 (fitVs _) (i:=k) (by rw[List.length_map];omega)
 simp only[List.getElem_map,encV]at pt
 exact⟨_,o,cs,rfl,ix,gr,pt⟩
set_option maxHeartbeats 4000000 in
theorem symm_id{path:List Lg}{oc:Nat}{hb:Hp Fm}(E:OEnv path oc hb)(xs:List Ver)(hxl:xs.length≤1000000)(hs:NDec path xs)(v:AV):∀(n a m b:Nat),b-a≤n→a<m→m<b→b≤xs.length→∀(h0:Hp Fm),HE hb h0→RS hb.no h0 8 true (xs.map encV) v →
  A Tryz.prog TT (.func 139) [v,.int .i64 a,.int .i64 m,.int .i64 b,.fn (.func 107) [] [.ptr oc 0]] h0 (fun _ h'=>HE h0 h'):=by
 intro n
 induction n with
 | zero=>intro a m b h1 h2 h3;omega
 | succ n ih=>
 intro a m b hn1 ham hmb hbl h0 he0 hr
 obtain⟨d,hd⟩:∃d,d=m-a:=⟨_,rfl⟩
 have wd:IntKind.i64.wrap ((m:Int)-a)=(d:Int):=by rw[wrap64 (by omega) (by omega)];omega
 by_cases q1:d=1
 ·have q1':(d:Int)=1:=by omega
  obtain⟨m1,hm1⟩:∃m1,m1=m-1:=⟨_,rfl⟩
  have wm1:IntKind.i64.wrap ((m:Int)-1)=(m1:Int):=by rw[wrap64 (by omega) (by omega)];omega
  have qa:¬(a<m1):=by omega
  have qa':¬((a:Int)<m1):=by omega
  apply A_go Tryz.func139 rfl (by rfl);(case hn=>(simp[Tryz.ntmps139];rfl))
  refine vF (cJ wd (cJ q1 q1')) ?_
  refine W_loop (fun z s=>∃(t:Fm AV) (h:Hp Fm) (j:Nat),s=⟨t,220,h,none⟩∧z=j∧m≤j∧j≤b∧tget t 0=v∧tget t 1=.int .i64 a∧tget t 4=.fn (.func 107) [] [.ptr oc 0]∧tget t 10=.int .i64 m∧tget t 11=.int .i64 j∧HE h0 h) b
   ⟨_,_,b,rfl,rfl,by omega,by omega,by simp,by simp,by simp,by simp,by simp,HE.refl _⟩ ?_
  rintro j s ⟨t,h,_,rfl,rfl,hj1,hj2,t0,t1,t4,t10,t11,he⟩
  by_cases qi:m<j
  case neg=>
   have qi':¬((m:Int)<j):=by omega
   refine vF (cJ t0 (cJ t1 (cJ t4 (cJ t10 (cJ t11 (cJ qi (cJ qi' wm1))))))) ?_
   refine W_loop_i ?_
   refine vF (cJ t0 (cJ t1 (cJ t4 (cJ t10 (cJ t11 (cJ wm1 (cJ qa qa'))))))) ?_
   (first | apply endW_r | apply endW_n);(case h1=>(simp[Tryz.results139];first | done | rfl))
   exact he
  have qi':(m:Int)<j:=by omega
  obtain⟨c,hc⟩:∃c,c=(m+j) / 2:=⟨_,rfl⟩
  have wc:=half_nf m j (by omega)
  rw[←hc]at wc
  obtain⟨x,o,cs,hx,ix,gr,pt⟩:=el_at (path:=path) (hr.he he) hxl (k:=c) (by omega)
  obtain⟨y,o',cs',hy,ix',gr',pt'⟩:=el_at (path:=path) (hr.he he) hxl (k:=a) (by omega)
  have ql:=hs a c (by omega) (by omega)
  rw[←hx,←hy]at ql
  refine vF (cJ t0 (cJ t1 (cJ t4 (cJ t10 (cJ t11 (cJ qi (cJ qi' wc))))))) ?_
  (with_reducible refine W_draw_id (pln:=true) [0,1,2,3,4,5,6,7,8,9,10] [(4,(4,[])),(8,(8,[]))] (by kernel_rfl) rfl ?_)
  refine vF (cJ t0 (cJ t1 (cJ t4 (cJ t10 (cJ t11 (cJ ix (cJ ix' (cJ gr (cJ gr' (cJ pt pt')))))))))) ?_
  refine A.mono (E.cmp x y h.drew (he0.trans he.drew)) ?_
  rintro _ h3 ⟨rfl,e3⟩
  refine vP ?_
  refine vF (cJ t0 (cJ t1 (cJ t4 (cJ t10 (cJ t11 ql))))) ?_
  refine⟨by simp[readSame,beqAV_self,t0];done,_,by simp;first | done | rfl,?_⟩
  refine vF (cJ t0 (cJ t1 (cJ t4 (cJ t10 (cJ t11 ql))))) ?_
  exact⟨c,by omega,_,_,c,rfl,rfl,by omega,by omega,by simp[t0],by simp[t1],by simp[t4],by simp[t10],by simp,(he.drew).trans e3⟩
 have q1':¬((d:Int)=1):=by omega
 obtain⟨e,he1⟩:∃e,e=b-m:=⟨_,rfl⟩
 have we:IntKind.i64.wrap ((b:Int)-m)=(e:Int):=by rw[wrap64 (by omega) (by omega)];omega
 by_cases q2:e=1
 ·have q2':(e:Int)=1:=by omega
  have qa:¬(m<m):=by omega
  apply A_go Tryz.func139 rfl (by rfl);(case hn=>(simp[Tryz.ntmps139];rfl))
  refine vF (cJ wd (cJ q1 (cJ q1' (cJ we (cJ q2 q2'))))) ?_
  refine W_loop (fun z s=>∃(t:Fm AV) (h:Hp Fm) (i:Nat),s=⟨t,220,h,none⟩∧z=m-i∧a≤i∧i≤m∧tget t 0=v∧tget t 2=.int .i64 m∧tget t 4=.fn (.func 107) [] [.ptr oc 0]∧tget t 14=.int .i64 i∧tget t 15=.int .i64 m∧HE h0 h) (m-a)
   ⟨_,_,a,rfl,rfl,by omega,by omega,by simp,by simp,by simp,by simp,by simp,HE.refl _⟩ ?_
  rintro _ s ⟨t,h,i,rfl,rfl,hj1,hj2,t0,t2,t4,t14,t15,he⟩
  by_cases qi:i<m
  case neg=>
   have qi':¬((i:Int)<m):=by omega
   have ei:i=m:=by omega
   rw[ei]at t14
   refine vF (cJ t0 (cJ t2 (cJ t4 (cJ t14 (cJ t15 qa))))) ?_
   refine W_loop_i ?_
   refine vF (cJ t0 (cJ t2 (cJ t4 (cJ t14 (cJ t15 qa))))) ?_
   (first | apply endW_r | apply endW_n);(case h1=>(simp[Tryz.results139];first | done | rfl))
   exact he
  have qi':(i:Int)<m:=by omega
  obtain⟨c,hc⟩:∃c,c=(i+m) / 2:=⟨_,rfl⟩
  have wc:=half_nf i m (by omega)
  rw[←hc]at wc
  obtain⟨c1,hc1⟩:∃c1,c1=c+1:=⟨_,rfl⟩
  have wc1:IntKind.i64.wrap ((c:Int)+1)=(c1:Int):=by rw[wrap64 (by omega) (by omega)];omega
  obtain⟨x,o,cs,hx,ix,gr,pt⟩:=el_at (path:=path) (hr.he he) hxl (k:=m) (by omega)
  obtain⟨y,o',cs',hy,ix',gr',pt'⟩:=el_at (path:=path) (hr.he he) hxl (k:=c) (by omega)
  have ql:=hs c m (by omega) (by omega)
  rw[←hx,←hy]at ql
  refine vF (cJ t0 (cJ t2 (cJ t4 (cJ t14 (cJ t15 (cJ qi (cJ qi' wc))))))) ?_
  (with_reducible refine W_draw_id (pln:=true) [0,1,2,3,4,5,6,7,8,9,10,11] [(4,(4,[])),(8,(8,[]))] (by kernel_rfl) rfl ?_)
  refine vF (cJ t0 (cJ t2 (cJ t4 (cJ t14 (cJ t15 (cJ ix (cJ ix' (cJ gr (cJ gr' (cJ pt pt')))))))))) ?_
  refine A.mono (E.cmp x y h.drew (he0.trans he.drew)) ?_
  rintro _ h3 ⟨rfl,e3⟩
  refine vP ?_
  refine vF (cJ t0 (cJ t2 (cJ t4 (cJ t14 (cJ t15 ql))))) ?_
  refine⟨by simp[readSame,beqAV_self,t0];done,_,by simp;first | done | rfl,?_⟩
  refine vF (cJ t0 (cJ t2 (cJ t4 (cJ t14 (cJ t15 (cJ ql wc1)))))) ?_
  exact⟨m-c1,by omega,_,_,c1,rfl,rfl,by omega,by omega,by simp[t0],by simp[t2],by simp[t4],by simp,by simp[t15],(he.drew).trans e3⟩
 have q2':¬((e:Int)=1):=by omega
 obtain⟨mid,hmid⟩:∃mid,mid=(a+b) / 2:=⟨_,rfl⟩
 have wmid:=half_nf a b (by omega)
 rw[←hmid]at wmid
 obtain⟨N,hN⟩:∃N,N=mid+m:=⟨_,rfl⟩
 have wN:IntKind.i64.wrap ((mid:Int)+m)=(N:Int):=by rw[wrap64 (by omega) (by omega)];omega
 obtain⟨p,hp⟩:∃p,p=N-1:=⟨_,rfl⟩
 have wp:IntKind.i64.wrap ((N:Int)-1)=(p:Int):=by rw[wrap64 (by omega) (by omega)];omega
 obtain⟨st,r,en,hst1,hst2,hen,hrel⟩:∃st r en,st≤r∧a≤st∧en=N-r∧((mid<m∧st=N-b∧r=mid∧en=m)∨(m≤mid∧st=a∧r=m∧en=mid)):=by
  by_cases q:mid<m
  ·exact⟨N-b,mid,N-mid,by omega,by omega,rfl,.inl ⟨q,rfl,rfl,by omega⟩⟩
  ·exact⟨a,m,N-m,by omega,by omega,rfl,.inr ⟨by omega,rfl,rfl,by omega⟩⟩
 have wen:IntKind.i64.wrap ((N:Int)-r)=(en:Int):=by rw[wrap64 (by omega) (by omega)];omega
 apply A_go Tryz.func139 rfl (by rfl);(case hn=>(simp[Tryz.ntmps139];rfl))
 refine vF (cJ wd (cJ q1 (cJ q1' (cJ we (cJ q2 (cJ q2' (cJ wmid wN))))))) ?_
 refine W.mono (R:=fun e s=>e=.normal∧∃t:Fm AV,s=⟨t,220,h0,none⟩∧tget t 0=v∧tget t 1=.int .i64 a∧tget t 2=.int .i64 m∧tget t 3=.int .i64 b∧tget t 4=.fn (.func 107) [] [.ptr oc 0]∧tget t 18=.int .i64 mid∧tget t 19=.int .i64 N∧tget t 20=.int .i64 st∧tget t 21=.int .i64 r) ?_ ?_
 ·rcases hrel with⟨z1,z2,z3,z4⟩ | ⟨z1,z2,z3,z4⟩
  ·have z1':(mid:Int)<m:=by omega
   have wst:IntKind.i64.wrap ((N:Int)-b)=(st:Int):=by rw[wrap64 (by omega) (by omega)];omega
   subst z3
   refine vF (cJ z1 (cJ z1' wst)) ?_
   exact⟨rfl,_,rfl,by simp,by simp,by simp,by simp,by simp,by simp,by simp,by simp,by simp⟩
  ·have z0:¬(mid<m):=by omega
   have z1':¬((mid:Int)<m):=by omega
   subst z3 z2
   refine vF (cJ z0 z1') ?_
   exact⟨rfl,_,rfl,by simp,by simp,by simp,by simp,by simp,by simp,by simp,by simp,by simp⟩
 rintro e0 s0 ⟨rfl,t,rfl,t0,t1,t2,t3,t4,t18,t19,t20,t21⟩
 refine vF (cJ t19 wp) ?_
 refine W.mono (R:=fun e s=>e=.exit 8∧∃(t:Fm AV) (h:Hp Fm),s=⟨t,220,h,none⟩∧tget t 0=v∧tget t 1=.int .i64 a∧tget t 2=.int .i64 m∧tget t 3=.int .i64 b∧tget t 4=.fn (.func 107) [] [.ptr oc 0]∧tget t 18=.int .i64 mid∧tget t 19=.int .i64 N∧tget t 20=.int .i64 r∧HE h0 h) ?_ ?_
 ·refine W_loop (fun z s=>∃(t:Fm AV) (h:Hp Fm) (i:Nat),s=⟨t,220,h,none⟩∧z=r-i∧st≤i∧i≤r∧tget t 0=v∧tget t 1=.int .i64 a∧tget t 2=.int .i64 m∧tget t 3=.int .i64 b∧tget t 4=.fn (.func 107) [] [.ptr oc 0]∧tget t 18=.int .i64 mid∧tget t 19=.int .i64 N∧tget t 20=.int .i64 i∧tget t 21=.int .i64 r∧tget t 22=.int .i64 p∧HE h0 h) (r-st)
   ⟨_,_,st,rfl,rfl,by omega,by omega,by simp[t0],by simp[t1],by simp[t2],by simp[t3],by simp[t4],by simp[t18],by simp[t19],by simp[t20],by simp[t21],by simp,HE.refl _⟩ ?_
  clear t0 t1 t2 t3 t4 t18 t19 t20 t21 t
  rintro _ s ⟨t,h,i,rfl,rfl,hj1,hj2,t0,t1,t2,t3,t4,t18,t19,t20,t21,t22,he⟩
  by_cases qi:i<r
  case neg=>
   have qi':¬((i:Int)<r):=by omega
   have ei:i=r:=by omega
   subst ei
   refine vF (cJ t20 (cJ t21 qi)) ?_
   exact⟨rfl,_,_,rfl,by simp[t0],by simp[t1],by simp[t2],by simp[t3],by simp[t4],by simp[t18],by simp[t19],by simp[t20],he⟩
  have qi':(i:Int)<r:=by omega
  obtain⟨c,hc⟩:∃c,c=(i+r) / 2:=⟨_,rfl⟩
  have wc:=half_nf i r (by omega)
  rw[←hc]at wc
  obtain⟨c1,hc1⟩:∃c1,c1=c+1:=⟨_,rfl⟩
  have wc1:IntKind.i64.wrap ((c:Int)+1)=(c1:Int):=by rw[wrap64 (by omega) (by omega)];omega
  obtain⟨pc,hpc⟩:∃pc,pc=p-c:=⟨_,rfl⟩
  have wpc:IntKind.i64.wrap ((p:Int)-c)=(pc:Int):=by rw[wrap64 (by omega) (by omega)];omega
  obtain⟨x,o,cs,hx,ix,gr,pt⟩:=el_at (path:=path) (hr.he he) hxl (k:=pc) (by omega)
  obtain⟨y,o',cs',hy,ix',gr',pt'⟩:=el_at (path:=path) (hr.he he) hxl (k:=c) (by omega)
  have ql:=hs c pc (by omega) (by omega)
  rw[←hx,←hy]at ql
  refine vF (cJ t20 (cJ t21 (cJ qi (cJ qi' wc)))) ?_
  (with_reducible refine W_draw_id (pln:=true) [0,1,2,3,4,5,6,7,8,9,10,11,12,13] [(6,(6,[])),(10,(10,[]))] (by kernel_rfl) rfl ?_)
  refine vF (cJ t0 (cJ t4 (cJ t22 (cJ wpc (cJ ix (cJ ix' (cJ gr (cJ gr' (cJ pt pt'))))))))) ?_
  refine A.mono (E.cmp x y h.drew (he0.trans he.drew)) ?_
  rintro _ h3 ⟨rfl,e3⟩
  refine vP ?_
  refine vF (cJ t0 ql) ?_
  refine⟨by simp[readSame,beqAV_self,t0];done,_,by simp;first | done | rfl,?_⟩
  refine vF (cJ ql wc1) ?_
  exact⟨r-c1,by omega,_,_,c1,rfl,rfl,by omega,by omega,by simp[t0],by simp[t1],by simp[t2],by simp[t3],by simp[t4],by simp[t18],by simp[t19],by simp,by simp[t21],by simp[t22],(he.drew).trans e3⟩
 clear t0 t1 t2 t3 t4 t18 t19 t20 t21 t
 rintro e s ⟨rfl,t,h,rfl,t0,t1,t2,t3,t4,t18,t19,t20,he⟩
 rcases hrel with⟨z1,z2,z3,z4⟩ | ⟨z1,z2,z3,z4⟩
 ·have y1:mid<m:=z1
  have y1':(mid:Int)<m:=by omega
  have y2:¬(m<m):=by omega
  have y3:¬(mid<mid):=by omega
  have y4:m<b:=hmb
  have y4':(m:Int)<b:=by omega
  subst z3
  rw[z4]at wen
  by_cases ya:a<r
  ·have ya':(a:Int)<r:=by omega
   refine vF (cJ t0 (cJ t1 (cJ t2 (cJ t3 (cJ t4 (cJ t18 (cJ t19 (cJ t20 (cJ wen (cJ y1 (cJ y1' (cJ y2 (cJ y3 (cJ y4 (cJ y4' (cJ ya ya')))))))))))))))) ?_
   refine A.mono (ih r m b (by omega) (by omega) hmb hbl h (he0.trans he) (hr.he he)) ?_
   rintro rv h3 e3
   refine vP ?_
   refine vZ ?_
   (first | apply endW_r | apply endW_n);(case h1=>(simp[Tryz.results139];first | done | rfl))
   exact he.trans e3
  ·have ya':¬(a:Int)<r:=by omega
   refine vF (cJ t0 (cJ t1 (cJ t2 (cJ t3 (cJ t4 (cJ t18 (cJ t19 (cJ t20 (cJ wen (cJ y1 (cJ y1' (cJ y2 (cJ y3 (cJ y4 (cJ y4' (cJ ya ya')))))))))))))))) ?_
   refine A.mono (ih r m b (by omega) (by omega) hmb hbl h (he0.trans he) (hr.he he)) ?_
   rintro rv h3 e3
   refine vP ?_
   refine vZ ?_
   (first | apply endW_r | apply endW_n);(case h1=>(simp[Tryz.results139];first | done | rfl))
   exact he.trans e3
 ·have y1:¬(m<m):=by omega
  have y2:¬(mid<mid):=by omega
  subst z3
  rw[z4]at wen
  by_cases ya:r<mid
  ·have ya':(r:Int)<mid:=by omega
   have yb':(a:Int)<r:=by omega
   refine vF (cJ t0 (cJ t1 (cJ t2 (cJ t3 (cJ t4 (cJ t18 (cJ t19 (cJ t20 (cJ wen (cJ y1 (cJ y2 (cJ ham (cJ yb' (cJ ya ya')))))))))))))) ?_
   refine A.mono (ih a r mid (by omega) (by omega) ya (by omega) h (he0.trans he) (hr.he he)) ?_
   rintro rv h3 e3
   refine vP ?_
   refine vF (cJ t18 (cJ wen y2)) ?_
   (first | apply endW_r | apply endW_n);(case h1=>(simp[Tryz.results139];first | done | rfl))
   exact he.trans e3
  ·have ya':¬(r:Int)<mid:=by omega
   have yb':(a:Int)<r:=by omega
   refine vF (cJ t0 (cJ t1 (cJ t2 (cJ t3 (cJ t4 (cJ t18 (cJ t19 (cJ t20 (cJ wen (cJ y1 (cJ y2 (cJ ham (cJ yb' (cJ ya ya')))))))))))))) ?_
   (first | apply endW_r | apply endW_n);(case h1=>(simp[Tryz.results139];first | done | rfl))
   exact he
set_option maxHeartbeats 4000000 in
theorem stable_id{path:List Lg}{oc:Nat}{hb:Hp Fm}(E:OEnv path oc hb)(xs:List Ver)(hxl:xs.length≤1000000)(hs:NDec path xs)(v:AV)(h0:Hp Fm)(he0:HE hb h0)(hr:RS hb.no h0 8 true (xs.map encV) v)(n:Nat)(hn:n=xs.length) :
  A Tryz.prog TT (.func 122) [v,.int .i64 n,.fn (.func 107) [] [.ptr oc 0]] h0 (fun _ h'=>HE h0 h'):=by
 have hb0:=he0
 have srt:∀(a b:Nat) (h:Hp Fm),HE h0 h→b≤n→a≤1000000→A Tryz.prog TT (.func 138) [v,.int .i64 a,.int .i64 b,.fn (.func 107) [] [.ptr oc 0]] h (fun _ h'=>HE h h'):=fun a b h he h1 h2=>inssort_id E xs hxl hs v h (he0.trans he) (hr.he he) a b (by omega) h2
 have mrg:∀(a m b:Nat) (h:Hp Fm),HE h0 h→a<m→m<b→b≤n→A Tryz.prog TT (.func 139) [v,.int .i64 a,.int .i64 m,.int .i64 b,.fn (.func 107) [] [.ptr oc 0]] h (fun _ h'=>HE h h'):=fun a m b h he h1 h2 h3=>symm_id E xs hxl hs v (b-a) a m b (Nat.le_refl _) h1 h2 (by omega) h (he0.trans he) (hr.he he)
 apply A_go Tryz.func122 rfl (by rfl);(case hn=>(simp[Tryz.ntmps122];rfl))
 refine vZ ?_
 refine W.mono (R:=fun e s=>e=.exit 0∧∃(t:Fm AV) (h:Hp Fm) (a:Nat),s=⟨t,63,h,none⟩∧a≤n∧tget t 0=v∧tget t 1=.int .i64 n∧tget t 2=.fn (.func 107) [] [.ptr oc 0]∧tget t 6=.int .i64 20∧tget t 7=.int .i64 a∧HE h0 h) ?_ ?_
 ·refine W_loop (fun z s=>∃(t:Fm AV) (h:Hp Fm) (a b:Nat),s=⟨t,63,h,none⟩∧z=n-a∧a≤n∧b=a+20∧tget t 0=v∧tget t 1=.int .i64 n∧tget t 2=.fn (.func 107) [] [.ptr oc 0]∧tget t 6=.int .i64 20∧tget t 7=.int .i64 a∧tget t 8=.int .i64 b∧HE h0 h) n
   ⟨_,_,0,20,rfl,rfl,by omega,rfl,by simp,by simp,by simp,by simp,by simp,by simp,HE.refl _⟩ ?_
  rintro _ s ⟨t,h,a,b,rfl,rfl,ha,hb1,t0,t1,t2,t6,t7,t8,he⟩
  by_cases q:b≤n
  case neg=>
   have q':¬(b:Int)≤n:=by omega
   refine vF (cJ t1 (cJ t8 (cJ q q'))) ?_
   exact⟨rfl,_,_,a,rfl,ha,by simp[t0],by simp[t1],by simp[t2],by simp[t6],by simp[t7],he⟩
  have q':(b:Int)≤n:=by omega
  obtain⟨c,hc⟩:∃c,c=b+20:=⟨_,rfl⟩
  have wc:IntKind.i64.wrap ((b:Int)+20)=(c:Int):=by rw[wrap64 (by omega) (by omega)];omega
  refine vF (cJ t0 (cJ t1 (cJ t2 (cJ t7 (cJ t8 (cJ q q')))))) ?_
  refine A.mono (srt a b h he q (by omega)) ?_
  rintro rv h3 e3
  refine vP ?_
  refine vF (cJ t6 (cJ t8 wc)) ?_
  exact⟨n-b,by omega,_,_,b,c,rfl,rfl,q,hc,by simp[t0],by simp[t1],by simp[t2],by simp[t6],by simp,by simp,he.trans e3⟩
 rintro e s ⟨rfl,t,h,a,rfl,ha,t0,t1,t2,t6,t7,he⟩
 refine vF (cJ t0 (cJ t1 (cJ t2 t7))) ?_
 refine A.mono (srt a n h he (Nat.le_refl _) (by omega)) ?_
 rintro rv h3 e3
 have heX:=he.trans e3
 clear he e3
 refine vP ?_
 refine vZ ?_
 refine W_loop (fun z s=>∃(t:Fm AV) (h:Hp Fm) (k:Nat),s=⟨t,63,h,none⟩∧z=2*n-k∧20≤k∧k≤4000000∧tget t 0=v∧tget t 1=.int .i64 n∧tget t 2=.fn (.func 107) [] [.ptr oc 0]∧tget t 6=.int .i64 k∧HE h0 h) (2*n-20)
  ⟨_,_,20,rfl,rfl,by omega,by omega,by simp[t0],by simp[t1],by simp[t2],by simp[t6],heX⟩ ?_
 clear t0 t1 t2 t6 t7 heX h h3 t
 rintro _ s ⟨t,h,k,rfl,rfl,hk1,hk2,t0,t1,t2,t6,he⟩
 by_cases q:k<n
 case neg=>
  have q':¬(k:Int)<n:=by omega
  refine vF (cJ t1 (cJ t6 (cJ q q'))) ?_
  (first | apply endW_r | apply endW_n);(case h1=>(simp[Tryz.results122];first | done | rfl))
  exact he
 have q':(k:Int)<n:=by omega
 obtain⟨k2,hkk⟩:∃k2,k2=2*k:=⟨_,rfl⟩
 have wk:IntKind.i64.wrap (2*(k:Int))=(k2:Int):=by rw[wrap64 (by omega) (by omega)];omega
 have wk':IntKind.i64.wrap ((k:Int)*2)=(k2:Int):=by rw[wrap64 (by omega) (by omega)];omega
 refine vF (cJ t1 (cJ t6 (cJ q (cJ q' wk)))) ?_
 refine W.mono (R:=fun e s=>e=.exit 4∧∃(t:Fm AV) (h:Hp Fm) (a:Nat),s=⟨t,63,h,none⟩∧a≤n∧tget t 0=v∧tget t 1=.int .i64 n∧tget t 2=.fn (.func 107) [] [.ptr oc 0]∧tget t 6=.int .i64 k∧tget t 7=.int .i64 a∧HE h0 h) ?_ ?_
 ·refine W_loop (fun z s=>∃(t:Fm AV) (h:Hp Fm) (a b:Nat),s=⟨t,63,h,none⟩∧z=n-a∧a≤n∧b=a+k2∧tget t 0=v∧tget t 1=.int .i64 n∧tget t 2=.fn (.func 107) [] [.ptr oc 0]∧tget t 6=.int .i64 k∧tget t 7=.int .i64 a∧tget t 8=.int .i64 b∧HE h0 h) n
   ⟨_,_,0,k2,rfl,rfl,by omega,by omega,by simp[t0],by simp[t1],by simp[t2],by simp[t6],by simp,by simp,he⟩ ?_
  clear t0 t1 t2 t6 he t h
  rintro _ s ⟨t,h,a,b,rfl,rfl,ha,hb1,t0,t1,t2,t6,t7,t8,he⟩
  by_cases q:b≤n
  case neg=>
   have q':¬(b:Int)≤n:=by omega
   refine vF (cJ t1 (cJ t8 (cJ q q'))) ?_
   exact⟨rfl,_,_,a,rfl,ha,by simp[t0],by simp[t1],by simp[t2],by simp[t6],by simp[t7],he⟩
  have q':(b:Int)≤n:=by omega
  obtain⟨c,hc⟩:∃c,c=b+k2:=⟨_,rfl⟩
  obtain⟨m,hm⟩:∃m,m=a+k:=⟨_,rfl⟩
  have wc:IntKind.i64.wrap ((b:Int)+k2)=(c:Int):=by rw[wrap64 (by omega) (by omega)];omega
  have wm:IntKind.i64.wrap ((a:Int)+k)=(m:Int):=by rw[wrap64 (by omega) (by omega)];omega
  refine vF (cJ t0 (cJ t1 (cJ t2 (cJ t6 (cJ t7 (cJ t8 (cJ q (cJ q' wm)))))))) ?_
  refine A.mono (mrg a m b h he (by omega) (by omega) q) ?_
  rintro rv h3 e3
  refine vP ?_
  refine vF (cJ t6 (cJ t8 (cJ wk wc))) ?_
  exact⟨n-b,by omega,_,_,b,c,rfl,rfl,q,hc,by simp[t0],by simp[t1],by simp[t2],by simp[t6],by simp,by simp,he.trans e3⟩
 clear t0 t1 t2 t6 he t h
 rintro e s ⟨rfl,t,h,a,rfl,ha,t0,t1,t2,t6,t7,he⟩
 obtain⟨m,hm⟩:∃m,m=a+k:=⟨_,rfl⟩
 have wm:IntKind.i64.wrap ((a:Int)+k)=(m:Int):=by rw[wrap64 (by omega) (by omega)];omega
 by_cases q5:m<n
 ·have q5':(m:Int)<n:=by omega
  refine vF (cJ t0 (cJ t1 (cJ t2 (cJ t6 (cJ t7 (cJ wm (cJ q5 q5'))))))) ?_
  refine A.mono (mrg a m n h he (by omega) q5 (Nat.le_refl _)) ?_
  rintro rv h3 e3
  refine vP ?_
  refine vF (cJ t6 wk') ?_
  exact⟨2*n-k2,by omega,_,_,k2,rfl,rfl,by omega,by omega,by simp[t0],by simp[t1],by simp[t2],by simp,he.trans e3⟩
 ·have q5':¬(m:Int)<n:=by omega
  refine vF (cJ t0 (cJ t1 (cJ t2 (cJ t6 (cJ t7 (cJ wm (cJ q5 (cJ q5' wk')))))))) ?_
  exact⟨2*n-k2,by omega,_,_,k2,rfl,rfl,by omega,by omega,by simp[t0],by simp[t1],by simp[t2],by simp,he⟩
set_option maxHeartbeats 1000000 in
theorem order_id(path:List Lg)(vp:AV)(hvp:SV 2 (path.map encL) vp)(hl:path.length≤1000000)(xs:List Ver)(v:AV)(hv:SL 8 (xs.map encV) v)(hxl:xs.length≤1000000)(hse:∀x∈xs,unseen path x=false)(hs:NDec path xs)(h0:Hp Fm) :
  A Tryz.prog TT (.func 80) [v,vp] h0 (fun r h'=>SL 8 (xs.map encV) r∧HE h0 h'):=by
 have pc:=hvp.cells
 have pd:=hvp.isCell
 have vc:=hv.sv.cells
 have vd:=hv.sv.isCell
 apply A_goT Tryz.func80 rfl (by rfl);(case hn=>(simp[Tryz.ntmps80];rfl))
 refine vF (cJ pc (cJ pd (cJ vc vd))) ?_
 obtain⟨hb,hhb⟩:∃hb:Hp Fm,hb={ h0 with obj:=Mp.set h0.obj h0.no (.row [vp]),no:=h0.no+1,pol:=(· == 117) }:=⟨_,rfl⟩
 have hoc:Mp.get hb.obj h0.no=some (.row [vp]):=by rw[hhb];simp
 have hcn:h0.no<hb.no:=by rw[hhb];simp
 have hp3:hb.pol 3=false:=by rw[hhb];rfl
 have hpv:hb.pol 117=true:=by rw[hhb];rfl
 rw[←hhb]
 refine A.mono (clonev_ans xs v hv (by omega) hb hpv) ?_
 rintro w1 h1 ⟨r1,e1⟩
 have c1:=r1.cells
 have d1:=r1.isCell
 refine vP ?_
 refine vF (cJ c1 d1) ?_
 refine A.mono (delf_ans path vp hvp hl h0.no hb hoc hcn xs w1 (by omega) h1 e1 r1) ?_
 rintro w2 h2 ⟨r2,e2⟩
 have c2:=r2.cells
 have d2:=r2.isCell
 have l2:=r2.len Tryz.underlying64
 have n2:=r2.nm
 have hfs:xs.filter (fun a => !unseen path a)=xs:=List.filter_eq_self.mpr fun x hx=>by rw[hse x hx];rfl
 rw[hfs]at r2 l2
 rw[List.length_map]at l2
 refine vP ?_
 refine vF (cJ c2 d2) ?_
 have sorts:A Tryz.prog TT (.func 106) [w2,.fn (.func 107) [] [.ptr h0.no 0]] h2 (fun _ h'=>HE h2 h'):=by
  apply A_go Tryz.func106 rfl (by rfl);(case hn=>(simp[Tryz.ntmps106];rfl))
  refine vF (cJ c2 (cJ d2 (cJ l2 n2))) ?_
  refine A.mono (stable_id ⟨vp,hvp,hl,hoc,hcn,hp3⟩ xs hxl hs w2 h2 e2 r2 _ rfl) ?_
  rintro _ h' k5
  refine vP ?_
  refine vZ ?_
  (first | apply endW_r | apply endW_n);(case h1=>(simp[Tryz.results106];first | done | rfl))
  exact k5
 refine A.mono sorts ?_
 rintro _ h3 e3
 have k4:=r2.he e3
 have k5:=e2.trans e3
 refine vP ?_
 refine vF (cJ c2 d2) ?_
 (first | apply endW_r | apply endW_n);(case h1=>(simp[Tryz.results80];first | done | rfl))
 obtain⟨f1,f2⟩:=k4.frz (fitVs _) (by omega) (fun e=>by cases e)
 have f3:=k5.x2 f2 k4.rows (fun _ e=>e.elim)
 refine⟨?_,?_⟩
 ·rcases k4 with⟨hw,hx⟩ | ⟨o,cap,hw,_⟩
  ·rw[hw];exact .inl ⟨rfl,hx⟩
  ·rcases f1 with⟨z,hz⟩ | ⟨g,of_,cp,z⟩ | ⟨c,z,hz⟩
   ·exact .inl ⟨z,hz⟩
   ·exact .inr ⟨g,of_,cp,z⟩
   ·rw[hw]at z
    simp only[Vn.frz]at z
    exfalso
    revert z
    split <;> (try split) <;> simp
 ·have:HE h0 hb→True:=fun _=>trivial
  refine⟨Nat.le_trans (Nat.le_of_lt hcn) f3.no,?_,rfl,fun q hq=>?_,fun g hg=>?_⟩
  ·exact Nat.le_trans (by rw[hhb];exact Nat.le_refl _) f3.ng
  ·refine(f3.obj q (Nat.lt_trans hq hcn)).trans ?_
   rw[hhb];simp[Nat.ne_of_lt hq]
  ·refine(f3.len g (by rw[hhb];exact hg)).trans ?_
   rw[hhb]
end Go.Vn

set_option maxRecDepth 20000
namespace Go.Vn
open Go.Proofs
structure Nd where
 p:Nat
 o:Nat
 key:List UInt8
 v:AV
deriving Inhabited
@[simp] def nextP:List Nd→AV
 | []=>.nilp
 | n::_=>.ptr n.p 0
def Chain(h:Hp Fm):List Nd→Prop
 | []=>True
 | n::ns=>Mp.get h.obj n.p=some (.row [.str n.key,n.v,.rs n.o 0 1 false 1 1])∧Mp.get h.obj n.o=some (.row [nextP ns])∧n.p<h.no∧n.o<h.no∧n.v.cells=[n.v]∧n.v.isCell=true∧Chain h ns
abbrev N8:List AV:=[.nilp,.nilp,.nilp,.nilp,.nilp,.nilp,.nilp,.nilp]
abbrev N7:List AV:=[.nilp,.nilp,.nilp,.nilp,.nilp,.nilp,.nilp]
theorem len8{L:List AV}(h:L.length=8):∃a b c d e f g i,L=[a,b,c,d,e,f,g,i]:=by
 match L,h with
 | [a,b,c,d,e,f,g,i],_=>exact⟨a,b,c,d,e,f,g,i,rfl⟩
def walkP(key:List UInt8)(a:Nat):List Nd→Nat
 | []=>a
 | n::ns=>if ltB n.key key=true then walkP key n.p ns else a
theorem vNc32{F G K:Prop}(f:F)(k:K)(h:F→K→G:=by intro f k;(repeat(first|with_reducible first|refine vmR ?_|refine vmV rfl ?_|refine vmW rfl ?_|refine vmL ?_|refine blockW_y (by decide) ?_|((with_reducible first|apply vmO|apply vmT|apply vmC);case a=>simp[f,eqlAV];with_reducible first|exact .v|exact .c|exact .t|exact .f)));exact k):G:=h f k
theorem vNc33{F G K:Prop}(f:F)(k:K)(h:F→K→G:=by intro f k;(repeat(first|with_reducible first|refine vmR ?_|refine vmV rfl ?_|refine vmW rfl ?_|refine vmL ?_|refine blockW_y (by decide) ?_|((with_reducible first|apply vmO|apply vmT|apply vmC);case a=>simp[f,splice];with_reducible first|exact .v|exact .c|exact .t|exact .f)));exact k):G:=h f k
set_option maxHeartbeats 4000000 in
theorem ahead_row0(key:List UInt8)(b4 b5:Nat)(h0:Hp Fm)(hb4:h0.no≤b4)(hb5:h0.no≤b5)(h45:b4≠b5)(bd:Code)(hbd:∃c,Tryz.f140.body=some (.seq c (.scope bd)))(rest:Code)(hrest:findLabel bd 0=some rest) :
  ∀(ns:List Nd) (ap aq c:Nat) (ak:List UInt8) (aw:AV) (tl:List AV) (t:Fm AV) (h:Hp Fm) (L:List AV),L.length=8→(∀x∈L,x.isCell=true)→HE h0 h→Mp.get h.obj b5=some (.row L)→Mp.get h.obj b4=some (.row N8)→Chain h0 ns →
   Mp.get h0.obj ap=some (.row [.str ak,aw,.rs aq 0 1 false c c])→Mp.get h0.obj aq=some (.row (nextP ns::tl))→ap<h0.no→aq<h0.no→1≤c →
   tget t 1=.str key→tget t 4=.ptr b4 0→tget t 5=.ptr b5 0→tget t 6=.ptr ap 0→tget t 7=.int .i64 0 →
   W Tryz.prog TT rest ⟨t,39,h,none⟩ (jumpW Tryz.prog TT bd <| endW Tryz.prog Tryz.f140 fun r h'=>(∃L',r=.agg (.ptr (walkP key ap ns) 0::L')∧L'.length=7∧(∀x∈L',x∈L))∧HE h0 h'):=by
 obtain⟨c,hb2⟩:=hbd
 have hb':some (Code.seq c (.scope bd))=Tryz.f140.body:=hb2.symm
 injection hb' with hb'
 injection hb' with _ hb4'
 injection hb4' with hb3
 subst hb3
 injection hrest with hrest
 subst hrest
 intro ns
 induction ns with
 | nil=>
  intro ap aq c ak aw tl t h L hL hcl he g5 g4 ch ga gq an qn hc t1 t4 t5 t6 t7
  clear hb2
  have ga:=(he.obj _ an).trans ga
  have gq:=(he.obj _ qn).trans gq
  have ix:indexAddrAV Tryz.prog 224 (.ptr b5 0) (.int .i64 0)=some (.ptr b5 0):=by simp[indexAddrAV]
  have ixo:indexAddrAV Tryz.prog 189 (.rs aq 0 1 false c c) (.int .i64 0)=some (.ptr aq 0):=by
   rw[index_rs Tryz.underlying189 z188 (by omega) (by omega)];rfl
  have pao:partAV false 1 (nextP []::tl) 0=some .nilp:=by simp[partAV,nextP]
  obtain⟨a1,a2,a3,a4,a5,a6,a7,a8,rfl⟩:=len8 hL
  simp only[List.mem_cons,List.not_mem_nil,or_false,forall_eq_or_imp,forall_eq]at hcl
  obtain⟨i1,i2,i3,i4,i5,i6,i7,i8⟩:=hcl
  have w1:IntKind.i64.wrap (-1)=-1:=by rfl
  have w2:IntKind.i64.wrap (0-1)=-1:=by rfl
  have h54:b5≠b4:=fun e=>h45 e.symm
  simp only[N8]at g4
  refine vNc32 (cJ t1 (cJ t4 (cJ t5 (cJ t6 (cJ t7 (cJ ga (cJ gq (cJ ixo pao)))))))) ?_
  refine vNc33 (cJ t4 (cJ t5 (cJ t6 (cJ t7 (cJ ix (cJ g5 (cJ g4 (cJ h54 (cJ h45 (cJ w1 (cJ w2 (cJ i2 (cJ i3 (cJ i4 (cJ i5 (cJ i6 (cJ i7 i8))))))))))))))))) ?_
  (first | apply endW_r | apply endW_n);(case h1=>(simp[Tryz.results140,t4];first | done | rfl))
  exact⟨⟨[a2,a3,a4,a5,a6,a7,a8],rfl,rfl,fun x hx=>List.mem_cons_of_mem _ hx⟩,(he.set hb5 _).set hb4 _⟩
 | cons n ns ih=>
  intro ap aq c ak aw tl t h L hL hcl he g5 g4 ch ga0 gq0 an qn hc t1 t4 t5 t6 t7
  clear hb2
  obtain⟨c1,c2,c3,c4,c5,c6,c7⟩:=ch
  have ga:=(he.obj _ an).trans ga0
  have gq:=(he.obj _ qn).trans gq0
  have gn:=(he.obj _ c3).trans c1
  have ix:indexAddrAV Tryz.prog 224 (.ptr b5 0) (.int .i64 0)=some (.ptr b5 0):=by simp[indexAddrAV]
  have ixo:indexAddrAV Tryz.prog 189 (.rs aq 0 1 false c c) (.int .i64 0)=some (.ptr aq 0):=by
   rw[index_rs Tryz.underlying189 z188 (by omega) (by omega)];rfl
  have pao:partAV false 1 (nextP (n::ns)::tl) 0=some (.ptr n.p 0):=by simp[partAV,nextP]
  cases hlt:ltB n.key key with
  | false=>
   have ew:walkP key ap (n::ns)=ap:=by simp[walkP,hlt]
   rw[ew]
   obtain⟨a1,a2,a3,a4,a5,a6,a7,a8,rfl⟩:=len8 hL
   simp only[List.mem_cons,List.not_mem_nil,or_false,forall_eq_or_imp,forall_eq]at hcl
   obtain⟨i1,i2,i3,i4,i5,i6,i7,i8⟩:=hcl
   have w1:IntKind.i64.wrap (-1)=-1:=by rfl
   have w2:IntKind.i64.wrap (0-1)=-1:=by rfl
   have h54:b5≠b4:=fun e=>h45 e.symm
   simp only[N8]at g4
   refine vNc32 (cJ t1 (cJ t4 (cJ t5 (cJ t6 (cJ t7 (cJ ga (cJ gq (cJ gn (cJ ixo (cJ pao hlt)))))))))) ?_
   refine vNc33 (cJ t4 (cJ t5 (cJ t6 (cJ t7 (cJ ix (cJ g5 (cJ g4 (cJ h54 (cJ h45 (cJ w1 (cJ w2 (cJ i2 (cJ i3 (cJ i4 (cJ i5 (cJ i6 (cJ i7 i8))))))))))))))))) ?_
   (first | apply endW_r | apply endW_n);(case h1=>(simp[Tryz.results140,t4];first | done | rfl))
   exact⟨⟨[a2,a3,a4,a5,a6,a7,a8],rfl,rfl,fun x hx=>List.mem_cons_of_mem _ hx⟩,(he.set hb5 _).set hb4 _⟩
  | true=>
   have ew:walkP key ap (n::ns)=walkP key n.p ns:=by simp[walkP,hlt]
   rw[ew]
   refine vNc32 (cJ t1 (cJ t4 (cJ t5 (cJ t6 (cJ t7 (cJ ga (cJ gq (cJ gn (cJ ixo (cJ pao hlt)))))))))) ?_
   refine jumpW_g rfl (WS_run ?_)
   refine ih n.p n.o 1 n.key n.v [] _ _ L hL hcl he g5 g4 c7 c1 c2 c3 c4 (Nat.le_refl _) ?_ ?_ ?_ ?_ ?_
   all_goals simp[t1,t4,t5,t7]
structure SkL(h:Hp Fm)(pl pn po:Nat)(ns:List Nd)(many:Int):Prop where
 l:Mp.get h.obj pl=some (.row [.ptr pn 0,.int .i64 many])
 n:Mp.get h.obj pn=some (.row [.str [],.nils,.rs po 0 1 false 8 8])
 o:Mp.get h.obj po=some (.row (nextP ns::N7))
 c:Chain h ns
 ln:pl<h.no
 nn:pn<h.no
 on:po<h.no
theorem Chain.of{h h':Hp Fm}:∀{ns:List Nd},Chain h ns→(∀n∈ns,Mp.get h'.obj n.p=Mp.get h.obj n.p∧Mp.get h'.obj n.o=Mp.get h.obj n.o)→h.no≤h'.no→Chain h' ns
 | [],_,_,_=>trivial
 | n::ns,⟨a,b,c,d,e,f,g⟩,k,l=>⟨(k n (by simp)).1.trans a,(k n (by simp)).2.trans b,by omega,by omega,e,f,g.of (fun m hm=>k m (List.mem_cons_of_mem _ hm)) l⟩
theorem Chain.lt{h:Hp Fm}:∀{ns:List Nd},Chain h ns→∀n∈ns,n.p<h.no∧n.o<h.no
 | [],_,n,hn=>by cases hn
 | m::ns,⟨a,b,c,d,e,f,g⟩,n,hn=>by
  rcases List.mem_cons.mp hn with rfl | hn
  ·exact⟨c,d⟩
  ·exact g.lt n hn
theorem Chain.he{h h':Hp Fm}{ns:List Nd}(k:Chain h ns)(e:HE h h'):Chain h' ns:=k.of (fun n hn=>⟨e.obj _ (k.lt n hn).1,e.obj _ (k.lt n hn).2⟩) e.no
theorem SkL.he{h h':Hp Fm}{pl pn po:Nat}{ns:List Nd}{many:Int}(k:SkL h pl pn po ns many)(e:HE h h'):SkL h' pl pn po ns many:=
 ⟨(e.obj _ k.ln).trans k.l,(e.obj _ k.nn).trans k.n,(e.obj _ k.on).trans k.o,k.c.he e,Nat.lt_of_lt_of_le k.ln e.no,Nat.lt_of_lt_of_le k.nn e.no,Nat.lt_of_lt_of_le k.on e.no⟩
set_option maxHeartbeats 4000000 in
theorem ahead_rows(key:List UInt8)(pl pn po b4 b5:Nat)(ns:List Nd)(many:Int)(h0:Hp Fm)(k0:SkL h0 pl pn po ns many)(hb4:h0.no≤b4)(hb5:h0.no≤b5)(h45:b4≠b5)(bd:Code)(hbd:∃c,Tryz.f140.body=some (.seq c (.scope bd)))(rest:Code)(hrest:findLabel bd 0=some rest) :
  ∀(n:Nat) (t:Fm AV) (h:Hp Fm) (L:List AV),n<8→L.length=8→(∀x∈L,x.isCell=true)→HE h0 h→Mp.get h.obj b5=some (.row L)→Mp.get h.obj b4=some (.row N8)→tget t 1=.str key→tget t 4=.ptr b4 0→tget t 5=.ptr b5 0→tget t 6=.ptr pn 0→tget t 7=.int .i64 n →
   W Tryz.prog TT rest ⟨t,39,h,none⟩ (jumpW Tryz.prog TT bd <| endW Tryz.prog Tryz.f140 fun r h'=>(∃L',r=.agg (.ptr (walkP key pn ns) 0::L')∧L'.length=7)∧HE h0 h'):=by
 intro n
 induction n with
 | zero=>
  intro t h L hn hL hcl he g5 g4 t1 t4 t5 t6 t7
  exact W.mono (ahead_row0 key b4 b5 h0 hb4 hb5 h45 bd hbd rest hrest ns pn po 8 [] .nils N7 t h L hL hcl he g5 g4 k0.c k0.n k0.o k0.nn k0.on (by omega) t1 t4 t5 t6 t7) (jumpW_mono fun _ _=>endW_mono fun r h' ⟨⟨L',a,b,_⟩,d⟩=>⟨⟨L',a,b⟩,d⟩)
 | succ n ih=>
  obtain⟨c,hb2⟩:=hbd
  have hb':some (Code.seq c (.scope bd))=Tryz.f140.body:=hb2.symm
  injection hb' with hb'
  injection hb' with _ hb4'
  injection hb4' with hb3
  subst hb3
  injection hrest with hrest
  subst hrest
  intro t h L hn hL hcl he g5 g4 t1 t4 t5 t6 t7
  clear hb2
  have kk:=k0.he he
  have gn:=kk.n
  have go:=kk.o
  obtain⟨m,hm⟩:∃m,m=n+1:=⟨_,rfl⟩
  rw[←hm]at t7
  have ixo:indexAddrAV Tryz.prog 189 (.rs po 0 1 false 8 8) (.int .i64 (m:Int))=some (.ptr po m):=by
   rw[index_rs Tryz.underlying189 z188 (by omega) (by omega),Int.toNat_natCast,Nat.mul_one]
  have ix:indexAddrAV Tryz.prog 224 (.ptr b5 0) (.int .i64 (m:Int))=some (.ptr b5 m):=by
   have:(m:Int)<8:=by omega
   simp[indexAddrAV,this]
  have pao:partAV false 1 (nextP ns::N7) m=some .nilp:=by
   have:m=1∨m=2∨m=3∨m=4∨m=5∨m=6∨m=7:=by omega
   rcases this with rfl | rfl | rfl | rfl | rfl | rfl | rfl <;> rfl
  obtain⟨RW,hRW⟩:∃RW,RW=nextP ns::N7:=⟨_,rfl⟩
  rw[←hRW]at go pao
  have w1:IntKind.i64.wrap ((m:Int)-1)=(n:Int):=by rw[wrap64 (by omega) (by omega)];omega
  have ll:m+1≤L.length:=by omega
  have n0:(0:Int)≤n:=by omega
  refine vNc32 (cJ t1 (cJ t4 (cJ t5 (cJ t6 (cJ t7 (cJ gn (cJ go (cJ ixo pao)))))))) ?_
  refine vF (cJ t4 (cJ t5 (cJ t6 (cJ t7 (cJ ix (cJ g5 (cJ g4 (cJ ll (cJ w1 n0))))))))) ?_
  refine jumpW_g rfl (WS_run ?_)
  refine ih _ _ (splice L m [.ptr pn 0]) (by omega) (by simp[splice];omega) ?_ (he.set hb5 _) (by simp) ?_ ?_ ?_ ?_ ?_ ?_
  ·intro x hx
   simp only[splice,List.mem_append,List.mem_singleton]at hx
   rcases hx with (hx | rfl) | hx
   ·exact hcl x (List.mem_of_mem_take hx)
   ·rfl
   ·exact hcl x (List.mem_of_mem_drop hx)
  ·show Mp.get (Mp.set h.obj b5 _) b4=_
   rw[Mp.get_set,if_neg h45];exact g4
  all_goals simp[t1,t4,t5,t6]
theorem vNc34{F G K:Prop}(f:F)(k:K)(h:F→K→G:=by intro f k;(repeat(first|with_reducible first|refine vmR ?_|refine vmV rfl ?_|refine vmW rfl ?_|refine blockW_y (by decide) ?_|((with_reducible first|apply vmO|apply vmT|apply vmC);case a=>simp[f];with_reducible first|exact .v|exact .c|exact .t|exact .f)));exact k):G:=h f k
set_option maxHeartbeats 1000000 in
theorem ahead_ans(key:List UInt8)(pl pn po:Nat)(ns:List Nd)(many:Int)(h0:Hp Fm)(k0:SkL h0 pl pn po ns many) :
  A Tryz.prog TT (.func 140) [.ptr pl 0,.str key] h0 (fun r h'=>(∃L',r=.agg (.ptr (walkP key pn ns) 0::L')∧L'.length=7)∧HE h0 h'):=by
 have z1:h0.no≠h0.no+1:=by omega
 have z2:pl≠h0.no:=Nat.ne_of_lt k0.ln
 have z3:pl≠h0.no+1:=by have:=k0.ln;omega
 have gl:=k0.l
 have e2:∀a b,HE h0 { h0 with obj:=Mp.set (Mp.set h0.obj h0.no a) (h0.no+1) b,no:=h0.no+1+1 }:=fun a b=>((HE.refl h0).new a).new b
 apply A_go Tryz.func140 rfl (by rfl);(case hn=>(simp[Tryz.ntmps140];rfl))
 refine vNc34 (cJ gl (cJ z1 (cJ z2 z3))) ?_
 refine W_label_i (thenW_n ?_)
 refine W_skip_seq ?_
 refine W_heap ?_
 intro hA hhA
 have eA:HE h0 hA:=by rw[hhA];exact e2 _ _
 have g4:Mp.get hA.obj h0.no=some (.row N8):=by rw[hhA];simp[N8]
 have g5:Mp.get hA.obj (h0.no+1)=some (.row N8):=by rw[hhA];simp[N8]
 clear hhA
 refine W.mono (ahead_rows key pl pn po h0.no (h0.no+1) ns many h0 k0 (Nat.le_refl _) (by omega) z1 _ ⟨_,rfl⟩ _ rfl 7 _ hA N8 (by omega) rfl ?_ eA g5 g4 ?_ ?_ ?_ ?_ ?_) (jumpW_mono fun ee s=>endW_mono fun r h' z=>z)
 ·intro x hx;simp[N8]at hx;rw[hx];rfl
 all_goals simp
def findN(key:List UInt8):List Nd→Option Nd
 | []=>none
 | n::ns=>if ltB n.key key=true then findN key ns else if n.key=key then some n else none
def restN(key:List UInt8):List Nd→List Nd
 | []=>[]
 | n::ns=>if ltB n.key key=true then restN key ns else n::ns
@[simp] def ptrN:Option Nd→AV
 | some n=>.ptr n.p 0
 | none=>.nilp
@[simp] def vN:Option Nd→AV
 | some n=>n.v
 | none=>.nils
def headN(key:List UInt8):List Nd→Option Nd
 | []=>none
 | n::_=>if n.key=key then some n else none
theorem restN_sub(key:List UInt8):∀ns:List Nd,∀n∈restN key ns,n∈ns
 | [],_,h=>h
 | m::ns,n,h=>by
  unfold restN at h
  split at h
  ·exact List.mem_cons_of_mem _ (restN_sub key ns n h)
  ·exact h
def walkQ(key:List UInt8)(a:Nat):List Nd→Nat
 | []=>a
 | n::ns=>if ltB n.key key=true then walkQ key n.o ns else a
def walkT(key:List UInt8)(tl:List AV):List Nd→List AV
 | []=>tl
 | n::ns=>if ltB n.key key=true then walkT key [] ns else tl
def objsN(ns:List Nd):List Nat:=ns.flatMap fun n=>[n.p,n.o]
theorem walkQ_mem(key:List UInt8):∀(ns:List Nd) (a:Nat),walkQ key a ns∈a::objsN ns
 | [],a=>by simp[walkQ]
 | n::ns,a=>by
  unfold walkQ
  split
  ·have:=walkQ_mem key ns n.o
   rcases List.mem_cons.mp this with h | h
   ·rw[h];simp[objsN]
   ·exact List.mem_cons_of_mem _ (by simp only[objsN,List.flatMap_cons];exact List.mem_append_right _ h)
  ·simp
theorem walk_at(key:List UInt8){h:Hp Fm}:∀(ns:List Nd) (ap aq c:Nat) (ak:List UInt8) (aw:AV) (tl:List AV),Chain h ns→Mp.get h.obj ap=some (.row [.str ak,aw,.rs aq 0 1 false c c])→Mp.get h.obj aq=some (.row (nextP ns::tl))→1≤c→ap<h.no→aq<h.no →
  ∃(c':Nat) (ak':List UInt8) (aw':AV),Mp.get h.obj (walkP key ap ns)=some (.row [.str ak',aw',.rs (walkQ key aq ns) 0 1 false c' c'])∧Mp.get h.obj (walkQ key aq ns)=some (.row (nextP (restN key ns)::walkT key tl ns))∧1≤c'∧walkP key ap ns<h.no∧walkQ key aq ns<h.no
 | [],ap,aq,c,ak,aw,tl,_,g1,g2,hc,h1,h2=>⟨c,ak,aw,g1,g2,hc,h1,h2⟩
 | n::ns,ap,aq,c,ak,aw,tl,⟨a,b,c1,d,_,_,g⟩,g1,g2,hc,h1,h2=>by
  unfold walkP restN walkQ walkT
  by_cases q:ltB n.key key=true
  ·simp only[q,if_true]
   exact walk_at key ns n.p n.o 1 n.key n.v [] g a b (Nat.le_refl _) c1 d
  ·rw[if_neg q,if_neg q,if_neg q,if_neg q]
   exact⟨c,ak,aw,g1,g2,hc,h1,h2⟩
theorem findN_rest(key:List UInt8):∀ns:List Nd,findN key ns=headN key (restN key ns)
 | []=>rfl
 | n::ns=>by
  unfold findN restN
  by_cases q:ltB n.key key=true
  ·rw[if_pos q,if_pos q];exact findN_rest key ns
  ·rw[if_neg q,if_neg q];rfl
theorem Chain.mem{h:Hp Fm}:∀{ns:List Nd},Chain h ns→∀n∈ns,Mp.get h.obj n.p=some (.row [.str n.key,n.v,.rs n.o 0 1 false 1 1])∧n.v.cells=[n.v]∧n.v.isCell=true
 | [],_,n,hn=>by cases hn
 | m::ns,⟨a,b,c,d,e,f,g⟩,n,hn=>by
  rcases List.mem_cons.mp hn with rfl | hn
  ·exact⟨a,e,f⟩
  ·exact g.mem n hn
set_option maxHeartbeats 1000000 in
theorem sfind_ans(key:List UInt8)(pl pn po:Nat)(ns:List Nd)(many:Int)(h0:Hp Fm)(k0:SkL h0 pl pn po ns many) :
  A Tryz.prog TT (.func 124) [.ptr pl 0,.str key] h0 (fun r h'=>r=ptrN (findN key ns)∧HE h0 h'):=by
 apply A_go Tryz.func124 rfl (by rfl);(case hn=>(simp[Tryz.ntmps124];rfl))
 refine vZ ?_
 refine A.mono (ahead_ans key pl pn po ns many h0 k0) ?_
 rintro _ h1 ⟨⟨L',rfl,hl⟩,e1⟩
 have k1:=k0.he e1
 obtain⟨c,ak,aw,g1,g2,hc,n1,n2⟩:=walk_at key ns pn po 8 [] .nils N7 k1.c k1.n k1.o (by omega) k1.nn k1.on
 obtain⟨aq,haq⟩:∃aq,aq=walkQ key po ns:=⟨_,rfl⟩
 obtain⟨tl,htl⟩:∃tl,tl=walkT key N7 ns:=⟨_,rfl⟩
 rw[←haq]at g1 g2 n2
 rw[←htl]at g2
 obtain⟨wp,hwp⟩:∃wp,wp=walkP key pn ns:=⟨_,rfl⟩
 rw[←hwp]at g1 ⊢
 have jx:indexAV Tryz.prog 224 (.agg (.ptr wp 0::L')) (.int .i64 0)=some (.ptr wp 0):=by
  simp[indexAV,partAV]
 have ixo:indexAddrAV Tryz.prog 189 (.rs aq 0 1 false c c) (.int .i64 0)=some (.ptr aq 0):=by
  rw[index_rs Tryz.underlying189 z188 (by omega) (by omega)];rfl
 rw[findN_rest]
 have sub:=restN_sub key ns
 refine vP ?_
 cases hr:restN key ns with
 | nil=>
  rw[hr]at g2
  have pao:partAV false 1 (nextP []::tl) 0=some .nilp:=by simp[partAV,nextP]
  refine vNc32 (cJ jx (cJ g1 (cJ g2 (cJ ixo pao)))) ?_
  (first | apply endW_r | apply endW_n);(case h1=>(simp[Tryz.results124];first | done | rfl))
  exact⟨rfl,e1⟩
 | cons n rs=>
  rw[hr]at g2 sub
  have pao:partAV false 1 (nextP (n::rs)::tl) 0=some (.ptr n.p 0):=by simp[partAV,nextP]
  have gn:=(k1.c.mem n (sub n (by simp))).1
  by_cases q:n.key=key
  ·have q':eqB n.key key=true:=by rw[eqB_dec];simp[q]
   refine vNc32 (cJ jx (cJ g1 (cJ g2 (cJ gn (cJ ixo (cJ pao q')))))) ?_
   (first | apply endW_r | apply endW_n);(case h1=>(simp[Tryz.results124];first | done | rfl))
   exact⟨by simp[headN,ptrN,q],e1⟩
  ·have q':eqB n.key key=false:=by rw[eqB_dec];simp[q]
   refine vNc32 (cJ jx (cJ g1 (cJ g2 (cJ gn (cJ ixo (cJ pao q')))))) ?_
   (first | apply endW_r | apply endW_n);(case h1=>(simp[Tryz.results124];first | done | rfl))
   exact⟨by simp[headN,ptrN,q],e1⟩
theorem findN_mem{key:List UInt8}:∀{ns:List Nd} {n:Nd},findN key ns=some n→n∈ns∧n.key=key
 | [],n,h=>by cases h
 | m::ns,n,h=>by
  unfold findN at h
  split at h
  ·exact⟨List.mem_cons_of_mem _ (findN_mem h).1,(findN_mem h).2⟩
  ·split at h
   ·rename_i q;cases h;exact⟨by simp,q⟩
   ·cases h
def thingN(key:List UInt8)(ns:List Nd):AV:=vN (findN key ns)
theorem vNc35{G K:Prop}(k:K)(h:K→G:=by intro k;(repeat(first|with_reducible first|refine vmR ?_|refine vmV rfl ?_|refine vmW rfl ?_|refine vmL ?_|refine blockW_y (by decide) ?_|((with_reducible first|apply vmO|apply vmT|apply vmC);case a=>simp[eqlAV];with_reducible first|exact .v|exact .c|exact .t|exact .f)));exact k):G:=h k
theorem sget_ans(key:List UInt8)(pl pn po:Nat)(ns:List Nd)(many:Int)(h0:Hp Fm)(k0:SkL h0 pl pn po ns many) :
  A Tryz.prog TT (.func 110) [.ptr pl 0,.str key] h0 (fun r h'=>r=.tup [thingN key ns,.bool (findN key ns).isSome]∧HE h0 h'):=by
 apply A_go Tryz.func110 rfl (by rfl);(case hn=>(simp[Tryz.ntmps110];rfl))
 refine vZ ?_
 refine A.mono (sfind_ans key pl pn po ns many h0 k0) ?_
 rintro _ h1 ⟨rfl,e1⟩
 unfold thingN
 refine vP ?_
 cases hf:findN key ns with
 | none=>
  refine vNc35 ?_
  (first | apply endW_r | apply endW_n);(case h1=>(simp[Tryz.results110];first | done | rfl))
  exact⟨rfl,e1⟩
 | some n=>
  obtain⟨gn,vc,vi⟩:=(k0.he e1).c.mem n (findN_mem hf).1
  refine vNc32 (cJ gn (cJ vc vi)) ?_
  (first | apply endW_r | apply endW_n);(case h1=>(simp[Tryz.results110];first | done | rfl))
  exact⟨rfl,e1⟩
end Go.Vn

set_option maxRecDepth 20000
namespace Go.Vn
open Go.Proofs
def insN(key:List UInt8)(nd:Nd):List Nd→List Nd
 | []=>[nd]
 | n::ns=>if ltB n.key key=true then n::insN key nd ns else nd::n::ns
def setN(key:List UInt8)(v:AV):List Nd→List Nd
 | []=>[]
 | n::ns=>if ltB n.key key=true then n::setN key v ns else { n with v:=v }::ns
theorem nextP_set(key:List UInt8)(v:AV)(ns:List Nd):nextP (setN key v ns)=nextP ns:=by
 cases ns with
 | nil=>rfl
 | cons n ns=>unfold setN;split <;> rfl
theorem chain_ins(key:List UInt8)(nd:Nd){h h':Hp Fm}(hno:h.no≤h'.no)(hv:nd.v.cells=[nd.v]∧nd.v.isCell=true)(np:nd.p<h'.no)(npo:nd.o<h'.no)(g1:Mp.get h'.obj nd.p=some (.row [.str nd.key,nd.v,.rs nd.o 0 1 false 1 1])) :
  ∀(ns:List Nd) (aq:Nat) (tl:List AV),Chain h ns→(aq::objsN ns).Nodup→Mp.get h.obj aq=some (.row (nextP ns::tl))→Mp.get h'.obj nd.o=some (.row [nextP (restN key ns)]) →
   Mp.get h'.obj (walkQ key aq ns)=some (.row (.ptr nd.p 0::walkT key tl ns))→(∀o∈aq::objsN ns,o≠walkQ key aq ns→Mp.get h'.obj o=Mp.get h.obj o) →
   Mp.get h'.obj aq=some (.row (nextP (insN key nd ns)::tl))∧Chain h' (insN key nd ns)
 | [],aq,tl,_,_,ga,g2,gq,_=>⟨gq,g1,g2,np,npo,hv.1,hv.2,trivial⟩
 | n::ns,aq,tl,⟨a,b,c,d,e,f,g⟩,nd1,ga,g2,gq,ho=>by
  have eo:objsN (n::ns)=n.p::n.o::objsN ns:=rfl
  rw[eo]at nd1 ho
  have nd2:(n.o::objsN ns).Nodup:=(List.nodup_cons.mp (List.nodup_cons.mp nd1).2).2
  unfold restN at g2
  unfold walkQ walkT at gq
  unfold walkQ at ho
  unfold insN
  by_cases q:ltB n.key key=true
  ·simp only[q,if_true]at g2 gq ho ⊢
   have hw:=walkQ_mem key ns n.o
   have ne1:aq≠walkQ key n.o ns:=fun z=>(List.nodup_cons.mp nd1).1 (by rw[z];exact List.mem_cons_of_mem _ hw)
   have ne2:n.p≠walkQ key n.o ns:=fun z=>(List.nodup_cons.mp (List.nodup_cons.mp nd1).2).1 (by rw[z];exact hw)
   obtain⟨k1,k2⟩:=chain_ins key nd hno hv np npo g1 ns n.o [] g nd2 b g2 gq (fun o h1 h2=>ho o (List.mem_cons_of_mem _ (List.mem_cons_of_mem _ h1)) h2)
   refine⟨(ho aq (by simp) ne1).trans ga,(ho n.p (by simp) ne2).trans a,k1,by omega,by omega,e,f,k2⟩
  ·simp only[Bool.not_eq_true]at q
   simp only[q,Bool.false_eq_true,if_false]at g2 gq ho ⊢
   have h1:∀o∈n.p::n.o::objsN ns,Mp.get h'.obj o=Mp.get h.obj o:=fun o ho'=>ho o (List.mem_cons_of_mem _ ho') (fun z=>(List.nodup_cons.mp nd1).1 (z▸ho'))
   refine⟨gq,g1,g2,np,npo,hv.1,hv.2,?_⟩
   refine Chain.of (h:=h) (ns:=n::ns) ⟨a,b,c,d,e,f,g⟩ (fun m hm=>?_) hno
   have hmm:m.p∈objsN (n::ns)∧m.o∈objsN (n::ns):=⟨List.mem_flatMap.mpr ⟨m,hm,by simp⟩,List.mem_flatMap.mpr ⟨m,hm,by simp⟩⟩
   rw[eo]at hmm
   exact⟨h1 _ hmm.1,h1 _ hmm.2⟩
theorem chain_set(key:List UInt8)(v:AV){h h':Hp Fm}(hno:h.no≤h'.no)(hv:v.cells=[v]∧v.isCell=true){nd:Nd}(g1:Mp.get h'.obj nd.p=some (.row [.str nd.key,v,.rs nd.o 0 1 false 1 1])) :
  ∀(ns:List Nd),Chain h ns→(objsN ns).Nodup→findN key ns=some nd→(∀o∈objsN ns,o≠nd.p→Mp.get h'.obj o=Mp.get h.obj o)→Chain h' (setN key v ns)
 | [],_,_,hf,_=>by cases hf
 | n::ns,⟨a,b,c,d,e,f,g⟩,nd1,hf,ho=>by
  have eo:objsN (n::ns)=n.p::n.o::objsN ns:=rfl
  rw[eo]at nd1 ho
  unfold findN at hf
  unfold setN
  by_cases q:ltB n.key key=true
  ·simp only[q,if_true]at hf ⊢
   have hm:=(findN_mem hf).1
   have hmp:nd.p∈objsN ns:=List.mem_flatMap.mpr ⟨nd,hm,by simp⟩
   have ne1:n.p≠nd.p:=fun z=>(List.nodup_cons.mp nd1).1 (by rw[z];exact List.mem_cons_of_mem _ hmp)
   have ne2:n.o≠nd.p:=fun z=>(List.nodup_cons.mp (List.nodup_cons.mp nd1).2).1 (by rw[z];exact hmp)
   refine⟨(ho _ (by simp) ne1).trans a,?_,by omega,by omega,e,f,chain_set key v hno hv g1 ns g (List.nodup_cons.mp (List.nodup_cons.mp nd1).2).2 hf (fun o h1 h2=>ho o (List.mem_cons_of_mem _ (List.mem_cons_of_mem _ h1)) h2)⟩
   rw[nextP_set];exact(ho _ (by simp) ne2).trans b
  ·simp only[Bool.not_eq_true]at q
   simp only[q,Bool.false_eq_true,if_false]at hf ⊢
   split at hf
   case isFalse=>cases hf
   injection hf with hf
   subst hf
   have ne2:n.o≠n.p:=fun z=>(List.nodup_cons.mp nd1).1 (by rw[←z];simp)
   refine⟨g1,(ho _ (by simp) ne2).trans b,by show n.p<h'.no;omega,by show n.o<h'.no;omega,hv.1,hv.2,?_⟩
   refine Chain.of g (fun m hm=>?_) hno
   have hmp:m.p∈objsN ns:=List.mem_flatMap.mpr ⟨m,hm,by simp⟩
   have hmo:m.o∈objsN ns:=List.mem_flatMap.mpr ⟨m,hm,by simp⟩
   have h1:∀o∈objsN ns,o≠n.p:=fun o h1 z=>(List.nodup_cons.mp nd1).1 (by rw[←z];exact List.mem_cons_of_mem _ h1)
   exact⟨ho _ (List.mem_cons_of_mem _ (List.mem_cons_of_mem _ hmp)) (h1 _ hmp),ho _ (List.mem_cons_of_mem _ (List.mem_cons_of_mem _ hmo)) (h1 _ hmo)⟩
theorem objsN_ins(key:List UInt8)(nd:Nd):∀ns:List Nd,(objsN (insN key nd ns)).Perm (nd.p::nd.o::objsN ns)
 | []=>by simp[insN,objsN]
 | n::ns=>by
  unfold insN
  split
  ·show(n.p::n.o::objsN (insN key nd ns)).Perm _
   refine((List.Perm.cons _ (List.Perm.cons _ (objsN_ins key nd ns)))).trans ?_
   show(n.p::n.o::nd.p::nd.o::objsN ns).Perm (nd.p::nd.o::n.p::n.o::objsN ns)
   have:=List.perm_append_comm (l₁:=[n.p,n.o]) (l₂:=[nd.p,nd.o])
   exact List.Perm.append_right (objsN ns) this
  ·exact List.Perm.refl _
theorem objsN_set(key:List UInt8)(v:AV):∀ns:List Nd,objsN (setN key v ns)=objsN ns
 | []=>rfl
 | n::ns=>by
  unfold setN
  split
  ·show n.p::n.o::objsN (setN key v ns)=n.p::n.o::objsN ns
   rw[objsN_set key v ns]
  ·rfl
theorem vNd27{F G K:Prop}(f:F)(k:K)(h:F→K→G:=by intro f k;(repeat(first|with_reducible first|refine vmR ?_|refine vmV rfl ?_|refine vmW rfl ?_|refine vmL ?_|refine blockW_y (by decide) ?_|((with_reducible first|apply vmO|apply vmT|apply vmC);case a=>simp[f,eqlAV];with_reducible first|exact .v|exact .c|exact .t|exact .f)));exact k):G:=h f k
theorem vNd28{F G K:Prop}(f:F)(k:K)(h:F→K→G:=by intro f k;(repeat(first|with_reducible first|refine vmR ?_|refine vmV rfl ?_|refine vmW rfl ?_|refine vmL ?_|refine blockW_y (by decide) ?_|((with_reducible first|apply vmO|apply vmT|apply vmC);case a=>simp[f,eqlAV,newSeq,newSl];with_reducible first|exact .v|exact .c|exact .t|exact .f)));exact k):G:=h f k
set_option maxHeartbeats 1000000 in
theorem srow_ans(pl pn po:Nat)(ns:List Nd)(many:Int)(h0:Hp Fm)(k0:SkL h0 pl pn po ns many)(hl:ns.length≤1000000)(hp:h0.pol 9=false) :
  A Tryz.prog TT (.func 101) [.ptr pl 0,.int .i64 1] h0 (fun r h'=>SV 1 (ns.map fun n=>.str n.key) r∧HE h0 h'):=by
 have gl:=k0.l
 have gn:=k0.n
 have go:=k0.o
 have w0:IntKind.i64.wrap (1-1)=0:=by rfl
 have w0':IntKind.i64.wrap 0=0:=by rfl
 have ixo:indexAddrAV Tryz.prog 189 (.rs po 0 1 false 8 8) (.int .i64 0)=some (.ptr po 0):=by
  rw[index_rs Tryz.underlying189 z188 (by omega) (by omega)];rfl
 have pao:partAV false 1 (nextP ns::N7) 0=some (nextP ns):=by simp[partAV]
 obtain⟨RW,hRW⟩:∃RW,RW=nextP ns::N7:=⟨_,rfl⟩
 obtain⟨nx,hnx⟩:∃nx,nx=nextP ns:=⟨_,rfl⟩
 have nxc:nx.isCell=true:=by rw[hnx];cases ns <;> rfl
 have nxs:nx.cells=[nx]:=by rw[hnx];cases ns <;> rfl
 rw[←hRW]at go pao
 rw[←hnx]at pao
 apply A_go Tryz.func101 rfl (by rfl);(case hn=>(simp[Tryz.ntmps101];rfl))
 refine vF (cJ gl (cJ gn (cJ go (cJ w0 (cJ w0' (cJ ixo (cJ pao (cJ nxc nxs)))))))) ?_
 refine W_loop (fun z s=>∃(t:Fm AV) (h:Hp Fm) (i:Nat) (a:AV),s=⟨t,42,h,none⟩∧z=ns.length-i∧i≤ns.length∧tget t 1=.int .i64 1∧tget t 5=a∧tget t 6=nextP (ns.drop i)∧AC h0 h 1 ((ns.take i).map fun n=>.str n.key) a∧HE h0 h) ns.length
  ⟨_,_,0,_,rfl,rfl,by omega,by simp,rfl,by simp[hnx],.inl ⟨by simp,rfl⟩,HE.refl _⟩ ?_
 rintro _ s ⟨t,h,i,a,rfl,rfl,hi,t1,t5,t6,ac,he⟩
 have uc:=ac.sv.cells
 have ui:=ac.sv.isCell
 by_cases q:i<ns.length
 case neg=>
  rw[List.drop_eq_nil_of_le (by omega)]at t6
  rw[List.take_of_length_le (by omega)]at ac
  simp only[nextP]at t6
  refine vNd27 (cJ t5 (cJ t6 (cJ uc ui))) ?_
  (first | apply endW_r | apply endW_n);(case h1=>(simp[Tryz.results101];first | done | rfl))
  exact⟨ac.sv,he⟩
 obtain⟨n,hn⟩:∃n,n=ns[i]:=⟨_,rfl⟩
 have hmem:n∈ns:=by rw[hn];exact List.getElem_mem _
 rw[List.drop_eq_getElem_cons q,←hn]at t6
 simp only[nextP]at t6
 have c0:=k0.c.he he
 have nn:=(c0.mem n hmem).1
 have nlt:=c0.lt n hmem
 have no_:∀{ns:List Nd} {i:Nat} (q:i<ns.length) {h:Hp Fm},Chain h ns→Mp.get h.obj (ns[i]).o=some (.row [nextP (ns.drop (i+1))]):=by
  intro ns
  induction ns with
  | nil=>intro i q;cases q
  | cons m ms ih=>
   intro i q h c
   cases i with
   | zero=>simpa using c.2.1
   | succ i=>simpa using ih (by simpa using q) c.2.2.2.2.2.2
 have go2:=no_ q k0.c
 rw[←hn]at go2
 have nlt0:=k0.c.lt n hmem
 obtain⟨ip,hip⟩:∃ip,ip=i+1:=⟨_,rfl⟩
 rw[←hip]at go2
 have hph:h.pol 9=false:=by rw[he.pol];exact hp
 refine vNd28 (cJ t5 (cJ t6 (cJ uc (cJ ui (cJ nn hph))))) ?_
 with_reducible apply WO_app_i;(case hw=>(simp[t5,t6,eqlAV,uc,ui,nn,newSeq,newSl,hph];done));(case ho=>rfl);(case hb=>rfl);(case ha=>(simp[t5,t6,eqlAV,uc,ui,nn,newSeq,newSl,hph];first | done | exact⟨rfl,rfl⟩ | rfl));(case h1=>(simp;first | done | rfl));(case h2=>(simp;first | done | rfl))
 have accl:((ns.take i).map fun n=>AV.str n.key).length=i:=by rw[List.length_map,List.length_take];omega
 refine app_then (AC.app (h0:=h0) etS (ac.of ((HE.refl h).newSl 1)) (he.newSl 1) hp (by rw[accl];omega)) ?_
 rintro x4 h4 ⟨ac4,he4,hob,hno,_⟩
 have e4:=ac4.sv.cells
 have f4:=ac4.sv.isCell
 refine vP ?_
 have nn4:=((k0.c.he he4).mem n hmem).1
 have go4:=(he4.obj _ nlt0.2).trans go2
 have ixn:indexAddrAV Tryz.prog 189 (.rs n.o 0 1 false 1 1) (.int .i64 0)=some (.ptr n.o 0):=by
  rw[index_rs Tryz.underlying189 z188 (by omega) (by omega)];rfl
 obtain⟨nx2,hnx2⟩:∃nx2,nx2=nextP (ns.drop ip):=⟨_,rfl⟩
 have nxc2:nx2.isCell=true:=by rw[hnx2];cases ns.drop ip <;> rfl
 have nxs2:nx2.cells=[nx2]:=by rw[hnx2];cases ns.drop ip <;> rfl
 rw[←hnx2]at go4
 have pa2:partAV false 1 [nx2] 0=some nx2:=by simp[partAV]
 refine vF (cJ t1 (cJ t6 (cJ e4 (cJ f4 (cJ nn4 (cJ go4 (cJ ixn (cJ w0 (cJ w0' (cJ pa2 (cJ nxc2 nxs2))))))))))) ?_
 refine⟨ns.length-ip,by omega,_,_,ip,_,rfl,rfl,by omega,by simp[t1],rfl,by simp[hnx2],?_,he4⟩
 have:(ns.take ip).map (fun n=>AV.str n.key)=(ns.take i).map (fun n=>.str n.key)++[.str n.key]:=by rw[hip,List.take_succ_eq_append_getElem q,List.map_append,hn];rfl
 rw[this]
 simpa using ac4
theorem SkL.pol{h:Hp Fm}{pl pn po:Nat}{ns:List Nd}{many:Int}(k:SkL h pl pn po ns many)(p:TypeId→Bool):SkL { h with pol:=p } pl pn po ns many:=
 ⟨k.l,k.n,k.o,k.c.of (fun _ _=>⟨rfl,rfl⟩) (Nat.le_refl _),k.ln,k.nn,k.on⟩
theorem vNd29{F G K:Prop}(f:F)(k:K)(h:F→K→G:=by intro f k;(repeat(first|with_reducible first|refine vmR ?_|refine vmV rfl ?_|refine vmW rfl ?_|refine vmL ?_|refine blockW_y (by decide) ?_|((with_reducible first|apply vmO|apply vmT|apply vmC);case a=>simp[f,eqlAV,splice];with_reducible first|exact .v|exact .c|exact .t|exact .f)));exact k):G:=h f k
set_option maxHeartbeats 1000000 in
theorem sput_old(key:List UInt8)(v:AV)(hv:v.cells=[v]∧v.isCell=true)(pl pn po:Nat)(ns:List Nd)(many:Int)(h0:Hp Fm)(k0:SkL h0 pl pn po ns many)(hnd:(pl::pn::po::objsN ns).Nodup)(nd:Nd)(hf:findN key ns=some nd) :
  A Tryz.prog TT (.func 186) [.ptr pl 0,.str key,.int .i64 1,v] h0 (fun _ h'=>SkL h' pl pn po (setN key v ns) many∧HX (fun q=>q=nd.p) (fun _=>False) h0 h'):=by
 obtain⟨vc,vi⟩:=hv
 obtain⟨hb,hhb⟩:∃hb:Hp Fm,hb={ h0 with pol:=(· == 188) }:=⟨_,rfl⟩
 have kb:SkL hb pl pn po ns many:=by rw[hhb];exact k0.pol _
 have hbn:hb.no=h0.no:=by rw[hhb]
 have hbg:hb.ng=h0.ng:=by rw[hhb]
 have hbo:hb.obj=h0.obj:=by rw[hhb]
 have hbl:hb.len=h0.len:=by rw[hhb]
 apply A_goT Tryz.func186 rfl (by rfl);(case hn=>(simp[Tryz.ntmps186];rfl))
 refine vF (cJ vc vi) ?_
 rw[←hhb]
 refine A.mono (sfind_ans key pl pn po ns many hb kb) ?_
 rintro _ h1 ⟨rfl,e1⟩
 rw[hf]
 have k1:=kb.he e1
 have hm:=(findN_mem hf).1
 have gn:=(k1.c.mem nd hm).1
 refine vP ?_
 refine vNd29 (cJ vc (cJ vi gn)) ?_
 (first | apply endW_r | apply endW_n);(case h1=>(simp[Tryz.results186];first | done | rfl))
 have hmo:nd.p∈objsN ns:=List.mem_flatMap.mpr ⟨nd,hm,by simp⟩
 have n1:pl≠nd.p:=fun z=>(List.nodup_cons.mp hnd).1 (by rw[z];simp[hmo])
 have hnd1:=(List.nodup_cons.mp hnd).2
 have n2:pn≠nd.p:=fun z=>(List.nodup_cons.mp hnd1).1 (by rw[z];simp[hmo])
 have hnd2:=(List.nodup_cons.mp hnd1).2
 have n3:po≠nd.p:=fun z=>(List.nodup_cons.mp hnd2).1 (by rw[z];exact hmo)
 have hnd3:=(List.nodup_cons.mp hnd2).2
 have ob:∀r,∀o,o≠nd.p→Mp.get (Mp.set h1.obj nd.p r) o=Mp.get h1.obj o:=fun r o ho=>by rw[Mp.get_set,if_neg ho]
 refine⟨⟨?_,?_,?_,?_,?_,?_,?_⟩,?_⟩
 ·exact(ob _ _ n1).trans k1.l
 ·exact(ob _ _ n2).trans k1.n
 ·rw[nextP_set];exact(ob _ _ n3).trans k1.o
 ·refine chain_set key v (h:=h1) ?_ ⟨vc,vi⟩ ?_ ns k1.c hnd3 hf ?_
  ·exact Nat.le_refl _
  ·show Mp.get (Mp.set h1.obj nd.p _) nd.p=_
   rw[Mp.get_set,if_pos rfl]
  ·exact fun o _ h2=>ob _ o h2
 ·exact k1.ln
 ·exact k1.nn
 ·exact k1.on
 ·refine⟨?_,?_,rfl,fun o ho hs=>?_,fun g hg _=>?_⟩
  ·show h0.no≤h1.no;rw[←hbn];exact e1.no
  ·show h0.ng≤h1.ng;rw[←hbg];exact e1.ng
  ·refine(ob _ o hs).trans ((e1.obj o (by omega)).trans (by rw[hbo]))
  ·exact(e1.len g (by omega)).trans (by rw[hbl])
theorem vNd30{F G K:Prop}(f:F)(k:K)(h:F→K→G:=by intro f k;(repeat(first|with_reducible first|refine vmR ?_|refine vmV rfl ?_|refine vmW rfl ?_|refine vmL ?_|refine blockW_y (by decide) ?_|((with_reducible first|apply vmO|apply vmT|apply vmC);case a=>simp[f,eqlAV,makeSliceAV,minmax,newRs,newSeq];with_reducible first|exact .v|exact .c|exact .t|exact .f)));exact k):G:=h f k
theorem vNd31{F G K:Prop}(f:F)(k:K)(h:F→K→G:=by intro f k;(repeat(first|with_reducible first|refine vmR ?_|refine vmV rfl ?_|refine vmW rfl ?_|refine vmL ?_|refine blockW_y (by decide) ?_|((with_reducible first|apply vmO|apply vmT|apply vmC);case a=>simp[f,splice];with_reducible first|exact .v|exact .c|exact .t|exact .f)));exact k):G:=h f k
set_option maxHeartbeats 2000000 in
theorem sput_new(key:List UInt8)(v:AV)(hv:v.cells=[v]∧v.isCell=true)(pl pn po:Nat)(ns:List Nd)(many:Int)(hmany:0≤many∧many≤1000000000)(h0:Hp Fm)(k0:SkL h0 pl pn po ns many)(hnd:(pl::pn::po::objsN ns).Nodup)(hf:findN key ns=none) :
  A Tryz.prog TT (.func 186) [.ptr pl 0,.str key,.int .i64 1,v] h0 (fun _ h'=>∃p o,h0.no≤p∧h0.no≤o∧p≠o∧p<h'.no∧o<h'.no∧SkL h' pl pn po (insN key ⟨p,o,key,v⟩ ns) (many+1)∧HX (fun q=>q∈pl::po::objsN ns) (fun _=>False) h0 h'):=by
 obtain⟨vc,vi⟩:=hv
 obtain⟨hb,hhb⟩:∃hb:Hp Fm,hb={ h0 with pol:=(· == 188) }:=⟨_,rfl⟩
 have kb:SkL hb pl pn po ns many:=by rw[hhb];exact k0.pol _
 have hbn:hb.no=h0.no:=by rw[hhb]
 have hbg:hb.ng=h0.ng:=by rw[hhb]
 have hbo:hb.obj=h0.obj:=by rw[hhb]
 have hbl:hb.len=h0.len:=by rw[hhb]
 have hbp:hb.pol 188=true:=by rw[hhb];rfl
 apply A_goT Tryz.func186 rfl (by rfl);(case hn=>(simp[Tryz.ntmps186];rfl))
 refine vF (cJ vc vi) ?_
 rw[←hhb]
 refine A.mono (sfind_ans key pl pn po ns many hb kb) ?_
 rintro _ h1 ⟨rfl,e1⟩
 rw[hf]
 refine vP ?_
 have hp1:h1.pol 188=true:=by rw[e1.pol];exact hbp
 refine vNd30 (cJ vc (cJ vi hp1)) ?_
 refine A_heap ?_
 intro hA hhA
 have eA:HE h1 hA:=by rw[hhA];exact((HE.refl h1).new _).new _
 have gA:Mp.get hA.obj h1.no=some (.row [.nilp]):=by rw[hhA];simp[show h1.no≠h1.no+1 by omega]
 have gB:Mp.get hA.obj (h1.no+1)=some (.row [.str key,v,.rs h1.no 0 1 false 1 1]):=by rw[hhA];simp
 have nA:h1.no+1<hA.no:=by rw[hhA];exact Nat.lt_succ_self _
 clear hhA
 have kA:=(kb.he e1).he eA
 refine A.mono (ahead_ans key pl pn po ns many hA kA) ?_
 rintro _ h2 ⟨⟨L',rfl,hl⟩,e2⟩
 have k2:=kA.he e2
 obtain⟨c,ak,aw,g1,g2,hc,n1,n2⟩:=walk_at key ns pn po 8 [] .nils N7 k2.c k2.n k2.o (by omega) k2.nn k2.on
 obtain⟨aq,haq⟩:∃aq,aq=walkQ key po ns:=⟨_,rfl⟩
 obtain⟨tl,htl⟩:∃tl,tl=walkT key N7 ns:=⟨_,rfl⟩
 obtain⟨wp,hwp⟩:∃wp,wp=walkP key pn ns:=⟨_,rfl⟩
 obtain⟨nx,hnx⟩:∃nx,nx=nextP (restN key ns):=⟨_,rfl⟩
 have nxc:nx.isCell=true:=by rw[hnx];cases restN key ns <;> rfl
 have nxs:nx.cells=[nx]:=by rw[hnx];cases restN key ns <;> rfl
 have aqm:=walkQ_mem key ns po
 rw[←haq]at g1 g2 n2 aqm
 rw[←htl,←hnx]at g2
 rw[←hwp]at g1 ⊢
 obtain⟨P,hP⟩:∃P,P=h1.no+1:=⟨_,rfl⟩
 obtain⟨O,hO⟩:∃O,O=h1.no:=⟨_,rfl⟩
 rw[←hP,←hO]at gB
 rw[←hO]at gA
 rw[←hP]at nA ⊢
 have gA2:=(e2.obj _ (show O<hA.no by omega)).trans gA
 have gB2:=(e2.obj _ nA).trans gB
 have aql:aq<h1.no:=by
  rcases List.mem_cons.mp aqm with z | z
  ·rw[z];exact(kb.he e1).on
  ·obtain⟨m,hm,hz⟩:=List.mem_flatMap.mp z
   have:=(kb.he e1).c.lt m hm
   simp only[List.mem_cons,List.not_mem_nil,or_false]at hz
   rcases hz with hz | hz <;> omega
 have wpl:wp<h1.no:=by
  obtain⟨_,_,_,_,_,_,z,_⟩:=walk_at key ns pn po 8 [] .nils N7 (kb.he e1).c (kb.he e1).n (kb.he e1).o (by omega) (kb.he e1).nn (kb.he e1).on
  rw[hwp];exact z
 have aqO:aq≠O:=by omega
 have Oaq:O≠aq:=by omega
 refine vP ?_
 refine vZ ?_
 refine W.mono (R:=fun e s=>e=.exit 0∧∃(t:Fm AV) (hh:Hp Fm),s=⟨t,69,hh,none⟩∧tget t 0=.ptr pl 0∧Mp.get hh.obj O=some (.row [nx])∧Mp.get hh.obj aq=some (.row (.ptr P 0::tl))∧(∀o,o≠O→o≠aq→Mp.get hh.obj o=Mp.get h2.obj o)∧hh.no=h2.no∧hh.ng=h2.ng∧hh.pol=h2.pol∧hh.len=h2.len) ?_ ?_
 ·refine W_loop (fun z s=>∃(t:Fm AV) (hh:Hp Fm) (i:Nat),s=⟨t,69,hh,none⟩∧z=8-i∧i≤8∧tget t 0=.ptr pl 0∧tget t 2=.int .i64 1∧tget t 10=.ptr P 0∧tget t 33=.agg (.ptr wp 0::L')∧tget t 34=.int .i64 i∧(i=0→hh=h2) ∧
    (1≤i→Mp.get hh.obj O=some (.row [nx])∧Mp.get hh.obj aq=some (.row (.ptr P 0::tl))∧(∀o,o≠O→o≠aq→Mp.get hh.obj o=Mp.get h2.obj o)∧hh.no=h2.no∧hh.ng=h2.ng∧hh.pol=h2.pol∧hh.len=h2.len)) 8
   ⟨_,_,0,rfl,rfl,by omega,by simp,by simp,by simp,by simp,by simp,fun _=>rfl,fun z=>absurd z (by omega)⟩ ?_
  rintro _ s ⟨t,hh,i,rfl,rfl,hi,t0,t2,t10,t33,t34,i0,i1⟩
  obtain⟨ip,hip⟩:∃ip,ip=i+1:=⟨_,rfl⟩
  have wip:IntKind.i64.wrap ((i:Int)+1)=(ip:Int):=by rw[wrap64 (by omega) (by omega)];omega
  by_cases q8:i<8
  case neg=>
   have q8':¬(i:Int)<8:=by omega
   have e8:i=8:=by omega
   rw[e8]at t34
   have t34':tget t 34=.int .i64 8:=t34
   refine vF t34' ?_
   obtain⟨j1,j2⟩:=i1 (by omega)
   exact⟨rfl,_,_,rfl,by simp[t0],j1,j2⟩
  have q8':(i:Int)<8:=by omega
  by_cases q0:i=0
  case neg=>
   have q1:¬(i:Int)<1:=by omega
   have q1':¬i<1:=by omega
   obtain⟨x,hx⟩:∃x,indexAV Tryz.prog 224 (.agg (.ptr wp 0::L')) (.int .i64 (i:Int))=some x:=by
    have:i<(AV.ptr wp 0::L').length:=by simp;omega
    exact⟨(AV.ptr wp 0::L')[i],by simp[indexAV,partAV,q8',List.getElem?_eq_getElem this]⟩
   refine vF (cJ t2 (cJ t33 (cJ t34 (cJ q8 (cJ q8' (cJ hx (cJ q1 (cJ q1' (cJ q0 wip))))))))) ?_
   obtain⟨j1,j2⟩:=i1 (by omega)
   exact⟨8-ip,by omega,_,_,ip,rfl,rfl,by omega,by simp[t0],by simp[t2],by simp[t10],by simp[t33],by simp,fun z=>absurd z (by omega),fun _=>⟨j1,j2⟩⟩
  subst q0
  have ehh:=i0 rfl
  subst ehh
  have e0:((0:Nat):Int)=0:=rfl
  rw[e0]at t34
  have jx:indexAV Tryz.prog 224 (.agg (.ptr wp 0::L')) (.int .i64 0)=some (.ptr wp 0):=by
   simp[indexAV,partAV]
  have ixa:indexAddrAV Tryz.prog 189 (.rs aq 0 1 false c c) (.int .i64 0)=some (.ptr aq 0):=by
   rw[index_rs Tryz.underlying189 z188 (by omega) (by omega)];rfl
  have ixo:indexAddrAV Tryz.prog 189 (.rs O 0 1 false 1 1) (.int .i64 0)=some (.ptr O 0):=by
   rw[index_rs Tryz.underlying189 z188 (by omega) (by omega)];rfl
  have pao:partAV false 1 (nx::tl) 0=some nx:=by simp[partAV]
  have wz:IntKind.i64.wrap (0+1)=1:=by rfl
  have wz1:IntKind.i64.wrap 1=1:=by rfl
  refine vF (cJ t2 (cJ t33 (cJ t34 jx))) ?_
  (with_reducible refine W_draw_id (pln:=true) [0,1,2,3,4,5,6,7,8,9,10,11,12,13,14,15,16,17,18,19,20,21] [(3,(3,[])),(8,(8,[])),(13,(13,[])),(16,(16,[]))] (by kernel_rfl) rfl ?_)
  refine vNd31 (cJ t2 (cJ t10 (cJ t33 (cJ t34 (cJ g1 (cJ g2 (cJ gA2 (cJ gB2 (cJ ixa (cJ ixo (cJ pao (cJ nxc (cJ nxs (cJ aqO Oaq)))))))))))))) ?_
  refine⟨by simp[readSame,beqAV_self,t2,t10,t33,t34,g1,g2,gA2,gB2,ixa,ixo,pao,nxc,nxs,splice,aqO,Oaq];done,_,by simp;first | done | rfl,?_⟩
  refine vF (cJ t34 (cJ wz wz1)) ?_
  refine⟨7,by omega,_,_,1,rfl,rfl,by omega,by simp[t0],by simp[t2],by simp[t10],by simp[t33],by simp,fun z=>absurd z (by omega),fun _=>⟨?_,?_,?_,rfl,rfl,rfl,rfl⟩⟩
  ·simp[Mp.get_set,Oaq,Hp.drew]
  ·simp[Mp.get_set,aqO,Hp.drew]
  ·intro o o1 o2
   simp[Mp.get_set,o1,o2,Hp.drew]
 rintro e s ⟨rfl,t,hh,rfl,t0,j1,j2,j3,jn,jg,jp,jl⟩
 have plO:pl≠O:=by have:=(kb.he e1).ln;omega
 have ndq:=List.nodup_cons.mp hnd
 have plaq:pl≠aq:=fun z=>ndq.1 (by rw[z];rcases List.mem_cons.mp aqm with y | y <;> simp[y])
 have gl:=(j3 pl plO plaq).trans k2.l
 have wm:IntKind.i64.wrap (many+1)=many+1:=wrap64 (by omega) (by omega)
 refine vF (cJ t0 (cJ gl wm)) ?_
 (first | apply endW_r | apply endW_n);(case h1=>(simp[Tryz.results186];first | done | rfl))
 have plP:pl≠P:=by have:=(kb.he e1).ln;omega
 have pnO:pn≠O:=by have:=(kb.he e1).nn;omega
 have nq2:=List.nodup_cons.mp ndq.2
 have nq3:=List.nodup_cons.mp nq2.2
 have pnaq:pn≠aq:=fun z=>nq2.1 (by rw[z];rcases List.mem_cons.mp aqm with y | y <;> simp[y])
 have pnpl:pn≠pl:=fun z=>ndq.1 (by rw[←z];simp)
 have popl:po≠pl:=fun z=>ndq.1 (by rw[←z];simp)
 have obj:∀r,∀o,o≠pl→Mp.get (Mp.set hh.obj pl r) o=Mp.get hh.obj o:=fun r o ho=>by rw[Mp.get_set,if_neg ho]
 have n01:=e1.no
 have n1A:=eA.no
 have nA2:=e2.no
 have objlt:∀o∈po::objsN ns,o<h1.no:=fun o ho=>by
  rcases List.mem_cons.mp ho with z | z
  ·rw[z];exact(kb.he e1).on
  ·obtain⟨m,hm,hz⟩:=List.mem_flatMap.mp z
   have:=(kb.he e1).c.lt m hm
   simp only[List.mem_cons,List.not_mem_nil,or_false]at hz
   rcases hz with hz | hz <;> omega
 obtain⟨hF,hhF⟩:∃hF:Hp Fm,hF={ hh with obj:=Mp.set hh.obj pl (.row [.ptr pn 0,.int .i64 (many+1)]),pol:=h0.pol }:=⟨_,rfl⟩
 have hFo:∀o,o≠pl→Mp.get hF.obj o=Mp.get hh.obj o:=fun o ho=>by rw[hhF];exact obj _ o ho
 have hFn:hF.no=h2.no:=by rw[hhF];exact jn
 have cins:=chain_ins key ⟨P,O,key,v⟩ (h:=h2) (h':=hF) (Nat.le_of_eq hFn.symm) ⟨vc,vi⟩ (by rw[hFn];show P<h2.no;omega) (by rw[hFn];show O<h2.no;omega)
  ((hFo P (fun z=>plP z.symm)).trans ((j3 P (by omega) (by omega)).trans gB2)) ns po N7 k2.c nq2.2 k2.o (by rw[←hnx];exact(hFo O (fun z=>plO z.symm)).trans j1) (by rw[←haq,←htl];exact(hFo aq (fun z=>plaq z.symm)).trans j2)
  (fun o ho hne=>by
   rw[←haq]at hne
   have:=objlt o ho
   exact(hFo o (fun z=>ndq.1 (by rw[←z];exact List.mem_cons_of_mem _ ho))).trans (j3 o (by omega) hne))
 have res:SkL hF pl pn po (insN key ⟨P,O,key,v⟩ ns) (many+1)∧HX (fun q=>q∈pl::po::objsN ns) (fun _=>False) h0 hF:=by
  refine⟨⟨by rw[hhF];simp,?_,cins.1,cins.2,by rw[hFn];exact k2.ln,by rw[hFn];exact k2.nn,by rw[hFn];exact k2.on⟩,?_⟩
  ·exact(hFo pn pnpl).trans ((j3 pn pnO pnaq).trans k2.n)
  ·refine⟨?_,?_,by rw[hhF],fun o ho hs=>?_,fun g hg _=>?_⟩
   ·rw[hFn];omega
   ·have:hF.ng=h2.ng:=by rw[hhF];exact jg
    rw[this,←hbg];exact Nat.le_trans e1.ng (Nat.le_trans eA.ng e2.ng)
   ·have o1:o≠pl:=fun z=>hs (by rw[z];simp)
    have o2:o≠aq:=fun z=>hs (by rw[z];exact List.mem_cons_of_mem _ aqm)
    refine(hFo o o1).trans ((j3 o (by omega) o2).trans ?_)
    refine((e2.obj o (by omega)).trans (eA.obj o (by omega))).trans ((e1.obj o (by omega)).trans (by rw[hbo]))
   ·have:hF.len=h2.len:=by rw[hhF];exact jl
    rw[this]
    have g1':=e1.ng
    have g2':=eA.ng
    exact((e2.len g (by omega)).trans (eA.len g (by omega))).trans ((e1.len g (by omega)).trans (by rw[hbl]))
 rw[hhF]at res
 refine⟨P,O,by omega,by omega,by omega,?_,?_,res.1,res.2⟩
 ·show P<hh.no;omega
 ·show O<hh.no;omega
end Go.Vn
