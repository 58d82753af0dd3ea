/- What functions of the program come to, in the value machine (a part of the proof of the claim's statement). No condition. -/
import Derived.Test.YtplcehpejjfjoaaGreatVnH2
import Derived.Test.YtplcehpejjfjoaaGreatVnH3
set_option linter.unusedSimpArgs false
set_option linter.unusedVariables false
set_option maxRecDepth 20000
namespace Go.Vn
open Go.Proofs
structure PQ(l l1:List Tx)(a b a' b':Nat):Prop where
 aa:a≤a'
 ab:a'≤b'
 bb:b'≤b
 pr:PR l l1 a b
 gl:Glue ltB l1 a b a' b'
 lb:LBd ltB l1 a' b'
theorem PQ.perm{l l1 l2:List Tx}{a b a' b':Nat}(k:PQ l l1 a b a' b')(p:PR l1 l2 a' b'):PQ l l2 a b a' b':=
 ⟨k.aa,k.ab,k.bb,k.pr.trans (p.wide k.aa k.bb),k.gl.perm p k.aa k.bb,k.lb.perm p⟩
theorem PQ.done{l l1 l2:List Tx}{a b a' b':Nat}(k:PQ l l1 a b a' b')(p:PR l1 l2 a' b')(s:SortR ltB l2 a' b'):PR l l2 a b∧SortR ltB l2 a b:=
 ⟨(k.perm p).pr,(k.perm p).gl.sort s⟩
set_option maxHeartbeats 4000000 in
theorem pdq_ans(o n cap:Nat)(J:List AV)(hn:n≤60000):∀(k:Nat) (l:List Tx) (a b:Nat) (v:Int) (h0:Hp Fm),b-a≤k→l.length=n→a≤b→b≤n→0≤v→v≤1000→LBd ltB l a b→SR h0 h0 o J l →
  A Tryz.prog TT (.func 111) [.rs o 0 1 false n cap,.int .i64 a,.int .i64 b,.int .i64 v] h0 (fun _ h'=>∃l',SR h0 h' o J l'∧PR l l' a b∧SortR ltB l' a b):=by
 intro k
 induction k using Nat.strongRecOn with
 | _ k ih=>
 intro l a b v h0 hk hl hab hbn hv0 hv1 hlb k0
 have ix:=ixS o n cap
 apply A_go Tryz.func111 rfl (by rfl);(case hn=>(simp[Tryz.ntmps111];rfl))
 refine vZ ?_
 refine W_loop (fun m s=>∃(t:Fm AV) (h:Hp Fm) (a' b':Nat) (lim:Int) (wb wp:Bool) (l1:List Tx),s=⟨t,134,h,none⟩∧m=b'-a'∧0≤lim∧lim≤1000∧tget t 0=.rs o 0 1 false n cap∧tget t 1=.int .i64 a'∧tget t 2=.int .i64 b'∧tget t 3=.int .i64 lim∧tget t 8=.bool wb∧tget t 9=.bool wp∧SR h0 h o J l1∧PQ l l1 a b a' b') (b-a)
  ⟨_,_,a,b,v,true,true,l,rfl,rfl,hv0,hv1,by simp,by simp,by simp,by simp,by simp,by simp,k0,⟨Nat.le_refl _,hab,Nat.le_refl _,PR.refl _ _ _,fun i j h1 h2 h3 h4=>(h4 ⟨h1,h3⟩).elim,hlb⟩⟩ ?_
 rintro m s ⟨t,h,a',b',lim,wb,wp,l1,rfl,rfl,hl0,hl1,t0,t1,t2,t3,t8,t9,k1,P1⟩
 have aa:=P1.aa
 have ab:=P1.ab
 have bb:=P1.bb
 have hll1:l1.length=n:=P1.pr.len.trans hl
 obtain⟨L,hL⟩:∃L,L=b'-a':=⟨_,rfl⟩
 have w1:IntKind.i64.wrap ((b':Int)-(a':Int))=(L:Int):=by rw[wrap64 (by omega) (by omega)];omega
 by_cases q12:L≤12
 ·have q12':(L:Int)≤12:=by omega
  refine vF (cJ t0 (cJ t1 (cJ t2 (cJ t3 (cJ t8 (cJ t9 (cJ w1 (cJ q12 q12')))))))) ?_
  refine A.mono (insertion_ans o n cap J l1 hll1 (by omega) a' b' ab (by omega) h k1.self) ?_
  rintro r h2 ⟨l2,k2,p2,s2⟩
  refine vP ?_
  refine vZ ?_
  (first | apply endW_r | apply endW_n);(case h1=>(simp[Tryz.results111];first | done | rfl))
  exact⟨l2,k1.trans k2,P1.done p2 s2⟩
 have q12':¬(L:Int)≤12:=by omega
 by_cases qz:lim=0
 ·subst qz
  refine vF (cJ t0 (cJ t1 (cJ t2 (cJ t3 (cJ t8 (cJ t9 (cJ w1 (cJ q12 q12')))))))) ?_
  refine A.mono (heapsort_ans o n cap J l1 hll1 (by omega) a' b' (by omega) (by omega) h k1.self) ?_
  rintro r h2 ⟨l2,k2,p2,s2⟩
  refine vP ?_
  refine vZ ?_
  (first | apply endW_r | apply endW_n);(case h1=>(simp[Tryz.results111];first | done | rfl))
  exact⟨l2,k1.trans k2,P1.done p2 s2⟩
 refine vF (cJ t0 (cJ t1 (cJ t2 (cJ t3 (cJ t8 (cJ t9 (cJ w1 (cJ q12 (cJ q12' qz))))))))) ?_
 refine W.mono (R:=fun e s=>e=.normal∧∃(t:Fm AV) (h:Hp Fm) (lim:Int) (l1:List Tx),s=⟨t,134,h,none⟩∧0≤lim∧lim≤1000∧tget t 0=.rs o 0 1 false n cap∧tget t 1=.int .i64 a'∧tget t 2=.int .i64 b'∧tget t 3=.int .i64 lim∧tget t 8=.bool wb∧tget t 9=.bool wp∧tget t 10=.int .i64 L∧SR h0 h o J l1∧PQ l l1 a b a' b') ?_ ?_
 ·cases wb with
  | true=>
   refine vZ ?_
   exact⟨rfl,_,_,lim,l1,rfl,hl0,hl1,by simp[t0],by simp[t1],by simp[t2],by simp[t3],by simp[t8],by simp[t9],by simp,k1,P1⟩
  | false=>
   have wl:IntKind.i64.wrap (lim-1)=lim-1:=wrap64 (by omega) (by omega)
   refine vF (cJ t0 (cJ t1 t2)) ?_
   refine A.mono (breakp_ans o n cap J l1 hll1 (by omega) a' b' (by omega) (by omega) h k1.self) ?_
   rintro r h2 ⟨l2,k2,p2⟩
   refine vP ?_
   refine vF (cJ t3 wl) ?_
   exact⟨rfl,_,_,lim-1,l2,rfl,by omega,by omega,by simp[t0],by simp[t1],by simp[t2],by simp,by simp[t8],by simp[t9],by simp,k1.trans k2,P1.perm p2⟩
 clear t0 t1 t2 t3 t8 t9 k1 P1 hl0 hl1 qz hll1
 rintro e s ⟨rfl,t,h,lim,l1,rfl,hl0,hl1,t0,t1,t2,t3,t8,t9,t10,k1,P1⟩
 have hll1:l1.length=n:=P1.pr.len.trans hl
 refine vF (cJ t0 (cJ t1 (cJ t2 (cJ t3 (cJ t8 (cJ t9 t10)))))) ?_
 refine A.mono (choose_ans o n cap J l1 hll1 (by omega) a' b' (by omega) (by omega) h k1.self) ?_
 rintro _ h2 ⟨⟨pv,hint,rfl,pv1,pv2⟩,e2⟩
 have k2:=k1.he e2
 refine vP ?_
 refine vZ ?_
 refine W.mono (R:=fun e s=>e=.normal∧∃(t:Fm AV) (h:Hp Fm) (pv:Nat) (hint:Int) (l1:List Tx),s=⟨t,134,h,none⟩∧tget t 0=.rs o 0 1 false n cap∧tget t 1=.int .i64 a'∧tget t 2=.int .i64 b'∧tget t 3=.int .i64 lim∧tget t 8=.bool wb∧tget t 9=.bool wp∧tget t 10=.int .i64 L∧tget t 11=.int .i64 pv∧tget t 12=.int .i64 hint∧a'≤pv∧pv<b'∧SR h0 h o J l1∧PQ l l1 a b a' b') ?_ ?_
 ·by_cases q2:hint=2
  case neg=>
   refine vF q2 ?_
   exact⟨rfl,_,_,pv,hint,l1,rfl,by simp[t0],by simp[t1],by simp[t2],by simp[t3],by simp[t8],by simp[t9],by simp[t10],by simp,by simp,pv1,pv2,k2,P1⟩
  subst q2
  refine vF (cJ t0 (cJ t1 t2)) ?_
  refine A.mono (reverse_ans o n cap J l1 hll1 (by omega) a' b' (by omega) (by omega) h2 k2.self) ?_
  rintro r h3 ⟨l2,k3,p3⟩
  refine vP ?_
  obtain⟨x1,hx1⟩:∃x1,x1=b'-1:=⟨_,rfl⟩
  have y1:IntKind.i64.wrap ((b':Int)-1)=(x1:Int):=by rw[wrap64 (by omega) (by omega)];omega
  obtain⟨x2,hx2⟩:∃x2,x2=pv-a':=⟨_,rfl⟩
  have y2:IntKind.i64.wrap ((pv:Int)-(a':Int))=(x2:Int):=by rw[wrap64 (by omega) (by omega)];omega
  obtain⟨x3,hx3⟩:∃x3,x3=x1-x2:=⟨_,rfl⟩
  have y3:IntKind.i64.wrap ((x1:Int)-(x2:Int))=(x3:Int):=by rw[wrap64 (by omega) (by omega)];omega
  refine vF (cJ t0 (cJ t1 (cJ t2 (cJ y1 (cJ y2 y3))))) ?_
  exact⟨rfl,_,_,x3,1,l2,rfl,by simp[t0],by simp[t1],by simp[t2],by simp[t3],by simp[t8],by simp[t9],by simp[t10],by simp,by simp,by omega,by omega,k2.trans k3,P1.perm p3⟩
 clear t0 t1 t2 t3 t8 t9 t10 k1 k2 P1 e2 pv1 pv2 hint hll1
 rintro e s ⟨rfl,t,h,pv,hint,l1,rfl,t0,t1,t2,t3,t8,t9,t10,t11,t12,pv1,pv2,k1,P1⟩
 have hll1:l1.length=n:=P1.pr.len.trans hl
 refine thenW_n ?_
 refine W_seq_i ?_
 refine W.mono (R:=fun e s=>(e=.normal∧∃(t:Fm AV) (h:Hp Fm) (l1:List Tx),s=⟨t,134,h,none⟩∧tget t 0=.rs o 0 1 false n cap∧tget t 1=.int .i64 a'∧tget t 2=.int .i64 b'∧tget t 3=.int .i64 lim∧tget t 8=.bool wb∧tget t 9=.bool wp∧tget t 10=.int .i64 L∧tget t 11=.int .i64 pv∧SR h0 h o J l1∧PQ l l1 a b a' b') ∨
   (e=.ret∧∃(t:Fm AV) (h:Hp Fm) (l1:List Tx),s=⟨t,134,h,none⟩∧SR h0 h o J l1∧PR l l1 a b∧SortR ltB l1 a b)) ?_ ?_
 ·refine W_seq_i ?_
  refine W.mono (R:=fun e s=>e=.normal∧∃(t:Fm AV) (q:Bool),s=⟨t,134,h,none⟩∧tget t 0=.rs o 0 1 false n cap∧tget t 1=.int .i64 a'∧tget t 2=.int .i64 b'∧tget t 3=.int .i64 lim∧tget t 8=.bool wb∧tget t 9=.bool wp∧tget t 10=.int .i64 L∧tget t 11=.int .i64 pv∧tget t 68=.bool q) ?_ ?_
  ·cases wb with
   | false=>
    refine vF (cJ t8 (cJ t9 t12)) ?_
    exact⟨rfl,_,false,rfl,by simp[t0],by simp[t1],by simp[t2],by simp[t3],by simp[t8],by simp[t9],by simp[t10],by simp[t11],by simp⟩
   | true=>
    cases wp with
    | false=>
     refine vF (cJ t8 (cJ t9 t12)) ?_
     exact⟨rfl,_,false,rfl,by simp[t0],by simp[t1],by simp[t2],by simp[t3],by simp[t8],by simp[t9],by simp[t10],by simp[t11],by simp⟩
    | true=>
     refine vF (cJ t8 (cJ t9 t12)) ?_
     exact⟨rfl,_,_,rfl,by simp[t0],by simp[t1],by simp[t2],by simp[t3],by simp[t8],by simp[t9],by simp[t10],by simp[t11],by simp;rfl⟩
  clear t0 t1 t2 t3 t8 t9 t10 t11 t12
  rintro e s ⟨rfl,t,q,rfl,t0,t1,t2,t3,t8,t9,t10,t11,t68⟩
  cases q with
  | false=>
   refine vF t68 ?_
   exact .inl ⟨rfl,_,_,l1,rfl,by simp[t0],by simp[t1],by simp[t2],by simp[t3],by simp[t8],by simp[t9],by simp[t10],by simp[t11],k1,P1⟩
  | true=>
   refine vF (cJ t68 (cJ t0 (cJ t1 t2))) ?_
   refine A.mono (partial_ans o n cap J l1 hll1 (by omega) a' b' (by omega) (by omega) P1.lb h k1.self) ?_
   rintro _ h3 ⟨l2,q,rfl,k2,p2,s2⟩
   refine vP ?_
   cases q with
   | false=>
    refine vZ ?_
    exact .inl ⟨rfl,_,_,l2,rfl,by simp[t0],by simp[t1],by simp[t2],by simp[t3],by simp[t8],by simp[t9],by simp[t10],by simp[t11],k1.trans k2,P1.perm p2⟩
   | true=>
    refine vZ ?_
    exact .inr ⟨rfl,_,_,l2,rfl,k1.trans k2,P1.done p2 (s2 rfl)⟩
 clear t0 t1 t2 t3 t8 t9 t10 t11 t12 k1 P1 hll1 hint
 rintro e s (⟨rfl,t,h,l1,rfl,t0,t1,t2,t3,t8,t9,t10,t11,k1,P1⟩ | ⟨rfl,t,h,l1,rfl,k1,P1⟩)
 case inr=>
  refine vZ ?_
  (first | apply endW_r | apply endW_n);(case h1=>(simp[Tryz.results111];first | done | rfl))
  exact⟨l1,k1,P1⟩
 have hll1:l1.length=n:=P1.pr.len.trans hl
 refine thenW_n ?_
 refine W_seq_i ?_
 refine W_seq_i ?_
 refine W.mono (R:=fun e s=>e=.normal∧∃(t:Fm AV) (h:Hp Fm) (q:Bool),s=⟨t,134,h,none⟩∧tget t 0=.rs o 0 1 false n cap∧tget t 1=.int .i64 a'∧tget t 2=.int .i64 b'∧tget t 3=.int .i64 lim∧tget t 8=.bool wb∧tget t 9=.bool wp∧tget t 10=.int .i64 L∧tget t 11=.int .i64 pv∧tget t 87=.bool q∧SR h0 h o J l1∧(q=true→0<a'∧Le ltB (gt l1 pv) (gt l1 (a'-1)))) ?_ ?_
 ·by_cases qa:0<a'
  case neg=>
   have qa':¬(0:Int)<a':=by omega
   (with_reducible refine W_draw_id (pln:=true) [0,1,2,3,4,5,6,7,8,9,10,11,12,13,14] [(7,(7,[])),(11,(11,[]))] (by kernel_rfl) rfl ?_)
   refine vF (cJ t0 (cJ t1 (cJ t2 (cJ t11 (cJ qa qa'))))) ?_
   refine⟨by simp[readSame,beqAV_self,t0];done,_,by simp;first | done | rfl,?_⟩
   exact⟨rfl,_,_,false,rfl,by simp[t0],by simp[t1],by simp[t2],by simp[t3],by simp[t8],by simp[t9],by simp[t10],by simp[t11],by simp,k1.drew,fun z=>by cases z⟩
  have qa':(0:Int)<a':=by omega
  obtain⟨am,ham⟩:∃am,am=a'-1:=⟨_,rfl⟩
  have wm:IntKind.i64.wrap ((a':Int)-1)=(am:Int):=by rw[wrap64 (by omega) (by omega)];omega
  have x1:=ix am (by omega)
  have x2:=ix pv (by omega)
  have g1:=getS1 (J:=J) (l:=l1) (i:=am) (by omega)
  have g2:=getS1 (J:=J) (l:=l1) (i:=pv) (by omega)
  have gr:=k1.row;(try dsimp only [Hp.drew]at gr)
  (with_reducible refine W_draw_id (pln:=true) [0,1,2,3,4,5,6,7,8,9,10,11,12,13,14] [(7,(7,[])),(11,(11,[]))] (by kernel_rfl) rfl ?_)
  refine vF (cJ t0 (cJ t1 (cJ t2 (cJ t11 (cJ qa (cJ qa' (cJ wm (cJ x1 (cJ x2 (cJ g1 (cJ g2 gr))))))))))) ?_
  have kd:=k1.drew
  refine A.mono (less_ans (gt l1 am) (gt l1 pv) _) ?_
  rintro _ hls ⟨rfl,els⟩
  have kd':=kd.he els
  refine vP ?_
  refine vZ ?_
  refine⟨by simp[readSame,beqAV_self,t0];done,_,by simp;first | done | rfl,?_⟩
  exact⟨rfl,_,_,(!ltB (gt l1 am) (gt l1 pv)),rfl,by simp[t0],by simp[t1],by simp[t2],by simp[t3],by simp[t8],by simp[t9],by simp[t10],by simp[t11],by simp,kd',fun z=>⟨qa,by rw[←ham];unfold Le;cases hz:ltB (gt l1 am) (gt l1 pv)with | false=>rfl | true=>(rw[hz]at z;cases z)⟩⟩
 clear t0 t1 t2 t3 t8 t9 t10 t11 k1
 rintro e s ⟨rfl,t,h,q,rfl,t0,t1,t2,t3,t8,t9,t10,t11,t87,k1,F⟩
 refine thenW_n ?_
 cases q with
 | true=>
  obtain⟨F1,F2⟩:=F rfl
  refine vF (cJ t87 (cJ t0 (cJ t1 (cJ t2 t11)))) ?_
  refine A.mono (parteq_ans o n cap J l1 hll1 (by omega) a' b' pv (by omega) (by omega) pv1 pv2 h k1.self) ?_
  rintro _ h3 ⟨l2,m,rfl,k2,p2,m1,m2,m3,m4⟩
  refine vP ?_
  obtain⟨z1,z2⟩:=parted_equal ltS_ok P1.gl aa bb p2 m1 m2 m3 m4 P1.lb F1 F2
  refine vZ ?_
  exact⟨b'-m,by omega,_,_,m,b',lim,wb,wp,l2,rfl,rfl,hl0,hl1,by simp[t0],by simp,by simp[t2],by simp[t3],by simp[t8],by simp[t9],k1.trans k2,⟨by omega,m2,bb,(P1.perm p2).pr,z1,z2⟩⟩
 | false=>
  refine vF (cJ t87 (cJ t0 (cJ t1 (cJ t2 t11)))) ?_
  refine A.mono (partn_ans o n cap J l1 hll1 (by omega) a' b' pv (by omega) (by omega) pv1 pv2 h k1.self) ?_
  rintro _ h3 ⟨l2,m,q,rfl,k2,D⟩
  have m1:=D.am
  have m2:=D.mb
  refine vP ?_
  obtain⟨x1,hx1⟩:∃x1,x1=m-a':=⟨_,rfl⟩
  have y1:IntKind.i64.wrap ((m:Int)-(a':Int))=(x1:Int):=by rw[wrap64 (by omega) (by omega)];omega
  obtain⟨x2,hx2⟩:∃x2,x2=b'-m:=⟨_,rfl⟩
  have y2:IntKind.i64.wrap ((b':Int)-(m:Int))=(x2:Int):=by rw[wrap64 (by omega) (by omega)];omega
  have k3:=k1.trans k2
  have P3:=P1.perm D.pr
  have hll2:l2.length=n:=P3.pr.len.trans hl
  obtain⟨m',hm'⟩:∃m',m'=m+1:=⟨_,rfl⟩
  have ym:IntKind.i64.wrap ((m:Int)+1)=(m':Int):=by rw[wrap64 (by omega) (by omega)];omega
  by_cases qq:x1<x2
  ·have qq':(x1:Int)<x2:=by omega
   refine vF (cJ t0 (cJ t1 (cJ t2 (cJ t3 (cJ t10 (cJ y1 (cJ y2 (cJ qq qq')))))))) ?_
   refine A.mono (ih (m-a') (by omega) l2 a' m lim h3 (Nat.le_refl _) hll2 m1 (by omega) hl0 hl1 (fun z i h1 h2=>P3.lb z i h1 (by omega)) k2.self) ?_
   rintro _ h4 ⟨l3,k4,p4,s4⟩
   refine vP ?_
   obtain⟨z1,z2⟩:=D.left ltS_ok P1.gl aa bb p4 s4
   refine vF ym ?_
   subst hm'
   exact⟨b'-(m+1),by omega,_,_,m+1,b',lim,_,q,l3,rfl,rfl,hl0,hl1,by simp[t0],by simp,by simp[t2],by simp[t3],by simp;rfl,by simp,k3.trans k4,⟨by omega,by omega,bb,P3.pr.trans (p4.wide (by omega) (by omega)),z1,z2⟩⟩
  ·have qq':¬(x1:Int)<x2:=by omega
   subst hm'
   have LB2:LBd ltB l2 (m+1) b':=fun _ i h1 h2=>D.hi i (by omega) h2
   refine vF (cJ t0 (cJ t1 (cJ t2 (cJ t3 (cJ t10 (cJ y1 (cJ y2 (cJ qq (cJ qq' ym))))))))) ?_
   refine A.mono (ih (b'-(m+1)) (by omega) l2 (m+1) b' lim h3 (Nat.le_refl _) hll2 (by omega) (by omega) hl0 hl1 LB2 k2.self) ?_
   rintro _ h4 ⟨l3,k4,p4,s4⟩
   refine vP ?_
   obtain⟨z1,z2⟩:=D.right ltS_ok P1.gl P1.lb aa bb p4 s4
   refine vZ ?_
   exact⟨m-a',by omega,_,_,a',m,lim,_,q,l3,rfl,rfl,hl0,hl1,by simp[t0],by simp[t1],by simp,by simp[t3],by simp;rfl,by simp,k3.trans k4,⟨aa,m1,by omega,P3.pr.trans (p4.wide (by omega) (by omega)),z1,z2⟩⟩
theorem sorts_ans(o n cap:Nat)(J:List AV)(l:List Tx)(hl:l.length=n)(hn:n≤60000)(h0:Hp Fm)(k0:SR h0 h0 o J l) :
  A Tryz.prog TT (.func 88) [.rs o 0 1 false n cap] h0 (fun _ h'=>∃l',SR h0 h' o J l'∧PR l l' 0 n∧SortR ltB l' 0 n):=by
 have w1:IntKind.u64.wrap (n:Int)=n:=by
  simp only[IntKind.wrap,IntKind.signed,IntKind.bits];simp;omega
 apply A_go Tryz.func88 rfl (by rfl);(case hn=>(simp[Tryz.ntmps88];rfl))
 refine vF w1 ?_
 refine A.mono (bitslen_ans n (by omega) h0) ?_
 rintro _ hh ⟨v,rfl,v1,v2,_,ehh⟩
 rw[ehh]
 refine vP ?_
 refine vZ ?_
 refine A.mono (pdq_ans o n cap J hn n l 0 n v h0 (by omega) hl (by omega) (by omega) v1 v2 (fun z=>absurd z (by omega)) k0) ?_
 rintro r h1 ⟨l',k1,p1,s1⟩
 refine vP ?_
 refine vZ ?_
 (first | apply endW_r | apply endW_n);(case h1=>(simp[Tryz.results88];first | done | rfl))
 exact⟨l',k1,p1,s1⟩
end Go.Vn
