/- What functions of the program come to, in the value machine (a part of the proof of the claim's statement). No condition. -/
import Derived.Test.YtplcehpejjfjoaaGreatVnH1
set_option linter.unusedSimpArgs false
set_option linter.unusedVariables false
set_option maxRecDepth 20000
namespace Go.Vn
open Go.Proofs
set_option maxHeartbeats 2000000 in
theorem reverse_ans(o n cap:Nat)(J:List AV)(l:List Tx)(hl:l.length=n)(hn:n≤1000000)(a b:Nat)(hab:a<b)(hbn:b≤n)(h0:Hp Fm)(k0:SR h0 h0 o J l) :
  A Tryz.prog TT (.func 129) [.rs o 0 1 false n cap,.int .i64 a,.int .i64 b] h0 (fun _ h'=>∃l',SR h0 h' o J l'∧PR l l' a b):=by
 have ix:=ixS o n cap
 obtain⟨bm,hbm⟩:∃bm,bm=b-1:=⟨_,rfl⟩
 have w1:IntKind.i64.wrap ((b:Int)-1)=(bm:Int):=by rw[wrap64 (by omega) (by omega)];omega
 apply A_go Tryz.func129 rfl (by rfl);(case hn=>(simp[Tryz.ntmps129];rfl))
 refine vF w1 ?_
 refine W_loop (fun m s=>∃(t:Fm AV) (h:Hp Fm) (i j:Nat) (l1:List Tx),s=⟨t,32,h,none⟩∧m=n-i∧a≤i∧i<n∧j<b∧tget t 0=.rs o 0 1 false n cap∧tget t 6=.int .i64 i∧tget t 7=.int .i64 j∧SR h0 h o J l1∧PR l l1 a b) (n-a)
  ⟨_,_,a,bm,l,rfl,by omega,by omega,by omega,by omega,by simp,by simp,by simp,k0,PR.refl _ _ _⟩ ?_
 rintro m s ⟨t,h,i,j,l1,rfl,rfl,hi1,hi2,hj,t0,t6,t7,k1,p1⟩
 have hl1:l1.length=n:=by rw[p1.len,hl]
 by_cases q:i<j
 case neg=>
  have q':¬(i:Int)<j:=by omega
  refine vF (cJ t0 (cJ t6 (cJ t7 (cJ q q')))) ?_
  (first | apply endW_r | apply endW_n);(case h1=>(simp[Tryz.results129];first | done | rfl))
  exact⟨l1,k1,p1⟩
 have q':(i:Int)<j:=by omega
 obtain⟨ip,hip⟩:∃ip,ip=i+1:=⟨_,rfl⟩
 have w2:IntKind.i64.wrap ((i:Int)+1)=(ip:Int):=by rw[wrap64 (by omega) (by omega)];omega
 obtain⟨jm,hjm⟩:∃jm,jm=j-1:=⟨_,rfl⟩
 have w3:IntKind.i64.wrap ((j:Int)-1)=(jm:Int):=by rw[wrap64 (by omega) (by omega)];omega
 refine vF (cJ t0 (cJ t6 (cJ t7 (cJ q q')))) ?_
 have sg1:=getS1 (J:=J) (l:=l1) (i:=i) (by omega)
 have sg2:=getS1 (J:=J) (l:=l1) (i:=j) (by omega)
 have si1:=lenS1 (J:=J) (l:=l1) (i:=i) (by omega)
 have sst1:=setS1 (J:=J) (l:=l1) (i:=i) (gt l1 j) (by omega)
 have si2:=lenS1 (J:=J) (l:=l1.set i (gt l1 j)) (i:=j) (by simp;omega)
 have sst2:=setS1 (J:=J) (l:=l1.set i (gt l1 j)) (i:=j) (gt l1 i) (by simp;omega)
 have sgr:=k1.row;(try dsimp only [Hp.drew]at sgr)
 have sx1:=ix i (by omega)
 have sx2:=ix j (by omega)
 (with_reducible refine W_draw_id (pln:=true) [0,1,2,3,4,5,6,7,8,9,10,11,12,13,14,15] [(7,(7,[])),(11,(11,[]))] (by kernel_rfl) rfl ?_)
 refine vF (cJ t0 (cJ t6 (cJ t7 (cJ sx1 (cJ sx2 (cJ sgr (cJ sg1 (cJ sg2 (cJ si1 (cJ sst1 (cJ si2 sst2))))))))))) ?_
 refine⟨by simp[readSame,beqAV_self,t0,t6,t7];done,_,by simp;first | done | rfl,?_⟩
 refine vF (cJ t0 (cJ t6 (cJ t7 (cJ w2 w3)))) ?_
 exact⟨n-ip,by omega,_,_,ip,jm,_,rfl,by omega,by omega,by omega,by omega,by simp[t0],by simp,by simp,k1.swap i j,p1.trans (PR.sw (by omega) (by omega) (by omega) (by omega) (by omega))⟩
structure Ctr(h0 h:Hp Fm)(q:Nat):Prop where
 row:∃v:Int,Mp.get h.obj q=some (.row [.int .i64 v])
 hx:HX (fun o=>o=q) (fun _=>False) h0 h
 on:q<h0.no
theorem Ctr.self{h0 h:Hp Fm}{q:Nat}(k:Ctr h0 h q):Ctr h h q:=⟨k.row,HX.refl _ _ _,Nat.lt_of_lt_of_le k.on k.hx.no⟩
theorem Ctr.trans{h0 h h':Hp Fm}{q:Nat}(k:Ctr h0 h q)(m:Ctr h h' q):Ctr h0 h' q:=⟨m.row,k.hx.trans (m.hx.mono (fun _ _ z=>z) (fun _ _ z=>z)),k.on⟩
theorem order2_ans(o n cap:Nat)(J:List AV)(l:List Tx)(hl:l.length=n)(a b q:Nat)(ha:a<n)(hb:b<n)(h0:Hp Fm)(hr:Mp.get h0.obj o=some (.row (clsE AV.str l++J)))(c:Ctr h0 h0 q) :
  A Tryz.prog TT (.func 149) [.rs o 0 1 false n cap,.int .i64 a,.int .i64 b,.ptr q 0] h0 (fun r h'=>((r=.tup [.int .i64 a,.int .i64 b])∨(r=.tup [.int .i64 b,.int .i64 a]))∧Ctr h0 h' q):=by
 have ix:=ixS o n cap
 have x1:=ix a ha
 have x2:=ix b hb
 have g1:=getS1 (J:=J) (l:=l) (i:=a) (by omega)
 have g2:=getS1 (J:=J) (l:=l) (i:=b) (by omega)
 obtain⟨v,hv⟩:=c.row
 apply A_go Tryz.func149 rfl (by rfl);(case hn=>(simp[Tryz.ntmps149];rfl))
 refine vZ ?_
 (with_reducible refine W_draw_id (pln:=true) [0,1,2,3,4,5,6,7,8] [(3,(3,[])),(7,(7,[]))] (by kernel_rfl) rfl ?_)
 refine vF (cJ x1 (cJ x2 (cJ g1 (cJ g2 hr)))) ?_
 refine A.mono (less_ans (gt l b) (gt l a) _) ?_
 rintro _ h1 ⟨rfl,e1⟩
 refine vP ?_
 have e1':=((HE.refl h0).drew).trans e1
 have hv1:=(e1'.obj q c.on).trans hv
 cases ql:ltB (gt l b) (gt l a)with
 | false=>
  refine vF ql ?_
  refine⟨by simp[readSame,beqAV_self,hr];done,_,by simp;first | done | rfl,?_⟩
  refine vF ql ?_
  (first | apply endW_r | apply endW_n);(case h1=>(simp[Tryz.results149];first | done | rfl))
  exact⟨.inl rfl,⟨v,hv1⟩,e1'.x _ _,c.on⟩
 | true=>
  refine vF ql ?_
  refine⟨by simp[readSame,beqAV_self,hr];done,_,by simp;first | done | rfl,?_⟩
  refine vF (cJ ql hv1) ?_
  (first | apply endW_r | apply endW_n);(case h1=>(simp[Tryz.results149];first | done | rfl))
  exact⟨.inr rfl,⟨_,by simp;rfl⟩,(e1'.x (fun o=>o=q) (fun _=>False)).set (fun _=>rfl) _,c.on⟩
theorem median_ans(o n cap:Nat)(J:List AV)(l:List Tx)(hl:l.length=n)(a b d q:Nat)(lo hi:Nat)(hn:hi≤n)(ha:lo≤a∧a<hi)(hb:lo≤b∧b<hi)(hd:lo≤d∧d<hi)(h0:Hp Fm)(hr:Mp.get h0.obj o=some (.row (clsE AV.str l++J)))(hoq:o≠q)(hon:o<h0.no)(c:Ctr h0 h0 q) :
  A Tryz.prog TT (.func 145) [.rs o 0 1 false n cap,.int .i64 a,.int .i64 b,.int .i64 d,.ptr q 0] h0 (fun r h'=>(∃m:Nat,r=.int .i64 m∧lo≤m∧m<hi)∧Ctr h0 h' q):=by
 apply A_go Tryz.func145 rfl (by rfl);(case hn=>(simp[Tryz.ntmps145];rfl))
 refine vZ ?_
 refine A.mono (order2_ans o n cap J l hl a b q (by omega) (by omega) h0 hr c) ?_
 rintro _ h1 ⟨r1,c1⟩
 have hr1:=(c1.hx.obj o hon hoq).trans hr
 have on1:=Nat.lt_of_lt_of_le hon c1.hx.no
 obtain⟨a1,b1,rfl,ha1,hb1⟩:∃a1 b1:Nat,‹AV› = AV.tup [.int .i64 a1,.int .i64 b1]∧(lo≤a1∧a1<hi)∧(lo≤b1∧b1<hi):=by
  rcases r1 with rfl | rfl
  ·exact⟨a,b,rfl,ha,hb⟩
  ·exact⟨b,a,rfl,hb,ha⟩
 clear r1
 refine vP ?_
 refine vZ ?_
 refine A.mono (order2_ans o n cap J l hl b1 d q (by omega) (by omega) h1 hr1 c1.self) ?_
 rintro _ h2 ⟨r2,c2⟩
 have hr2:=(c2.hx.obj o on1 hoq).trans hr1
 have on2:=Nat.lt_of_lt_of_le on1 c2.hx.no
 obtain⟨b2,d2,rfl,hb2,hd2⟩:∃a1 b1:Nat,‹AV› = AV.tup [.int .i64 a1,.int .i64 b1]∧(lo≤a1∧a1<hi)∧(lo≤b1∧b1<hi):=by
  rcases r2 with rfl | rfl
  ·exact⟨b1,d,rfl,hb1,hd⟩
  ·exact⟨d,b1,rfl,hd,hb1⟩
 clear r2
 refine vP ?_
 refine vZ ?_
 refine A.mono (order2_ans o n cap J l hl a1 b2 q (by omega) (by omega) h2 hr2 c2.self) ?_
 rintro _ h3 ⟨r3,c3⟩
 obtain⟨a3,b3,rfl,ha3,hb3⟩:∃a1 b1:Nat,‹AV› = AV.tup [.int .i64 a1,.int .i64 b1]∧(lo≤a1∧a1<hi)∧(lo≤b1∧b1<hi):=by
  rcases r3 with rfl | rfl
  ·exact⟨a1,b2,rfl,ha1,hb2⟩
  ·exact⟨b2,a1,rfl,hb2,ha1⟩
 clear r3
 refine vP ?_
 refine vZ ?_
 (first | apply endW_r | apply endW_n);(case h1=>(simp[Tryz.results145];first | done | rfl))
 exact⟨⟨b3,rfl,hb3.1,hb3.2⟩,(c1.trans c2).trans c3⟩
theorem medadj_ans(o n cap:Nat)(J:List AV)(l:List Tx)(hl:l.length=n)(a q:Nat)(lo hi:Nat)(hn:hi≤n)(hn2:n≤1000000)(ha:lo<a∧a+1<hi)(h0:Hp Fm)(hr:Mp.get h0.obj o=some (.row (clsE AV.str l++J)))(hoq:o≠q)(hon:o<h0.no)(c:Ctr h0 h0 q) :
  A Tryz.prog TT (.func 144) [.rs o 0 1 false n cap,.int .i64 a,.ptr q 0] h0 (fun r h'=>(∃m:Nat,r=.int .i64 m∧lo≤m∧m<hi)∧Ctr h0 h' q):=by
 obtain⟨am,ham⟩:∃am,am=a-1:=⟨_,rfl⟩
 have w1:IntKind.i64.wrap ((a:Int)-1)=(am:Int):=by rw[wrap64 (by omega) (by omega)];omega
 obtain⟨ap,hap⟩:∃ap,ap=a+1:=⟨_,rfl⟩
 have w2:IntKind.i64.wrap ((a:Int)+1)=(ap:Int):=by rw[wrap64 (by omega) (by omega)];omega
 apply A_go Tryz.func144 rfl (by rfl);(case hn=>(simp[Tryz.ntmps144];rfl))
 refine vF (cJ w1 w2) ?_
 refine A.mono (median_ans o n cap J l hl am a ap q lo hi hn (by omega) (by omega) (by omega) h0 hr hoq hon c) ?_
 rintro _ h1 ⟨⟨m,rfl,m1,m2⟩,c1⟩
 refine vP ?_
 refine vZ ?_
 (first | apply endW_r | apply endW_n);(case h1=>(simp[Tryz.results144];first | done | rfl))
 exact⟨⟨m,rfl,m1,m2⟩,c1⟩
end Go.Vn

set_option maxRecDepth 20000
namespace Go.Vn
open Go.Proofs
theorem tdivN(n k:Nat):Int.tdiv (n:Int) (k:Int)=((n / k:Nat):Int):=by
 rw[Int.tdiv_eq_ediv_of_nonneg (by omega)];simp
set_option maxHeartbeats 2000000 in
theorem choose_ans(o n cap:Nat)(J:List AV)(l:List Tx)(hl:l.length=n)(hn:n≤1000000)(a b:Nat)(hab:a+8≤b)(hbn:b≤n)(h0:Hp Fm)(k0:SR h0 h0 o J l) :
  A Tryz.prog TT (.func 128) [.rs o 0 1 false n cap,.int .i64 a,.int .i64 b] h0 (fun r h'=>(∃(m:Nat) (v:Int),r=.tup [.int .i64 m,.int .i64 v]∧a≤m∧m<b)∧HE h0 h'):=by
 obtain⟨L,hL⟩:∃L,L=b-a:=⟨_,rfl⟩
 have w1:IntKind.i64.wrap ((b:Int)-(a:Int))=(L:Int):=by rw[wrap64 (by omega) (by omega)];omega
 obtain⟨L4,hL4⟩:∃L4,L4=L / 4:=⟨_,rfl⟩
 have d1:Int.tdiv (L:Int) 4=(L4:Int):=by rw[hL4];exact tdivN L 4
 have w2:IntKind.i64.wrap (L4:Int)=(L4:Int):=wrap64 (by omega) (by omega)
 obtain⟨M2,hM2⟩:∃M2,M2=L4*2:=⟨_,rfl⟩
 have w3:IntKind.i64.wrap ((L4:Int)*2)=(M2:Int):=by rw[wrap64 (by omega) (by omega)];omega
 obtain⟨M3,hM3⟩:∃M3,M3=L4*3:=⟨_,rfl⟩
 have w4:IntKind.i64.wrap ((L4:Int)*3)=(M3:Int):=by rw[wrap64 (by omega) (by omega)];omega
 obtain⟨i,hi⟩:∃i,i=a+L4:=⟨_,rfl⟩
 have w5:IntKind.i64.wrap ((a:Int)+(L4:Int))=(i:Int):=by rw[wrap64 (by omega) (by omega)];omega
 obtain⟨j,hj⟩:∃j,j=a+M2:=⟨_,rfl⟩
 have w6:IntKind.i64.wrap ((a:Int)+(M2:Int))=(j:Int):=by rw[wrap64 (by omega) (by omega)];omega
 obtain⟨k,hk⟩:∃k,k=a+M3:=⟨_,rfl⟩
 have w7:IntKind.i64.wrap ((a:Int)+(M3:Int))=(k:Int):=by rw[wrap64 (by omega) (by omega)];omega
 have g8:(8:Int)≤L:=by omega
 obtain⟨q,hqd⟩:∃q,q=h0.no:=⟨_,rfl⟩
 have on:=k0.on
 apply A_go Tryz.func128 rfl (by rfl);(case hn=>(simp[Tryz.ntmps128];rfl))
 refine vF (cJ w1 (cJ d1 (cJ w2 (cJ w3 (cJ w4 (cJ w5 (cJ w6 (cJ w7 g8)))))))) ?_
 obtain⟨ha,hha⟩:∃ha:Hp Fm,ha={ h0 with obj:=Mp.set h0.obj h0.no (.row [.int .i64 0]),no:=h0.no+1 }:=⟨_,rfl⟩
 have e0:HE h0 ha:=by rw[hha];exact(HE.refl h0).new _
 have ca:Ctr ha ha q:=by rw[hha,hqd];exact⟨⟨0,by simp⟩,HX.refl _ _ _,by simp⟩
 have hra:Mp.get ha.obj o=some (.row (clsE AV.str l++J)):=(e0.obj o on).trans k0.row
 have ona:=Nat.lt_of_lt_of_le on e0.no
 rw[←hha,←hqd]
 by_cases q5:50≤L
 case neg=>
  have q5':¬(50:Int)≤L:=by omega
  refine vF (cJ q5 q5') ?_
  refine A.mono (median_ans o n cap J l hl i j k q a b hbn (by omega) (by omega) (by omega) _ hra (by omega) ona ca) ?_
  rintro _ h5 ⟨⟨m,rfl,m1,m2⟩,c5⟩
  refine vP ?_
  obtain⟨v,hv⟩:=c5.row
  have hfin:HE h0 h5:=e0.x2 c5.hx (fun z e=>by rw[e,hqd];exact Nat.le_refl _) (fun _ z=>z.elim)
  by_cases v0:v=0
  ·subst v0
   refine vF hv ?_
   (first | apply endW_r | apply endW_n);(case h1=>(simp[Tryz.results128];first | done | rfl))
   exact⟨⟨m,1,rfl,m1,m2⟩,hfin⟩
  by_cases v1:v=12
  ·subst v1
   refine vF hv ?_
   (first | apply endW_r | apply endW_n);(case h1=>(simp[Tryz.results128];first | done | rfl))
   exact⟨⟨m,2,rfl,m1,m2⟩,hfin⟩
  refine vF (cJ hv (cJ v0 v1)) ?_
  (first | apply endW_r | apply endW_n);(case h1=>(simp[Tryz.results128];first | done | rfl))
  exact⟨⟨m,0,rfl,m1,m2⟩,hfin⟩
 have q5':(50:Int)≤L:=by omega
 refine vF (cJ q5 q5') ?_
 refine A.mono (medadj_ans o n cap J l hl i q a b hbn hn (by omega) ha hra (by omega) ona ca) ?_
 rintro _ h1 ⟨⟨i1,rfl,i11,i12⟩,c1⟩
 have hr1:=(c1.hx.obj o ona (by omega)).trans hra
 have on1:=Nat.lt_of_lt_of_le ona c1.hx.no
 have e1:HE h0 h1:=e0.x2 c1.hx (fun z e=>by rw[e,hqd];exact Nat.le_refl _) (fun _ z=>z.elim)
 refine vP ?_
 refine vZ ?_
 refine A.mono (medadj_ans o n cap J l hl j q a b hbn hn (by omega) h1 hr1 (by omega) on1 c1.self) ?_
 rintro _ h2 ⟨⟨j1,rfl,j11,j12⟩,c2⟩
 have hr2:=(c2.hx.obj o on1 (by omega)).trans hr1
 have on2:=Nat.lt_of_lt_of_le on1 c2.hx.no
 have e2:HE h0 h2:=e1.x2 c2.hx (fun z e=>by rw[e,hqd];exact Nat.le_refl _) (fun _ z=>z.elim)
 refine vP ?_
 refine vZ ?_
 refine A.mono (medadj_ans o n cap J l hl k q a b hbn hn (by omega) h2 hr2 (by omega) on2 c2.self) ?_
 rintro _ h3 ⟨⟨k1,rfl,k11,k12⟩,c3⟩
 have hr3:=(c3.hx.obj o on2 (by omega)).trans hr2
 have on3:=Nat.lt_of_lt_of_le on2 c3.hx.no
 have e3:HE h0 h3:=e2.x2 c3.hx (fun z e=>by rw[e,hqd];exact Nat.le_refl _) (fun _ z=>z.elim)
 have c3s:=c3.self
 refine vP ?_
 refine vZ ?_
 refine A.mono (median_ans o n cap J l hl i1 j1 k1 q a b hbn (by omega) (by omega) (by omega) _ hr3 (by omega) on3 c3s) ?_
 rintro _ h5 ⟨⟨m,rfl,m1,m2⟩,c5⟩
 refine vP ?_
 obtain⟨v,hv⟩:=c5.row
 have hfin:HE h0 h5:=e3.x2 c5.hx (fun z e=>by rw[e,hqd];exact Nat.le_refl _) (fun _ z=>z.elim)
 by_cases v0:v=0
 ·subst v0
  refine vF hv ?_
  (first | apply endW_r | apply endW_n);(case h1=>(simp[Tryz.results128];first | done | rfl))
  exact⟨⟨m,1,rfl,m1,m2⟩,hfin⟩
 by_cases v1:v=12
 ·subst v1
  refine vF hv ?_
  (first | apply endW_r | apply endW_n);(case h1=>(simp[Tryz.results128];first | done | rfl))
  exact⟨⟨m,2,rfl,m1,m2⟩,hfin⟩
 refine vF (cJ hv (cJ v0 v1)) ?_
 (first | apply endW_r | apply endW_n);(case h1=>(simp[Tryz.results128];first | done | rfl))
 exact⟨⟨m,0,rfl,m1,m2⟩,hfin⟩
end Go.Vn

set_option maxRecDepth 20000
namespace Go.Vn
open Go.Proofs
theorem vSy73{F G K:Prop}(f:F)(k:K)(h:F→K→G:=by intro f k;(repeat(first|with_reducible first|refine vmR ?_|refine vmV rfl ?_|refine vmW rfl ?_|refine vmL ?_|refine blockW_y (by decide) ?_|((with_reducible first|apply vmO|apply vmT|apply vmC);case a=>simp[f,shiftBin];with_reducible first|exact .v|exact .c|exact .t|exact .f)));exact k):G:=h f k
theorem vSy74{G K:Prop}(k:K)(h:K→G:=by intro k;(repeat(first|with_reducible first|refine vmR ?_|refine vmV rfl ?_|refine vmW rfl ?_|refine vmL ?_|refine blockW_y (by decide) ?_|((with_reducible first|apply vmO|apply vmT|apply vmC);case a=>simp[shiftBin];with_reducible first|exact .v|exact .c|exact .t|exact .f)));exact k):G:=h k
theorem xnext_ans(x:Nat)(v:Int)(h0:Hp Fm)(hx:Mp.get h0.obj x=some (.row [.int .u64 v])) :
  A Tryz.prog TT (.func 143) [.ptr x 0] h0 (fun r h'=>∃v:Int,r=.int .u64 v∧Mp.get h'.obj x=some (.row [.int .u64 v])∧HX (fun o=>o=x) (fun _=>False) h0 h'):=by
 apply A_go Tryz.func143 rfl (by rfl);(case hn=>(simp[Tryz.ntmps143];rfl))
 refine vZ ?_
 (with_reducible refine W_draw_id (pln:=true) [0,1,2,3,4,5,6,7,8,9] [(2,(2,[])),(5,(5,[]))] (by kernel_rfl) rfl ?_)
 refine vSy73 hx ?_
 refine⟨by simp[readSame,beqAV_self,hx];done,_,by simp;first | done | rfl,?_⟩
 refine vZ ?_
 (with_reducible refine W_draw_id (pln:=true) [0,1,2,3,4,5,6,7,8,9] [(2,(2,[])),(5,(5,[]))] (by kernel_rfl) rfl ?_)
 refine vSy74 ?_
 refine⟨by first | rfl | (simp;done),_,by simp;first | done | rfl,?_⟩
 refine vZ ?_
 (with_reducible refine W_draw_id (pln:=true) [0,1,2,3,4,5,6,7,8,9] [(2,(2,[])),(5,(5,[]))] (by kernel_rfl) rfl ?_)
 refine vSy74 ?_
 refine⟨by first | rfl | (simp;done),_,by simp;first | done | rfl,?_⟩
 refine vZ ?_
 (first | apply endW_r | apply endW_n);(case h1=>(simp[Tryz.results143];first | done | rfl))
 refine⟨_,rfl,by simp,?_⟩
 exact((((((HX.refl (fun o=>o=x) (fun _=>False) h0).drew).set (fun _=>rfl) _).drew).set (fun _=>rfl) _).drew).set (fun _=>rfl) _
theorem npow_ans(n:Nat)(hz:0<n)(hn:n<65536)(h0:Hp Fm) :
  A Tryz.prog TT (.func 142) [.int .i64 n] h0 (fun r h'=>∃p:Nat,r=.int .u64 p∧0<p∧p≤2*n∧h'=h0):=by
 have w1:IntKind.u64.wrap (n:Int)=n:=by
  simp only[IntKind.wrap,IntKind.signed,IntKind.bits];simp;omega
 apply A_go Tryz.func142 rfl (by rfl);(case hn=>(simp[Tryz.ntmps142];rfl))
 refine vF w1 ?_
 refine A.mono (bitslen_ans n hn h0) ?_
 rintro _ _ ⟨v,rfl,v1,v2,v3,rfl⟩
 refine vP ?_
 have nv:¬(v<0):=by omega
 have v4:=v3 hz
 obtain⟨p,hp⟩:∃p,p=2 ^ v.toNat:=⟨_,rfl⟩
 have hm:min v.toNat IntKind.u64.bits=v.toNat:=by
  refine Nat.min_eq_left ?_
  show v.toNat≤64
  refine Nat.le_of_not_lt fun z=>?_
  have:=Nat.pow_le_pow_right (n:=2) (by omega) (Nat.le_of_lt z)
  have e:2 ^ 64=18446744073709551616:=by decide
  omega
 have w2:IntKind.u64.wrap (2 ^ v.toNat:Int)=(p:Int):=by
  have e:(2 ^ v.toNat:Int)=(p:Int):=by rw[hp];simp
  rw[e]
  simp only[IntKind.wrap,IntKind.signed,IntKind.bits];simp;omega
 refine vSy73 (cJ nv (cJ hm w2)) ?_
 (first | apply endW_r | apply endW_n);(case h1=>(simp[Tryz.results142];first | done | rfl))
 exact⟨p,rfl,by rw[hp];exact Nat.two_pow_pos _,by rw[hp];exact v4,rfl⟩
theorem and_le(v:Int)(m:Nat)(hm:m<2 ^ 64):∃r:Nat,IntKind.u64.wrap ((BitVec.ofInt IntKind.u64.bits v &&& BitVec.ofInt IntKind.u64.bits (m:Int)).toNat:Int)=(r:Int)∧r≤m:=by
 have e:IntKind.u64.bits=64:=rfl
 have h2:(BitVec.ofInt IntKind.u64.bits (m:Int)).toNat=m:=by
  simp[e,BitVec.toNat_ofInt];omega
 have h1:(BitVec.ofInt IntKind.u64.bits v &&& BitVec.ofInt IntKind.u64.bits (m:Int)).toNat≤m:=by
  rw[BitVec.toNat_and]
  refine Nat.le_trans Nat.and_le_right ?_
  rw[h2]
  exact Nat.le_refl _
 refine⟨_,?_,h1⟩
 generalize (BitVec.ofInt IntKind.u64.bits v &&& BitVec.ofInt IntKind.u64.bits (m:Int)).toNat=r at h1
 simp only[IntKind.wrap,IntKind.signed,IntKind.bits]
 simp
 omega
set_option maxHeartbeats 2000000 in
theorem breakp_ans(o n cap:Nat)(J:List AV)(l:List Tx)(hl:l.length=n)(hn:n≤60000)(a b:Nat)(hab:a+8≤b)(hbn:b≤n)(h0:Hp Fm)(k0:SR h0 h0 o J l) :
  A Tryz.prog TT (.func 127) [.rs o 0 1 false n cap,.int .i64 a,.int .i64 b] h0 (fun _ h'=>∃l',SR h0 h' o J l'∧PR l l' a b):=by
 have ix:=ixS o n cap
 obtain⟨L,hL⟩:∃L,L=b-a:=⟨_,rfl⟩
 have w1:IntKind.i64.wrap ((b:Int)-(a:Int))=(L:Int):=by rw[wrap64 (by omega) (by omega)];omega
 have g8:(8:Int)≤L:=by omega
 have w2:IntKind.u64.wrap (L:Int)=L:=by
  simp only[IntKind.wrap,IntKind.signed,IntKind.bits];simp;omega
 obtain⟨L4,hL4⟩:∃L4,L4=L / 4:=⟨_,rfl⟩
 have d1:Int.tdiv (L:Int) 4=(L4:Int):=by rw[hL4];exact tdivN L 4
 have w3:IntKind.i64.wrap (L4:Int)=(L4:Int):=wrap64 (by omega) (by omega)
 obtain⟨M2,hM2⟩:∃M2,M2=L4*2:=⟨_,rfl⟩
 have w4:IntKind.i64.wrap ((L4:Int)*2)=(M2:Int):=by rw[wrap64 (by omega) (by omega)];omega
 obtain⟨c2,hc2⟩:∃c2,c2=a+M2:=⟨_,rfl⟩
 have w5:IntKind.i64.wrap ((a:Int)+(M2:Int))=(c2:Int):=by rw[wrap64 (by omega) (by omega)];omega
 obtain⟨c1,hc1⟩:∃c1,c1=c2-1:=⟨_,rfl⟩
 have w6:IntKind.i64.wrap ((c2:Int)-1)=(c1:Int):=by rw[wrap64 (by omega) (by omega)];omega
 obtain⟨c3,hc3⟩:∃c3,c3=c2+1:=⟨_,rfl⟩
 have w7:IntKind.i64.wrap ((c2:Int)+1)=(c3:Int):=by rw[wrap64 (by omega) (by omega)];omega
 obtain⟨x,hx⟩:∃x,x=h0.no:=⟨_,rfl⟩
 have on:=k0.on
 apply A_go Tryz.func127 rfl (by rfl);(case hn=>(simp[Tryz.ntmps127];rfl))
 refine vF (cJ w1 (cJ g8 w2)) ?_
 obtain⟨hs,hhs⟩:∃hs:Hp Fm,hs={ h0 with obj:=Mp.set (Mp.set h0.obj h0.no (.row [.int .u64 0])) h0.no (.row [.int .u64 L]),no:=h0.no+1 }:=⟨_,rfl⟩
 have e0:HE h0 hs:=by rw[hhs];exact((HE.refl h0).new _).set (Nat.le_refl _) _
 have hvs:Mp.get hs.obj x=some (.row [.int .u64 L]):=by rw[hhs,hx];simp
 have hxs:x<hs.no:=by rw[hhs,hx];simp
 rw[←hhs,←hx]
 refine A.mono (npow_ans L (by omega) (by omega) hs) ?_
 rintro _ hh ⟨P,rfl,P0,P1,ehh⟩
 rw[ehh]
 clear ehh hh
 obtain⟨Pm,hPm⟩:∃Pm,Pm=P-1:=⟨_,rfl⟩
 have wP:IntKind.u64.wrap ((P:Int)-1)=(Pm:Int):=by
  simp only[IntKind.wrap,IntKind.signed,IntKind.bits];simp;omega
 refine vP ?_
 refine vF (cJ d1 (cJ w3 (cJ w4 (cJ w5 w6)))) ?_
 refine W_loop (fun m s=>∃(t:Fm AV) (h:Hp Fm) (iz:Nat) (l1:List Tx),s=⟨t,65,h,none⟩∧m=c2+2-iz∧c1≤iz∧iz≤c2+2∧tget t 0=.rs o 0 1 false n cap∧tget t 1=.int .i64 a∧tget t 6=.int .i64 L∧tget t 7=.ptr x 0∧tget t 8=.int .u64 P∧tget t 9=.int .i64 iz ∧
   Mp.get h.obj o=some (.row (clsE AV.str l1++J))∧(∃v:Int,Mp.get h.obj x=some (.row [.int .u64 v]))∧HX (fun q=>q=o∨q=x) (fun _=>False) hs h∧PR l l1 a b) (c2+2-c1)
  ⟨_,_,c1,l,rfl,rfl,Nat.le_refl _,by omega,by simp,by simp,by simp,by simp,by simp,by simp,(e0.obj o on).trans k0.row,⟨_,hvs⟩,HX.refl _ _ _,PR.refl _ _ _⟩ ?_
 rintro m s ⟨t,h,iz,l1,rfl,rfl,hi1,hi2,t0,t1,t6,t7,t8,t9,kr,⟨v,hv⟩,hxx,p1⟩
 have hl1:l1.length=n:=p1.len.trans hl
 have hxn:x<h.no:=Nat.lt_of_lt_of_le hxs hxx.no
 have hon:o<h.no:=Nat.lt_of_lt_of_le (Nat.lt_of_lt_of_le on e0.no) hxx.no
 have hox:o≠x:=by omega
 by_cases q:iz≤c3
 case neg=>
  have q':¬(iz:Int)≤c3:=by omega
  refine vF (cJ t0 (cJ t1 (cJ t6 (cJ t7 (cJ t8 (cJ t9 (cJ d1 (cJ w3 (cJ w4 (cJ w5 (cJ w7 (cJ q q')))))))))))) ?_
  (first | apply endW_r | apply endW_n);(case h1=>(simp[Tryz.results127];first | done | rfl))
  refine⟨l1,⟨kr,?_,on⟩,p1⟩
  exact(((e0.x (fun q=>q=o∨q=x) (fun _=>False)).trans hxx).mono (fun z hz hh=>by rcases hh with hh | hh;exact hh;omega) (fun _ _ z=>z))
 have q':(iz:Int)≤c3:=by omega
 refine vF (cJ t0 (cJ t1 (cJ t6 (cJ t7 (cJ t8 (cJ t9 (cJ d1 (cJ w3 (cJ w4 (cJ w5 (cJ w7 (cJ q q')))))))))))) ?_
 refine A.mono (xnext_ans x v h hv) ?_
 rintro _ h2 ⟨v2,rfl,hv2,x2⟩
 refine vP ?_
 obtain⟨R,hR0,hRle⟩:=and_le v2 Pm (by omega)
 have hR:IntKind.u64.wrap ↑((v2%2 ^ IntKind.u64.bits).toNat &&& Pm%2 ^ IntKind.u64.bits)=(R:Int):=by rw[←hR0];simp
 have wR:IntKind.i64.wrap (R:Int)=(R:Int):=wrap64 (by omega) (by omega)
 obtain⟨ip,hip⟩:∃ip,ip=iz+1:=⟨_,rfl⟩
 have wip:IntKind.i64.wrap ((iz:Int)+1)=(ip:Int):=by rw[wrap64 (by omega) (by omega)];omega
 have kr2:Mp.get h2.obj o=some (.row (clsE AV.str l1++J)):=(x2.obj o hon hox).trans kr
 have k3:SR h2 h2 o J l1:=⟨kr2,HX.refl _ _ _,Nat.lt_of_lt_of_le hon x2.no⟩
 have hx3:HX (fun q=>q=o∨q=x) (fun _=>False) hs h2:=hxx.trans (x2.mono (fun _ _ z=>.inr z) (fun _ _ z=>z))
 by_cases qR:L≤R
 ·have qR':(L:Int)≤R:=by omega
  obtain⟨R2,hR2⟩:∃R2,R2=R-L:=⟨_,rfl⟩
  have wR2:IntKind.i64.wrap ((R:Int)-(L:Int))=(R2:Int):=by rw[wrap64 (by omega) (by omega)];omega
  obtain⟨ot,hot⟩:∃ot,ot=a+R2:=⟨_,rfl⟩
  have wo:IntKind.i64.wrap ((a:Int)+(R2:Int))=(ot:Int):=by rw[wrap64 (by omega) (by omega)];omega
  refine vF (cJ t0 (cJ t1 (cJ t6 (cJ t7 (cJ t8 (cJ t9 (cJ wP (cJ hR (cJ wR (cJ qR (cJ qR' wR2))))))))))) ?_
  have sg1:=getS1 (J:=J) (l:=l1) (i:=iz) (by omega)
  have sg2:=getS1 (J:=J) (l:=l1) (i:=ot) (by omega)
  have si1:=lenS1 (J:=J) (l:=l1) (i:=iz) (by omega)
  have sst1:=setS1 (J:=J) (l:=l1) (i:=iz) (gt l1 ot) (by omega)
  have si2:=lenS1 (J:=J) (l:=l1.set iz (gt l1 ot)) (i:=ot) (by simp;omega)
  have sst2:=setS1 (J:=J) (l:=l1.set iz (gt l1 ot)) (i:=ot) (gt l1 iz) (by simp;omega)
  have sgr:=k3.row;(try dsimp only [Hp.drew]at sgr)
  have sx1:=ix iz (by omega)
  have sx2:=ix ot (by omega)
  (with_reducible refine W_draw_id (pln:=true) [0,1,2,3,4,5,6,7,8,9,10,11,12,13,14,15,16,17,18,19] [(11,(11,[])),(15,(15,[]))] (by kernel_rfl) rfl ?_)
  refine vF (cJ t0 (cJ t1 (cJ t6 (cJ t7 (cJ t8 (cJ t9 (cJ wo (cJ sx1 (cJ sx2 (cJ sgr (cJ sg1 (cJ sg2 (cJ si1 (cJ sst1 (cJ si2 sst2))))))))))))))) ?_
  refine⟨by simp[readSame,beqAV_self,t0,t1,t6,t7,t8,t9,wo];done,_,by simp;first | done | rfl,?_⟩
  have k4:=k3.swap iz ot
  refine vF (cJ t0 (cJ t1 (cJ t6 (cJ t7 (cJ t8 (cJ t9 wip)))))) ?_
  refine⟨c2+2-ip,by omega,_,_,ip,_,rfl,rfl,by omega,by omega,by simp[t0],by simp[t1],by simp[t6],by simp[t7],by simp[t8],by simp,k4.row,?_,?_,?_⟩
  ·exact⟨v2,(k4.hx.obj x (Nat.lt_of_lt_of_le hxn x2.no) (by omega)).trans hv2⟩
  ·exact(hx3.trans (k4.hx.mono (fun _ _ z=>.inl z) (fun _ _ z=>z)))
  ·exact p1.trans (PR.sw (by omega) (by omega) (by omega) (by omega) (by omega))
 ·have qR':¬(L:Int)≤R:=by omega
  obtain⟨ot,hot⟩:∃ot,ot=a+R:=⟨_,rfl⟩
  have wo:IntKind.i64.wrap ((a:Int)+(R:Int))=(ot:Int):=by rw[wrap64 (by omega) (by omega)];omega
  refine vF (cJ t0 (cJ t1 (cJ t6 (cJ t7 (cJ t8 (cJ t9 (cJ wP (cJ hR (cJ wR (cJ qR qR')))))))))) ?_
  have sg1:=getS1 (J:=J) (l:=l1) (i:=iz) (by omega)
  have sg2:=getS1 (J:=J) (l:=l1) (i:=ot) (by omega)
  have si1:=lenS1 (J:=J) (l:=l1) (i:=iz) (by omega)
  have sst1:=setS1 (J:=J) (l:=l1) (i:=iz) (gt l1 ot) (by omega)
  have si2:=lenS1 (J:=J) (l:=l1.set iz (gt l1 ot)) (i:=ot) (by simp;omega)
  have sst2:=setS1 (J:=J) (l:=l1.set iz (gt l1 ot)) (i:=ot) (gt l1 iz) (by simp;omega)
  have sgr:=k3.row;(try dsimp only [Hp.drew]at sgr)
  have sx1:=ix iz (by omega)
  have sx2:=ix ot (by omega)
  (with_reducible refine W_draw_id (pln:=true) [0,1,2,3,4,5,6,7,8,9,10,11,12,13,14,15,16,17,18,19] [(11,(11,[])),(15,(15,[]))] (by kernel_rfl) rfl ?_)
  refine vF (cJ t0 (cJ t1 (cJ t6 (cJ t7 (cJ t8 (cJ t9 (cJ wo (cJ sx1 (cJ sx2 (cJ sgr (cJ sg1 (cJ sg2 (cJ si1 (cJ sst1 (cJ si2 sst2))))))))))))))) ?_
  refine⟨by simp[readSame,beqAV_self,t0,t1,t6,t7,t8,t9,wo];done,_,by simp;first | done | rfl,?_⟩
  have k4:=k3.swap iz ot
  refine vF (cJ t0 (cJ t1 (cJ t6 (cJ t7 (cJ t8 (cJ t9 wip)))))) ?_
  refine⟨c2+2-ip,by omega,_,_,ip,_,rfl,rfl,by omega,by omega,by simp[t0],by simp[t1],by simp[t6],by simp[t7],by simp[t8],by simp,k4.row,?_,?_,?_⟩
  ·exact⟨v2,(k4.hx.obj x (Nat.lt_of_lt_of_le hxn x2.no) (by omega)).trans hv2⟩
  ·exact(hx3.trans (k4.hx.mono (fun _ _ z=>.inl z) (fun _ _ z=>z)))
  ·exact p1.trans (PR.sw (by omega) (by omega) (by omega) (by omega) (by omega))
end Go.Vn
