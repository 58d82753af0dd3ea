/- What functions of the program come to, in the value machine (a part of the proof of the claim's statement). No condition. -/
import Derived.Test.YtplcehpejjfjoaaGreatVnH1
set_option linter.unusedSimpArgs false
set_option linter.unusedVariables false
set_option maxRecDepth 20000
namespace Go.Vn
open Go.Proofs
set_option maxHeartbeats 4000000 in
theorem parteq_ans(o n cap:Nat)(J:List AV)(l:List Tx)(hl:l.length=n)(hn:n≤1000000)(a b pv:Nat)(hab:a+1<b)(hbn:b≤n)(hp1:a≤pv)(hp2:pv<b)(h0:Hp Fm)(k0:SR h0 h0 o J l) :
  A Tryz.prog TT (.func 132) [.rs o 0 1 false n cap,.int .i64 a,.int .i64 b,.int .i64 pv] h0 (fun r h'=>∃(l':List Tx) (m:Nat),r=.int .i64 m∧SR h0 h' o J l'∧PR l l' a b∧a<m∧m≤b∧(∀i,a≤i→i<m→Le ltB (gt l' i) (gt l pv))∧(∀i,m≤i→i<b→Le ltB (gt l pv) (gt l' i))):=by
 have ix:=ixS o n cap
 obtain⟨p,hp⟩:∃p,p=gt l pv:=⟨_,rfl⟩
 rw[←hp]
 obtain⟨i0,hi0⟩:∃i0,i0=a+1:=⟨_,rfl⟩
 have w1:IntKind.i64.wrap ((a:Int)+1)=(i0:Int):=by rw[wrap64 (by omega) (by omega)];omega
 obtain⟨j0,hj0⟩:∃j0,j0=b-1:=⟨_,rfl⟩
 have w2:IntKind.i64.wrap ((b:Int)-1)=(j0:Int):=by rw[wrap64 (by omega) (by omega)];omega
 apply A_go Tryz.func132 rfl (by rfl);(case hn=>(simp[Tryz.ntmps132];rfl))
 refine vZ ?_
 have sg1:=getS1 (J:=J) (l:=l) (i:=a) (by omega)
 have sg2:=getS1 (J:=J) (l:=l) (i:=pv) (by omega)
 have si1:=lenS1 (J:=J) (l:=l) (i:=a) (by omega)
 have sst1:=setS1 (J:=J) (l:=l) (i:=a) (gt l pv) (by omega)
 have si2:=lenS1 (J:=J) (l:=l.set a (gt l pv)) (i:=pv) (by simp;omega)
 have sst2:=setS1 (J:=J) (l:=l.set a (gt l pv)) (i:=pv) (gt l a) (by simp;omega)
 have sgr:=k0.row;(try dsimp only [Hp.drew]at sgr)
 have sx1:=ix a (by omega)
 have sx2:=ix pv (by omega)
 (with_reducible refine W_draw_id (pln:=true) [0,1,2,3,4,5,6,7,8,9,10,11,12,13,14,15] [(7,(7,[])),(11,(11,[]))] (by kernel_rfl) rfl ?_)
 refine vF (cJ k0.on (cJ sx1 (cJ sx2 (cJ sgr (cJ sg1 (cJ sg2 (cJ si1 (cJ sst1 (cJ si2 sst2))))))))) ?_
 refine⟨by simp[readSame,beqAV_self,k0.on];done,_,by simp;first | done | rfl,?_⟩
 refine vF (cJ w1 w2) ?_
 obtain⟨l1,hl1⟩:∃l1,l1=sw l a pv:=⟨_,rfl⟩
 have k1:=k0.swap a pv
 have P1:PIv l l1 a b i0 j0 p (fun x=>ltB p x=false) (fun x=>ltB p x=true):=by
  rw[hl1]
  exact⟨PR.sw (by omega) (by omega) (by omega) (by omega) (by omega),by rw[gt_sw (by omega) (by omega)];split;(rename_i z;rw[hp,z]);rw[if_pos rfl,hp],by omega,by omega,by omega,fun k h1 h2=>by omega,fun k h1 h2=>by omega⟩
 rw[←hl1]at k1
 refine W_loop (fun m s=>∃(t:Fm AV) (h:Hp Fm) (i j:Nat) (l2:List Tx),s=⟨t,84,h,none⟩∧m=b+1-i∧tget t 0=.rs o 0 1 false n cap∧tget t 1=.int .i64 a∧tget t 9=.int .i64 i∧tget t 10=.int .i64 j∧SR h0 h o J l2∧PIv l l2 a b i j p (fun x=>ltB p x=false) (fun x=>ltB p x=true)) (b+1-i0)
  ⟨_,_,i0,j0,l1,rfl,rfl,by simp,by simp,by simp,by simp,k1,P1⟩ ?_
 clear P1 k1 hl1 l1 w1 w2 hi0 hj0 i0 j0
 rintro m s ⟨t,h,i,j,l2,rfl,rfl,t0,t1,ti,tj,k1,P1⟩
 refine vZ ?_
 refine W.mono (R:=fun e s=>e=.exit 2∧∃(t:Fm AV) (h:Hp Fm) (iz jz:Nat),s=⟨t,84,h,none⟩∧tget t 0=.rs o 0 1 false n cap∧tget t 1=.int .i64 a∧tget t 9=.int .i64 iz∧tget t 10=.int .i64 jz∧SR h0 h o J l2∧PIv l l2 a b iz jz p (fun x=>ltB p x=false) (fun x=>ltB p x=true)∧(iz≤jz→ltB p (gt l2 iz)=true)∧i≤iz) ?_ ?_
 ·refine W_loop (fun m s=>∃(t:Fm AV) (h:Hp Fm) (iz:Nat),s=⟨t,84,h,none⟩∧m=b+1-iz∧tget t 0=.rs o 0 1 false n cap∧tget t 1=.int .i64 a∧tget t 9=.int .i64 iz∧tget t 10=.int .i64 j∧SR h0 h o J l2∧PIv l l2 a b iz j p (fun x=>ltB p x=false) (fun x=>ltB p x=true)∧i≤iz) (b+1-i)
   ⟨_,_,i,rfl,rfl,by simp[t0,t1,ti,tj],by simp[t0,t1,ti,tj],by simp[t0,t1,ti,tj],by simp[t0,t1,ti,tj],k1,P1,Nat.le_refl _⟩ ?_
  rintro m s ⟨t,h,iz,rfl,rfl,u0,u1,ui,uj,k1,P1,iI⟩
  have ai:=P1.ai
  have ij:=P1.ij
  have jb:=P1.jb
  by_cases q:iz≤j
  case neg=>
   have q':¬(iz:Int)≤j:=by omega
   refine vZ ?_
   (with_reducible refine W_draw_id (pln:=true) [0,1,2,3,4,5,6,7,8,9,10,11,12,13,14] [(7,(7,[])),(11,(11,[]))] (by kernel_rfl) rfl ?_)
   refine vF (cJ u0 (cJ u1 (cJ ui (cJ uj (cJ q q'))))) ?_
   refine⟨by simp[readSame,beqAV_self,u0];done,_,by simp;first | done | rfl,?_⟩
   refine vF (cJ u0 (cJ u1 (cJ ui uj))) ?_
   exact⟨rfl,_,_,iz,j,rfl,by simp[u0],by simp[u1],by simp[ui],by simp[uj],k1.drew,P1,(fun z=>absurd z q),iI⟩
  have q':(iz:Int)≤j:=by omega
  have hl1:l2.length=n:=P1.pr.len.trans hl
  have x1:=ix iz (by omega)
  have x2:=ix a (by omega)
  have g1:=getS1 (J:=J) (l:=l2) (i:=iz) (by omega)
  have g2:=getS1 (J:=J) (l:=l2) (i:=a) (by omega)
  rw[P1.at_]at g2
  have gr:=k1.row;(try dsimp only [Hp.drew]at gr)
  refine vZ ?_
  (with_reducible refine W_draw_id (pln:=true) [0,1,2,3,4,5,6,7,8,9,10,11,12,13,14] [(7,(7,[])),(11,(11,[]))] (by kernel_rfl) rfl ?_)
  refine vF (cJ u0 (cJ u1 (cJ ui (cJ uj (cJ q (cJ q' (cJ x1 (cJ x2 (cJ g1 (cJ g2 gr)))))))))) ?_
  have kd:=k1.drew
  refine A.mono (less_ans p (gt l2 iz) _) ?_
  rintro _ hls ⟨rfl,els⟩
  have kd':=kd.he els
  refine vP ?_
  by_cases ql:ltB p (gt l2 iz)=false
  case neg=>
   have ql':ltB p (gt l2 iz)=true:=by simpa using ql
   refine vF (cJ u0 ql') ?_
   refine⟨by simp[readSame,beqAV_self,u0];done,_,by simp;first | done | rfl,?_⟩
   refine vF (cJ u0 (cJ u1 (cJ ui (cJ uj ql')))) ?_
   exact⟨rfl,_,_,iz,j,rfl,by simp[u0],by simp[u1],by simp[ui],by simp[uj],kd',P1,(fun _=>ql'),iI⟩
  obtain⟨ip,hip⟩:∃ip,ip=iz+1:=⟨_,rfl⟩
  have wi:IntKind.i64.wrap ((iz:Int)+1)=(ip:Int):=by rw[wrap64 (by omega) (by omega)];omega
  refine vF (cJ u0 ql) ?_
  refine⟨by simp[readSame,beqAV_self,u0];done,_,by simp;first | done | rfl,?_⟩
  refine vF (cJ u0 (cJ u1 (cJ ui (cJ uj (cJ ql wi))))) ?_
  refine⟨b+1-ip,by omega,_,_,ip,rfl,rfl,by simp[u0],by simp[u1],by simp,by simp[uj],kd',?_,by omega⟩
  subst hip
  exact P1.inc q ql
 obtain⟨i00,hi00⟩:∃i00,i00=i:=⟨_,rfl⟩
 rw[←hi00]
 have i0b:i00≤b:=by have:=P1.ij;have:=P1.jb;omega
 have hi0a:a<i00:=by have:=P1.ai;omega
 clear t0 t1 ti tj k1 P1 hi00
 rintro e s ⟨rfl,t,h,i1,j1,rfl,t0,t1,ti,tj,k1,P2,F1,ii⟩
 refine vZ ?_
 refine W.mono (R:=fun e s=>e=.exit 4∧∃(t:Fm AV) (h:Hp Fm) (jz:Nat),s=⟨t,84,h,none⟩∧tget t 0=.rs o 0 1 false n cap∧tget t 1=.int .i64 a∧tget t 9=.int .i64 i1∧tget t 10=.int .i64 jz∧SR h0 h o J l2∧PIv l l2 a b i1 jz p (fun x=>ltB p x=false) (fun x=>ltB p x=true)∧jz≤j1∧(i1≤jz→ltB p (gt l2 jz)=false)) ?_ ?_
 ·refine W_loop (fun m s=>∃(t:Fm AV) (h:Hp Fm) (jz:Nat),s=⟨t,84,h,none⟩∧jz=m∧tget t 0=.rs o 0 1 false n cap∧tget t 1=.int .i64 a∧tget t 9=.int .i64 i1∧tget t 10=.int .i64 jz∧SR h0 h o J l2∧PIv l l2 a b i1 jz p (fun x=>ltB p x=false) (fun x=>ltB p x=true)∧jz≤j1) j1
   ⟨_,_,j1,rfl,rfl,by simp[t0,t1,ti,tj],by simp[t0,t1,ti,tj],by simp[t0,t1,ti,tj],by simp[t0,t1,ti,tj],k1,P2,Nat.le_refl _⟩ ?_
  rintro m s ⟨t,h,jz,rfl,rfl,u0,u1,ui,uj,k1,P1,jJ⟩
  have ai:=P1.ai
  have ij:=P1.ij
  have jb:=P1.jb
  by_cases q:i1≤jz
  case neg=>
   have q':¬(i1:Int)≤jz:=by omega
   refine vZ ?_
   (with_reducible refine W_draw_id (pln:=true) [0,1,2,3,4,5,6,7,8,9,10,11,12,13] [(7,(7,[])),(11,(11,[]))] (by kernel_rfl) rfl ?_)
   refine vF (cJ u0 (cJ u1 (cJ ui (cJ uj (cJ q q'))))) ?_
   refine⟨by simp[readSame,beqAV_self,u0];done,_,by simp;first | done | rfl,?_⟩
   refine vF (cJ u0 (cJ u1 (cJ ui uj))) ?_
   exact⟨rfl,_,_,jz,rfl,by simp[u0],by simp[u1],by simp[ui],by simp[uj],k1.drew,P1,jJ,fun z=>absurd z q⟩
  have q':(i1:Int)≤jz:=by omega
  have hl1:l2.length=n:=P1.pr.len.trans hl
  have x1:=ix jz (by omega)
  have x2:=ix a (by omega)
  have g1:=getS1 (J:=J) (l:=l2) (i:=jz) (by omega)
  have g2:=getS1 (J:=J) (l:=l2) (i:=a) (by omega)
  rw[P1.at_]at g2
  have gr:=k1.row;(try dsimp only [Hp.drew]at gr)
  refine vZ ?_
  (with_reducible refine W_draw_id (pln:=true) [0,1,2,3,4,5,6,7,8,9,10,11,12,13] [(7,(7,[])),(11,(11,[]))] (by kernel_rfl) rfl ?_)
  refine vF (cJ u0 (cJ u1 (cJ ui (cJ uj (cJ q (cJ q' (cJ x1 (cJ x2 (cJ g1 (cJ g2 gr)))))))))) ?_
  have kd:=k1.drew
  refine A.mono (less_ans p (gt l2 jz) _) ?_
  rintro _ hls ⟨rfl,els⟩
  have kd':=kd.he els
  refine vP ?_
  by_cases ql:ltB p (gt l2 jz)=true
  case neg=>
   have ql':ltB p (gt l2 jz)=false:=by simpa using ql
   refine vF (cJ u0 ql') ?_
   refine⟨by simp[readSame,beqAV_self,u0];done,_,by simp;first | done | rfl,?_⟩
   refine vF (cJ u0 (cJ u1 (cJ ui (cJ uj ql')))) ?_
   exact⟨rfl,_,_,jz,rfl,by simp[u0],by simp[u1],by simp[ui],by simp[uj],kd',P1,jJ,fun _=>ql'⟩
  obtain⟨jm,hjm⟩:∃jm,jm=jz-1:=⟨_,rfl⟩
  have wj:IntKind.i64.wrap ((jz:Int)-1)=(jm:Int):=by rw[wrap64 (by omega) (by omega)];omega
  refine vF (cJ u0 ql) ?_
  refine⟨by simp[readSame,beqAV_self,u0];done,_,by simp;first | done | rfl,?_⟩
  refine vF (cJ u0 (cJ u1 (cJ ui (cJ uj (cJ ql wj))))) ?_
  refine⟨jm,by omega,_,_,jm,rfl,rfl,by simp[u0],by simp[u1],by simp[ui],by simp,kd',?_,by omega⟩
  subst hjm
  exact P1.dec q ql
 obtain⟨j00,hj00⟩:∃j00,j00=j1:=⟨_,rfl⟩
 rw[←hj00]at F1 ⊢
 clear t0 t1 ti tj k1 P2 hj00
 rintro e s ⟨rfl,t,h,j2,rfl,t0,t1,ti,tj,k1,P3,jj,F2⟩
 have hll:l2.length=n:=P3.pr.len.trans hl
 have ai:=P3.ai
 have ij:=P3.ij
 have jb:=P3.jb
 by_cases q:j2<i1
 ·have q':(j2:Int)<i1:=by omega
  refine vF (cJ t0 (cJ t1 (cJ ti (cJ tj (cJ q q'))))) ?_
  (first | apply endW_r | apply endW_n);(case h1=>(simp[Tryz.results132];first | done | rfl))
  refine⟨l2,i1,rfl,k1,P3.pr,by omega,by omega,fun x h1 h2=>?_,fun x h1 h2=>?_⟩
  ·by_cases e:x=a
   ·rw[e,P3.at_];exact ltS_ok.rf _
   ·exact P3.lo x (by omega) h2
  ·exact ltS_ok.le (P3.hi x (by omega) h2)
 have q':¬(j2:Int)<i1:=by omega
 have F1':=F1 (by omega)
 have F2':=F2 (by omega)
 have hne:i1≠j2:=fun e=>by rw[e,F2']at F1';cases F1'
 obtain⟨ip,hip⟩:∃ip,ip=i1+1:=⟨_,rfl⟩
 have wi:IntKind.i64.wrap ((i1:Int)+1)=(ip:Int):=by rw[wrap64 (by omega) (by omega)];omega
 obtain⟨jm,hjm⟩:∃jm,jm=j2-1:=⟨_,rfl⟩
 have wj:IntKind.i64.wrap ((j2:Int)-1)=(jm:Int):=by rw[wrap64 (by omega) (by omega)];omega
 refine vF (cJ t0 (cJ t1 (cJ ti (cJ tj (cJ q q'))))) ?_
 have sg1:=getS1 (J:=J) (l:=l2) (i:=i1) (by omega)
 have sg2:=getS1 (J:=J) (l:=l2) (i:=j2) (by omega)
 have si1:=lenS1 (J:=J) (l:=l2) (i:=i1) (by omega)
 have sst1:=setS1 (J:=J) (l:=l2) (i:=i1) (gt l2 j2) (by omega)
 have si2:=lenS1 (J:=J) (l:=l2.set i1 (gt l2 j2)) (i:=j2) (by simp;omega)
 have sst2:=setS1 (J:=J) (l:=l2.set i1 (gt l2 j2)) (i:=j2) (gt l2 i1) (by simp;omega)
 have sgr:=k1.row;(try dsimp only [Hp.drew]at sgr)
 have sx1:=ix i1 (by omega)
 have sx2:=ix j2 (by omega)
 (with_reducible refine W_draw_id (pln:=true) [0,1,2,3,4,5,6,7,8,9,10,11,12,13,14,15] [(7,(7,[])),(11,(11,[]))] (by kernel_rfl) rfl ?_)
 refine vF (cJ t0 (cJ t1 (cJ ti (cJ tj (cJ sx1 (cJ sx2 (cJ sgr (cJ sg1 (cJ sg2 (cJ si1 (cJ sst1 (cJ si2 sst2)))))))))))) ?_
 refine⟨by simp[readSame,beqAV_self,t0,t1,ti,tj];done,_,by simp;first | done | rfl,?_⟩
 refine vF (cJ t0 (cJ t1 (cJ ti (cJ tj (cJ wi wj))))) ?_
 refine⟨b+1-ip,by omega,_,_,ip,jm,_,rfl,rfl,by simp[t0],by simp[t1],by simp,by simp,k1.swap i1 j2,?_⟩
 subst hip;subst hjm
 exact P3.swp (by omega) (by omega) F1' F2'
set_option maxHeartbeats 4000000 in
theorem partn_ans(o n cap:Nat)(J:List AV)(l:List Tx)(hl:l.length=n)(hn:n≤1000000)(a b pv:Nat)(hab:a+1<b)(hbn:b≤n)(hp1:a≤pv)(hp2:pv<b)(h0:Hp Fm)(k0:SR h0 h0 o J l) :
  A Tryz.prog TT (.func 133) [.rs o 0 1 false n cap,.int .i64 a,.int .i64 b,.int .i64 pv] h0 (fun r h'=>∃(l':List Tx) (m:Nat) (q:Bool),r=.tup [.int .i64 m,.bool q]∧SR h0 h' o J l'∧Parted ltB l l' a b m):=by
 have ix:=ixS o n cap
 obtain⟨p,hp⟩:∃p,p=gt l pv:=⟨_,rfl⟩
 obtain⟨i0,hi0⟩:∃i0,i0=a+1:=⟨_,rfl⟩
 have w1:IntKind.i64.wrap ((a:Int)+1)=(i0:Int):=by rw[wrap64 (by omega) (by omega)];omega
 obtain⟨j0,hj0⟩:∃j0,j0=b-1:=⟨_,rfl⟩
 have w2:IntKind.i64.wrap ((b:Int)-1)=(j0:Int):=by rw[wrap64 (by omega) (by omega)];omega
 apply A_go Tryz.func133 rfl (by rfl);(case hn=>(simp[Tryz.ntmps133];rfl))
 refine vZ ?_
 have sg1:=getS1 (J:=J) (l:=l) (i:=a) (by omega)
 have sg2:=getS1 (J:=J) (l:=l) (i:=pv) (by omega)
 have si1:=lenS1 (J:=J) (l:=l) (i:=a) (by omega)
 have sst1:=setS1 (J:=J) (l:=l) (i:=a) (gt l pv) (by omega)
 have si2:=lenS1 (J:=J) (l:=l.set a (gt l pv)) (i:=pv) (by simp;omega)
 have sst2:=setS1 (J:=J) (l:=l.set a (gt l pv)) (i:=pv) (gt l a) (by simp;omega)
 have sgr:=k0.row;(try dsimp only [Hp.drew]at sgr)
 have sx1:=ix a (by omega)
 have sx2:=ix pv (by omega)
 (with_reducible refine W_draw_id (pln:=true) [0,1,2,3,4,5,6,7,8,9,10,11,12,13,14,15] [(7,(7,[])),(11,(11,[]))] (by kernel_rfl) rfl ?_)
 refine vF (cJ k0.on (cJ sx1 (cJ sx2 (cJ sgr (cJ sg1 (cJ sg2 (cJ si1 (cJ sst1 (cJ si2 sst2))))))))) ?_
 refine⟨by simp[readSame,beqAV_self,k0.on];done,_,by simp;first | done | rfl,?_⟩
 refine vF (cJ w1 w2) ?_
 obtain⟨l1,hl1⟩:∃l1,l1=sw l a pv:=⟨_,rfl⟩
 have k1:=k0.swap a pv
 have P1:PIv l l1 a b i0 j0 p (fun x=>ltB x p=true) (fun x=>ltB x p=false):=by
  rw[hl1]
  exact⟨PR.sw (by omega) (by omega) (by omega) (by omega) (by omega),by rw[gt_sw (by omega) (by omega)];split;(rename_i z;rw[hp,z]);rw[if_pos rfl,hp],by omega,by omega,by omega,fun k h1 h2=>by omega,fun k h1 h2=>by omega⟩
 rw[←hl1]at k1
 clear w1 w2 hl1 hj0 hp
 refine W.mono (R:=fun e s=>e=.exit 0∧∃(t:Fm AV) (h:Hp Fm) (iz jz:Nat),s=⟨t,168,h,none⟩∧tget t 0=.rs o 0 1 false n cap∧tget t 1=.int .i64 a∧tget t 10=.int .i64 iz∧tget t 11=.int .i64 jz∧SR h0 h o J l1∧PIv l l1 a b iz jz p (fun x=>ltB x p=true) (fun x=>ltB x p=false)∧(iz≤jz→ltB (gt l1 iz) p=false)∧i0≤iz) ?_ ?_
 ·refine W_loop (fun m s=>∃(t:Fm AV) (h:Hp Fm) (iz:Nat),s=⟨t,168,h,none⟩∧m=b+1-iz∧tget t 0=.rs o 0 1 false n cap∧tget t 1=.int .i64 a∧tget t 10=.int .i64 iz∧tget t 11=.int .i64 j0∧SR h0 h o J l1∧PIv l l1 a b iz j0 p (fun x=>ltB x p=true) (fun x=>ltB x p=false)∧i0≤iz) (b+1-i0)
   ⟨_,_,i0,rfl,rfl,by simp[k0.on],by simp[k0.on],by simp[k0.on],by simp[k0.on],k1,P1,Nat.le_refl _⟩ ?_
  rintro m s ⟨t,h,iz,rfl,rfl,u0,u1,ui,uj,k1,P1,iI⟩
  have ai:=P1.ai
  have ij:=P1.ij
  have jb:=P1.jb
  by_cases q:iz≤j0
  case neg=>
   have q':¬(iz:Int)≤j0:=by omega
   refine vZ ?_
   (with_reducible refine W_draw_id (pln:=true) [0,1,2,3,4,5,6,7,8,9,10,11,12,13] [(7,(7,[])),(11,(11,[]))] (by kernel_rfl) rfl ?_)
   refine vF (cJ u0 (cJ u1 (cJ ui (cJ uj (cJ q q'))))) ?_
   refine⟨by simp[readSame,beqAV_self,u0];done,_,by simp;first | done | rfl,?_⟩
   refine vF (cJ u0 (cJ u1 (cJ ui uj))) ?_
   exact⟨rfl,_,_,iz,j0,rfl,by simp[u0],by simp[u1],by simp[ui],by simp[uj],k1.drew,P1,(fun z=>absurd z q),iI⟩
  have q':(iz:Int)≤j0:=by omega
  have hl1:l1.length=n:=P1.pr.len.trans hl
  have x1:=ix iz (by omega)
  have x2:=ix a (by omega)
  have g1:=getS1 (J:=J) (l:=l1) (i:=iz) (by omega)
  have g2:=getS1 (J:=J) (l:=l1) (i:=a) (by omega)
  rw[P1.at_]at g2
  have gr:=k1.row;(try dsimp only [Hp.drew]at gr)
  refine vZ ?_
  (with_reducible refine W_draw_id (pln:=true) [0,1,2,3,4,5,6,7,8,9,10,11,12,13] [(7,(7,[])),(11,(11,[]))] (by kernel_rfl) rfl ?_)
  refine vF (cJ u0 (cJ u1 (cJ ui (cJ uj (cJ q (cJ q' (cJ x1 (cJ x2 (cJ g1 (cJ g2 gr)))))))))) ?_
  have kd:=k1.drew
  refine A.mono (less_ans (gt l1 iz) p _) ?_
  rintro _ hls ⟨rfl,els⟩
  have kd':=kd.he els
  refine vP ?_
  by_cases ql:ltB (gt l1 iz) p=true
  case neg=>
   have ql':ltB (gt l1 iz) p=false:=by simpa using ql
   refine vF (cJ u0 ql') ?_
   refine⟨by simp[readSame,beqAV_self,u0];done,_,by simp;first | done | rfl,?_⟩
   refine vF (cJ u0 (cJ u1 (cJ ui (cJ uj ql')))) ?_
   exact⟨rfl,_,_,iz,j0,rfl,by simp[u0],by simp[u1],by simp[ui],by simp[uj],kd',P1,(fun _=>ql'),iI⟩
  obtain⟨ip,hip⟩:∃ip,ip=iz+1:=⟨_,rfl⟩
  have wi:IntKind.i64.wrap ((iz:Int)+1)=(ip:Int):=by rw[wrap64 (by omega) (by omega)];omega
  refine vF (cJ u0 ql) ?_
  refine⟨by simp[readSame,beqAV_self,u0];done,_,by simp;first | done | rfl,?_⟩
  refine vF (cJ u0 (cJ u1 (cJ ui (cJ uj (cJ ql wi))))) ?_
  refine⟨b+1-ip,by omega,_,_,ip,rfl,rfl,by simp[u0],by simp[u1],by simp,by simp[uj],kd',?_,by omega⟩
  subst hip
  exact P1.inc q ql
 clear k1 P1 hi0
 rintro e s ⟨rfl,t,h,i,j,rfl,t0,t1,ti,tj,k1,P2,F1,ig⟩
 clear ig
 refine vZ ?_
 refine W.mono (R:=fun e s=>e=.exit 2∧∃(t:Fm AV) (h:Hp Fm) (jz:Nat),s=⟨t,168,h,none⟩∧tget t 0=.rs o 0 1 false n cap∧tget t 1=.int .i64 a∧tget t 10=.int .i64 i∧tget t 11=.int .i64 jz∧SR h0 h o J l1∧PIv l l1 a b i jz p (fun x=>ltB x p=true) (fun x=>ltB x p=false)∧jz≤j∧(i≤jz→ltB (gt l1 jz) p=true)) ?_ ?_
 ·refine W_loop (fun m s=>∃(t:Fm AV) (h:Hp Fm) (jz:Nat),s=⟨t,168,h,none⟩∧jz=m∧tget t 0=.rs o 0 1 false n cap∧tget t 1=.int .i64 a∧tget t 10=.int .i64 i∧tget t 11=.int .i64 jz∧SR h0 h o J l1∧PIv l l1 a b i jz p (fun x=>ltB x p=true) (fun x=>ltB x p=false)∧jz≤j) j
   ⟨_,_,j,rfl,rfl,by simp[t0,t1,ti,tj],by simp[t0,t1,ti,tj],by simp[t0,t1,ti,tj],by simp[t0,t1,ti,tj],k1,P2,Nat.le_refl _⟩ ?_
  rintro m s ⟨t,h,jz,rfl,rfl,u0,u1,ui,uj,k1,P1,jJ⟩
  have ai:=P1.ai
  have ij:=P1.ij
  have jb:=P1.jb
  by_cases q:i≤jz
  case neg=>
   have q':¬(i:Int)≤jz:=by omega
   refine vZ ?_
   (with_reducible refine W_draw_id (pln:=true) [0,1,2,3,4,5,6,7,8,9,10,11,12,13,14] [(7,(7,[])),(11,(11,[]))] (by kernel_rfl) rfl ?_)
   refine vF (cJ u0 (cJ u1 (cJ ui (cJ uj (cJ q q'))))) ?_
   refine⟨by simp[readSame,beqAV_self,u0];done,_,by simp;first | done | rfl,?_⟩
   refine vF (cJ u0 (cJ u1 (cJ ui uj))) ?_
   exact⟨rfl,_,_,jz,rfl,by simp[u0],by simp[u1],by simp[ui],by simp[uj],k1.drew,P1,jJ,fun z=>absurd z q⟩
  have q':(i:Int)≤jz:=by omega
  have hl1:l1.length=n:=P1.pr.len.trans hl
  have x1:=ix jz (by omega)
  have x2:=ix a (by omega)
  have g1:=getS1 (J:=J) (l:=l1) (i:=jz) (by omega)
  have g2:=getS1 (J:=J) (l:=l1) (i:=a) (by omega)
  rw[P1.at_]at g2
  have gr:=k1.row;(try dsimp only [Hp.drew]at gr)
  refine vZ ?_
  (with_reducible refine W_draw_id (pln:=true) [0,1,2,3,4,5,6,7,8,9,10,11,12,13,14] [(7,(7,[])),(11,(11,[]))] (by kernel_rfl) rfl ?_)
  refine vF (cJ u0 (cJ u1 (cJ ui (cJ uj (cJ q (cJ q' (cJ x1 (cJ x2 (cJ g1 (cJ g2 gr)))))))))) ?_
  have kd:=k1.drew
  refine A.mono (less_ans (gt l1 jz) p _) ?_
  rintro _ hls ⟨rfl,els⟩
  have kd':=kd.he els
  refine vP ?_
  by_cases ql:ltB (gt l1 jz) p=false
  case neg=>
   have ql':ltB (gt l1 jz) p=true:=by simpa using ql
   refine vF (cJ u0 ql') ?_
   refine⟨by simp[readSame,beqAV_self,u0];done,_,by simp;first | done | rfl,?_⟩
   refine vF (cJ u0 (cJ u1 (cJ ui (cJ uj ql')))) ?_
   exact⟨rfl,_,_,jz,rfl,by simp[u0],by simp[u1],by simp[ui],by simp[uj],kd',P1,jJ,fun _=>ql'⟩
  obtain⟨jm,hjm⟩:∃jm,jm=jz-1:=⟨_,rfl⟩
  have wj:IntKind.i64.wrap ((jz:Int)-1)=(jm:Int):=by rw[wrap64 (by omega) (by omega)];omega
  refine vF (cJ u0 ql) ?_
  refine⟨by simp[readSame,beqAV_self,u0];done,_,by simp;first | done | rfl,?_⟩
  refine vF (cJ u0 (cJ u1 (cJ ui (cJ uj (cJ ql wj))))) ?_
  refine⟨jm,by omega,_,_,jm,rfl,rfl,by simp[u0],by simp[u1],by simp[ui],by simp,kd',?_,by omega⟩
  subst hjm
  exact P1.dec q ql
 obtain⟨j00,hj00⟩:∃j00,j00=j:=⟨_,rfl⟩
 rw[←hj00]at F1 ⊢
 clear t0 t1 ti tj k1 P2 hj00
 rintro e s ⟨rfl,t,h,j2,rfl,t0,t1,ti,tj,k1,P3,jj,F2⟩
 have hll:l1.length=n:=P3.pr.len.trans hl
 have ai:=P3.ai
 have ij:=P3.ij
 have jb:=P3.jb
 by_cases q:j2<i
 ·have q':(j2:Int)<i:=by omega
  refine vF (cJ t0 (cJ t1 (cJ ti (cJ tj (cJ q q'))))) ?_
  have sg1:=getS1 (J:=J) (l:=l1) (i:=j2) (by omega)
  have sg2:=getS1 (J:=J) (l:=l1) (i:=a) (by omega)
  have si1:=lenS1 (J:=J) (l:=l1) (i:=j2) (by omega)
  have sst1:=setS1 (J:=J) (l:=l1) (i:=j2) (gt l1 a) (by omega)
  have si2:=lenS1 (J:=J) (l:=l1.set j2 (gt l1 a)) (i:=a) (by simp;omega)
  have sst2:=setS1 (J:=J) (l:=l1.set j2 (gt l1 a)) (i:=a) (gt l1 j2) (by simp;omega)
  have sgr:=k1.row;(try dsimp only [Hp.drew]at sgr)
  have sx1:=ix j2 (by omega)
  have sx2:=ix a (by omega)
  (with_reducible refine W_draw_id (pln:=true) [0,1,2,3,4,5,6,7,8,9,10,11,12,13,14,15] [(7,(7,[])),(11,(11,[]))] (by kernel_rfl) rfl ?_)
  refine vF (cJ t0 (cJ t1 (cJ ti (cJ tj (cJ sx1 (cJ sx2 (cJ sgr (cJ sg1 (cJ sg2 (cJ si1 (cJ sst1 (cJ si2 sst2)))))))))))) ?_
  refine⟨by simp[readSame,beqAV_self,t0,t1,ti,tj];done,_,by simp;first | done | rfl,?_⟩
  refine vF (cJ t0 (cJ t1 (cJ ti tj))) ?_
  (first | apply endW_r | apply endW_n);(case h1=>(simp[Tryz.results133];first | done | rfl))
  exact⟨_,j2,true,rfl,k1.swap j2 a,(P3.parted ltS_ok (by omega) q).2⟩
 have q':¬(j2:Int)<i:=by omega
 have F1':=F1 (by omega)
 have F2':=F2 (by omega)
 have hne:i≠j2:=fun e=>by rw[e,F2']at F1';cases F1'
 obtain⟨ip,hip⟩:∃ip,ip=i+1:=⟨_,rfl⟩
 have wi:IntKind.i64.wrap ((i:Int)+1)=(ip:Int):=by rw[wrap64 (by omega) (by omega)];omega
 obtain⟨jm,hjm⟩:∃jm,jm=j2-1:=⟨_,rfl⟩
 have wj:IntKind.i64.wrap ((j2:Int)-1)=(jm:Int):=by rw[wrap64 (by omega) (by omega)];omega
 refine vF (cJ t0 (cJ t1 (cJ ti (cJ tj (cJ q q'))))) ?_
 have sg1:=getS1 (J:=J) (l:=l1) (i:=i) (by omega)
 have sg2:=getS1 (J:=J) (l:=l1) (i:=j2) (by omega)
 have si1:=lenS1 (J:=J) (l:=l1) (i:=i) (by omega)
 have sst1:=setS1 (J:=J) (l:=l1) (i:=i) (gt l1 j2) (by omega)
 have si2:=lenS1 (J:=J) (l:=l1.set i (gt l1 j2)) (i:=j2) (by simp;omega)
 have sst2:=setS1 (J:=J) (l:=l1.set i (gt l1 j2)) (i:=j2) (gt l1 i) (by simp;omega)
 have sgr:=k1.row;(try dsimp only [Hp.drew]at sgr)
 have sx1:=ix i (by omega)
 have sx2:=ix j2 (by omega)
 (with_reducible refine W_draw_id (pln:=true) [0,1,2,3,4,5,6,7,8,9,10,11,12,13,14,15] [(7,(7,[])),(11,(11,[]))] (by kernel_rfl) rfl ?_)
 refine vF (cJ t0 (cJ t1 (cJ ti (cJ tj (cJ sx1 (cJ sx2 (cJ sgr (cJ sg1 (cJ sg2 (cJ si1 (cJ sst1 (cJ si2 sst2)))))))))))) ?_
 refine⟨by simp[readSame,beqAV_self,t0,t1,ti,tj];done,_,by simp;first | done | rfl,?_⟩
 refine vF (cJ t0 (cJ t1 (cJ ti (cJ tj (cJ wi wj))))) ?_
 have P4:PIv l (sw l1 i j2) a b ip jm p (fun x=>ltB x p=true) (fun x=>ltB x p=false):=by subst hip;subst hjm;exact P3.swp (by omega) (by omega) F1' F2'
 obtain⟨l2,hl2⟩:∃l2,l2=sw l1 i j2:=⟨_,rfl⟩
 have k4:=k1.swap i j2
 rw[←hl2]at P4 k4
 refine W_loop (fun m s=>∃(t:Fm AV) (h:Hp Fm) (i j:Nat) (l2:List Tx),s=⟨t,168,h,none⟩∧m=b+1-i∧tget t 0=.rs o 0 1 false n cap∧tget t 1=.int .i64 a∧tget t 10=.int .i64 i∧tget t 11=.int .i64 j∧SR h0 h o J l2∧PIv l l2 a b i j p (fun x=>ltB x p=true) (fun x=>ltB x p=false)) (b+1-ip)
  ⟨_,_,ip,jm,l2,rfl,rfl,by simp[t0],by simp[t1],by simp,by simp,k4,P4⟩ ?_
 clear P4 k4 wi wj q q' hne F1' F2' F1 F2 jj P3 k1 t0 t1 ti tj ai ij jb sg1 sg2 si1 si2 sst1 sst2 sgr sx1 sx2 hll
 rintro m s ⟨t,h,i,j,l2,rfl,rfl,t0,t1,ti,tj,k1,P1⟩
 refine vZ ?_
 refine W.mono (R:=fun e s=>e=.exit 6∧∃(t:Fm AV) (h:Hp Fm) (iz jz:Nat),s=⟨t,168,h,none⟩∧tget t 0=.rs o 0 1 false n cap∧tget t 1=.int .i64 a∧tget t 10=.int .i64 iz∧tget t 11=.int .i64 jz∧SR h0 h o J l2∧PIv l l2 a b iz jz p (fun x=>ltB x p=true) (fun x=>ltB x p=false)∧(iz≤jz→ltB (gt l2 iz) p=false)∧i≤iz) ?_ ?_
 ·refine W_loop (fun m s=>∃(t:Fm AV) (h:Hp Fm) (iz:Nat),s=⟨t,168,h,none⟩∧m=b+1-iz∧tget t 0=.rs o 0 1 false n cap∧tget t 1=.int .i64 a∧tget t 10=.int .i64 iz∧tget t 11=.int .i64 j∧SR h0 h o J l2∧PIv l l2 a b iz j p (fun x=>ltB x p=true) (fun x=>ltB x p=false)∧i≤iz) (b+1-i)
   ⟨_,_,i,rfl,rfl,by simp[t0,t1,ti,tj],by simp[t0,t1,ti,tj],by simp[t0,t1,ti,tj],by simp[t0,t1,ti,tj],k1,P1,Nat.le_refl _⟩ ?_
  rintro m s ⟨t,h,iz,rfl,rfl,u0,u1,ui,uj,k1,P1,iI⟩
  have ai:=P1.ai
  have ij:=P1.ij
  have jb:=P1.jb
  by_cases q:iz≤j
  case neg=>
   have q':¬(iz:Int)≤j:=by omega
   refine vZ ?_
   (with_reducible refine W_draw_id (pln:=true) [0,1,2,3,4,5,6,7,8,9,10,11,12,13] [(7,(7,[])),(11,(11,[]))] (by kernel_rfl) rfl ?_)
   refine vF (cJ u0 (cJ u1 (cJ ui (cJ uj (cJ q q'))))) ?_
   refine⟨by simp[readSame,beqAV_self,u0];done,_,by simp;first | done | rfl,?_⟩
   refine vF (cJ u0 (cJ u1 (cJ ui uj))) ?_
   exact⟨rfl,_,_,iz,j,rfl,by simp[u0],by simp[u1],by simp[ui],by simp[uj],k1.drew,P1,(fun z=>absurd z q),iI⟩
  have q':(iz:Int)≤j:=by omega
  have hl1:l2.length=n:=P1.pr.len.trans hl
  have x1:=ix iz (by omega)
  have x2:=ix a (by omega)
  have g1:=getS1 (J:=J) (l:=l2) (i:=iz) (by omega)
  have g2:=getS1 (J:=J) (l:=l2) (i:=a) (by omega)
  rw[P1.at_]at g2
  have gr:=k1.row;(try dsimp only [Hp.drew]at gr)
  refine vZ ?_
  (with_reducible refine W_draw_id (pln:=true) [0,1,2,3,4,5,6,7,8,9,10,11,12,13] [(7,(7,[])),(11,(11,[]))] (by kernel_rfl) rfl ?_)
  refine vF (cJ u0 (cJ u1 (cJ ui (cJ uj (cJ q (cJ q' (cJ x1 (cJ x2 (cJ g1 (cJ g2 gr)))))))))) ?_
  have kd:=k1.drew
  refine A.mono (less_ans (gt l2 iz) p _) ?_
  rintro _ hls ⟨rfl,els⟩
  have kd':=kd.he els
  refine vP ?_
  by_cases ql:ltB (gt l2 iz) p=true
  case neg=>
   have ql':ltB (gt l2 iz) p=false:=by simpa using ql
   refine vF (cJ u0 ql') ?_
   refine⟨by simp[readSame,beqAV_self,u0];done,_,by simp;first | done | rfl,?_⟩
   refine vF (cJ u0 (cJ u1 (cJ ui (cJ uj ql')))) ?_
   exact⟨rfl,_,_,iz,j,rfl,by simp[u0],by simp[u1],by simp[ui],by simp[uj],kd',P1,(fun _=>ql'),iI⟩
  obtain⟨ip,hip⟩:∃ip,ip=iz+1:=⟨_,rfl⟩
  have wi:IntKind.i64.wrap ((iz:Int)+1)=(ip:Int):=by rw[wrap64 (by omega) (by omega)];omega
  refine vF (cJ u0 ql) ?_
  refine⟨by simp[readSame,beqAV_self,u0];done,_,by simp;first | done | rfl,?_⟩
  refine vF (cJ u0 (cJ u1 (cJ ui (cJ uj (cJ ql wi))))) ?_
  refine⟨b+1-ip,by omega,_,_,ip,rfl,rfl,by simp[u0],by simp[u1],by simp,by simp[uj],kd',?_,by omega⟩
  subst hip
  exact P1.inc q ql
 obtain⟨i00,hi00⟩:∃i00,i00=i:=⟨_,rfl⟩
 rw[←hi00]
 have i0b:i00≤b:=by have:=P1.ij;have:=P1.jb;omega
 clear t0 t1 ti tj k1 P1 hi00
 rintro e s ⟨rfl,t,h,i1,j1,rfl,t0,t1,ti,tj,k1,P2,F1,ii⟩
 refine vZ ?_
 refine W.mono (R:=fun e s=>e=.exit 8∧∃(t:Fm AV) (h:Hp Fm) (jz:Nat),s=⟨t,168,h,none⟩∧tget t 0=.rs o 0 1 false n cap∧tget t 1=.int .i64 a∧tget t 10=.int .i64 i1∧tget t 11=.int .i64 jz∧SR h0 h o J l2∧PIv l l2 a b i1 jz p (fun x=>ltB x p=true) (fun x=>ltB x p=false)∧jz≤j1∧(i1≤jz→ltB (gt l2 jz) p=true)) ?_ ?_
 ·refine W_loop (fun m s=>∃(t:Fm AV) (h:Hp Fm) (jz:Nat),s=⟨t,168,h,none⟩∧jz=m∧tget t 0=.rs o 0 1 false n cap∧tget t 1=.int .i64 a∧tget t 10=.int .i64 i1∧tget t 11=.int .i64 jz∧SR h0 h o J l2∧PIv l l2 a b i1 jz p (fun x=>ltB x p=true) (fun x=>ltB x p=false)∧jz≤j1) j1
   ⟨_,_,j1,rfl,rfl,by simp[t0,t1,ti,tj],by simp[t0,t1,ti,tj],by simp[t0,t1,ti,tj],by simp[t0,t1,ti,tj],k1,P2,Nat.le_refl _⟩ ?_
  rintro m s ⟨t,h,jz,rfl,rfl,u0,u1,ui,uj,k1,P1,jJ⟩
  have ai:=P1.ai
  have ij:=P1.ij
  have jb:=P1.jb
  by_cases q:i1≤jz
  case neg=>
   have q':¬(i1:Int)≤jz:=by omega
   refine vZ ?_
   (with_reducible refine W_draw_id (pln:=true) [0,1,2,3,4,5,6,7,8,9,10,11,12,13,14] [(7,(7,[])),(11,(11,[]))] (by kernel_rfl) rfl ?_)
   refine vF (cJ u0 (cJ u1 (cJ ui (cJ uj (cJ q q'))))) ?_
   refine⟨by simp[readSame,beqAV_self,u0];done,_,by simp;first | done | rfl,?_⟩
   refine vF (cJ u0 (cJ u1 (cJ ui uj))) ?_
   exact⟨rfl,_,_,jz,rfl,by simp[u0],by simp[u1],by simp[ui],by simp[uj],k1.drew,P1,jJ,fun z=>absurd z q⟩
  have q':(i1:Int)≤jz:=by omega
  have hl1:l2.length=n:=P1.pr.len.trans hl
  have x1:=ix jz (by omega)
  have x2:=ix a (by omega)
  have g1:=getS1 (J:=J) (l:=l2) (i:=jz) (by omega)
  have g2:=getS1 (J:=J) (l:=l2) (i:=a) (by omega)
  rw[P1.at_]at g2
  have gr:=k1.row;(try dsimp only [Hp.drew]at gr)
  refine vZ ?_
  (with_reducible refine W_draw_id (pln:=true) [0,1,2,3,4,5,6,7,8,9,10,11,12,13,14] [(7,(7,[])),(11,(11,[]))] (by kernel_rfl) rfl ?_)
  refine vF (cJ u0 (cJ u1 (cJ ui (cJ uj (cJ q (cJ q' (cJ x1 (cJ x2 (cJ g1 (cJ g2 gr)))))))))) ?_
  have kd:=k1.drew
  refine A.mono (less_ans (gt l2 jz) p _) ?_
  rintro _ hls ⟨rfl,els⟩
  have kd':=kd.he els
  refine vP ?_
  by_cases ql:ltB (gt l2 jz) p=false
  case neg=>
   have ql':ltB (gt l2 jz) p=true:=by simpa using ql
   refine vF (cJ u0 ql') ?_
   refine⟨by simp[readSame,beqAV_self,u0];done,_,by simp;first | done | rfl,?_⟩
   refine vF (cJ u0 (cJ u1 (cJ ui (cJ uj ql')))) ?_
   exact⟨rfl,_,_,jz,rfl,by simp[u0],by simp[u1],by simp[ui],by simp[uj],kd',P1,jJ,fun _=>ql'⟩
  obtain⟨jm,hjm⟩:∃jm,jm=jz-1:=⟨_,rfl⟩
  have wj:IntKind.i64.wrap ((jz:Int)-1)=(jm:Int):=by rw[wrap64 (by omega) (by omega)];omega
  refine vF (cJ u0 ql) ?_
  refine⟨by simp[readSame,beqAV_self,u0];done,_,by simp;first | done | rfl,?_⟩
  refine vF (cJ u0 (cJ u1 (cJ ui (cJ uj (cJ ql wj))))) ?_
  refine⟨jm,by omega,_,_,jm,rfl,rfl,by simp[u0],by simp[u1],by simp[ui],by simp,kd',?_,by omega⟩
  subst hjm
  exact P1.dec q ql
 obtain⟨j00,hj00⟩:∃j00,j00=j1:=⟨_,rfl⟩
 rw[←hj00]at F1 ⊢
 clear t0 t1 ti tj k1 P2 hj00
 rintro e s ⟨rfl,t,h,j2,rfl,t0,t1,ti,tj,k1,P3,jj,F2⟩
 have hll:l2.length=n:=P3.pr.len.trans hl
 have ai:=P3.ai
 have ij:=P3.ij
 have jb:=P3.jb
 by_cases q:j2<i1
 ·have q':(j2:Int)<i1:=by omega
  refine vF (cJ t0 (cJ t1 (cJ ti (cJ tj (cJ q q'))))) ?_
  have sg1:=getS1 (J:=J) (l:=l2) (i:=j2) (by omega)
  have sg2:=getS1 (J:=J) (l:=l2) (i:=a) (by omega)
  have si1:=lenS1 (J:=J) (l:=l2) (i:=j2) (by omega)
  have sst1:=setS1 (J:=J) (l:=l2) (i:=j2) (gt l2 a) (by omega)
  have si2:=lenS1 (J:=J) (l:=l2.set j2 (gt l2 a)) (i:=a) (by simp;omega)
  have sst2:=setS1 (J:=J) (l:=l2.set j2 (gt l2 a)) (i:=a) (gt l2 j2) (by simp;omega)
  have sgr:=k1.row;(try dsimp only [Hp.drew]at sgr)
  have sx1:=ix j2 (by omega)
  have sx2:=ix a (by omega)
  (with_reducible refine W_draw_id (pln:=true) [0,1,2,3,4,5,6,7,8,9,10,11,12,13,14,15] [(7,(7,[])),(11,(11,[]))] (by kernel_rfl) rfl ?_)
  refine vF (cJ t0 (cJ t1 (cJ ti (cJ tj (cJ sx1 (cJ sx2 (cJ sgr (cJ sg1 (cJ sg2 (cJ si1 (cJ sst1 (cJ si2 sst2)))))))))))) ?_
  refine⟨by simp[readSame,beqAV_self,t0,t1,ti,tj];done,_,by simp;first | done | rfl,?_⟩
  refine vF (cJ t0 (cJ t1 (cJ ti tj))) ?_
  (first | apply endW_r | apply endW_n);(case h1=>(simp[Tryz.results133];first | done | rfl))
  exact⟨_,j2,false,rfl,k1.swap j2 a,(P3.parted ltS_ok (by omega) q).2⟩
 have q':¬(j2:Int)<i1:=by omega
 have F1':=F1 (by omega)
 have F2':=F2 (by omega)
 have hne:i1≠j2:=fun e=>by rw[e,F2']at F1';cases F1'
 obtain⟨ip,hip⟩:∃ip,ip=i1+1:=⟨_,rfl⟩
 have wi:IntKind.i64.wrap ((i1:Int)+1)=(ip:Int):=by rw[wrap64 (by omega) (by omega)];omega
 obtain⟨jm,hjm⟩:∃jm,jm=j2-1:=⟨_,rfl⟩
 have wj:IntKind.i64.wrap ((j2:Int)-1)=(jm:Int):=by rw[wrap64 (by omega) (by omega)];omega
 refine vF (cJ t0 (cJ t1 (cJ ti (cJ tj (cJ q q'))))) ?_
 have sg1:=getS1 (J:=J) (l:=l2) (i:=i1) (by omega)
 have sg2:=getS1 (J:=J) (l:=l2) (i:=j2) (by omega)
 have si1:=lenS1 (J:=J) (l:=l2) (i:=i1) (by omega)
 have sst1:=setS1 (J:=J) (l:=l2) (i:=i1) (gt l2 j2) (by omega)
 have si2:=lenS1 (J:=J) (l:=l2.set i1 (gt l2 j2)) (i:=j2) (by simp;omega)
 have sst2:=setS1 (J:=J) (l:=l2.set i1 (gt l2 j2)) (i:=j2) (gt l2 i1) (by simp;omega)
 have sgr:=k1.row;(try dsimp only [Hp.drew]at sgr)
 have sx1:=ix i1 (by omega)
 have sx2:=ix j2 (by omega)
 (with_reducible refine W_draw_id (pln:=true) [0,1,2,3,4,5,6,7,8,9,10,11,12,13,14,15] [(7,(7,[])),(11,(11,[]))] (by kernel_rfl) rfl ?_)
 refine vF (cJ t0 (cJ t1 (cJ ti (cJ tj (cJ sx1 (cJ sx2 (cJ sgr (cJ sg1 (cJ sg2 (cJ si1 (cJ sst1 (cJ si2 sst2)))))))))))) ?_
 refine⟨by simp[readSame,beqAV_self,t0,t1,ti,tj];done,_,by simp;first | done | rfl,?_⟩
 refine vF (cJ t0 (cJ t1 (cJ ti (cJ tj (cJ wi wj))))) ?_
 refine⟨b+1-ip,by omega,_,_,ip,jm,_,rfl,rfl,by simp[t0],by simp[t1],by simp,by simp,k1.swap i1 j2,?_⟩
 subst hip;subst hjm
 exact P3.swp (by omega) (by omega) F1' F2'
end Go.Vn

set_option maxRecDepth 20000
namespace Go.Vn
open Go.Proofs
set_option maxHeartbeats 4000000 in
theorem partial_ans(o n cap:Nat)(J:List AV)(l:List Tx)(hl:l.length=n)(hn:n≤1000000)(a b:Nat)(hab:a+1<b)(hbn:b≤n)(lb:LBd ltB l a b)(h0:Hp Fm)(k0:SR h0 h0 o J l) :
  A Tryz.prog TT (.func 130) [.rs o 0 1 false n cap,.int .i64 a,.int .i64 b] h0 (fun r h'=>∃(l':List Tx) (q:Bool),r=.bool q∧SR h0 h' o J l'∧PR l l' a b∧(q=true→SortR ltB l' a b)):=by
 have ix:=ixS o n cap
 obtain⟨i0,hi0⟩:∃i0,i0=a+1:=⟨_,rfl⟩
 have w1:IntKind.i64.wrap ((a:Int)+1)=(i0:Int):=by rw[wrap64 (by omega) (by omega)];omega
 apply A_go Tryz.func130 rfl (by rfl);(case hn=>(simp[Tryz.ntmps130];rfl))
 refine vF w1 ?_
 refine W_loop (fun m s=>∃(t:Fm AV) (h:Hp Fm) (w:Int) (i:Nat) (l1:List Tx),s=⟨t,133,h,none⟩∧m=(5-w).toNat∧0≤w∧w≤5∧tget t 0=.rs o 0 1 false n cap∧tget t 1=.int .i64 a∧tget t 2=.int .i64 b∧tget t 7=.int .i64 i∧tget t 8=.int .i64 w∧a<i∧i≤b∧SR h0 h o J l1∧PR l l1 a b∧SortR ltB l1 a i) 5
  ⟨_,_,0,i0,l,rfl,by omega,by omega,by omega,by simp,by simp,by simp,by simp,by simp,by omega,by omega,k0,PR.refl _ _ _,SortR.short (by omega)⟩ ?_
 rintro m s ⟨t,h,w,i,l1,rfl,rfl,hw0,hw5,t0,t1,t2,t7,t8,hai,hib,k1,p1,s1⟩
 by_cases qw:w<5
 case neg=>
  refine vF (cJ t0 (cJ t1 (cJ t2 (cJ t7 (cJ t8 qw))))) ?_
  (first | apply endW_r | apply endW_n);(case h1=>(simp[Tryz.results130];first | done | rfl))
  exact⟨l1,false,rfl,k1,p1,fun z=>by cases z⟩
 refine vF (cJ t0 (cJ t1 (cJ t2 (cJ t7 (cJ t8 qw))))) ?_
 have ww:IntKind.i64.wrap (w+1)=w+1:=wrap64 (by omega) (by omega)
 refine W.mono (R:=fun e s=>e=.exit 2∧∃(t:Fm AV) (h:Hp Fm) (iz:Nat),s=⟨t,133,h,none⟩∧tget t 0=.rs o 0 1 false n cap∧tget t 1=.int .i64 a∧tget t 2=.int .i64 b∧tget t 7=.int .i64 iz∧tget t 8=.int .i64 w∧a<iz∧iz≤b∧SR h0 h o J l1∧SortR ltB l1 a iz) ?_ ?_
 ·refine W_loop (fun m s=>∃(t:Fm AV) (h:Hp Fm) (iz:Nat),s=⟨t,133,h,none⟩∧m=b+1-iz∧tget t 0=.rs o 0 1 false n cap∧tget t 1=.int .i64 a∧tget t 2=.int .i64 b∧tget t 7=.int .i64 iz∧tget t 8=.int .i64 w∧a<iz∧iz≤b∧SR h0 h o J l1∧SortR ltB l1 a iz) (b+1-i)
   ⟨_,_,i,rfl,rfl,by simp[t0],by simp[t1],by simp[t2],by simp[t7],by simp[t8],hai,hib,k1,s1⟩ ?_
  clear t0 t1 t2 t7 t8 k1 s1
  rintro m s ⟨t,h,iz,rfl,rfl,t0,t1,t2,t7,t8,hai,hib,k1,s1⟩
  refine vZ ?_
  by_cases q:iz<b
  case neg=>
   have q':¬(iz:Int)<b:=by omega
   (with_reducible refine W_draw_id (pln:=true) [0,1,2,3,4,5,6,7,8,9,10,11,12,13,14,15] [(7,(7,[])),(12,(12,[]))] (by kernel_rfl) rfl ?_)
   refine vF (cJ t0 (cJ t1 (cJ t2 (cJ t7 (cJ t8 (cJ q q')))))) ?_
   refine⟨by simp[readSame,beqAV_self,t0];done,_,by simp;first | done | rfl,?_⟩
   refine vF (cJ t0 (cJ t1 (cJ t2 (cJ t7 t8)))) ?_
   exact⟨rfl,_,_,iz,rfl,by simp[t0],by simp[t1],by simp[t2],by simp[t7],by simp[t8],hai,hib,k1.drew,s1⟩
  have q':(iz:Int)<b:=by omega
  have hl1:l1.length=n:=p1.len.trans hl
  obtain⟨im,him⟩:∃im,im=iz-1:=⟨_,rfl⟩
  have wm:IntKind.i64.wrap ((iz:Int)-1)=(im:Int):=by rw[wrap64 (by omega) (by omega)];omega
  have x1:=ix iz (by omega)
  have x2:=ix im (by omega)
  have g1:=getS1 (J:=J) (l:=l1) (i:=iz) (by omega)
  have g2:=getS1 (J:=J) (l:=l1) (i:=im) (by omega)
  have gr:=k1.row;(try dsimp only [Hp.drew]at gr)
  (with_reducible refine W_draw_id (pln:=true) [0,1,2,3,4,5,6,7,8,9,10,11,12,13,14,15] [(7,(7,[])),(12,(12,[]))] (by kernel_rfl) rfl ?_)
  refine vF (cJ t0 (cJ t1 (cJ t2 (cJ t7 (cJ t8 (cJ q (cJ q' (cJ wm (cJ x1 (cJ x2 (cJ g1 (cJ g2 gr)))))))))))) ?_
  have kd:=k1.drew
  refine A.mono (less_ans (gt l1 iz) (gt l1 im) _) ?_
  rintro _ hls ⟨rfl,els⟩
  have kd':=kd.he els
  refine vP ?_
  by_cases ql:ltB (gt l1 iz) (gt l1 im)=false
  case neg=>
   have ql':ltB (gt l1 iz) (gt l1 im)=true:=by simpa using ql
   refine vF (cJ t0 ql') ?_
   refine⟨by simp[readSame,beqAV_self,t0];done,_,by simp;first | done | rfl,?_⟩
   refine vF (cJ t0 (cJ t1 (cJ t2 (cJ t7 (cJ t8 ql'))))) ?_
   exact⟨rfl,_,_,iz,rfl,by simp[t0],by simp[t1],by simp[t2],by simp[t7],by simp[t8],hai,hib,kd',s1⟩
  obtain⟨ip,hip⟩:∃ip,ip=iz+1:=⟨_,rfl⟩
  have wi:IntKind.i64.wrap ((iz:Int)+1)=(ip:Int):=by rw[wrap64 (by omega) (by omega)];omega
  refine vF (cJ t0 ql) ?_
  refine⟨by simp[readSame,beqAV_self,t0];done,_,by simp;first | done | rfl,?_⟩
  refine vF (cJ t0 (cJ t1 (cJ t2 (cJ t7 (cJ t8 (cJ ql wi)))))) ?_
  refine⟨b+1-ip,by omega,_,_,ip,rfl,rfl,by simp[t0],by simp[t1],by simp[t2],by simp,by simp[t8],by omega,by omega,kd',?_⟩
  subst hip
  exact s1.step ltS_ok hai (by subst him;exact ql)
 clear t0 t1 t2 t7 t8 k1 s1 hai hib i
 rintro e s ⟨rfl,t,h,i,rfl,t0,t1,t2,t7,t8,hai,hib,k1,s1⟩
 have hl1:l1.length=n:=p1.len.trans hl
 by_cases qb:i=b
 ·subst qb
  refine vF (cJ t0 (cJ t1 (cJ t2 (cJ t7 t8)))) ?_
  (first | apply endW_r | apply endW_n);(case h1=>(simp[Tryz.results130];first | done | rfl))
  exact⟨l1,true,rfl,k1,p1,fun _=>s1⟩
 have qb':¬((i:Int)=b):=by omega
 obtain⟨L,hL⟩:∃L,L=b-a:=⟨_,rfl⟩
 have wL:IntKind.i64.wrap ((b:Int)-(a:Int))=(L:Int):=by rw[wrap64 (by omega) (by omega)];omega
 by_cases q50:L<50
 ·have q50':(L:Int)<50:=by omega
  refine vF (cJ t0 (cJ t1 (cJ t2 (cJ t7 (cJ t8 (cJ qb (cJ qb' (cJ wL (cJ q50 q50'))))))))) ?_
  (first | apply endW_r | apply endW_n);(case h1=>(simp[Tryz.results130];first | done | rfl))
  exact⟨l1,false,rfl,k1,p1,fun z=>by cases z⟩
 have q50':¬(L:Int)<50:=by omega
 obtain⟨im,him⟩:∃im,im=i-1:=⟨_,rfl⟩
 have wm:IntKind.i64.wrap ((i:Int)-1)=(im:Int):=by rw[wrap64 (by omega) (by omega)];omega
 refine vF (cJ t0 (cJ t1 (cJ t2 (cJ t7 (cJ t8 (cJ qb (cJ qb' (cJ wL (cJ q50 q50'))))))))) ?_
 have sg1:=getS1 (J:=J) (l:=l1) (i:=i) (by omega)
 have sg2:=getS1 (J:=J) (l:=l1) (i:=im) (by omega)
 have si1:=lenS1 (J:=J) (l:=l1) (i:=i) (by omega)
 have sst1:=setS1 (J:=J) (l:=l1) (i:=i) (gt l1 im) (by omega)
 have si2:=lenS1 (J:=J) (l:=l1.set i (gt l1 im)) (i:=im) (by simp;omega)
 have sst2:=setS1 (J:=J) (l:=l1.set i (gt l1 im)) (i:=im) (gt l1 i) (by simp;omega)
 have sgr:=k1.row;(try dsimp only [Hp.drew]at sgr)
 have sx1:=ix i (by omega)
 have sx2:=ix im (by omega)
 (with_reducible refine W_draw_id (pln:=true) [0,1,2,3,4,5,6,7,8,9,10,11,12,13,14,15,16,17] [(9,(9,[])),(13,(13,[]))] (by kernel_rfl) rfl ?_)
 refine vF (cJ t0 (cJ t1 (cJ t2 (cJ t7 (cJ t8 (cJ wm (cJ sx1 (cJ sx2 (cJ sgr (cJ sg1 (cJ sg2 (cJ si1 (cJ sst1 (cJ si2 sst2)))))))))))))) ?_
 refine⟨by simp[readSame,beqAV_self,t0,t1,t2,t7,t8,wm];done,_,by simp;first | done | rfl,?_⟩
 obtain⟨l2,hl2⟩:∃l2,l2=sw l1 i im:=⟨_,rfl⟩
 have k2:=k1.swap i im
 have p2:PR l l2 a b:=by rw[hl2];exact p1.trans (PR.sw (by omega) (by omega) (by omega) (by omega) (by omega))
 have I2:Ins ltB l2 l2 a b im im:=⟨PR.refl _ _ _,fun p q h1 h2 h3 h4 h5=>by
  rw[hl2,gt_sw (by omega) (by omega),gt_sw (by omega) (by omega),if_neg h4,if_neg (by omega),if_neg h5,if_neg (by omega)]
  exact s1 p q h1 h2 (by omega),fun q h1 h2=>by omega⟩
 rw[←hl2]at k2
 clear hl2 s1
 obtain⟨D,hD⟩:∃D,D=i-a:=⟨_,rfl⟩
 have wD:IntKind.i64.wrap ((i:Int)-(a:Int))=(D:Int):=by rw[wrap64 (by omega) (by omega)];omega
 refine vF (cJ t0 (cJ t1 (cJ t2 (cJ t7 (cJ t8 wD))))) ?_
 refine W.mono (R:=fun e s=>e=.normal∧∃(t:Fm AV) (h:Hp Fm) (l3:List Tx),s=⟨t,133,h,none⟩∧tget t 0=.rs o 0 1 false n cap∧tget t 1=.int .i64 a∧tget t 2=.int .i64 b∧tget t 7=.int .i64 i∧tget t 8=.int .i64 w∧SR h0 h o J l3∧PR l l3 a b∧SortR ltB l3 a i) ?_ ?_
 ·by_cases q2:2≤D
  case neg=>
   have q2':¬(2:Int)≤D:=by omega
   refine vF (cJ t0 (cJ q2 q2')) ?_
   exact⟨rfl,_,_,l2,rfl,by simp[t0],by simp[t1],by simp[t2],by simp[t7],by simp[t8],k2,p2,SortR.short (by omega)⟩
  have q2':(2:Int)≤D:=by omega
  refine vF (cJ t0 (cJ t7 (cJ q2 (cJ q2' wm)))) ?_
  refine W_loop (fun m s=>∃(t:Fm AV) (h:Hp Fm) (j:Nat) (l3:List Tx),s=⟨t,133,h,none⟩∧j=m∧a≤j∧j≤im∧tget t 0=.rs o 0 1 false n cap∧tget t 1=.int .i64 a∧tget t 2=.int .i64 b∧tget t 7=.int .i64 i∧tget t 8=.int .i64 w∧tget t 9=.int .i64 j∧SR h0 h o J l3∧Ins ltB l2 l3 a b im j) im
   ⟨_,_,im,l2,rfl,rfl,by omega,Nat.le_refl _,by simp[t0],by simp[t1],by simp[t2],by simp[t7],by simp[t8],by simp,k2,I2⟩ ?_
  clear t0 t1 t2 t7 t8 k2 I2
  rintro m s ⟨t,h,j,l3,rfl,rfl,haj,hjm,t0,t1,t2,t7,t8,t9,k3,I⟩
  have hl3:l3.length=n:=I.pr.len.trans (p2.len.trans hl)
  have p3:=p2.trans I.pr
  by_cases q3:1≤j
  case neg=>
   have q3':¬(1:Int)≤j:=by omega
   refine vF (cJ t0 (cJ t9 (cJ q3 q3'))) ?_
   exact⟨rfl,_,_,l3,rfl,by simp[t0],by simp[t1],by simp[t2],by simp[t7],by simp[t8],k3,p3,fun p q h1 h2 h3=>I.done ltS_ok haj (fun z=>by omega) p q h1 h2 (by omega)⟩
  have q3':(1:Int)≤j:=by omega
  obtain⟨jm,hjm'⟩:∃jm,jm=j-1:=⟨_,rfl⟩
  have wj:IntKind.i64.wrap ((j:Int)-1)=(jm:Int):=by rw[wrap64 (by omega) (by omega)];omega
  have x1:=ix j (by omega)
  have x2:=ix jm (by omega)
  have g1:=getS1 (J:=J) (l:=l3) (i:=j) (by omega)
  have g2:=getS1 (J:=J) (l:=l3) (i:=jm) (by omega)
  have gr:=k3.row;(try dsimp only [Hp.drew]at gr)
  refine vF (cJ t0 (cJ t9 (cJ q3 q3'))) ?_
  (with_reducible refine W_draw_id (pln:=true) [0,1,2,3,4,5,6,7,8,9,10] [(3,(3,[])),(8,(8,[]))] (by kernel_rfl) rfl ?_)
  refine vF (cJ t0 (cJ t1 (cJ t2 (cJ t7 (cJ t8 (cJ t9 (cJ wj (cJ x1 (cJ x2 (cJ g1 (cJ g2 gr))))))))))) ?_
  have kd:=k3.drew
  refine A.mono (less_ans (gt l3 j) (gt l3 jm) _) ?_
  rintro _ hls ⟨rfl,els⟩
  have kd':=kd.he els
  refine vP ?_
  by_cases ql:ltB (gt l3 j) (gt l3 jm)=true
  case neg=>
   have ql':ltB (gt l3 j) (gt l3 jm)=false:=by simpa using ql
   refine vF (cJ t0 ql') ?_
   refine⟨by simp[readSame,beqAV_self,t0];done,_,by simp;first | done | rfl,?_⟩
   refine vF (cJ t0 (cJ t1 (cJ t2 (cJ t7 (cJ t8 ql'))))) ?_
   exact⟨rfl,_,_,l3,rfl,by simp[t0],by simp[t1],by simp[t2],by simp[t7],by simp[t8],kd',p3,fun p q h1 h2 h3=>I.done ltS_ok haj (fun z=>by rw[←hjm'];exact ql') p q h1 h2 (by omega)⟩
  have haj':a<j:=by
   by_cases z:a=j
   ·have:=(lb.perm p3) (by omega) j (by omega) (by omega)
    rw[z,←hjm']at this
    unfold Le at this
    rw[this]at ql;cases ql
   ·omega
  refine vF (cJ t0 ql) ?_
  refine⟨by simp[readSame,beqAV_self,t0];done,_,by simp;first | done | rfl,?_⟩
  refine vF (cJ t0 ql) ?_
  have sg1:=getS1 (J:=J) (l:=l3) (i:=j) (by omega)
  have sg2:=getS1 (J:=J) (l:=l3) (i:=jm) (by omega)
  have si1:=lenS1 (J:=J) (l:=l3) (i:=j) (by omega)
  have sst1:=setS1 (J:=J) (l:=l3) (i:=j) (gt l3 jm) (by omega)
  have si2:=lenS1 (J:=J) (l:=l3.set j (gt l3 jm)) (i:=jm) (by simp;omega)
  have sst2:=setS1 (J:=J) (l:=l3.set j (gt l3 jm)) (i:=jm) (gt l3 j) (by simp;omega)
  have sgr:=kd'.row;(try dsimp only [Hp.drew]at sgr)
  have sx1:=ix j (by omega)
  have sx2:=ix jm (by omega)
  (with_reducible refine W_draw_id (pln:=true) [0,1,2,3,4,5,6,7,8,9,10,11,12,13,14,15,16,17] [(9,(9,[])),(13,(13,[]))] (by kernel_rfl) rfl ?_)
  refine vF (cJ t0 (cJ t1 (cJ t2 (cJ t7 (cJ t8 (cJ t9 (cJ wj (cJ sx1 (cJ sx2 (cJ sgr (cJ sg1 (cJ sg2 (cJ si1 (cJ sst1 (cJ si2 sst2))))))))))))))) ?_
  refine⟨by simp[readSame,beqAV_self,t0,t1,t2,t7,t8,t9,wj];done,_,by simp;first | done | rfl,?_⟩
  refine vF (cJ t0 (cJ t1 (cJ t2 (cJ t7 (cJ t8 (cJ t9 wj)))))) ?_
  refine⟨jm,by omega,_,_,jm,_,rfl,rfl,by omega,by omega,by simp[t0],by simp[t1],by simp[t2],by simp[t7],by simp[t8],by simp,kd'.swap j jm,?_⟩
  have:=I.step ltS_ok haj' hjm (by omega) (by rw[p2.len];omega) (by rw[←hjm'];exact ql)
  rw[←hjm']at this;exact this
 clear t0 t1 t2 t7 t8 k2 I2 k1 p2
 rintro e s ⟨rfl,t,h,l3,rfl,t0,t1,t2,t7,t8,k3,p3,s3⟩
 obtain⟨R,hR⟩:∃R,R=b-i:=⟨_,rfl⟩
 have wR:IntKind.i64.wrap ((b:Int)-(i:Int))=(R:Int):=by rw[wrap64 (by omega) (by omega)];omega
 refine vF (cJ t0 (cJ t1 (cJ t2 (cJ t7 (cJ t8 wR))))) ?_
 refine W.mono (R:=fun e s=>e=.normal∧∃(t:Fm AV) (h:Hp Fm) (l3:List Tx),s=⟨t,133,h,none⟩∧tget t 0=.rs o 0 1 false n cap∧tget t 1=.int .i64 a∧tget t 2=.int .i64 b∧tget t 7=.int .i64 i∧tget t 8=.int .i64 w∧SR h0 h o J l3∧PR l l3 a b∧SortR ltB l3 a i) ?_ ?_
 ·by_cases q2:2≤R
  case neg=>
   have q2':¬(2:Int)≤R:=by omega
   refine vF (cJ t0 (cJ q2 q2')) ?_
   exact⟨rfl,_,_,l3,rfl,by simp[t0],by simp[t1],by simp[t2],by simp[t7],by simp[t8],k3,p3,s3⟩
  have q2':(2:Int)≤R:=by omega
  obtain⟨ip,hip⟩:∃ip,ip=i+1:=⟨_,rfl⟩
  have wi:IntKind.i64.wrap ((i:Int)+1)=(ip:Int):=by rw[wrap64 (by omega) (by omega)];omega
  refine vF (cJ t0 (cJ t7 (cJ q2 (cJ q2' wi)))) ?_
  refine W_loop (fun m s=>∃(t:Fm AV) (h:Hp Fm) (j:Nat) (l4:List Tx),s=⟨t,133,h,none⟩∧m=b-j∧i<j∧j≤b∧tget t 0=.rs o 0 1 false n cap∧tget t 1=.int .i64 a∧tget t 2=.int .i64 b∧tget t 7=.int .i64 i∧tget t 8=.int .i64 w∧tget t 10=.int .i64 j∧SR h0 h o J l4∧PR l l4 a b∧SortR ltB l4 a i) (b-ip)
   ⟨_,_,ip,l3,rfl,rfl,by omega,by omega,by simp[t0],by simp[t1],by simp[t2],by simp[t7],by simp[t8],by simp,k3,p3,s3⟩ ?_
  clear t0 t1 t2 t7 t8 k3 p3 s3
  rintro m s ⟨t,h,j,l4,rfl,rfl,hij,hjb,t0,t1,t2,t7,t8,t10,k4,p4,s4⟩
  have hl4:l4.length=n:=p4.len.trans hl
  by_cases q3:j<b
  case neg=>
   have q3':¬(j:Int)<b:=by omega
   refine vF (cJ t0 (cJ t2 (cJ t10 (cJ q3 q3')))) ?_
   exact⟨rfl,_,_,l4,rfl,by simp[t0],by simp[t1],by simp[t2],by simp[t7],by simp[t8],k4,p4,s4⟩
  have q3':(j:Int)<b:=by omega
  obtain⟨jm,hjm'⟩:∃jm,jm=j-1:=⟨_,rfl⟩
  have wj:IntKind.i64.wrap ((j:Int)-1)=(jm:Int):=by rw[wrap64 (by omega) (by omega)];omega
  obtain⟨jp,hjp⟩:∃jp,jp=j+1:=⟨_,rfl⟩
  have wjp:IntKind.i64.wrap ((j:Int)+1)=(jp:Int):=by rw[wrap64 (by omega) (by omega)];omega
  have x1:=ix j (by omega)
  have x2:=ix jm (by omega)
  have g1:=getS1 (J:=J) (l:=l4) (i:=j) (by omega)
  have g2:=getS1 (J:=J) (l:=l4) (i:=jm) (by omega)
  have gr:=k4.row;(try dsimp only [Hp.drew]at gr)
  refine vF (cJ t0 (cJ t2 (cJ t10 (cJ q3 q3')))) ?_
  (with_reducible refine W_draw_id (pln:=true) [0,1,2,3,4,5,6,7,8,9,10] [(3,(3,[])),(8,(8,[]))] (by kernel_rfl) rfl ?_)
  refine vF (cJ t0 (cJ t1 (cJ t2 (cJ t7 (cJ t8 (cJ t10 (cJ wj (cJ x1 (cJ x2 (cJ g1 (cJ g2 gr))))))))))) ?_
  have kd:=k4.drew
  refine A.mono (less_ans (gt l4 j) (gt l4 jm) _) ?_
  rintro _ hls ⟨rfl,els⟩
  have kd':=kd.he els
  refine vP ?_
  by_cases ql:ltB (gt l4 j) (gt l4 jm)=true
  case neg=>
   have ql':ltB (gt l4 j) (gt l4 jm)=false:=by simpa using ql
   refine vF (cJ t0 ql') ?_
   refine⟨by simp[readSame,beqAV_self,t0];done,_,by simp;first | done | rfl,?_⟩
   refine vF (cJ t0 (cJ t1 (cJ t2 (cJ t7 (cJ t8 ql'))))) ?_
   exact⟨rfl,_,_,l4,rfl,by simp[t0],by simp[t1],by simp[t2],by simp[t7],by simp[t8],kd',p4,s4⟩
  refine vF (cJ t0 ql) ?_
  refine⟨by simp[readSame,beqAV_self,t0];done,_,by simp;first | done | rfl,?_⟩
  refine vF (cJ t0 ql) ?_
  have sg1:=getS1 (J:=J) (l:=l4) (i:=j) (by omega)
  have sg2:=getS1 (J:=J) (l:=l4) (i:=jm) (by omega)
  have si1:=lenS1 (J:=J) (l:=l4) (i:=j) (by omega)
  have sst1:=setS1 (J:=J) (l:=l4) (i:=j) (gt l4 jm) (by omega)
  have si2:=lenS1 (J:=J) (l:=l4.set j (gt l4 jm)) (i:=jm) (by simp;omega)
  have sst2:=setS1 (J:=J) (l:=l4.set j (gt l4 jm)) (i:=jm) (gt l4 j) (by simp;omega)
  have sgr:=kd'.row;(try dsimp only [Hp.drew]at sgr)
  have sx1:=ix j (by omega)
  have sx2:=ix jm (by omega)
  (with_reducible refine W_draw_id (pln:=true) [0,1,2,3,4,5,6,7,8,9,10,11,12,13,14,15,16,17] [(9,(9,[])),(13,(13,[]))] (by kernel_rfl) rfl ?_)
  refine vF (cJ t0 (cJ t1 (cJ t2 (cJ t7 (cJ t8 (cJ t10 (cJ wj (cJ sx1 (cJ sx2 (cJ sgr (cJ sg1 (cJ sg2 (cJ si1 (cJ sst1 (cJ si2 sst2))))))))))))))) ?_
  refine⟨by simp[readSame,beqAV_self,t0,t1,t2,t7,t8,t10,wj];done,_,by simp;first | done | rfl,?_⟩
  refine vF (cJ t0 (cJ t1 (cJ t2 (cJ t7 (cJ t8 (cJ t10 (cJ wj wjp))))))) ?_
  refine⟨b-jp,by omega,_,_,jp,_,rfl,rfl,by omega,by omega,by simp[t0],by simp[t1],by simp[t2],by simp[t7],by simp[t8],by simp,kd'.swap j jm,?_,?_⟩
  ·exact p4.trans (PR.sw (by omega) (by omega) (by omega) (by omega) (by omega))
  ·exact s4.same fun k h1 h2=>by rw[gt_sw (by omega) (by omega),if_neg (by omega),if_neg (by omega)]
 clear t0 t1 t2 t7 t8 k3 p3 s3
 rintro e s ⟨rfl,t,h,l3,rfl,t0,t1,t2,t7,t8,k3,p3,s3⟩
 refine vF (cJ t0 (cJ t1 (cJ t2 (cJ t7 (cJ t8 ww))))) ?_
 exact⟨(5-(w+1)).toNat,by omega,_,_,w+1,i,l3,rfl,rfl,by omega,by omega,by simp[t0],by simp[t1],by simp[t2],by simp[t7],by simp,hai,hib,k3,p3,s3⟩
end Go.Vn
