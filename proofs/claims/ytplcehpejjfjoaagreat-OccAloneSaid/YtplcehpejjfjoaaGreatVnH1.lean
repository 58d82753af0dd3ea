/- What functions of the program come to, in the value machine (a part of the proof of the claim's statement). No condition. -/
import Derived.Test.YtplcehpejjfjoaaGreatVnG1
import Derived.Test.YtplcehpejjfjoaaGreatVnG2
set_option linter.unusedSimpArgs false
set_option linter.unusedVariables false
set_option maxRecDepth 20000
namespace Go.Vn
open Go.Proofs
abbrev Tx:Type:=List UInt8
theorem encS:EncOk AV.str 1 false:=⟨fun _=>.inr ⟨rfl,rfl,rfl,rfl⟩,fun _=>rfl,by omega⟩
theorem ltS_ok:LtOk ltB:=by
 have hc:∀x y:Tx,(ltB y x=false)↔cmpS x y≤0:=fun x y=>by
  have h:=cmpS_lt y x
  have h2:=cmpS_anti x y
  constructor
  ·intro q
   have:¬cmpS y x<0:=fun z=>by rw[h.mp z]at q;cases q
   omega
  ·intro q
   cases hb:ltB y x with
   | false=>rfl
   | true=>have:=h.mpr hb;omega
 refine⟨fun x=>(hc x x).mpr (by have:=cmpS_anti x x;omega),fun x y z h k=>(hc x z).mpr (cmpS_ok.tr x y z ((hc x y).mp h) ((hc y z).mp k)),fun x y h=>(hc x y).mpr (by have:=(cmpS_lt x y).mpr h;omega)⟩
theorem getS1{l:List Tx}{J:List AV}{i:Nat}(h:i<l.length):partAV false 1 (clsE AV.str l++J) i=some (.str (gt l i)):=by have:=getS encS (J:=J) h;rwa [Nat.mul_one]at this
theorem setS1{l:List Tx}{J:List AV}{i:Nat}(x:Tx)(h:i<l.length):splice (clsE AV.str l++J) i [.str x]=clsE AV.str (l.set i x)++J:=by have:=setS encS (J:=J) x h;rwa [Nat.mul_one]at this
theorem lenS1{l:List Tx}{J:List AV}{i:Nat}(h:i<l.length):i+1≤(clsE AV.str l).length+J.length:=by have:=lenS encS (J:=J) h;rwa [Nat.mul_one]at this
abbrev SR(h0 h:Hp Fm)(o:Nat)(J:List AV)(l:List Tx):Prop:=SRow AV.str h0 h o J l
theorem ixS(o n cap:Nat):∀i:Nat,i<n→indexAddrAV Tryz.prog 113 (.rs o 0 1 false n cap) (.int .i64 (i:Int))=some (.ptr o i):=fun i hi=>by
 rw[index_rs Tryz.underlying113 z9 (by omega) (by omega),Int.toNat_natCast,Nat.mul_one]
theorem less_ans(x y:Tx)(h0:Hp Fm):A Tryz.prog TT (.func 131) [.str x,.str y] h0 (fun r h'=>r=.bool (ltB x y)∧HE h0 h'):=by
 have e1:eqB x x=true:=by rw[eqB_dec];simp
 have e2:eqB y y=true:=by rw[eqB_dec];simp
 have nan:∀x:Tx,A Tryz.prog TT (.func 146) [.str x] h0 (fun r h'=>r=.bool false∧h'=h0):=fun x=>by
  have e1:eqB x x=true:=by rw[eqB_dec];simp
  apply A_go Tryz.func146 rfl (by rfl);(case hn=>(simp[Tryz.ntmps146];rfl))
  refine vF e1 ?_
  (first | apply endW_r | apply endW_n);(case h1=>(simp[Tryz.results146];first | done | rfl))
  exact⟨rfl,rfl⟩
 apply A_go Tryz.func131 rfl (by rfl);(case hn=>(simp[Tryz.ntmps131];rfl))
 refine vZ ?_
 refine A.mono (nan x) ?_
 rintro _ _ ⟨rfl,rfl⟩
 refine vP ?_
 cases q:ltB x y with
 | false=>
  refine vF q ?_
  (first | apply endW_r | apply endW_n);(case h1=>(simp[Tryz.results131];first | done | rfl))
  exact⟨rfl,HE.refl _⟩
 | true=>
  refine vF q ?_
  (first | apply endW_r | apply endW_n);(case h1=>(simp[Tryz.results131];first | done | rfl))
  exact⟨rfl,HE.refl _⟩
set_option maxHeartbeats 2000000 in
theorem insertion_ans(o n cap:Nat)(J:List AV)(l:List Tx)(hl:l.length=n)(hn:n≤1000000)(a b:Nat)(hab:a≤b)(hbn:b≤n)(h0:Hp Fm)(k0:SR h0 h0 o J l) :
  A Tryz.prog TT (.func 125) [.rs o 0 1 false n cap,.int .i64 a,.int .i64 b] h0 (fun _ h'=>∃l',SR h0 h' o J l'∧PR l l' a b∧SortR ltB l' a b):=by
 have wa:IntKind.i64.wrap ((a:Int)+1)=((a+1:Nat):Int):=by rw[wrap64 (by omega) (by omega)];simp
 have ix:=ixS o n cap
 apply A_go Tryz.func125 rfl (by rfl);(case hn=>(simp[Tryz.ntmps125];rfl))
 refine vF wa ?_
 refine W_loop (fun m s=>∃(t:Fm AV) (h:Hp Fm) (i:Nat) (l1:List Tx),s=⟨t,49,h,none⟩∧m=n+1-i∧a+1≤i∧i≤n+1∧tget t 0=.rs o 0 1 false n cap∧tget t 1=.int .i64 a∧tget t 2=.int .i64 b∧tget t 6=.int .i64 i∧SR h0 h o J l1∧PR l l1 a b∧SortR ltB l1 a i) (n+1-(a+1))
  ⟨_,_,a+1,l,rfl,rfl,by omega,by omega,by simp,by simp,by simp,by simp,k0,PR.refl _ _ _,SortR.short (by omega)⟩ ?_
 rintro m s ⟨t,h,i,l1,rfl,rfl,hi1,hin,t0,t1,t2,t6,k1,p1,s1⟩
 by_cases qi:i<b
 case neg=>
  have qn:¬((i:Int)<b):=by omega
  refine vF (cJ t0 (cJ t1 (cJ t2 (cJ t6 (cJ qi qn))))) ?_
  (first | apply endW_r | apply endW_n);(case h1=>(simp[Tryz.results125];first | done | rfl))
  exact⟨l1,k1,p1,fun p q h1 h2 h3=>s1 p q h1 h2 (by omega)⟩
 have qi':((i:Int)<b):=by omega
 have w1:IntKind.i64.wrap ((i:Int)+1)=((i+1:Nat):Int):=by rw[wrap64 (by omega) (by omega)];simp
 refine vF (cJ t0 (cJ t1 (cJ t2 (cJ t6 (cJ qi qi'))))) ?_
 refine W_loop (fun j s=>∃(t:Fm AV) (h:Hp Fm) (l2:List Tx),s=⟨t,49,h,none⟩∧a≤j∧j≤i∧tget t 0=.rs o 0 1 false n cap∧tget t 1=.int .i64 a∧tget t 2=.int .i64 b∧tget t 6=.int .i64 i∧tget t 7=.int .i64 j∧SR h0 h o J l2∧Ins ltB l l2 a b i j) i
  ⟨_,_,l1,rfl,by omega,Nat.le_refl _,by simp[t0],by simp[t1],by simp[t2],by simp[t6],by simp,k1,⟨p1,fun p q h1 h2 h3 h4 h5=>s1 p q h1 h2 (by omega),fun q h1 h2=>by omega⟩⟩ ?_
 clear t0 t1 t2 t6 k1 p1 s1 t h l1
 rintro j s ⟨t,h,l2,rfl,haj,hj,t0,t1,t2,t6,t7,k2,I⟩
 have hl2:l2.length=n:=by rw[I.pr.len,hl]
 by_cases qp:a<j
 case neg=>
  have qz:¬((a:Int)<j):=by omega
  refine vF (cJ t0 (cJ t1 (cJ t2 (cJ t6 (cJ t7 (cJ qp qz)))))) ?_
  (with_reducible refine W_draw_id (pln:=true) [0,1,2,3,4,5,6,7,8,9,10,11,12,13,14] [(7,(7,[])),(12,(12,[]))] (by kernel_rfl) rfl ?_)
  refine vF (cJ t0 (cJ t1 (cJ t2 (cJ t6 (cJ t7 (cJ qp qz)))))) ?_
  refine⟨by simp[readSame,beqAV_self,t0];done,_,by simp;first | done | rfl,?_⟩
  refine vF (cJ t0 (cJ t1 (cJ t2 (cJ t6 (cJ t7 w1))))) ?_
  refine⟨n+1-(i+1),by omega,_,_,i+1,l2,rfl,rfl,by omega,by omega,by simp[t0],by simp[t1],by simp[t2],by simp,k2.drew,I.pr,fun p q h1 h2 h3=>I.done ltS_ok (by omega) (fun z=>absurd z qp) p q h1 h2 (by omega)⟩
 have qp':((a:Int)<j):=by omega
 obtain⟨jm,hjm⟩:∃jm,jm=j-1:=⟨_,rfl⟩
 have w2:IntKind.i64.wrap ((j:Int)-1)=(jm:Int):=by rw[wrap64 (by omega) (by omega)];omega
 have ix1:=ix j (by omega)
 have ix2:=ix jm (by omega)
 have g1:=getS1 (J:=J) (l:=l2) (i:=j) (by omega)
 have g2:=getS1 (J:=J) (l:=l2) (i:=jm) (by omega)
 have gr:=k2.row
 refine vF (cJ t0 (cJ t1 (cJ t2 (cJ t6 (cJ t7 (cJ qp qp')))))) ?_
 (with_reducible refine W_draw_id (pln:=true) [0,1,2,3,4,5,6,7,8,9,10,11,12,13,14] [(7,(7,[])),(12,(12,[]))] (by kernel_rfl) rfl ?_)
 refine vF (cJ t0 (cJ t1 (cJ t2 (cJ t6 (cJ t7 (cJ qp (cJ qp' (cJ w2 (cJ ix1 (cJ ix2 (cJ gr (cJ g1 g2)))))))))))) ?_
 have k3:=k2.drew
 refine A.mono (less_ans (gt l2 j) (gt l2 jm) _) ?_
 rintro _ hls ⟨rfl,els⟩
 have k3':=k3.he els
 refine vP ?_
 by_cases ql:ltB (gt l2 j) (gt l2 jm)=true
 case neg=>
  have ql':ltB (gt l2 j) (gt l2 jm)=false:=by simpa using ql
  refine vF (cJ t0 (cJ t1 (cJ t2 (cJ t6 (cJ t7 ql'))))) ?_
  refine⟨by simp[readSame,beqAV_self,t0];done,_,by simp;first | done | rfl,?_⟩
  refine vF (cJ t0 (cJ t1 (cJ t2 (cJ t6 (cJ t7 (cJ ql' w1)))))) ?_
  refine⟨n+1-(i+1),by omega,_,_,i+1,l2,rfl,rfl,by omega,by omega,by simp[t0],by simp[t1],by simp[t2],by simp,k3',I.pr,fun p q h1 h2 h3=>I.done ltS_ok (by omega) (fun _=>by rw[←hjm];exact ql') p q h1 h2 (by omega)⟩
 refine vF (cJ t0 (cJ t1 (cJ t2 (cJ t6 (cJ t7 ql))))) ?_
 refine⟨by simp[readSame,beqAV_self,t0];done,_,by simp;first | done | rfl,?_⟩
 refine vF (cJ t0 (cJ t1 (cJ t2 (cJ t6 (cJ t7 ql))))) ?_
 have sg1:=getS1 (J:=J) (l:=l2) (i:=j) (by omega)
 have sg2:=getS1 (J:=J) (l:=l2) (i:=jm) (by omega)
 have si1:=lenS1 (J:=J) (l:=l2) (i:=j) (by omega)
 have sst1:=setS1 (J:=J) (l:=l2) (i:=j) (gt l2 jm) (by omega)
 have si2:=lenS1 (J:=J) (l:=l2.set j (gt l2 jm)) (i:=jm) (by simp;omega)
 have sst2:=setS1 (J:=J) (l:=l2.set j (gt l2 jm)) (i:=jm) (gt l2 j) (by simp;omega)
 have sgr:=k3'.row;(try dsimp only [Hp.drew]at sgr)
 have sx1:=ix j (by omega)
 have sx2:=ix jm (by omega)
 (with_reducible refine W_draw_id (pln:=true) [0,1,2,3,4,5,6,7,8,9,10,11,12,13,14,15,16,17] [(9,(9,[])),(13,(13,[]))] (by kernel_rfl) rfl ?_)
 refine vF (cJ t0 (cJ t1 (cJ t2 (cJ t6 (cJ t7 (cJ w2 (cJ sx1 (cJ sx2 (cJ sgr (cJ sg1 (cJ sg2 (cJ si1 (cJ sst1 (cJ si2 sst2)))))))))))))) ?_
 refine⟨by simp[readSame,beqAV_self,t0,t1,t2,t6,t7,w2];done,_,by simp;first | done | rfl,?_⟩
 refine vF (cJ t0 (cJ t1 (cJ t2 (cJ t6 (cJ t7 w2))))) ?_
 refine⟨jm,by omega,_,_,sw l2 j jm,rfl,by omega,by omega,by simp[t0],by simp[t1],by simp[t2],by simp[t6],by simp,k3'.swap j jm,?_⟩
 have:=I.step ltS_ok qp hj qi (by omega) (by rw[←hjm];exact ql)
 rw[←hjm]at this;exact this
end Go.Vn

set_option maxRecDepth 20000
namespace Go.Vn
open Go.Proofs
theorem wrap8{n:Int}(h0:0≤n)(h1:n<256):IntKind.u8.wrap n=n:=by
 simp only[IntKind.wrap,IntKind.signed,IntKind.bits]
 simp
 omega
theorem ixStr(l:List UInt8)(k:IntKind)(i:Nat)(h:i<l.length):indexAV Tryz.prog 9 (.str l) (.int k (i:Int))=some (byteAV (l.getD i 0)):=by
 unfold indexAV
 simp[h]
def tabOk(s:ByteArray):Bool:=(List.range 256).all fun n=>n == 0 || decide (2 ^ (s.data.toList.getD n 0).toNat≤2*n)
theorem tabOk_at{s:ByteArray}(h:tabOk s=true){n:Nat}(h1:n<256)(h0:0<n):2 ^ (s.data.toList.getD n 0).toNat≤2*n:=by
 have:=List.all_eq_true.mp h n (List.mem_range.mpr h1)
 simp at this
 rcases this with h | h
 ·omega
 ·simpa using h
theorem WO_tab_i{T:Tab}{ops:Array Oper}{o:Oper}{rest:List Oper}{st:St Fm}{Q:St Fm→Prop}{s:ByteArray}{x:Operand}{k:IntKind}{n:Nat}(hw:want ops st.t o=some true)(ho:o.op=.index 9 (.const (.string s)) x)(hi:ev st.t x=.int k (n:Int))(hn:n<s.data.toList.length)
  (htab:tabOk s=true) (hn2:n<256)
  (h:∀b:UInt8,(0<n→2 ^ b.toNat≤2*n)→∃s',put { st with h:=st.h } o.dst (byteAV b)=some s'∧WO Tryz.prog T ops rest s' Q):WO Tryz.prog T ops (o::rest) st Q:=by
 obtain⟨s',h1,h2⟩:=h (s.data.toList.getD n 0) (fun h0=>tabOk_at htab hn2 h0)
 refine WO_val_i (v:=byteAV (s.data.toList.getD n 0)) (h':=st.h) hw ?_ h1 h2
 have e:ev st.t (.const (.string s))=.str s.data.toList:=rfl
 simp only[opEff,ho,hi,e,ixStr _ k n hn,vals,Option.map_some]
theorem vDm75{F G K:Prop}(f:F)(k:K)(h:F→K→G:=by intro f k;(repeat(first|with_reducible first|refine vmR ?_|refine vmV rfl ?_|refine vmW rfl ?_|refine vmL ?_|refine blockW_y (by decide) ?_|((with_reducible first|apply vmO|apply vmT|apply vmC);case a=>simp[f,shiftBin];with_reducible first|exact .v|exact .c|exact .t|exact .f)));exact k):G:=h f k
theorem vDm76{F G K:Prop}(f:F)(k:K)(h:F→K→G:=by intro f k;(repeat(first|with_reducible first|refine vmR ?_|refine vmV rfl ?_|refine vmW rfl ?_|refine vmL ?_|refine blockW_y (by decide) ?_|((with_reducible first|apply vmO|apply vmT|apply vmC);case a=>simp[f,byteAV];with_reducible first|exact .v|exact .c|exact .t|exact .f)));exact k):G:=h f k
theorem len64_ans(n:Nat)(hn:n<65536)(h0:Hp Fm):A Tryz.prog TT (.func 135) [.int .u64 n] h0 (fun r h'=>∃v:Int,r=.int .i64 v∧0≤v∧v≤1000∧(0<n→2 ^ v.toNat≤2*n)∧h'=h0):=by
 have g1:¬((4294967296:Int)≤n):=by omega
 have g2:¬((65536:Int)≤n):=by omega
 have w8:∀b:UInt8,IntKind.i64.wrap ((b.toNat:Nat):Int)=((b.toNat:Nat):Int):=fun b=>by have:=b.toNat_lt;exact wrap64 (by omega) (by omega)
 have w9:∀b:UInt8,IntKind.i64.wrap (8+((b.toNat:Nat):Int))=8+((b.toNat:Nat):Int):=fun b=>by have:=b.toNat_lt;exact wrap64 (by omega) (by omega)
 by_cases q:256≤n
 ·have q':(256:Int)≤n:=by omega
  obtain⟨m,hm⟩:∃m,m=n / 256:=⟨_,rfl⟩
  have f1:Int.fdiv (n:Int) (2 ^ min 8 IntKind.u64.bits)=(m:Int):=by
   have e:(2 ^ min 8 IntKind.u64.bits:Int)=((256:Nat):Int):=by decide
   rw[e,Int.fdiv_eq_ediv_of_nonneg _ (by omega),hm];omega
  have f2:IntKind.u8.wrap (m:Int)=(m:Int):=by
   exact wrap8 (by omega) (by omega)
  apply A_go Tryz.func135 rfl (by rfl);(case hn=>(simp[Tryz.ntmps135];rfl))
  refine vDm75 (cJ g1 (cJ g2 (cJ q (cJ q' (cJ f1 f2))))) ?_
  refine WO_tab_i (k:=.u8) (n:=m) (by simp) rfl (by simp) (by show m<256;omega) (by kernel_rfl) (by omega) fun b hb2=>?_
  have hb:=b.toNat_lt
  refine vP ?_
  refine vDm76 (cJ w8 w9) ?_
  (first | apply endW_r | apply endW_n);(case h1=>(simp[Tryz.results135];first | done | rfl))
  refine⟨_,rfl,by omega,by omega,fun _=>?_,rfl⟩
  have e:(8+((b.toNat:Nat):Int)).toNat=8+b.toNat:=by omega
  rw[e,Nat.pow_add]
  have:=hb2 (by omega)
  have e8:2 ^ 8=256:=by rfl
  rw[e8]
  omega
 ·have q':¬(256:Int)≤n:=by omega
  have f2:IntKind.u8.wrap (n:Int)=(n:Int):=wrap8 (by omega) (by omega)
  apply A_go Tryz.func135 rfl (by rfl);(case hn=>(simp[Tryz.ntmps135];rfl))
  refine vDm75 (cJ g1 (cJ g2 (cJ q (cJ q' f2)))) ?_
  refine WO_tab_i (k:=.u8) (n:=n) (by simp) rfl (by simp) (by show n<256;omega) (by kernel_rfl) (by omega) fun b hb2=>?_
  have hb:=b.toNat_lt
  refine vP ?_
  refine vDm76 w8 ?_
  (first | apply endW_r | apply endW_n);(case h1=>(simp[Tryz.results135];first | done | rfl))
  refine⟨_,rfl,by omega,by omega,fun z=>?_,rfl⟩
  have e:(((b.toNat:Nat):Int)).toNat=b.toNat:=by omega
  rw[e];exact hb2 z
theorem bitslen_ans(n:Nat)(hn:n<65536)(h0:Hp Fm):A Tryz.prog TT (.func 112) [.int .u64 n] h0 (fun r h'=>∃v:Int,r=.int .i64 v∧0≤v∧v≤1000∧(0<n→2 ^ v.toNat≤2*n)∧h'=h0):=by
 apply A_go Tryz.func112 rfl (by rfl);(case hn=>(simp[Tryz.ntmps112];rfl))
 refine vZ ?_
 refine A.mono (len64_ans n hn h0) ?_
 rintro _ _ ⟨v,rfl,v1,v2,v3,rfl⟩
 refine vP ?_
 refine vZ ?_
 (first | apply endW_r | apply endW_n);(case h1=>(simp[Tryz.results112];first | done | rfl))
 exact⟨v,rfl,v1,v2,v3,rfl⟩
end Go.Vn

set_option maxRecDepth 20000
namespace Go.Vn
open Go.Proofs
set_option maxHeartbeats 2000000 in
theorem sift_ans(o n cap:Nat)(J:List AV)(l:List Tx)(hl:l.length=n)(hn:n≤1000000)(f lo hi:Nat)(hlo:lo≤n)(hf:f+hi≤n)(h0:Hp Fm)(k0:SR h0 h0 o J l)(hp:HPr ltB l f (lo+1) hi) :
  A Tryz.prog TT (.func 141) [.rs o 0 1 false n cap,.int .i64 lo,.int .i64 hi,.int .i64 f] h0 (fun _ h'=>∃l',SR h0 h' o J l'∧PR l l' (f+lo) (f+hi)∧HPr ltB l' f lo hi):=by
 have ix:=ixS o n cap
 apply A_go Tryz.func141 rfl (by rfl);(case hn=>(simp[Tryz.ntmps141];rfl))
 refine vZ ?_
 refine W_loop (fun m s=>∃(t:Fm AV) (h:Hp Fm) (r:Nat) (l1:List Tx),s=⟨t,76,h,none⟩∧m=n+1-r∧r≤n∧tget t 0=.rs o 0 1 false n cap∧tget t 1=.int .i64 lo∧tget t 2=.int .i64 hi∧tget t 3=.int .i64 f∧tget t 8=.int .i64 r∧SR h0 h o J l1∧SDn ltB l l1 f lo hi r) (n+1-lo)
  ⟨_,_,lo,l,rfl,rfl,hlo,by simp,by simp,by simp,by simp,by simp,k0,SDn.start hp⟩ ?_
 rintro m s ⟨t,h,r,l1,rfl,rfl,hrn,t0,t1,t2,t3,t8,k1,S⟩
 have hl1:l1.length=n:=by rw[S.pr.len,hl]
 have slr:=S.lr
 obtain⟨r2,hr2⟩:∃r2,r2=2*r:=⟨_,rfl⟩
 have w1:IntKind.i64.wrap (2*(r:Int))=(r2:Int):=by rw[wrap64 (by omega) (by omega)];omega
 obtain⟨c,hc⟩:∃c,c=r2+1:=⟨_,rfl⟩
 have w2:IntKind.i64.wrap ((r2:Int)+1)=(c:Int):=by rw[wrap64 (by omega) (by omega)];omega
 by_cases q1:hi≤c
 case pos=>
  have q1':(hi:Int)≤c:=by omega
  refine vF (cJ t0 (cJ t1 (cJ t2 (cJ t3 (cJ t8 (cJ w1 (cJ w2 (cJ q1 q1')))))))) ?_
  (first | apply endW_r | apply endW_n);(case h1=>(simp[Tryz.results141];first | done | rfl))
  exact⟨l1,k1,S.pr,S.leaf (by omega)⟩
 have q1':¬(hi:Int)≤c:=by omega
 refine vF (cJ t0 (cJ t1 (cJ t2 (cJ t3 (cJ t8 (cJ w1 (cJ w2 (cJ q1 q1')))))))) ?_
 obtain⟨c1,hc1⟩:∃c1,c1=c+1:=⟨_,rfl⟩
 have w3:IntKind.i64.wrap ((c:Int)+1)=(c1:Int):=by rw[wrap64 (by omega) (by omega)];omega
 by_cases q2:c1<hi
 case neg=>
  have q2':¬(c1:Int)<hi:=by omega
  (with_reducible refine W_draw_id (pln:=true) [0,1,2,3,4,5,6,7,8,9,10,11,12,13,14,15,16,17,18,19] [(10,(10,[])),(17,(17,[]))] (by kernel_rfl) rfl ?_)
  refine vF (cJ t0 (cJ t1 (cJ t2 (cJ t3 (cJ t8 (cJ w3 (cJ q2 q2'))))))) ?_
  refine⟨by simp[readSame,beqAV_self,t0];done,_,by simp;first | done | rfl,?_⟩
  refine vF (cJ t0 (cJ t1 (cJ t2 (cJ t3 t8)))) ?_
  have k1d:=k1.drew
  have hm:∀x,(x=2*r+1∨x=2*r+2)→x<hi→Le ltB (gt l1 (f+x)) (gt l1 (f+c)):=by
   intro x h1 h2;(have:x=c:=by omega);subst this;exact ltS_ok.rf _
  obtain⟨fr,hfr⟩:∃fr,fr=f+r:=⟨_,rfl⟩
  obtain⟨fm,hfm⟩:∃fm,fm=f+c:=⟨_,rfl⟩
  have wfr:IntKind.i64.wrap ((f:Int)+(r:Int))=(fr:Int):=by rw[wrap64 (by omega) (by omega)];omega
  have wfm:IntKind.i64.wrap ((f:Int)+(c:Int))=(fm:Int):=by rw[wrap64 (by omega) (by omega)];omega
  have yx1:=ix fr (by omega)
  have yx2:=ix fm (by omega)
  have yg1:=getS1 (J:=J) (l:=l1) (i:=fr) (by omega)
  have yg2:=getS1 (J:=J) (l:=l1) (i:=fm) (by omega)
  have ygr:=k1d.row;(try dsimp only [Hp.drew]at ygr)
  (with_reducible refine W_draw_id (pln:=true) [0,1,2,3,4,5,6,7,8,9,10,11,12,13] [(5,(5,[])),(11,(11,[]))] (by kernel_rfl) rfl ?_)
  refine vF (cJ t0 (cJ t1 (cJ t2 (cJ t3 (cJ t8 (cJ wfr (cJ wfm (cJ yx1 (cJ yx2 (cJ yg1 (cJ yg2 ygr))))))))))) ?_
  have kd:=k1d.drew
  refine A.mono (less_ans (gt l1 fr) (gt l1 fm) _) ?_
  rintro _ hls ⟨rfl,els⟩
  have kd':=kd.he els
  refine vP ?_
  by_cases q5:ltB (gt l1 fr) (gt l1 fm)=true
  case neg=>
   have q5':ltB (gt l1 fr) (gt l1 fm)=false:=by simpa using q5
   refine vF (cJ t0 q5') ?_
   refine⟨by simp[readSame,beqAV_self,t0];done,_,by simp;first | done | rfl,?_⟩
   refine vF (cJ t0 q5') ?_
   (first | apply endW_r | apply endW_n);(case h1=>(simp[Tryz.results141];first | done | rfl))
   exact⟨l1,kd',S.pr,S.stop ltS_ok (m:=c) hm (by rw[←hfm,←hfr];exact q5')⟩
  refine vF (cJ t0 q5) ?_
  refine⟨by simp[readSame,beqAV_self,t0];done,_,by simp;first | done | rfl,?_⟩
  refine vF (cJ t0 q5) ?_
  have sg1:=getS1 (J:=J) (l:=l1) (i:=fr) (by omega)
  have sg2:=getS1 (J:=J) (l:=l1) (i:=fm) (by omega)
  have si1:=lenS1 (J:=J) (l:=l1) (i:=fr) (by omega)
  have sst1:=setS1 (J:=J) (l:=l1) (i:=fr) (gt l1 fm) (by omega)
  have si2:=lenS1 (J:=J) (l:=l1.set fr (gt l1 fm)) (i:=fm) (by simp;omega)
  have sst2:=setS1 (J:=J) (l:=l1.set fr (gt l1 fm)) (i:=fm) (gt l1 fr) (by simp;omega)
  have sgr:=kd'.row;(try dsimp only [Hp.drew]at sgr)
  have sx1:=ix fr (by omega)
  have sx2:=ix fm (by omega)
  (with_reducible refine W_draw_id (pln:=true) [0,1,2,3,4,5,6,7,8,9,10,11,12,13,14,15,16,17,18,19,20,21,22,23] [(13,(13,[])),(19,(19,[]))] (by kernel_rfl) rfl ?_)
  refine vF (cJ t0 (cJ t1 (cJ t2 (cJ t3 (cJ t8 (cJ wfr (cJ wfm (cJ sx1 (cJ sx2 (cJ sgr (cJ sg1 (cJ sg2 (cJ si1 (cJ sst1 (cJ si2 sst2))))))))))))))) ?_
  refine⟨by simp[readSame,beqAV_self,t0,t1,t2,t3,t8,wfr,wfm];done,_,by simp;first | done | rfl,?_⟩
  refine vF (cJ t0 (cJ t1 (cJ t2 (cJ t3 t8)))) ?_
  refine⟨n+1-c,by omega,_,_,c,sw l1 fr fm,rfl,rfl,by omega,by simp[t0],by simp[t1],by simp[t2],by simp[t3],by simp,kd'.swap fr fm,?_⟩
  rw[hfr,hfm]
  exact S.down ltS_ok (by omega) (by omega) (by omega) hm (ltS_ok.le (by rw[←hfr,←hfm];exact q5))
 have q2':(c1:Int)<hi:=by omega
 obtain⟨fc,hfc⟩:∃fc,fc=f+c:=⟨_,rfl⟩
 obtain⟨fc1,hfc1⟩:∃fc1,fc1=fc+1:=⟨_,rfl⟩
 have wc:IntKind.i64.wrap ((f:Int)+(c:Int))=(fc:Int):=by rw[wrap64 (by omega) (by omega)];omega
 have wc1:IntKind.i64.wrap ((fc:Int)+1)=(fc1:Int):=by rw[wrap64 (by omega) (by omega)];omega
 have zx1:=ix fc (by omega)
 have zx2:=ix fc1 (by omega)
 have zg1:=getS1 (J:=J) (l:=l1) (i:=fc) (by omega)
 have zg2:=getS1 (J:=J) (l:=l1) (i:=fc1) (by omega)
 have zgr:=k1.row
 (with_reducible refine W_draw_id (pln:=true) [0,1,2,3,4,5,6,7,8,9,10,11,12,13,14,15,16,17,18,19] [(10,(10,[])),(17,(17,[]))] (by kernel_rfl) rfl ?_)
 refine vF (cJ t0 (cJ t1 (cJ t2 (cJ t3 (cJ t8 (cJ w3 (cJ q2 (cJ q2' (cJ wc (cJ wc1 (cJ zx1 (cJ zx2 (cJ zg1 (cJ zg2 zgr)))))))))))))) ?_
 have k1d:=k1.drew
 refine A.mono (less_ans (gt l1 fc) (gt l1 fc1) _) ?_
 rintro _ hls ⟨rfl,els⟩
 have k1d':=k1d.he els
 refine vP ?_
 by_cases q3:ltB (gt l1 fc) (gt l1 fc1)=true
 ·refine vF (cJ t0 q3) ?_
  refine⟨by simp[readSame,beqAV_self,t0];done,_,by simp;first | done | rfl,?_⟩
  refine vF (cJ t0 (cJ t1 (cJ t2 (cJ t3 (cJ t8 (cJ w3 q3)))))) ?_
  have hm:∀x,(x=2*r+1∨x=2*r+2)→x<hi→Le ltB (gt l1 (f+x)) (gt l1 (f+c1)):=by
   intro x h1 h2;(rcases (show x=c∨x=c1 by omega)with h3 | h3);(case inl=>(rw[h3,←hfc,show f+c1=fc1 by omega];exact ltS_ok.le q3));(case inr=>(rw[h3];exact ltS_ok.rf _))
  obtain⟨fr,hfr⟩:∃fr,fr=f+r:=⟨_,rfl⟩
  obtain⟨fm,hfm⟩:∃fm,fm=f+c1:=⟨_,rfl⟩
  have wfr:IntKind.i64.wrap ((f:Int)+(r:Int))=(fr:Int):=by rw[wrap64 (by omega) (by omega)];omega
  have wfm:IntKind.i64.wrap ((f:Int)+(c1:Int))=(fm:Int):=by rw[wrap64 (by omega) (by omega)];omega
  have yx1:=ix fr (by omega)
  have yx2:=ix fm (by omega)
  have yg1:=getS1 (J:=J) (l:=l1) (i:=fr) (by omega)
  have yg2:=getS1 (J:=J) (l:=l1) (i:=fm) (by omega)
  have ygr:=k1d'.row;(try dsimp only [Hp.drew]at ygr)
  (with_reducible refine W_draw_id (pln:=true) [0,1,2,3,4,5,6,7,8,9,10,11,12,13] [(5,(5,[])),(11,(11,[]))] (by kernel_rfl) rfl ?_)
  refine vF (cJ t0 (cJ t1 (cJ t2 (cJ t3 (cJ t8 (cJ wfr (cJ wfm (cJ yx1 (cJ yx2 (cJ yg1 (cJ yg2 ygr))))))))))) ?_
  have kd:=k1d'.drew
  refine A.mono (less_ans (gt l1 fr) (gt l1 fm) _) ?_
  rintro _ hls ⟨rfl,els⟩
  have kd':=kd.he els
  refine vP ?_
  by_cases q5:ltB (gt l1 fr) (gt l1 fm)=true
  case neg=>
   have q5':ltB (gt l1 fr) (gt l1 fm)=false:=by simpa using q5
   refine vF (cJ t0 q5') ?_
   refine⟨by simp[readSame,beqAV_self,t0];done,_,by simp;first | done | rfl,?_⟩
   refine vF (cJ t0 q5') ?_
   (first | apply endW_r | apply endW_n);(case h1=>(simp[Tryz.results141];first | done | rfl))
   exact⟨l1,kd',S.pr,S.stop ltS_ok (m:=c1) hm (by rw[←hfm,←hfr];exact q5')⟩
  refine vF (cJ t0 q5) ?_
  refine⟨by simp[readSame,beqAV_self,t0];done,_,by simp;first | done | rfl,?_⟩
  refine vF (cJ t0 q5) ?_
  have sg1:=getS1 (J:=J) (l:=l1) (i:=fr) (by omega)
  have sg2:=getS1 (J:=J) (l:=l1) (i:=fm) (by omega)
  have si1:=lenS1 (J:=J) (l:=l1) (i:=fr) (by omega)
  have sst1:=setS1 (J:=J) (l:=l1) (i:=fr) (gt l1 fm) (by omega)
  have si2:=lenS1 (J:=J) (l:=l1.set fr (gt l1 fm)) (i:=fm) (by simp;omega)
  have sst2:=setS1 (J:=J) (l:=l1.set fr (gt l1 fm)) (i:=fm) (gt l1 fr) (by simp;omega)
  have sgr:=kd'.row;(try dsimp only [Hp.drew]at sgr)
  have sx1:=ix fr (by omega)
  have sx2:=ix fm (by omega)
  (with_reducible refine W_draw_id (pln:=true) [0,1,2,3,4,5,6,7,8,9,10,11,12,13,14,15,16,17,18,19,20,21,22,23] [(13,(13,[])),(19,(19,[]))] (by kernel_rfl) rfl ?_)
  refine vF (cJ t0 (cJ t1 (cJ t2 (cJ t3 (cJ t8 (cJ wfr (cJ wfm (cJ sx1 (cJ sx2 (cJ sgr (cJ sg1 (cJ sg2 (cJ si1 (cJ sst1 (cJ si2 sst2))))))))))))))) ?_
  refine⟨by simp[readSame,beqAV_self,t0,t1,t2,t3,t8,wfr,wfm];done,_,by simp;first | done | rfl,?_⟩
  refine vF (cJ t0 (cJ t1 (cJ t2 (cJ t3 t8)))) ?_
  refine⟨n+1-c1,by omega,_,_,c1,sw l1 fr fm,rfl,rfl,by omega,by simp[t0],by simp[t1],by simp[t2],by simp[t3],by simp,kd'.swap fr fm,?_⟩
  rw[hfr,hfm]
  exact S.down ltS_ok (by omega) (by omega) (by omega) hm (ltS_ok.le (by rw[←hfr,←hfm];exact q5))
 ·have q3':ltB (gt l1 fc) (gt l1 fc1)=false:=by simpa using q3
  refine vF (cJ t0 q3') ?_
  refine⟨by simp[readSame,beqAV_self,t0];done,_,by simp;first | done | rfl,?_⟩
  refine vF (cJ t0 (cJ t1 (cJ t2 (cJ t3 (cJ t8 (cJ w3 q3')))))) ?_
  have hm:∀x,(x=2*r+1∨x=2*r+2)→x<hi→Le ltB (gt l1 (f+x)) (gt l1 (f+c)):=by
   intro x h1 h2;(rcases (show x=c∨x=c1 by omega)with h3 | h3);(case inl=>(rw[h3];exact ltS_ok.rf _));(case inr=>(rw[h3,←hfc,show f+c1=fc1 by omega];exact q3'))
  obtain⟨fr,hfr⟩:∃fr,fr=f+r:=⟨_,rfl⟩
  obtain⟨fm,hfm⟩:∃fm,fm=f+c:=⟨_,rfl⟩
  have wfr:IntKind.i64.wrap ((f:Int)+(r:Int))=(fr:Int):=by rw[wrap64 (by omega) (by omega)];omega
  have wfm:IntKind.i64.wrap ((f:Int)+(c:Int))=(fm:Int):=by rw[wrap64 (by omega) (by omega)];omega
  have yx1:=ix fr (by omega)
  have yx2:=ix fm (by omega)
  have yg1:=getS1 (J:=J) (l:=l1) (i:=fr) (by omega)
  have yg2:=getS1 (J:=J) (l:=l1) (i:=fm) (by omega)
  have ygr:=k1d'.row;(try dsimp only [Hp.drew]at ygr)
  (with_reducible refine W_draw_id (pln:=true) [0,1,2,3,4,5,6,7,8,9,10,11,12,13] [(5,(5,[])),(11,(11,[]))] (by kernel_rfl) rfl ?_)
  refine vF (cJ t0 (cJ t1 (cJ t2 (cJ t3 (cJ t8 (cJ wfr (cJ wfm (cJ yx1 (cJ yx2 (cJ yg1 (cJ yg2 ygr))))))))))) ?_
  have kd:=k1d'.drew
  refine A.mono (less_ans (gt l1 fr) (gt l1 fm) _) ?_
  rintro _ hls ⟨rfl,els⟩
  have kd':=kd.he els
  refine vP ?_
  by_cases q5:ltB (gt l1 fr) (gt l1 fm)=true
  case neg=>
   have q5':ltB (gt l1 fr) (gt l1 fm)=false:=by simpa using q5
   refine vF (cJ t0 q5') ?_
   refine⟨by simp[readSame,beqAV_self,t0];done,_,by simp;first | done | rfl,?_⟩
   refine vF (cJ t0 q5') ?_
   (first | apply endW_r | apply endW_n);(case h1=>(simp[Tryz.results141];first | done | rfl))
   exact⟨l1,kd',S.pr,S.stop ltS_ok (m:=c) hm (by rw[←hfm,←hfr];exact q5')⟩
  refine vF (cJ t0 q5) ?_
  refine⟨by simp[readSame,beqAV_self,t0];done,_,by simp;first | done | rfl,?_⟩
  refine vF (cJ t0 q5) ?_
  have sg1:=getS1 (J:=J) (l:=l1) (i:=fr) (by omega)
  have sg2:=getS1 (J:=J) (l:=l1) (i:=fm) (by omega)
  have si1:=lenS1 (J:=J) (l:=l1) (i:=fr) (by omega)
  have sst1:=setS1 (J:=J) (l:=l1) (i:=fr) (gt l1 fm) (by omega)
  have si2:=lenS1 (J:=J) (l:=l1.set fr (gt l1 fm)) (i:=fm) (by simp;omega)
  have sst2:=setS1 (J:=J) (l:=l1.set fr (gt l1 fm)) (i:=fm) (gt l1 fr) (by simp;omega)
  have sgr:=kd'.row;(try dsimp only [Hp.drew]at sgr)
  have sx1:=ix fr (by omega)
  have sx2:=ix fm (by omega)
  (with_reducible refine W_draw_id (pln:=true) [0,1,2,3,4,5,6,7,8,9,10,11,12,13,14,15,16,17,18,19,20,21,22,23] [(13,(13,[])),(19,(19,[]))] (by kernel_rfl) rfl ?_)
  refine vF (cJ t0 (cJ t1 (cJ t2 (cJ t3 (cJ t8 (cJ wfr (cJ wfm (cJ sx1 (cJ sx2 (cJ sgr (cJ sg1 (cJ sg2 (cJ si1 (cJ sst1 (cJ si2 sst2))))))))))))))) ?_
  refine⟨by simp[readSame,beqAV_self,t0,t1,t2,t3,t8,wfr,wfm];done,_,by simp;first | done | rfl,?_⟩
  refine vF (cJ t0 (cJ t1 (cJ t2 (cJ t3 t8)))) ?_
  refine⟨n+1-c,by omega,_,_,c,sw l1 fr fm,rfl,rfl,by omega,by simp[t0],by simp[t1],by simp[t2],by simp[t3],by simp,kd'.swap fr fm,?_⟩
  rw[hfr,hfm]
  exact S.down ltS_ok (by omega) (by omega) (by omega) hm (ltS_ok.le (by rw[←hfr,←hfm];exact q5))
end Go.Vn

set_option maxRecDepth 20000
namespace Go.Vn
open Go.Proofs
theorem tdiv2(n:Nat):Int.tdiv (n:Int) 2=((n / 2:Nat):Int):=by
 rw[Int.tdiv_eq_ediv_of_nonneg (by omega)];omega
set_option maxHeartbeats 2000000 in
theorem heapsort_ans(o n cap:Nat)(J:List AV)(l:List Tx)(hl:l.length=n)(hn:n≤1000000)(a b:Nat)(hab:a<b)(hbn:b≤n)(h0:Hp Fm)(k0:SR h0 h0 o J l) :
  A Tryz.prog TT (.func 126) [.rs o 0 1 false n cap,.int .i64 a,.int .i64 b] h0 (fun _ h'=>∃l',SR h0 h' o J l'∧PR l l' a b∧SortR ltB l' a b):=by
 have ix:=ixS o n cap
 obtain⟨hi,hhi⟩:∃hi,hi=b-a:=⟨_,rfl⟩
 have w1:IntKind.i64.wrap ((b:Int)-(a:Int))=(hi:Int):=by rw[wrap64 (by omega) (by omega)];omega
 obtain⟨hm,hhm⟩:∃hm,hm=hi-1:=⟨_,rfl⟩
 have w2:IntKind.i64.wrap ((hi:Int)-1)=(hm:Int):=by rw[wrap64 (by omega) (by omega)];omega
 obtain⟨i0,hi0⟩:∃i0,i0=hm / 2:=⟨_,rfl⟩
 have d3:Int.tdiv (hm:Int) 2=(i0:Int):=by rw[tdiv2,hi0]
 have w3:IntKind.i64.wrap (i0:Int)=(i0:Int):=wrap64 (by omega) (by omega)
 apply A_go Tryz.func126 rfl (by rfl);(case hn=>(simp[Tryz.ntmps126];rfl))
 refine vF (cJ w1 (cJ w2 (cJ d3 w3))) ?_
 refine W_loop (fun m s=>∃(t:Fm AV) (h:Hp Fm) (i:Int) (l1:List Tx),s=⟨t,56,h,none⟩∧(m:Int)=i+1 ∧ -1≤i∧i≤i0∧tget t 0=.rs o 0 1 false n cap∧tget t 6=.int .i64 a∧tget t 7=.int .i64 0∧tget t 8=.int .i64 hi∧tget t 9=.int .i64 i∧SR h0 h o J l1∧PR l l1 a b∧HPr ltB l1 a (i+1).toNat hi) (i0+1)
  ⟨_,_,i0,l,rfl,by omega,by omega,by omega,by simp,by simp,by simp,by simp,by simp,k0,PR.refl _ _ _,fun i c h1 h2 h3=>by omega⟩ ?_
 rintro m s ⟨t,h,i,l1,rfl,hm1,hi1,hi2,t0,t6,t7,t8,t9,k1,p1,s1⟩
 have hl1:l1.length=n:=by rw[p1.len,hl]
 by_cases qi:0≤i
 case pos=>
  obtain⟨j,rfl⟩:∃j:Nat,i=(j:Int):=⟨i.toNat,by omega⟩
  refine vF (cJ t0 (cJ t6 (cJ t7 (cJ t8 (cJ t9 qi))))) ?_
  refine A.mono (sift_ans o n cap J l1 hl1 hn a j hi (by omega) (by omega) h k1.self (by have:=s1;rwa [show((j:Int)+1).toNat=j+1 by omega]at this)) ?_
  rintro r h2 ⟨l2,k2,p2,s2⟩
  refine vP ?_
  have w4:IntKind.i64.wrap ((j:Int)-1)=(j:Int)-1:=wrap64 (by omega) (by omega)
  refine vF (cJ t0 (cJ t6 (cJ t7 (cJ t8 (cJ t9 w4))))) ?_
  refine⟨j,by omega,_,_,(j:Int)-1,l2,rfl,by omega,by omega,by omega,by simp[t0],by simp[t6],by simp[t7],by simp[t8],by simp,k1.trans k2,p1.trans (p2.wide (by omega) (by omega)),?_⟩
  rwa [show((j:Int)-1+1).toNat=j by omega]
 have qi':i=-1:=by omega
 subst qi'
 have s1':HPr ltB l1 a 0 hi:=s1
 have hs1:HPr ltB l1 a 0 ((hm:Int)+1).toNat:=by rwa [show((hm:Int)+1).toNat=hi by omega]
 have nz:¬((0:Int) ≤ -1):=by omega
 refine vF (cJ t0 (cJ t6 (cJ t7 (cJ t8 (cJ t9 (cJ w2 nz)))))) ?_
 clear w3 hi2
 refine W_loop (fun m s=>∃(t:Fm AV) (h:Hp Fm) (i:Int) (l1:List Tx),s=⟨t,56,h,none⟩∧(m:Int)=i+1 ∧ -1≤i∧i≤hm∧tget t 0=.rs o 0 1 false n cap∧tget t 6=.int .i64 a∧tget t 7=.int .i64 0∧tget t 10=.int .i64 i∧SR h0 h o J l1∧HSo ltB l l1 a b (i+1).toNat) (hm+1)
  ⟨_,_,hm,l1,rfl,by omega,by omega,by omega,by simp[t0],by simp[t6],by simp[t7],by simp,k1,p1,hs1,fun p q h1 h2 h3=>by omega,fun p q h1 h2 h3=>by omega⟩ ?_
 clear t0 t6 t7 t8 t9 s1 s1' hs1 k1 p1 hl1 t h l1 hm1 hi1 qi
 rintro m s ⟨t,h,i,l1,rfl,hm1,hi1,hi2,t0,t6,t7,t10,k1,S⟩
 have hl1:l1.length=n:=by rw[S.pr.len,hl]
 by_cases qi:0≤i
 case neg=>
  refine vF (cJ t0 (cJ t6 (cJ t7 (cJ t10 qi)))) ?_
  (first | apply endW_r | apply endW_n);(case h1=>(simp[Tryz.results126];first | done | rfl))
  have:i=-1:=by omega
  subst this
  refine⟨l1,k1,S.pr,?_⟩
  have:=S.so
  simpa using this
 obtain⟨j,rfl⟩:∃j:Nat,i=(j:Int):=⟨i.toNat,by omega⟩
 have S':HSo ltB l l1 a b (j+1):=by have:=S;rwa [show((j:Int)+1).toNat=j+1 by omega]at this
 obtain⟨aj,haj⟩:∃aj,aj=a+j:=⟨_,rfl⟩
 have w5:IntKind.i64.wrap ((a:Int)+(j:Int))=(aj:Int):=by rw[wrap64 (by omega) (by omega)];omega
 have w4:IntKind.i64.wrap ((j:Int)-1)=(j:Int)-1:=wrap64 (by omega) (by omega)
 refine vF (cJ t0 (cJ t6 (cJ t7 (cJ t10 qi)))) ?_
 have sg1:=getS1 (J:=J) (l:=l1) (i:=a) (by omega)
 have sg2:=getS1 (J:=J) (l:=l1) (i:=aj) (by omega)
 have si1:=lenS1 (J:=J) (l:=l1) (i:=a) (by omega)
 have sst1:=setS1 (J:=J) (l:=l1) (i:=a) (gt l1 aj) (by omega)
 have si2:=lenS1 (J:=J) (l:=l1.set a (gt l1 aj)) (i:=aj) (by simp;omega)
 have sst2:=setS1 (J:=J) (l:=l1.set a (gt l1 aj)) (i:=aj) (gt l1 a) (by simp;omega)
 have sgr:=k1.row;(try dsimp only [Hp.drew]at sgr)
 have sx1:=ix a (by omega)
 have sx2:=ix aj (by omega)
 (with_reducible refine W_draw_id (pln:=true) [0,1,2,3,4,5,6,7,8,9,10,11,12,13,14,15,16,17,18,19] [(11,(11,[])),(15,(15,[]))] (by kernel_rfl) rfl ?_)
 refine vF (cJ t0 (cJ t6 (cJ t7 (cJ t10 (cJ w5 (cJ sx1 (cJ sx2 (cJ sgr (cJ sg1 (cJ sg2 (cJ si1 (cJ sst1 (cJ si2 sst2))))))))))))) ?_
 refine⟨by simp[readSame,beqAV_self,t0,t6,t7,t10,w5];done,_,by simp;first | done | rfl,?_⟩
 obtain⟨z1,z2,z3,z4⟩:=S'.take ltS_ok (by omega) (by omega)
 rw[←haj]at z1 z2 z3 z4
 obtain⟨l2,hl2⟩:∃l2,l2=sw l1 a aj:=⟨_,rfl⟩
 have k2:=k1.swap a aj
 rw[←hl2]at z1 z2 z3 z4 k2
 refine vF (cJ t0 (cJ t6 (cJ t7 t10))) ?_
 refine A.mono (sift_ans o n cap J l2 (by rw[z1.len,hl]) hn a 0 j (by omega) (by omega) _ k2.self z2) ?_
 rintro r h3 ⟨l3,k3,p3,s3⟩
 refine vP ?_
 refine vF (cJ t0 (cJ t6 (cJ t7 (cJ t10 w4)))) ?_
 refine⟨j,by omega,_,_,(j:Int)-1,l3,rfl,by omega,by omega,by omega,by simp[t0],by simp[t6],by simp[t7],by simp,k2.trans k3,?_⟩
 rw[show((j:Int)-1+1).toNat=j by omega]
 subst haj
 exact HSo.next z1 z3 z4 p3 s3 (by omega)
end Go.Vn
