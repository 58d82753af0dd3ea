/- What functions of the program come to, in the value machine (a part of the proof of the claim's statement). No condition. -/
import Derived.Test.YtplcehpejjfjoaaGreatVnG5
import Derived.Test.YtplcehpejjfjoaaGreatVnG1
import Derived.Test.YtplcehpejjfjoaaGreatVnG2
set_option linter.unusedSimpArgs false
set_option linter.unusedVariables false
set_option maxRecDepth 20000
namespace Go.Vn
open Go.Proofs
theorem wrap8m(k:Nat):IntKind.u8.wrap (k:Int)=((k%256:Nat):Int):=by
 simp only[IntKind.wrap,IntKind.signed,IntKind.bits]
 simp
theorem u8B:isU8 Tryz.prog 5=true:=by kernel_rfl
theorem asBytes2(cs:List UInt8):cs.mapM (asByte ∘ byteAV)=some cs:=by
 induction cs with
 | nil=>rfl
 | cons c cs ih=>
  rw[List.mapM_cons,ih]
  simp[byteAV,asByte]
theorem conv_txt(h:Hp Fm){cs:List UInt8}{v:AV}(hv:SV 1 (cs.map byteAV) v):convAV Tryz.prog h 136 9 v=some (.str cs,h):=by
 rcases hv with⟨rfl,e⟩ | ⟨g,off,cp,rfl⟩ | ⟨c,rfl,e⟩
 ·have:cs=[]:=by simpa using e
  subst this
  simp[convAV,Tryz.underlying136,Tryz.underlying9,u8B]
 ·simp[convAV,Tryz.underlying136,Tryz.underlying9,u8B,asBytes2]
 ·have:cs=[]:=by simpa using e
  subst this
  simp[convAV,Tryz.underlying136,Tryz.underlying9,u8B]
theorem conv_b(h:Hp Fm)(s:List UInt8)(hs:s.length≤100000):convAV Tryz.prog h 9 136 (.str s)=some (.sl h.ng 0 1 (h.grown s.length 0 5) (s.map byteAV),{ h.drew with len:=Mp.set h.len h.ng (s.map byteAV).length,ng:=h.ng+1 }):=by
 have h1:s.length≤2 ^ 40:=by omega
 unfold convAV
 simp[Tryz.underlying136,Tryz.underlying9,u8B,h1,newSl,Hp.drew]
theorem etB:ElT Tryz.prog 136 5 1 1 false (.int .u8 0):=⟨Tryz.underlying136,z5,b5,a5,t5,rfl,rfl,fun _=>rfl,by omega,by omega⟩
def zeroB:List UInt8:=[128,0,0,0,0,0,0,0]
def z8:List AV:=[.int .u8 0,.int .u8 0,.int .u8 0,.int .u8 0,.int .u8 0,.int .u8 0,.int .u8 0,.int .u8 0]
theorem vJq67{F G K:Prop}(f:F)(k:K)(h:F→K→G:=by intro f k;(repeat(first|with_reducible first|refine vmR ?_|refine vmV rfl ?_|refine vmW rfl ?_|refine vmL ?_|refine blockW_y (by decide) ?_|((with_reducible first|apply vmO|apply vmT|apply vmC);case a=>simp[f,makeSliceAV,newRs,newSeq];with_reducible first|exact .v|exact .c|exact .t|exact .f)));exact k):G:=h f k
set_option maxHeartbeats 1000000 in
theorem number0(h0:Hp Fm):A Tryz.prog TT (.func 90) [.int .i64 0] h0 (fun r h'=>SV 1 (zeroB.map byteAV) r∧HE h0 h'):=by
 obtain⟨hq,hhq⟩:∃hq:Hp Fm,hq={ h0 with pol:=(· == 5) }:=⟨_,rfl⟩
 have hqp:hq.pol 5=true:=by rw[hhq];rfl
 have f0:∀h':Hp Fm,HE hq h'→HE h0 { h' with pol:=h0.pol }:=fun h' k=>by
  rw[hhq]at k;exact⟨k.no,k.ng,rfl,k.obj,k.len⟩
 apply A_goT Tryz.func90 rfl (by rfl);(case hn=>(simp[Tryz.ntmps90];rfl))
 refine vZ ?_
 rw[←hhq]
 refine vJq67 hqp ?_
 refine W.mono (R:=fun e s=>e=.exit 0∧∃(t:Fm AV) (h:Hp Fm),s=⟨t,34,h,none⟩∧tget t 3=.rs hq.no 0 1 false 8 8∧tget t 4=.bool false∧Mp.get h.obj hq.no=some (.row z8)∧HE hq h∧hq.no<h.no) ?_ ?_
 ·refine W_loop (fun z s=>∃(t:Fm AV) (h:Hp Fm) (i:Nat),s=⟨t,34,h,none⟩∧z=i+1∧i≤8∧tget t 0=.int .i64 0∧tget t 3=.rs hq.no 0 1 false 8 8∧tget t 4=.bool false∧tget t 5=.int .i64 ((i:Int)-1)∧Mp.get h.obj hq.no=some (.row z8)∧HE hq h∧hq.no<h.no) 9
   ⟨_,_,8,rfl,rfl,by omega,by simp,by simp,by simp,by simp,by simp[z8],(HE.refl hq).new _,Nat.lt_succ_self _⟩ ?_
  rintro _ _ ⟨t,h,i,rfl,rfl,hi,t0,t3,t4,t5,gr,e1,n1⟩
  by_cases q:i=0
  case pos=>
   have e0:(i:Int)-1=-1:=by omega
   rw[e0]at t5
   refine vF t5 ?_
   exact⟨rfl,_,_,rfl,by simp[t3],by simp[t4],gr,e1,n1⟩
  have q':((0:Int)≤(i:Int)-1):=by omega
  obtain⟨j,hj⟩:∃j,i=j+1:=⟨i-1,by omega⟩
  have ej:(i:Int)-1=(j:Int):=by omega
  rw[ej]at q' t5
  have ix:indexAddrAV Tryz.prog 136 (.rs hq.no 0 1 false 8 8) (.int .i64 (j:Int))=some (.ptr hq.no j):=by
   rw[index_rs Tryz.underlying136 z5 (by omega) (by omega),Int.toNat_natCast,Nat.mul_one]
  have w1:IntKind.i64.wrap ((j:Int)-1)=(j:Int)-1:=wrap64 (by omega) (by omega)
  have ws:splice z8 j [.int .u8 0]=z8:=by
   have:j=0∨j=1∨j=2∨j=3∨j=4∨j=5∨j=6∨j=7:=by omega
   rcases this with rfl | rfl | rfl | rfl | rfl | rfl | rfl | rfl <;> rfl
  have wb:IntKind.u8.wrap 0=0:=rfl
  have wl:j+1≤z8.length:=by show j+1≤8;omega
  refine vF (cJ t0 (cJ t3 (cJ t5 (cJ q' (cJ ix (cJ gr (cJ w1 (cJ wb (cJ ws wl))))))))) ?_
  exact⟨j+1,by omega,_,_,j,rfl,rfl,by omega,by simp,by simp[t3],by simp[t4],by simp,by simp,e1.set (Nat.le_refl _) _,n1⟩
 rintro e s ⟨rfl,t,h,rfl,t3,t4,gr,e1,n1⟩
 have ix:indexAddrAV Tryz.prog 136 (.rs hq.no 0 1 false 8 8) (.int .i64 0)=some (.ptr hq.no 0):=by
  rw[index_rs Tryz.underlying136 z5 (by omega) (by omega)];rfl
 have w8:IntKind.u8.wrap (0+128)=128:=rfl
 have w9:IntKind.u8.wrap 128=128:=rfl
 simp only[z8]at gr
 refine vF (cJ t3 (cJ t4 (cJ ix (cJ gr (cJ w8 w9))))) ?_
 (first | apply endW_r | apply endW_n);(case h1=>(simp[Tryz.results90];first | done | rfl))
 have fit:∀e∈zeroB.map byteAV,Fit false 1 e:=fun e he=>by obtain⟨x,_,rfl⟩:=List.mem_map.mp he;exact .inr ⟨rfl,rfl,rfl,rfl⟩
 have k5:RS hq.no { h with obj:=Mp.set h.obj hq.no (.row (zeroB.map byteAV)) } 1 false (zeroB.map byteAV) (.rs hq.no 0 1 false 8 8):=
  .inr ⟨hq.no,8,rfl,Nat.le_refl _,⟨[],by simp[zeroB,byteAV],rfl⟩,Nat.le_refl _,n1⟩
 obtain⟨z1,z2⟩:=k5.frz fit (by omega) (fun _=>rfl)
 have e2:HE hq { h with obj:=Mp.set h.obj hq.no (.row (zeroB.map byteAV)) }:=e1.set (Nat.le_refl _) _
 refine⟨z1,?_⟩
 have e3:=e2.x2 z2 (fun q hq=>by have:=k5.rows q hq;omega) (fun _ z=>z.elim)
 exact f0 _ e3
end Go.Vn

set_option maxRecDepth 20000
namespace Go.Vn
open Go.Proofs
theorem wrapU64{n:Nat}(h:n<18446744073709551616):IntKind.u64.wrap (n:Int)=(n:Int):=by
 simp only[IntKind.wrap,IntKind.signed,IntKind.bits]
 simp
 omega
theorem shl_or(n c:Nat)(h:n*256+c<18446744073709551616)(hc:c<256):IntKind.u64.wrap (↑(n*256%2 ^ IntKind.u64.bits ||| c%2 ^ IntKind.u64.bits):Int)=((n*256+c:Nat):Int):=by
 have e1:n*256%2 ^ IntKind.u64.bits=n*256:=Nat.mod_eq_of_lt (by simp only[IntKind.bits];omega)
 have e2:c%2 ^ IntKind.u64.bits=c:=Nat.mod_eq_of_lt (by simp only[IntKind.bits];omega)
 rw[e1,e2]
 have:=Nat.shiftLeft_add_eq_or_of_lt (b:=c) (i:=8) (by omega) n
 rw[Nat.shiftLeft_eq]at this
 rw[show n*256=n*2 ^ 8 by rfl,←this]
 exact wrapU64 (by omega)
end Go.Vn

set_option maxRecDepth 20000
namespace Go.Vn
open Go.Proofs
def encPt(t:Bool)(n:Int)(s:List UInt8):AV:=.agg [.bool t,.int .i64 n,.str s]
set_option maxHeartbeats 1000000 in
theorem oword_short(b:List UInt8)(v:AV)(h0:Hp Fm)(k:SV 1 (b.map byteAV) v)(q8:b.length<8) :
  A Tryz.prog TT (.func 116) [v] h0 (fun r h'=>r=.tup [encPt false 0 [],.nils,.int .i64 3]∧HE h0 h'):=by
 have c1:=k.cells
 have i1:=k.isCell
 have n1:=k.nm
 have l1:=k.len Tryz.underlying136
 rw[List.length_map]at l1
 have q8':(b.length:Int)<8:=by omega
 apply A_go Tryz.func116 rfl (by rfl);(case hn=>(simp[Tryz.ntmps116];rfl))
 refine vF (cJ c1 (cJ i1 (cJ n1 (cJ l1 (cJ q8 q8'))))) ?_
 (first | apply endW_r | apply endW_n);(case h1=>(simp[Tryz.results116];first | done | rfl))
 exact⟨by simp[encPt],((HE.refl h0).new _).set (Nat.le_refl _) _⟩
theorem xor63(n:Nat)(h:n<18446744073709551616):IntKind.i64.wrap (IntKind.u64.wrap (↑(n%2 ^ IntKind.u64.bits ^^^ 9223372036854775808%2 ^ IntKind.u64.bits):Int))=(n:Int)-9223372036854775808:=by
 have e1:n%2 ^ IntKind.u64.bits=n:=Nat.mod_eq_of_lt (by simp only[IntKind.bits];omega)
 have e2:9223372036854775808%2 ^ IntKind.u64.bits=9223372036854775808:=by decide
 rw[e1,e2]
 have d:=Nat.xor_div_two_pow (a:=n) (b:=9223372036854775808) (n:=63)
 have m:=Nat.xor_mod_two_pow (a:=n) (b:=9223372036854775808) (n:=63)
 have t1:9223372036854775808 / 2 ^ 63=1:=by decide
 have t2:9223372036854775808%2 ^ 63=0:=by decide
 rw[t1]at d
 rw[t2,Nat.xor_zero]at m
 have p:(2:Nat) ^ 63=9223372036854775808:=by decide
 rw[p]at d m
 generalize n ^^^ 9223372036854775808=x at *
 have hq:n / 9223372036854775808=0∨n / 9223372036854775808=1:=by omega
 have hx:x<18446744073709551616:=by
  rcases hq with q | q <;> rw[q]at d
  ·have:(0 ^^^ 1:Nat)=1:=by decide
   omega
  ·have:(1 ^^^ 1:Nat)=0:=by decide
   omega
 rw[wrapU64 hx]
 simp only[IntKind.wrap,IntKind.signed,IntKind.bits]
 rcases hq with q | q <;> rw[q]at d
 ·have:(0 ^^^ 1:Nat)=1:=by decide
  simp
  split <;> omega
 ·have:(1 ^^^ 1:Nat)=0:=by decide
  simp
  split <;> omega
theorem vYc66{F G K:Prop}(f:F)(k:K)(h:F→K→G:=by intro f k;(repeat(first|with_reducible first|refine vmR ?_|refine vmV rfl ?_|refine vmW rfl ?_|refine vmL ?_|refine blockW_y (by decide) ?_|((with_reducible first|apply vmO|apply vmT|apply vmC);case a=>simp[f,shiftBin];with_reducible first|exact .v|exact .c|exact .t|exact .f)));exact k):G:=h f k
set_option maxHeartbeats 1000000 in
theorem oword_ans(b:List UInt8)(v:AV)(h0:Hp Fm)(k:SV 1 (b.map byteAV) v)(hl:b.length≤100000)(q8:8≤b.length) :
  A Tryz.prog TT (.func 116) [v] h0 (fun r h'=>∃v',r=.tup [encPt false ((val8 (b.take 8):Int)-9223372036854775808) [],v',.int .i64 0]∧SV 1 ((b.drop 8).map byteAV) v'∧HE h0 h'):=by
 have c1:=k.cells
 have i1:=k.isCell
 have n1:=k.nm
 have l1:=k.len Tryz.underlying136
 rw[List.length_map]at l1
 have q8':¬(b.length:Int)<8:=by omega
 have q8'':¬b.length<8:=by omega
 obtain⟨r8,s8,sv8⟩:=k.take Tryz.underlying136 z5 (k:=.i64) (i:=8) (by omega) (by rw[List.length_map];omega)
 rw[←List.map_take]at sv8
 have c8:=sv8.cells
 have i8:=sv8.isCell
 have n8:=sv8.nm
 have l8:=sv8.len Tryz.underlying136
 have hl8:(b.take 8).length=8:=by rw[List.length_take];omega
 have l8':lenAV Tryz.prog 136 r8=some (.int .i64 8):=by rw[l8];simp;omega
 apply A_go Tryz.func116 rfl (by rfl);(case hn=>(simp[Tryz.ntmps116];rfl))
 refine vF (cJ c1 (cJ i1 (cJ n1 (cJ l1 (cJ q8 (cJ q8' (cJ q8'' (cJ s8 (cJ c8 (cJ i8 (cJ n8 l8'))))))))))) ?_
 refine W_loop (fun m s=>∃(t:Fm AV) (i n:Nat),s=⟨t,31,{ h0 with obj:=Mp.set h0.obj h0.no (.row [.bool false,.int .i64 0,.str []]),no:=h0.no+1 },none⟩∧m=8-i∧i≤8∧n=val8 (b.take i)∧tget t 0=v∧tget t 2=.ptr h0.no 0∧tget t 13=r8∧tget t 14=.int .i64 8∧tget t 15=.int .i64 i∧tget t 5=.int .u64 n) 8
  ⟨_,0,0,rfl,rfl,by omega,by simp[val8],by simp,by simp,by simp,by simp,by simp,by simp⟩ ?_
 rintro m s ⟨t,i,n,rfl,rfl,hi,hn,t0,t2,t13,t14,t15,t5⟩
 by_cases qi:i<8
 case neg=>
  have qj:¬((i:Int)<8):=by omega
  refine vF (cJ t0 (cJ t13 (cJ t14 (cJ t15 (cJ t5 (cJ qi qj)))))) ?_
  have i8':i=8:=by omega
  subst i8'
  have hb:n<256 ^ 8:=by rw[hn];have:=val8_lt (b.take 8);rwa [hl8]at this
  obtain⟨d,hd⟩:∃d:Int,d=(n:Int)-9223372036854775808:=⟨_,rfl⟩
  have fx:=xor63 n (by omega)
  rw[←hd]at fx
  obtain⟨rd,sd,svd⟩:=k.drop Tryz.underlying136 z5 (k:=.i64) (i:=8) (by omega) (by rw[List.length_map];omega)
  have cd:=svd.cells
  have id:=svd.isCell
  (with_reducible refine W_draw_id (pln:=true) [0,1,2,3,4,5,6,7,8] [] (by kernel_rfl) rfl ?_)
  refine vF (cJ t0 (cJ t2 (cJ t5 (cJ fx (cJ sd (cJ c1 (cJ i1 (cJ cd id)))))))) ?_
  refine⟨by simp[readSame,beqAV_self,t0,t2,t5,fx];done,_,by simp;first | done | rfl,?_⟩
  refine vZ ?_
  (first | apply endW_r | apply endW_n);(case h1=>(simp[Tryz.results116,t2];first | done | rfl))
  refine⟨rd,by simp[encPt,hd,hn],?_,(((HE.refl h0).new _).drew).set (Nat.le_refl _) _⟩
  rw[←List.map_drop]at svd
  exact svd
 have qj:(i:Int)<8:=by omega
 have ix:=sv8.idx (k:=.i64) (i:=(i:Int)) Tryz.underlying136 z5 (by omega) (by simp;omega)
 obtain⟨c,hc⟩:∃c:UInt8,c=b[i]'(by omega):=⟨_,rfl⟩
 replace ix:indexAddrAV Tryz.prog 136 r8 (.int .i64 (i:Int))=some (.el (.int .u8 (c.toNat:Int)) 0):=by rw[ix];simp[hc,byteAV]
 have hcl:=c.toNat_lt
 have hb:n<256 ^ i:=by rw[hn];have:=val8_lt (b.take i);rwa [List.length_take,Nat.min_eq_left (by omega)]at this
 have hb7:n<256 ^ 7:=Nat.lt_of_lt_of_le hb (Nat.pow_le_pow_right (by omega) (by omega))
 have f1:IntKind.u64.wrap ((n:Int)*2 ^ min 8 IntKind.u64.bits)=((n*256:Nat):Int):=by
  have e:(2 ^ min 8 IntKind.u64.bits:Int)=((256:Nat):Int):=by decide
  rw[e,←Int.natCast_mul];exact wrapU64 (by omega)
 obtain⟨n2,hn2⟩:∃n2,n2=n*256:=⟨_,rfl⟩
 obtain⟨n3,hn3⟩:∃n3,n3=n*256+c.toNat:=⟨_,rfl⟩
 rw[←hn2]at f1
 have f2:IntKind.u64.wrap (c.toNat:Int)=(c.toNat:Int):=wrapU64 (by omega)
 have f3:IntKind.u64.wrap (↑(n2%2 ^ IntKind.u64.bits ||| c.toNat%2 ^ IntKind.u64.bits):Int)=(n3:Int):=by rw[hn2,hn3];exact shl_or n c.toNat (by omega) (by omega)
 have w1:IntKind.i64.wrap ((i:Int)+1)=((i+1:Nat):Int):=by rw[wrap64 (by omega) (by omega)];simp
 refine vYc66 (cJ t13 (cJ t14 (cJ t15 (cJ t5 (cJ qi (cJ qj (cJ ix (cJ f1 (cJ f2 (cJ f3 w1)))))))))) ?_
 refine⟨8-(i+1),by omega,_,i+1,n3,rfl,rfl,by omega,?_,by simp[t0],by simp[t2],by simp[t13],by simp[t14],by simp,by simp⟩
 have:b.take (i+1)=b.take i++[c]:=by
  rw[hc,List.take_succ_eq_append_getElem (by omega)]
 rw[this,val8_app,←hn,hn3]
end Go.Vn

set_option maxRecDepth 20000
namespace Go.Vn
open Go.Proofs
def cmbW(done:List UInt8):Except Int (List UInt8 × List UInt8)→Except Int (List UInt8 × List UInt8)
 | .ok (s,r)=>.ok (done++s,r)
 | .error e=>.error e
theorem words_nil:words []=.error 3:=rfl
theorem words_nz{c:UInt8}(h:c≠0)(rest:List UInt8):words (c::rest)=cmbW [c] (words rest):=by
 conv=>lhs;unfold words
 rw[if_pos h]
 cases words rest with
 | error e=>rfl
 | ok p=>rfl
theorem words_z1:words [0]=.error 3:=rfl
theorem words_zf(rest:List UInt8):words (0::255::rest)=cmbW [0] (words rest):=by
 conv=>lhs;unfold words
 simp only[ne_eq,not_true,if_false,if_true]
 cases words rest with
 | error e=>rfl
 | ok p=>rfl
theorem words_zo(rest:List UInt8):words (0::1::rest)=.ok ([],rest):=rfl
theorem words_zb{d:UInt8}(h1:d≠255)(h2:d≠1)(rest:List UInt8):words (0::d::rest)=.error 2:=by
 conv=>lhs;unfold words
 simp[h1,h2]
theorem cmbW_nil(x:Except Int (List UInt8 × List UInt8)):cmbW [] x=x:=by cases x <;> rfl
theorem cmbW_cmbW(a b:List UInt8)(x:Except Int (List UInt8 × List UInt8)):cmbW a (cmbW b x)=cmbW (a++b) x:=by
 cases x with
 | error e=>rfl
 | ok p=>simp[cmbW]
def WordR(x:Except Int (List UInt8 × List UInt8))(r:AV):Prop:=match x with
 | .error e=>r=.tup [encPt false 0 [],.nils,.int .i64 e]
 | .ok (s,rest)=>∃v',r=.tup [encPt true 0 s,v',.int .i64 0]∧SV 1 (rest.map byteAV) v'
theorem vYd63{F G K:Prop}(f:F)(k:K)(h:F→K→G:=by intro f k;(repeat(first|with_reducible first|refine vmR ?_|refine vmV rfl ?_|refine vmW rfl ?_|refine blockW_y (by decide) ?_|((with_reducible first|apply vmO|apply vmT|apply vmC);case a=>simp[f,newSeq,newSl];with_reducible first|exact .v|exact .c|exact .t|exact .f)));exact k):G:=h f k
theorem vYd64{F G K:Prop}(f:F)(k:K)(h:F→K→G:=by intro f k;(repeat(first|with_reducible first|refine vmR ?_|refine vmV rfl ?_|refine vmW rfl ?_|refine vmL ?_|refine blockW_y (by decide) ?_|((with_reducible first|apply vmO|apply vmT|apply vmC);case a=>simp[f,newSeq,newSl];with_reducible first|exact .v|exact .c|exact .t|exact .f)));exact k):G:=h f k
set_option maxHeartbeats 4000000 in
theorem owords_loop(b:List UInt8)(v:AV)(k:SV 1 (b.map byteAV) v)(hl:b.length≤100000)(h0 hb:Hp Fm)(hhb:hb={ h0 with obj:=Mp.set h0.obj h0.no (.row [.bool false,.int .i64 0,.str []]),no:=h0.no+1 })(hp:h0.pol 5=false)(bd:Code)(hbd:∃c,Tryz.f117.body=some (.seq c (.scope bd)))(rest:Code)(hrest:findLabel bd 0=some rest) :
  ∀(n i:Nat) (acc:List UInt8) (t:Fm AV) (h:Hp Fm) (a:AV),b.length-i<n→i≤b.length→acc.length≤i→HE hb h→AC hb h 1 (acc.map byteAV) a→cmbW acc (words (b.drop i))=words b →
   tget t 0=v→tget t 2=.ptr h0.no 0→tget t 5=a→tget t 6=.int .i64 i →
   W Tryz.prog TT rest ⟨t,54,h,none⟩ (jumpW Tryz.prog TT bd <| endW Tryz.prog Tryz.f117 fun r h'=>WordR (words b) r∧HE h0 h'):=by
 obtain⟨c,hb2⟩:=hbd
 have hb':some (Code.seq c (.scope bd))=Tryz.f117.body:=hb2.symm
 injection hb' with hb'
 injection hb' with _ hb4
 injection hb4 with hb3
 subst hb3
 injection hrest with hrest
 subst hrest
 have c1:=k.cells
 have i1:=k.isCell
 have n1:=k.nm
 have l1:=k.len Tryz.underlying136
 rw[List.length_map]at l1
 have e0b:HE h0 hb:=by rw[hhb];exact(HE.refl h0).new _
 have hbp:hb.pol 5=false:=by rw[e0b.pol];exact hp
 have hbr:Mp.get hb.obj h0.no=some (.row [.bool false,.int .i64 0,.str []]):=by rw[hhb];simp
 have hbn:h0.no<hb.no:=by rw[hhb];show h0.no<h0.no+1;omega
 intro n
 induction n with
 | zero=>intro i acc t h a hn;omega
 | succ n ih=>
  intro i acc t h a hn hi hacl he hac hfin t0 t2 t5 t6
  clear hb2
  have uc:=hac.sv.cells
  have ui:=hac.sv.isCell
  have hrow:Mp.get h.obj h0.no=some (.row [.bool false,.int .i64 0,.str []]):=(he.obj _ hbn).trans hbr
  have hph:h.pol 5=false:=by rw[he.pol];exact hbp
  by_cases qi:i=b.length
  ·have qi':((i:Int)=(b.length:Int)):=by omega
   have ed:b.drop i=[]:=by rw[qi];simp
   rw[ed,words_nil]at hfin
   have fin:words b=.error 3:=hfin.symm
   refine vF (cJ t0 (cJ t2 (cJ t5 (cJ t6 (cJ c1 (cJ i1 (cJ l1 (cJ n1 (cJ qi (cJ qi' hrow)))))))))) ?_
   (first | apply endW_r | apply endW_n);(case h1=>(simp[Tryz.results117,t2];first | done | rfl))
   rw[fin]
   exact⟨by simp[WordR,encPt],(e0b.trans he).set (Nat.le_refl _) _⟩
  have qi':¬((i:Int)=(b.length:Int)):=by omega
  have hil:i<b.length:=by omega
  obtain⟨c,hc⟩:∃c:UInt8,c=b[i]:=⟨_,rfl⟩
  have ed:b.drop i=c::b.drop (i+1):=by rw[hc];exact List.drop_eq_getElem_cons hil
  have ix:=k.idx (k:=.i64) (i:=(i:Int)) Tryz.underlying136 z5 (by omega) (by simp;omega)
  replace ix:indexAddrAV Tryz.prog 136 v (.int .i64 (i:Int))=some (.el (.int .u8 (c.toNat:Int)) 0):=by rw[ix];simp[hc,byteAV]
  rw[ed]at hfin
  have w1:IntKind.i64.wrap ((i:Int)+1)=((i+1:Nat):Int):=by rw[wrap64 (by omega) (by omega)];simp
  have w2:IntKind.i64.wrap ((i:Int)+2)=((i+2:Nat):Int):=by rw[wrap64 (by omega) (by omega)];simp
  obtain⟨j,hj⟩:∃j,j=i+1:=⟨_,rfl⟩
  obtain⟨j2,hj2⟩:∃j2,j2=i+2:=⟨_,rfl⟩
  rw[←hj]at w1
  rw[←hj2]at w2
  obtain⟨cn,hcn⟩:∃cn:Nat,cn=c.toNat:=⟨_,rfl⟩
  rw[←hcn]at ix
  by_cases qc:cn=0
  case neg=>
   have qc0:c≠0:=fun z=>qc (by rw[hcn,z];rfl)
   rw[words_nz qc0,cmbW_cmbW]at hfin
   refine vYd63 (cJ t0 (cJ t2 (cJ t5 (cJ t6 (cJ c1 (cJ i1 (cJ l1 (cJ n1 (cJ qi (cJ qi' (cJ ix (cJ qc (cJ uc (cJ ui hph)))))))))))))) ?_
   refine vYd64 (cJ t0 (cJ t2 (cJ t5 (cJ t6 (cJ c1 (cJ i1 (cJ l1 (cJ n1 (cJ qi (cJ qi' (cJ ix (cJ qc (cJ uc (cJ ui hph)))))))))))))) ?_
   with_reducible apply WO_app_i;(case hw=>(simp[t0,t2,t5,t6,c1,i1,l1,n1,qi,qi',ix,qc,uc,ui,newSeq,newSl,hph];done));(case ho=>rfl);(case hb=>rfl);(case ha=>(simp[t0,t2,t5,t6,c1,i1,l1,n1,qi,qi',ix,qc,uc,ui,newSeq,newSl,hph];first | done | exact⟨rfl,rfl⟩ | rfl));(case h1=>(simp;first | done | rfl));(case h2=>(simp;first | done | rfl))
   refine app_then (AC.app (h0:=hb) etB (hac.of ((HE.refl h).newSl 1)) (he.newSl 1) hbp (by simp;omega)) ?_
   rintro x4 h4 ⟨ac4,he4,_,_,_⟩
   have e4:=ac4.sv.cells
   have f4:=ac4.sv.isCell
   refine vP ?_
   refine vF (cJ t6 (cJ e4 (cJ f4 w1))) ?_
   refine jumpW_g rfl (WS_run ?_)
   refine ih j (acc++[c]) _ h4 x4 (by omega) (by omega) (by simp;omega) he4 ?_ (by rw[hj];exact hfin) (by simp[t0]) (by simp[t2]) (by simp) (by simp)
   have:(acc++[c]).map byteAV=acc.map byteAV++[.int .u8 cn]:=by simp[byteAV,hcn]
   rw[this];exact ac4
  have qc0:c=0:=by rw[qc]at hcn;exact UInt8.toNat_inj.mp hcn.symm
  subst qc0
  by_cases qj:j=b.length
  ·have qj':((j:Int)=(b.length:Int)):=by omega
   have ed2:b.drop (i+1)=[]:=by rw[←hj,qj];simp
   rw[ed2,words_z1]at hfin
   have fin:words b=.error 3:=hfin.symm
   refine vF (cJ t0 (cJ t2 (cJ t5 (cJ t6 (cJ c1 (cJ i1 (cJ l1 (cJ n1 (cJ qi (cJ qi' (cJ ix (cJ qc (cJ w1 (cJ qj (cJ qj' hrow))))))))))))))) ?_
   (first | apply endW_r | apply endW_n);(case h1=>(simp[Tryz.results117,t2];first | done | rfl))
   rw[fin]
   exact⟨by simp[WordR,encPt],(e0b.trans he).set (Nat.le_refl _) _⟩
  have qj':¬((j:Int)=(b.length:Int)):=by omega
  have hjl:j<b.length:=by omega
  obtain⟨d,hd⟩:∃d:UInt8,d=b[j]:=⟨_,rfl⟩
  have ed2:b.drop (i+1)=d::b.drop (i+2):=by rw[show i+2=j+1 by omega,←hj,hd];exact List.drop_eq_getElem_cons hjl
  have jx:=k.idx (k:=.i64) (i:=(j:Int)) Tryz.underlying136 z5 (by omega) (by simp;omega)
  replace jx:indexAddrAV Tryz.prog 136 v (.int .i64 (j:Int))=some (.el (.int .u8 (d.toNat:Int)) 0):=by rw[jx];simp[hd,byteAV]
  rw[ed2]at hfin
  obtain⟨dn,hdn⟩:∃dn:Nat,dn=d.toNat:=⟨_,rfl⟩
  rw[←hdn]at jx
  by_cases q255:dn=255
  ·have qd:d=255:=UInt8.toNat_inj.mp (by rw[←hdn,q255];rfl)
   subst qd
   rw[words_zf,cmbW_cmbW]at hfin
   have q255':(dn:Int)=255:=by omega
   refine vYd64 (cJ t0 (cJ t2 (cJ t5 (cJ t6 (cJ c1 (cJ i1 (cJ l1 (cJ n1 (cJ qi (cJ qi' (cJ ix (cJ qc (cJ w1 (cJ qj (cJ qj' (cJ jx (cJ q255 (cJ q255' (cJ uc (cJ ui hph)))))))))))))))))))) ?_
   with_reducible apply WO_app_i;(case hw=>(simp[t0,t2,t5,t6,c1,i1,l1,n1,qi,qi',ix,qc,w1,qj,qj',jx,q255,q255',uc,ui,newSeq,newSl,hph];done));(case ho=>rfl);(case hb=>rfl);(case ha=>(simp[t0,t2,t5,t6,c1,i1,l1,n1,qi,qi',ix,qc,w1,qj,qj',jx,q255,q255',uc,ui,newSeq,newSl,hph];first | done | exact⟨rfl,rfl⟩ | rfl));(case h1=>(simp;first | done | rfl));(case h2=>(simp;first | done | rfl))
   refine app_then (AC.app (h0:=hb) etB (hac.of ((HE.refl h).newSl 1)) (he.newSl 1) hbp (by simp;omega)) ?_
   rintro x4 h4 ⟨ac4,he4,_,_,_⟩
   have e4:=ac4.sv.cells
   have f4:=ac4.sv.isCell
   refine vP ?_
   refine vF (cJ t6 (cJ e4 (cJ f4 w2))) ?_
   refine jumpW_g rfl (WS_run ?_)
   refine ih j2 (acc++[0]) _ h4 x4 (by omega) (by omega) (by simp;omega) he4 ?_ (by rw[hj2];exact hfin) (by simp[t0]) (by simp[t2]) (by simp) (by simp)
   have:(acc++[(0:UInt8)]).map byteAV=acc.map byteAV++[.int .u8 0]:=by simp[byteAV]
   rw[this];exact ac4
  have q255':¬(dn:Int)=255:=by omega
  by_cases q1:dn=1
  ·have qd:d=1:=UInt8.toNat_inj.mp (by rw[←hdn,q1];rfl)
   subst qd
   rw[words_zo]at hfin
   have fin:words b=.ok (acc,b.drop j2):=by rw[←hfin,hj2];simp[cmbW]
   have q1':(dn:Int)=1:=by omega
   obtain⟨rd,sd,svd⟩:=k.drop Tryz.underlying136 z5 (k:=.i64) (i:=(j2:Int)) (by omega) (by rw[List.length_map];omega)
   have cd:=svd.cells
   have id:=svd.isCell
   have cv:=fun h=>conv_txt h hac.sv
   refine vF (cJ t0 (cJ t2 (cJ t5 (cJ t6 (cJ c1 (cJ i1 (cJ l1 (cJ n1 (cJ qi (cJ qi' (cJ ix (cJ qc (cJ w1 (cJ qj (cJ qj' (cJ jx (cJ q255 (cJ q255' (cJ q1 q1'))))))))))))))))))) ?_
   (with_reducible refine W_draw_id (pln:=true) [0,1,2,3,4,5,6,7,8,9] [(1,(1,[]))] (by kernel_rfl) rfl ?_)
   refine vF (cJ t0 (cJ t2 (cJ t5 (cJ t6 (cJ c1 (cJ i1 (cJ cv (cJ w2 (cJ sd (cJ cd (cJ id hrow))))))))))) ?_
   refine⟨by simp[readSame,beqAV_self,t0,t2,t5,t6,cv,w2];done,_,by simp;first | done | rfl,?_⟩
   refine vZ ?_
   (first | apply endW_r | apply endW_n);(case h1=>(simp[Tryz.results117,t2];first | done | rfl))
   rw[fin]
   refine⟨⟨rd,by simp[encPt],?_⟩,((e0b.trans he).drew).set (Nat.le_refl _) _⟩
   rw[Int.toNat_natCast,←List.map_drop]at svd
   exact svd
  have q1':¬(dn:Int)=1:=by omega
  have fin:words b=.error 2:=by
   rw[←hfin,words_zb (fun z=>q255 (by rw[hdn,z];rfl)) (fun z=>q1 (by rw[hdn,z];rfl))];rfl
  refine vF (cJ t0 (cJ t2 (cJ t5 (cJ t6 (cJ c1 (cJ i1 (cJ l1 (cJ n1 (cJ qi (cJ qi' (cJ ix (cJ qc (cJ w1 (cJ qj (cJ qj' (cJ jx (cJ q255 (cJ q255' (cJ q1 (cJ q1' hrow)))))))))))))))))))) ?_
  (first | apply endW_r | apply endW_n);(case h1=>(simp[Tryz.results117,t2];first | done | rfl))
  rw[fin]
  exact⟨by simp[WordR,encPt],(e0b.trans he).set (Nat.le_refl _) _⟩
theorem vYd65{G K:Prop}(k:K)(h:K→G:=by intro k;(repeat(first|with_reducible first|refine vmR ?_|refine vmV rfl ?_|refine vmW rfl ?_|refine blockW_y (by decide) ?_|((with_reducible first|apply vmO|apply vmT|apply vmC);case a=>simp;with_reducible first|exact .v|exact .c|exact .t|exact .f)));exact k):G:=h k
theorem owords_ans(b:List UInt8)(v:AV)(h0:Hp Fm)(k:SV 1 (b.map byteAV) v)(hl:b.length≤100000)(hp:h0.pol 5=false) :
  A Tryz.prog TT (.func 117) [v] h0 (fun r h'=>WordR (words b) r∧HE h0 h'):=by
 apply A_go Tryz.func117 rfl (by rfl);(case hn=>(simp[Tryz.ntmps117];rfl))
 refine vYd65 ?_
 refine W_label_i (thenW_n ?_)
 refine W_skip_seq (owords_loop b v k hl h0 _ rfl hp _ ⟨_,rfl⟩ _ rfl (b.length+1) 0 [] _ _ .nils (by omega) (by omega) (by simp) (HE.refl _) (.inl ⟨rfl,rfl⟩) (by simp[cmbW_nil]) ?_ ?_ ?_ ?_)
 all_goals simp
end Go.Vn

set_option maxRecDepth 20000
namespace Go.Vn
open Go.Proofs
@[simp] def encK(p:KP):AV:=encPt p.isT p.num p.txt
theorem etP:ElT Tryz.prog 140 139 3 32 true (.agg [.bool false,.int .i64 0,.str []]):=⟨Tryz.underlying140,z139,b139,a139,t139,rfl,rfl,(fun h=>by cases h),by omega,by omega⟩
def cmbK(done:List KP):Except Int (List KP)→Except Int (List KP)
 | .ok l=>.ok (done++l)
 | .error e=>.error e
theorem cmbK_nil(x:Except Int (List KP)):cmbK [] x=x:=by cases x <;> rfl
theorem cmbK_cmbK(a b:List KP)(x:Except Int (List KP)):cmbK a (cmbK b x)=cmbK (a++b) x:=by
 cases x with
 | error e=>rfl
 | ok p=>simp[cmbK]
theorem words_err{b:List UInt8}{e:Int}(h:words b=.error e):e=2∨e=3:=by
 suffices H:∀n (b:List UInt8),b.length≤n→∀e,words b=.error e→e=2∨e=3 from H _ b (Nat.le_refl _) e h
 intro n
 induction n with
 | zero=>intro b hb e h;have:b=[]:=List.length_eq_zero_iff.mp (by omega);subst this;rw[words_nil]at h;cases h;exact .inr rfl
 | succ n ih=>
  intro b hb e h
  cases b with
  | nil=>rw[words_nil]at h;cases h;exact .inr rfl
  | cons c rest=>
   simp only[List.length_cons]at hb
   by_cases hc:c=0
   case neg=>
    rw[words_nz hc]at h
    cases hw:words rest with
    | ok p=>rw[hw]at h;cases h
    | error e'=>rw[hw]at h;cases h;exact ih rest (by omega) _ hw
   subst hc
   cases rest with
   | nil=>rw[words_z1]at h;cases h;exact .inr rfl
   | cons d rest=>
    simp only[List.length_cons]at hb
    by_cases h1:d=255
    ·subst h1
     rw[words_zf]at h
     cases hw:words rest with
     | ok p=>rw[hw]at h;cases h
     | error e'=>rw[hw]at h;cases h;exact ih rest (by omega) _ hw
    by_cases h2:d=1
    ·subst h2;rw[words_zo]at h;cases h
    rw[words_zb h1 h2]at h;cases h;exact .inl rfl
theorem readK_nil:readK []=.ok []:=by rw[readK]
theorem readK_1s{rest:List UInt8}(h:rest.length<8):readK (1::rest)=.error 3:=by rw[readK];simp[h]
theorem readK_1{rest:List UInt8}(h:¬rest.length<8):readK (1::rest)=cmbK [⟨false,(val8 (rest.take 8):Int)-9223372036854775808,[]⟩] (readK (rest.drop 8)):=by
 rw[readK];simp only[if_true,if_neg h]
 cases readK (rest.drop 8) <;> rfl
theorem readK_2e{rest:List UInt8}{e:Int}(h:words rest=.error e):readK (2::rest)=.error e:=by
 rw[readK,if_neg (by decide),if_pos rfl]
 split
 ·rename_i e' hw;rw[h]at hw;cases hw;rfl
 ·rename_i s r hw;rw[h]at hw;cases hw
theorem readK_2{rest s r:List UInt8}(h:words rest=.ok (s,r)):readK (2::rest)=cmbK [⟨true,0,s⟩] (readK r):=by
 rw[readK,if_neg (by decide),if_pos rfl]
 split
 ·rename_i e' hw;rw[h]at hw;cases hw
 ·rename_i s' r' hw
  rw[h]at hw;cases hw
  cases readK r <;> rfl
theorem readK_x{c:UInt8}(h1:c≠1)(h2:c≠2)(rest:List UInt8):readK (c::rest)=.error 2:=by
 rw[readK];simp[h1,h2]
def ReadR(x:Except Int (List KP))(r:AV):Prop:=match x with
 | .error e=>r=.tup [.nils,.int .i64 e]∧e≠0
 | .ok l=>∃v',r=.tup [v',.int .i64 0]∧SV 3 (l.map encK) v'
theorem vYe61{F G K:Prop}(f:F)(k:K)(h:F→K→G:=by intro f k;(repeat(first|with_reducible first|refine vmR ?_|refine vmV rfl ?_|refine vmW rfl ?_|refine vmL ?_|refine blockW_y (by decide) ?_|((with_reducible first|apply vmO|apply vmT|apply vmC);case a=>simp[f,encPt];with_reducible first|exact .v|exact .c|exact .t|exact .f)));exact k):G:=h f k
theorem vYe62{F G K:Prop}(f:F)(k:K)(h:F→K→G:=by intro f k;(repeat(first|with_reducible first|refine vmR ?_|refine vmV rfl ?_|refine vmW rfl ?_|refine vmL ?_|refine blockW_y (by decide) ?_|((with_reducible first|apply vmO|apply vmT|apply vmC);case a=>simp[f,encPt,newSeq,newSl];with_reducible first|exact .v|exact .c|exact .t|exact .f)));exact k):G:=h f k
set_option maxHeartbeats 4000000 in
theorem oread_ans(b:List UInt8)(v:AV)(h0:Hp Fm)(k:SV 1 (b.map byteAV) v)(hl:b.length≤100000)(hp:∀z,h0.pol z=false) :
  A Tryz.prog TT (.func 97) [v] h0 (fun r h'=>ReadR (readK b) r∧HE h0 h'):=by
 apply A_go Tryz.func97 rfl (by rfl);(case hn=>(simp[Tryz.ntmps97];rfl))
 refine vZ ?_
 refine W_loop (fun m s=>∃(t:Fm AV) (h:Hp Fm) (done:List KP) (cur:List UInt8) (u vc:AV),s=⟨t,42,h,none⟩∧m=cur.length∧done.length+cur.length≤b.length∧cmbK done (readK cur)=readK b∧tget t 0=vc∧SV 1 (cur.map byteAV) vc∧tget t 4=u∧AC h0 h 3 (done.map encK) u∧HE h0 h) b.length
  ⟨_,_,[],b,.nils,v,rfl,rfl,by simp,cmbK_nil _,by simp,k,by simp,.inl ⟨rfl,rfl⟩,HE.refl h0⟩ ?_
 rintro m s ⟨t,h,done,cur,u,vc,rfl,rfl,hlen,hfin,t0,kc,t4,hu,he⟩
 have uc:=hu.sv.cells
 have ui:=hu.sv.isCell
 have c1:=kc.cells
 have i1:=kc.isCell
 have n1:=kc.nm
 have l1:=kc.len Tryz.underlying136
 rw[List.length_map]at l1
 have hph:∀z,h.pol z=false:=fun z=>by rw[he.pol];exact hp z
 cases cur with
 | nil=>
  refine vF (cJ t0 (cJ t4 (cJ c1 (cJ i1 (cJ n1 (cJ l1 (cJ uc ui))))))) ?_
  (first | apply endW_r | apply endW_n);(case h1=>(simp[Tryz.results97];first | done | rfl))
  rw[readK_nil]at hfin
  rw[←hfin]
  exact⟨⟨u,by simp,by simpa[cmbK]using hu.sv⟩,he⟩
 | cons c rest=>
  obtain⟨m,hm⟩:∃m,m=rest.length+1:=⟨_,rfl⟩
  have l1':lenAV Tryz.prog 136 vc=some (.int .i64 (m:Int)):=by rw[l1];simp[hm]
  have hmp:(0:Int)<m:=by omega
  have hmp':0<m:=by omega
  have ix:=kc.idx (k:=.i64) (i:=0) Tryz.underlying136 z5 (by omega) (by simp)
  obtain⟨cn,hcn⟩:∃cn:Nat,cn=c.toNat:=⟨_,rfl⟩
  replace ix:indexAddrAV Tryz.prog 136 vc (.int .i64 0)=some (.el (.int .u8 (cn:Int)) 0):=by rw[ix];simp[hcn,byteAV]
  obtain⟨rd,sd,svd⟩:=kc.drop Tryz.underlying136 z5 (k:=.i64) (i:=1) (by omega) (by simp;omega)
  rw[show(1:Int).toNat=1 from rfl,←List.map_drop,List.drop_succ_cons,List.drop_zero]at svd
  have cd:=svd.cells
  have id:=svd.isCell
  simp only[List.length_cons]at hlen
  refine vF (cJ t0 (cJ t4 (cJ c1 (cJ i1 (cJ n1 (cJ l1' (cJ uc (cJ ui (cJ hmp hmp'))))))))) ?_
  (with_reducible refine W_draw_id (pln:=true) [0,1,2,3,4,5,6] [] (by kernel_rfl) rfl ?_)
  refine vF (cJ t0 (cJ t4 (cJ c1 (cJ i1 (cJ n1 (cJ l1' (cJ uc (cJ ui (cJ sd (cJ cd id)))))))))) ?_
  refine⟨by simp[readSame,beqAV_self,t0,t4,c1,i1];done,_,by simp;first | done | rfl,?_⟩
  obtain⟨ha,hha⟩:∃ha:Hp Fm,ha={ h with obj:=Mp.set (Mp.set h.obj h.no (.row [.bool false,.int .i64 0,.str []])) h.no (.row [.bool false,.int .i64 0,.str []]),no:=h.no+1,drawn:=h.drew.drawn }:=⟨_,rfl⟩
  have ea:HE h ha:=by rw[hha];exact((HE.refl h).drew.new _).set (Nat.le_refl _) _
  have ga:Mp.get ha.obj h.no=some (.row [.bool false,.int .i64 0,.str []]):=by rw[hha];simp
  have na:h.no<ha.no:=by rw[hha];show h.no<h.no+1;omega
  have pa:∀z,ha.pol z=false:=fun z=>by rw[ea.pol];exact hph z
  rw[←hha]
  by_cases q1:cn=1
  ·have qc:c=1:=UInt8.toNat_inj.mp (by rw[←hcn,q1];rfl)
   subst qc
   have q1':(cn:Int)=1:=by omega
   refine vF (cJ t0 (cJ t4 (cJ c1 (cJ i1 (cJ n1 (cJ ix (cJ q1 (cJ q1' (cJ cd id))))))))) ?_
   by_cases q8:rest.length<8
   ·rw[readK_1s q8]at hfin
    refine A.mono (oword_short rest rd ha svd q8) ?_
    rintro _ h1 ⟨rfl,e1⟩
    have g1:Mp.get h1.obj h.no=some (.row [.bool false,.int .i64 0,.str []]):=(e1.obj _ na).trans ga
    refine vP ?_
    refine vYe61 g1 ?_
    (first | apply endW_r | apply endW_n);(case h1=>(simp[Tryz.results97];first | done | rfl))
    rw[←hfin]
    exact⟨⟨by simp,by decide⟩,((he.trans ea).trans e1).set he.no _⟩
   rw[readK_1 q8,cmbK_cmbK]at hfin
   refine A.mono (oword_ans rest rd ha svd (by omega) (by omega)) ?_
   rintro _ h1 ⟨v',rfl,sv',e1⟩
   obtain⟨nn,hnn⟩:∃nn:Int,nn=(val8 (rest.take 8):Int)-9223372036854775808:=⟨_,rfl⟩
   rw[←hnn]at hfin ⊢
   have g1:Mp.get h1.obj h.no=some (.row [.bool false,.int .i64 0,.str []]):=(e1.obj _ na).trans ga
   have cv:=sv'.cells
   have iv:=sv'.isCell
   have p1:∀z,h1.pol z=false:=fun z=>by rw[e1.pol];exact pa z
   have eb:=((ea.trans e1).set (Nat.le_refl _) (.row (encPt (KP.isT ⟨false,nn,[]⟩) (KP.num ⟨false,nn,[]⟩) (KP.txt ⟨false,nn,[]⟩)).cells)).newSl 1
   refine vP ?_
   refine vYe62 (cJ g1 (cJ cv (cJ iv (cJ t4 (cJ uc (cJ ui p1)))))) ?_
   with_reducible apply WO_app_i;(case hw=>(simp[encPt,g1,cv,iv,t4,uc,ui,newSeq,newSl,p1];done));(case ho=>rfl);(case hb=>rfl);(case ha=>(simp[encPt,g1,cv,iv,t4,uc,ui,newSeq,newSl,p1];first | done | exact⟨rfl,rfl⟩ | rfl));(case h1=>(simp;first | done | rfl));(case h2=>(simp;first | done | rfl))
   refine app_then (AC.app (h0:=h0) etP (hu.of eb) (he.trans eb) (hp _) (by simp;omega)) ?_
   rintro x4 h4 ⟨ac4,he4,_,_,_⟩
   have e4:=ac4.sv.cells
   have f4:=ac4.sv.isCell
   refine vP ?_
   refine vF (cJ t4 (cJ e4 (cJ f4 (cJ cv iv)))) ?_
   refine⟨(rest.drop 8).length,by simp;omega,_,h4,done++[⟨false,nn,[]⟩],(rest.drop 8),x4,v',rfl,rfl,(by simp at hlen ⊢;omega),hfin,by simp,sv',by simp,?_,he4⟩
   have:(done++[(⟨false,nn,[]⟩:KP)]).map encK=done.map encK++[encPt (KP.isT ⟨false,nn,[]⟩) (KP.num ⟨false,nn,[]⟩) (KP.txt ⟨false,nn,[]⟩)]:=by simp
   rw[this];exact ac4
  have q1':¬(cn:Int)=1:=by omega
  by_cases q2:cn=2
  ·have qc:c=2:=UInt8.toNat_inj.mp (by rw[←hcn,q2];rfl)
   subst qc
   have q2':(cn:Int)=2:=by omega
   refine vF (cJ t0 (cJ t4 (cJ c1 (cJ i1 (cJ n1 (cJ ix (cJ q1 (cJ q1' (cJ q2 (cJ q2' (cJ cd id))))))))))) ?_
   refine A.mono (owords_ans rest rd ha svd (by omega) (pa _)) ?_
   rintro r0 h1 ⟨hr,e1⟩
   cases hw:words rest with
   | error e=>
    rw[readK_2e hw]at hfin
    rw[hw]at hr
    replace hr:r0=.tup [encPt false 0 [],.nils,.int .i64 e]:=hr
    rw[hr]
    have he0:e≠0:=by rcases words_err hw with q | q <;> omega
    have g1:Mp.get h1.obj h.no=some (.row [.bool false,.int .i64 0,.str []]):=(e1.obj _ na).trans ga
    refine vP ?_
    refine vYe61 (cJ g1 he0) ?_
    (first | apply endW_r | apply endW_n);(case h1=>(simp[Tryz.results97];first | done | rfl))
    rw[←hfin]
    exact⟨⟨by simp,he0⟩,((he.trans ea).trans e1).set he.no _⟩
   | ok w=>
    obtain⟨s,rr⟩:=w
    rw[readK_2 hw,cmbK_cmbK]at hfin
    rw[hw]at hr
    obtain⟨v',rfl,sv'⟩:=hr
    have wl:=words_len hw
    have g1:Mp.get h1.obj h.no=some (.row [.bool false,.int .i64 0,.str []]):=(e1.obj _ na).trans ga
    have cv:=sv'.cells
    have iv:=sv'.isCell
    have p1:∀z,h1.pol z=false:=fun z=>by rw[e1.pol];exact pa z
    have eb:=((ea.trans e1).set (Nat.le_refl _) (.row (encPt (KP.isT ⟨true,0,s⟩) (KP.num ⟨true,0,s⟩) (KP.txt ⟨true,0,s⟩)).cells)).newSl 1
    refine vP ?_
    refine vYe62 (cJ g1 (cJ cv (cJ iv (cJ t4 (cJ uc (cJ ui p1)))))) ?_
    with_reducible apply WO_app_i;(case hw=>(simp[encPt,g1,cv,iv,t4,uc,ui,newSeq,newSl,p1];done));(case ho=>rfl);(case hb=>rfl);(case ha=>(simp[encPt,g1,cv,iv,t4,uc,ui,newSeq,newSl,p1];first | done | exact⟨rfl,rfl⟩ | rfl));(case h1=>(simp;first | done | rfl));(case h2=>(simp;first | done | rfl))
    refine app_then (AC.app (h0:=h0) etP (hu.of eb) (he.trans eb) (hp _) (by simp;omega)) ?_
    rintro x4 h4 ⟨ac4,he4,_,_,_⟩
    have e4:=ac4.sv.cells
    have f4:=ac4.sv.isCell
    refine vP ?_
    refine vF (cJ t4 (cJ e4 (cJ f4 (cJ cv iv)))) ?_
    refine⟨rr.length,by simp;omega,_,h4,done++[⟨true,0,s⟩],rr,x4,v',rfl,rfl,(by simp at hlen ⊢;omega),hfin,by simp,sv',by simp,?_,he4⟩
    have:(done++[(⟨true,0,s⟩:KP)]).map encK=done.map encK++[encPt (KP.isT ⟨true,0,s⟩) (KP.num ⟨true,0,s⟩) (KP.txt ⟨true,0,s⟩)]:=by simp
    rw[this];exact ac4
  have q2':¬(cn:Int)=2:=by omega
  rw[readK_x (fun z=>q1 (by rw[hcn,z];rfl)) (fun z=>q2 (by rw[hcn,z];rfl))]at hfin
  refine vF (cJ t0 (cJ t4 (cJ c1 (cJ i1 (cJ n1 (cJ ix (cJ q1 (cJ q1' (cJ q2 (cJ q2' (cJ cd id))))))))))) ?_
  (first | apply endW_r | apply endW_n);(case h1=>(simp[Tryz.results97];first | done | rfl))
  rw[←hfin]
  exact⟨⟨by simp,by decide⟩,he.trans ea⟩
end Go.Vn

set_option maxRecDepth 20000
namespace Go.Vn
open Go.Proofs
theorem xorhigh(n:Nat)(h:n<9223372036854775808):n ^^^ 9223372036854775808=n+9223372036854775808:=by
 have d:=Nat.xor_div_two_pow (a:=n) (b:=9223372036854775808) (n:=63)
 have m:=Nat.xor_mod_two_pow (a:=n) (b:=9223372036854775808) (n:=63)
 have t1:9223372036854775808 / 2 ^ 63=1:=by decide
 have t2:9223372036854775808%2 ^ 63=0:=by decide
 rw[t1]at d
 rw[t2,Nat.xor_zero]at m
 have p:(2:Nat) ^ 63=9223372036854775808:=by decide
 rw[p]at d m
 generalize n ^^^ 9223372036854775808=x at *
 have q:n / 9223372036854775808=0:=by omega
 rw[q]at d
 have:(0 ^^^ 1:Nat)=1:=by decide
 omega
theorem writeK_app(l:List KP)(p:KP):writeK (l++[p])=writeK l++writeP p:=by simp[writeK]
theorem esc_app(s:List UInt8)(c:UInt8):esc (s++[c])=esc s++(if c=0 then [0,255]else [c]):=by simp[esc]
theorem esc_len(s:List UInt8):(esc s).length≤2*s.length:=by
 induction s with
 | nil=>simp[esc]
 | cons c s ih=>
  have:esc (c::s)=(if c=0 then [0,255]else [c])++esc s:=by simp[esc]
  rw[this,List.length_append,List.length_cons]
  split <;> simp <;> omega
theorem bytes8_len(n:Nat):(bytes8 n).length=8:=by simp[bytes8]
theorem bytes8_take(n j:Nat)(h:j<8):(bytes8 n).take (j+1)=(bytes8 n).take j++[UInt8.ofNat (n / 256 ^ (7-j)%256)]:=by
 rw[List.take_succ_eq_append_getElem (by rw[bytes8_len];omega)]
 simp[bytes8]
def PartOk(p:KP):Prop:=0≤p.num∧p.num≤1000∧p.txt.length≤1000
theorem writeP_len{p:KP}(h:PartOk p):(writeP p).length≤2003:=by
 unfold writeP
 have:=esc_len p.txt
 have:=h.2.2
 split <;> simp[bytes8_len] <;> omega
theorem writeK_len{l:List KP}(h:∀p∈l,PartOk p):(writeK l).length≤2003*l.length:=by
 induction l with
 | nil=>simp[writeK]
 | cons p l ih=>
  have:=ih fun q hq=>h q (List.mem_cons_of_mem _ hq)
  have h2:=writeP_len (h p List.mem_cons_self)
  simp only[writeK,List.flatMap_cons,List.length_append,List.length_cons]at *
  omega
theorem vYf58{F G K:Prop}(f:F)(k:K)(h:F→K→G:=by intro f k;(repeat(first|with_reducible first|refine vmR ?_|refine vmV rfl ?_|refine vmW rfl ?_|refine vmL ?_|refine blockW_y (by decide) ?_|((with_reducible first|apply vmO|apply vmT|apply vmC);case a=>simp[f,encPt,newSeq,newSl];with_reducible first|exact .v|exact .c|exact .t|exact .f)));exact k):G:=h f k
theorem vYf59{F G K:Prop}(f:F)(k:K)(h:F→K→G:=by intro f k;(repeat(first|with_reducible first|refine vmR ?_|refine vmV rfl ?_|refine vmW rfl ?_|refine vmL ?_|refine blockW_y (by decide) ?_|((with_reducible first|apply vmO|apply vmT|apply vmC);case a=>simp[f,newSeq,newSl];with_reducible first|exact .v|exact .c|exact .t|exact .f)));exact k):G:=h f k
theorem vYf60{F G K:Prop}(f:F)(k:K)(h:F→K→G:=by intro f k;(repeat(first|with_reducible first|refine vmR ?_|refine vmV rfl ?_|refine vmW rfl ?_|refine vmL ?_|refine blockW_y (by decide) ?_|((with_reducible first|apply vmO|apply vmT|apply vmC);case a=>simp[f,newSeq,newSl,shiftBin];with_reducible first|exact .v|exact .c|exact .t|exact .f)));exact k):G:=h f k
set_option maxHeartbeats 4000000 in
theorem owrite_ans(l:List KP)(v:AV)(h0:Hp Fm)(k:SV 3 (l.map encK) v)(hl:l.length≤100)(hok:∀p∈l,PartOk p)(hp:∀z,h0.pol z=false) :
  A Tryz.prog TT (.func 118) [v] h0 (fun r h'=>SV 1 ((writeK l).map byteAV) r∧HE h0 h'):=by
 have c1:=k.cells
 have i1:=k.isCell
 have n1:=k.nm
 have l1:=k.len Tryz.underlying140
 rw[List.length_map]at l1
 apply A_go Tryz.func118 rfl (by rfl);(case hn=>(simp[Tryz.ntmps118];rfl))
 refine vF (cJ c1 (cJ i1 (cJ n1 l1))) ?_
 refine W_loop (fun m s=>∃(t:Fm AV) (h:Hp Fm) (done rest:List KP) (u:AV),s=⟨t,66,h,none⟩∧m=rest.length∧l=done++rest∧tget t 9=v∧tget t 10=.int .i64 l.length∧tget t 11=.int .i64 done.length∧tget t 3=u∧AC h0 h 1 ((writeK done).map byteAV) u∧HE h0 h) l.length
  ⟨_,_,[],l,.nils,rfl,rfl,rfl,by simp,by simp,by simp,by simp,.inl ⟨rfl,rfl⟩,HE.refl h0⟩ ?_
 rintro m s ⟨t,h,done,rest,u,rfl,rfl,hdr,t9,t10,t11,t3,hu,he⟩
 have uc:=hu.sv.cells
 have ui:=hu.sv.isCell
 have hlen:l.length=done.length+rest.length:=by rw[hdr];simp
 obtain⟨i,hi⟩:∃i,i=done.length:=⟨_,rfl⟩
 rw[←hi]at t11 hlen
 cases rest with
 | nil=>
  have q:¬((i:Int)<l.length):=by simp at hlen;omega
  have q':¬(i<l.length):=by omega
  refine vF (cJ t9 (cJ t10 (cJ t11 (cJ t3 (cJ q (cJ q' (cJ uc ui))))))) ?_
  (first | apply endW_r | apply endW_n);(case h1=>(simp[Tryz.results118];first | done | rfl))
  rw[hdr]
  exact⟨by simpa using hu.sv,he⟩
 | cons p rest=>
  have q:((i:Int)<l.length):=by simp at hlen;omega
  have q':(i<l.length):=by omega
  have hpk:=hok p (by rw[hdr];simp)
  have hdl:=writeK_len (l:=done) fun x hx=>hok x (by rw[hdr];simp[hx])
  have hwl:(writeK done).length≤200300:=by omega
  have ix:=k.idx (k:=.i64) (i:=(i:Int)) Tryz.underlying140 z139 (by omega) (by simp;omega)
  have ig:(l.map encK)[i]'(by simp;omega)=encPt p.isT p.num p.txt:=by simp[hdr,hi]
  simp only[Int.toNat_natCast,ig]at ix
  have hph:∀z,h.pol z=false:=fun z=>by rw[he.pol];exact hp z
  have w1:IntKind.i64.wrap ((i:Int)+1)=((i+1:Nat):Int):=by rw[wrap64 (by omega) (by omega)];simp
  have eb:=((HE.refl h).new (.row [.bool false,.int .i64 0,.str []])).set (Nat.le_refl _) (.row (encPt p.isT p.num p.txt).cells)
  obtain⟨pt,pn,ps⟩:=p
  obtain⟨hpn0,hpn1,hps⟩:=hpk
  simp only at hpn0 hpn1 hps ix eb
  cases pt with
  | true=>
   have psl:(ps.length:Int)=ps.length:=rfl
   refine vYf58 (cJ t9 (cJ t10 (cJ t11 (cJ t3 (cJ q (cJ q' (cJ ix (cJ uc (cJ ui hph))))))))) ?_
   with_reducible apply WO_app_i;(case hw=>(simp[t9,t10,t11,t3,q,q',ix,uc,ui,newSeq,newSl,hph,encPt];done));(case ho=>rfl);(case hb=>rfl);(case ha=>(simp[t9,t10,t11,t3,q,q',ix,uc,ui,newSeq,newSl,hph,encPt];first | done | exact⟨rfl,rfl⟩ | rfl));(case h1=>(simp;first | done | rfl));(case h2=>(simp;first | done | rfl))
   refine app_then (AC.app (h0:=h0) etB (hu.of (eb.newSl 1)) (he.trans (eb.newSl 1)) (hp _) (by simp;omega)) ?_
   rintro x4 h4 ⟨ac4,he4,ho4,hn4,hg4⟩
   have e4:=ac4.sv.cells
   have f4:=ac4.sv.isCell
   have g4:Mp.get h4.obj h.no=some (.row [.bool true,.int .i64 pn,.str ps]):=by rw[ho4];simp[encPt]
   have nn4:h.no<h4.no:=by rw[hn4];show h.no<h.no+1;omega
   clear ho4 hn4 hg4
   refine vP ?_
   refine vF g4 ?_
   refine W_loop (fun m s=>∃(t:Fm AV) (h':Hp Fm) (j:Nat) (u:AV),s=⟨t,66,h',none⟩∧m=ps.length-j∧j≤ps.length∧tget t 9=v∧tget t 10=.int .i64 l.length∧tget t 11=.int .i64 i∧tget t 5=.ptr h.no 0∧tget t 22=.int .i64 ps.length∧tget t 23=.int .i64 j∧tget t 3=u∧AC h0 h' 1 ((writeK done++2::esc (ps.take j)).map byteAV) u∧HE h0 h'∧Mp.get h'.obj h.no=some (.row [.bool true,.int .i64 pn,.str ps])) ps.length
    ⟨_,_,0,x4,rfl,rfl,by omega,by simp[t9],by simp[t10],by simp[t11],by simp,by simp,by simp,by simp,by simpa[esc,byteAV]using ac4,he4,g4⟩ ?_
   clear t9 t10 t11 t3 uc ui t
   rintro m s ⟨t,h',j,u',rfl,rfl,hj,t9,t10,t11,t5,t22,t23,t3,hu',he',g5⟩
   have uc:=hu'.sv.cells
   have ui:=hu'.sv.isCell
   have hph':∀z,h'.pol z=false:=fun z=>by rw[he'.pol];exact hp z
   have hel:=esc_len (ps.take j)
   have htl:(ps.take j).length≤1000:=by rw[List.length_take];omega
   by_cases qj:j<ps.length
   case neg=>
    have qj':¬(j:Int)<ps.length:=by omega
    refine vYf59 (cJ t9 (cJ t10 (cJ t11 (cJ t5 (cJ t22 (cJ t23 (cJ t3 (cJ qj (cJ qj' (cJ uc (cJ ui hph'))))))))))) ?_
    with_reducible apply WO_app_i;(case hw=>(simp[t9,t10,t11,t5,t22,t23,t3,qj,qj',uc,ui,newSeq,newSl,hph'];done));(case ho=>rfl);(case hb=>rfl);(case ha=>(simp[t9,t10,t11,t5,t22,t23,t3,qj,qj',uc,ui,newSeq,newSl,hph'];first | done | exact⟨rfl,rfl⟩ | rfl));(case h1=>(simp;first | done | rfl));(case h2=>(simp;first | done | rfl))
    refine app_then (AC.appN (h0:=h0) (new:=([0,1]:List UInt8).map byteAV) etB (hu'.of ((HE.refl h').newSl 2)) (he'.newSl 2) (hp _) rfl (by simp;omega)) ?_
    rintro x5 h5 ⟨ac5,he5,_,_,_⟩
    have e5:=ac5.sv.cells
    have f5:=ac5.sv.isCell
    refine vP ?_
    refine vF (cJ t9 (cJ t10 (cJ t11 (cJ e5 (cJ f5 w1))))) ?_
    refine⟨rest.length,by simp,_,_,done++[⟨true,pn,ps⟩],rest,x5,rfl,rfl,by rw[hdr];simp,by simp[t9],by simp[t10],by simp[hi],by simp,?_,he5⟩
    have ej:ps.take j=ps:=List.take_of_length_le (by omega)
    rw[ej]at ac5
    have:(writeK (done++[⟨true,pn,ps⟩])).map byteAV=(writeK done++2::esc ps).map byteAV++([0,1]:List UInt8).map byteAV:=by rw[writeK_app];simp[writeP]
    rw[this];exact ac5
   have qj':(j:Int)<ps.length:=by omega
   obtain⟨c,hc⟩:∃c:UInt8,c=ps[j]:=⟨_,rfl⟩
   have jx:indexAV Tryz.prog 9 (.str ps) (.int .i64 (j:Int))=some (.int .u8 (c.toNat:Int)):=by
    simp[indexAV,Tryz.underlying9,List.getElem?_eq_getElem qj,byteAV,hc]
   obtain⟨cn,hcn⟩:∃cn:Nat,cn=c.toNat:=⟨_,rfl⟩
   rw[←hcn]at jx
   have et:ps.take (j+1)=ps.take j++[c]:=by rw[List.take_succ_eq_append_getElem qj,hc]
   have w2:IntKind.i64.wrap ((j:Int)+1)=((j+1:Nat):Int):=by rw[wrap64 (by omega) (by omega)];simp
   refine vYf59 (cJ t9 (cJ t10 (cJ t11 (cJ t5 (cJ t22 (cJ t23 (cJ t3 (cJ qj (cJ qj' (cJ uc (cJ ui (cJ hph' (cJ g5 jx))))))))))))) ?_
   with_reducible apply WO_app_i;(case hw=>(simp[t9,t10,t11,t5,t22,t23,t3,qj,qj',uc,ui,newSeq,newSl,hph',g5,jx];done));(case ho=>rfl);(case hb=>rfl);(case ha=>(simp[t9,t10,t11,t5,t22,t23,t3,qj,qj',uc,ui,newSeq,newSl,hph',g5,jx];first | done | exact⟨rfl,rfl⟩ | rfl));(case h1=>(simp;first | done | rfl));(case h2=>(simp;first | done | rfl))
   refine app_then (AC.app (h0:=h0) etB (hu'.of ((HE.refl h').newSl 1)) (he'.newSl 1) (hp _) (by simp;omega)) ?_
   rintro x5 h5 ⟨ac5,he5,ho5,hn5,hg5⟩
   have e5:=ac5.sv.cells
   have f5:=ac5.sv.isCell
   have g6:Mp.get h5.obj h.no=some (.row [.bool true,.int .i64 pn,.str ps]):=by rw[ho5];exact g5
   have hph5:∀z,h5.pol z=false:=fun z=>by rw[he5.pol];exact hp z
   refine vP ?_
   by_cases qc:cn=0
   ·have qc0:c=0:=by rw[qc]at hcn;exact UInt8.toNat_inj.mp hcn.symm
    refine vYf59 (cJ t9 (cJ t10 (cJ t11 (cJ t5 (cJ t22 (cJ t23 (cJ e5 (cJ f5 (cJ g6 (cJ jx (cJ qc hph5))))))))))) ?_
    with_reducible apply WO_app_i;(case hw=>(simp[t9,t10,t11,t5,t22,t23,e5,f5,g6,jx,qc,newSeq,newSl,hph5];done));(case ho=>rfl);(case hb=>rfl);(case ha=>(simp[t9,t10,t11,t5,t22,t23,e5,f5,g6,jx,qc,newSeq,newSl,hph5];first | done | exact⟨rfl,rfl⟩ | rfl));(case h1=>(simp;first | done | rfl));(case h2=>(simp;first | done | rfl))
    refine app_then (AC.app (h0:=h0) etB (ac5.of ((HE.refl h5).newSl 1)) (he5.newSl 1) (hp _) (by simp;omega)) ?_
    rintro x6 h6 ⟨ac6,he6,ho6,hn6,_⟩
    have e6:=ac6.sv.cells
    have f6:=ac6.sv.isCell
    have g7:Mp.get h6.obj h.no=some (.row [.bool true,.int .i64 pn,.str ps]):=by rw[ho6];exact g6
    refine vP ?_
    refine vF (cJ t9 (cJ t10 (cJ t11 (cJ t5 (cJ t22 (cJ t23 (cJ e6 (cJ f6 w2)))))))) ?_
    refine⟨ps.length-(j+1),by omega,_,h6,j+1,x6,rfl,rfl,by omega,by simp[t9],by simp[t10],by simp[t11],by simp[t5],by simp[t22],by simp,by simp,?_,he6,g7⟩
    have:(writeK done++2::esc (ps.take (j+1))).map byteAV=(writeK done++2::esc (ps.take j)).map byteAV++[.int .u8 cn]++[.int .u8 255]:=by
     rw[et,esc_app,qc0,qc];simp[byteAV]
    rw[this];exact ac6
   ·have qc0:¬c=0:=fun z=>qc (by rw[hcn,z];rfl)
    refine vF (cJ t9 (cJ t10 (cJ t11 (cJ t5 (cJ t22 (cJ t23 (cJ e5 (cJ f5 (cJ g6 (cJ jx (cJ qc w2))))))))))) ?_
    refine⟨ps.length-(j+1),by omega,_,h5,j+1,x5,rfl,rfl,by omega,by simp[t9],by simp[t10],by simp[t11],by simp[t5],by simp[t22],by simp,by simp,?_,he5,g6⟩
    have:(writeK done++2::esc (ps.take (j+1))).map byteAV=(writeK done++2::esc (ps.take j)).map byteAV++[.int .u8 cn]:=by
     rw[et,esc_app,if_neg qc0];simp[byteAV,hcn]
    rw[this];exact ac5
  | false=>
   obtain⟨x,hx⟩:∃x,x=pn.toNat:=⟨_,rfl⟩
   have epn:pn=(x:Int):=by omega
   subst epn
   have fc:IntKind.u64.wrap (x:Int)=(x:Int):=wrapU64 (by omega)
   obtain⟨n,hn⟩:∃n,n=x+9223372036854775808:=⟨_,rfl⟩
   have fx:IntKind.u64.wrap (↑(x%2 ^ IntKind.u64.bits ^^^ 9223372036854775808%2 ^ IntKind.u64.bits):Int)=(n:Int):=by
    have e1:x%2 ^ IntKind.u64.bits=x:=Nat.mod_eq_of_lt (by simp only[IntKind.bits];omega)
    have e2:9223372036854775808%2 ^ IntKind.u64.bits=9223372036854775808:=by decide
    rw[e1,e2,xorhigh x (by omega),←hn]
    exact wrapU64 (by omega)
   refine vYf58 (cJ t9 (cJ t10 (cJ t11 (cJ t3 (cJ q (cJ q' (cJ ix (cJ uc (cJ ui hph))))))))) ?_
   with_reducible apply WO_app_i;(case hw=>(simp[t9,t10,t11,t3,q,q',ix,uc,ui,newSeq,newSl,hph,encPt];done));(case ho=>rfl);(case hb=>rfl);(case ha=>(simp[t9,t10,t11,t3,q,q',ix,uc,ui,newSeq,newSl,hph,encPt];first | done | exact⟨rfl,rfl⟩ | rfl));(case h1=>(simp;first | done | rfl));(case h2=>(simp;first | done | rfl))
   refine app_then (AC.app (h0:=h0) etB (hu.of (eb.newSl 1)) (he.trans (eb.newSl 1)) (hp _) (by simp;omega)) ?_
   rintro x4 h4 ⟨ac4,he4,ho4,hn4,hg4⟩
   have e4:=ac4.sv.cells
   have f4:=ac4.sv.isCell
   have g4:Mp.get h4.obj h.no=some (.row [.bool false,.int .i64 x,.str ps]):=by rw[ho4];simp[encPt]
   clear ho4 hn4 hg4
   refine vP ?_
   refine vF (cJ g4 (cJ fc fx)) ?_
   refine W_loop (fun m s=>∃(t:Fm AV) (h':Hp Fm) (j:Nat) (u:AV),s=⟨t,66,h',none⟩∧m=8-j∧j≤8∧tget t 9=v∧tget t 10=.int .i64 l.length∧tget t 11=.int .i64 i∧tget t 7=.int .u64 n∧tget t 8=.int .i64 (7-(j:Int))∧tget t 3=u∧AC h0 h' 1 ((writeK done++1::(bytes8 n).take j).map byteAV) u∧HE h0 h') 8
    ⟨_,_,0,x4,rfl,rfl,by omega,by simp[t9],by simp[t10],by simp[t11],by simp,by simp,by simp,by simpa[byteAV]using ac4,he4⟩ ?_
   clear t9 t10 t11 t3 uc ui t
   rintro m s ⟨t,h',j,u',rfl,rfl,hj,t9,t10,t11,t7,t8,t3,hu',he'⟩
   have uc:=hu'.sv.cells
   have ui:=hu'.sv.isCell
   have hph':∀z,h'.pol z=false:=fun z=>by rw[he'.pol];exact hp z
   by_cases qj:j<8
   case neg=>
    have qj':¬(0:Int)≤7-(j:Int):=by omega
    have ej:j=8:=by omega
    subst ej
    refine vF (cJ t9 (cJ t10 (cJ t11 (cJ t7 (cJ t8 (cJ t3 (cJ uc (cJ ui w1)))))))) ?_
    refine⟨rest.length,by simp,_,_,done++[⟨false,x,ps⟩],rest,u',rfl,rfl,by rw[hdr];simp,by simp[t9],by simp[t10],by simp[hi],by simp[t3],?_,he'⟩
    have:writeK (done++[⟨false,(x:Int),ps⟩])=writeK done++1::(bytes8 n).take 8:=by
     rw[writeK_app,List.take_of_length_le (by rw[bytes8_len];omega),hn];rfl
    rw[this];exact hu'
   obtain⟨r,hr⟩:∃r:Nat,r=7-j:=⟨_,rfl⟩
   have er:(7-(j:Int))=(r:Int):=by omega
   rw[er]at t8
   obtain⟨e,he8⟩:∃e:Nat,e=8*r:=⟨_,rfl⟩
   have w2:IntKind.i64.wrap (8*(r:Int))=(e:Int):=by rw[wrap64 (by omega) (by omega)];omega
   have ne8:¬(e:Int)<0:=by omega
   have w3:IntKind.i64.wrap ((r:Int)-1)=7-((j+1:Nat):Int):=by rw[wrap64 (by omega) (by omega)];omega
   obtain⟨d,hd⟩:∃d,d=n / 256 ^ r:=⟨_,rfl⟩
   obtain⟨dm,hdm⟩:∃dm,dm=d%256:=⟨_,rfl⟩
   have sh:Int.fdiv (n:Int) (2 ^ min e IntKind.u64.bits)=(d:Int):=by
    have e1:min e IntKind.u64.bits=e:=by simp only[IntKind.bits];omega
    have e2:(2:Int) ^ e=((256 ^ r:Nat):Int):=by rw[he8,Int.pow_mul];simp
    rw[e1,e2,Int.fdiv_eq_ediv_of_nonneg _ (Int.natCast_nonneg _),hd];simp
   have cb:IntKind.u8.wrap (d:Int)=(dm:Int):=by rw[hdm];exact wrap8m d
   refine vYf60 (cJ t9 (cJ t10 (cJ t11 (cJ t7 (cJ t8 (cJ t3 (cJ uc (cJ ui (cJ hph' (cJ w2 (cJ ne8 (cJ sh cb)))))))))))) ?_
   with_reducible apply WO_app_i;(case hw=>(simp[t9,t10,t11,t7,t8,t3,uc,ui,newSeq,newSl,hph',w2,shiftBin,ne8,sh,cb];done));(case ho=>rfl);(case hb=>rfl);(case ha=>(simp[t9,t10,t11,t7,t8,t3,uc,ui,newSeq,newSl,hph',w2,shiftBin,ne8,sh,cb];first | done | exact⟨rfl,rfl⟩ | rfl));(case h1=>(simp;first | done | rfl));(case h2=>(simp;first | done | rfl))
   refine app_then (AC.app (h0:=h0) etB (hu'.of ((HE.refl h').newSl 1)) (he'.newSl 1) (hp _) (by simp;omega)) ?_
   rintro x5 h5 ⟨ac5,he5,_,_,_⟩
   have e5:=ac5.sv.cells
   have f5:=ac5.sv.isCell
   refine vP ?_
   refine vF (cJ t9 (cJ t10 (cJ t11 (cJ t7 (cJ t8 (cJ e5 (cJ f5 w3))))))) ?_
   refine⟨8-(j+1),by omega,_,h5,j+1,x5,rfl,rfl,by omega,by simp[t9],by simp[t10],by simp[t11],by simp[t7],by simp,by simp,?_,he5⟩
   have:(writeK done++1::(bytes8 n).take (j+1)).map byteAV=(writeK done++1::(bytes8 n).take j).map byteAV++[.int .u8 dm]:=by
    rw[bytes8_take n j qj,←hr,←hd,←hdm];simp[byteAV];omega
   rw[this];exact ac5
end Go.Vn

set_option maxRecDepth 20000
namespace Go.Vn
open Go.Proofs
def keyB(n:Int)(s:List UInt8):List UInt8:=writeK [⟨false,n,[]⟩,⟨true,0,s⟩]
theorem okey_bad(n:Int)(s:List UInt8)(h:n<0∨4≤n)(h0:Hp Fm):A Tryz.prog TT (.func 98) [.int .i64 n,.str s] h0 (fun r h'=>r=.tup [.str [],.int .i64 1]∧h'=h0):=by
 by_cases q1:n<0
 ·apply A_go Tryz.func98 rfl (by rfl);(case hn=>(simp[Tryz.ntmps98];rfl))
  refine vF q1 ?_
  (first | apply endW_r | apply endW_n);(case h1=>(simp[Tryz.results98];first | done | rfl))
  exact⟨by simp,rfl⟩
 ·have q2:4≤n:=by omega
  apply A_go Tryz.func98 rfl (by rfl);(case hn=>(simp[Tryz.ntmps98];rfl))
  refine vF (cJ q1 q2) ?_
  (first | apply endW_r | apply endW_n);(case h1=>(simp[Tryz.results98];first | done | rfl))
  exact⟨by simp,rfl⟩
theorem okey_long(n:Int)(s:List UInt8)(q1:¬n<0)(q2:¬4≤n)(q3:40<s.length)(h0:Hp Fm):A Tryz.prog TT (.func 98) [.int .i64 n,.str s] h0 (fun r h'=>r=.tup [.str [],.int .i64 5]∧h'=h0):=by
 have q3':(40:Int)<s.length:=by omega
 apply A_go Tryz.func98 rfl (by rfl);(case hn=>(simp[Tryz.ntmps98];rfl))
 refine vF (cJ q1 (cJ q2 (cJ q3 q3'))) ?_
 (first | apply endW_r | apply endW_n);(case h1=>(simp[Tryz.results98];first | done | rfl))
 exact⟨by simp,rfl⟩
theorem vYg54{F G K:Prop}(f:F)(k:K)(h:F→K→G:=by intro f k;(repeat(first|with_reducible first|refine vmR ?_|refine vmV rfl ?_|refine vmW rfl ?_|refine vmL ?_|refine blockW_y (by decide) ?_|((with_reducible first|apply vmO|apply vmT|apply vmC);case a=>simp[f,newSeq,newSl];with_reducible first|exact .v|exact .c|exact .t|exact .f)));exact k):G:=h f k
theorem okey_ans(n:Int)(s:List UInt8)(q1:¬n<0)(q2:¬4≤n)(q3:¬40<s.length)(h0:Hp Fm)(hp:∀z,h0.pol z=false):A Tryz.prog TT (.func 98) [.int .i64 n,.str s] h0 (fun r h'=>r=.tup [.str (keyB n s),.int .i64 0]∧HE h0 h'):=by
 have q3':¬(40:Int)<s.length:=by omega
 apply A_go Tryz.func98 rfl (by rfl);(case hn=>(simp[Tryz.ntmps98];rfl))
 refine vYg54 (cJ q1 (cJ q2 (cJ q3 (cJ q3' hp)))) ?_
 have e1:=(HE.refl h0).newSl 2
 have p1:∀z,({ h0 with len:=Mp.set h0.len h0.ng 2,ng:=h0.ng+1 }:Hp Fm).pol z=false:=hp
 refine A.mono (owrite_ans [⟨false,n,[]⟩,⟨true,0,s⟩] _ _ (.inr (.inl ⟨_,_,_,rfl⟩)) (by simp) ?_ p1) ?_
 ·intro p hp
  simp only[List.mem_cons,List.not_mem_nil,or_false]at hp
  rcases hp with rfl | rfl <;> refine⟨?_,?_,?_⟩ <;> simp <;> omega
 rintro r h1 ⟨sr,e2⟩
 have c1:=sr.cells
 have i1:=sr.isCell
 have cv:=fun h=>conv_txt h sr
 refine vP ?_
 refine vF (cJ c1 (cJ i1 cv)) ?_
 (first | apply endW_r | apply endW_n);(case h1=>(simp[Tryz.results98];first | done | rfl))
 exact⟨by simp[keyB],e1.trans e2⟩
theorem keyB_eq{b:List UInt8}{p q:KP}(h:readK b=.ok [p,q])(h1:p.isT=false)(h2:q.isT=true):keyB p.num q.txt=b:=by
 rw[←write_read h]
 simp[keyB,writeK,writeP,h1,h2]
def SplitR(k:List UInt8)(r:AV):Prop:=∃a s e,r=.tup [.int .i64 a,.str s,.int .i64 e]∧decide (e=0)=keyOk k
theorem vYg55{F G K:Prop}(f:F)(k:K)(h:F→K→G:=by intro f k;(repeat(first|with_reducible first|refine vmR ?_|refine vmV rfl ?_|refine vmW rfl ?_|refine vmL ?_|refine blockW_y (by decide) ?_|((with_reducible first|apply vmO|apply vmT|apply vmC);case a=>simp[f,encPt];with_reducible first|exact .v|exact .c|exact .t|exact .f)));exact k):G:=h f k
theorem vYg56{G K:Prop}(k:K)(h:K→G:=by intro k;(repeat(first|with_reducible first|refine vmR ?_|refine vmV rfl ?_|refine vmW rfl ?_|refine vmL ?_|refine blockW_y (by decide) ?_|((with_reducible first|apply vmO|apply vmT|apply vmC);case a=>simp[eqlAV];with_reducible first|exact .v|exact .c|exact .t|exact .f)));exact k):G:=h k
theorem vYg57{F G K:Prop}(f:F)(k:K)(h:F→K→G:=by intro f k;(repeat(first|with_reducible first|refine vmR ?_|refine vmV rfl ?_|refine vmW rfl ?_|refine vmL ?_|refine blockW_y (by decide) ?_|((with_reducible first|apply vmO|apply vmT|apply vmC);case a=>simp[f,eqlAV];with_reducible first|exact .v|exact .c|exact .t|exact .f)));exact k):G:=h f k
set_option maxHeartbeats 4000000 in
theorem osplit_ans(k:List UInt8)(h0:Hp Fm)(hl:k.length≤100000)(hp:∀z,h0.pol z=false) :
  A Tryz.prog TT (.func 72) [.str k] h0 (fun r h'=>SplitR k r∧HE h0 h'):=by
 have cb:=conv_b h0 k hl
 have e0:=(HE.refl h0).drew.newSl k.length
 apply A_go Tryz.func72 rfl (by rfl);(case hn=>(simp[Tryz.ntmps72];rfl))
 refine vF cb ?_
 refine A.mono (oread_ans k _ _ (.inr (.inl ⟨_,_,_,rfl⟩)) hl (by exact hp)) ?_
 rintro r h1 ⟨hr,e1⟩
 have e01:=e0.trans e1
 have p1:∀z,h1.pol z=false:=fun z=>by rw[e01.pol];exact hp z
 cases hk:readK k with
 | error e=>
  rw[hk]at hr
  obtain⟨rfl,hne⟩:=hr
  refine vP ?_
  refine vF hne ?_
  (first | apply endW_r | apply endW_n);(case h1=>(simp[Tryz.results72];first | done | rfl))
  exact⟨⟨0,[],e,by simp,by simp[keyOk,hk,hne]⟩,e01⟩
 | ok l=>
  rw[hk]at hr
  obtain⟨v,rfl,sv⟩:=hr
  have c1:=sv.cells
  have i1:=sv.isCell
  have n1:=sv.nm
  have l1:=sv.len Tryz.underlying140
  rw[List.length_map]at l1
  refine vP ?_
  by_cases q2:l.length=2
  case neg=>
   have q2':¬(l.length:Int)=2:=by omega
   have kf:keyOk k=false:=by
    unfold keyOk;rw[hk]
    split
    ·rename_i e;cases e;simp at q2
    ·rfl
   refine vF (cJ c1 (cJ i1 (cJ n1 (cJ l1 (cJ q2 q2'))))) ?_
   (first | apply endW_r | apply endW_n);(case h1=>(simp[Tryz.results72];first | done | rfl))
   exact⟨⟨0,[],2,by simp,by simp[kf]⟩,e01⟩
  obtain⟨p,q,rfl⟩:∃p q,l=[p,q]:=by
   match l,q2 with
   | [p,q],_=>exact⟨p,q,rfl⟩
  have ix0:=sv.idx (k:=.i64) (i:=0) Tryz.underlying140 z139 (by omega) (by simp)
  have ix1:=sv.idx (k:=.i64) (i:=1) Tryz.underlying140 z139 (by omega) (by simp)
  replace ix0:indexAddrAV Tryz.prog 140 v (.int .i64 0)=some (.el (encPt p.isT p.num p.txt) 0):=by rw[ix0];simp
  replace ix1:indexAddrAV Tryz.prog 140 v (.int .i64 1)=some (.el (encPt q.isT q.num q.txt) 0):=by rw[ix1];simp
  have ko:keyOk k=(!p.isT&&q.isT&&decide (0≤p.num)&&decide (p.num≤3)&&decide (q.txt.length≤40)):=by unfold keyOk;rw[hk]
  have l2:lenAV Tryz.prog 140 v=some (.int .i64 2):=by rw[l1];simp
  have ke:p.isT=false→q.isT=true→keyB p.num q.txt=k:=keyB_eq hk
  obtain⟨pt,pn,ps⟩:=p
  obtain⟨qt,qn,qs⟩:=q
  simp only at ix0 ix1 ko ke
  clear hk sv q2
  cases pt with
  | true=>
   refine vYg55 (cJ c1 (cJ i1 (cJ n1 (cJ l2 (cJ ix0 ix1))))) ?_
   (first | apply endW_r | apply endW_n);(case h1=>(simp[Tryz.results72];first | done | rfl))
   exact⟨⟨0,[],2,by simp,by simp[ko]⟩,e01⟩
  | false=>
   cases qt with
   | false=>
    refine vYg55 (cJ c1 (cJ i1 (cJ n1 (cJ l2 (cJ ix0 ix1))))) ?_
    (first | apply endW_r | apply endW_n);(case h1=>(simp[Tryz.results72];first | done | rfl))
    exact⟨⟨0,[],2,by simp,by simp[ko]⟩,e01⟩
   | true=>
    replace ke:=ke rfl rfl
    have es:eqB k k=true:=by rw[eqB_dec];simp
    refine vYg55 (cJ c1 (cJ i1 (cJ n1 (cJ l2 (cJ ix0 ix1))))) ?_
    (with_reducible refine W_draw_id (pln:=true) [0,1,2,3,4,5,6,7,8,9,10,11,12,13] [(3,(3,[])),(7,(7,[]))] (by kernel_rfl) rfl ?_)
    refine vYg55 (cJ c1 (cJ i1 (cJ n1 (cJ l2 (cJ ix0 ix1))))) ?_
    have e2:=e01.drew
    by_cases q1:pn<0∨4≤pn
    ·refine A.mono (okey_bad pn qs q1 _) ?_
     rintro _ h2 ⟨rfl,eh⟩
     rw[eh]
     refine vP ?_
     refine vF (cJ c1 i1) ?_
     refine⟨by simp[readSame,beqAV_self,c1,i1,ix0,ix1,encPt];done,_,by simp;first | done | rfl,?_⟩
     refine vYg56 ?_
     (first | apply endW_r | apply endW_n);(case h1=>(simp[Tryz.results72];first | done | rfl))
     exact⟨⟨0,[],2,by simp,by simp[ko];omega⟩,e2⟩
    have q1a:¬pn<0:=by omega
    have q1b:¬4≤pn:=by omega
    by_cases q3:40<qs.length
    ·refine A.mono (okey_long pn qs q1a q1b q3 _) ?_
     rintro _ h2 ⟨rfl,eh⟩
     rw[eh]
     refine vP ?_
     refine vF (cJ c1 i1) ?_
     refine⟨by simp[readSame,beqAV_self,c1,i1,ix0,ix1,encPt];done,_,by simp;first | done | rfl,?_⟩
     refine vYg56 ?_
     (first | apply endW_r | apply endW_n);(case h1=>(simp[Tryz.results72];first | done | rfl))
     exact⟨⟨0,[],2,by simp,by simp[ko];omega⟩,e2⟩
    refine A.mono (okey_ans pn qs q1a q1b q3 _ (by exact p1)) ?_
    rintro _ h2 ⟨rfl,e3⟩
    rw[ke]
    refine vP ?_
    refine vF (cJ c1 i1) ?_
    refine⟨by simp[readSame,beqAV_self,c1,i1,ix0,ix1,encPt];done,_,by simp;first | done | rfl,?_⟩
    refine vYg57 (cJ es (cJ c1 i1)) ?_
    (with_reducible refine W_draw_id (pln:=true) [0,1,2,3,4,5,6,7,8,9,10] [(3,(3,[])),(7,(7,[]))] (by kernel_rfl) rfl ?_)
    refine vYg55 (cJ c1 (cJ i1 (cJ n1 (cJ l2 (cJ ix0 ix1))))) ?_
    refine⟨by simp[readSame,beqAV_self,c1,i1,ix0,ix1,encPt];done,_,by simp;first | done | rfl,?_⟩
    refine vZ ?_
    (first | apply endW_r | apply endW_n);(case h1=>(simp[Tryz.results72];first | done | rfl))
    exact⟨⟨pn,qs,0,by simp,by simp[ko];omega⟩,e2.trans e3.drew⟩
end Go.Vn
