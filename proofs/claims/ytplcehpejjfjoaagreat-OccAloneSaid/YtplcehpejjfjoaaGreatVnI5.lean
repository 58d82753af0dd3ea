/- What functions of the program come to, in the value machine (a part of the proof of the claim's statement). No condition. -/
import Derived.Test.YtplcehpejjfjoaaGreatVnI4
import Derived.Test.YtplcehpejjfjoaaGreatVnI3
import Derived.Test.YtplcehpejjfjoaaGreatVnG6
set_option linter.unusedSimpArgs false
set_option linter.unusedVariables false
set_option maxRecDepth 20000
namespace Go.Vn
open Go.Proofs
theorem vJr50{F G K:Prop}(f:F)(k:K)(h:F→K→G:=by intro f k;(repeat(first|with_reducible first|refine vmR ?_|refine vmV rfl ?_|refine vmW rfl ?_|refine vmL ?_|refine blockW_y (by decide) ?_|((with_reducible first|apply vmO|apply vmT|apply vmC);case a=>simp[f,newSeq,newSl];with_reducible first|exact .v|exact .c|exact .t|exact .f)));exact k):G:=h f k
set_option maxHeartbeats 1000000 in
theorem text1_ans(s:List UInt8)(hs:s.length≤1000)(h0:Hp Fm)(hp:∀z,h0.pol z=false):A Tryz.prog TT (.func 89) [.str s] h0 (fun r h'=>SV 1 ((esc s++[0,1]).map byteAV) r∧HE h0 h'):=by
 apply A_go Tryz.func89 rfl (by rfl);(case hn=>(simp[Tryz.ntmps89];rfl))
 refine vZ ?_
 refine W.mono (R:=fun e s'=>e=.exit 0∧∃(t:Fm AV) (h:Hp Fm) (u:AV),s'=⟨t,27,h,none⟩∧tget t 3=u∧AC h0 h 1 ((esc s).map byteAV) u∧HE h0 h) ?_ ?_
 ·refine W_loop (fun z s'=>∃(t:Fm AV) (h:Hp Fm) (i:Nat) (u:AV),s'=⟨t,27,h,none⟩∧z=s.length-i∧i≤s.length∧tget t 0=.str s∧tget t 3=u∧tget t 4=.int .i64 i∧AC h0 h 1 ((esc (s.take i)).map byteAV) u∧HE h0 h) s.length
   ⟨_,_,0,.nils,rfl,rfl,by omega,by simp,by simp,by simp,.inl ⟨rfl,by simp[esc]⟩,HE.refl _⟩ ?_
  rintro _ _ ⟨t,h,i,u,rfl,rfl,hi,t0,t3,t4,hac,e1⟩
  by_cases q:i<s.length
  case neg=>
   have q':¬((i:Int)<s.length):=by omega
   refine vF (cJ t0 (cJ t4 (cJ q q'))) ?_
   rw[List.take_of_length_le (by omega)]at hac
   exact⟨rfl,_,_,u,rfl,by simp[t3],hac,e1⟩
  have q':(i:Int)<s.length:=by omega
  have uc:=hac.sv.cells
  have ui:=hac.sv.isCell
  obtain⟨c,hc⟩:∃c,c=s[i]:=⟨_,rfl⟩
  obtain⟨ip,hip⟩:∃ip,ip=i+1:=⟨_,rfl⟩
  have wip:IntKind.i64.wrap ((i:Int)+1)=(ip:Int):=by rw[wrap64 (by omega) (by omega)];omega
  have hel:(esc (s.take i)).length≤2*i:=by have:=esc_len (s.take i);rw[List.length_take]at this;omega
  have es:esc (s.take ip)=esc (s.take i)++(if c=0 then [0,255]else [c]):=by
   rw[hip,List.take_succ_eq_append_getElem q,←hc];simp[esc]
  have jx:indexAV Tryz.prog 9 (.str s) (.int .i64 (i:Int))=some (.int .u8 (c.toNat:Int)):=by
   simp[indexAV,Tryz.underlying9,List.getElem?_eq_getElem q,byteAV,hc]
  have hph:∀z,h.pol z=false:=fun z=>by rw[e1.pol];exact hp z
  have eb:=(HE.refl h).newSl 1
  refine vJr50 (cJ t0 (cJ t3 (cJ t4 (cJ q (cJ q' (cJ jx (cJ uc (cJ ui hph)))))))) ?_
  with_reducible apply WO_app_i;(case hw=>(simp[t0,t3,t4,q,q',jx,uc,ui,newSeq,newSl,hph];done));(case ho=>rfl);(case hb=>rfl);(case ha=>(simp[t0,t3,t4,q,q',jx,uc,ui,newSeq,newSl,hph];first | done | exact⟨rfl,rfl⟩ | rfl));(case h1=>(simp;first | done | rfl));(case h2=>(simp;first | done | rfl))
  refine app_then (AC.app (h0:=h0) etB (hac.of eb) (e1.trans eb) (hp _) (by simp;omega)) ?_
  rintro x4 h4 ⟨ac4,he4,_,_,_⟩
  have e4:=ac4.sv.cells
  have f4:=ac4.sv.isCell
  have acs:(esc (s.take i)).map byteAV++[.int .u8 (c.toNat:Int)]=(esc (s.take i)++[c]).map byteAV:=by simp[byteAV]
  rw[acs]at ac4
  refine vP ?_
  by_cases qc:c=0
  ·have q0:(c.toNat:Int)=0:=by rw[qc];rfl
   have jx0:indexAV Tryz.prog 9 (.str s) (.int .i64 (i:Int))=some (.int .u8 0):=by rw[jx,q0]
   rw[if_pos qc]at es
   have hph4:∀z,h4.pol z=false:=fun z=>by rw[he4.pol];exact hp z
   have eb4:=(HE.refl h4).newSl 1
   refine vJr50 (cJ t0 (cJ t4 (cJ jx0 (cJ e4 (cJ f4 hph4))))) ?_
   with_reducible apply WO_app_i;(case hw=>(simp[t0,t4,jx0,e4,f4,newSeq,newSl,hph4];done));(case ho=>rfl);(case hb=>rfl);(case ha=>(simp[t0,t4,jx0,e4,f4,newSeq,newSl,hph4];first | done | exact⟨rfl,rfl⟩ | rfl));(case h1=>(simp;first | done | rfl));(case h2=>(simp;first | done | rfl))
   refine app_then (AC.app (h0:=h0) etB (ac4.of eb4) (he4.trans eb4) (hp _) (by simp;omega)) ?_
   rintro x5 h5 ⟨ac5,he5,_,_,_⟩
   have e5:=ac5.sv.cells
   have f5:=ac5.sv.isCell
   have acs5:(esc (s.take i)++[c]).map byteAV++[.int .u8 255]=(esc (s.take i)++[0,255]).map byteAV:=by simp[byteAV,qc]
   rw[acs5,←es]at ac5
   refine vP ?_
   refine vF (cJ t0 (cJ t4 (cJ e5 (cJ f5 wip)))) ?_
   exact⟨s.length-ip,by omega,_,_,ip,x5,rfl,rfl,by omega,by simp[t0],by simp,by simp,ac5,he5⟩
  ·have q0:¬(c.toNat:Int)=0:=fun e=>qc (by
    have:c.toNat=0:=by omega
    exact UInt8.toNat_inj.mp (by simpa using this))
   have q0n:¬c.toNat=0:=fun e=>q0 (by omega)
   rw[if_neg qc]at es
   rw[←es]at ac4
   refine vF (cJ t0 (cJ t4 (cJ jx (cJ q0 (cJ q0n (cJ qc (cJ e4 (cJ f4 wip)))))))) ?_
   exact⟨s.length-ip,by omega,_,_,ip,x4,rfl,rfl,by omega,by simp[t0],by simp,by simp,ac4,he4⟩
 rintro e s' ⟨rfl,t,h,u,rfl,t3,hac,e1⟩
 have uc:=hac.sv.cells
 have ui:=hac.sv.isCell
 have hph:∀z,h.pol z=false:=fun z=>by rw[e1.pol];exact hp z
 have eb:=(HE.refl h).newSl 2
 have hel:=esc_len s
 have two:(2:Nat)*1≤2 ^ 40:=by omega
 refine vJr50 (cJ t3 (cJ uc (cJ ui hph))) ?_
 with_reducible apply WO_app_i;(case hw=>(simp[t3,uc,ui,newSeq,newSl,hph];done));(case ho=>rfl);(case hb=>rfl);(case ha=>(simp[t3,uc,ui,newSeq,newSl,hph];first | done | exact⟨rfl,rfl⟩ | rfl));(case h1=>(simp;first | done | rfl));(case h2=>(simp;first | done | rfl))
 refine app_then (AC.appN (h0:=h0) etB (hac.of eb) (e1.trans eb) (hp _) (SV.newEls (.inr (.inl ⟨_,_,_,rfl⟩))) (by simp;omega)) ?_
 rintro x5 h5 ⟨ac5,he5,_,_,_⟩
 have e5:=ac5.sv.cells
 have f5:=ac5.sv.isCell
 refine vP ?_
 refine vF (cJ e5 f5) ?_
 (first | apply endW_r | apply endW_n);(case h1=>(simp[Tryz.results89];first | done | rfl))
 have:(esc s).map byteAV++[.int .u8 0,.int .u8 1]=(esc s++[0,1]).map byteAV:=by simp[byteAV]
 rw[this]at ac5
 exact⟨ac5.sv,he5⟩
def keyZ(s:List UInt8):List UInt8:=1::(zeroB++2::(esc s++[0,1]))
theorem vJr51{F G K:Prop}(f:F)(k:K)(h:F→K→G:=by intro f k;(repeat(first|with_reducible first|refine vmR ?_|refine vmV rfl ?_|refine vmW rfl ?_|refine vmL ?_|refine blockW_y (by decide) ?_|((with_reducible first|apply vmO|apply vmT|apply vmC);case a=>simp[f,encPt,newSeq,newSl];with_reducible first|exact .v|exact .c|exact .t|exact .f)));exact k):G:=h f k
theorem vJr52{F G K:Prop}(f:F)(k:K)(h:F→K→G:=by intro f k;(repeat(first|with_reducible first|refine vmR ?_|refine vmV rfl ?_|refine vmW rfl ?_|refine vmL ?_|refine blockW_y (by decide) ?_|((with_reducible first|apply vmO|apply vmT|apply vmC);case a=>simp[f,encPt];with_reducible first|exact .v|exact .c|exact .t|exact .f)));exact k):G:=h f k
theorem vJr53{F G K:Prop}(f:F)(k:K)(h:F→K→G:=by intro f k;(repeat(first|with_reducible first|refine vmR ?_|refine vmV rfl ?_|refine vmW rfl ?_|refine blockW_y (by decide) ?_|((with_reducible first|apply vmO|apply vmT|apply vmC);case a=>simp[f];with_reducible first|exact .v|exact .c|exact .t|exact .f)));exact k):G:=h f k
set_option maxHeartbeats 2000000 in
theorem write1_ans(s:List UInt8)(hs:s.length≤1000)(v:AV)(h0:Hp Fm)(hp:∀z,h0.pol z=false)(k:SV 3 [encPt false 0 [],encPt true 0 s] v):A Tryz.prog TT (.func 68) [v] h0 (fun r h'=>SV 1 ((keyZ s).map byteAV) r∧HE h0 h'):=by
 have c1:=k.cells
 have i1:=k.isCell
 have n1:=k.nm
 have l1:=k.len Tryz.underlying140
 replace l1:lenAV Tryz.prog 140 v=some (.int .i64 2):=by rw[l1];rfl
 have ix0:=k.idx (k:=.i64) (i:=0) Tryz.underlying140 z139 (by omega) (by simp)
 have ix1:=k.idx (k:=.i64) (i:=1) Tryz.underlying140 z139 (by omega) (by simp)
 replace ix0:indexAddrAV Tryz.prog 140 v (.int .i64 0)=some (.el (encPt false 0 []) 0):=by rw[ix0];simp
 replace ix1:indexAddrAV Tryz.prog 140 v (.int .i64 1)=some (.el (encPt true 0 s) 0):=by rw[ix1];simp
 have wz:IntKind.i64.wrap (0+1)=1:=rfl
 have wz1:IntKind.i64.wrap 1=1:=rfl
 have wo:IntKind.i64.wrap (1+1)=2:=rfl
 have wo2:IntKind.i64.wrap 2=2:=rfl
 have hel:=esc_len s
 apply A_go Tryz.func68 rfl (by rfl);(case hn=>(simp[Tryz.ntmps68];rfl))
 refine vF (cJ c1 (cJ i1 (cJ n1 l1))) ?_
 refine W_loop_i ?_
 refine vJr51 (cJ c1 (cJ i1 (cJ n1 (cJ l1 (cJ ix0 hp))))) ?_
 with_reducible apply WO_app_i;(case hw=>(simp[c1,i1,n1,l1,ix0,encPt,newSeq,newSl,hp];done));(case ho=>rfl);(case hb=>rfl);(case ha=>(simp[c1,i1,n1,l1,ix0,encPt,newSeq,newSl,hp];first | done | exact⟨rfl,rfl⟩ | rfl));(case h1=>(simp;first | done | rfl));(case h2=>(simp;first | done | rfl))
 have eb:=(HE.refl h0).newSl 1
 refine app_then (AC.app (h0:=h0) (acc:=[]) etB (.inl ⟨rfl,rfl⟩) eb (hp _) (by simp)) ?_
 rintro x1 h1 ⟨a1,he1,_,_,_⟩
 have xc1:=a1.sv.cells
 have xi1:=a1.sv.isCell
 have hp1:∀z,h1.pol z=false:=fun z=>by rw[he1.pol];exact hp z
 refine vP ?_
 refine vJr52 (cJ xc1 (cJ xi1 (cJ c1 (cJ i1 ix0)))) ?_
 refine A.mono (number0 h1) ?_
 rintro r2 h2 ⟨sv2,e2⟩
 have rc2:=sv2.cells
 have ri2:=sv2.isCell
 refine vP ?_
 have he2:=he1.trans e2
 refine vJr53 (cJ xc1 (cJ xi1 (cJ rc2 ri2))) ?_
 refine vF (cJ xc1 (cJ xi1 (cJ rc2 ri2))) ?_
 with_reducible apply WO_app_i;(case hw=>(simp[xc1,xi1,rc2,ri2];done));(case ho=>rfl);(case hb=>rfl);(case ha=>(simp[xc1,xi1,rc2,ri2];first | done | exact⟨rfl,rfl⟩ | rfl));(case h1=>(simp;first | done | rfl));(case h2=>(simp;first | done | rfl))
 refine app_then (AC.appN (h0:=h0) etB (a1.of e2) he2 (hp _) (SV.newEls sv2) (by simp[zeroB])) ?_
 rintro x3 h3 ⟨a3,he3,_,_,_⟩
 have xc3:=a3.sv.cells
 have xi3:=a3.sv.isCell
 have hp3:∀z,h3.pol z=false:=fun z=>by rw[he3.pol];exact hp z
 have w1:IntKind.i64.wrap 1=1:=rfl
 refine vP ?_
 refine vF (cJ xc3 (cJ xi3 (cJ c1 (cJ i1 (cJ n1 (cJ l1 (cJ wz wz1))))))) ?_
 refine W_loop_i ?_
 refine vJr51 (cJ xc3 (cJ xi3 (cJ c1 (cJ i1 (cJ n1 (cJ l1 (cJ ix1 hp3))))))) ?_
 with_reducible apply WO_app_i;(case hw=>(simp[xc3,xi3,c1,i1,n1,l1,ix1,encPt,newSeq,newSl,hp3];done));(case ho=>rfl);(case hb=>rfl);(case ha=>(simp[xc3,xi3,c1,i1,n1,l1,ix1,encPt,newSeq,newSl,hp3];first | done | exact⟨rfl,rfl⟩ | rfl));(case h1=>(simp;first | done | rfl));(case h2=>(simp;first | done | rfl))
 have eb3:=(HE.refl h3).newSl 1
 refine app_then (AC.app (h0:=h0) etB (a3.of eb3) (he3.trans eb3) (hp _) (by simp[zeroB])) ?_
 rintro x4 h4 ⟨a4,he4,_,_,_⟩
 have xc4:=a4.sv.cells
 have xi4:=a4.sv.isCell
 have hp4:∀z,h4.pol z=false:=fun z=>by rw[he4.pol];exact hp z
 refine vP ?_
 refine vJr52 (cJ xc4 (cJ xi4 (cJ c1 (cJ i1 ix1)))) ?_
 refine A.mono (text1_ans s hs h4 hp4) ?_
 rintro r5 h5 ⟨sv5,e5⟩
 have rc5:=sv5.cells
 have ri5:=sv5.isCell
 have he5:=he4.trans e5
 refine vP ?_
 refine vJr53 (cJ xc4 (cJ xi4 (cJ rc5 ri5))) ?_
 refine vF (cJ xc4 (cJ xi4 (cJ rc5 ri5))) ?_
 with_reducible apply WO_app_i;(case hw=>(simp[xc4,xi4,rc5,ri5];done));(case ho=>rfl);(case hb=>rfl);(case ha=>(simp[xc4,xi4,rc5,ri5];first | done | exact⟨rfl,rfl⟩ | rfl));(case h1=>(simp;first | done | rfl));(case h2=>(simp;first | done | rfl))
 refine app_then (AC.appN (h0:=h0) etB (a4.of e5) he5 (hp _) (SV.newEls sv5) (by simp[zeroB];omega)) ?_
 rintro x6 h6 ⟨a6,he6,_,_,_⟩
 have xc6:=a6.sv.cells
 have xi6:=a6.sv.isCell
 refine vP ?_
 refine vF (cJ xc6 (cJ xi6 (cJ c1 (cJ i1 (cJ n1 (cJ l1 (cJ wo wo2))))))) ?_
 refine W_loop_i ?_
 refine vF (cJ xc6 (cJ xi6 (cJ c1 (cJ i1 (cJ n1 (cJ l1 (cJ wo wo2))))))) ?_
 (first | apply endW_r | apply endW_n);(case h1=>(simp[Tryz.results68];first | done | rfl))
 refine⟨?_,he6⟩
 have e:(keyZ s).map byteAV=[]++[.int .u8 1]++zeroB.map byteAV++[.int .u8 2]++(esc s++[0,1]).map byteAV:=by
  simp[keyZ,byteAV]
 rw[e]
 exact a6.sv
theorem key1_ans(s:List UInt8)(hs:s.length≤1000)(h0:Hp Fm):A Tryz.prog TT (.func 37) [.int .i64 0,.str s] h0 (fun r h'=>r=.str (keyZ s)∧HE h0 h'):=by
 obtain⟨hq,hhq⟩:∃hq:Hp Fm,hq={ h0 with pol:=fun _=>false }:=⟨_,rfl⟩
 have hqp:∀z,hq.pol z=false:=fun z=>by rw[hhq]
 have f0:∀h':Hp Fm,HE hq h'→HE h0 { h' with pol:=h0.pol }:=fun h' k=>by
  rw[hhq]at k;exact⟨k.no,k.ng,rfl,k.obj,k.len⟩
 apply A_goT Tryz.func37 rfl (by rfl);(case hn=>(simp[Tryz.ntmps37];rfl))
 rw[←hhq]
 refine vJr50 hqp ?_
 have eb:=(HE.refl hq).newSl 2
 refine A.mono (write1_ans s hs _ _ hqp (.inr (.inl ⟨_,_,_,rfl⟩))) ?_
 rintro r2 h2 ⟨sv2,e2⟩
 have rc2:=sv2.cells
 have ri2:=sv2.isCell
 have cv:=fun h=>conv_txt h sv2
 refine vP ?_
 refine vF (cJ rc2 (cJ ri2 cv)) ?_
 (first | apply endW_r | apply endW_n);(case h1=>(simp[Tryz.results37];first | done | rfl))
 exact⟨rfl,f0 _ (eb.trans e2)⟩
theorem keyed_ans(k:List UInt8)(hk:k.length≤100000)(h0:Hp Fm):A Tryz.prog TT (.func 42) [.str k] h0 (fun r h'=>r=.bool (keyOk k)∧HE h0 h'):=by
 obtain⟨hq,hhq⟩:∃hq:Hp Fm,hq={ h0 with pol:=fun _=>false }:=⟨_,rfl⟩
 have hqp:∀z,hq.pol z=false:=fun z=>by rw[hhq]
 have f0:∀h':Hp Fm,HE hq h'→HE h0 { h' with pol:=h0.pol }:=fun h' k=>by
  rw[hhq]at k;exact⟨k.no,k.ng,rfl,k.obj,k.len⟩
 apply A_goT Tryz.func42 rfl (by rfl);(case hn=>(simp[Tryz.ntmps42];rfl))
 refine vZ ?_
 rw[←hhq]
 refine A.mono (osplit_ans k hq hk hqp) ?_
 rintro _ h2 ⟨⟨a,s,e,rfl,he⟩,e2⟩
 refine vP ?_
 rw[←he]
 by_cases q:e=0
 ·refine vF q ?_
  (first | apply endW_r | apply endW_n);(case h1=>(simp[Tryz.results42];first | done | rfl))
  exact⟨by simp[q];rfl,f0 _ e2⟩
 ·refine vF q ?_
  (first | apply endW_r | apply endW_n);(case h1=>(simp[Tryz.results42];first | done | rfl))
  exact⟨by simp[q];rfl,f0 _ e2⟩
end Go.Vn

set_option maxRecDepth 20000
namespace Go.Vn
open Go.Proofs
def SpMay(a b:Int):Prop:=0≤a∧a<b∧b≤1099511627776
instance(a b:Int):Decidable (SpMay a b):=by unfold SpMay;infer_instance
theorem smay_ans(a b:Int)(h0:Hp Fm):A Tryz.prog TT (.func 69) [.agg [.int .i64 a,.int .i64 b]] h0 (fun r h'=>r=.bool (decide (SpMay a b))∧HE h0 h'):=by
 by_cases q1:0≤a
 ·by_cases q2:a<b
  ·by_cases q3:b≤1099511627776
   all_goals
    apply A_go Tryz.func69 rfl (by rfl);(case hn=>(simp[Tryz.ntmps69];rfl))
    refine vF (cJ q1 (cJ q2 q3)) ?_
    (first | apply endW_r | apply endW_n);(case h1=>(simp[Tryz.results69];first | done | rfl))
    exact⟨by simp[SpMay,q1,q2,q3],(HE.refl h0).new _⟩
  ·apply A_go Tryz.func69 rfl (by rfl);(case hn=>(simp[Tryz.ntmps69];rfl))
   refine vF (cJ q1 q2) ?_
   (first | apply endW_r | apply endW_n);(case h1=>(simp[Tryz.results69];first | done | rfl))
   exact⟨by simp[SpMay,q1,q2],(HE.refl h0).new _⟩
 ·apply A_go Tryz.func69 rfl (by rfl);(case hn=>(simp[Tryz.ntmps69];rfl))
  refine vF q1 ?_
  (first | apply endW_r | apply endW_n);(case h1=>(simp[Tryz.results69];first | done | rfl))
  exact⟨by simp[SpMay,q1],(HE.refl h0).new _⟩
def openE(xs:List Tr)(i:Int):Int:=
 if findR xs i=0 then(if (xs.getD (i-1).toNat default).st=1 then(if (xs.getD (i-1).toNat default).ops<40 then 0 else 5)else 26)else findR xs i
set_option maxHeartbeats 1000000 in
theorem open_ans(h0 h:Hp Fm)(g pm:Nat)(ep sq:Int)(xs:List Tr)(lv:AV)(lg:List Nat)(k:EngH h0 h g pm ep sq xs lv lg)(i:Int)(hi64:-9223372036854775808≤i∧i≤9223372036854775807)(hxl:xs.length≤1000000) :
  A Tryz.prog TT (.func 41) [.ptr g 0,.int .i64 i] h (fun r h'=>h'=h∧((openE xs i≠0∧r=.tup [.nilp,.int .i64 (openE xs i)]) ∨
   (openE xs i=0∧∃(j:Nat) (hj:j<xs.length),i=(j:Int)+1∧(xs[j]).st=1∧(xs[j]).ops<40∧r=.tup [.ptr (xs[j]).p 0,.int .i64 0]))):=by
 apply A_go Tryz.func41 rfl (by rfl);(case hn=>(simp[Tryz.ntmps41];rfl))
 refine vZ ?_
 refine A.mono (find_ans h0 h g pm ep sq xs lv lg k i hi64 hxl) ?_
 rintro _ h1 ⟨eh,⟨f1,rfl⟩ | ⟨f1,j,hj,rfl,s5,rfl⟩⟩
 ·rw[eh]
  clear eh h1
  have e1:openE xs i=findR xs i:=by unfold openE;rw[if_neg f1]
  rw[e1]
  obtain⟨e,he⟩:∃e,e=findR xs i:=⟨_,rfl⟩
  rw[←he]at f1 ⊢
  refine vP ?_
  refine vF f1 ?_
  (first | apply endW_r | apply endW_n);(case h1=>(simp[Tryz.results41];first | done | rfl))
  exact⟨rfl,.inl ⟨f1,rfl⟩⟩
 ·rw[eh]
  clear eh h1
  obtain⟨x,ex⟩:∃x,x=xs[j]:=⟨_,rfl⟩
  have gx:xs.getD ((j:Int)+1-1).toNat default=x:=by
   rw[show((j:Int)+1-1).toNat=j by omega,List.getD_eq_getElem?_getD,List.getElem?_eq_getElem hj,ex];rfl
  have e1:openE xs ((j:Int)+1)=if x.st=1 then(if x.ops<40 then 0 else 5)else 26:=by unfold openE;rw[if_pos f1,gx]
  rw[e1]
  obtain⟨es,rdv,scv,sls,Tx⟩:=k.tr x (by rw[ex];exact List.getElem_mem _)
  have tr:=Tx.row
  rw[←ex]
  refine vP ?_
  by_cases q1:x.st=1
  case neg=>
   refine vF (cJ tr q1) ?_
   (first | apply endW_r | apply endW_n);(case h1=>(simp[Tryz.results41];first | done | rfl))
   rw[if_neg q1]
   exact⟨rfl,.inl ⟨by omega,rfl⟩⟩
  rw[q1]at tr
  by_cases q2:x.ops<40
  case neg=>
   have q2':40≤x.ops:=by omega
   refine vF (cJ tr (cJ q2 q2')) ?_
   (first | apply endW_r | apply endW_n);(case h1=>(simp[Tryz.results41];first | done | rfl))
   rw[if_pos q1,if_neg q2]
   exact⟨rfl,.inl ⟨by omega,rfl⟩⟩
  have q2':¬40≤x.ops:=by omega
  refine vF (cJ tr (cJ q2 q2')) ?_
  (first | apply endW_r | apply endW_n);(case h1=>(simp[Tryz.results41];first | done | rfl))
  rw[if_pos q1,if_pos q2]
  exact⟨rfl,.inr ⟨rfl,j,hj,rfl,by rw[←ex];exact q1,by rw[←ex];exact q2,by rw[←ex]⟩⟩
def okW(key:Bs)(p:Pc):Bool:=keyOk key&&decide (SpMay p.fr p.to)&&decide (p.val.length≤201)
def putT(x:Tr)(key:Bs)(p:Pc):Tr:=
 { x with ops:=x.ops+1,wr:=setF key (overP ((lookF key x.wr).getD []) p) x.clk x.wr,clk:=clkF key x.clk x.wr }
set_option maxHeartbeats 4000000 in
theorem write_ans(h0 h:Hp Fm)(g pm:Nat)(ep sq:Int)(xs:List Tr)(lv:AV)(lg:List Nat)(k:EngH h0 h g pm ep sq xs lv lg)(i:Int)(hi64:-9223372036854775808≤i∧i≤9223372036854775807)(hxl:xs.length≤1000000)
  (key:Bs) (hkl:key.length≤100000) (p:Pc) (hpl:p.val.length≤100000) (hops:∀x∈xs,0≤x.ops) (hps:∀x∈xs,∀ps,lookF key x.wr=some ps→ps.length≤4000000) :
  A Tryz.prog TT (.func 38) [.ptr g 0,.int .i64 i,.str key,encP p] h (fun r h'=>(openE xs i≠0∧r=.int .i64 (openE xs i)∧HE h h')∨(openE xs i=0∧okW key p=false∧r=.int .i64 1∧HE h h') ∨
   (openE xs i=0∧okW key p=true∧r=.int .i64 0∧∃(j:Nat) (hj:j<xs.length),i=(j:Int)+1∧EngH h0 h' g pm ep sq (xs.set j (putT xs[j] key p)) lv lg∧HX (fun o=>o=(xs[j]).p∨o=(xs[j]).m) (fun _=>False) h h')):=by
 apply A_go Tryz.func38 rfl (by rfl);(case hn=>(simp[Tryz.ntmps38];rfl))
 refine vZ ?_
 refine A_heap ?_
 intro hA hhA
 have eA:HE h hA:=by rw[hhA];exact(HE.refl h).new _
 have gA:Mp.get hA.obj h.no=some (.row [.int .i64 p.fr,.int .i64 p.to,.str p.val]):=by rw[hhA];simp
 have nA:h.no<hA.no:=by rw[hhA];exact Nat.lt_succ_self _
 clear hhA
 have kA:=k.of eA
 refine A.mono (open_ans h0 hA g pm ep sq xs lv lg kA i hi64 hxl) ?_
 rintro _ h1 ⟨eh,⟨f1,rfl⟩ | ⟨f1,j,hj,rfl,s1,so,rfl⟩⟩
 ·rw[eh]
  clear eh h1
  obtain⟨e,he⟩:∃e,e=openE xs i:=⟨_,rfl⟩
  rw[←he]at f1 ⊢
  refine vP ?_
  refine vF f1 ?_
  (first | apply endW_r | apply endW_n);(case h1=>(simp[Tryz.results38];first | done | rfl))
  exact .inl ⟨f1,rfl,eA⟩
 rw[eh]
 clear eh h1
 rw[f1]
 obtain⟨x,ex⟩:∃x,x=xs[j]:=⟨_,rfl⟩
 rw[←ex]at s1 so ⊢
 have hmem:x∈xs:=by rw[ex];exact List.getElem_mem _
 refine vP ?_
 refine vZ ?_
 refine A.mono (keyed_ans key hkl hA) ?_
 rintro _ hB ⟨rfl,eB⟩
 refine vP ?_
 have gB:=(eB.obj _ nA).trans gA
 have eAB:=eA.trans eB
 cases qk:keyOk key with
 | false=>
  refine vF gB ?_
  (first | apply endW_r | apply endW_n);(case h1=>(simp[Tryz.results38];first | done | rfl))
  exact .inr (.inl ⟨rfl,by simp[okW,qk],rfl,eAB⟩)
 | true=>
  refine vF gB ?_
  refine A.mono (smay_ans p.fr p.to hB) ?_
  rintro _ hC ⟨rfl,eC⟩
  have gC:=(eC.obj _ (Nat.lt_of_lt_of_le nA eB.no)).trans gB
  have eAC:=eAB.trans eC
  refine vP ?_
  by_cases qs:SpMay p.fr p.to
  case neg=>
   refine vF (cJ gC qs) ?_
   (first | apply endW_r | apply endW_n);(case h1=>(simp[Tryz.results38];first | done | rfl))
   exact .inr (.inl ⟨rfl,by simp[okW,qs],rfl,eAC⟩)
  by_cases qv:p.val.length≤201
  case neg=>
   have qv':(201:Int)<p.val.length:=by omega
   have qvn:201<p.val.length:=by omega
   refine vF (cJ gC (cJ qs (cJ qv' qvn))) ?_
   (first | apply endW_r | apply endW_n);(case h1=>(simp[Tryz.results38];first | done | rfl))
   exact .inr (.inl ⟨rfl,by simp[okW,qv],rfl,eAC⟩)
  have qv':¬(201:Int)<p.val.length:=by omega
  have qvn:¬201<p.val.length:=by omega
  have eok:okW key p=true:=by simp[okW,qk,qs,qv]
  have kC:=k.of eAC
  obtain⟨esC,rdC,scC,slC,TC⟩:=kC.tr x hmem
  have trC:=TC.row
  have xgC:=kC.p_ne hmem
  have nx:h.no≠x.p:=fun z=>by
   have:=(k.tr x hmem)
   obtain⟨_,_,_,_,T⟩:=this
   have:=T.pn;omega
  have w1:IntKind.i64.wrap (x.ops+1)=x.ops+1:=by have:=hops x hmem;exact wrap64 (by omega) (by omega)
  refine vF (cJ gC (cJ qs (cJ qv' (cJ qvn (cJ trC w1))))) ?_
  refine W_heap ?_
  intro hD hhD
  have xD:HX (fun o=>o=x.p) (fun _=>False) hC hD:=by rw[hhD];exact HX.set1 (h':=hC) rfl
  have trD:Mp.get hD.obj x.p=some (.row [.int .i64 x.br,.int .i64 x.st,.int .i64 (x.ops+1),.int .i64 x.at_.b,.int .i64 x.at_.e,.int .i64 x.at_.s,.mp x.m,rdC,scC]):=by rw[hhD];simp
  clear hhD
  have nC:h.no<hC.no:=Nat.lt_of_lt_of_le nA (Nat.le_trans eB.no eC.no)
  have gD:=(xD.obj _ nC nx).trans gC
  have tmD:=(xD.obj _ TC.mn (fun e=>xgC.2.2 e.symm)).trans TC.map
  obtain⟨pcs,hpcs⟩:∃pcs,pcs=(lookF key x.wr).getD []:=⟨_,rfl⟩
  obtain⟨v,hv,lk⟩:∃v,SL 3 (pcs.map encP) v∧∀h1:Hp Fm,Mp.get h1.obj x.m=some (.mp esC x.clk)→lookupAV Tryz.prog h1 79 (.mp x.m) (.str key) false=some v:=by
   cases hl:lookF key x.wr with
   | none=>
    have lk:=look_none (m:=x.m) (clk:=x.clk) (k:=key) Tryz.underlying79 Tryz.underlying9 t42 TC.en hl
    exact⟨.nils,.inl ⟨rfl,by simp[hpcs,hl]⟩,fun h1 hm=>lk h1 false hm⟩
   | some ps=>
    obtain⟨v,hv,lk⟩:=look_some (m:=x.m) (clk:=x.clk) (k:=key) Tryz.underlying79 Tryz.underlying9 TC.en hl
    exact⟨v,by rw[hpcs,hl];exact hv,fun h1 hm=>lk h1 false hm⟩
  have pl:pcs.length≤4000000:=by
   cases hl:lookF key x.wr with
   | none=>simp[hpcs,hl]
   | some ps=>rw[hpcs,hl];exact hps x hmem ps hl
  have vc:=hv.sv.cells
  have vi:=hv.sv.isCell
  have lkD:=lk hD.drew tmD
  (with_reducible refine W_draw_id (pln:=true) [0,1,2,3,4,5,6,7,8,9,10,11,12,13] [(3,(3,[13])),(8,(8,[])),(10,(10,[])),(11,(11,[]))] (by kernel_rfl) rfl ?_)
  refine vF (cJ trD (cJ gD (cJ lkD (cJ vc vi)))) ?_
  refine A.mono (over_ans pcs v hv pl p _) ?_
  rintro r hE ⟨svr,eE⟩
  have e1:HE hD hE:=((HE.refl hD).drew).trans eE
  have rc:=svr.sv.cells
  have ri:=svr.sv.isCell
  have nD:h.no<hD.no:=Nat.lt_of_lt_of_le nC xD.no
  have pD:x.p<hD.no:=Nat.lt_of_lt_of_le TC.pn xD.no
  have mD:x.m<hD.no:=Nat.lt_of_lt_of_le TC.mn xD.no
  have trE:=(e1.obj _ pD).trans trD
  have tmE:=(e1.obj _ mD).trans tmD
  have gE:=(e1.obj _ nD).trans gD
  obtain⟨es',en',ud⟩:=upd_ans (P:=Tryz.prog) (t:=79) (m:=x.m) (clk:=x.clk) (k:=key) Tryz.underlying79 Tryz.underlying9 TC.en (R:=PcR) (a:=overP pcs p) svr
  have udE:=ud hE tmE
  refine vP ?_
  refine vF (cJ udE (cJ rc ri)) ?_
  have xm:x.p≠x.m:=xgC.2.2
  have xm':x.m≠x.p:=fun e=>xm e.symm
  have lkE:=lk hE tmE
  refine⟨by simp[readSame,beqAV_self,trD,trE,lkD,lkE,gD,gE,vc,vi,xm,xm'];done,_,by simp;first | done | rfl,?_⟩
  refine vZ ?_
  (first | apply endW_r | apply endW_n);(case h1=>(simp[Tryz.results38];first | done | rfl))
  obtain⟨hF,hhF⟩:∃hF:Hp Fm,hF={ hE with obj:=Mp.set hE.obj x.m (.mp es' (clkF key x.clk x.wr)) }:=⟨_,rfl⟩
  have oF:∀o,o<hC.no→o≠x.p→o≠x.m→Mp.get hF.obj o=Mp.get hC.obj o:=fun o ho h1 h2=>by
   rw[hhF]
   show Mp.get (Mp.set hE.obj x.m _) o=_
   rw[Mp.get_set,if_neg h2]
   exact(e1.obj _ (Nat.lt_of_lt_of_le ho xD.no)).trans (xD.obj _ ho h1)
  have nF:hC.no≤hF.no:=by rw[hhF];exact Nat.le_trans xD.no e1.no
  have gF:hC.ng≤hF.ng:=by rw[hhF];exact Nat.le_trans xD.ng e1.ng
  have pF:hF.pol=hC.pol:=by rw[hhF];exact e1.pol.trans xD.pol
  have lF:∀q,q<hC.ng→Mp.get hF.len q=Mp.get hC.len q:=fun q hq=>by
   rw[hhF];exact(e1.len q (Nat.lt_of_lt_of_le hq xD.ng)).trans (xD.len q hq (fun z=>z))
  have xF:HX (fun o=>o=x.p∨o=x.m) (fun _=>False) hC hF:=⟨nF,gF,pF,fun o ho hs=>oF o ho (fun e=>hs (.inl e)) (fun e=>hs (.inr e)),fun q hq _=>lF q hq⟩
  have rowF:Mp.get hF.obj x.p=some (.row [.int .i64 x.br,.int .i64 x.st,.int .i64 (x.ops+1),.int .i64 x.at_.b,.int .i64 x.at_.e,.int .i64 x.at_.s,.mp x.m,rdC,scC]):=by
   rw[hhF]
   show Mp.get (Mp.set hE.obj x.m _) x.p=_
   rw[Mp.get_set,if_neg xm];exact trE
  have mapF:Mp.get hF.obj x.m=some (.mp es' (clkF key x.clk x.wr)):=by rw[hhF];simp
  have cl1:EngH h0 hF g pm ep sq (xs.set j (putT x key p)) lv lg:=by
   refine kC.upd hj ex ⟨nF,gF,pF,fun o ho hs=>oF o ho (fun e=>hs (.inr (.inl e))) (fun e=>hs (.inr (.inr e))),fun q hq _=>lF q hq⟩ ?_
    ⟨es',rdC,scC,slC,⟨rowF,mapF,by simp only[putT];rw[←hpcs];exact en',TC.born.set key _,TC.rd.of (fun q hq=>lF q (TC.rd.lt q hq)) gF,TC.sc.of (fun q hq=>lF q (TC.sc.lt q hq)) gF,TC.scr,Nat.lt_of_lt_of_le TC.pn nF,Nat.lt_of_lt_of_le TC.mn nF⟩⟩ rfl rfl ?_ (fun q hq=>.inl hq)
   ·exact(oF g kC.gn (fun e=>xgC.1 e.symm) (fun e=>xgC.2.1 e.symm)).trans kC.row
   ·obtain⟨l1,l2,t1,_⟩:=set_split xs j hj x
    have ndg:=(List.nodup_append.mp k.ndg).2.1
    rw[t1,←ex]at ndg
    simp only[grpsT,List.flatMap_append,List.flatMap_cons]at ndg
    exact(List.nodup_append.mp (List.nodup_append.mp ndg).2.1).1
  have cl2:HX (fun o=>o=x.p∨o=x.m) (fun _=>False) h hF:=
   ⟨Nat.le_trans eAC.no nF,Nat.le_trans eAC.ng gF,pF.trans eAC.pol,fun o ho hs=>(xF.obj o (Nat.lt_of_lt_of_le ho eAC.no) hs).trans (eAC.obj o ho),fun q hq _=>(lF q (Nat.lt_of_lt_of_le hq eAC.ng)).trans (eAC.len q hq)⟩
  rw[hhF]at cl1 cl2
  refine .inr (.inr ⟨rfl,eok,rfl,j,hj,rfl,?_⟩)
  rw[←ex]
  exact⟨cl1,cl2⟩
end Go.Vn

set_option maxRecDepth 20000
namespace Go.Vn
open Go.Proofs
theorem sl_hi(s:Bs)(n:Nat)(h:n≤s.length):sliceAV Tryz.prog 9 (.str s) none (some (.int .i64 (n:Int))) none=some (.str (s.take n)):=by
 have:(n:Int)≤s.length:=by omega
 simp[sliceAV,obound,bound,this,Tryz.underlying9]
theorem sl_lo(s:Bs)(n:Nat)(h:n≤s.length):sliceAV Tryz.prog 9 (.str s) (some (.int .i64 (n:Int))) none none=some (.str (s.drop n)):=by
 have:(n:Int)≤s.length:=by omega
 have e:List.take (s.length-n) (List.drop n s)=s.drop n:=List.take_of_length_le (by simp)
 simp[sliceAV,obound,bound,this,h,e,Tryz.underlying9]
def keyU(u:Bs):Bs:=if u.head? = some 33 then u.drop 1 else keyZ (u.take 3)
def keyS(s:Bs):Bs:=keyU (s.take 60)
set_option maxHeartbeats 2000000 in
theorem okey18_ans(s:Bs)(h0:Hp Fm):A Tryz.prog TT (.func 14) [.str s] h0 (fun r h'=>r=.str (keyS s)∧HE h0 h'):=by
 obtain⟨u,hu⟩:∃u,u=s.take 60:=⟨_,rfl⟩
 have ek:keyS s=keyU u:=by rw[keyS,hu]
 rw[ek]
 by_cases q60:60<s.length
 ·have q60':(60:Int)<s.length:=by omega
  have sl:=sl_hi s 60 (by omega)
  rw[←hu]at sl
  have e60:((60:Nat):Int)=60:=rfl
  rw[e60]at sl
  have hul:u.length≤60:=by rw[hu];simp;omega
  clear hu ek
  apply A_go Tryz.func14 rfl (by rfl);(case hn=>(simp[Tryz.ntmps14];rfl))
  refine vF (cJ q60 (cJ q60' sl)) ?_
  rcases u with _ | ⟨c,cs⟩
  ·refine vZ ?_
   refine A.mono (key1_ans [] (by simp) h0) ?_
   rintro _ h2 ⟨rfl,e2⟩
   refine vP ?_
   refine vZ ?_
   (first | apply endW_r | apply endW_n);(case h1=>(simp[Tryz.results14];first | done | rfl))
   exact⟨rfl,e2⟩
  have p0:(0:Int)<(cs.length:Int)+1:=by omega
  have jx:indexAV Tryz.prog 9 (.str (c::cs)) (.int .i64 0)=some (.int .u8 (c.toNat:Int)):=by
   simp[indexAV,Tryz.underlying9,byteAV]
  by_cases qc:c=33
  ·have q33:(c.toNat:Int)=33:=by rw[qc];rfl
   have jx3:indexAV Tryz.prog 9 (.str (c::cs)) (.int .i64 0)=some (.int .u8 33):=by rw[jx,q33]
   have s1:=sl_lo (c::cs) 1 (by simp)
   simp only[Int.natCast_one,List.drop_succ_cons,List.drop_zero]at s1
   refine vF (cJ p0 (cJ jx3 s1)) ?_
   (first | apply endW_r | apply endW_n);(case h1=>(simp[Tryz.results14];first | done | rfl))
   exact⟨by simp[keyU,qc],HE.refl _⟩
  have q33n:¬c.toNat=33:=fun e=>qc (UInt8.toNat_inj.mp (by simpa using e))
  have q33:¬(c.toNat:Int)=33:=fun e=>q33n (by omega)
  have ek:keyU (c::cs)=keyZ ((c::cs).take 3):=by simp[keyU,qc]
  rw[ek]
  by_cases q3:3<(c::cs).length
  ·have q3':(3:Int)<(cs.length:Int)+1:=by simp at q3;omega
   have q3n:3<cs.length+1:=by simp at q3;omega
   have s3:=sl_hi (c::cs) 3 (by omega)
   have e3:((3:Nat):Int)=3:=rfl
   rw[e3]at s3
   obtain⟨w,hw⟩:∃w,w=(c::cs).take 3:=⟨_,rfl⟩
   rw[←hw]at s3 ⊢
   refine vF (cJ p0 (cJ jx (cJ q33 (cJ q33n (cJ qc (cJ q3' (cJ q3n s3))))))) ?_
   refine A.mono (key1_ans w (by rw[hw];simp;omega) h0) ?_
   rintro _ h2 ⟨rfl,e2⟩
   refine vP ?_
   refine vZ ?_
   (first | apply endW_r | apply endW_n);(case h1=>(simp[Tryz.results14];first | done | rfl))
   exact⟨rfl,e2⟩
  ·have q3':¬(3:Int)<(cs.length:Int)+1:=by simp at q3;omega
   have q3n:¬3<cs.length+1:=by simp at q3;omega
   have e3:(c::cs).take 3=c::cs:=List.take_of_length_le (by omega)
   rw[e3]
   refine vF (cJ p0 (cJ jx (cJ q33 (cJ q33n (cJ qc (cJ q3' q3n)))))) ?_
   refine A.mono (key1_ans (c::cs) (by omega) h0) ?_
   rintro _ h2 ⟨rfl,e2⟩
   refine vP ?_
   refine vZ ?_
   (first | apply endW_r | apply endW_n);(case h1=>(simp[Tryz.results14];first | done | rfl))
   exact⟨rfl,e2⟩
 ·have q60':¬(60:Int)<s.length:=by omega
  have e:u=s:=by rw[hu];exact List.take_of_length_le (by omega)
  subst e
  clear hu ek
  apply A_go Tryz.func14 rfl (by rfl);(case hn=>(simp[Tryz.ntmps14];rfl))
  refine vF (cJ q60 q60') ?_
  rcases u with _ | ⟨c,cs⟩
  ·refine vZ ?_
   refine A.mono (key1_ans [] (by simp) h0) ?_
   rintro _ h2 ⟨rfl,e2⟩
   refine vP ?_
   refine vZ ?_
   (first | apply endW_r | apply endW_n);(case h1=>(simp[Tryz.results14];first | done | rfl))
   exact⟨rfl,e2⟩
  have p0:(0:Int)<(cs.length:Int)+1:=by omega
  have jx:indexAV Tryz.prog 9 (.str (c::cs)) (.int .i64 0)=some (.int .u8 (c.toNat:Int)):=by
   simp[indexAV,Tryz.underlying9,byteAV]
  by_cases qc:c=33
  ·have q33:(c.toNat:Int)=33:=by rw[qc];rfl
   have jx3:indexAV Tryz.prog 9 (.str (c::cs)) (.int .i64 0)=some (.int .u8 33):=by rw[jx,q33]
   have s1:=sl_lo (c::cs) 1 (by simp)
   simp only[Int.natCast_one,List.drop_succ_cons,List.drop_zero]at s1
   refine vF (cJ p0 (cJ jx3 s1)) ?_
   (first | apply endW_r | apply endW_n);(case h1=>(simp[Tryz.results14];first | done | rfl))
   exact⟨by simp[keyU,qc],HE.refl _⟩
  have q33n:¬c.toNat=33:=fun e=>qc (UInt8.toNat_inj.mp (by simpa using e))
  have q33:¬(c.toNat:Int)=33:=fun e=>q33n (by omega)
  have ek:keyU (c::cs)=keyZ ((c::cs).take 3):=by simp[keyU,qc]
  rw[ek]
  by_cases q3:3<(c::cs).length
  ·have q3':(3:Int)<(cs.length:Int)+1:=by simp at q3;omega
   have q3n:3<cs.length+1:=by simp at q3;omega
   have s3:=sl_hi (c::cs) 3 (by omega)
   have e3:((3:Nat):Int)=3:=rfl
   rw[e3]at s3
   obtain⟨w,hw⟩:∃w,w=(c::cs).take 3:=⟨_,rfl⟩
   rw[←hw]at s3 ⊢
   refine vF (cJ p0 (cJ jx (cJ q33 (cJ q33n (cJ qc (cJ q3' (cJ q3n s3))))))) ?_
   refine A.mono (key1_ans w (by rw[hw];simp;omega) h0) ?_
   rintro _ h2 ⟨rfl,e2⟩
   refine vP ?_
   refine vZ ?_
   (first | apply endW_r | apply endW_n);(case h1=>(simp[Tryz.results14];first | done | rfl))
   exact⟨rfl,e2⟩
  ·have q3':¬(3:Int)<(cs.length:Int)+1:=by simp at q3;omega
   have q3n:¬3<cs.length+1:=by simp at q3;omega
   have e3:(c::cs).take 3=c::cs:=List.take_of_length_le (by omega)
   rw[e3]
   refine vF (cJ p0 (cJ jx (cJ q33 (cJ q33n (cJ qc (cJ q3' q3n)))))) ?_
   refine A.mono (key1_ans (c::cs) (by omega) h0) ?_
   rintro _ h2 ⟨rfl,e2⟩
   refine vP ?_
   refine vZ ?_
   (first | apply endW_r | apply endW_n);(case h1=>(simp[Tryz.results14];first | done | rfl))
   exact⟨rfl,e2⟩
end Go.Vn

set_option maxRecDepth 20000
namespace Go.Vn
open Go.Proofs
def WrR(h0 h:Hp Fm)(g pm:Nat)(ep sq:Int)(xs:List Tr)(lv:AV)(lg:List Nat)(i:Int)(key:Bs)(p:Pc)(r:AV)(h':Hp Fm):Prop:=
 (openE xs i≠0∧r=.int .i64 (openE xs i)∧HE h h')∨(openE xs i=0∧okW key p=false∧r=.int .i64 1∧HE h h') ∨
   (openE xs i=0∧okW key p=true∧r=.int .i64 0∧∃(j:Nat) (hj:j<xs.length),i=(j:Int)+1∧EngH h0 h' g pm ep sq (xs.set j (putT xs[j] key p)) lv lg∧HX (fun o=>o=(xs[j]).p∨o=(xs[j]).m) (fun _=>False) h h')
theorem vJu70{F G K:Prop}(f:F)(k:K)(h:F→K→G:=by intro f k;(repeat(first|with_reducible first|refine vmR ?_|refine vmV rfl ?_|refine vmW rfl ?_|refine vmL ?_|refine blockW_y (by decide) ?_|((with_reducible first|apply vmO|apply vmT|apply vmC);case a=>simp[f,strBin];with_reducible first|exact .v|exact .c|exact .t|exact .f)));exact k):G:=h f k
theorem put_ans(h0 h:Hp Fm)(g pm:Nat)(ep sq:Int)(xs:List Tr)(lv:AV)(lg:List Nat)(k:EngH h0 h g pm ep sq xs lv lg)(i:Int)(hi64:-9223372036854775808≤i∧i≤9223372036854775807)(hxl:xs.length≤1000000)
  (key:Bs) (hkl:key.length≤100000) (f u:Int) (v:Bs) (hpl:v.length≤99999) (hops:∀x∈xs,0≤x.ops) (hps:∀x∈xs,∀ps,lookF key x.wr=some ps→ps.length≤4000000) :
  A Tryz.prog TT (.func 17) [.ptr g 0,.int .i64 i,.str key,.agg [.int .i64 f,.int .i64 u],.str v] h (fun r h'=>∃h1,HE h h1∧WrR h0 h1 g pm ep sq xs lv lg i key ⟨f,u,43::v⟩ r h'):=by
 have ca:strBin .add [43] v=some (.str (43::v)):=by
  unfold strBin
  rw[if_pos (by simp;omega)];rfl
 apply A_go Tryz.func17 rfl (by rfl);(case hn=>(simp[Tryz.ntmps17];rfl))
 have qa:1+v.length≤70368744177664:=by omega
 have qb:v.length+1≤70368744177664:=by omega
 have qc:0+1+v.length≤70368744177664:=by omega
 refine vJu70 (cJ qa (cJ qb qc)) ?_
 refine A_heap ?_
 intro hA hhA
 have eA:HE h hA:=by rw[hhA];exact(HE.refl h).new _
 clear hhA
 refine A.mono (write_ans h0 hA g pm ep sq xs lv lg (k.of eA) i hi64 hxl key hkl ⟨f,u,43::v⟩ (by simp;omega) hops hps) ?_
 intro r hB hw
 have hr:∃n,r=.int .i64 n:=by
  rcases hw with⟨_,h,_⟩ | ⟨_,_,h,_⟩ | ⟨_,_,h,_⟩ <;> exact⟨_,h⟩
 obtain⟨n,rfl⟩:=hr
 refine vP ?_
 refine vZ ?_
 (first | apply endW_r | apply endW_n);(case h1=>(simp[Tryz.results17];first | done | rfl))
 exact⟨hA,eA,hw⟩
theorem keyOk_k:keyOk (keyZ [107])=true:=by
 have h1:words [107,0,1]=.ok ([107],[]):=by rw[words_nz (by decide),words_zo];rfl
 have h2:readK [2,107,0,1]=.ok [⟨true,0,[107]⟩]:=by rw[readK_2 h1,readK_nil];rfl
 have h3:readK (keyZ [107])=.ok [⟨false,0,[]⟩,⟨true,0,[107]⟩]:=by
  show readK (1::[128,0,0,0,0,0,0,0,2,107,0,1])=_
  rw[readK_1 (by simp)]
  have e:List.drop 8 ([128,0,0,0,0,0,0,0,2,107,0,1]:List UInt8)=[2,107,0,1]:=rfl
  rw[e,h2]
  rfl
 unfold keyOk
 rw[h3]
 rfl
theorem vJu71{F G K:Prop}(f:F)(k:K)(h:F→K→G:=by intro f k;(repeat(first|with_reducible first|refine vmR ?_|refine vmV rfl ?_|refine vmW rfl ?_|refine vmL ?_|refine blockW_y (by decide) ?_|((with_reducible first|apply vmO|apply vmT|apply vmC);case a=>simp[f,newRs,newSeq];with_reducible first|exact .v|exact .c|exact .t|exact .f)));exact k):G:=h f k
theorem vJu72{G K:Prop}(k:K)(h:K→G:=by intro k;(repeat(first|with_reducible first|refine vmR ?_|refine vmV rfl ?_|refine vmW rfl ?_|refine vmL ?_|refine blockW_y (by decide) ?_|((with_reducible first|apply vmO|apply vmT|apply vmC);case a=>simp[eqlAV];with_reducible first|exact .v|exact .c|exact .t|exact .f)));exact k):G:=h k
set_option maxHeartbeats 4000000 in
theorem lives_ans(h0:Hp Fm)(hp:h0.pol 93=true)(hp2:h0.pol 84=false):A Tryz.prog TT (.func 13) [] h0 (fun r _=>r=.bool true):=by
 obtain⟨b0,hb0⟩:∃b0:Br,b0=⟨-1,0,0,false⟩:=⟨_,rfl⟩
 have ok0:BOk [b0]:=by
  refine⟨fun i hi=>?_,by simp,by simp⟩
  have:i=0:=by simp at hi;omega
  subst this
  rw[hb0]
  exact⟨.inl ⟨rfl,rfl,rfl⟩,⟨by simp,by simp⟩,by simp,by simp⟩
 have rs0:=RS.fresh (lo:=h0.no) etBr (h:=h0) (Nat.le_refl _) 1 [encB b0] (by simp)
 rw[hb0]at rs0
 apply A_go Tryz.func13 rfl (by rfl);(case hn=>(simp[Tryz.ntmps13];rfl))
 refine vJu71 hp ?_
 refine A_heap ?_
 intro hA hhA
 have eA:HE h0 hA:=by rw[hhA];exact(HE.refl h0).new _
 have rsA:BRs h0.no hA [b0] (.rs h0.no 0 4 true 1 1):=by rw[hhA,hb0];exact rs0
 clear hhA
 refine A.mono (newmem_ans h0.no [b0] _ ok0 hA rsA eA.no (by rw[eA.pol];exact hp)) ?_
 rintro _ h2 ⟨pm,rfl,me,e2⟩
 refine vP ?_
 have new:A Tryz.prog TT (.func 28) [.ifc 25 (.ptr pm 0),.int .i64 1] h2 (fun r h'=>r=.ptr h2.no 0∧Mp.get h'.obj h2.no=some (.row [.ifc 25 (.ptr pm 0),.int .i64 1,.int .i64 0,.nils])∧h'.no=h2.no+1∧HE h2 h'):=by
  apply A_go Tryz.func28 rfl (by rfl);(case hn=>(simp[Tryz.ntmps28];rfl))
  refine vZ ?_
  (first | apply endW_r | apply endW_n);(case h1=>(simp[Tryz.results28];first | done | rfl))
  exact⟨rfl,by simp,rfl,(HE.refl h2).new _⟩
 refine vJu72 ?_
 refine A.mono new ?_
 rintro _ h3 ⟨rfl,gr,n3,e3⟩
 refine vP ?_
 have e03:=(eA.trans e2).trans e3
 obtain⟨g,hg⟩:∃g,g=h2.no:=⟨_,rfl⟩
 rw[←hg]at gr n3 ⊢
 have k3:EngH h0 h3 g pm 1 0 [] .nils []:=by
  refine⟨gr,.inl ⟨rfl,rfl,rfl⟩,(fun x hx=>by cases hx),by simp[objsT],by simp[grpsT],by omega,?_,?_,e03⟩
  ·intro o ho
   simp[objsT]at ho
   rw[ho,hg]
   exact Nat.le_trans eA.no e2.no
  ·intro q hq;simp[grpsT]at hq
 refine vJu72 ?_
 refine A.mono (begin_ans h0 h3 g pm 1 0 [] .nils [] k3 0 (by simp) hp2) ?_
 rintro _ h4 (⟨b1,_⟩ | ⟨_,rfl,p1,m1,lv1,lg1,_,_,k4,_⟩)
 ·simp[cntG]at b1
 refine vP ?_
 refine vZ ?_
 refine A.mono (begin_ans h0 h4 g pm 1 0 _ _ _ k4 0 (by simp) hp2) ?_
 rintro _ h5 (⟨b1,_⟩ | ⟨_,rfl,p2,m2,lv2,lg2,_,_,k5,_⟩)
 ·simp[cntG,newTr,going]at b1
 refine vP ?_
 refine vZ ?_
 refine W_heap ?_
 intro h6 hh6
 have e56:HE h5 h6:=by rw[hh6];exact((HE.refl h5).new _).set (Nat.le_refl _) _
 have g6:Mp.get h6.obj h5.no=some (.row [.int .i64 0,.int .i64 9]):=by rw[hh6];simp
 have n6:h5.no<h6.no:=by rw[hh6];exact Nat.lt_succ_self _
 clear hh6
 have k6:=k5.of e56
 have kk:keyS [107]=keyZ [107]:=by simp[keyS,keyU]
 have kzl:(keyZ [107]).length≤100000:=by simp[keyZ,zeroB,esc]
 have okk:∀c:UInt8,okW (keyZ [107]) ⟨0,9,43::[c]⟩=true:=fun c=>by simp[okW,keyOk_k,SpMay]
 (with_reducible refine W_draw_id (pln:=true) [0,1,2,3,4] [(3,(3,[0]))] (by kernel_rfl) rfl ?_)
 refine vZ ?_
 refine A.mono (okey18_ans [107] _) ?_
 rintro _ h7 ⟨rfl,e7⟩
 rw[kk]
 refine vP ?_
 have e67:HE h6 h7:=((HE.refl h6).drew).trans e7
 have g7:=(e67.obj _ n6).trans g6
 have k7:=k6.of e67
 refine vF (cJ g7 g6) ?_
 obtain⟨t1,ht1⟩:∃t1,t1=newTr p1 m1 0:=⟨_,rfl⟩
 obtain⟨t2,ht2⟩:∃t2,t2=newTr p2 m2 0:=⟨_,rfl⟩
 have kx:∀h,EngH h0 h g pm 1 0 ([]++[newTr p1 m1 0]++[newTr p2 m2 0]) lv2 lg2→EngH h0 h g pm 1 0 [t1,t2] lv2 lg2:=fun h k=>by rw[ht1,ht2];exact k
 have k5:=kx _ k5
 have k7:=kx _ k7
 have a1:t1.st=1∧t1.ops=0∧t1.wr=[]∧t1.br=0∧t1.p=p1:=by rw[ht1];exact⟨rfl,rfl,rfl,rfl,rfl⟩
 have a2:t2.st=1∧t2.ops=0∧t2.wr=[]∧t2.br=0∧t2.p=p2:=by rw[ht2];exact⟨rfl,rfl,rfl,rfl,rfl⟩
 clear kx k6 k4 ht1 ht2
 have hpl:∀x∈([t1,t2]:List Tr),x.p<h5.no∧x.m<h5.no:=fun x hx=>by
  obtain⟨_,_,_,_,T⟩:=k5.tr x hx
  exact⟨T.pn,T.mn⟩
 obtain⟨b1,b2⟩:=hpl t1 (by simp)
 obtain⟨b3,b4⟩:=hpl t2 (by simp)
 have hop5:∀x∈([t1,t2]:List Tr),0≤x.ops:=fun x hx=>by
  simp only[List.mem_cons,List.not_mem_nil,or_false]at hx
  rcases hx with rfl | rfl
  ·rw[a1.2.1];exact Int.le_refl _
  ·rw[a2.2.1];exact Int.le_refl _
 have hps5:∀x∈([t1,t2]:List Tr),∀ps,lookF (keyZ [107]) x.wr=some ps→ps.length≤4000000:=fun x hx ps hl=>by
  simp only[List.mem_cons,List.not_mem_nil,or_false]at hx
  rcases hx with rfl | rfl
  ·rw[a1.2.2.1]at hl;cases hl
  ·rw[a2.2.2.1]at hl;cases hl
 refine A.mono (put_ans h0 h7 g pm 1 0 _ _ _ k7 1 (by omega) (by simp) (keyZ [107]) kzl 0 9 [49] (by simp) hop5 hps5) ?_
 rintro r h8 ⟨h8',e8',hw⟩
 have oe1:openE [t1,t2] 1=0:=by simp[openE,findR,a1.1,a1.2.1]
 rcases hw with⟨z,_⟩ | ⟨_,z,_⟩ | ⟨_,_,rfl,j,hj,ej,k8,x8⟩
 ·exact absurd oe1 z
 ·rw[okk]at z;cases z
 have:j=0:=by omega
 subst this
 simp only[List.set_cons_zero,List.getElem_cons_zero]at k8 x8
 refine vP ?_
 have n7:h5.no<h7.no:=Nat.lt_of_lt_of_le n6 e67.no
 have g8:Mp.get h8.obj h5.no=some (.row [.int .i64 0,.int .i64 9]):=by
  rw[x8.obj _ (Nat.lt_of_lt_of_le n7 e8'.no) (by omega)]
  exact(e8'.obj _ n7).trans g7
 have n8:h5.no<h8.no:=Nat.lt_of_lt_of_le n7 (Nat.le_trans e8'.no x8.no)
 refine vZ ?_
 refine⟨by simp[readSame,beqAV_self,g6,g7,g8];done,_,by simp;first | done | rfl,?_⟩
 refine vZ ?_
 obtain⟨u1,hu1⟩:∃u1,u1=putT t1 (keyZ [107]) ⟨0,9,[43,49]⟩:=⟨_,rfl⟩
 rw[←hu1]at k8
 (with_reducible refine W_draw_id (pln:=true) [0,1,2,3,4] [(3,(3,[0]))] (by kernel_rfl) rfl ?_)
 refine vZ ?_
 refine A.mono (okey18_ans [107] _) ?_
 rintro _ h9 ⟨rfl,e9⟩
 rw[kk]
 refine vP ?_
 have e89:HE h8 h9:=((HE.refl h8).drew).trans e9
 have g9:=(e89.obj _ n8).trans g8
 have k9:=k8.of e89
 have c1:u1.st=1∧u1.br=0∧u1.p=p1∧0≤u1.ops∧keysW u1=[keyZ [107]]∧u1.m=t1.m:=by
  rw[hu1]
  refine⟨a1.1,a1.2.2.2.1,a1.2.2.2.2,?_,?_,rfl⟩
  ·show 0≤t1.ops+1
   rw[a1.2.1];omega
  ·simp[keysW,putT,a1.2.2.1,setF]
 refine vF (cJ g8 g9) ?_
 have hop9:∀x∈([u1,t2]:List Tr),0≤x.ops:=fun x hx=>by
  simp only[List.mem_cons,List.not_mem_nil,or_false]at hx
  rcases hx with rfl | rfl
  ·exact c1.2.2.2.1
  ·rw[a2.2.1];exact Int.le_refl _
 have hps9:∀x∈([u1,t2]:List Tr),∀ps,lookF (keyZ [107]) x.wr=some ps→ps.length≤4000000:=fun x hx ps hl=>by
  simp only[List.mem_cons,List.not_mem_nil,or_false]at hx
  rcases hx with rfl | rfl
  ·rw[hu1]at hl
   simp only[putT,a1.2.2.1,lookF_setF,if_true,Option.some.injEq]at hl
   rw[←hl]
   have:=overP_len ((lookF (keyZ [107]) ([]:Ents (List Pc))).getD []) ⟨0,9,[43,49]⟩
   simp only[lookF,Option.getD_none,List.length_nil]at this ⊢
   omega
  ·rw[a2.2.2.1]at hl;cases hl
 refine A.mono (put_ans h0 h9 g pm 1 0 _ _ _ k9 2 (by omega) (by simp) (keyZ [107]) kzl 0 9 [50] (by simp) hop9 hps9) ?_
 rintro r hA1 ⟨hA2,eA2,hw⟩
 have oe2:openE [u1,t2] 2=0:=by simp[openE,findR,a2.1,a2.2.1]
 rcases hw with⟨z,_⟩ | ⟨_,z,_⟩ | ⟨_,_,rfl,j,hj,ej,kA,xA⟩
 ·exact absurd oe2 z
 ·rw[okk]at z;cases z
 have:j=1:=by omega
 subst this
 simp only[List.set_cons_succ,List.set_cons_zero,List.getElem_cons_succ,List.getElem_cons_zero]at kA xA
 refine vP ?_
 have n9:h5.no<h9.no:=Nat.lt_of_lt_of_le n8 e89.no
 have gA1:Mp.get hA1.obj h5.no=some (.row [.int .i64 0,.int .i64 9]):=by
  rw[xA.obj _ (Nat.lt_of_lt_of_le n9 eA2.no) (by omega)]
  exact(eA2.obj _ n9).trans g9
 refine vZ ?_
 refine⟨by simp[readSame,beqAV_self,g8,g9,gA1];done,_,by simp;first | done | rfl,?_⟩
 refine vZ ?_
 obtain⟨u2,hu2⟩:∃u2,u2=putT t2 (keyZ [107]) ⟨0,9,[43,50]⟩:=⟨_,rfl⟩
 rw[←hu2]at kA
 have c2:u2.st=1∧u2.br=0∧u2.p=p2∧wroteQ u2 (keyZ [107])=true∧u2.wr.length=1:=by
  rw[hu2]
  refine⟨a2.1,a2.2.2.2.1,a2.2.2.2.2,?_,?_⟩
  ·have:lookF (keyZ [107]) (putT t2 (keyZ [107]) ⟨0,9,[43,50]⟩).wr=some (overP [] ⟨0,9,[43,50]⟩):=by
    simp only[putT,a2.2.2.1,lookF_setF,if_true,lookF,Option.getD_none]
   unfold wroteQ
   rw[this]
   have:May 0 9:=by simp[May]
   simp[overP,this]
   omega
  ·simp[putT,a2.2.2.1,setF]
 have c1l:u1.wr.length=1:=by rw[hu1];simp[putT,a1.2.2.1,setF]
 have pne:p1≠p2:=by
  have nd:=(List.nodup_cons.mp k5.nd).2
  intro e
  simp[objsT,a1.2.2.2.2,a2.2.2.2.2,e]at nd
 have hwl:∀y∈([u1,u2]:List Tr),y.wr.length≤60000:=fun y hy=>by
  simp only[List.mem_cons,List.not_mem_nil,or_false]at hy
  rcases hy with rfl | rfl
  ·rw[c1l];omega
  ·rw[c2.2.2.2.2];omega
 have s1:=step_open h0 hA1 g pm 1 0 [u1,u2] lv2 lg2 kA 0 (by simp) c1.1 (by simp) hwl
 simp only[List.getElem_cons_zero,List.set_cons_zero]at s1
 have lk1:(([u1,u2]:List Tr).any fun y=>lockQ u1 y (wroteQ u1))=false:=by
  simp[lockQ,holds,c2.1]
 rw[lk1]at s1
 refine A.mono s1 ?_
 rintro _ hB (⟨z,_⟩ | ⟨_,rfl,kB,_⟩)
 ·cases z
 refine vP ?_
 obtain⟨w1,hw1⟩:∃w1:Tr,w1={ u1 with st:=2 }:=⟨_,rfl⟩
 rw[←hw1]at kB
 have d1:w1.st=2∧w1.br=0∧w1.p=p1∧keysW w1=[keyZ [107]]∧w1.wr.length=1:=by
  rw[hw1];exact⟨rfl,c1.2.1,c1.2.2.1,c1.2.2.2.2.1,c1l⟩
 have hwl2:∀y∈([w1,u2]:List Tr),y.wr.length≤60000:=fun y hy=>by
  simp only[List.mem_cons,List.not_mem_nil,or_false]at hy
  rcases hy with rfl | rfl
  ·rw[d1.2.2.2.2];omega
  ·rw[c2.2.2.2.2];omega
 have s2:=step_open h0 hB g pm 1 0 [w1,u2] lv2 lg2 kB 1 (by simp) c2.1 (by simp) hwl2
 simp only[List.getElem_cons_succ,List.getElem_cons_zero,List.set_cons_succ,List.set_cons_zero]at s2
 have lk2:(([w1,u2]:List Tr).any fun y=>lockQ u2 y (wroteQ u2))=true:=by
  simp[lockQ,holds,d1.1,d1.2.1,d1.2.2.1,d1.2.2.2.1,c2.2.1,c2.2.2.1,c2.2.2.2.1,pne]
 rw[lk2]at s2
 refine vZ ?_
 refine A.mono s2 ?_
 rintro _ hC (⟨_,rfl,kC,_⟩ | ⟨z,_⟩)
 case inr=>cases z
 refine vP ?_
 refine vZ ?_
 (first | apply endW_r | apply endW_n);(case h1=>(simp[Tryz.results13];first | done | rfl))
 rfl
end Go.Vn
