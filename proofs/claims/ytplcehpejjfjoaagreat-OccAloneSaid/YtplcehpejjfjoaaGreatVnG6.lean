/- Rows: read from a place on, written from a place on, one thing more. -/
import Derived.Test.YtplcehpejjfjoaaGreatVnG3
import Derived.Test.YtplcehpejjfjoaaGreatVnG5
set_option linter.unusedSimpArgs false
set_option linter.unusedVariables false
namespace Go.Vn
theorem RSat.rsEls_{h:Hp Fm}{sz o cap:Nat}{els:List AV}(k:RSat h sz els o cap)(hf:∀e∈els,Fit true sz e)(h0:0<sz){i n:Nat}(hi:i+n=els.length):rsEls h o (i*sz) sz true n=some (els.drop i):=by
 obtain⟨⟨J,h1,h2⟩,h3,h4⟩:=k
 have hn:n=(els.drop i).length:=by rw[List.length_drop];omega
 have hA:((els.take i).flatMap AV.cells).length=i*sz:=by
  rw[fits_len (fun e he=>hf e (List.mem_of_mem_take he)),List.length_take];congr 1;omega
 have hcs:els.flatMap AV.cells++J=(els.take i).flatMap AV.cells++((els.drop i).flatMap AV.cells++J):=by
  rw[←List.append_assoc,←List.flatMap_append,List.take_append_drop]
 simp only[rsEls,h1]
 rw[if_pos ⟨h0,(fun e=>by cases e),by rw[List.length_append,fits_len hf,←hi,Nat.add_mul];omega⟩,hcs,←hA,List.drop_left,hn,chunk_fit _ _ (fun e he=>hf e (List.mem_of_mem_drop he))]
theorem RSat.blit{h:Hp Fm}{sz o cap:Nat}{els:List AV}(k:RSat h sz els o cap)(hf:∀e∈els,Fit true sz e){i:Nat}{new:List AV}(hg:∀e∈new,Fit true sz e)(hi:i+new.length≤els.length) :
  ∃cs,Mp.get h.obj o=some (.row cs)∧i*sz+new.length*sz≤cs.length∧i*sz+(els.length-i)*sz≤cs.length∧∀h',Mp.get h'.obj o=some (.row (splice cs (i*sz) (new.flatMap AV.cells)))→o<h'.no→RSat h' sz (els.take i++new++els.drop (i+new.length)) o cap:=by
 obtain⟨⟨J,h1,h2⟩,h3,h4⟩:=k
 have hA:((els.take i).flatMap AV.cells).length=i*sz:=by
  rw[fits_len (fun e he=>hf e (List.mem_of_mem_take he)),List.length_take];congr 1;omega
 have hB:(((els.drop i).take new.length).flatMap AV.cells).length=new.length*sz:=by
  rw[fits_len (fun e he=>hf e (List.mem_of_mem_drop (List.mem_of_mem_take he))),List.length_take,List.length_drop];congr 1;omega
 have hN:(new.flatMap AV.cells).length=new.length*sz:=fits_len hg
 have hcs:els.flatMap AV.cells++J=(els.take i).flatMap AV.cells++(((els.drop i).take new.length).flatMap AV.cells++((els.drop (i+new.length)).flatMap AV.cells++J)):=by
  have e1:els=els.take i++((els.drop i).take new.length++els.drop (i+new.length)):=by
   rw[←List.drop_drop,List.take_append_drop,List.take_append_drop]
  conv=>lhs;rw[e1]
  simp only[List.flatMap_append,List.append_assoc]
 have hlen:(els.flatMap AV.cells++J).length=els.length*sz+J.length:=by rw[List.length_append,fits_len hf]
 refine⟨_,h1,?_,?_,?_⟩
 ·rw[hlen,←Nat.add_mul]
  have:=Nat.mul_le_mul_right sz hi;omega
 ·rw[hlen,←Nat.add_mul,show i+(els.length-i)=els.length by omega];omega
 ·intro h' hg' hn
  refine⟨⟨J,?_,?_⟩,by simp;omega,hn⟩
  ·rw[hg',hcs]
   unfold splice
   rw[←hA,List.take_left,←List.drop_drop,List.drop_left,hN,←hB,List.drop_left]
   simp
  ·rw[h2];congr 1;simp;omega
theorem RSat.grow{h:Hp Fm}{sz o cap:Nat}{els:List AV}(k:RSat h sz els o cap)(hc:els.length+1≤cap):∃junk,Fit true sz junk∧RSat h sz (els++[junk]) o cap:=by
 obtain⟨⟨J,h1,h2⟩,h3,h4⟩:=k
 have hJ:sz≤J.length:=by
  rw[h2]
  have:1*sz≤(cap-els.length)*sz:=Nat.mul_le_mul_right sz (by omega)
  omega
 refine⟨.agg (J.take sz),.inl ⟨rfl,_,rfl,by rw[List.length_take];omega⟩,⟨J.drop sz,?_,?_⟩,by simp;omega,h4⟩
 ·rw[h1]
  have:((els++[AV.agg (J.take sz)]).flatMap AV.cells)=els.flatMap AV.cells++J.take sz:=by simp
  rw[this,List.append_assoc,List.take_append_drop]
 ·rw[List.length_drop,h2,List.length_append,List.length_singleton,show cap-els.length=(cap-(els.length+1))+1 by omega,Nat.add_mul];omega
end Go.Vn

set_option maxRecDepth 20000
namespace Go.Vn
open Go.Proofs
theorem RSat.rsPre{h:Hp Fm}{sz o cap:Nat}{els:List AV}(k:RSat h sz els o cap)(hf:∀e∈els,Fit true sz e)(h0:0<sz){i:Nat}(hi:i≤els.length):rsEls h o 0 sz true i=some (els.take i):=by
 obtain⟨⟨J,h1,h2⟩,h3,h4⟩:=k
 have hn:i=(els.take i).length:=by rw[List.length_take];omega
 have hcs:els.flatMap AV.cells++J=(els.take i).flatMap AV.cells++((els.drop i).flatMap AV.cells++J):=by
  rw[←List.append_assoc,←List.flatMap_append,List.take_append_drop]
 have hm:=Nat.mul_le_mul_right sz hi
 simp only[rsEls,h1]
 rw[if_pos ⟨h0,(fun e=>by cases e),by rw[List.length_append,fits_len hf];omega⟩,List.drop_zero,hcs]
 have hcf:=chunk_fit (ag:=true) (sz:=sz) (els.take i) ((els.drop i).flatMap AV.cells++J) (fun e he=>hf e (List.mem_of_mem_take he))
 rw[←hn]at hcf
 rw[hcf]
theorem copy_rs{P:Program}{t e sz:Nat}(hu:P.underlying t=some (.slice e))(hs:tsize P e=some sz)(hag:tagg P e=some true){h:Hp Fm}{o cap:Nat}{els:List AV}(k:RSat h sz els o cap)(hf:∀x∈els,Fit true sz x){s:AV}{new:List AV}(hnew:newEls h sz true s=some new)(hg:∀x∈new,Fit true sz x){i m c:Nat}(hi:i+m=els.length) :
  ∃x q,copyAV P h t (.rs o (i*sz) sz true m c) s=some (q,{ h with obj:=Mp.set h.obj o x })∧RSat { h with obj:=Mp.set h.obj o x } sz (els.take i++new.take m++els.drop (i+(new.take m).length)) o cap:=by
 obtain⟨cs,h1,h2,h3,h4⟩:=k.blit hf (i:=i) (new:=new.take m) (fun x hx=>hg x (List.mem_of_mem_take hx)) (by rw[List.length_take];omega)
 have hle:i*sz+m*sz≤cs.length:=by rw[show m=els.length-i by omega];exact h3
 refine⟨.row (splice cs (i*sz) ((new.take m).flatMap AV.cells)),.int .i64 (min new.length m:Nat),?_,h4 _ (by simp) k.on⟩
 simp[copyAV,hu,hs,hag,hnew,h1,hle]
theorem hbo:hasBody Tryz.prog 114=false:=by kernel_rfl
theorem ext_overl(h:Hp Fm)(a b:AV)(ha:rsSz 3 a=true):externAV Tryz.prog h 114 [a,b]=(overlapsAV h a b).map .bool:=by
 have e1:Tryz.f114.body.isSome=false:=by kernel_rfl
 have e2 : (Tryz.f114.name == "runtime.NumGoroutine") = false := by kernel_rfl
 have e3 : ¬ Tryz.f114.name = "internal/bytealg.IndexByteString" := by decide +kernel
 have e4 : Tryz.f114.origin = "slices.overlaps" := by kernel_rfl
 have e5:noRow Tryz.f114.name=true:=by kernel_rfl
 have e6:Tryz.f114.params[0]? = some 42:=by kernel_rfl
 unfold externAV
 rw[Tryz.func114]
 simp only[e1,e2,Bool.or_self,if_neg e3,if_pos (And.intro e4 e5),e6,Tryz.underlying42,z49,ha]
 simp
 intro k;rw[ha]at k;cases k
def pz:AV:=.agg [.int .i64 0,.int .i64 0,.str []]
set_option maxHeartbeats 4000000 in
theorem insert_ans(xs:List Pc)(p:Pc)(hb h0:Hp Fm)(he0:HE hb h0)(hpol:hb.pol=(· == 49))(v:AV)(hr:RS hb.no h0 3 true (xs.map encP) v)(hl:xs.length≤16000000)(i:Nat)(hi:i≤xs.length)(ov:Nat)(hov:RSat h0 3 [encP p] ov 1)(hovn:∀q,isRow v q→q≠ov)(hovl:hb.no≤ov) :
  A Tryz.prog TT (.func 95) [v,.int .i64 i,.rs ov 0 3 true 1 1] h0 (fun r h'=>RS hb.no h' 3 true ((xs.take i++p::xs.drop i).map encP) r∧HE hb h'):=by
 have vc:=hr.cells
 have vd:=hr.isCell
 have l1:=hr.len Tryz.underlying42
 rw[List.length_map]at l1
 have n1:=hr.nm
 have pp:h0.pol 49=true:=by rw[he0.pol,hpol];rfl
 obtain⟨n,hn⟩:∃n,n=xs.length:=⟨_,rfl⟩
 rw[←hn]at l1 hl hi
 have new1:newEls h0 3 true (.rs ov 0 3 true 1 1)=some [encP p]:=by
  have:=hov.rsPre (fitPs [p]) (by omega) (i:=1) (by simp)
  simpa[newEls]using this
 by_cases qe:i=n
 ·have sl0:∃r,sliceAV Tryz.prog 42 v (some (.int .i64 (i:Int))) none none=some r:=by
   rcases hr with⟨rfl,hx⟩ | ⟨o,cap,rfl,_,hk⟩
   ·have hz:i=0:=by
     have:xs.length=0:=by simpa using congrArg List.length hx
     omega
    subst hz
    exact⟨.nils,by simp[sliceAV,Tryz.underlying42,obound,bound]⟩
   ·have hc:=hk.cap
    rw[List.length_map]at hc
    have h1:(i:Int)≤n:=by omega
    have h2:i≤n:=by omega
    have h3:n≤cap:=by omega
    have h4:(n:Int)≤cap:=by omega
    rw[List.length_map,←hn]
    exact⟨_,by simp[sliceAV,Tryz.underlying42,z49,obound,bound,h1,h2,h3,h4];rfl⟩
  obtain⟨r0,sl0⟩:=sl0
  subst qe
  apply A_go Tryz.func95 rfl (by rfl);(case hn=>(simp[Tryz.ntmps95];rfl))
  refine vF (cJ sl0 (cJ vc (cJ vd (cJ l1 n1)))) ?_
  with_reducible apply WO_app_i;(case hw=>(simp[sl0,vc,vd,l1,n1];done));(case ho=>rfl);(case hb=>rfl);(case ha=>(simp[sl0,vc,vd,l1,n1];first | done | exact⟨rfl,rfl⟩ | rfl));(case h1=>(simp;first | done | rfl));(case h2=>(simp;first | done | rfl))
  refine app_then (RS.appN (lo:=hb.no) (h:=h0) etp (v:=v) hr he0.no pp new1 (fitPs _) (fitPs [p]) (by simp;omega)) ?_
  rintro x4 h4 ⟨ac4,hx4,hq4,hr4⟩
  have e4:=ac4.cells
  have f4:=ac4.isCell
  refine vP ?_
  refine vF (cJ e4 f4) ?_
  (first | apply endW_r | apply endW_n);(case h1=>(simp[Tryz.results95];first | done | rfl))
  rw[hn,List.take_length,List.drop_length]
  exact⟨by simpa using ac4,he0.x2 hx4 hr.rows (fun _ e=>e.elim)⟩
 have qi:i<n:=by omega
 rcases hr with⟨rfl,hx⟩ | ⟨o,cap,rfl,hlo,hk⟩
 ·have:xs.length=0:=by simpa using congrArg List.length hx
  omega
 have hc:=hk.cap
 rw[List.length_map,←hn]at hc
 rw[List.length_map,←hn]at vc vd n1 l1 ⊢
 have hoov:o≠ov:=hovn o ⟨_,_,_,_,_,rfl⟩
 have qe':¬((i:Int)=(n:Int)):=by omega
 have sl0:sliceAV Tryz.prog 42 (.rs o 0 3 true n cap) (some (.int .i64 (i:Int))) none none=some (.rs o (i*3) 3 true (n-i) (cap-i)):=by
  have h1:(i:Int)≤n:=by omega
  have h2:i≤n:=by omega
  have h3:n≤cap:=by omega
  have h4:(n:Int)≤cap:=by omega
  have h5:¬cap=i:=by omega
  simp[sliceAV,Tryz.underlying42,z49,obound,bound,h1,h2,h3,h4,h5]
 have w1:IntKind.i64.wrap ((n:Int)+1)=((n+1:Nat):Int):=by rw[wrap64 (by omega) (by omega)];simp
 have w2:IntKind.i64.wrap ((i:Int)+1)=((i+1:Nat):Int):=by rw[wrap64 (by omega) (by omega)];simp
 obtain⟨n',hn'⟩:∃n',n'=n+1:=⟨_,rfl⟩
 obtain⟨i',hi'⟩:∃i',i'=i+1:=⟨_,rfl⟩
 rw[←hn']at w1
 rw[←hi']at w2
 have cp0:capAV Tryz.prog 42 (.rs o 0 3 true n cap)=some (.int .i64 cap):=by simp[capAV,Tryz.underlying42]
 have hxl:(xs.map encP).length=n:=by rw[List.length_map,hn]
 have htl:((xs.map encP).take i).length=i:=by rw[List.length_take];omega
 have hfx:=fitPs xs
 have hfz:∀d,∀e∈(xs.map encP).take i++List.replicate d pz,Fit true 3 e:=by
  intro d e he
  rcases List.mem_append.mp he with he | he
  ·exact hfx e (List.mem_of_mem_take he)
  ·rw[(List.mem_replicate.mp he).2];exact .inl ⟨rfl,_,rfl,rfl⟩
 obtain⟨d,hd⟩:∃d,d=n-i:=⟨_,rfl⟩
 have hdi:i+d=n:=by omega
 rw[←hd]at sl0
 have srcx:=hk.rsEls_ hfx (by omega) (i:=i) (n:=d) (by omega)
 by_cases qc:cap<n'
 ·have qc':(cap:Int)<(n':Int):=by omega
  obtain⟨d',hd'⟩:∃d',d'=n'-i:=⟨_,rfl⟩
  have w3:IntKind.i64.wrap ((n':Int)-(i:Int))=(d':Int):=by rw[wrap64 (by omega) (by omega)];omega
  have sl1:sliceAV Tryz.prog 42 (.rs o 0 3 true n cap) none (some (.int .i64 (i:Int))) none=some (.rs o 0 3 true i cap):=by
   rw[take_rs Tryz.underlying42 z49 (by omega) (by omega) (by omega),Int.toNat_natCast]
  obtain⟨cap2,h1,apz,hk1,he1,hc2⟩:∃cap2 h1,appendAV Tryz.prog h0 42 3 (.rs o 0 3 true i cap) (.int .i64 (d':Int))=some (.rs h0.no 0 3 true n' cap2,h1)∧RSat h1 3 ((xs.map encP).take i++List.replicate d' pz) h0.no cap2∧HE h0 h1∧n'≤cap2:=by
   have hge:=grown_ge h0 n' cap 49
   have hz0:¬d'=0:=by omega
   have hz1:i+d'=n':=by omega
   have hz2:(d':Int)*32≤1099511627776:=by omega
   have hz3:(d':Int)≤1099511627776:=by omega
   have hz4:n'*32≤1099511627776:=by omega
   have hpre:=hk.rsPre hfx (by omega) (i:=i) (by omega)
   have hfr:=RS.fresh etp (lo:=0) (h:=h0.drew) (Nat.zero_le _) (h0.grown n' cap 49) ((xs.map encP).take i++List.replicate d' pz) (by rw[List.length_append,htl,List.length_replicate,hz1];exact hge)
   refine⟨h0.grown n' cap 49,(newRs h0.drew 3 true [.int .i64 0,.int .i64 0,.str []] (h0.grown n' cap 49) ((xs.map encP).take i++List.replicate d' pz)).2,?_,?_,?_,hge⟩
   ·have hlen:((xs.map encP).take i++List.replicate d' pz).length=n':=by rw[List.length_append,htl,List.length_replicate,hz1]
    have e0:appendAV Tryz.prog h0 42 3 (.rs o 0 3 true i cap) (.int .i64 (d':Int))=some (newRs h0.drew 3 true [.int .i64 0,.int .i64 0,.str []] (h0.grown n' cap 49) ((xs.map encP).take i++List.replicate d' pz)):=by
     simp only[appendAV,Tryz.underlying42,Tryz.underlying3,z49,a49,b49,t49,isIntD,zeroEls,if_true,Option.bind_some,cells_agg,List.length_cons,List.length_nil]
     simp[hz2,hz3,appendTo,hz0,hz1,hz4,qc,hpre,pz]
    rw[e0]
    simp only[newRs,hlen,drew_no]
   ·rcases hfr with⟨e,_⟩ | ⟨o3,c3,e,_,hk3⟩
    ·simp[newRs]at e
    ·simp only[newRs,drew_no]at e hk3 ⊢
     injection e with e1 _ _ _ e5 e6
     rw[←e1,←e6]at hk3
     exact hk3
   ·exact HE.x2 (HE.refl h0) (((HX.refl (fun _=>False) (fun _=>False) h0).drew).trans (newRs_hx _ _ _ _ _ _ _ _)) (fun _ e=>e.elim) (fun _ e=>e.elim)
  have sl2:sliceAV Tryz.prog 42 (.rs h0.no 0 3 true n' cap2) (some (.int .i64 (i:Int))) none none=some (.rs h0.no (i*3) 3 true d' (cap2-i)):=by
   have h1:(i:Int)≤n':=by omega
   have h2:i≤n':=by omega
   have h4:(n':Int)≤cap2:=by omega
   have h5:¬cap2=i:=by omega
   simp[sliceAV,Tryz.underlying42,z49,obound,bound,h1,h2,hc2,h4,h5,←hd']
  have sl3:sliceAV Tryz.prog 42 (.rs h0.no 0 3 true n' cap2) (some (.int .i64 (i':Int))) none none=some (.rs h0.no (i'*3) 3 true d (cap2-i')):=by
   have h1:(i':Int)≤n':=by omega
   have h2:i'≤n':=by omega
   have h4:(n':Int)≤cap2:=by omega
   have h5:¬cap2=i':=by omega
   have h6:n'-i'=d:=by omega
   simp[sliceAV,Tryz.underlying42,z49,obound,bound,h1,h2,hc2,h4,h5,h6]
  have new2:newEls h1 3 true (.rs ov 0 3 true 1 1)=some [encP p]:=by
   have:=(hov.he he1).rsPre (fitPs [p]) (by omega) (i:=1) (by simp)
   simpa[newEls]using this
  obtain⟨x2,q2,cp1,hk2⟩:=copy_rs Tryz.underlying42 z49 a49 hk1 (hfz d') new2 (fitPs [p]) (i:=i) (m:=d') (c:=cap2-i) (by rw[List.length_append,htl,List.length_replicate])
  have hon2:h0.no≠o:=by have:=hk.on;omega
  obtain⟨h2,hh2⟩:∃h2:Hp Fm,h2={ h1 with obj:=Mp.set h1.obj h0.no x2 }:=⟨_,rfl⟩
  rw[←hh2]at cp1 hk2
  have hk':RSat h2 3 (xs.map encP) o cap:=by
   obtain⟨⟨J,g1,g2⟩,g3,g4⟩:=hk.he he1
   exact⟨⟨J,by rw[hh2];simp[Ne.symm hon2,g1],g2⟩,g3,by rw[hh2];exact g4⟩
  have hk'':RSat h2.drew 3 (xs.map encP) o cap:=hk'.he (HE.refl h2).drew
  have new3:newEls h2.drew 3 true (.rs o (i*3) 3 true d (cap-i))=some ((xs.map encP).drop i):=by
   have:=hk''.rsEls_ hfx (by omega) (i:=i) (n:=d) (by omega)
   simpa[newEls]using this
  have h1t:([encP p]:List AV).take d'=[encP p]:=List.take_of_length_le (by simp;omega)
  have els2:((xs.map encP).take i++List.replicate d' pz).take i++([encP p]:List AV).take d'++((xs.map encP).take i++List.replicate d' pz).drop (i+(([encP p]:List AV).take d').length)=(xs.map encP).take i++[encP p]++List.replicate d pz:=by
   rw[h1t,List.take_left' htl,List.length_singleton,←List.drop_drop,List.drop_left' htl,List.drop_replicate,show d'-1=d by omega]
  rw[els2]at hk2
  have hk2d:RSat h2.drew 3 ((xs.map encP).take i++[encP p]++List.replicate d pz) h0.no cap2:=hk2.he (HE.refl h2).drew
  have hf2:∀e∈(xs.map encP).take i++[encP p]++List.replicate d pz,Fit true 3 e:=by
   intro e he
   rcases List.mem_append.mp he with he | he
   ·rcases List.mem_append.mp he with he | he
    ·exact hfx e (List.mem_of_mem_take he)
    ·rw[List.mem_singleton.mp he];exact fitP p
   ·rw[(List.mem_replicate.mp he).2];exact .inl ⟨rfl,_,rfl,rfl⟩
  have htl2:((xs.map encP).take i++[encP p]).length=i':=by rw[List.length_append,htl,hi'];rfl
  obtain⟨x3,q3,cp2,hk3⟩:=copy_rs Tryz.underlying42 z49 a49 hk2d hf2 new3 (fun e he=>hfx e (List.mem_of_mem_drop he)) (i:=i') (m:=d) (c:=cap2-i') (by rw[List.length_append,htl2,List.length_replicate])
  have hdl:((xs.map encP).drop i).take d=(xs.map encP).drop i:=List.take_of_length_le (by rw[List.length_drop];omega)
  have els3:((xs.map encP).take i++[encP p]++List.replicate d pz).take i'++((xs.map encP).drop i).take d++((xs.map encP).take i++[encP p]++List.replicate d pz).drop (i'+(((xs.map encP).drop i).take d).length)=(xs.take i++p::xs.drop i).map encP:=by
   have hz:((xs.map encP).take i++[encP p]++List.replicate d pz).drop (i'+((xs.map encP).drop i).length)=[]:=List.drop_eq_nil_of_le (by rw[List.length_append,htl2,List.length_replicate,List.length_drop];omega)
   rw[hdl,List.take_left' htl2,hz]
   simp
  rw[els3]at hk3
  apply A_go Tryz.func95 rfl (by rfl);(case hn=>(simp[Tryz.ntmps95];rfl))
  refine vF (cJ sl0 (cJ vc (cJ vd (cJ l1 (cJ n1 (cJ qe (cJ qe' (cJ w1 (cJ cp0 (cJ qc (cJ qc' (cJ sl1 w3)))))))))))) ?_
  with_reducible apply WO_app_i;(case hw=>(simp[sl0,vc,vd,l1,n1,qe,qe',w1,cp0,qc,qc',sl1,w3];done));(case ho=>rfl);(case hb=>rfl);(case ha=>(simp[sl0,vc,vd,l1,n1,qe,qe',w1,cp0,qc,qc',sl1,w3];first | done | exact⟨rfl,rfl⟩ | rfl));(case h1=>(simp;first | done | rfl));(case h2=>(simp;first | done | rfl))
  refine⟨_,_,apz,?_⟩
  refine vP ?_
  refine vF (cJ sl2 cp1) ?_
  (with_reducible refine W_draw_id (pln:=true) [0,1,2,3,4,5,6,7,8] [] (by kernel_rfl) rfl ?_)
  refine vF (cJ w2 (cJ sl3 (cJ sl0 cp2))) ?_
  refine⟨by simp[readSame,beqAV_self,w2];done,_,by simp;first | done | rfl,?_⟩
  refine vZ ?_
  (first | apply endW_r | apply endW_n);(case h1=>(simp[Tryz.results95];first | done | rfl))
  have hpl:(xs.take i++p::xs.drop i).length=n':=by simp;omega
  refine⟨.inr ⟨h0.no,cap2,by simp;omega,he0.no,hk3⟩,?_⟩
  have hz:=he0.trans he1
  have hz2:HE hb h2:=by rw[hh2];exact hz.set he0.no _
  exact(hz2.drew).set he0.no _
 ·have qc':¬((cap:Int)<(n':Int)):=by omega
  obtain⟨junk,hjk,hkg⟩:=hk.grow (by omega)
  have hfj:∀e∈xs.map encP++[junk],Fit true 3 e:=by
   intro e he
   rcases List.mem_append.mp he with he | he
   ·exact hfx e he
   ·rw[List.mem_singleton.mp he];exact hjk
  obtain⟨d',hd'⟩:∃d',d'=n'-i:=⟨_,rfl⟩
  have sl1:sliceAV Tryz.prog 42 (.rs o 0 3 true n cap) none (some (.int .i64 (n':Int))) none=some (.rs o 0 3 true n' cap):=by
   have h1:(n':Int)≤cap:=by omega
   have h2:n'≤cap:=by omega
   simp[sliceAV,Tryz.underlying42,z49,obound,bound,h1,h2]
  have sl2:sliceAV Tryz.prog 42 (.rs o 0 3 true n' cap) (some (.int .i64 (i':Int))) none none=some (.rs o (i'*3) 3 true d (cap-i')):=by
   have h1:(i':Int)≤n':=by omega
   have h2:i'≤n':=by omega
   have h3:n'≤cap:=by omega
   have h4:(n':Int)≤cap:=by omega
   have h5:¬cap=i':=by omega
   have h6:n'-i'=d:=by omega
   simp[sliceAV,Tryz.underlying42,z49,obound,bound,h1,h2,h3,h4,h5,h6]
  have sl3:sliceAV Tryz.prog 42 (.rs o 0 3 true n' cap) (some (.int .i64 (i:Int))) none none=some (.rs o (i*3) 3 true d' (cap-i)):=by
   have h1:(i:Int)≤n':=by omega
   have h2:i≤n':=by omega
   have h3:n'≤cap:=by omega
   have h4:(n':Int)≤cap:=by omega
   have h5:¬cap=i:=by omega
   simp[sliceAV,Tryz.underlying42,z49,obound,bound,h1,h2,h3,h4,h5,←hd']
  have hgl:(xs.map encP++[junk]).length=n':=by rw[List.length_append,hxl,hn'];rfl
  obtain⟨cso,gro,_⟩:=hov.at_ (fitPs [p]) (i:=0) (by simp)
  obtain⟨csx,grx,_⟩:=hk.at_ hfx (i:=i) (by omega)
  have lno:=hov.len_ (fitPs [p]) gro
  have lnx:=hk.len_ hfx grx
  have ovl:overlapsAV h0 (.rs ov 0 3 true 1 1) (.rs o (i'*3) 3 true d (cap-i'))=some false:=by
   have k1:¬d=0:=by omega
   have k2:cso≠[]:=fun e=>by rw[e]at lno;simp at lno
   have k3:csx≠[]:=fun e=>by rw[e]at lnx;simp at lnx;omega
   simp[overlapsAV,k1,Ne.symm hoov,gro,grx,k2,k3]
  have hkgd:RSat h0.drew 3 (xs.map encP++[junk]) o cap:=hkg.he (HE.refl h0).drew
  have new3:newEls h0.drew 3 true (.rs o (i*3) 3 true d' (cap-i))=some ((xs.map encP++[junk]).drop i):=by
   have:=hkgd.rsEls_ hfj (by omega) (i:=i) (n:=d') (by omega)
   simpa[newEls]using this
  obtain⟨x2,q2,cp1,hk2⟩:=copy_rs Tryz.underlying42 z49 a49 hkgd hfj new3 (fun e he=>hfj e (List.mem_of_mem_drop he)) (i:=i') (m:=d) (c:=cap-i') (by omega)
  have hdrop:(xs.map encP++[junk]).drop i=(xs.map encP).drop i++[junk]:=by rw[List.drop_append_of_le_length (by omega)]
  have hdt:((xs.map encP++[junk]).drop i).take d=(xs.map encP).drop i:=by
   rw[hdrop];exact List.take_left' (by rw[List.length_drop];omega)
  have els2:(xs.map encP++[junk]).take i'++((xs.map encP++[junk]).drop i).take d++(xs.map encP++[junk]).drop (i'+(((xs.map encP++[junk]).drop i).take d).length)=(xs.map encP).take i'++(xs.map encP).drop i:=by
   have hz:(xs.map encP++[junk]).drop (i'+((xs.map encP).drop i).length)=[]:=List.drop_eq_nil_of_le (by rw[hgl,List.length_drop];omega)
   rw[hdt,hz,List.append_nil,List.take_append_of_le_length (by omega)]
  rw[els2]at hk2
  obtain⟨h2,hh2⟩:∃h2:Hp Fm,h2={ h0.drew with obj:=Mp.set h0.drew.obj o x2 }:=⟨_,rfl⟩
  rw[←hh2]at cp1 hk2
  have hov2:RSat h2 3 [encP p] ov 1:=by
   obtain⟨⟨J,g1,g2⟩,g3,g4⟩:=hov
   exact⟨⟨J,by rw[hh2];simp[Ne.symm hoov,g1],g2⟩,g3,by rw[hh2];exact g4⟩
  have new4:newEls h2 3 true (.rs ov 0 3 true 1 1)=some [encP p]:=by
   have:=hov2.rsPre (fitPs [p]) (by omega) (i:=1) (by simp)
   simpa[newEls]using this
  have hf2:∀e∈(xs.map encP).take i'++(xs.map encP).drop i,Fit true 3 e:=by
   intro e he
   rcases List.mem_append.mp he with he | he
   ·exact hfx e (List.mem_of_mem_take he)
   ·exact hfx e (List.mem_of_mem_drop he)
  have hl2:((xs.map encP).take i'++(xs.map encP).drop i).length=n':=by rw[List.length_append,List.length_take,List.length_drop];omega
  obtain⟨x3,q3,cp2,hk3⟩:=copy_rs Tryz.underlying42 z49 a49 hk2 hf2 new4 (fitPs [p]) (i:=i) (m:=d') (c:=cap-i) (by omega)
  have h1t:([encP p]:List AV).take d'=[encP p]:=List.take_of_length_le (by simp;omega)
  have els3:((xs.map encP).take i'++(xs.map encP).drop i).take i++([encP p]:List AV).take d'++((xs.map encP).take i'++(xs.map encP).drop i).drop (i+(([encP p]:List AV).take d').length)=(xs.take i++p::xs.drop i).map encP:=by
   rw[h1t,List.length_singleton,←hi',List.take_append_of_le_length (by rw[List.length_take];omega),List.take_take,show min i i'=i by omega,List.drop_left' (by rw[List.length_take];omega)]
   simp
  rw[els3]at hk3
  have eo:externAV Tryz.prog h0 114 [.rs ov 0 3 true 1 1,.rs o (i'*3) 3 true d (cap-i')]=some (.bool false):=by
   rw[ext_overl _ _ _ rfl,ovl];rfl
  apply A_go Tryz.func95 rfl (by rfl);(case hn=>(simp[Tryz.ntmps95];rfl))
  refine vF (cJ sl0 (cJ vc (cJ vd (cJ l1 (cJ n1 (cJ qe (cJ qe' (cJ w1 (cJ cp0 (cJ qc (cJ qc' (cJ sl1 (cJ w2 (cJ sl2 (cJ hbo eo))))))))))))))) ?_
  (with_reducible refine W_draw_id (pln:=true) [0,1,2,3,4,5,6,7,8] [] (by kernel_rfl) rfl ?_)
  refine vF (cJ w2 (cJ sl2 (cJ sl3 cp1))) ?_
  refine⟨by simp[readSame,beqAV_self,w2];done,_,by simp;first | done | rfl,?_⟩
  refine vF (cJ sl3 cp2) ?_
  (first | apply endW_r | apply endW_n);(case h1=>(simp[Tryz.results95];first | done | rfl))
  have hpl:(xs.take i++p::xs.drop i).length=n':=by simp;omega
  refine⟨.inr ⟨o,cap,by simp;omega,hlo,hk3⟩,?_⟩
  have hz2:HE hb h2:=by rw[hh2];exact he0.drew.set hlo _
  exact hz2.set hlo _
end Go.Vn

set_option maxRecDepth 20000
namespace Go.Vn
open Go.Proofs
theorem RS.frzL{lo:Nat}{h:Hp Fm}{sz:Nat}{ag:Bool}{els:List AV}{v:AV}(k:RS lo h sz ag els v)(hf:∀e∈els,Fit ag sz e)(h0:0<sz)(h1:ag=false→sz=1):SL sz els (Vn.frz 3 v h).1:=by
 obtain⟨f1,_⟩:=k.frz hf h0 h1
 rcases k with⟨hw,hx⟩ | ⟨o,cap,hw,_⟩
 ·rw[hw];exact .inl ⟨rfl,hx⟩
 ·rcases f1 with⟨z,hz⟩ | ⟨g,of_,cp,z⟩ | ⟨c,z,hz⟩
  ·exact .inl ⟨z,hz⟩
  ·exact .inr ⟨g,of_,cp,z⟩
  ·rw[hw]at z
   simp only[Vn.frz]at z
   exfalso
   revert z
   split <;> (try split) <;> simp
theorem overf_ans(q p:Pc)(oc:Nat)(h0:Hp Fm)(ho:Mp.get h0.obj oc=some (.row [.int .i64 p.fr,.int .i64 p.to,.str p.val]))(hon:oc<h0.no):A Tryz.prog TT (.func 94) [encP q,.ptr oc 0] h0 (fun r h'=>r=.bool (decide (p.to≤q.fr))∧HE h0 h'):=by
 have nz:oc≠h0.no:=by omega
 apply A_go Tryz.func94 rfl (by rfl);(case hn=>(simp[Tryz.ntmps94];rfl))
 refine vF (cJ ho nz) ?_
 (first | apply endW_r | apply endW_n);(case h1=>(simp[Tryz.results94];first | done | rfl))
 exact⟨by simp,(HE.refl h0).new _⟩
theorem idxP(p:Pc)(oc:Nat)(hb:Hp Fm)(hoc:Mp.get hb.obj oc=some (.row [.int .i64 p.fr,.int .i64 p.to,.str p.val]))(hcn:oc<hb.no)(xs:List Pc)(v:AV)(hxl:xs.length≤16000000)(lo:Nat)(h0:Hp Fm)(he0:HE hb h0)(hr:RS lo h0 3 true (xs.map encP) v) :
  A Tryz.prog TT (.func 93) [v,.fn (.func 94) [] [.ptr oc 0]] h0 (fun r h'=>r=.int .i64 (firstI (fun q:Pc=>decide (p.to≤q.fr)) xs)∧HE h0 h'):=by
 have l1:=hr.len Tryz.underlying42
 rw[List.length_map]at l1
 have n1:=hr.nm
 apply A_go Tryz.func93 rfl (by rfl);(case hn=>(simp[Tryz.ntmps93];rfl))
 refine vF (cJ l1 n1) ?_
 refine W_loop (fun m s=>∃(t:Fm AV) (h:Hp Fm) (i:Nat),s=⟨t,19,h,none⟩∧m=xs.length-i∧i≤xs.length∧tget t 0=v∧tget t 1=.fn (.func 94) [] [.ptr oc 0]∧tget t 7=.int .i64 xs.length∧tget t 8=.int .i64 i∧(∀j (hj:j<i) (hx:j<xs.length),decide (p.to≤xs[j].fr)=false)∧HE h0 h) xs.length
  ⟨_,_,0,rfl,rfl,by omega,by simp,by simp,by simp,by simp,fun j hj=>absurd hj (Nat.not_lt_zero _),HE.refl _⟩ ?_
 rintro m s ⟨t,h,i,rfl,rfl,hi,t0,t1,t7,t8,hn,he⟩
 by_cases qi:i<xs.length
 ·obtain⟨o,cs,ix,gr,pt⟩:=(hr.he he).idx Tryz.underlying42 z49 (fitPs _) (i:=i) (by simpa using qi)
  simp only[List.getElem_map,encP]at pt
  have w1:IntKind.i64.wrap ((i:Int)+1)=((i+1:Nat):Int):=by rw[wrap64 (by omega) (by omega)];simp
  refine vF (cJ t0 (cJ t1 (cJ t7 (cJ t8 (cJ qi (cJ ix (cJ gr pt))))))) ?_
  refine A.mono (overf_ans xs[i] p oc h (((he0.trans he).obj _ hcn).trans hoc) (Nat.lt_of_lt_of_le hcn (he0.trans he).no)) ?_
  rintro _ hh ⟨rfl,heh⟩
  refine vP ?_
  by_cases qp:p.to≤xs[i].fr
  ·refine vF (cJ t0 (cJ t1 (cJ t7 (cJ t8 qp)))) ?_
   (first | apply endW_r | apply endW_n);(case h1=>(simp[Tryz.results93];first | done | rfl))
   exact⟨by rw[firstI_at qi (by simp[qp]) fun j hj=>hn j hj (by omega)],he.trans heh⟩
  ·refine vF (cJ t0 (cJ t1 (cJ t7 (cJ t8 (cJ w1 qp))))) ?_
   refine⟨_,?_,_,_,i+1,rfl,rfl,by omega,by simp[t0],by simp[t1],by simp[t7],by simp,?_,he.trans heh⟩
   ·omega
   ·intro j hj hx
    by_cases e:j=i
    ·subst e;simp[qp]
    ·exact hn j (by omega) hx
 ·have qn:¬(i<xs.length):=qi
  have hie:i=xs.length:=by omega
  refine vF (cJ t0 (cJ t1 (cJ t7 (cJ t8 (cJ qi qn))))) ?_
  (first | apply endW_r | apply endW_n);(case h1=>(simp[Tryz.results93];first | done | rfl))
  refine⟨?_,he⟩
  rw[firstI_none]
  intro x hx
  obtain⟨j,hj,rfl⟩:=List.getElem_of_mem hx
  exact hn j (by omega) hj
theorem where_(l:List Pc)(b:Int):∃i,i≤l.length∧l.takeWhile (fun o=>decide (o.fr<b))=l.take i∧l.dropWhile (fun o=>decide (o.fr<b))=l.drop i∧((firstI (fun q:Pc=>decide (b≤q.fr)) l=-1∧i=l.length)∨firstI (fun q:Pc=>decide (b≤q.fr)) l=i):=by
 induction l with
 | nil=>exact⟨0,by simp,rfl,rfl,.inl ⟨rfl,rfl⟩⟩
 | cons p l ih=>
  by_cases q:p.fr<b
  ·obtain⟨i,h1,h2,h3,h4⟩:=ih
   refine⟨i+1,by simp;omega,by simp[q,h2],by simp[q,h3],?_⟩
   have hn:decide (b≤p.fr)=false:=by simp;omega
   have e:firstI (fun q:Pc=>decide (b≤q.fr)) (p::l)=if firstI (fun q:Pc=>decide (b≤q.fr)) l=-1 then -1 else firstI (fun q:Pc=>decide (b≤q.fr)) l+1:=by
    unfold firstI
    rw[List.findIdx?_cons,hn]
    cases l.findIdx? (fun q:Pc=>decide (b≤q.fr))with
    | none=>simp
    | some k=>simp <;> omega
   rw[e]
   rcases h4 with⟨h4,h5⟩ | h4
   ·left;rw[if_pos h4];exact⟨rfl,by simp[h5]⟩
   ·right
    rw[h4,if_neg (by omega)];simp
  ·refine⟨0,by omega,by simp[q],by simp[q],.inr ?_⟩
   have hn:decide (b≤p.fr)=true:=by simp;omega
   unfold firstI
   rw[List.findIdx?_cons,hn];simp
theorem withoutP_len(l:List Pc)(c d:Int):(withoutP l c d).length≤2*l.length:=by
 unfold withoutP
 split
 ·exact without_len c d l
 ·omega
theorem overP_len(l:List Pc)(p:Pc):(overP l p).length≤2*l.length+1:=by
 unfold overP
 split
 ·have h:=withoutP_len l p.fr p.to
  have e:=congrArg List.length (List.takeWhile_append_dropWhile (p:=fun o:Pc=>decide (o.fr<p.to)) (l:=withoutP l p.fr p.to))
  rw[List.length_append]at e
  rw[List.length_append,List.length_append,List.length_singleton];omega
 ·omega
theorem vQn69{F G K:Prop}(f:F)(k:K)(h:F→K→G:=by intro f k;(repeat(first|with_reducible first|refine vmR ?_|refine vmV rfl ?_|refine vmW rfl ?_|refine vmL ?_|refine blockW_y (by decide) ?_|((with_reducible first|apply vmO|apply vmT|apply vmC);case a=>simp[f,newSeq];with_reducible first|exact .v|exact .c|exact .t|exact .f)));exact k):G:=h f k
set_option maxHeartbeats 2000000 in
theorem over_ans(ps:List Pc)(v:AV)(hv:SL 3 (ps.map encP) v)(hl:ps.length≤4000000)(p:Pc)(h0:Hp Fm) :
  A Tryz.prog TT (.func 70) [v,encP p] h0 (fun r h'=>SL 3 ((overP ps p).map encP) r∧HE h0 h'):=by
 have vc:=hv.sv.cells
 have vd:=hv.sv.isCell
 apply A_goT Tryz.func70 rfl (by rfl);(case hn=>(simp[Tryz.ntmps70];rfl))
 obtain⟨hq,hhq⟩:∃hq:Hp Fm,hq={ h0 with pol:=(· == 49) }:=⟨_,rfl⟩
 have hqp:hq.pol=(· == 49):=by rw[hhq]
 have fin:∀(w:AV) (h:Hp Fm) (qs:List Pc),RS hq.no h 3 true (qs.map encP) w→HE hq h→SL 3 (qs.map encP) (frz 3 w h).1∧HE h0 { (frz 3 w h).2 with pol:=h0.pol }:=by
  intro w h qs k he
  obtain⟨f1,f2⟩:=k.frz (fitPs _) (by omega) (fun e=>by cases e)
  have f3:=he.x2 f2 k.rows (fun _ e=>e.elim)
  refine⟨k.frzL (fitPs _) (by omega) (fun e=>by cases e),?_⟩
  subst hhq
  exact⟨f3.no,f3.ng,rfl,f3.obj,f3.len⟩
 rw[←hhq]
 have hqn:hq.no=h0.no:=by rw[hhq]
 refine vZ ?_
 refine A.mono (may_ans p.fr p.to _) ?_
 rintro _ h1 ⟨rfl,e1⟩
 have g2:Mp.get h1.obj hq.no=some (.row [.int .i64 p.fr,.int .i64 p.to,.str p.val]):=by rw[e1.obj _ (by show hq.no<hq.no+1;omega)];simp
 have hx1:HE hq h1:=((HE.refl hq).new _).trans e1
 have no1:hq.no<h1.no:=Nat.lt_of_lt_of_le (by show hq.no<hq.no+1;omega) e1.no
 have p1:h1.pol=(· == 49):=hx1.pol.trans hqp
 refine vP ?_
 by_cases km:May p.fr p.to
 case neg=>
  refine vF (cJ km (cJ vc vd)) ?_
  refine A.mono (clonep_rs ps v hv hl _ (by rw[p1];rfl)) ?_
  rintro w h2 ⟨rs2,he2⟩
  have e2:=rs2.cells
  have f2:=rs2.isCell
  refine vP ?_
  refine vF (cJ e2 f2) ?_
  (first | apply endW_r | apply endW_n);(case h1=>(simp[Tryz.results70];first | done | rfl))
  have ho:overP ps p=ps:=by unfold overP;rw[if_neg km]
  rw[ho]
  exact fin w h2 ps (rs2.lo hx1.no) (hx1.trans he2)
 refine vF (cJ km (cJ g2 (cJ vc vd))) ?_
 refine A.mono (without_rs ps v hv hl p.fr p.to km _ p1) ?_
 rintro w h2 ⟨rs2,he2⟩
 have c2:=rs2.cells
 have d2:=rs2.isCell
 have l2:=rs2.len Tryz.underlying42
 rw[List.length_map]at l2
 have n2:=rs2.nm
 have hwl:=withoutP_len ps p.fr p.to
 obtain⟨ws,hws⟩:∃ws,ws=withoutP ps p.fr p.to:=⟨_,rfl⟩
 rw[←hws]at rs2 l2 hwl
 have g3:=(he2.obj _ no1).trans g2
 have hx2:=hx1.trans he2
 have p2:h2.pol=(· == 49):=hx2.pol.trans hqp
 refine vP ?_
 refine vF (cJ c2 d2) ?_
 refine A.mono (idxP p hq.no h1 g2 no1 ws w (by omega) h1.no h2 he2 rs2) ?_
 rintro _ h3 ⟨rfl,he3⟩
 have g4:=(he3.obj _ (Nat.lt_of_lt_of_le no1 he2.no)).trans g3
 have hx3:=hx2.trans he3
 have rs3:=rs2.he he3
 have p3:h3.pol 49=true:=by rw[hx3.pol,hqp];rfl
 obtain⟨i,hi,htw,hdw,hwh⟩:=where_ ws p.to
 have hov:overP ps p=ws.take i++p::ws.drop i:=by
  unfold overP;rw[if_pos km,←hws,htw,hdw];simp
 rw[hov]
 have hz1:HE h3 (newRs h3 3 true [.int .i64 0,.int .i64 0,.str []] 1 [encP p]).2:=HE.x2 (HE.refl _) (newRs_hx (fun _=>False) (fun _=>False) _ _ _ _ _ _) (fun _ e=>e.elim) (fun _ e=>e.elim)
 have hov1:RSat (newRs h3 3 true [.int .i64 0,.int .i64 0,.str []] 1 [encP p]).2 3 [encP p] h3.no 1:=by
  rcases RS.fresh etp (lo:=0) (h:=h3) (Nat.zero_le _) 1 [encP p] (by simp)with⟨e,_⟩ | ⟨o3,c3,e,_,hk3⟩
  ·simp[newRs]at e
  ·simp only[newRs]at e hk3 ⊢
   injection e with e1 _ _ _ e5 e6
   rw[←e1,←e6]at hk3
   exact hk3
 have ins:=insert_ans ws p h1 (newRs h3 3 true [.int .i64 0,.int .i64 0,.str []] 1 [encP p]).2 ((he2.trans he3).trans hz1) p1 w (rs3.he hz1) (by omega) i hi h3.no hov1 (by
  rintro q ⟨_,_,_,_,_,e⟩
  rcases rs3 with⟨e1,_⟩ | ⟨o,cap,e1,_,hk⟩
  ·rw[e1]at e;cases e
  ·rw[e1]at e;injection e with e;have:=hk.on;omega) (he2.trans he3).no
 refine vP ?_
 rcases hwh with⟨hwh,hie⟩ | hwh
 ·rw[hwh]
  subst hie
  refine vQn69 (cJ c2 (cJ d2 (cJ l2 (cJ n2 (cJ g4 p3))))) ?_
  refine A.mono ins ?_
  rintro r h4 ⟨rs4,he4⟩
  have rc:=rs4.cells
  have rd:=rs4.isCell
  refine vP ?_
  refine vF (cJ rc rd) ?_
  (first | apply endW_r | apply endW_n);(case h1=>(simp[Tryz.results70];first | done | rfl))
  exact fin r h4 _ (rs4.lo hx1.no) (hx1.trans he4)
 ·rw[hwh]
  have qn:¬((i:Int)<0):=by omega
  refine vQn69 (cJ c2 (cJ d2 (cJ l2 (cJ n2 (cJ g4 (cJ p3 qn)))))) ?_
  refine A.mono ins ?_
  rintro r h4 ⟨rs4,he4⟩
  have rc:=rs4.cells
  have rd:=rs4.isCell
  refine vP ?_
  refine vF (cJ rc rd) ?_
  (first | apply endW_r | apply endW_n);(case h1=>(simp[Tryz.results70];first | done | rfl))
  exact fin r h4 _ (rs4.lo hx1.no) (hx1.trans he4)
end Go.Vn
