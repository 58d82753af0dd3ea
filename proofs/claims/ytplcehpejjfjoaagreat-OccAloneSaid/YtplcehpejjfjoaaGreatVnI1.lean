/- What functions of the program come to, in the value machine (a part of the proof of the claim's statement). No condition. -/
import Derived.Test.YtplcehpejjfjoaaGreatVnG1
import Derived.Test.YtplcehpejjfjoaaGreatVnG2
import Derived.Test.YtplcehpejjfjoaaGreatVnG3
import Derived.Test.YtplcehpejjfjoaaGreatVnG5
set_option linter.unusedSimpArgs false
set_option linter.unusedVariables false
set_option maxRecDepth 20000
namespace Go.Vn
open Go.Proofs
structure Br where
 pa:Int
 fk:Int
 fl:Int
 dr:Bool
deriving Inhabited,DecidableEq
@[simp] def encB(b:Br):AV:=.agg [.int .i64 b.pa,.int .i64 b.fk,.int .i64 b.fl,.bool b.dr]
theorem fitB(l:List Br):∀e∈l.map encB,Fit true 4 e:=fun e he=>by obtain⟨x,_,rfl⟩:=List.mem_map.mp he;exact .inl ⟨rfl,_,rfl,rfl⟩
abbrev BRs(lo:Nat)(h:Hp Fm)(bs:List Br)(v:AV):Prop:=RS lo h 4 true (bs.map encB) v
theorem BRs.len{lo:Nat}{h:Hp Fm}{bs:List Br}{v:AV}(k:BRs lo h bs v):lenAV Tryz.prog 67 v=some (.int .i64 bs.length):=by
 rcases k with⟨rfl,e⟩ | ⟨o,cap,rfl,_,_⟩
 ·have:bs=[]:=by simpa using e
  subst this;simp[lenAV]
 ·simp[lenAV]
theorem BRs.nm{lo:Nat}{h:Hp Fm}{bs:List Br}{v:AV}(k:BRs lo h bs v)(o:Nat):v≠.mp o:=by
 rcases k with⟨rfl,_⟩ | ⟨_,_,rfl,_⟩ <;> simp
theorem BRs.at_{lo:Nat}{h:Hp Fm}{bs:List Br}{v:AV}(k:BRs lo h bs v){i:Nat}(hi:i<bs.length) :
  ∃o cs,indexAddrAV Tryz.prog 67 v (.int .i64 (i:Int))=some (.ptr o (i*4))∧Mp.get h.obj o=some (.row cs)∧o<h.no∧lo≤o∧partAV true 4 cs (i*4)=some (.agg [.int .i64 bs[i].pa,.int .i64 bs[i].fk,.int .i64 bs[i].fl,.bool bs[i].dr]) ∧
   partAV false 1 cs (i*4)=some (.int .i64 bs[i].pa)∧partAV false 1 cs (i*4+1)=some (.int .i64 bs[i].fk)∧partAV false 1 cs (i*4+2)=some (.int .i64 bs[i].fl)∧partAV false 1 cs (i*4+3)=some (.bool bs[i].dr):=by
 rcases k with⟨rfl,e⟩ | ⟨o,cap,rfl,hlo,kk⟩
 ·have:bs=[]:=by simpa using e
  subst this;simp at hi
 ·obtain⟨cs,g1,g2,g3,_⟩:=kk.at_ (fitB _) (i:=i) (by rw[List.length_map];exact hi)
  simp only[List.getElem_map,encB]at g2
  have g4:(cs.drop (i*4)).take 4=[.int .i64 bs[i].pa,.int .i64 bs[i].fk,.int .i64 bs[i].fl,.bool bs[i].dr]:=by
   unfold partAV at g2
   rw[if_pos rfl,if_pos g3]at g2
   injection g2 with g2
   injection g2
  have g5:∀j,j<4→partAV false 1 cs (i*4+j)=[AV.int .i64 bs[i].pa,.int .i64 bs[i].fk,.int .i64 bs[i].fl,.bool bs[i].dr][j]? := fun j hj=>by
   rw[←g4,List.getElem?_take_of_lt hj,List.getElem?_drop];rfl
  refine⟨o,cs,?_,g1,kk.on,hlo,g2,g5 0 (by omega),g5 1 (by omega),g5 2 (by omega),g5 3 (by omega)⟩
  rw[index_rs Tryz.underlying67 z93 (by omega) (by rw[List.length_map];omega),Int.toNat_natCast]
def bOk(i:Nat)(b:Br):Prop:=((i=0∧b.pa=-1∧b.fk=0)∨(0<i∧0≤b.pa∧b.pa<i))∧(0≤b.fk∧b.fk≤10000)∧0≤b.fl∧b.fl≤10000
structure BOk(bs:List Br):Prop where
 ok:∀(i:Nat) (hi:i<bs.length),bOk i bs[i]
 ge:1≤bs.length
 le:bs.length≤16
theorem epoch_ans(n:Int)(h1:0≤n)(h2:n≤10000)(h0:Hp Fm):A Tryz.prog TT (.func 83) [.int .i64 n] h0 (fun r h'=>r=.bool true∧h'=h0):=by
 apply A_go Tryz.func83 rfl (by rfl);(case hn=>(simp[Tryz.ntmps83];rfl))
 refine vF (cJ h1 h2) ?_
 (first | apply endW_r | apply endW_n);(case h1=>(simp[Tryz.results83];first | done | rfl))
 exact⟨rfl,rfl⟩
set_option maxHeartbeats 1000000 in
theorem tmay_ans(lo:Nat)(bs:List Br)(v:AV)(ok:BOk bs)(h0:Hp Fm)(k0:BRs lo h0 bs v) :
  A Tryz.prog TT (.func 54) [v] h0 (fun r h'=>r=.bool true∧HE h0 h'):=by
 have l1:=k0.len
 have vc:=k0.cells
 have vi:=k0.isCell
 have vn:=k0.nm
 have g1:(1:Int)≤bs.length:=by have:=ok.ge;omega
 have g2:(bs.length:Int)≤16:=by have:=ok.le;omega
 have ble:=ok.le
 apply A_go Tryz.func54 rfl (by rfl);(case hn=>(simp[Tryz.ntmps54];rfl))
 refine vF (cJ vc (cJ vi (cJ l1 vn))) ?_
 refine W_loop (fun m s=>∃(t:Fm AV) (h:Hp Fm) (i:Nat),s=⟨t,65,h,none⟩∧m=bs.length-i∧i≤bs.length∧tget t 0=v∧tget t 7=v∧tget t 8=.int .i64 bs.length∧tget t 9=.int .i64 i∧HE h0 h) bs.length
  ⟨_,_,0,rfl,rfl,by omega,by simp,by simp,by simp,by simp,HE.refl _⟩ ?_
 rintro m s ⟨t,h,i,rfl,rfl,hi,t0,t7,t8,t9,e1⟩
 by_cases q:i<bs.length
 case neg=>
  have q':¬((i:Int)<bs.length):=by omega
  refine vF (cJ t0 (cJ t7 (cJ t8 (cJ t9 (cJ q (cJ q' (cJ vc (cJ vi (cJ l1 (cJ vn (cJ g1 g2))))))))))) ?_
  (first | apply endW_r | apply endW_n);(case h1=>(simp[Tryz.results54];first | done | rfl))
  exact⟨rfl,e1⟩
 have q':((i:Int)<bs.length):=by omega
 obtain⟨o,cs,x1,x2,x3,_,x4,_⟩:=BRs.at_ (k0.he e1) q
 obtain⟨b,hb⟩:∃b,b=bs[i]:=⟨_,rfl⟩
 obtain⟨ob1,⟨ob2,ob3⟩,ob4,ob5⟩:=ok.ok i q
 rw[←hb]at x4 ob1 ob2 ob3 ob4 ob5
 obtain⟨ip,hip⟩:∃ip,ip=i+1:=⟨_,rfl⟩
 have wi:IntKind.i64.wrap ((i:Int)+1)=(ip:Int):=by rw[wrap64 (by omega) (by omega)];omega
 have nx:=Nat.ne_of_gt x3
 rcases ob1 with⟨i0,p1,p2⟩ | ⟨i0,p1,p2⟩
 ·subst i0
  rw[show(0:Nat)*4=0 from rfl]at x1 x4
  rw[show((0:Nat):Int)=0 from rfl]at x1
  refine vF (cJ t0 (cJ t7 (cJ t8 (cJ t9 (cJ q (cJ q' (cJ vc (cJ vi (cJ x1 (cJ x2 (cJ x4 (cJ p1 p2)))))))))))) ?_
  refine A.mono (epoch_ans _ ob4 ob5 _) ?_
  rintro _ _ ⟨rfl,rfl⟩
  refine vP ?_
  refine vF (cJ t0 (cJ t7 (cJ t8 (cJ t9 wi)))) ?_
  exact⟨bs.length-ip,by omega,_,_,ip,rfl,rfl,by omega,by simp[t0],by simp[t7],by simp[t8],by simp[hip],(e1.new _).set e1.no _⟩
 ·have z0:¬i=0:=by omega
  have z1:¬((i:Int)=0):=by omega
  have z2:(0:Int)<i:=by omega
  refine vF (cJ t0 (cJ t7 (cJ t8 (cJ t9 (cJ q (cJ q' (cJ vc (cJ vi (cJ x1 (cJ x2 (cJ x4 (cJ z0 (cJ z1 (cJ z2 (cJ i0 (cJ p1 p2)))))))))))))))) ?_
  refine A.mono (epoch_ans _ ob2 ob3 _) ?_
  rintro _ _ ⟨rfl,rfl⟩
  refine vP ?_
  refine vZ ?_
  refine A.mono (epoch_ans _ ob4 ob5 _) ?_
  rintro _ _ ⟨rfl,rfl⟩
  refine vP ?_
  refine vF (cJ t0 (cJ t7 (cJ t8 (cJ t9 wi)))) ?_
  exact⟨bs.length-ip,by omega,_,_,ip,rfl,rfl,by omega,by simp[t0],by simp[t7],by simp[t8],by simp[hip],(e1.new _).set e1.no _⟩
end Go.Vn

set_option maxRecDepth 20000
namespace Go.Vn
open Go.Proofs
def brAt(bs:List Br)(b:Nat):Br:=bs.getD b default
def minE(f e:Int):Int:=if f<e then f else e
def pathP(bs:List Br):Nat→Nat→Int→List Lg
 | 0,_,_=>[]
 | k+1,b,e=>⟨b,e⟩::(if 0≤(brAt bs b).pa then pathP bs k (brAt bs b).pa.toNat (minE (brAt bs b).fk e)else [])
def pathB(bs:List Br)(b:Nat)(e:Int):List Lg:=pathP bs (b+1) b e
theorem etLg:ElT Tryz.prog 156 187 2 16 true (.agg [.int .i64 0,.int .i64 0]):=⟨Tryz.underlying156,z187,b187,a187,t187,rfl,rfl,(fun h=>by cases h),by omega,by omega⟩
theorem vKb40{F G K:Prop}(f:F)(k:K)(h:F→K→G:=by intro f k;(repeat(first|with_reducible first|refine vmR ?_|refine vmV rfl ?_|refine vmW rfl ?_|refine blockW_y (by decide) ?_|((with_reducible first|apply vmO|apply vmT|apply vmC);case a=>simp[f,newSeq,newSl];with_reducible first|exact .v|exact .c|exact .t|exact .f)));exact k):G:=h f k
theorem vKb41{F G K:Prop}(f:F)(k:K)(h:F→K→G:=by intro f k;(repeat(first|with_reducible first|refine vmR ?_|refine vmV rfl ?_|refine vmW rfl ?_|refine vmL ?_|refine blockW_y (by decide) ?_|((with_reducible first|apply vmO|apply vmT|apply vmC);case a=>simp[f,newSeq,newSl];with_reducible first|exact .v|exact .c|exact .t|exact .f)));exact k):G:=h f k
set_option maxHeartbeats 4000000 in
theorem tpath_loop(lo:Nat)(bs:List Br)(v:AV)(ok:BOk bs)(h0:Hp Fm)(k0:BRs lo h0 bs v)(hp:h0.pol 187=false)(bd:Code)(hbd:∃c,Tryz.f82.body=some (.seq c (.scope bd)))(rest:Code)(hrest:findLabel bd 0=some rest) :
  ∀(n b:Nat) (e:Int) (acc:List Lg) (t:Fm AV) (h:Hp Fm) (a:AV),b<n→b<bs.length→acc.length+n≤100→HE h0 h→AC h0 h 2 (acc.map encL) a→tget t 0=v→tget t 1=.int .i64 b→tget t 2=.int .i64 e→tget t 7=a →
   W Tryz.prog TT rest ⟨t,42,h,none⟩ (jumpW Tryz.prog TT bd <| endW Tryz.prog Tryz.f82 fun r h'=>AC h0 h' 2 ((acc++pathP bs n b e).map encL) r∧HE h0 h'):=by
 obtain⟨c,hb2⟩:=hbd
 have hb':some (Code.seq c (.scope bd))=Tryz.f82.body:=hb2.symm
 injection hb' with hb'
 injection hb' with _ hb4
 injection hb4 with hb3
 subst hb3
 injection hrest with hrest
 subst hrest
 have vc:=k0.cells
 have vi:=k0.isCell
 intro n
 induction n with
 | zero=>intro b e acc t h a hn;omega
 | succ n ih=>
  intro b e acc t h a hn hb hacl he hac t0 t1 t2 t7
  clear hb2
  have uc:=hac.sv.cells
  have ui:=hac.sv.isCell
  have hph:h.pol 187=false:=by rw[he.pol];exact hp
  refine vKb40 (cJ t0 (cJ t1 (cJ t2 (cJ t7 (cJ vc (cJ vi (cJ uc (cJ ui hph)))))))) ?_
  refine vKb41 (cJ t0 (cJ t1 (cJ t2 (cJ t7 (cJ vc (cJ vi (cJ uc (cJ ui hph)))))))) ?_
  with_reducible apply WO_app_i;(case hw=>(simp[t0,t1,t2,t7,vc,vi,uc,ui,newSeq,newSl,hph];done));(case ho=>rfl);(case hb=>rfl);(case ha=>(simp[t0,t1,t2,t7,vc,vi,uc,ui,newSeq,newSl,hph];first | done | exact⟨rfl,rfl⟩ | rfl));(case h1=>(simp;first | done | rfl));(case h2=>(simp;first | done | rfl))
  refine app_then (AC.app (h0:=h0) etLg (hac.of ((HE.refl h).newSl 1)) (he.newSl 1) hp (by simp;omega)) ?_
  rintro x4 h4 ⟨ac4,he4,hob,hno,_⟩
  have e4:=ac4.sv.cells
  have f4:=ac4.sv.isCell
  obtain⟨o,cs,x1,x2,x3,_,x5,_⟩:=BRs.at_ (RS.he k0 he4) hb
  obtain⟨B,hB⟩:∃B,B=bs[b]:=⟨_,rfl⟩
  have hB2:brAt bs b=B:=by simp[brAt,hb,hB]
  obtain⟨ob1,ob2,ob3⟩:=ok.ok b hb
  rw[←hB]at x5 ob1 ob2 ob3
  have eacc:(acc++[(⟨(b:Int),e⟩:Lg)]).map encL=acc.map encL++[.agg [.int .i64 b,.int .i64 e]]:=by simp
  rw[←eacc]at ac4
  refine vP ?_
  by_cases q:0≤B.pa
  ·obtain⟨p,hpp⟩:∃p:Nat,B.pa=(p:Int):=⟨B.pa.toNat,by omega⟩
   rw[hpp]at x5
   have qp:(0:Int)≤(p:Int):=by omega
   refine vF (cJ t0 (cJ t1 (cJ t2 (cJ e4 (cJ f4 (cJ x1 (cJ x2 (cJ x5 qp)))))))) ?_
   (with_reducible refine W_draw_id (pln:=true) [0,1,2,3,4,5,6,7] [(1,(1,[])),(4,(4,[]))] (by kernel_rfl) rfl ?_)
   refine vF (cJ t0 (cJ t1 t2)) ?_
   refine⟨by simp[readSame,beqAV_self,t2];done,_,by simp;first | done | rfl,?_⟩
   refine vZ ?_
   refine jumpW_g rfl (WS_run ?_)
   have fin:acc++pathP bs (n+1) b e=(acc++[⟨(b:Int),e⟩])++pathP bs n p (minE B.fk e):=by
    simp only[pathP,hB2,if_pos q,hpp,if_pos qp,Int.toNat_natCast,List.append_assoc,List.cons_append,List.nil_append]
   rw[fin]
   have he5:HE h4 { h4 with obj:=Mp.set (Mp.set h4.obj h4.no (.row [.int .i64 0,.int .i64 0,.int .i64 0,.bool false])) h4.no (.row [.int .i64 p,.int .i64 B.fk,.int .i64 B.fl,.bool B.dr]),no:=h4.no+1 }:=((HE.refl h4).new _).set (Nat.le_refl _) _
   refine ih p (minE B.fk e) (acc++[⟨(b:Int),e⟩]) _ _ x4 (by omega) (by omega) (by simp;omega) (he4.trans he5).drew (ac4.of he5.drew) ?_ ?_ ?_ ?_
   all_goals simp[t0,minE]
  ·refine vF (cJ t0 (cJ t1 (cJ t2 (cJ e4 (cJ f4 (cJ x1 (cJ x2 (cJ x5 q)))))))) ?_
   (first | apply endW_r | apply endW_n);(case h1=>(simp[Tryz.results82];first | done | rfl))
   have fin:acc++pathP bs (n+1) b e=acc++[⟨(b:Int),e⟩]:=by
    simp only[pathP,hB2,if_neg q]
   rw[fin]
   have he5:HE h4 { h4 with obj:=Mp.set (Mp.set h4.obj h4.no (.row [.int .i64 0,.int .i64 0,.int .i64 0,.bool false])) h4.no (.row [.int .i64 B.pa,.int .i64 B.fk,.int .i64 B.fl,.bool B.dr]),no:=h4.no+1 }:=((HE.refl h4).new _).set (Nat.le_refl _) _
   exact⟨ac4.of he5,he4.trans he5⟩
theorem WS.mono{P:Program}{T:Tab}{b c:Code}{st:St Fm}{Q R:Ex→St Fm→Prop}(h:WS P T b c st R)(hq:∀e s,R e s→Q e s):WS P T b c st Q:=let⟨e,s,h1,h2⟩:=h;⟨e,s,h1,hq e s h2⟩
theorem jumpW_mono{P:Program}{T:Tab}{b:Code}{Q R:Ex→St Fm→Prop}(hq:∀e s,R e s→Q e s):∀e s,jumpW P T b R e s→jumpW P T b Q e s:=by
 intro e s h
 cases e with
 | goto l=>
  rw[jumpW_goto]at h ⊢
  cases hf:findLabel b l with
  | some rest=>rw[hf]at h;exact WS.mono h hq
  | none=>rw[hf]at h;exact hq _ _ h
 | _=>exact hq _ _ h
theorem endW_mono{P:Program}{fn:Func}{Q R:AV→Hp Fm→Prop}(hq:∀r h,R r h→Q r h){e:Ex}{s:St Fm}:endW P fn R e s→endW P fn Q e s:=by
 intro h
 cases e with
 | normal=>obtain⟨r,a,b⟩:=h;exact⟨r,a,hq _ _ b⟩
 | ret=>obtain⟨r,a,b⟩:=h;exact⟨r,a,hq _ _ b⟩
 | exit i=>exact h.elim
 | goto l=>exact h.elim
theorem AC.base{a b h:Hp Fm}{sz:Nat}{acc:List AV}{v:AV}(e:HE a b)(k:AC b h sz acc v):AC a h sz acc v:=by
 rcases k with k | ⟨g,off,cap,x1,x2,x3,x4⟩
 ·exact .inl k
 ·exact .inr ⟨g,off,cap,x1,x2,x3,Nat.le_trans e.ng x4⟩
theorem vKb42{F G K:Prop}(f:F)(k:K)(h:F→K→G:=by intro f k;(repeat(first|with_reducible first|refine vmR ?_|refine vmV rfl ?_|refine vmW rfl ?_|refine blockW_y (by decide) ?_|((with_reducible first|apply vmO|apply vmT|apply vmC);case a=>simp[f];with_reducible first|exact .v|exact .c|exact .t|exact .f)));exact k):G:=h f k
theorem tpath_ans(lo:Nat)(bs:List Br)(v:AV)(ok:BOk bs)(b:Nat)(hb:b<bs.length)(e:Int)(h0:Hp Fm)(k0:BRs lo h0 bs v)(hp:h0.pol 187=false) :
  A Tryz.prog TT (.func 82) [v,.int .i64 b,.int .i64 e] h0 (fun r h'=>AC h0 h' 2 ((pathB bs b e).map encL) r∧HE h0 h'):=by
 have vc:=k0.cells
 have vi:=k0.isCell
 have vn:=k0.nm
 have l1:=k0.len
 have ble:=ok.le
 have q1:¬((b:Int)<0):=by omega
 have q2:¬((bs.length:Int)≤b):=by omega
 have q3:¬(bs.length≤b):=by omega
 apply A_go Tryz.func82 rfl (by rfl);(case hn=>(simp[Tryz.ntmps82];rfl))
 refine vF (cJ vc vi) ?_
 refine A.mono (tmay_ans lo bs v ok h0 k0) ?_
 rintro _ h1 ⟨rfl,e1⟩
 refine vP ?_
 refine vKb42 (cJ vc (cJ vi (cJ vn (cJ l1 (cJ q1 (cJ q2 q3)))))) ?_
 refine W_label_i (thenW_n ?_)
 refine W_skip_seq ?_
 refine W.mono (tpath_loop lo bs v ok h1 (RS.he k0 e1) (by rw[e1.pol];exact hp) _ ⟨_,rfl⟩ _ rfl (b+1) b e [] _ _ .nils (by omega) hb (by simp;omega) (HE.refl _) (.inl ⟨rfl,rfl⟩) ?_ ?_ ?_ ?_) (jumpW_mono fun ee s=>endW_mono fun r h' ⟨z1,z2⟩=>⟨AC.base e1 z1,e1.trans z2⟩)
 all_goals simp
end Go.Vn

set_option maxRecDepth 20000
namespace Go.Vn
open Go.Proofs
theorem round_ans(n m:Int)(hn:-9223372036854775808≤n∧n≤9223372036854775807)(hm:0<m)(h0:Hp Fm):A Tryz.prog TT (.func 53) [.int .i64 n,.int .i64 m] h0 (fun r h'=>∃k:Int,r=.int .i64 k∧0≤k∧k<m∧h'=h0):=by
 have mz:¬m=0:=by omega
 by_cases q:n<0
 ·have w1:IntKind.i64.wrap (n+1)=n+1:=wrap64 (by omega) (by omega)
  have w2:IntKind.i64.wrap (0-(n+1))=0-(n+1):=wrap64 (by omega) (by omega)
  have w3:IntKind.i64.wrap (-(n+1))=-(n+1):=wrap64 (by omega) (by omega)
  apply A_go Tryz.func53 rfl (by rfl);(case hn=>(simp[Tryz.ntmps53];rfl))
  refine vF (cJ q (cJ w1 (cJ w2 (cJ w3 mz)))) ?_
  (first | apply endW_r | apply endW_n);(case h1=>(simp[Tryz.results53];first | done | rfl))
  refine⟨_,rfl,?_,?_,rfl⟩
  ·rw[←Int.neg_tmod];exact Int.tmod_nonneg _ (by omega)
  ·rw[←Int.neg_tmod];exact Int.tmod_lt_of_pos _ hm
 ·apply A_go Tryz.func53 rfl (by rfl);(case hn=>(simp[Tryz.ntmps53];rfl))
  refine vF (cJ q mz) ?_
  (first | apply endW_r | apply endW_n);(case h1=>(simp[Tryz.results53];first | done | rfl))
  exact⟨_,rfl,by first | exact Int.tmod_nonneg _ (by omega) | exact Int.tmod_nonneg m (by omega),by first | exact Int.tmod_lt_of_pos _ hm | (have:=Int.tmod_lt_of_pos m (b:=n) (by omega);omega),rfl⟩
end Go.Vn

set_option maxRecDepth 20000
namespace Go.Vn
open Go.Proofs
theorem etBr:ElT Tryz.prog 67 93 4 32 true (.agg [.int .i64 0,.int .i64 0,.int .i64 0,.bool false]):=⟨Tryz.underlying67,z93,b93,a93,t93,rfl,rfl,(fun h=>by cases h),by omega,by omega⟩
def i64R(n:Int):Prop:=-9223372036854775808≤n∧n≤9223372036854775807
def BrR(b:Br):Prop:=i64R b.pa∧i64R b.fk∧i64R b.fl
theorem BOk.snoc{bs:List Br}(ok:BOk bs){b:Br}(hb:bOk bs.length b)(hl:bs.length<16):BOk (bs++[b]):=by
 refine⟨fun i hi=>?_,by simp,by simp;omega⟩
 rw[List.getElem_append]
 split
 ·exact ok.ok i _
 ·rename_i h
  have e:i=bs.length:=by simp at hi;omega
  subst e
  simpa using hb
theorem vJg39{F G K:Prop}(f:F)(k:K)(h:F→K→G:=by intro f k;(repeat(first|with_reducible first|refine vmR ?_|refine vmV rfl ?_|refine vmW rfl ?_|refine vmL ?_|refine blockW_y (by decide) ?_|((with_reducible first|apply vmO|apply vmT|apply vmC);case a=>simp[f,newRs,newSeq];with_reducible first|exact .v|exact .c|exact .t|exact .f)));exact k):G:=h f k
set_option maxHeartbeats 2000000 in
theorem good11_ans(l:List Br)(v:AV)(hv:SV 4 (l.map encB) v)(hr:∀b∈l,BrR b)(h0:Hp Fm)(hp:h0.pol 93=true) :
  A Tryz.prog TT (.func 26) [v] h0 (fun r h'=>∃bs,BOk bs∧bs.length≤8∧(∀b∈bs,b.fl≤7)∧BRs h0.no h' bs r∧HE h0 h'):=by
 have vc:=hv.cells
 have vi:=hv.isCell
 have vn:=hv.nm
 have l1:=hv.len Tryz.underlying67
 rw[List.length_map]at l1
 obtain⟨b0,hb0⟩:∃b0:Br,b0=⟨-1,0,0,false⟩:=⟨_,rfl⟩
 have ok0:BOk [b0]:=by
  refine⟨fun i hi=>?_,by simp,by simp⟩
  have:i=0:=by simp at hi;omega
  subst this
  rw[hb0]
  exact⟨.inl ⟨rfl,rfl,rfl⟩,⟨by simp,by simp⟩,by simp,by simp⟩
 apply A_go Tryz.func26 rfl (by rfl);(case hn=>(simp[Tryz.ntmps26];rfl))
 refine vJg39 hp ?_
 have rs0:=RS.fresh (lo:=h0.no) etBr (h:=h0) (Nat.le_refl _) 1 [encB b0] (by simp)
 rw[hb0]at rs0
 obtain⟨ha,hha⟩:∃ha:Hp Fm,ha={ h0 with obj:=Mp.set h0.obj h0.no (.row [.int .i64 (-1),.int .i64 0,.int .i64 0,.bool false]),no:=h0.no+1 }:=⟨_,rfl⟩
 have e0:HE h0 ha:=by rw[hha];exact(HE.refl h0).new _
 have rs1:BRs h0.no ha [b0] (.rs h0.no 0 4 true 1 1):=by rw[hha,hb0];exact rs0
 rw[←hha]
 refine W_loop (fun m s=>∃(t:Fm AV) (h:Hp Fm) (i:Nat) (bs:List Br) (u:AV),s=⟨t,41,h,none⟩∧m=7-i∧i≤l.length∧i≤7∧bs.length=i+1∧BOk bs∧(∀b∈bs,b.fl≤7)∧BRs h0.no h bs u∧tget t 0=v∧tget t 3=u∧tget t 4=.int .i64 i∧HE h0 h) 7
  ⟨_,_,0,[b0],_,rfl,rfl,by omega,by omega,rfl,ok0,by simp[hb0],rs1,by simp,by simp,by simp,e0⟩ ?_
 rintro m s ⟨t,h,i,bs,u,rfl,rfl,hi,hi7,hbl,ok,hfl,rs,t0,t3,t4,e1⟩
 have uc:=rs.cells
 have ui:=rs.isCell
 have un:=rs.nm
 have ul:=BRs.len rs
 by_cases q:i<l.length
 case neg=>
  have q':¬((i:Int)<l.length):=by omega
  refine vF (cJ t0 (cJ t3 (cJ t4 (cJ q (cJ q' (cJ vc (cJ vi (cJ l1 vn)))))))) ?_
  refine vF (cJ t3 (cJ uc ui)) ?_
  (first | apply endW_r | apply endW_n);(case h1=>(simp[Tryz.results26];first | done | rfl))
  exact⟨bs,ok,by omega,hfl,rs,e1⟩
 have q':((i:Int)<l.length):=by omega
 by_cases q7:i<7
 case neg=>
  have q7':¬((i:Int)<7):=by omega
  refine vF (cJ t0 (cJ t3 (cJ t4 (cJ q (cJ q' (cJ q7 (cJ q7' (cJ vc (cJ vi (cJ l1 vn)))))))))) ?_
  refine vF (cJ t3 (cJ uc ui)) ?_
  (first | apply endW_r | apply endW_n);(case h1=>(simp[Tryz.results26];first | done | rfl))
  exact⟨bs,ok,by omega,hfl,rs,e1⟩
 have q7':((i:Int)<7):=by omega
 obtain⟨x,hx⟩:∃x,x=l[i]:=⟨_,rfl⟩
 have ix:=hv.idx (k:=.i64) (i:=(i:Int)) Tryz.underlying67 z93 (by omega) (by rw[List.length_map];omega)
 replace ix:indexAddrAV Tryz.prog 67 v (.int .i64 (i:Int))=some (.el (.agg [.int .i64 x.pa,.int .i64 x.fk,.int .i64 x.fl,.bool x.dr]) 0):=by rw[ix];simp[hx]
 obtain⟨xr1,xr2,xr3⟩:=hr x (by rw[hx];exact List.getElem_mem q)
 obtain⟨ip,hip⟩:∃ip,ip=i+1:=⟨_,rfl⟩
 have wi:IntKind.i64.wrap ((i:Int)+1)=(ip:Int):=by rw[wrap64 (by omega) (by omega)];omega
 refine vF (cJ t0 (cJ t3 (cJ t4 (cJ q (cJ q' (cJ q7 (cJ q7' (cJ vc (cJ vi (cJ l1 (cJ vn ix))))))))))) ?_
 obtain⟨hb,hhb⟩:∃hb:Hp Fm,hb={ h with obj:=Mp.set (Mp.set h.obj h.no (.row [.int .i64 0,.int .i64 0,.int .i64 0,.bool false])) h.no (.row [.int .i64 x.pa,.int .i64 x.fk,.int .i64 x.fl,.bool x.dr]),no:=h.no+1 }:=⟨_,rfl⟩
 have eb:HE h hb:=by rw[hhb];exact((HE.refl h).new _).set (Nat.le_refl _) _
 have gb:Mp.get hb.obj h.no=some (.row [.int .i64 x.pa,.int .i64 x.fk,.int .i64 x.fl,.bool x.dr]):=by rw[hhb];simp
 rw[←hhb]
 refine vF (cJ t0 (cJ t3 (cJ t4 (cJ gb (cJ uc (cJ ui (cJ un ul))))))) ?_
 refine A.mono (round_ans x.pa bs.length xr1 (by omega) _) ?_
 rintro _ hh ⟨y1,rfl,y10,y11,ehh⟩
 rw[ehh]
 clear ehh hh
 refine vP ?_
 refine vF gb ?_
 refine A.mono (round_ans x.fk 12 xr2 (by omega) _) ?_
 rintro _ hh ⟨y2,rfl,y20,y21,ehh⟩
 rw[ehh]
 clear ehh hh
 refine vP ?_
 refine vF gb ?_
 refine A.mono (round_ans x.fl 8 xr3 (by omega) _) ?_
 rintro _ hh ⟨y3,rfl,y30,y31,ehh⟩
 rw[ehh]
 clear ehh hh
 refine vP ?_
 have hpb:hb.pol 93=true:=by rw[(e1.trans eb).pol];exact hp
 have hbn:hb.no=h.no+1:=by rw[hhb]
 have hnn:¬(hb.no=h.no):=by omega
 have hnn':¬(h.no=hb.no):=by omega
 refine vJg39 (cJ t3 (cJ gb (cJ hpb (cJ hnn hnn')))) ?_
 obtain⟨z,hz⟩:∃z:Br,z=⟨y1,y2,y3,x.dr⟩:=⟨_,rfl⟩
 obtain⟨hc,hhc⟩:∃hc:Hp Fm,hc={ hb with obj:=Mp.set (Mp.set (Mp.set (Mp.set hb.obj h.no (.row [.int .i64 y1,.int .i64 x.fk,.int .i64 x.fl,.bool x.dr])) h.no (.row [.int .i64 y1,.int .i64 y2,.int .i64 x.fl,.bool x.dr])) h.no (.row [.int .i64 y1,.int .i64 y2,.int .i64 y3,.bool x.dr])) hb.no (.row [.int .i64 y1,.int .i64 y2,.int .i64 y3,.bool x.dr]),no:=hb.no+1 }:=⟨_,rfl⟩
 rw[←hhc]
 have hno:h.no<hb.no:=by omega
 have ec:HE h hc:=by rw[hhc];exact(((eb.set (Nat.le_refl _) _).set (Nat.le_refl _) _).set (Nat.le_refl _) _).new _
 have nB:Vn.newEls hc 4 true (.rs hb.no 0 4 true 1 1)=some [encB z]:=by simp[newEls,rsEls,hhc,chunkAV,hz]
 have e2:=e1.trans ec
 have rs2:=RS.he rs ec
 have hpc:hc.pol 93=true:=by rw[e2.pol];exact hp
 with_reducible apply WO_app_i;(case hw=>(simp[t3];done));(case ho=>rfl);(case hb=>rfl);(case ha=>(simp[t3];first | done | exact⟨rfl,rfl⟩ | rfl));(case h1=>(simp;first | done | rfl));(case h2=>(simp;first | done | rfl))
 refine app_then (RS.appN etBr rs2 e2.no hpc nB (fitB _) (fun e he=>by rw[List.mem_singleton.mp he];exact .inl ⟨rfl,_,rfl,rfl⟩) (by simp;omega)) ?_
 rintro w h3 ⟨rs3,x3,p3,q3⟩
 have wc:=rs3.cells
 have wi':=rs3.isCell
 refine vP ?_
 refine vF (cJ t4 (cJ wc (cJ wi' wi))) ?_
 have okz:bOk bs.length z:=by
  rw[hz]
  refine⟨.inr ⟨by omega,by simp;omega,by simp;omega⟩,⟨by simp;omega,by simp;omega⟩,by simp;omega,by simp;omega⟩
 refine⟨7-ip,by omega,_,_,ip,bs++[z],w,rfl,rfl,by omega,by omega,by simp;omega,ok.snoc okz (by omega),?_,?_,by simp[t0],by simp,by simp,?_⟩
 ·intro b hb
  rcases List.mem_append.mp hb with hb | hb
  ·exact hfl b hb
  ·rw[List.mem_singleton.mp hb,hz];show y3≤7;omega
 ·show RS h0.no h3 4 true ((bs++[z]).map encB) w
  rw[List.map_append];exact rs3
 ·exact e2.x2 x3 (fun q hq=>by have:=rs2.rows q hq;omega) (fun _ z=>z.elim)
end Go.Vn

set_option maxRecDepth 20000
namespace Go.Vn
open Go.Proofs
@[simp] theorem frz_ptr(d:Nat)(o a:Nat)(h:Hp Fm):frz d (.ptr o a) h=(.ptr o a,h):=by cases d <;> rfl
structure MemE(h:Hp Fm)(pm:Nat)(bs:List Br)(lo:Nat):Prop where
 ok:BOk bs
 cells:∃pc pl pn po bv,Mp.get h.obj pm=some (.row [.ptr pc 0,bv])∧Mp.get h.obj pc=some (.row [.ptr pl 0,.int .i64 0])∧Mp.get h.obj pl=some (.row [.ptr pn 0,.int .i64 0])∧Mp.get h.obj pn=some (.row [.str [],.nils,.rs po 0 1 false 8 8]) ∧
  Mp.get h.obj po=some (.row [.nilp,.nilp,.nilp,.nilp,.nilp,.nilp,.nilp,.nilp])∧BRs lo h bs bv∧pm<h.no∧pc<h.no∧pl<h.no∧pn<h.no∧po<h.no∧lo≤pm∧lo≤pc∧lo≤pl∧lo≤pn∧lo≤po
theorem MemE.he{h h':Hp Fm}{pm lo:Nat}{bs:List Br}(k:MemE h pm bs lo)(e:HE h h'):MemE h' pm bs lo:=by
 obtain⟨ok,pc,pl,pn,po,bv,a1,a2,a3,a4,a5,a6,b1,b2,b3,b4,b5,c⟩:=k
 have n:=e.no
 exact⟨ok,pc,pl,pn,po,bv,(e.obj _ b1).trans a1,(e.obj _ b2).trans a2,(e.obj _ b3).trans a3,(e.obj _ b4).trans a4,(e.obj _ b5).trans a5,RS.he a6 e,by omega,by omega,by omega,by omega,by omega,c⟩
theorem vJa36{G K:Prop}(k:K)(h:K→G:=by intro k;(repeat(first|with_reducible first|refine vmR ?_|refine vmV rfl ?_|refine vmW rfl ?_|refine vmL ?_|refine blockW_y (by decide) ?_|((with_reducible first|apply vmO|apply vmT|apply vmC);case a=>simp[eqlAV];with_reducible first|exact .v|exact .c|exact .t|exact .f)));exact k):G:=h k
theorem vJa37{F G K:Prop}(f:F)(k:K)(h:F→K→G:=by intro f k;(repeat(first|with_reducible first|refine vmR ?_|refine vmV rfl ?_|refine vmW rfl ?_|refine vmL ?_|refine blockW_y (by decide) ?_|((with_reducible first|apply vmO|apply vmT|apply vmC);case a=>simp[f,eqlAV,newSeq];with_reducible first|exact .v|exact .c|exact .t|exact .f)));exact k):G:=h f k
theorem clonebr_ans(lo:Nat)(bs:List Br)(v:AV)(h0:Hp Fm)(k:BRs lo h0 bs v)(hlo:lo≤h0.no)(hl:bs.length≤1000)(hp:h0.pol 93=true) :
  A Tryz.prog TT (.func 56) [v] h0 (fun r h'=>BRs h0.no h' bs r∧HE h0 h'):=by
 have k0:=k
 rcases k with⟨rfl,e⟩ | ⟨o,cap,rfl,hlo2,kk⟩
 ·apply A_go Tryz.func56 rfl (by rfl);(case hn=>(simp[Tryz.ntmps56];rfl))
  refine vJa36 ?_
  (first | apply endW_r | apply endW_n);(case h1=>(simp[Tryz.results56];first | done | rfl))
  exact⟨.inl ⟨rfl,e⟩,HE.refl _⟩
 ·have he1:HE h0 (newRs h0 4 true [.int .i64 0,.int .i64 0,.int .i64 0,.bool false] 0 []).2:=HE.x2 (HE.refl _) (newRs_hx (fun _=>False) (fun _=>False) _ _ _ _ _ _) (fun _ e=>e.elim) (fun _ e=>e.elim)
  have k1:=RS.newEls (RS.he k0 he1) (fitB _) (by omega) (fun h=>by cases h)
  rw[List.length_map]at k1
  apply A_go Tryz.func56 rfl (by rfl);(case hn=>(simp[Tryz.ntmps56];rfl))
  refine vJa37 hp ?_
  with_reducible apply WO_app_i;(case hw=>(simp[newSeq,hp];done));(case ho=>rfl);(case hb=>rfl);(case ha=>(simp[newSeq,hp];first | done | exact⟨rfl,rfl⟩ | rfl));(case h1=>(simp;first | done | rfl));(case h2=>(simp;first | done | rfl))
  refine app_then (RS.appN (lo:=h0.no) (h:=(newRs h0 4 true [.int .i64 0,.int .i64 0,.int .i64 0,.bool false] 0 []).2) etBr (RS.fresh etBr (Nat.le_refl _) 0 [] (Nat.le_refl _)) he1.no (by rw[he1.pol];exact hp) k1 (by simp) (fitB bs) (by rw[List.length_map,List.length_nil,Nat.zero_add];omega)) ?_
  rintro w h2 ⟨rs2,hx2,hp2,hr2⟩
  have e2:=rs2.cells
  have f2:=rs2.isCell
  refine vP ?_
  refine vF (cJ e2 f2) ?_
  (first | apply endW_r | apply endW_n);(case h1=>(simp[Tryz.results56];first | done | rfl))
  refine⟨by simpa using rs2,he1.x2 hx2 ?_ (fun _ e=>e.elim)⟩
  rintro q ⟨_,_,_,_,_,e⟩
  simp only[newRs]at e
  injection e with e
  omega
theorem vJa38{G K:Prop}(k:K)(h:K→G:=by intro k;(repeat(first|with_reducible first|refine vmR ?_|refine vmV rfl ?_|refine vmW rfl ?_|refine vmL ?_|refine blockW_y (by decide) ?_|((with_reducible first|apply vmO|apply vmT|apply vmC);case a=>simp[makeSliceAV,newRs,newSeq];with_reducible first|exact .v|exact .c|exact .t|exact .f)));exact k):G:=h k
theorem skipnew_ans(h0:Hp Fm):A Tryz.prog TT (.func 84) [] h0 (fun r h'=>r=.ptr (h0.no+1+1) 0∧Mp.get h'.obj (h0.no+1+1)=some (.row [.ptr (h0.no+1) 0,.int .i64 0])∧Mp.get h'.obj (h0.no+1)=some (.row [.str [],.nils,.rs h0.no 0 1 false 8 8]) ∧
  Mp.get h'.obj h0.no=some (.row [.nilp,.nilp,.nilp,.nilp,.nilp,.nilp,.nilp,.nilp])∧h'.no=h0.no+3∧HE h0 h'):=by
 apply A_goT Tryz.func84 rfl (by rfl);(case hn=>(simp[Tryz.ntmps84];rfl))
 have n1:h0.no≠h0.no+1:=by omega
 have n2:h0.no≠h0.no+1+1:=by omega
 have n3:h0.no+1≠h0.no+1+1:=by omega
 refine vJa38 ?_
 (first | apply endW_r | apply endW_n);(case h1=>(simp[Tryz.results84];first | done | rfl))
 refine⟨by simp,by simp,by simp[n3],by simp[n1,n2],by simp,?_⟩
 simp only[frz_ptr]
 exact⟨by show h0.no≤h0.no+1+1+1;omega,Nat.le_refl _,rfl,fun o ho=>by simp[show o≠h0.no by omega,show o≠h0.no+1 by omega,show o≠h0.no+1+1 by omega],fun _ _=>rfl⟩
theorem cnew_ans(h0:Hp Fm):A Tryz.prog TT (.func 55) [] h0 (fun r h'=>r=.ptr (h0.no+3) 0∧Mp.get h'.obj (h0.no+3)=some (.row [.ptr (h0.no+2) 0,.int .i64 0])∧Mp.get h'.obj (h0.no+2)=some (.row [.ptr (h0.no+1) 0,.int .i64 0])∧Mp.get h'.obj (h0.no+1)=some (.row [.str [],.nils,.rs h0.no 0 1 false 8 8]) ∧
  Mp.get h'.obj h0.no=some (.row [.nilp,.nilp,.nilp,.nilp,.nilp,.nilp,.nilp,.nilp])∧h'.no=h0.no+4∧HE h0 h'):=by
 apply A_go Tryz.func55 rfl (by rfl);(case hn=>(simp[Tryz.ntmps55];rfl))
 refine vZ ?_
 refine A.mono (skipnew_ans h0) ?_
 rintro _ h1 ⟨rfl,g1,g2,g3,n1,e1⟩
 refine vP ?_
 refine vZ ?_
 (first | apply endW_r | apply endW_n);(case h1=>(simp[Tryz.results55];first | done | rfl))
 refine⟨by rw[n1],by simp[n1],?_,?_,?_,by simp[n1],e1.new _⟩
 ·simp[n1];exact g1
 ·simp[n1];exact g2
 ·simp[n1];exact g3
theorem newmem_ans(lo:Nat)(bs:List Br)(v:AV)(ok:BOk bs)(h0:Hp Fm)(k:BRs lo h0 bs v)(hlo:lo≤h0.no)(hp:h0.pol 93=true) :
  A Tryz.prog TT (.func 27) [v] h0 (fun r h'=>∃pm,r=.ptr pm 0∧MemE h' pm bs h0.no∧HE h0 h'):=by
 have vc:=k.cells
 have vi:=k.isCell
 have ble:=ok.le
 apply A_go Tryz.func27 rfl (by rfl);(case hn=>(simp[Tryz.ntmps27];rfl))
 refine vF (cJ vc vi) ?_
 refine A.mono (tmay_ans lo bs v ok h0 k) ?_
 rintro _ h1 ⟨rfl,e1⟩
 refine vP ?_
 refine vZ ?_
 refine A.mono (cnew_ans h1) ?_
 rintro _ h2 ⟨rfl,g1,g2,g3,g4,n2,e2⟩
 have e12:=e1.trans e2
 refine vP ?_
 refine vF (cJ vc vi) ?_
 refine A.mono (clonebr_ans lo bs v h2 (RS.he k e12) (Nat.le_trans hlo e12.no) (by omega) (by rw[e12.pol];exact hp)) ?_
 rintro w h3 ⟨rw3,e3⟩
 have wc:=rw3.cells
 have wi:=rw3.isCell
 have n3:=e3.no
 have n1:=e1.no
 have g1:=(e3.obj _ (by omega)).trans g1
 have g2:=(e3.obj _ (by omega)).trans g2
 have g3:=(e3.obj _ (by omega)).trans g3
 have g4:=(e3.obj _ (by omega)).trans g4
 refine vP ?_
 refine vF (cJ wc wi) ?_
 (first | apply endW_r | apply endW_n);(case h1=>(simp[Tryz.results27];first | done | rfl))
 have en:HE h3 { h3 with obj:=Mp.set h3.obj h3.no (.row [.ptr (h1.no+3) 0,w]),no:=h3.no+1 }:=(HE.refl h3).new _
 refine⟨h3.no,rfl,⟨ok,h1.no+3,h1.no+2,h1.no+1,h1.no,w,by simp,?_,?_,?_,?_,RS.lo (RS.he rw3 en) (by omega),?_,?_,?_,?_,?_,by omega,by omega,by omega,by omega,by omega⟩,(e12.trans e3).new _⟩
 ·exact(en.obj _ (by omega)).trans g1
 ·exact(en.obj _ (by omega)).trans g2
 ·exact(en.obj _ (by omega)).trans g3
 ·exact(en.obj _ (by omega)).trans g4
 all_goals show _<h3.no+1;omega
end Go.Vn

set_option maxRecDepth 20000
namespace Go.Vn
open Go.Proofs
def KeysC(F:Nat):Prop:=∀(bx m y clk:Nat) (es:List (AV × AV × Nat)) (hlt:∀e∈es,e.2.2<clk) (hnd:(es.map (·.2.2)).Nodup) (hkc:∀e∈es,e.1.cells=[e.1]∧e.1.isCell=true) (h0:Hp Fm) (hb:Mp.get h0.obj bx=some (.row [.mp m])) (hm:Mp.get h0.obj m=some (.mp es clk)) (bn:bx<h0.no) (mn:m<h0.no)
   (Iv:List (AV × AV × Nat)→Hp Fm→Prop)
   (st:∀done h h',Iv done h→HX (fun q=>q=h0.no) (fun _=>False) h h'→Iv done h')
   (i0:∀h,HE h0 h→h.no=h0.no+1→Iv [] h)
   (rd:∀done e h,Iv done h→e∈es→(∀d∈done,d∈es)→((done++[e]).map (·.2.2)).Nodup→h0.no<h.no→A Tryz.prog TT (.yield y) [e.1] h (fun r h'=>r=.bool true∧Iv (done++[e]) h'∧HX (fun q=>q≠bx∧q≠m∧q≠h0.no) (fun _=>True) h h')),
  A Tryz.prog TT (.func F) [.yl y,.ptr bx 0] h0 (fun _ h'=>∃done,done.Perm es∧Iv done h'∧h0.no<h'.no)
theorem vJc47{F G K:Prop}(f:F)(k:K)(h:F→K→G:=by intro f k;(repeat(first|with_reducible first|refine vmR ?_|refine vmV rfl ?_|refine vmW rfl ?_|refine vmL ?_|refine blockW_y (by decide) ?_|((with_reducible first|apply vmO|apply vmT|apply vmC);case a=>simp[f,rangeAV];with_reducible first|exact .v|exact .c|exact .t|exact .f)));exact k):G:=h f k
set_option maxHeartbeats 1000000 in
theorem keys1_ans:KeysC 87:=by
 intro bx m y clk es hlt hnd hkc h0 hb hm bn mn Iv st i0 rd
 have nm:h0.no≠m:=by omega
 have nb:h0.no≠bx:=by omega
 apply A_go Tryz.func87 rfl (by rfl);(case hn=>(simp[Tryz.ntmps87];rfl))
 refine vJc47 (cJ hb hm) ?_
 obtain⟨ha,hha⟩:∃ha:Hp Fm,ha={ h0 with obj:=Mp.set h0.obj h0.no (.iter (some m) clk [] clk),no:=h0.no+1 }:=⟨_,rfl⟩
 have e0:HE h0 ha:=by rw[hha];exact(HE.refl h0).new _
 have gi:Mp.get ha.obj h0.no=some (.iter (some m) clk (([]:List (AV × AV × Nat)).map (·.2.2)) clk):=by rw[hha];simp
 have gn:h0.no<ha.no:=by rw[hha];simp
 have ia:=i0 ha e0 (by rw[hha])
 have gm:Mp.get ha.obj m=some (.mp es clk):=(e0.obj m mn).trans hm
 rw[←hha]
 refine W_loop (fun mm st=>∃(t:Fm AV) (h:Hp Fm) (done:List (AV × AV × Nat)),st=⟨t,14,h,none⟩∧mm=es.length-done.length∧(∀e∈done,e∈es)∧(done.map (·.2.2)).Nodup∧Mp.get h.obj h0.no=some (.iter (some m) clk (done.map (·.2.2)) clk)∧Mp.get h.obj m=some (.mp es clk)∧tget t 0=.yl y∧tget t 5=.ptr h0.no 0∧Iv done h∧h0.no<h.no) es.length
   ⟨_,_,[],rfl,by simp,by simp,by simp,gi,gm,by simp,by simp,ia,gn⟩ ?_
 rintro _ _ ⟨t,h,done,rfl,rfl,hd,hdn,hi,hmh,ht0,ht5,he,hno⟩
 refine vZ ?_
 with_reducible refine WO_next_i done ?_ rfl ?_ hi hmh hlt hnd hd hdn ?_ ?_
 ·simp
 ·simp[ht5]
 ·intro h1 k1 hp
  refine vP ?_
  refine vZ ?_
  (first | apply endW_r | apply endW_n);(case h1=>(simp[Tryz.results87];first | done | rfl))
  exact⟨done,hp,st _ _ _ he (k1.he.x _ _),Nat.lt_of_lt_of_le hno k1.he.no⟩
 ·intro h1 e hin hnot k1 hno1 hit
  replace hno1:h1.no=h.no:=hno1
  replace k1:HX (fun q=>q=h0.no) (fun _=>False) h h1:=k1
  have hm1:Mp.get h1.obj m=some (.mp es clk):=(k1.obj m (by omega) (Ne.symm nm)).trans hmh
  have hen:=entry_some (done:=done) (h:=h1) (es:=es) hit hm1 hnd hin
  have hdn':((done++[e]).map (·.2.2)).Nodup:=by
   rw[List.map_append,List.nodup_append]
   refine⟨hdn,by simp,fun a ha b hb=>?_⟩
   simp only[List.map_cons,List.map_nil,List.mem_singleton]at hb
   subst hb;intro q;exact hnot (q▸ha)
  have hd':∀x∈done++[e],x∈es:=fun x hx=>by
   rcases List.mem_append.mp hx with q | q
   ·exact hd x q
   ·rw[List.mem_singleton.mp q];exact hin
  have hln:=len_sub (done++[e]) es (nodup_of_map _ hdn') hd'
  rw[List.length_append,List.length_singleton]at hln
  obtain⟨kc1,kc2⟩:=hkc e hin
  have rd':=rd done e h1 (st _ _ _ he k1) hin hd hdn' (by omega)
  obtain⟨ek,ev,est⟩:=e
  simp only at kc1 kc2
  refine vP ?_
  refine vF (cJ ht0 (cJ ht5 (cJ hen (cJ kc1 kc2)))) ?_
  refine A.mono rd' ?_
  rintro _ h2 ⟨rfl,iv2,x2⟩
  refine vP ?_
  refine vZ ?_
  have hno2:=x2.no
  refine⟨es.length-(done++[(ek,ev,est)]).length,by simp;omega,_,_,done++[(ek,ev,est)],rfl,rfl,hd',hdn',?_,?_,by simp[ht0],by simp[ht5],iv2,by omega⟩
  ·exact(x2.obj _ (by omega) (fun z=>z.2.2 rfl)).trans hit
  ·exact(x2.obj _ (by omega) (fun z=>z.2.1 rfl)).trans hm1
set_option maxHeartbeats 1000000 in
theorem keys2_ans:KeysC 100:=by
 intro bx m y clk es hlt hnd hkc h0 hb hm bn mn Iv st i0 rd
 have nm:h0.no≠m:=by omega
 have nb:h0.no≠bx:=by omega
 apply A_go Tryz.func100 rfl (by rfl);(case hn=>(simp[Tryz.ntmps100];rfl))
 refine vJc47 (cJ hb hm) ?_
 obtain⟨ha,hha⟩:∃ha:Hp Fm,ha={ h0 with obj:=Mp.set h0.obj h0.no (.iter (some m) clk [] clk),no:=h0.no+1 }:=⟨_,rfl⟩
 have e0:HE h0 ha:=by rw[hha];exact(HE.refl h0).new _
 have gi:Mp.get ha.obj h0.no=some (.iter (some m) clk (([]:List (AV × AV × Nat)).map (·.2.2)) clk):=by rw[hha];simp
 have gn:h0.no<ha.no:=by rw[hha];simp
 have ia:=i0 ha e0 (by rw[hha])
 have gm:Mp.get ha.obj m=some (.mp es clk):=(e0.obj m mn).trans hm
 rw[←hha]
 refine W_loop (fun mm st=>∃(t:Fm AV) (h:Hp Fm) (done:List (AV × AV × Nat)),st=⟨t,14,h,none⟩∧mm=es.length-done.length∧(∀e∈done,e∈es)∧(done.map (·.2.2)).Nodup∧Mp.get h.obj h0.no=some (.iter (some m) clk (done.map (·.2.2)) clk)∧Mp.get h.obj m=some (.mp es clk)∧tget t 0=.yl y∧tget t 5=.ptr h0.no 0∧Iv done h∧h0.no<h.no) es.length
   ⟨_,_,[],rfl,by simp,by simp,by simp,gi,gm,by simp,by simp,ia,gn⟩ ?_
 rintro _ _ ⟨t,h,done,rfl,rfl,hd,hdn,hi,hmh,ht0,ht5,he,hno⟩
 refine vZ ?_
 with_reducible refine WO_next_i done ?_ rfl ?_ hi hmh hlt hnd hd hdn ?_ ?_
 ·simp
 ·simp[ht5]
 ·intro h1 k1 hp
  refine vP ?_
  refine vZ ?_
  (first | apply endW_r | apply endW_n);(case h1=>(simp[Tryz.results100];first | done | rfl))
  exact⟨done,hp,st _ _ _ he (k1.he.x _ _),Nat.lt_of_lt_of_le hno k1.he.no⟩
 ·intro h1 e hin hnot k1 hno1 hit
  replace hno1:h1.no=h.no:=hno1
  replace k1:HX (fun q=>q=h0.no) (fun _=>False) h h1:=k1
  have hm1:Mp.get h1.obj m=some (.mp es clk):=(k1.obj m (by omega) (Ne.symm nm)).trans hmh
  have hen:=entry_some (done:=done) (h:=h1) (es:=es) hit hm1 hnd hin
  have hdn':((done++[e]).map (·.2.2)).Nodup:=by
   rw[List.map_append,List.nodup_append]
   refine⟨hdn,by simp,fun a ha b hb=>?_⟩
   simp only[List.map_cons,List.map_nil,List.mem_singleton]at hb
   subst hb;intro q;exact hnot (q▸ha)
  have hd':∀x∈done++[e],x∈es:=fun x hx=>by
   rcases List.mem_append.mp hx with q | q
   ·exact hd x q
   ·rw[List.mem_singleton.mp q];exact hin
  have hln:=len_sub (done++[e]) es (nodup_of_map _ hdn') hd'
  rw[List.length_append,List.length_singleton]at hln
  obtain⟨kc1,kc2⟩:=hkc e hin
  have rd':=rd done e h1 (st _ _ _ he k1) hin hd hdn' (by omega)
  obtain⟨ek,ev,est⟩:=e
  simp only at kc1 kc2
  refine vP ?_
  refine vF (cJ ht0 (cJ ht5 (cJ hen (cJ kc1 kc2)))) ?_
  refine A.mono rd' ?_
  rintro _ h2 ⟨rfl,iv2,x2⟩
  refine vP ?_
  refine vZ ?_
  have hno2:=x2.no
  refine⟨es.length-(done++[(ek,ev,est)]).length,by simp;omega,_,_,done++[(ek,ev,est)],rfl,rfl,hd',hdn',?_,?_,by simp[ht0],by simp[ht5],iv2,by omega⟩
  ·exact(x2.obj _ (by omega) (fun z=>z.2.2 rfl)).trans hit
  ·exact(x2.obj _ (by omega) (fun z=>z.2.1 rfl)).trans hm1
structure Got(hs h:Hp Fm)(b y:Nat)(lr:ALoop Fm)(done:List (AV × AV × Nat)):Prop where
 bx:∃w,Mp.get h.obj b=some (.row [w])∧RS (y+2) h 1 false (done.map (·.1)) w
 he:HE hs h
 lp:Mp.get h.obj y=some (.loop lr)
 yn:y<h.no
 pol:h.pol 9=true
theorem etS:ElT Tryz.prog 113 9 1 16 false (.str []):=⟨Tryz.underlying113,z9,b9,a9,t9,rfl,rfl,fun _=>rfl,by omega,by omega⟩
theorem vJc48{G K:Prop}(k:K)(h:K→G:=by intro k;(repeat(first|with_reducible first|refine vmR ?_|refine vmV rfl ?_|refine vmW rfl ?_|refine vmL ?_|refine blockW_y (by decide) ?_|((with_reducible first|apply vmO|apply vmT|apply vmC);case a=>simp[roundT];with_reducible first|exact .v|exact .c|exact .t|exact .f)));exact k):G:=h k
theorem vJc49{F G K:Prop}(f:F)(k:K)(h:F→K→G:=by intro f k;(repeat(first|with_reducible first|refine vmR ?_|refine vmV rfl ?_|refine vmW rfl ?_|refine vmL ?_|refine blockW_y (by decide) ?_|((with_reducible first|apply vmO|apply vmT|apply vmC);case a=>simp[f,newRs,newSeq,roundT];with_reducible first|exact .v|exact .c|exact .t|exact .f)));exact k):G:=h f k
set_option maxHeartbeats 1000000 in
theorem appseq_ans(F:Nat)(hF:hasBody Tryz.prog F=true)(kc:KeysC F)(bx m clk:Nat)(es:List (AV × AV × Nat))(hlt:∀e∈es,e.2.2<clk)(hnd:(es.map (·.2.2)).Nodup)(ks:AV × AV × Nat→List UInt8)(hkc:∀e∈es,e.1=.str (ks e))(hlen:es.length≤60000)(h0:Hp Fm)(hp:h0.pol 9=true)(hb:Mp.get h0.obj bx=some (.row [.mp m]))(hm:Mp.get h0.obj m=some (.mp es clk))(bn:bx<h0.no)(mn:m<h0.no) :
  A Tryz.prog TT (.func 86) [.nils,.fn (.func F) [] [.ptr bx 0]] h0 (fun r h'=>∃done:List (AV × AV × Nat),done.Perm es∧RS h0.no h' 1 false (done.map (·.1)) r∧HE h0 h'):=by
 apply A_go Tryz.func86 rfl (by rfl);(case hn=>(simp[Tryz.ntmps86];rfl))
 refine vZ ?_
 obtain⟨y,hy⟩:∃y,y=h0.no+1:=⟨_,rfl⟩
 refine W_range_i rfl (by simp[rangeE,laidF,hF];exact⟨rfl,rfl,rfl⟩) ?_
 refine with_loop (h0.no+1) _ (by simp;first | done | rfl) ?_
 intro lr hlr hget
 rw[←hlr]
 clear hget
 obtain⟨hs,hhs⟩:∃hs:Hp Fm,hs={ h0 with obj:=Mp.set (Mp.set h0.obj h0.no (.row [.nils])) (h0.no+1) (.loop lr),no:=h0.no+1+1 }:=⟨_,rfl⟩
 have es0:HE h0 hs:=by rw[hhs];exact((HE.refl h0).new _).new _
 have hbs:Mp.get hs.obj bx=some (.row [.mp m]):=(es0.obj bx bn).trans hb
 have hms:Mp.get hs.obj m=some (.mp es clk):=(es0.obj m mn).trans hm
 have sn:hs.no=y+1:=by rw[hhs,hy]
 have sb:Mp.get hs.obj h0.no=some (.row [.nils]):=by rw[hhs];simp
 have sy:Mp.get hs.obj y=some (.loop lr):=by rw[hhs,hy];simp
 have sp:hs.pol 9=true:=by rw[hhs];exact hp
 rw[←hhs,←hy]
 refine A.mono (kc bx m y clk es hlt hnd (fun e he=>by rw[hkc e he];exact⟨rfl,rfl⟩) hs hbs hms (Nat.lt_of_lt_of_le bn es0.no) (Nat.lt_of_lt_of_le mn es0.no) (fun done h=>Got h0 h h0.no y lr done) ?_ ?_ ?_) ?_
 ·rintro done h h' ⟨⟨w,w1,w2⟩,he,lp,yn,pl⟩ hx
  refine⟨⟨w,(hx.obj _ (by omega) (by omega)).trans w1,w2.of hx (fun q hq e=>by have:=w2.rows q hq;omega)⟩,he.x2 hx (fun q e=>by omega) (fun _ z=>z.elim),(hx.obj _ yn (by omega)).trans lp,Nat.lt_of_lt_of_le yn hx.no,by rw[hx.pol];exact pl⟩
 ·intro h he hn
  exact⟨⟨.nils,(he.obj _ (by omega)).trans sb,.inl ⟨rfl,rfl⟩⟩,es0.trans he,(he.obj _ (by omega)).trans sy,by omega,by rw[he.pol];exact sp⟩
 ·rintro done e h ⟨⟨w,w1,w2⟩,he,lp,yn,pl⟩ hin hd hdn hno
  have lp':=lp
  rw[hlr]at lp'
  have ek:=hkc e hin
  rw[ek]
  have nby:h0.no≠y:=by omega
  have nyn:h.no≠y:=by omega
  have nbn:h0.no≠h.no:=by omega
  have nbn':h.no≠h0.no:=by omega
  have nyb:y≠h0.no:=by omega
  have nyn':y≠h.no:=by omega
  refine A_round lp' (by simp) ?_
  refine vJc48 ?_
  refine⟨rfl,_,by simp[beginR,lp'];first | done | rfl,?_⟩
  refine vJc49 (cJ w1 (cJ nby (cJ nyn (cJ nbn (cJ nbn' (cJ nyb (cJ nyn' pl))))))) ?_
  obtain⟨lb,hlb⟩:∃lb:ALoop Fm,lb={ lr with state:=.busy }:=⟨_,rfl⟩
  have hlb':=hlb
  rw[hlr]at hlb'
  simp only at hlb'
  rw[←hlb']
  obtain⟨hB,hhB⟩:∃hB:Hp Fm,hB={ h with obj:=Mp.set (Mp.set h.obj y (.loop lb)) h.no (.row [.str (ks e)]),no:=h.no+1 }:=⟨_,rfl⟩
  have xB:HX (fun q=>q=y) (fun _=>False) h hB:=by rw[hhB];exact((HX.refl (fun q=>q=y) (fun _=>False) h).set (fun _=>rfl) _).new _
  have eB:HE h0 hB:=he.x2 xB (fun q e=>by omega) (fun _ z=>z.elim)
  have wB:=w2.of xB (fun q hq e=>by have:=w2.rows q hq;omega)
  have nB:Vn.newEls hB 1 false (.rs h.no 0 1 false 1 1)=some [.str (ks e)]:=by
   simp[newEls,rsEls,hhB,chunkAV]
  have lB:Mp.get hB.obj y=some (.loop lb):=by rw[hhB];simp[nyn']
  have bB:Mp.get hB.obj h0.no=some (.row [w]):=by rw[hhB];simp[nbn,nby,w1]
  have pB:hB.pol 9=true:=by rw[hhB];exact pl
  have hBn:hB.no=h.no+1:=by rw[hhB]
  rw[←hhB]
  have hln:=len_sub (done++[e]) es (nodup_of_map _ hdn) (fun x hx=>by
   rcases List.mem_append.mp hx with q | q
   ·exact hd x q
   ·rw[List.mem_singleton.mp q];exact hin)
  rw[List.length_append,List.length_singleton]at hln
  have fitD:∀x∈done.map (·.1),Fit false 1 x:=fun x hx=>by
   obtain⟨d,hd1,rfl⟩:=List.mem_map.mp hx
   rw[hkc d (hd d hd1)];exact .inr ⟨rfl,rfl,rfl,rfl⟩
  have hy2:y+2≤hB.no:=by omega
  with_reducible apply WO_app_i;(case hw=>(simp;done));(case ho=>rfl);(case hb=>rfl);(case ha=>(simp;first | done | exact⟨rfl,rfl⟩ | rfl));(case h1=>(simp;first | done | rfl));(case h2=>(simp;first | done | rfl))
  refine app_then (RS.appN etS wB hy2 pB nB fitD (fun x hx=>by rw[List.mem_singleton.mp hx];exact .inr ⟨rfl,rfl,rfl,rfl⟩) (by simp;omega)) ?_
  rintro u h2 ⟨r2,x2,p2,q2⟩
  replace x2:HX (isRow w) (fun _=>False) hB h2:=x2
  replace p2:h2.pol=hB.pol:=p2
  have hn2:=x2.no
  have uc:=r2.cells
  have ui:=r2.isCell
  have b2:Mp.get h2.obj h0.no=some (.row [w]):=(x2.obj _ (by omega) (fun hq=>by have:=w2.rows _ hq;omega)).trans bB
  have l2:Mp.get h2.obj y=some (.loop lb):=(x2.obj _ (by omega) (fun hq=>by have:=w2.rows _ hq;omega)).trans lB
  refine vP ?_
  refine vF (cJ uc (cJ ui b2)) ?_
  refine⟨_,_,by simp[endR,l2,nyb];rfl,rfl,?_,?_⟩
  ·have e2:=eB.x2 x2 (fun q hq=>by have:=w2.rows _ hq;omega) (fun _ z=>z.elim)
   refine⟨⟨u,by simp[nby],?_⟩,?_,?_,?_,?_⟩
   ·have xz:HX (fun q=>q=y∨q=h0.no) (fun _=>False) h2 _:=((HX.refl (fun q=>q=y∨q=h0.no) (fun _=>False) h2).set (o:=h0.no) (fun _=>.inr rfl) (.row [u])).set (o:=y) (fun _=>.inl rfl) (.loop { lb with state:=.ready,pending:=none })
    have:=r2.of xz (fun q hq e=>by have:=r2.rows q hq;omega)
    rw[List.map_append,List.map_cons,List.map_nil,ek];exact this
   ·exact(e2.set (Nat.le_refl _) _).set (by omega) _
   ·simp[hlb,hlr]
   ·show y<h2.no;have:=x2.no;omega
   ·show h2.pol 9=true;rw[p2];exact pB
  ·have hx1:HX (fun q=>q≠bx∧q≠m∧q≠hs.no) (fun _=>True) h h2:=(xB.mono (fun q _ e=>by omega) (fun _ _ _=>trivial)).trans (x2.mono (fun q _ hq=>by have:=w2.rows _ hq;omega) (fun _ _ _=>trivial))
   exact(hx1.set (fun _=>by omega) _).set (fun _=>by omega) _
 ·rintro r h' ⟨done,hp2,⟨⟨w,w1,w2⟩,he,lp,yn,pl⟩,hno⟩
  have lp':=lp
  rw[hlr]at lp'
  have wc:=w2.cells
  have wi:=w2.isCell
  refine⟨_,_,by simp[rangeB,lp',behind];exact⟨rfl,rfl⟩,?_⟩
  refine vF (cJ w1 (show h0.no≠y by omega)) ?_
  (first | apply endW_r | apply endW_n);(case h1=>(simp[Tryz.results86];first | done | rfl))
  refine⟨done,hp2,?_,he.set (by omega) _⟩
  have xz:HX (fun q=>q=y) (fun _=>False) h' _:=((HX.refl (fun q=>q=y) (fun _=>False) h').set (o:=y) (fun _=>rfl) (.loop { lr with state:=.exhausted }))
  rw[hlr]at xz
  have:=w2.of xz (fun q hq e=>by have:=w2.rows q hq;omega)
  rcases this with k | ⟨o,cap,a1,a2,a3⟩
  ·exact .inl k
  ·exact .inr ⟨o,cap,a1,by omega,a3⟩
end Go.Vn
