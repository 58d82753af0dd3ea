/- What functions of the program come to, in the value machine (a part of the proof of the claim's statement). No condition. -/
import Derived.Test.YtplcehpejjfjoaaGreatVnL2
import Derived.Test.YtplcehpejjfjoaaGreatVnI5
import Derived.Test.YtplcehpejjfjoaaGreatVnG7
set_option linter.unusedSimpArgs false
set_option linter.unusedVariables false
set_option maxRecDepth 20000
namespace Go.Vn
open Go.Proofs
theorem WT_app_i{P:Program}{T:Tab}{ops:Array Oper}{o:Oper}{rest:List Oper}{st:St Fm}{acc:List (St Fm)}{Q:List (St Fm)→Prop}{c:Call}{s x:AV}{t1 t2:Nat}(hw:want ops st.t o=some true)(ho:o.op=.call c)(hb:c.callee=.builtin .append)
  (ha:c.args.toList.map (ev st.t)=[s,x]) (h1:c.argTypes[0]? = some t1) (h2:c.argTypes[1]? = some t2)
  (h:∃r h',appendAV P st.h t1 t2 s x=some (r,h')∧∃s',put { st with h:=h' } o.dst r=some s'∧WT P T ops rest s' (st::acc) Q):WT P T ops (o::rest) st acc Q:=by
 obtain⟨r,h',e1,s',e2,e3⟩:=h
 refine WT_val_i (v:=r) (h':=h') hw ?_ e2 e3
 simp only[opEff,ho,hb,builtinAV,ha,h1,h2,Option.bind_some,e1,valh,Option.map_some]
theorem meth_rows(v : AV) : methodAV Tryz.prog 25 v "Rows" = some (52, v) := by kernel_rfl
theorem inv_rows(h : Hp Fm)(v : AV)(args : List AV) : invokeFn Tryz.prog h (.ifc 25 v) "Rows" args = some (.enter (.func 52) (v :: args) h) := by simp [invokeFn, meth_rows]
theorem meth_keys(v : AV) : methodAV Tryz.prog 25 v "Keys" = some (51, v) := by kernel_rfl
theorem inv_keys(h : Hp Fm)(v : AV)(args : List AV) : invokeFn Tryz.prog h (.ifc 25 v) "Keys" args = some (.enter (.func 51) (v :: args) h) := by simp [invokeFn, meth_keys]
theorem meth_put(v : AV) : methodAV Tryz.prog 25 v "Put" = some (181, v) := by kernel_rfl
theorem inv_put(h : Hp Fm)(v : AV)(args : List AV) : invokeFn Tryz.prog h (.ifc 25 v) "Put" args = some (.enter (.func 181) (v :: args) h) := by simp [invokeFn, meth_put]
def stV(v:Ver):St3:=⟨v.br,v.ep,v.sq⟩
def lastM(M:Mem)(key:List UInt8):St3:=match (getM key M).getLast? with
 | some v=>stV v
 | none=>⟨0,0,0⟩
@[simp] def encSt(s:St3):AV:=.agg [.int .i64 s.b,.int .i64 s.e,.int .i64 s.s]
structure MemP(h:Hp Fm)(D:Nat→Prop)(g pm:Nat)(ep sq:Int)(lv:AV)(bs:List Br)(M:Mem):Prop where
 row:Mp.get h.obj g=some (.row [.ifc 25 (.ptr pm 0),.int .i64 ep,.int .i64 sq,lv])
 gn:g<h.no
 mem:MemH h D pm bs M
 ok:MOk M
 cnt:cntM M≤900000
 len:M.length≤900000
 leg:h.pol 187=false
 ver:h.pol 117=false
 str:h.pol 9=false
 seen:h.pol 101=false
theorem MemP.he{h h':Hp Fm}{D:Nat→Prop}{g pm:Nat}{ep sq:Int}{lv:AV}{bs:List Br}{M:Mem}(k:MemP h D g pm ep sq lv bs M)(e:HE h h'):MemP h' D g pm ep sq lv bs M:=
 ⟨(e.obj _ k.gn).trans k.row,Nat.lt_of_lt_of_le k.gn e.no,k.mem.he e,k.ok,k.cnt,k.len,by rw[e.pol];exact k.leg,by rw[e.pol];exact k.ver,by rw[e.pol];exact k.str,by rw[e.pol];exact k.seen⟩
theorem vNh16{F G K:Prop}(f:F)(k:K)(h:F→K→G:=by intro f k;(repeat(first|with_reducible first|refine vmR ?_|refine vmV rfl ?_|refine vmW rfl ?_|refine vmL ?_|refine blockW_y (by decide) ?_|((with_reducible first|apply vmO|apply vmT|apply vmC);case a=>simp[f,inv_rows];with_reducible first|exact .v|exact .c|exact .t|exact .f)));exact k):G:=h f k
theorem vNh17{F G K:Prop}(f:F)(k:K)(h:F→K→G:=by intro f k;(repeat(first|with_reducible first|refine vmR ?_|refine vmV rfl ?_|refine vmW rfl ?_|refine vmL ?_|refine blockW_y (by decide) ?_|((with_reducible first|apply vmO|apply vmT|apply vmC);case a=>simp[f,splice];with_reducible first|exact .v|exact .c|exact .t|exact .f)));exact k):G:=h f k
set_option maxHeartbeats 1000000 in
theorem last_ans{h:Hp Fm}{D:Nat→Prop}{g pm:Nat}{ep sq:Int}{lv:AV}{bs:List Br}{M:Mem}(k:MemP h D g pm ep sq lv bs M)(key:List UInt8) :
  A Tryz.prog TT (.func 46) [.ptr g 0,.int .i64 0,.str key] h (fun r h'=>r=encSt (lastM M key)∧HE h h'):=by
 have gh:g≠h.no:=Nat.ne_of_lt k.gn
 have gr:=k.row
 apply A_go Tryz.func46 rfl (by rfl);(case hn=>(simp[Tryz.ntmps46];rfl))
 refine vNh16 (cJ gr gh) ?_
 refine A_heap ?_
 intro hA hhA
 have eA:HE h hA:=by rw[hhA];exact(HE.refl h).new _
 have gA:Mp.get hA.obj h.no=some (.row [.int .i64 0,.int .i64 0,.int .i64 0]):=by rw[hhA];simp
 have nA:h.no<hA.no:=by rw[hhA];exact Nat.lt_succ_self _
 clear hhA
 have kA:=k.he eA
 refine A.mono (mrows_ans key pm D bs M k.ok k.cnt hA kA.mem kA.leg kA.ver) ?_
 rintro r hB ⟨sl,eB⟩
 have sv:=sl.sv
 have rc:=sv.cells
 have ri:=sv.isCell
 have rn:=sv.nm
 have rl:=sv.len Tryz.underlying64
 rw[List.length_map]at rl
 have gB:=(eB.obj _ nA).trans gA
 have gl:=getM_len key M
 have cnt:=k.cnt
 obtain⟨vs,hvs⟩:∃vs,vs=getM key M:=⟨_,rfl⟩
 rw[←hvs]at rl sv gl
 obtain⟨n,hn⟩:∃n,n=vs.length:=⟨_,rfl⟩
 rw[←hn]at rl gl
 refine vP ?_
 by_cases q:0<n
 case neg=>
  have q':¬(0:Int)<n:=by omega
  have e0:lastM M key=⟨0,0,0⟩:=by
   unfold lastM
   rw[←hvs,List.length_eq_zero_iff.mp (show vs.length=0 by omega)];rfl
  rw[e0]
  refine vF (cJ rc (cJ ri (cJ rn (cJ rl (cJ gB (cJ q q')))))) ?_
  (first | apply endW_r | apply endW_n);(case h1=>(simp[Tryz.results46,gB];first | done | rfl))
  exact⟨rfl,(eA.trans eB).set (Nat.le_refl _) _⟩
 have q':(0:Int)<n:=by omega
 obtain⟨j,hj⟩:∃j,j=n-1:=⟨_,rfl⟩
 have wj:IntKind.i64.wrap ((n:Int)-1)=(j:Int):=by rw[wrap64 (by omega) (by omega)];omega
 obtain⟨x,hx⟩:∃x,x=vs[j]'(by omega):=⟨_,rfl⟩
 have ix:=sv.idx (k:=.i64) (i:=(j:Int)) Tryz.underlying64 z117 (by omega) (by rw[List.length_map];omega)
 have ix':indexAddrAV Tryz.prog 64 r (.int .i64 (j:Int))=some (.el (encV x) 0):=by rw[ix];simp[hx]
 simp only[encV]at ix'
 have e0:lastM M key=stV x:=by
  unfold lastM
  rw[←hvs,List.getLast?_eq_getElem?,←hn,←hj,List.getElem?_eq_getElem (by omega),←hx]
 rw[e0]
 refine vNh17 (cJ rc (cJ ri (cJ rn (cJ rl (cJ gB (cJ q (cJ q' (cJ wj ix')))))))) ?_
 (first | apply endW_r | apply endW_n);(case h1=>(simp[Tryz.results46,gB];first | done | rfl))
 exact⟨by simp[stV],(eA.trans eB).set (Nat.le_refl _) _⟩
def lookM(M:Mem)(a b:List UInt8):List (List UInt8 × St3):=(keysM M a b).map fun k=>(k,lastM M k)
theorem etSeen:ElT Tryz.prog 80 101 4 40 true (.agg [.str [],.int .i64 0,.int .i64 0,.int .i64 0]):=⟨Tryz.underlying80,z101,b101,a101,t101,rfl,rfl,(fun h=>by cases h),by omega,by omega⟩
theorem keysM_len(M:Mem)(a b:List UInt8):(keysM M a b).length≤M.length:=by
 unfold keysM
 refine Nat.le_trans (List.length_filter_le _ _) ?_
 rw[List.length_map];exact Nat.le_refl _
theorem vNh18{F G K:Prop}(f:F)(k:K)(h:F→K→G:=by intro f k;(repeat(first|with_reducible first|refine vmR ?_|refine vmV rfl ?_|refine vmW rfl ?_|refine vmL ?_|refine blockW_y (by decide) ?_|((with_reducible first|apply vmO|apply vmT|apply vmC);case a=>simp[f,inv_keys,splice];with_reducible first|exact .v|exact .c|exact .t|exact .f)));exact k):G:=h f k
theorem vNh19{F G K:Prop}(f:F)(k:K)(h:F→K→G:=by intro f k;(repeat(first|with_reducible first|refine vmR ?_|refine vmV rfl ?_|refine vmW rfl ?_|refine vmL ?_|refine blockW_y (by decide) ?_|((with_reducible first|apply vmO|apply vmT|apply vmC);case a=>simp[f,newSeq,newSl];with_reducible first|exact .v|exact .c|exact .t|exact .f)));exact k):G:=h f k
set_option maxHeartbeats 2000000 in
theorem look_ans{h:Hp Fm}{D:Nat→Prop}{g pm:Nat}{ep sq:Int}{lv:AV}{bs:List Br}{M:Mem}(k:MemP h D g pm ep sq lv bs M)(fr to:List UInt8) :
  A Tryz.prog TT (.func 63) [.ptr g 0,.int .i64 0,.str fr,.str to] h (fun r h'=>(∃w,r=.agg [.str fr,.str to,w]∧SV 4 ((lookM M fr to).map encSeen) w)∧HE h h'):=by
 have gr:=k.row
 have gn:=k.gn
 have z1:g≠h.no:=by omega
 have z2:g≠h.no+1:=by omega
 have z3:h.no+1≠h.no:=by omega
 have z4:h.no≠h.no+1:=by omega
 apply A_go Tryz.func63 rfl (by rfl);(case hn=>(simp[Tryz.ntmps63];rfl))
 refine vNh18 (cJ gr (cJ z1 z2)) ?_
 refine A_heap ?_
 intro hA hhA
 have eA:HE h hA:=by rw[hhA];exact((((HE.refl h).new _).new _).set (by show h.no≤h.no+1;omega) _)
 have gA:Mp.get hA.obj (h.no+1)=some (.row [.str fr,.str to,.nils]):=by rw[hhA];simp
 have gA0:Mp.get hA.obj h.no=some (.row [.str [],.str [],.nils]):=by rw[hhA];simp[z4]
 have nA:h.no+1<hA.no:=by rw[hhA];exact Nat.lt_succ_self _
 clear hhA
 have kA:=k.he eA
 refine A.mono (mkeys_ans fr to pm D bs M k.ok k.cnt k.len hA kA.mem kA.leg kA.ver kA.str) ?_
 rintro w hB ⟨sv,eB⟩
 have wc:=sv.cells
 have wi:=sv.isCell
 have wn:=sv.nm
 have wl:=sv.len Tryz.underlying113
 rw[List.length_map]at wl
 have kl:=keysM_len M fr to
 have kn:=k.len
 obtain⟨ks,hks⟩:∃ks,ks=keysM M fr to:=⟨_,rfl⟩
 obtain⟨n,hn⟩:∃n,n=ks.length:=⟨_,rfl⟩
 rw[←hks]at wl sv kl
 rw[←hn]at wl kl
 have gB:=(eB.obj _ nA).trans gA
 have gB0:=(eB.obj _ (by omega)).trans gA0
 have nB:h.no+1<hB.no:=Nat.lt_of_lt_of_le nA eB.no
 refine vP ?_
 refine vF (cJ wc (cJ wi (cJ wn wl))) ?_
 refine W_loop (fun z s=>∃(t:Fm AV) (hh:Hp Fm) (i:Nat) (a:AV),s=⟨t,41,hh,none⟩∧z=n-i∧i≤n∧tget t 0=.ptr g 0∧tget t 1=.int .i64 0∧tget t 8=.ptr h.no 0∧tget t 9=.ptr (h.no+1) 0∧tget t 22=w∧tget t 23=.int .i64 n∧tget t 24=.int .i64 i ∧
   Mp.get hh.obj (h.no+1)=some (.row [.str fr,.str to,a])∧Mp.get hh.obj h.no=some (.row [.str [],.str [],.nils])∧AC h hh 4 (((ks.take i).map fun k=>(k,lastM M k)).map encSeen) a∧HE h hh∧h.no+1<hh.no) n
  ⟨_,_,0,_,rfl,rfl,by omega,by simp,by simp,by simp,by simp,by simp,by simp,by simp,gB,gB0,.inl ⟨rfl,by simp⟩,eA.trans eB,nB⟩ ?_
 rintro _ s ⟨t,hh,i,a,rfl,rfl,hi,t0,t1,t8,t9,t22,t23,t24,ga,ga0,ac,he,nh⟩
 have uc:=ac.sv.cells
 have ui:=ac.sv.isCell
 by_cases q:i<n
 case neg=>
  have q':¬(i:Int)<n:=by omega
  rw[List.take_of_length_le (by omega)]at ac
  refine vNh17 (cJ t8 (cJ t9 (cJ t23 (cJ t24 (cJ q (cJ q' (cJ ga (cJ ga0 (cJ uc ui))))))))) ?_
  (first | apply endW_r | apply endW_n);(case h1=>(simp[Tryz.results63,t8,z4];first | done | rfl))
  exact⟨⟨a,rfl,by rw[lookM,←hks];exact ac.sv⟩,he.set (Nat.le_refl _) _⟩
 have q':(i:Int)<n:=by omega
 obtain⟨kk,hkk⟩:∃kk,kk=ks[i]'(by omega):=⟨_,rfl⟩
 have ix:=sv.idx (k:=.i64) (i:=(i:Int)) Tryz.underlying113 z9 (by omega) (by rw[List.length_map];omega)
 have ix':indexAddrAV Tryz.prog 113 w (.int .i64 (i:Int))=some (.el (.str kk) 0):=by rw[ix];simp[hkk]
 obtain⟨ip,hip⟩:∃ip,ip=i+1:=⟨_,rfl⟩
 have wip:IntKind.i64.wrap ((i:Int)+1)=(ip:Int):=by rw[wrap64 (by omega) (by omega)];omega
 refine vF (cJ t22 (cJ t23 (cJ t24 (cJ q (cJ q' ix'))))) ?_
 (with_reducible refine W_draw_id (pln:=true) [0,1,2,3,4,5,6,7,8,9,10,11] [(1,(1,[7,9]))] (by kernel_rfl) rfl ?_)
 refine vF (cJ t0 (cJ t1 (cJ t9 ga))) ?_
 refine A.mono (last_ans ((k.he he).he (HE.refl hh).drew) kk) ?_
 rintro _ h2 ⟨rfl,e2⟩
 have e2':=((HE.refl hh).drew).trans e2
 have ga2:=(e2'.obj _ nh).trans ga
 have ga02:=(e2'.obj _ (by omega)).trans ga0
 have he2:=he.trans e2'
 have hph:h2.pol 101=false:=by rw[he2.pol];exact k.seen
 simp only[encSt]
 refine vP ?_
 refine vNh19 (cJ t9 (cJ ga (cJ ga2 (cJ uc (cJ ui hph))))) ?_
 with_reducible apply WT_app_i;(case hw=>(simp[t9,ga,ga2,uc,ui,newSeq,newSl,hph];done));(case ho=>rfl);(case hb=>rfl);(case ha=>(simp[t9,ga,ga2,uc,ui,newSeq,newSl,hph];first | done | exact⟨rfl,rfl⟩ | rfl));(case h1=>(simp;first | done | rfl));(case h2=>(simp;first | done | rfl))
 have ac2:=ac.of e2'
 refine app_then (AC.app (h0:=h) etSeen (ac2.of ((HE.refl h2).newSl 1)) (he2.newSl 1) k.seen (by rw[List.length_map,List.length_map,List.length_take];omega)) ?_
 rintro x4 h4 ⟨ac4,he4,ho4,hn4,hg4⟩
 have xc4:=ac4.sv.cells
 have xi4:=ac4.sv.isCell
 have n2:h.no+1<h2.no:=Nat.lt_of_lt_of_le nh e2'.no
 have e24:∀o,o<h2.no→Mp.get h4.obj o=Mp.get h2.obj o:=fun o _=>by rw[ho4]
 have ga4:=(e24 _ n2).trans ga2
 have ga04:=(e24 _ (by omega)).trans ga02
 refine vP ?_
 refine vNh17 (cJ t9 (cJ ga (cJ ga2 (cJ ga4 (cJ xc4 xi4))))) ?_
 refine⟨by simp[readSame,beqAV_self,t9,ga,ga2,ga4,xc4,xi4,splice];done,_,by simp;first | done | rfl,?_⟩
 refine vF (cJ t24 wip) ?_
 refine⟨n-ip,by omega,_,_,ip,x4,rfl,rfl,by omega,by simp[t0],by simp[t1],by simp[t8],by simp[t9],by simp[t22],by simp[t23],by simp,by simp,?_,?_,?_,?_⟩
 ·show Mp.get (Mp.set h4.obj (h.no+1) _) h.no=_
  rw[Mp.get_set,if_neg z4];exact ga04
 ·have:((ks.take ip).map fun k=>(k,lastM M k)).map encSeen=((ks.take i).map fun k=>(k,lastM M k)).map encSeen++[encSeen (kk,lastM M kk)]:=by
   rw[hip,List.take_succ_eq_append_getElem (by omega),List.map_append,List.map_append,←hkk];rfl
  rw[this]
  rcases ac4 with z | ⟨g4,off,cap,x1,x2,x3,x4'⟩
  ·exact .inl (by simp at z)
  ·exact .inr ⟨g4,off,cap,by simpa using x1,by simpa using x2,x3,x4'⟩
 ·exact he4.set (by omega) _
 ·show h.no+1<h4.no
  have:h4.no=h2.no:=hn4
  omega
def outG2:Option Ver→AV
 | some v=>.tup [.str v.val,.bool (!v.gone)]
 | none=>.tup [.str [],.bool false]
def outS:Option (List UInt8)→AV
 | some s=>.tup [.str (s.drop 1),.bool (decide (s.take 1=[43]))]
 | none=>.tup [.str [],.bool false]
theorem vNh20{G K:Prop}(k:K)(h:K→G:=by intro k;(repeat(first|with_reducible first|refine vmR ?_|refine vmV rfl ?_|refine vmW rfl ?_|refine vmL ?_|refine blockW_y (by decide) ?_|((with_reducible first|apply vmO|apply vmT|apply vmC);case a=>simp[roundT];with_reducible first|exact .v|exact .c|exact .t|exact .f)));exact k):G:=h k
theorem vNh21{F G K:Prop}(f:F)(k:K)(h:F→K→G:=by intro f k;(repeat(first|with_reducible first|refine vmR ?_|refine vmV rfl ?_|refine vmW rfl ?_|refine vmL ?_|refine blockW_y (by decide) ?_|((with_reducible first|apply vmO|apply vmT|apply vmC);case a=>simp[f,roundT];with_reducible first|exact .v|exact .c|exact .t|exact .f)));exact k):G:=h f k
set_option maxHeartbeats 2000000 in
theorem sees_ans{h:Hp Fm}{D:Nat→Prop}{g pm:Nat}{ep sq:Int}{lv:AV}{bs:List Br}{M:Mem}(k:MemP h D g pm ep sq lv bs M)(xp xm clk:Nat)(st ops a1 a2 a3:Int)(rdv scv:AV)(wr:Ents (List Pc))(es:List (AV × AV × Nat))
  (tr:Mp.get h.obj xp=some (.row [.int .i64 0,.int .i64 st,.int .i64 ops,.int .i64 a1,.int .i64 a2,.int .i64 a3,.mp xm,rdv,scv])) (tmp:Mp.get h.obj xm=some (.mp es clk)) (ten:EntsR PcR wr es) (pn:xp<h.no) (mn:xm<h.no) (key:Bs) (tm:Int)
  (pcs:List Pc) (hpcs:pcs=(lookF key wr).getD []) (hl:pcs.length≤16000000) (hne:∀s,atP pcs tm=some s→1≤s.length) :
  A Tryz.prog TT (.func 47) [.ptr g 0,.ptr xp 0,.str key,.int .i64 tm] h (fun r h'=>(∃s b,r=.tup [.str s,.bool b])∧HE h h'):=by
 have gr:=k.row
 have gn:=k.gn
 obtain⟨v,hv,lk⟩:∃v,SL 3 (pcs.map encP) v∧∀h1:Hp Fm,Mp.get h1.obj xm=some (.mp es clk)→lookupAV Tryz.prog h1 79 (.mp xm) (.str key) false=some v:=by
  cases hl:lookF key wr with
  | none=>
   have lk:=look_none (m:=xm) (clk:=clk) (k:=key) Tryz.underlying79 Tryz.underlying9 t42 ten hl
   exact⟨.nils,.inl ⟨rfl,by simp[hpcs,hl]⟩,fun h1 hm=>lk h1 false hm⟩
  | some ps=>
   obtain⟨v,hv,lk⟩:=look_some (m:=xm) (clk:=clk) (k:=key) Tryz.underlying79 Tryz.underlying9 ten hl
   exact⟨v,by rw[hpcs,hl];exact hv,fun h1 hm=>lk h1 false hm⟩
 have vc:=hv.sv.cells
 have vi:=hv.sv.isCell
 apply A_go Tryz.func47 rfl (by rfl);(case hn=>(simp[Tryz.ntmps47];rfl))
 refine vZ ?_
 refine W_heap ?_
 intro hA hhA
 have eA:HE h hA:=by rw[hhA];exact(((HE.refl h).new _).new _).new _
 have g7:Mp.get hA.obj h.no=some (.row [.int .i64 tm]):=by rw[hhA];simp[show h.no≠h.no+1 by omega,show h.no≠h.no+1+1 by omega]
 have g8:Mp.get hA.obj (h.no+1)=some (.row [.str []]):=by rw[hhA];simp[show h.no+1≠h.no+1+1 by omega]
 have g9:Mp.get hA.obj (h.no+1+1)=some (.row [.bool false]):=by rw[hhA];simp
 have nA:h.no+1+1<hA.no:=by rw[hhA];exact Nat.lt_succ_self _
 clear hhA
 have trA:=(eA.obj _ pn).trans tr
 have tmA:=(eA.obj _ mn).trans tmp
 have lkA:=lk hA.drew tmA
 (with_reducible refine W_draw_id (pln:=true) [0,1,2,3,4,5,6,7,8,9,10,11,12] [(3,(3,[])),(5,(5,[])),(6,(6,[]))] (by kernel_rfl) rfl ?_)
 refine vF (cJ trA (cJ g7 (cJ lkA (cJ vc vi)))) ?_
 refine A.mono (at_ans pcs v hv.sv hl tm _) ?_
 rintro _ hB ⟨rfl,eB⟩
 have eAB:HE hA hB:=((HE.refl hA).drew).trans eB
 refine vP ?_
 have trB:=(eAB.obj _ (Nat.lt_of_lt_of_le pn eA.no)).trans trA
 have tmB:=(eAB.obj _ (Nat.lt_of_lt_of_le mn eA.no)).trans tmA
 have lkB:=lk hB tmB
 have b7:=(eAB.obj _ (by omega)).trans g7
 have b8:=(eAB.obj _ (by omega)).trans g8
 have b9:=(eAB.obj _ (by omega)).trans g9
 have nB:=eAB.no
 cases hat:atP pcs tm with
 | some s=>
  have hs:=hne s hat
  have sl1:=sl_lo s 1 hs
  have sl2:=sl_hi s 1 hs
  have e1:((1:Nat):Int)=1:=rfl
  rw[e1]at sl1 sl2
  simp only[outG]
  refine vF (cJ trA (cJ trB (cJ g7 (cJ b7 (cJ lkA (cJ lkB (cJ vc vi))))))) ?_
  refine⟨by simp[readSame,beqAV_self,trA,trB,g7,b7,lkA,lkB,vc,vi];done,_,by simp;first | done | rfl,?_⟩
  refine vZ ?_
  (with_reducible refine W_draw_id (pln:=true) [0,1,2,3,4,5,6] [] (by kernel_rfl) rfl ?_)
  have b89:h.no+1≠h.no+1+1:=by omega
  have b98:h.no+1+1≠h.no+1:=by omega
  refine vF (cJ sl1 (cJ sl2 (cJ b8 (cJ b9 (cJ b89 b98))))) ?_
  refine⟨by simp[readSame,beqAV_self,sl1,sl2,b8,b9,b89,b98];done,_,by simp;first | done | rfl,?_⟩
  refine vZ ?_
  (first | apply endW_r | apply endW_n);(case h1=>(simp[Tryz.results47,b89];first | done | rfl))
  refine⟨?_,(((eA.trans eAB).drew).set (o:=h.no+1) (by omega) _).set (o:=h.no+1+1) (by omega) _⟩
  exact⟨_,_,rfl⟩
 | none=>
  simp only[outG]
  refine vF (cJ trA (cJ trB (cJ g7 (cJ b7 (cJ lkA (cJ lkB (cJ vc vi))))))) ?_
  refine⟨by simp[readSame,beqAV_self,trA,trB,g7,b7,lkA,lkB,vc,vi];done,_,by simp;first | done | rfl,?_⟩
  refine vZ ?_
  (with_reducible refine W_draw_id (pln:=true) [0,1,2,3,4,5,6,7,8,9,10,11,12] [(3,(3,[])),(7,(7,[]))] (by kernel_rfl) rfl ?_)
  have grB:=((eA.trans eAB).obj _ gn).trans gr
  have kB:=k.he (eA.trans eAB)
  refine vNh16 (cJ grB trB) ?_
  refine A.mono (mrows_ans key pm D bs M k.ok k.cnt hB.drew (kB.mem.he (HE.refl hB).drew) kB.leg kB.ver) ?_
  rintro w hC ⟨hw,eC⟩
  have sv:=hw.sv
  have rc:=sv.cells
  have ri:=sv.isCell
  refine vP ?_
  refine vF (cJ rc ri) ?_
  refine A.mono (seqB w ⟨rc,ri⟩ _) ?_
  rintro _ _ ⟨rfl,rfl⟩
  refine vP ?_
  refine vF (cJ grB (cJ trB b7)) ?_
  refine⟨by simp[readSame,beqAV_self,grB,trB,b7];done,_,by simp;first | done | rfl,?_⟩
  refine vZ ?_
  have e0C:HE h hC:=(eA.trans eAB).trans (((HE.refl hB).drew).trans eC)
  have nC:hB.no≤hC.no:=eC.no
  have g5:=(eC.obj _ (show h.no<hB.no by omega)).trans b7
  have g6:=(eC.obj _ (show h.no+1<hB.no by omega)).trans b8
  have g7:=(eC.obj _ (show h.no+1+1<hB.no by omega)).trans b9
  have no1:h.no+1+1<hC.no:=by omega
  have hx1:=e0C
  obtain⟨os,hos⟩:∃os,os=getM key M:=⟨_,rfl⟩
  have gl:=getM_len key M
  have kc:=k.cnt
  rw[←hos]at hw gl
  refine W_range_i rfl (by simp[rangeE,laidF];exact⟨rfl,rfl,rfl⟩) ?_
  refine with_loop (hC.no+1) _ (by simp;first | done | rfl) ?_
  intro lr hlr hget
  have wl:=hw.sv
  refine A.mono (backy (hC.no+1) hC.no os w wl (by omega)
   (fun i hq=>(∀j (hj:j<os.length),i≤j→¬Has os[j].fr os[j].to tm)∧Mp.get hq.obj h.no=some (.row [.int .i64 tm])∧Mp.get hq.obj (h.no+1)=some (.row [.str []])∧Mp.get hq.obj (h.no+1+1)=some (.row [.bool false])∧Mp.get hq.obj hC.no=some (.row [w])∧Mp.get hq.obj (hC.no+1)=some (.loop lr)∧hC.no+1<hq.no∧HE h hq)
   (fun hq=>(∃i,∃hi:i<os.length,Has os[i].fr os[i].to tm∧(∀j (hj:j<os.length),i<j→¬Has os[j].fr os[j].to tm)∧Mp.get hq.obj (h.no+1)=some (.row [.str os[i].val])∧Mp.get hq.obj (h.no+1+1)=some (.row [.bool (!os[i].gone)]))∧(∃lr',Mp.get hq.obj (hC.no+1)=some (.loop lr')∧lr'.state=.done∧lr'.pending=some .ret)∧HE h hq)
   (fun i hq k=>k.2.2.2.2.1) ?_ _ ?_) ?_
  ·rintro i hi hq ⟨kn,k5,k6,k7,kw,kl,kno,he⟩
   obtain⟨LR,hLR⟩:∃LR,LR=lr:=⟨_,rfl⟩
   subst hlr
   obtain⟨x,hx⟩:∃x,x=os[i]:=⟨_,rfl⟩
   rw[←hx]
   refine A_round kl (by simp) ?_
   have nz1:hC.no+1≠hq.no:=by omega
   have nz2:hq.no≠hC.no+1:=by omega
   refine vNh20 ?_
   refine⟨rfl,_,by simp[beginR,kl,nz1];first | done | rfl,?_⟩
   have hh0:=he.no
   have a1:h.no≠hq.no:=by omega
   have a2:h.no+1≠hq.no:=by omega
   have a3:h.no+1+1≠hq.no:=by omega
   have a4:h.no≠hC.no+1:=by omega
   have a5:h.no+1≠hC.no+1:=by omega
   have a6:h.no+1+1≠hC.no+1:=by omega
   have a7:hC.no≠hq.no:=by omega
   have a8:hC.no≠hC.no+1:=by omega
   have c1:h.no≠hC.no:=by omega
   have c2:h.no+1≠hC.no:=by omega
   have c3:hC.no≠h.no:=by omega
   have c4:hC.no≠h.no+1:=by omega
   refine vNh21 (cJ k5 (cJ a1 (cJ a4 (cJ nz1 nz2)))) ?_
   refine A.mono (has_ans x.fr x.to tm _) ?_
   rintro _ hh ⟨rfl,heh⟩
   have m9:Mp.get hh.obj hq.no=some (.row [.str x.key,.int .i64 x.br,.int .i64 x.ep,.int .i64 x.sq,.int .i64 x.fr,.int .i64 x.to,.str x.val,.bool x.gone]):=by rw[heh.obj _ (by show hq.no<hq.no+1;omega)];simp[nz2]
   have m5:Mp.get hh.obj h.no=some (.row [.int .i64 tm]):=by rw[heh.obj _ (by show h.no<hq.no+1;omega)];simp[a1,a4,k5,c1,c2]
   have m6:Mp.get hh.obj (h.no+1)=some (.row [.str []]):=by rw[heh.obj _ (by show h.no+1<hq.no+1;omega)];simp[a2,a5,k6,c1,c2]
   have m7:Mp.get hh.obj (h.no+1+1)=some (.row [.bool false]):=by rw[heh.obj _ (by show h.no+1+1<hq.no+1;omega)];simp[a3,a6,k7,c1,c2]
   have mw:Mp.get hh.obj hC.no=some (.row [w]):=by rw[heh.obj _ (by show hC.no<hq.no+1;omega)];simp[a7,a8,kw]
   obtain⟨lb,hlb,hlr2⟩:∃lb:ALoop Fm,Mp.get hh.obj (hC.no+1)=some (.loop lb)∧({ lb with state:=.ready,pending:=none }:ALoop Fm)=LR:=⟨_,by rw[heh.obj _ (by show hC.no+1<hq.no+1;omega)];simp;rfl,by rw[hLR]⟩
   have hx2:HE h hh:=⟨Nat.le_trans (by show h.no≤hq.no+1;omega) heh.no,Nat.le_trans he.ng heh.ng,heh.pol.trans he.pol,fun q hQ=>by rw[heh.obj _ (by show q<hq.no+1;omega)];simp[show q≠hq.no by omega,show q≠hC.no+1 by omega];exact he.obj q hQ,fun g hg=>(heh.len g (Nat.lt_of_lt_of_le hg he.ng)).trans (he.len g hg)⟩
   have mno:hC.no+1<hh.no:=Nat.lt_of_lt_of_le (by show hC.no+1<hq.no+1;omega) heh.no
   have b1:h.no+1≠h.no+1+1:=by omega
   have b2:hC.no+1≠h.no+1:=by omega
   have b3:hC.no+1≠h.no+1+1:=by omega
   clear heh
   refine vP ?_
   by_cases qh:Has x.fr x.to tm
   case neg=>
    refine vNh21 qh ?_
    refine⟨_,_,by simp only[endR,hlb];rfl,?_⟩
    refine .inl ⟨rfl,?_,?_,?_,?_,?_,?_,mno,hx2.set (by omega) _⟩
    ·intro j hj hij
     by_cases e:j=i
     ·subst e;rw[←hx];exact qh
     ·exact kn j hj (by omega)
    ·simp[a4,m5]
    ·simp[a5,m6,c1]
    ·simp[a6,m7,c2]
    ·simp[a8,mw]
    ·simp only[Mp.get_set,if_true];rw[hlr2,hLR]
   cases qg:x.gone
   ·rw[qg]at m9
    refine vNh21 (cJ qh (cJ qg (cJ m9 (cJ m6 (cJ m7 b1))))) ?_
    have q1:hq.no≠h.no+1:=by omega
    have q2:hq.no≠h.no+1+1:=by omega
    have q3:hq.no≠h.no:=by omega
    (with_reducible refine W_draw_id (pln:=true) [0,1,2,3,4,5,6] [(1,(1,[])),(3,(3,[6]))] (by kernel_rfl) rfl ?_)
    refine vF (cJ m9 (cJ m6 (cJ m7 (cJ b1 (cJ q1 (cJ q2 q3)))))) ?_
    refine⟨by simp[readSame,beqAV_self,m9,m6,m7,b1,q1,q2,q3];done,_,by simp;first | done | rfl,?_⟩
    refine vZ ?_
    refine⟨_,_,by simp[endR,hlb,b2,b3,c1,c2,c3,c4];first | exact⟨rfl,rfl⟩ | rfl,.inr ⟨rfl,⟨i,hi,by rw[←hx];exact qh,fun j hj hij=>kn j hj (by omega),?_,?_⟩,⟨_,by simp only[Mp.get_set,if_true];rfl,rfl,rfl⟩,?_⟩⟩
    ·rw[←hx];simp[a5,b1,c1]
    ·rw[←hx,qg];simp[a6,b1,c2]
    ·exact((hx2.drew.set (by omega) _).set (by omega) _).set (by omega) _
   ·rw[qg]at m9
    refine vNh21 (cJ qh (cJ qg (cJ m9 (cJ m6 (cJ m7 b1))))) ?_
    have q1:hq.no≠h.no+1:=by omega
    have q2:hq.no≠h.no+1+1:=by omega
    have q3:hq.no≠h.no:=by omega
    (with_reducible refine W_draw_id (pln:=true) [0,1,2,3,4,5,6] [(1,(1,[])),(3,(3,[6]))] (by kernel_rfl) rfl ?_)
    refine vF (cJ m9 (cJ m6 (cJ m7 (cJ b1 (cJ q1 (cJ q2 q3)))))) ?_
    refine⟨by simp[readSame,beqAV_self,m9,m6,m7,b1,q1,q2,q3];done,_,by simp;first | done | rfl,?_⟩
    refine vZ ?_
    refine⟨_,_,by simp[endR,hlb,b2,b3,c1,c2,c3,c4];first | exact⟨rfl,rfl⟩ | rfl,.inr ⟨rfl,⟨i,hi,by rw[←hx];exact qh,fun j hj hij=>kn j hj (by omega),?_,?_⟩,⟨_,by simp only[Mp.get_set,if_true];rfl,rfl,rfl⟩,?_⟩⟩
    ·rw[←hx];simp[a5,b1,c1]
    ·rw[←hx,qg];simp[a6,b1,c2]
    ·exact((hx2.drew.set (by omega) _).set (by omega) _).set (by omega) _
  ·refine⟨fun j hj hij=>by omega,?_,?_,?_,?_,hget,by show hC.no+1<hC.no+1+1;omega,?_⟩
   ·simp[show h.no≠hC.no+1 by omega,show h.no≠hC.no by omega,g5]
   ·simp[show h.no≠hC.no by omega,show h.no+1≠hC.no by omega,g6]
   ·simp[show h.no+1≠hC.no by omega,show h.no+1+1≠hC.no by omega,g7]
   ·simp[show hC.no≠hC.no+1 by omega]
   ·have:=hx1.no
    exact⟨by show h.no≤hC.no+1+1;omega,hx1.ng,hx1.pol,fun q hQ=>by simp[show q≠hC.no by omega,show q≠hC.no+1 by omega];exact hx1.obj q hQ,hx1.len⟩
  ·rintro r h2 (⟨kn,k5,k6,k7,kw,kl,kno,he⟩ | ⟨⟨i,hi,k1,k2,k6,k7⟩,⟨lr',kl,ks,kp⟩,he⟩)
   ·have hst:lr.state=.ready∧lr.pending=none:=by subst hlr;exact⟨rfl,rfl⟩
    refine⟨_,_,by simp[rangeB,kl,hst.1,behind,hst.2];exact⟨rfl,rfl⟩,?_⟩
    have a5:h.no+1≠hC.no+1:=by omega
    have c1:h.no≠hC.no:=by omega
    have c2:h.no+1≠hC.no:=by omega
    have a6:h.no+1+1≠hC.no+1:=by omega
    have b1:h.no+1≠h.no+1+1:=by omega
    refine vF (cJ k6 (cJ k7 (cJ a5 (cJ a6 (cJ b1 (cJ c1 c2)))))) ?_
    (first | apply endW_r | apply endW_n);(case h1=>(simp[Tryz.results47,b1];first | done | rfl))
    have hn:getF os tm=none:=getF_none (fun v hv=>by
     obtain⟨j,hj,rfl⟩:=List.getElem_of_mem hv
     exact kn j hj (by omega))
    refine⟨by simp[hn,outG,b1,a5,a6,c1,c2,k6,k7],?_⟩
    exact((he.set (by omega) _).set (by omega) _).set (by omega) _
   ·refine⟨_,_,by simp[rangeB,kl,ks,behind,kp];exact⟨rfl,rfl⟩,?_⟩
    have a5:h.no+1≠hC.no+1:=by omega
    have c1:h.no≠hC.no:=by omega
    have c2:h.no+1≠hC.no:=by omega
    have a6:h.no+1+1≠hC.no+1:=by omega
    have b1:h.no+1≠h.no+1+1:=by omega
    refine vF (cJ k6 (cJ k7 (cJ a5 (cJ a6 (cJ b1 (cJ c1 c2)))))) ?_
    (first | apply endW_r | apply endW_n);(case h1=>(simp[Tryz.results47,k6,k7,a5,a6,c1,c2,b1];first | done | rfl))
    exact⟨⟨_,_,rfl⟩,he.set (by omega) _⟩
end Go.Vn

set_option maxRecDepth 20000
namespace Go.Vn
open Go.Proofs
def PcMay(p:Pc):Prop:=SpMay p.fr p.to∧(p.val.take 1=[43]∨p.val=[45])∧p.val.length≤201
structure PcsOk(ps:List Pc):Prop where
 may:∀p∈ps,PcMay p
 rise:ps.Pairwise fun a b=>a.to≤b.fr
theorem minus_in{c d:Int}(hcd:c<d){q:Pc}(hq:SpMay q.fr q.to):∀e∈minusP c d q,q.fr≤e.fr∧e.fr<e.to∧e.to≤q.to∧e.val=q.val∧(e.to≤c∨d≤e.fr):=by
 obtain⟨h1,h2,h3⟩:=hq
 intro e he
 unfold minusP minusS at he
 rw[if_neg (show ¬ ¬Vn.May q.fr q.to from fun z=>z ⟨h1,h2,h3⟩)]at he
 by_cases hm:Vn.May (max q.fr c) (min q.to d)
 ·rw[if_neg (fun z=>z hm)]at he
  simp only[List.map_append,List.mem_append,List.mem_map]at he
  rcases he with⟨s,hs,rfl⟩ | ⟨s,hs,rfl⟩
  ·split at hs
   ·rename_i hz
    rw[List.mem_singleton.mp hs]
    obtain⟨_,z2,_⟩:=hz
    refine⟨Int.le_refl _,z2,?_,rfl,.inl ?_⟩
    ·show max q.fr c≤q.to
     obtain⟨_,y2,_⟩:=hm
     omega
    ·show max q.fr c≤c
     omega
   ·cases hs
  ·split at hs
   ·rename_i hz
    rw[List.mem_singleton.mp hs]
    obtain⟨_,z2,_⟩:=hz
    refine⟨?_,z2,Int.le_refl _,rfl,.inr ?_⟩
    ·show q.fr≤min q.to d
     obtain⟨_,y2,_⟩:=hm
     omega
    ·show d≤min q.to d
     omega
   ·cases hs
 ·rw[if_pos hm]at he
  simp only[List.map_cons,List.map_nil,List.mem_singleton]at he
  subst he
  refine⟨Int.le_refl _,h2,Int.le_refl _,rfl,?_⟩
  show q.to≤c∨d≤q.fr
  by_cases a:q.to≤c
  ·exact .inl a
  ·refine .inr (Int.not_lt.mp fun b=>hm ⟨by omega,by omega,by omega⟩)
theorem minus_pair{c d:Int}(hcd:c<d){q:Pc}(hq:SpMay q.fr q.to):(minusP c d q).Pairwise (fun a b=>a.to≤b.fr)∧(minusP c d q).length≤2∧((minusP c d q).length=2→d<q.to)∧(d≤q.fr→(minusP c d q).length=1):=by
 obtain⟨h1,h2,h3⟩:=hq
 unfold minusP minusS
 rw[if_neg (show ¬ ¬Vn.May q.fr q.to from fun z=>z ⟨h1,h2,h3⟩)]
 by_cases hm:Vn.May (max q.fr c) (min q.to d)
 ·rw[if_neg (fun z=>z hm)]
  obtain⟨y1,y2,y3⟩:=hm
  by_cases ha:Vn.May q.fr (max q.fr c)
  ·rw[if_pos ha]
   by_cases hb:Vn.May (min q.to d) q.to
   ·rw[if_pos hb]
    obtain⟨_,b2,_⟩:=hb
    refine⟨?_,by simp,fun _=>by omega,fun z=>by omega⟩
    simp only[List.cons_append,List.nil_append,List.map_cons,List.map_nil,List.pairwise_cons,List.mem_singleton,forall_eq,List.not_mem_nil,false_implies,implies_true,List.Pairwise.nil,and_true]
    show max q.fr c≤min q.to d
    omega
   ·rw[if_neg hb]
    exact⟨by simp,by simp,fun z=>by simp at z,fun _=>by simp⟩
  ·rw[if_neg ha]
   by_cases hb:Vn.May (min q.to d) q.to
   ·rw[if_pos hb]
    exact⟨by simp,by simp,fun z=>by simp at z,fun _=>by simp⟩
   ·rw[if_neg hb]
    exact⟨by simp,by simp,fun z=>by simp at z,fun z=>by omega⟩
 ·rw[if_pos hm]
  exact⟨by simp,by simp,fun z=>by simp at z,fun _=>by simp⟩
theorem wo_len1{c d:Int}(hcd:c<d):∀ps:List Pc,(∀p∈ps,SpMay p.fr p.to)→(∀p∈ps,d≤p.fr)→(ps.flatMap (minusP c d)).length=ps.length
 | [],_,_=>rfl
 | p::ps,h1,h2=>by
  rw[List.flatMap_cons,List.length_append,(minus_pair hcd (h1 p (by simp))).2.2.2 (h2 p (by simp)),wo_len1 hcd ps (fun q hq=>h1 q (by simp[hq])) (fun q hq=>h2 q (by simp[hq])),List.length_cons]
  omega
theorem wo_len{c d:Int}(hcd:c<d):∀ps:List Pc,(∀p∈ps,SpMay p.fr p.to)→(ps.Pairwise fun a b=>a.to≤b.fr)→(ps.flatMap (minusP c d)).length≤ps.length+1
 | [],_,_=>by simp
 | p::ps,h1,h2=>by
  obtain⟨m1,m2,m3,m4⟩:=minus_pair hcd (h1 p (by simp))
  rw[List.pairwise_cons]at h2
  rw[List.flatMap_cons,List.length_append,List.length_cons]
  by_cases e:(minusP c d p).length=2
  ·have:=m3 e
   rw[wo_len1 hcd ps (fun q hq=>h1 q (by simp[hq])) (fun q hq=>by have:=h2.1 q hq;omega)]
   omega
  ·have:=wo_len hcd ps (fun q hq=>h1 q (by simp[hq])) h2.2
   omega
theorem drop_ge{d:Int}:∀l:List Pc,(∀e∈l,e.fr<e.to)→(l.Pairwise fun a b=>a.to≤b.fr)→∀e∈l.dropWhile (fun o=>decide (o.fr<d)),d≤e.fr
 | [],_,_,e,he=>by cases he
 | a::l,h1,h2,e,he=>by
  rw[List.pairwise_cons]at h2
  rw[List.dropWhile_cons]at he
  split at he
  ·exact drop_ge l (fun x hx=>h1 x (by simp[hx])) h2.2 e he
  ·rename_i hn
   have hn:d≤a.fr:=by simpa using hn
   rcases List.mem_cons.mp he with rfl | he
   ·exact hn
   ·have:=h2.1 e he
    have:=h1 a (by simp)
    omega
theorem take_lt{d:Int}:∀l:List Pc,∀e∈l.takeWhile (fun o=>decide (o.fr<d)),e∈l∧e.fr<d
 | [],e,he=>by cases he
 | a::l,e,he=>by
  rw[List.takeWhile_cons]at he
  split at he
  ·rename_i hn
   rcases List.mem_cons.mp he with rfl | he
   ·exact⟨by simp,by simpa using hn⟩
   ·have:=take_lt l e he;exact⟨by simp[this.1],this.2⟩
  ·cases he
theorem over_ok{ps:List Pc}(h:PcsOk ps){p:Pc}(hp:PcMay p):PcsOk (overP ps p)∧(overP ps p).length≤ps.length+2:=by
 obtain⟨p1,p2,p3⟩:=hp.1
 have hsp:∀q∈ps,SpMay q.fr q.to:=fun q hq=>(h.may q hq).1
 obtain⟨W,hW⟩:∃W,W=ps.flatMap (minusP p.fr p.to):=⟨_,rfl⟩
 have hWm:∀e∈W,PcMay e∧e.fr<e.to∧(e.to≤p.fr∨p.to≤e.fr):=fun e he=>by
  rw[hW]at he
  obtain⟨q,hq,he⟩:=List.mem_flatMap.mp he
  obtain⟨a,b,c,d,f⟩:=minus_in p2 (hsp q hq) e he
  obtain⟨k1,k2,k3⟩:=hsp q hq
  obtain⟨_,t1,t2⟩:=h.may q hq
  exact⟨⟨⟨by omega,b,by omega⟩,by rw[d];exact t1,by rw[d];exact t2⟩,b,f⟩
 have hWp:W.Pairwise fun a b=>a.to≤b.fr:=by
  rw[hW,List.pairwise_flatMap]
  refine⟨fun q hq=>(minus_pair p2 (hsp q hq)).1,?_⟩
  refine List.Pairwise.imp_of_mem (fun {a b} ha hb hab=>?_) h.rise
  intro x hx y hy
  have h1:=minus_in p2 (hsp a ha) x hx
  have h2:=minus_in p2 (hsp b hb) y hy
  omega
 have hWl:W.length≤ps.length+1:=by rw[hW];exact wo_len p2 ps hsp h.rise
 have ew:withoutP ps p.fr p.to=W:=by unfold withoutP;rw[if_pos (show Vn.May p.fr p.to from⟨p1,p2,p3⟩),hW]
 have eo:overP ps p=W.takeWhile (fun o=>decide (o.fr<p.to))++[p]++W.dropWhile (fun o=>decide (o.fr<p.to)):=by
  unfold overP;rw[if_pos (show Vn.May p.fr p.to from⟨p1,p2,p3⟩),ew]
 have hsplit:W.takeWhile (fun o=>decide (o.fr<p.to))++W.dropWhile (fun o=>decide (o.fr<p.to))=W:=List.takeWhile_append_dropWhile
 have hpw:=hWp
 rw[←hsplit,List.pairwise_append]at hpw
 have hD:=drop_ge (d:=p.to) W (fun e he=>(hWm e he).2.1) hWp
 have hT:∀e∈W.takeWhile (fun o=>decide (o.fr<p.to)),e.to≤p.fr:=fun e he=>by
  obtain⟨a,b⟩:=take_lt W e he
  rcases (hWm e a).2.2 with z | z
  ·exact z
  ·omega
 refine⟨⟨fun e he=>?_,?_⟩,?_⟩
 ·rw[eo]at he
  rcases List.mem_append.mp he with he | he
  ·rcases List.mem_append.mp he with he | he
   ·exact(hWm e (take_lt W e he).1).1
   ·rw[List.mem_singleton.mp he];exact hp
  ·exact(hWm e ((List.dropWhile_sublist _).subset he)).1
 ·rw[eo,List.pairwise_append,List.pairwise_append]
  refine⟨⟨hpw.1,by simp,fun a ha b hb=>by rw[List.mem_singleton.mp hb];exact hT a ha⟩,hpw.2.1,fun a ha b hb=>?_⟩
  rcases List.mem_append.mp ha with ha | ha
  ·exact hpw.2.2 a ha b hb
  ·rw[List.mem_singleton.mp ha];exact hD b hb
 ·have:=congrArg List.length hsplit
  rw[List.length_append]at this
  rw[eo,List.length_append,List.length_append,List.length_singleton]
  omega
theorem least_go2:∀(l out:List Pc),PcsOk out→PcsOk l→(∀o∈out,∀p∈l,o.to≤p.fr)→PcsOk (l.foldl leastS out)
 | [],out,h,_,_=>h
 | p::l,out,h,hl,hx=>by
  have hp:=hl.may p (by simp)
  have hlr:=hl.rise
  rw[List.pairwise_cons]at hlr
  have hl':PcsOk l:=⟨fun q hq=>hl.may q (by simp[hq]),hlr.2⟩
  have plain:PcsOk (out++[p])∧∀o∈out++[p],∀q∈l,o.to≤q.fr:=by
   refine⟨⟨fun q hq=>?_,?_⟩,fun o ho q hq=>?_⟩
   ·rcases List.mem_append.mp hq with z | z
    ·exact h.may q z
    ·rw[List.mem_singleton.mp z];exact hp
   ·rw[List.pairwise_append]
    exact⟨h.rise,by simp,fun a ha b hb=>by rw[List.mem_singleton.mp hb];exact hx a ha p (by simp)⟩
   ·rcases List.mem_append.mp ho with z | z
    ·exact hx o z q (by simp[hq])
    ·rw[List.mem_singleton.mp z];exact hlr.1 q hq
  rw[List.foldl_cons]
  unfold leastS
  split
  ·rename_i q hq
   have hout:out=out.dropLast++[q]:=by
    have hne:out≠[]:=fun z=>by rw[z]at hq;cases hq
    rw[List.getLast?_eq_some_getLast hne]at hq
    injection hq with hq
    rw[←hq,List.dropLast_concat_getLast hne]
   split
   ·rename_i hc
    obtain⟨e1,e2⟩:=hc
    have hqm:=h.may q (by rw[hout];simp)
    obtain⟨⟨q1,q2,q3⟩,t1,t2⟩:=hqm
    obtain⟨⟨p1,p2,p3⟩,_,_⟩:=hp
    have hr:=h.rise
    rw[hout,List.pairwise_append]at hr
    refine least_go2 l _ ⟨fun x hx2=>?_,?_⟩ hl' (fun o ho x hx2=>?_)
    ·rcases List.mem_append.mp hx2 with z | z
     ·exact h.may x (by rw[hout];exact List.mem_append_left _ z)
     ·rw[List.mem_singleton.mp z];exact⟨⟨q1,by show q.fr<p.to;omega,p3⟩,t1,t2⟩
    ·rw[List.pairwise_append]
     refine⟨hr.1,by simp,fun a ha b hb=>?_⟩
     rw[List.mem_singleton.mp hb]
     exact hr.2.2 a ha q (by simp)
    ·rcases List.mem_append.mp ho with z | z
     ·exact hx o (by rw[hout];exact List.mem_append_left _ z) x (by simp[hx2])
     ·rw[List.mem_singleton.mp z];exact hlr.1 x hx2
   ·exact least_go2 l _ plain.1 hl' plain.2
  ·rename_i hq
   have:out=[]:=List.getLast?_eq_none_iff.mp hq
   subst this
   exact least_go2 l _ plain.1 hl' plain.2
theorem least_ok{ps:List Pc}(h:PcsOk ps):PcsOk (leastP ps)∧(leastP ps).length≤ps.length:=
 ⟨least_go2 ps [] ⟨fun p hp=>(by cases hp),List.Pairwise.nil⟩ h (fun o ho=>by cases ho),by unfold leastP;have:=least_len_go ps [];simpa using this⟩
end Go.Vn

set_option maxRecDepth 20000
namespace Go.Vn
open Go.Proofs
structure PolOk(p:TypeId→Bool):Prop where
 leg:p 187=false
 ver:p 117=false
 str:p 9=false
 seen:p 101=false
 scan:p 130=false
 txp:p 84=false
 pair:p 152=false
 stamp:p 29=false
structure TxOk(x:Tr):Prop where
 br:x.br=0
 o0:0≤x.ops
 o1:x.ops≤40
 rd:(x.rd.length:Int)≤x.ops
 sc:(x.sc.length:Int)≤x.ops
 wl:(x.wr.length:Int)≤x.ops
 pcs:∀k ps,lookF k x.wr=some ps→PcsOk ps∧(ps.length:Int)≤2*x.ops
 key:∀e∈x.wr,keyOk e.1=true∧e.1.length≤100000
 wnd:(x.wr.map (·.1)).Nodup
structure Sys(hz h:Hp Fm)(D:Nat→Prop)(g pm:Nat)(ep sq:Int)(xs:List Tr)(lv:AV)(lg:List Nat)(bs:List Br)(M:Mem):Prop where
 z0:hz.no=0
 zg:hz.ng=0
 eng:EngH hz h g pm ep sq xs lv lg
 mem:MemH h D pm bs M
 dis:∀o,D o→o∉g::objsT xs
 ok:MOk M
 cnt:cntM M≤900000
 len:M.length≤900000
 pol:PolOk h.pol
 tx:∀x∈xs,TxOk x
 xl:xs.length≤1000
section
variable {hz h:Hp Fm} {D:Nat→Prop} {g pm:Nat} {ep sq:Int} {xs:List Tr} {lv:AV} {lg:List Nat} {bs:List Br} {M:Mem}
theorem Sys.memP(k:Sys hz h D g pm ep sq xs lv lg bs M):MemP h D g pm ep sq lv bs M:=⟨k.eng.row,k.eng.gn,k.mem,k.ok,k.cnt,k.len,k.pol.leg,k.pol.ver,k.pol.str,k.pol.seen⟩
theorem Sys.he{h':Hp Fm}(k:Sys hz h D g pm ep sq xs lv lg bs M)(e:HE h h'):Sys hz h' D g pm ep sq xs lv lg bs M:=
 ⟨k.z0,k.zg,k.eng.of e,k.mem.he e,k.dis,k.ok,k.cnt,k.len,by rw[e.pol];exact k.pol,k.tx,k.xl⟩
theorem Sys.xl2(k:Sys hz h D g pm ep sq xs lv lg bs M):xs.length≤1000000:=by have:=k.xl;omega
theorem Sys.upd{h':Hp Fm}{ep' sq':Int}{j:Nat}{x':Tr}(k:Sys hz h D g pm ep sq xs lv lg bs M)(hj:j<xs.length)(e':EngH hz h' g pm ep' sq' (xs.set j x') lv lg)(hp:x'.p=(xs[j]).p)(hm:x'.m=(xs[j]).m){S G:Nat→Prop}(hx:HX S G h h')(hS:∀o,S o→o∈g::objsT xs)(hok:TxOk x') :
  Sys hz h' D g pm ep' sq' (xs.set j x') lv lg bs M:=by
 have eo:objsT (xs.set j x')=objsT xs:=by
  obtain⟨l1,l2,s1,s2⟩:=set_split xs j hj x'
  rw[s2]
  conv=>rhs;rw[s1]
  simp[objsT,hp,hm]
 refine⟨k.z0,k.zg,e',k.mem.of hx (fun o ho hs=>k.dis o ho (hS o hs)),fun o ho=>by rw[eo];exact k.dis o ho,k.ok,k.cnt,k.len,by rw[hx.pol];exact k.pol,fun x hx=>?_,by rw[List.length_set];exact k.xl⟩
 rcases List.mem_or_eq_of_mem_set hx with h | h
 ·exact k.tx x h
 ·rw[h];exact hok
theorem tx_objs{xs:List Tr}{j:Nat}(hj:j<xs.length)(g:Nat){o:Nat}(h:o=g∨o=(xs[j]).p∨o=(xs[j]).m):o∈g::objsT xs:=by
 obtain⟨a,b⟩:=objsT_mem (List.getElem_mem hj)
 rcases h with rfl | rfl | rfl
 ·simp
 ·exact List.mem_cons_of_mem _ a
 ·exact List.mem_cons_of_mem _ b
end
set_option maxHeartbeats 1000000 in
theorem contseen_ans(rd:List (List UInt8 × St3))(lv:AV)(sv:SV 4 (rd.map encSeen) lv)(hl:rd.length≤1000000)(key:List UInt8)(bx:Nat)(h0:Hp Fm)(hb:Mp.get h0.obj bx=some (.row [.str key]))(bn:bx<h0.no) :
  A Tryz.prog TT (.func 44) [lv,.fn (.func 45) [] [.ptr bx 0]] h0 (fun r h'=>r=.bool (rd.any fun s=>decide (s.1=key))∧HE h0 h'):=by
 have ll:=sv.len Tryz.underlying80
 rw[List.length_map]at ll
 have ln:=sv.nm
 have lc:=sv.cells
 have li:=sv.isCell
 have one:∀(s:List UInt8 × St3) (h:Hp Fm),HE h0 h→A Tryz.prog TT (.func 45) [encSeen s,.ptr bx 0] h (fun r h'=>r=.bool (decide (s.1=key))∧HE h h'):=fun s h he=>by
  have gb:=(he.obj _ bn).trans hb
  have nb:bx≠h.no:=by have:=he.no;omega
  apply A_go Tryz.func45 rfl (by rfl);(case hn=>(simp[Tryz.ntmps45];rfl))
  refine vF (cJ gb nb) ?_
  (first | apply endW_r | apply endW_n);(case h1=>(simp[Tryz.results45];first | done | rfl))
  exact⟨by rw[eqB_dec],(HE.refl h).new _⟩
 have idx:A Tryz.prog TT (.func 73) [lv,.fn (.func 45) [] [.ptr bx 0]] h0 (fun r h'=>(∃n:Int,r=.int .i64 n∧((0≤n)↔(rd.any fun s=>decide (s.1=key))=true))∧HE h0 h'):=by
  obtain⟨q,hq⟩:∃q:List UInt8 × St3→Bool,q=fun s=>decide (s.1=key):=⟨_,rfl⟩
  rw[←hq]
  apply A_go Tryz.func73 rfl (by rfl);(case hn=>(simp[Tryz.ntmps73];rfl))
  refine vF (cJ ll (cJ ln (cJ lc li))) ?_
  refine W_loop (fun z s=>∃(t:Fm AV) (h:Hp Fm) (i:Nat),s=⟨t,19,h,none⟩∧z=rd.length-i∧i≤rd.length∧(rd.take i).any q=false∧tget t 0=lv∧tget t 1=.fn (.func 45) [] [.ptr bx 0]∧tget t 7=.int .i64 rd.length∧tget t 8=.int .i64 i∧HE h0 h) rd.length
   ⟨_,_,0,rfl,rfl,by omega,by simp,by simp,by simp,by simp,by simp,HE.refl _⟩ ?_
  rintro _ _ ⟨t,h,i,rfl,rfl,hi,hn,t0,t1,t7,t8,e1⟩
  by_cases qi:i<rd.length
  case neg=>
   have qi':¬((i:Int)<rd.length):=by omega
   refine vF (cJ t0 (cJ t1 (cJ t7 (cJ t8 (cJ qi qi'))))) ?_
   (first | apply endW_r | apply endW_n);(case h1=>(simp[Tryz.results73];first | done | rfl))
   rw[List.take_of_length_le (by omega)]at hn
   exact⟨⟨-1,rfl,by rw[hn];simp⟩,e1⟩
  have qi':(i:Int)<rd.length:=by omega
  obtain⟨x,hx⟩:∃x,x=rd[i]:=⟨_,rfl⟩
  have ix:=sv.idx (k:=.i64) (i:=(i:Int)) Tryz.underlying80 z101 (by omega) (by rw[List.length_map];omega)
  replace ix:indexAddrAV Tryz.prog 80 lv (.int .i64 (i:Int))=some (.el (encSeen x) 0):=by rw[ix];simp[hx]
  simp only[encSeen]at ix
  obtain⟨ip,hip⟩:∃ip,ip=i+1:=⟨_,rfl⟩
  have wip:IntKind.i64.wrap ((i:Int)+1)=(ip:Int):=by rw[wrap64 (by omega) (by omega)];omega
  have hmem:x∈rd:=by rw[hx];exact List.getElem_mem _
  have o1:=one x h e1
  simp only[encSeen]at o1
  refine vF (cJ t0 (cJ t1 (cJ t7 (cJ t8 (cJ qi (cJ qi' (cJ ix (cJ lc li)))))))) ?_
  refine A.mono o1 ?_
  rintro _ h2 ⟨rfl,e2⟩
  have qx:decide (x.1=key)=q x:=by rw[hq]
  rw[qx]
  refine vP ?_
  cases hq':q x with
  | true=>
   refine vF t0 ?_
   (first | apply endW_r | apply endW_n);(case h1=>(simp[Tryz.results73];first | done | rfl))
   refine⟨⟨(i:Int),rfl,?_⟩,e1.trans e2⟩
   constructor
   ·intro _;exact List.any_eq_true.mpr ⟨x,hmem,hq'⟩
   ·intro _;omega
  | false=>
   refine vF (cJ t8 wip) ?_
   refine⟨rd.length-ip,by omega,_,_,ip,rfl,rfl,by omega,?_,by simp[t0],by simp[t1],by simp[t7],by simp,e1.trans e2⟩
   rw[hip,List.take_succ_eq_append_getElem qi,List.any_append,hn,←hx]
   simp[hq']
 apply A_go Tryz.func44 rfl (by rfl);(case hn=>(simp[Tryz.ntmps44];rfl))
 refine vF (cJ lc li) ?_
 refine A.mono idx ?_
 rintro _ h1 ⟨⟨n,rfl,hn⟩,e1⟩
 refine vP ?_
 by_cases q:0≤n
 ·refine vF q ?_
  (first | apply endW_r | apply endW_n);(case h1=>(simp[Tryz.results44];first | done | rfl))
  exact⟨by rw[hn.mp q],e1⟩
 ·refine vF q ?_
  (first | apply endW_r | apply endW_n);(case h1=>(simp[Tryz.results44];first | done | rfl))
  have:(rd.any fun s=>decide (s.1=key))=false:=by
   cases h:(rd.any fun s=>decide (s.1=key))with
   | false=>rfl
   | true=>exact absurd (hn.mpr h) q
  exact⟨by rw[this],e1⟩
def timeOk(t:Int):Bool:=decide (0≤t)&&decide (t<1099511627776)
theorem timed_ans(t:Int)(h0:Hp Fm):A Tryz.prog TT (.func 43) [.int .i64 t] h0 (fun r h'=>r=.bool (timeOk t)∧h'=h0):=by
 apply A_go Tryz.func43 rfl (by rfl);(case hn=>(simp[Tryz.ntmps43];rfl))
 by_cases q1:0≤t
 ·by_cases q2:t<1099511627776
  ·refine vF (cJ q1 q2) ?_
   (first | apply endW_r | apply endW_n);(case h1=>(simp[Tryz.results43];first | done | rfl))
   exact⟨by simp[timeOk,q1,q2],rfl⟩
  ·refine vF (cJ q1 q2) ?_
   (first | apply endW_r | apply endW_n);(case h1=>(simp[Tryz.results43];first | done | rfl))
   exact⟨by simp[timeOk,q1,q2],rfl⟩
 ·refine vF q1 ?_
  (first | apply endW_r | apply endW_n);(case h1=>(simp[Tryz.results43];first | done | rfl))
  exact⟨by simp[timeOk,q1],rfl⟩
def getT(x:Tr)(key:List UInt8)(M:Mem)(G:List Nat):Tr:={ x with ops:=x.ops+1,rd:=if x.rd.any (fun s=>decide (s.1=key))then x.rd else x.rd++[(key,lastM M key)],rg:=G }
theorem atP_mem{ps:List Pc}{t:Int}{s:List UInt8}(h:atP ps t=some s):∃p∈ps,p.val=s:=by
 unfold atP at h
 obtain⟨p,hp,h⟩:=Option.map_eq_some_iff.mp h
 exact⟨p,List.mem_of_find?_eq_some hp,h⟩
theorem openE_st{xs:List Tr}{i:Int}(h:openE xs i=0):∃(j:Nat) (hj:j<xs.length),i=(j:Int)+1∧(xs[j]).st=1∧(xs[j]).ops<40:=by
 unfold openE findR at h
 by_cases q:1≤i∧i≤xs.length
 case neg=>simp[q]at h
 obtain⟨j,rfl⟩:∃j:Nat,i=(j:Int)+1:=⟨(i-1).toNat,by omega⟩
 have hj:j<xs.length:=by omega
 have e:xs.getD ((j:Int)+1-1).toNat default=xs[j]:=by rw[show((j:Int)+1-1).toNat=j by omega,List.getD_eq_getElem?_getD,List.getElem?_eq_getElem hj];rfl
 rw[e,if_pos q]at h
 refine⟨j,hj,rfl,?_⟩
 by_cases q1:(xs[j]).st=1
 ·by_cases q2:(xs[j]).ops<40
  ·exact⟨q1,q2⟩
  ·simp[q1,q2]at h
 ·by_cases q5:(xs[j]).st=5 <;> simp[q1,q5]at h
theorem vNi15{F G K:Prop}(f:F)(k:K)(h:F→K→G:=by intro f k;(repeat(first|with_reducible first|refine vmR ?_|refine vmV rfl ?_|refine vmW rfl ?_|refine vmL ?_|refine blockW_y (by decide) ?_|((with_reducible first|apply vmO|apply vmT|apply vmC);case a=>simp[f,newSeq,newSl];with_reducible first|exact .v|exact .c|exact .t|exact .f)));exact k):G:=h f k
set_option maxHeartbeats 4000000 in
theorem get_m{hz h:Hp Fm}{D:Nat→Prop}{g pm:Nat}{ep sq:Int}{xs:List Tr}{lv:AV}{lg:List Nat}{bs:List Br}{M:Mem}(k:Sys hz h D g pm ep sq xs lv lg bs M)(i:Int)(hi64:-9223372036854775808≤i∧i≤9223372036854775807)(key:List UInt8)(hkl:key.length≤100000)(tm:Int) :
  A Tryz.prog TT (.func 19) [.ptr g 0,.int .i64 i,.str key,.int .i64 tm] h (fun r h'=>∃s b e,r=.tup [.str s,.bool b,.int .i64 e]∧((e≠0∧HE h h')∨(e=0∧openE xs i=0∧∃(j:Nat) (hj:j<xs.length) (G:List Nat),i=(j:Int)+1∧Sys hz h' D g pm ep sq (xs.set j (getT xs[j] key M G)) lv lg bs M∧HX (fun o=>o=(xs[j]).p) (fun q=>q∈(xs[j]).rg) h h'∧∀q∈G,q∈(xs[j]).rg∨h.ng≤q))):=by
 apply A_go Tryz.func19 rfl (by rfl);(case hn=>(simp[Tryz.ntmps19];rfl))
 refine vZ ?_
 refine A_heap ?_
 intro hA hhA
 have eA:HE h hA:=by rw[hhA];exact(HE.refl h).new _
 have g6:Mp.get hA.obj h.no=some (.row [.str key]):=by rw[hhA];simp
 have nA:h.no<hA.no:=by rw[hhA];exact Nat.lt_succ_self _
 clear hhA
 have kA:=k.eng.of eA
 refine A.mono (open_ans hz hA g pm ep sq xs lv lg kA i hi64 k.xl2) ?_
 rintro _ h1 ⟨eh,⟨f1,rfl⟩ | ⟨f1,j,hj,rfl,s1,so,rfl⟩⟩
 ·rw[eh]
  clear eh h1
  obtain⟨e,he⟩:∃e,e=openE xs i:=⟨_,rfl⟩
  rw[←he]at f1 ⊢
  refine vP ?_
  refine vF f1 ?_
  (first | apply endW_r | apply endW_n);(case h1=>(simp[Tryz.results19];first | done | rfl))
  exact⟨_,_,e,rfl,.inl ⟨f1,eA⟩⟩
 rw[eh]
 clear eh h1
 obtain⟨x,ex⟩:∃x,x=xs[j]:=⟨_,rfl⟩
 rw[←ex]at s1 so ⊢
 have hmem:x∈xs:=by rw[ex];exact List.getElem_mem _
 have tok:=k.tx x hmem
 have xg:=k.eng.p_ne hmem
 refine vP ?_
 refine vF g6 ?_
 refine A.mono (keyed_ans key hkl hA) ?_
 rintro _ hB ⟨rfl,eB⟩
 have gB:=(eB.obj _ nA).trans g6
 have eAB:=eA.trans eB
 refine vP ?_
 cases qk:keyOk key with
 | false=>
  refine vF gB ?_
  (first | apply endW_r | apply endW_n);(case h1=>(simp[Tryz.results19];first | done | rfl))
  exact⟨_,_,1,rfl,.inl ⟨by omega,eAB⟩⟩
 | true=>
 refine vF gB ?_
 refine A.mono (timed_ans tm hB) ?_
 rintro _ hC ⟨rfl,ehC⟩
 rw[ehC]
 clear ehC hC
 refine vP ?_
 cases qt:timeOk tm with
 | false=>
  refine vF gB ?_
  (first | apply endW_r | apply endW_n);(case h1=>(simp[Tryz.results19];first | done | rfl))
  exact⟨_,_,1,rfl,.inl ⟨by omega,eAB⟩⟩
 | true=>
 have kS:=k.he eAB
 have kB:=kS.eng
 obtain⟨esB,rdB,scB,slB,TB⟩:=kB.tr x hmem
 have trB:=TB.row
 have rdn:rdB.cells=[rdB]∧rdB.isCell=true:=⟨TB.rd.sv.cells,TB.rd.sv.isCell⟩
 obtain⟨rc,ri⟩:=rdn
 have w1:IntKind.i64.wrap (x.ops+1)=x.ops+1:=by have:=tok.o0;exact wrap64 (by omega) (by omega)
 rw[tok.br]at trB
 have np:h.no≠x.p:=fun z=>by
  obtain⟨_,_,_,_,T⟩:=k.eng.tr x hmem
  have:=T.pn;omega
 have nB:h.no<hB.no:=Nat.lt_of_lt_of_le nA eB.no
 refine vF (cJ gB (cJ trB (cJ w1 (cJ np (cJ rc ri))))) ?_
 refine A_heap ?_
 intro hD hhD
 have xD:HX (fun o=>o=x.p) (fun _=>False) hB hD:=by rw[hhD];exact HX.set1 (h':=hB) rfl
 have trD:Mp.get hD.obj x.p=some (.row [.int .i64 0,.int .i64 x.st,.int .i64 (x.ops+1),.int .i64 x.at_.b,.int .i64 x.at_.e,.int .i64 x.at_.s,.mp x.m,rdB,scB]):=by rw[hhD];simp
 have nDB:hD.no=hB.no:=by rw[hhD]
 have gDB:hD.ng=hB.ng:=by rw[hhD]
 have lDB:hD.len=hB.len:=by rw[hhD]
 clear hhD
 have gD:=(xD.obj _ nB np).trans gB
 have grD:=(xD.obj _ kB.gn (fun e=>xg.1 e.symm)).trans kB.row
 have tmD:=(xD.obj _ TB.mn (fun e=>xg.2.2 e.symm)).trans TB.map
 have Dp:∀o,D o→¬o=x.p:=fun o ho z=>k.dis o ho (by rw[z];exact List.mem_cons_of_mem _ (objsT_mem hmem).1)
 have mpD:MemP hD D g pm ep sq lv bs M:=⟨grD,by rw[nDB];exact kB.gn,kS.mem.of xD Dp,k.ok,k.cnt,k.len,by rw[xD.pol];exact kS.pol.leg,by rw[xD.pol];exact kS.pol.ver,by rw[xD.pol];exact kS.pol.str,by rw[xD.pol];exact kS.pol.seen⟩
 have rl:x.rd.length≤40:=by have:=tok.rd;have:=tok.o1;omega
 refine A.mono (contseen_ans x.rd rdB TB.rd.sv (by omega) key h.no hD gD (by omega)) ?_
 rintro _ hE ⟨rfl,eE⟩
 have trE:=(eE.obj _ (by rw[nDB];exact TB.pn)).trans trD
 have gE:=(eE.obj _ (by rw[nDB];exact nB)).trans gD
 have mpE:=mpD.he eE
 refine vP ?_
 have fin:∀(hI:Hp Fm) (rdI:AV) (rgI:List Nat) (G:Nat→Prop) (rd':List (List UInt8 × St3)),HX (fun o=>o=x.p) G hE hI→(∀q,G q→q∈x.rg)→Mp.get hI.obj x.p=some (.row [.int .i64 0,.int .i64 x.st,.int .i64 (x.ops+1),.int .i64 x.at_.b,.int .i64 x.at_.e,.int .i64 x.at_.s,.mp x.m,rdI,scB]) →
   ACg hI 4 (rd'.map encSeen) rdI rgI→(rgI=x.rg∨∃q,rgI=[q]∧hE.ng≤q)→rd'=(getT x key M rgI).rd→∀hJ,HE hI hJ→Sys hz hJ D g pm ep sq (xs.set j (getT x key M rgI)) lv lg bs M∧HX (fun o=>o=x.p) (fun q=>q∈x.rg) h hJ:=by
  intro hI rdI rgI G rd' hxI hG rowI acI hrg erd hJ eJ
  have hxB:HX (fun o=>o=x.p) G hB hI:=by
   refine⟨by have:=eE.no;have:=hxI.no;omega,by have:=eE.ng;have:=hxI.ng;omega,hxI.pol.trans (eE.pol.trans xD.pol),fun o ho hs=>?_,fun q hq hn=>?_⟩
   ·exact(hxI.obj o (by have:=eE.no;omega) hs).trans ((eE.obj o (by omega)).trans (xD.obj o ho hs))
   ·exact(hxI.len q (by have:=eE.ng;omega) hn).trans ((eE.len q (by omega)).trans (by rw[lDB]))
  have ndg:=k.eng.ndg
  obtain⟨l1,l2,t1,_⟩:=set_split xs j hj x
  have nx2:=(List.nodup_append.mp ndg).2.1
  rw[t1,←ex]at nx2
  simp only[grpsT,List.flatMap_append,List.flatMap_cons]at nx2
  have nx3:=(List.nodup_append.mp (List.nodup_append.mp nx2).2.1).1
  have sgl:∀q∈x.sg,¬G q:=fun q hq hg=>(List.nodup_append.mp nx3).2.2 q (hG q hg) q hq rfl
  have rgn:∀q∈rgI,q∈x.rg∨hB.ng≤q:=fun q hq=>by
   rcases hrg with z | ⟨q1,z,z2⟩
   ·rw[z]at hq;exact .inl hq
   ·rw[z]at hq;rw[List.mem_singleton.mp hq];exact .inr (by have:=eE.ng;omega)
  have engI:EngH hz hI g pm ep sq (xs.set j (getT x key M rgI)) lv lg:=by
   refine kB.upd hj ex (x':=getT x key M rgI) (hxB.mono (fun o _ z=>.inr (.inl z)) (fun q _ z=>List.mem_append_left _ (hG q z))) ?_ ⟨esB,rdI,scB,slB,⟨?_,?_,TB.en,TB.born,?_,?_,TB.scr,Nat.lt_of_lt_of_le TB.pn hxB.no,Nat.lt_of_lt_of_le TB.mn hxB.no⟩⟩ rfl rfl ?_ ?_
   ·exact(hxB.obj _ kB.gn (fun e=>xg.1 e.symm)).trans kB.row
   ·rw[tok.br.symm]at rowI;exact rowI
   ·exact(hxB.obj _ TB.mn (fun e=>xg.2.2 e.symm)).trans TB.map
   ·rw[erd]at acI;exact acI
   ·exact TB.sc.of (fun q hq=>hxB.len q (TB.sc.lt q hq) (sgl q hq)) hxB.ng
   ·show(rgI++x.sg).Nodup
    refine List.nodup_append.mpr ⟨?_,(List.nodup_append.mp nx3).2.1,fun q hq r hr e=>?_⟩
    ·rcases hrg with z | ⟨q1,z,_⟩
     ·rw[z];exact(List.nodup_append.mp nx3).1
     ·rw[z];simp
    ·subst e
     rcases rgn q hq with z | z
     ·exact(List.nodup_append.mp nx3).2.2 q z q hr rfl
     ·have:=TB.sc.lt q hr;omega
   ·intro q hq
    rcases List.mem_append.mp hq with z | z
    ·rcases rgn q z with y | y
     ·exact .inl (List.mem_append_left _ y)
     ·exact .inr y
    ·exact .inl (List.mem_append_right _ z)
  have hxA:HX (fun o=>o=x.p) (fun q=>q∈x.rg) h hI:=⟨Nat.le_trans eAB.no hxB.no,Nat.le_trans eAB.ng hxB.ng,hxB.pol.trans eAB.pol,fun o ho hs=>(hxB.obj o (Nat.lt_of_lt_of_le ho eAB.no) hs).trans (eAB.obj o ho),fun q hq hn=>(hxB.len q (Nat.lt_of_lt_of_le hq eAB.ng) (fun z=>hn (hG q z))).trans (eAB.len q hq)⟩
  have sysI:=k.upd (x':=getT x key M rgI) hj engI (by rw[←ex];rfl) (by rw[←ex];rfl) hxA (fun o z=>tx_objs hj g (.inr (.inl (by rw[z,ex])))) ⟨tok.br,by have:=tok.o0;show 0≤x.ops+1;omega,by show x.ops+1≤40;omega,by
   show(((getT x key M rgI).rd.length:Nat):Int)≤x.ops+1
   have:=tok.rd
   unfold getT
   simp only
   split
   ·omega
   ·rw[List.length_append,List.length_singleton];omega,by show(x.sc.length:Int)≤x.ops+1;have:=tok.sc;omega,by show(x.wr.length:Int)≤x.ops+1;have:=tok.wl;omega,fun k' ps hl=>by
    obtain⟨a,b⟩:=tok.pcs k' ps hl
    exact⟨a,by show(ps.length:Int)≤2*(x.ops+1);omega⟩,tok.key,tok.wnd⟩
  refine⟨sysI.he eJ,?_⟩
  exact⟨Nat.le_trans hxA.no eJ.no,Nat.le_trans hxA.ng eJ.ng,eJ.pol.trans hxA.pol,fun o ho hs=>(eJ.obj o (Nat.lt_of_lt_of_le ho hxA.no)).trans (hxA.obj o ho hs),fun q hq hn=>(eJ.len q (Nat.lt_of_lt_of_le hq hxA.ng)).trans (hxA.len q hq hn)⟩
 obtain⟨pcs,hpcs⟩:∃pcs,pcs=(lookF key x.wr).getD []:=⟨_,rfl⟩
 have pok:PcsOk pcs∧pcs.length≤80:=by
  cases hl:lookF key x.wr with
  | none=>rw[hpcs,hl];exact⟨⟨(fun p hp=>by cases hp),List.Pairwise.nil⟩,by simp⟩
  | some ps=>
   obtain⟨a,b⟩:=tok.pcs key ps hl
   have:=tok.o1
   rw[hpcs,hl];exact⟨a,by show ps.length≤80;omega⟩
 have hne:∀s,atP pcs tm=some s→1≤s.length:=fun s hs=>by
  obtain⟨p,hp,rfl⟩:=atP_mem hs
  rcases (pok.1.may p hp).2.1 with z | z
  ·cases hv:p.val with
   | nil=>rw[hv]at z;cases z
   | cons _ _=>simp
  ·rw[z];simp
 have tmE:=(eE.obj _ (by rw[nDB];exact TB.mn)).trans tmD
 have nEB:hB.no≤hE.no:=by have:=eE.no;omega
 cases hca:(x.rd.any fun s=>decide (s.1=key))with
 | true=>
  refine vF gE ?_
  refine A.mono (sees_ans mpE x.p x.m x.clk x.st (x.ops+1) x.at_.b x.at_.e x.at_.s rdB scB x.wr esB trE tmE TB.en (Nat.lt_of_lt_of_le TB.pn nEB) (Nat.lt_of_lt_of_le TB.mn nEB) key tm pcs hpcs (by omega) hne) ?_
  rintro _ hJ ⟨⟨s,b,rfl⟩,eJ⟩
  refine vP ?_
  refine vZ ?_
  (first | apply endW_r | apply endW_n);(case h1=>(simp[Tryz.results19];first | done | rfl))
  have acE:ACg hE 4 (x.rd.map encSeen) rdB x.rg:=TB.rd.of (fun q hq=>(eE.len q (by rw[gDB];exact TB.rd.lt q hq)).trans (by rw[lDB])) (by have:=eE.ng;omega)
  obtain⟨r1,r2⟩:=fin hE rdB x.rg (fun _=>False) x.rd (HX.refl _ _ hE) (fun q z=>z.elim) trE acE (.inl rfl) (by simp only[getT];rw[if_pos hca]) hJ eJ
  exact⟨s,b,0,rfl,.inr ⟨rfl,f1,j,hj,x.rg,rfl,by rw[←ex];exact r1,by rw[←ex];exact r2,fun q z=>.inl (by rw[←ex];exact z)⟩⟩
 | false=>
  refine vZ ?_
  (with_reducible refine W_draw_id (pln:=true) [0,1,2,3,4,5,6,7,8,9,10,11,12,13,14,15,16,17,18] [(4,(4,[13,15])),(5,(5,[13])),(10,(10,[])),(11,(11,[]))] (by kernel_rfl) rfl ?_)
  refine vF (cJ gE trE) ?_
  refine A.mono (last_ans (mpE.he (HE.refl hE).drew) key) ?_
  rintro _ hF ⟨rfl,eF⟩
  have eF':HE hE hF:=((HE.refl hE).drew).trans eF
  have trF:=(eF'.obj _ (Nat.lt_of_lt_of_le TB.pn nEB)).trans trE
  have gF:=(eF'.obj _ (by omega)).trans gE
  have hpF:hF.pol 101=false:=by rw[eF'.pol];exact mpE.seen
  have acF:ACg hF 4 (x.rd.map encSeen) rdB x.rg:=TB.rd.of (fun q hq=>(eF'.len q (by have:=eE.ng;have:=TB.rd.lt q hq;omega)).trans ((eE.len q (by rw[gDB];exact TB.rd.lt q hq)).trans (by rw[lDB]))) (by have:=eE.ng;have:=eF'.ng;omega)
  simp only[encSt]
  refine vP ?_
  refine vNi15 (cJ gE (cJ trE (cJ gF (cJ trF (cJ rc (cJ ri hpF)))))) ?_
  with_reducible apply WT_app_i;(case hw=>(simp[gE,trE,gF,trF,rc,ri,newSeq,newSl,hpF];done));(case ho=>rfl);(case hb=>rfl);(case ha=>(simp[gE,trE,gF,trF,rc,ri,newSeq,newSl,hpF];first | done | exact⟨rfl,rfl⟩ | rfl));(case h1=>(simp;first | done | rfl));(case h2=>(simp;first | done | rfl))
  refine app_then (ACg.app etSeen (acF.of (fun q hq=>((HE.refl hF).newSl 1).len q (acF.lt q hq)) ((HE.refl hF).newSl 1).ng) hpF (by rw[List.length_map];omega)) ?_
  rintro x4 h4 ⟨G4,ac4,hG4,ho4,hn4,hp4,hg4,hl4⟩
  have xc4:=ac4.sv.cells
  have xi4:=ac4.sv.isCell
  have ho4':h4.obj=hF.obj:=ho4
  have hn4':h4.no=hF.no:=hn4
  have hp4':h4.pol=hF.pol:=hp4
  have hg4':hF.ng≤h4.ng:=Nat.le_trans ((HE.refl hF).newSl 1).ng hg4
  have hl4':∀q,q<hF.ng→q∉x.rg→Mp.get h4.len q=Mp.get hF.len q:=fun q hq hn=>(hl4 q (Nat.lt_of_lt_of_le hq ((HE.refl hF).newSl 1).ng) hn).trans (((HE.refl hF).newSl 1).len q hq)
  have hG4':G4=x.rg∨∃q,G4=[q]∧hF.ng≤q:=by
   rcases hG4 with z | ⟨q,z,z2⟩
   ·exact .inl z
   ·exact .inr ⟨q,z,Nat.le_trans ((HE.refl hF).newSl 1).ng z2⟩
  clear ho4 hn4 hp4 hg4 hl4 hG4
  have tr4:Mp.get h4.obj x.p=_:=(by rw[ho4']:Mp.get h4.obj x.p=Mp.get hF.obj x.p).trans trF
  have g4:Mp.get h4.obj h.no=_:=(by rw[ho4']:Mp.get h4.obj h.no=Mp.get hF.obj h.no).trans gF
  refine vP ?_
  refine vF (cJ xc4 (cJ xi4 (cJ gE (cJ trE (cJ gF (cJ trF (cJ g4 tr4))))))) ?_
  refine⟨by simp[readSame,beqAV_self,xc4,xi4,gE,trE,gF,trF,g4,tr4,np];done,_,by simp;first | done | rfl,?_⟩
  refine W_heap ?_
  intro hI hhI
  have xI:HX (fun o=>o=x.p) (fun _=>False) h4 hI:=by rw[hhI];exact HX.set1 (h':=h4) rfl
  have trI:Mp.get hI.obj x.p=some (.row [.int .i64 0,.int .i64 x.st,.int .i64 (x.ops+1),.int .i64 x.at_.b,.int .i64 x.at_.e,.int .i64 x.at_.s,.mp x.m,x4,scB]):=by rw[hhI];simp
  have lI:hI.len=h4.len:=by rw[hhI]
  have nI:hI.no=h4.no:=by rw[hhI]
  have ngI:hI.ng=h4.ng:=by rw[hhI]
  clear hhI
  have nEF:=eF'.no
  have gEF:=eF'.ng
  have xEI:HX (fun o=>o=x.p) (fun q=>q∈x.rg) hE hI:=by
   refine⟨by omega,by omega,xI.pol.trans (hp4'.trans eF'.pol),fun o ho hs=>?_,fun q hq hn=>?_⟩
   ·exact(xI.obj o (by omega) hs).trans ((by rw[ho4']:Mp.get h4.obj o=Mp.get hF.obj o).trans (eF'.obj o ho))
   ·rw[lI];exact(hl4' q (by omega) hn).trans (eF'.len q hq)
  have acI:ACg hI 4 ((x.rd++[(key,lastM M key)]).map encSeen) x4 G4:=by
   have:(x.rd++[(key,lastM M key)]).map encSeen=x.rd.map encSeen++[encSeen (key,lastM M key)]:=by rw[List.map_append];rfl
   rw[this]
   exact ac4.of (fun q _=>by rw[lI]) (by omega)
  have gI:=(xEI.obj h.no (by omega) np).trans gE
  have tmI:=(xEI.obj x.m (Nat.lt_of_lt_of_le TB.mn nEB) (fun e=>xg.2.2 e.symm)).trans tmE
  have grI:=(xEI.obj g (Nat.lt_of_lt_of_le kB.gn nEB) (fun e=>xg.1 e.symm)).trans mpE.row
  have mpI:MemP hI D g pm ep sq lv bs M:=⟨grI,Nat.lt_of_lt_of_le mpE.gn xEI.no,mpE.mem.of xEI Dp,k.ok,k.cnt,k.len,by rw[xEI.pol];exact mpE.leg,by rw[xEI.pol];exact mpE.ver,by rw[xEI.pol];exact mpE.str,by rw[xEI.pol];exact mpE.seen⟩
  refine vF gI ?_
  refine A.mono (sees_ans mpI x.p x.m x.clk x.st (x.ops+1) x.at_.b x.at_.e x.at_.s x4 scB x.wr esB trI tmI TB.en (by have:=TB.pn;omega) (by have:=TB.mn;omega) key tm pcs hpcs (by omega) hne) ?_
  rintro _ hJ ⟨⟨s,b,rfl⟩,eJ⟩
  refine vP ?_
  refine vZ ?_
  (first | apply endW_r | apply endW_n);(case h1=>(simp[Tryz.results19];first | done | rfl))
  obtain⟨r1,r2⟩:=fin hI x4 G4 (fun q=>q∈x.rg) (x.rd++[(key,lastM M key)]) xEI (fun q z=>z) trI acI (by
   rcases hG4' with z | ⟨q,z,z2⟩
   ·exact .inl z
   ·exact .inr ⟨q,z,by omega⟩) (by simp only[getT];rw[hca];simp) hJ eJ
  exact⟨s,b,0,rfl,.inr ⟨rfl,f1,j,hj,G4,rfl,by rw[←ex];exact r1,by rw[←ex];exact r2,fun q z=>by
   rcases hG4' with y | ⟨q1,y,y2⟩
   ·exact .inl (by rw[←ex,←y];exact z)
   ·rw[y]at z;rw[List.mem_singleton.mp z];have:=eE.ng;have:=eAB.ng;exact .inr (by omega)⟩⟩
end Go.Vn
