/- What functions of the program come to, in the value machine (a part of the proof of the claim's statement). No condition. -/
import Derived.Test.YtplcehpejjfjoaaGreatVnI5
import Derived.Test.YtplcehpejjfjoaaGreatVnB6
import Derived.Test.YtplcehpejjfjoaaGreatVnL5
set_option linter.unusedSimpArgs false
set_option linter.unusedVariables false
set_option maxRecDepth 20000
namespace Go.Vn
open Go.Proofs Go.ChangeShapes Go.WideShapes Go.ChangeAt Go.RowKit
theorem el_call{x:AV}(h:DeepEl Tryz.prog 35 x):∃v:Cl,x=encC v∧ClR v:=by
 obtain⟨parts,rfl,hp⟩:=deep_struct Tryz.underlying35 a35 h
 obtain⟨a,ha,ka⟩:=deep_intv Tryz.underlying3 (hp 0 _ rfl)
 obtain⟨b,hb,kb⟩:=deep_intv Tryz.underlying3 (hp 1 _ rfl)
 obtain⟨c,hc,kc⟩:=deep_intv Tryz.underlying3 (hp 2 _ rfl)
 obtain⟨k,hk,_⟩:=deep_strv Tryz.underlying9 (hp 3 _ rfl)
 obtain⟨to,hto,_⟩:=deep_strv Tryz.underlying9 (hp 4 _ rfl)
 obtain⟨p2,e2,h2⟩:=deep_structv Tryz.underlying33 (hp 5 _ rfl)
 obtain⟨w,hw,_⟩:=deep_strv Tryz.underlying9 (hp 6 _ rfl)
 obtain⟨d,hd,kd⟩:=deep_intv Tryz.underlying3 (h2 0 _ rfl)
 obtain⟨e,he,ke⟩:=deep_intv Tryz.underlying3 (h2 1 _ rfl)
 refine⟨⟨a,b,c,k,to,d,e,w⟩,?_,ka,kb,kc,kd,ke⟩
 show AV.agg ((List.range 7).flatMap parts)=_
 simp[List.range_succ,ha,hb,hc,hk,hto,e2,hw,hd,he]
theorem el_calls{x:AV}(h:DeepEl Tryz.prog 22 x):∃l:List Cl,SV 8 (l.map encC) x∧l.length≤maxLen∧∀c∈l,ClR c:=by
 obtain⟨els,h1,h2,h3⟩:=deep_slice Tryz.underlying22 a22 h
 have hc:Tryz.prog.cellsOf 35=8:=by kernel_rfl
 rw[hc]at h1
 obtain⟨l,rfl,hl⟩:=map_of encC ClR els (fun x hx=>el_call (h3 x hx))
 exact⟨l,h1,by simpa using h2,hl⟩
end Go.Vn

set_option maxRecDepth 20000
namespace Go.Vn
open Go.Proofs
theorem keyS_len(s:Bs):(keyS s).length≤100000:=by
 have h:(s.take 60).length≤60:=by rw[List.length_take];omega
 unfold keyS keyU
 split
 ·rw[List.length_drop];omega
 ·have:=esc_len ((s.take 60).take 3)
  have h3:((s.take 60).take 3).length≤3:=by rw[List.length_take];omega
  simp only[keyZ,zeroB,List.length_cons,List.length_append,List.length_nil];omega
structure PastH(h:Hp Fm)(pp:Nat)(vs:List AV)(gs:List (List Nat))(Q:Nat→Prop)(B:Nat):Prop where
 ex:∃Lv,Mp.get h.obj pp=some (.row [Lv])∧RS 0 h 1 false vs Lv∧∀q,isRow Lv q→Q q∧q≠pp
 el:vs.length=gs.length∧∀i (hi:i<vs.length) (hg:i<gs.length),∃acc,ACg h 11 acc vs[i] gs[i]∧acc.length≤B
 ndg:gs.flatten.Nodup
 pq:Q pp
 lt:∀o,Q o→o<h.no
theorem PastH.of{h h':Hp Fm}{pp:Nat}{vs:List AV}{gs:List (List Nat)}{Q S G:Nat→Prop}{B:Nat}(k:PastH h pp vs gs Q B)(hx:HX S G h h')(hS:∀o,Q o→¬S o)(hG:∀q∈gs.flatten,¬G q):PastH h' pp vs gs Q B:=by
 obtain⟨Lv,a,b,c⟩:=k.ex
 refine⟨⟨Lv,(hx.obj _ (k.lt _ k.pq) (hS _ k.pq)).trans a,RS.of b hx (fun q hq=>hS q (c q hq).1),c⟩,⟨k.el.1,fun i hi hg=>?_⟩,k.ndg,k.pq,fun o ho=>Nat.lt_of_lt_of_le (k.lt o ho) hx.no⟩
 obtain⟨acc,ac,hl⟩:=k.el.2 i hi hg
 exact⟨acc,ac.of (fun q hq=>hx.len q (ac.lt q hq) (hG q (List.mem_flatten.mpr ⟨_,List.getElem_mem hg,hq⟩))) hx.ng,hl⟩
theorem PastH.he{h h':Hp Fm}{pp:Nat}{vs:List AV}{gs:List (List Nat)}{Q:Nat→Prop}{B:Nat}(k:PastH h pp vs gs Q B)(e:HE h h'):PastH h' pp vs gs Q B:=k.of (e.x (fun _=>False) (fun _=>False)) (fun _ _ z=>z) (fun _ _ z=>z)
theorem PastH.cells{h:Hp Fm}{pp:Nat}{vs:List AV}{gs:List (List Nat)}{Q:Nat→Prop}{B:Nat}(k:PastH h pp vs gs Q B):∀v∈vs,v.cells=[v]∧v.isCell=true:=fun v hv=>by
 obtain⟨i,hi,rfl⟩:=List.getElem_of_mem hv
 obtain⟨acc,ac,_⟩:=k.el.2 i hi (by rw[←k.el.1];exact hi)
 exact⟨ac.sv.cells,ac.sv.isCell⟩
theorem PastH.up{h:Hp Fm}{pp:Nat}{vs:List AV}{gs:List (List Nat)}{Q:Nat→Prop}{B C:Nat}(k:PastH h pp vs gs Q B)(hb:B≤C):PastH h pp vs gs Q C:=
 ⟨k.ex,⟨k.el.1,fun i hi hg=>by obtain⟨acc,a,b⟩:=k.el.2 i hi hg;exact⟨acc,a,by omega⟩⟩,k.ndg,k.pq,k.lt⟩
structure PL(hz h:Hp Fm)(g pm:Nat)(bs:List Br)(σ:SS)(n pp:Nat)(vs:List AV)(gs:List (List Nat))(Q:Nat→Prop):Prop where
 inv:OInv hz h g pm bs σ n
 past:PastH h pp vs gs Q n
 dq:∀o,Q o→o∉g::objsT σ.xs∧¬σ.D o
 dg:∀q∈gs.flatten,q∉σ.lg++grpsT σ.xs
 len:vs.length≤σ.xs.length
structure FrP(h h':Hp Fm)(g:Nat)(σ σ':SS)(gs gs':List (List Nat))(Q Q':Nat→Prop):Prop where
 hx:HX (fun o=>(o∈g::objsT σ.xs∨σ.D o)∨Q o) (fun q=>q∈σ.lg++grpsT σ.xs∨q∈gs.flatten) h h'
 ob:∀o∈objsT σ'.xs,o∈objsT σ.xs∨h.no≤o
 gr:∀q∈σ'.lg++grpsT σ'.xs,q∈σ.lg++grpsT σ.xs∨h.ng≤q
 dn:∀o,σ'.D o→σ.D o∨h.no≤o
 qn:∀o,Q' o→Q o∨h.no≤o
 gn:∀q∈gs'.flatten,q∈gs.flatten∨h.ng≤q
theorem PL.went{hz h h':Hp Fm}{g pm:Nat}{bs:List Br}{σ σ':SS}{n m pp:Nat}{vs:List AV}{gs:List (List Nat)}{Q:Nat→Prop}(k:PL hz h g pm bs σ n pp vs gs Q)(w:Went hz h h' g pm bs σ m σ')(hl:σ.xs.length≤σ'.xs.length)(hnm:n≤m):PL hz h' g pm bs σ' m pp vs gs Q:=by
 refine⟨w.1,(k.past.of w.2.hx (fun o ho z=>?_) (fun q hq z=>k.dg q hq z)).up hnm,fun o ho=>⟨fun z=>?_,fun z=>?_⟩,fun q hq z=>?_,Nat.le_trans k.len hl⟩
 ·rcases z with z | z
  ·exact(k.dq o ho).1 z
  ·exact(k.dq o ho).2 z
 ·have:=k.past.lt o ho
  rcases List.mem_cons.mp z with y | y
  ·exact(k.dq o ho).1 (by rw[y];simp)
  ·rcases w.2.ob o y with u | u
   ·exact(k.dq o ho).1 (List.mem_cons_of_mem _ u)
   ·omega
 ·have:=k.past.lt o ho
  rcases w.2.dn o z with u | u
  ·exact(k.dq o ho).2 u
  ·omega
 ·obtain⟨G,hG,hq'⟩:=List.mem_flatten.mp hq
  obtain⟨i,hi,rfl⟩:=List.getElem_of_mem hG
  obtain⟨acc,ac,_⟩:=k.past.el.2 i (by rw[k.past.el.1];exact hi) hi
  have:=ac.lt q hq'
  rcases w.2.gr q z with u | u
  ·exact k.dg q hq u
  ·omega
theorem PL.he{hz h h':Hp Fm}{g pm:Nat}{bs:List Br}{σ:SS}{n pp:Nat}{vs:List AV}{gs:List (List Nat)}{Q:Nat→Prop}(k:PL hz h g pm bs σ n pp vs gs Q)(e:HE h h'):PL hz h' g pm bs σ n pp vs gs Q:=
 ⟨k.inv.he e,k.past.he e,k.dq,k.dg,k.len⟩
theorem Sys.polp{hz h:Hp Fm}{D:Nat→Prop}{g pm:Nat}{ep sq:Int}{xs:List Tr}{lv:AV}{lg:List Nat}{bs:List Br}{M:Mem}(k:Sys hz h D g pm ep sq xs lv lg bs M){p:TypeId→Bool}(hp:PolOk p):Sys { hz with pol:=p } { h with pol:=p } D g pm ep sq xs lv lg bs M:=by
 have e:=k.eng
 have m:=k.mem
 refine⟨k.z0,k.zg,⟨e.row,e.ac.of (fun _ _=>rfl) (Nat.le_refl _),fun x hx=>?_,e.nd,e.ndg,e.gn,e.lo,e.log,⟨e.he.no,e.he.ng,rfl,e.he.obj,e.he.len⟩⟩,?_,k.dis,k.ok,k.cnt,k.len,hp,k.tx,k.xl⟩
 ·obtain⟨es,rdv,scv,sls,T⟩:=e.tr x hx
  exact⟨es,rdv,scv,sls,T.row,T.map,T.en,T.born,T.rd.of (fun _ _=>rfl) (Nat.le_refl _),T.sc.of (fun _ _=>rfl) (Nat.le_refl _),T.scr,T.pn,T.mn⟩
 ·obtain⟨pc,pl,pn,po,ns,bv,a,b,c,d,e2,f⟩:=m.ex
  refine⟨⟨pc,pl,pn,po,ns,bv,a,b.of (fun _ _=>rfl) (Nat.le_refl _),?_,d,e2,f⟩,m.ok,m.lt⟩
  rcases c with z | ⟨o,cap,z1,z2,z3⟩
  ·exact .inl z
  ·exact .inr ⟨o,cap,z1,z2,⟨z3.row,z3.cap,z3.on⟩⟩
theorem PL.polp{hz h:Hp Fm}{g pm:Nat}{bs:List Br}{σ:SS}{n pp:Nat}{vs:List AV}{gs:List (List Nat)}{Q:Nat→Prop}(k:PL hz h g pm bs σ n pp vs gs Q){p:TypeId→Bool}(hp:PolOk p):PL { hz with pol:=p } { h with pol:=p } g pm bs σ n pp vs gs Q:=by
 have i:=k.inv
 obtain⟨Lv,a,b,c⟩:=k.past.ex
 refine⟨⟨i.sys.polp hp,i.e1,i.s1,i.tx,i.lock,i.mlow,i.cnt,i.len,i.xl⟩,⟨⟨Lv,a,?_,c⟩,⟨k.past.el.1,fun j hj hg=>?_⟩,k.past.ndg,k.past.pq,k.past.lt⟩,k.dq,k.dg,k.len⟩
 ·rcases b with z | ⟨o,cap,z1,z2,z3⟩
  ·exact .inl z
  ·exact .inr ⟨o,cap,z1,z2,⟨z3.row,z3.cap,z3.on⟩⟩
 ·obtain⟨acc,ac,hl⟩:=k.past.el.2 j hj hg
  exact⟨acc,ac.of (fun _ _=>rfl) (Nat.le_refl _),hl⟩
theorem HX.polp{S G:Nat→Prop}{h h':Hp Fm}{p:TypeId→Bool}(k:HX S G { h with pol:=p } h'):HX S G h { h' with pol:=h.pol }:=⟨k.no,k.ng,rfl,k.obj,k.len⟩
theorem HE.polp{h h':Hp Fm}{p:TypeId→Bool}(k:HE { h with pol:=p } h'):HE h { h' with pol:=h.pol }:=⟨k.no,k.ng,rfl,k.obj,k.len⟩
theorem flatMap_cells:∀{vs:List AV},(∀v∈vs,v.cells=[v])→vs.flatMap AV.cells=vs
 | [],_=>rfl
 | v::vs,h=>by rw[List.flatMap_cons,h v (by simp),flatMap_cells (fun w hw=>h w (by simp[hw]))];rfl
theorem RSat.put1{h:Hp Fm}{vs:List AV}{o cap:Nat}(k:RSat h 1 vs o cap)(hc:∀v∈vs,v.cells=[v]){j:Nat}(hj:j<vs.length) :
  ∃cs,Mp.get h.obj o=some (.row cs)∧partAV false 1 cs j=some vs[j]∧j+1≤cs.length∧∀w:AV,w.cells=[w]→∃J,splice cs j [w]=(vs.set j w).flatMap AV.cells++J∧J.length=(cap-(vs.set j w).length)*1:=by
 obtain⟨J,h1,h2⟩:=k.row
 rw[flatMap_cells hc]at h1
 refine⟨_,h1,?_,by rw[List.length_append];omega,fun w hw=>⟨J,?_,by rw[List.length_set];exact h2⟩⟩
 ·simp only[partAV,Bool.false_eq_true,if_false]
  rw[List.getElem?_append_left hj,List.getElem?_eq_getElem hj]
 ·have hc':∀v∈vs.set j w,v.cells=[v]:=fun v hv=>by
   rcases List.mem_or_eq_of_mem_set hv with z | z
   ·exact hc v z
   ·rw[z];exact hw
  rw[flatMap_cells hc']
  unfold splice
  rw[List.take_append_of_le_length (by omega),List.length_singleton,List.drop_append_of_le_length (by omega),List.set_eq_take_append_cons_drop,if_pos hj]
  simp
end Go.Vn

set_option maxRecDepth 20000
namespace Go.Vn
open Go.Proofs
section
variable {hz h h':Hp Fm} {g pm:Nat} {bs:List Br} {σ:SS} {n:Nat}
theorem OInv.ofX(k:OInv hz h g pm bs σ n){S G:Nat→Prop}(hx:HX S G h h')(hS:∀o,o∈g::objsT σ.xs∨σ.D o→¬S o)(hG:∀q∈σ.lg++grpsT σ.xs,¬G q):OInv hz h' g pm bs σ n:=by
 have s:=k.sys
 exact⟨⟨s.z0,s.zg,s.eng.ofX s.z0 s.zg hx (fun o ho=>hS o (.inl ho)) hG,s.mem.of hx (fun o ho=>hS o (.inr ho)),s.dis,s.ok,s.cnt,s.len,by rw[hx.pol];exact s.pol,s.tx,s.xl⟩,k.e1,k.s1,k.tx,k.lock,k.mlow,k.cnt,k.len,k.xl⟩
end
theorem etDid:ElT Tryz.prog 112 108 11 136 true (.agg [.int .i64 0,.int .i64 0,.int .i64 0,.str [],.str [],.int .i64 0,.int .i64 0,.str [],.str [],.bool false,.nils]):=⟨Tryz.underlying112,z108,b108,a108,t108,rfl,rfl,(fun h=>by cases h),by omega,by omega⟩
theorem etDidL:ElT Tryz.prog 56 112 1 24 false .nils:=⟨Tryz.underlying56,z112,b112,a112,t112,rfl,rfl,fun _=>rfl,by omega,by omega⟩
theorem Quiet.trans{a b c:SS}(h:Quiet a b)(k:Quiet b c):Quiet a c:=
 ⟨k.1.trans h.1,k.2.1.trans h.2.1,k.2.2.1.trans h.2.2.1,k.2.2.2.1.trans h.2.2.2.1,fun i hi hi'=>by
  have hb:i<b.xs.length:=by rw[h.2.2.2.1];exact hi
  have h1:=h.2.2.2.2 i hi hb
  have h2:=k.2.2.2.2 i hb hi'
  exact⟨h2.1.trans h1.1,h2.2.1.trans h1.2.1,fun z=>by have y:=h2.2.2;rw[h.1]at y;exact y (h1.2.2 z)⟩⟩
def PlayE(hz h h':Hp Fm)(g pm:Nat)(bs:List Br)(σ:SS)(n pp:Nat)(vs:List AV)(gs:List (List Nat))(Q:Nat→Prop)(k:Int):Prop:=
 ∃σ' vs' gs' Q',PL hz h' g pm bs σ' (n+1) pp vs' gs' Q'∧FrP h h' g σ σ' gs gs' Q Q'∧Moves σ σ'∧((1≤k∧k≤4)→Quiet σ σ')∧((vs'.length=vs.length∧σ'.xs.length=σ.xs.length)∨(vs'.length=vs.length+1∧σ'.xs.length=σ.xs.length+1))∧σ'.sq≤σ.sq+1
theorem PlayE.went{hz h h':Hp Fm}{g pm:Nat}{bs:List Br}{σ σ':SS}{n pp:Nat}{vs:List AV}{gs:List (List Nat)}{Q:Nat→Prop}{kk:Int}(k:PL hz h g pm bs σ n pp vs gs Q)(w:Went hz h h' g pm bs σ (n+1) σ')(m:Moves σ σ')(hl:σ'.xs.length=σ.xs.length)(hq:(1≤kk∧kk≤4)→Quiet σ σ')(hs:σ'.sq≤σ.sq+1):PlayE hz h h' g pm bs σ n pp vs gs Q kk:=
 ⟨σ',vs,gs,Q,k.went w (by omega) (by omega),⟨⟨w.2.hx.no,w.2.hx.ng,w.2.hx.pol,fun o ho hs=>w.2.hx.obj o ho (fun z=>hs (.inl z)),fun q hq hn=>w.2.hx.len q hq (fun z=>hn (.inl z))⟩,w.2.ob,w.2.gr,w.2.dn,fun _ z=>.inl z,fun _ z=>.inl z⟩,m,hq,.inl ⟨rfl,hl⟩,hs⟩
theorem flatG_set{gs:List (List Nat)}{j:Nat}(hj:j<gs.length)(G:List Nat):∃rest:List Nat,gs.flatten.Perm (gs[j]++rest)∧(gs.set j G).flatten.Perm (G++rest):=by
 have e1:gs=gs.take j++gs[j]::gs.drop (j+1):=by rw[List.getElem_cons_drop,List.take_append_drop]
 have e2:gs.set j G=gs.take j++G::gs.drop (j+1):=by rw[List.set_eq_take_append_cons_drop,if_pos hj]
 have pm:∀X:List Nat,((gs.take j++X::gs.drop (j+1)).flatten).Perm (X++((gs.take j).flatten++(gs.drop (j+1)).flatten)):=fun X=>by
  rw[List.flatten_append,List.flatten_cons,←List.append_assoc,←List.append_assoc]
  exact List.Perm.append_right _ List.perm_append_comm
 refine⟨_,?_,by rw[e2];exact pm G⟩
 have:=pm gs[j]
 rw[←e1]at this
 exact this
set_option maxHeartbeats 2000000 in
/-- What is behind the cases: a deed is put down. -/
theorem play_tail{hz h:Hp Fm}{g pm:Nat}{bs:List Br}{σ:SS}{n pp:Nat}{vs:List AV}{gs:List (List Nat)}{Q:Nat→Prop}(k:PL hz h g pm bs σ n pp vs gs Q)(hp1:h.pol 112=true)(hp2:h.pol 108=false)(j:Nat)(hj:j<vs.length)(hn:n≤1000)(D:List AV)(hD:D.length=11)
  (o cap:Nat) (gp:Mp.get h.obj pp=some (.row [.rs o 0 1 false vs.length cap])) (ra:RSat h 1 vs o cap) (hoQ:Q o) (hop:o≠pp) (g4 o4 c4:Nat) :
  ∃(cs:List AV) (x4:AV) (h4:Hp Fm),Mp.get h.obj o=some (.row cs)∧partAV false 1 cs j=some vs[j]∧j+1≤cs.length∧appendAV Tryz.prog { h with len:=Mp.set h.len h.ng 1,ng:=h.ng+1 } 112 112 vs[j] (.sl g4 o4 11 c4 [.agg D])=some (x4,h4)∧x4.cells=[x4]∧x4.isCell=true∧h4.obj=h.obj∧h4.no=h.no∧h4.pol=h.pol ∧
   (∀h5:Hp Fm,h5.obj=Mp.set h4.obj o (.row (splice cs j [x4]))→h5.no=h4.no→h5.ng=h4.ng→h5.pol=h4.pol→h5.len=h4.len→∃gs',PL hz h5 g pm bs σ (n+1) pp (vs.set j x4) gs' Q∧HX (fun q=>q=o) (fun q=>q∈gs.flatten) h h5∧∀q∈gs'.flatten,q∈gs.flatten∨h.ng≤q):=by
 have cel:=k.past.cells
 obtain⟨cs,c1,c2,c3,c5⟩:=ra.put1 (fun v hv=>(cel v hv).1) hj
 have hjg:j<gs.length:=by rw[←k.past.el.1];exact hj
 obtain⟨acc,ac,hacc⟩:=k.past.el.2 j hj hjg
 have e0:HE h { h with len:=Mp.set h.len h.ng 1,ng:=h.ng+1 }:=(HE.refl h).newSl 1
 obtain⟨x4,h4,ap,G4,ac4,hG4,ho4,hn4,hp4,hg4,hl4⟩:=ACg.app (x:=.agg D) (g':=g4) (o':=o4) (c':=c4) etDid (ac.of (fun q hq=>e0.len q (ac.lt q hq)) e0.ng) hp2 (by omega)
 have ho4':h4.obj=h.obj:=ho4
 have hn4':h4.no=h.no:=hn4
 have hp4':h4.pol=h.pol:=hp4
 have hg4':h.ng≤h4.ng:=Nat.le_trans e0.ng hg4
 have hl4':∀q,q<h.ng→q∉gs[j]→Mp.get h4.len q=Mp.get h.len q:=fun q hq hn=>(hl4 q (Nat.lt_of_lt_of_le hq e0.ng) hn).trans (e0.len q hq)
 have hG4':∀q∈G4,q∈gs[j]∨h.ng≤q:=fun q hq=>by
  rcases hG4 with z | ⟨q1,z,z2⟩
  ·rw[z]at hq;exact .inl hq
  ·rw[z]at hq;rw[List.mem_singleton.mp hq];exact .inr (Nat.le_trans e0.ng z2)
 have G4n:G4.Nodup∨G4=gs[j]:=by
  rcases hG4 with z | ⟨q1,z,_⟩
  ·exact .inr z
  ·rw[z];exact .inl (by simp)
 refine⟨cs,x4,h4,c1,c2,c3,ap,ac4.sv.cells,ac4.sv.isCell,ho4',hn4',hp4',fun h5 f1 f2 f3 f4 f5=>?_⟩
 obtain⟨rest,pm1,pm2⟩:=flatG_set hjg G4
 have glt:∀q∈gs.flatten,q<h.ng:=fun q hq=>by
  obtain⟨G,hG,hq'⟩:=List.mem_flatten.mp hq
  obtain⟨i,hi,rfl⟩:=List.getElem_of_mem hG
  obtain⟨_,a,_⟩:=k.past.el.2 i (by rw[k.past.el.1];exact hi) hi
  exact a.lt q hq'
 have gsub:∀q∈(gs.set j G4).flatten,q∈gs.flatten∨h.ng≤q:=fun q hq=>by
  rcases List.mem_append.mp (pm2.mem_iff.mp hq)with z | z
  ·exact(hG4' q z).imp (fun y=>pm1.mem_iff.mpr (List.mem_append_left _ y)) (fun y=>y)
  ·exact .inl (pm1.mem_iff.mpr (List.mem_append_right _ z))
 have hx:HX (fun q=>q=o) (fun q=>q∈gs.flatten) h h5:=by
  refine⟨by omega,by omega,f4.trans hp4',fun q hq hs=>?_,fun q hq hn=>?_⟩
  ·rw[f1,Mp.get_set,if_neg hs,ho4']
  ·rw[f5];exact hl4' q hq (fun z=>hn (List.mem_flatten.mpr ⟨_,List.getElem_mem hjg,z⟩))
 have nd1:=pm1.nodup_iff.mp k.past.ndg
 have elt:∀q∈σ.lg++grpsT σ.xs,q<h.ng:=fun q hq=>by
  rcases List.mem_append.mp hq with z | z
  ·exact k.inv.sys.eng.ac.lt q z
  ·obtain⟨y,hy,hy2⟩:=List.mem_flatMap.mp z
   exact(k.inv.sys.eng.tr y hy).glt q hy2
 refine⟨gs.set j G4,⟨(k.inv.ofX hx (fun q hq z=>?_) (fun q hq z=>k.dg q z hq)).up (by omega),⟨⟨.rs o 0 1 false vs.length cap,?_,?_,?_⟩,⟨by rw[List.length_set,List.length_set];exact k.past.el.1,fun i hi hg=>?_⟩,?_,k.past.pq,fun q hq=>Nat.lt_of_lt_of_le (k.past.lt q hq) hx.no⟩,k.dq,fun q hq z=>?_,by rw[List.length_set];exact k.len⟩,hx,gsub⟩
 ·rw[z]at hq
  rcases hq with y | y
  ·exact(k.dq o hoQ).1 y
  ·exact(k.dq o hoQ).2 y
 ·rw[f1,Mp.get_set,if_neg (fun z=>hop z.symm),ho4'];exact gp
 ·obtain⟨J,e1,e2⟩:=c5 x4 ac4.sv.cells
  refine .inr ⟨o,cap,by rw[List.length_set],Nat.zero_le _,⟨J,?_,e2⟩,by rw[List.length_set];exact ra.cap,by have:=ra.on;omega⟩
  rw[f1,Mp.get_set,if_pos rfl,e1]
 ·rintro q ⟨_,_,_,_,_,e⟩
  injection e with e
  exact⟨by rw[←e];exact hoQ,by rw[←e];exact hop⟩
 ·have hi':i<vs.length:=by simpa using hi
  have hg':i<gs.length:=by simpa using hg
  by_cases q:j=i
  ·subst q
   refine⟨acc++[AV.agg D],?_,by rw[List.length_append,List.length_singleton];omega⟩
   rw[List.getElem_set_self,List.getElem_set_self]
   exact ac4.of (fun q _=>by rw[f5]) (by omega)
  ·obtain⟨acc2,a2,b2⟩:=k.past.el.2 i hi' hg'
   refine⟨acc2,?_,by omega⟩
   rw[List.getElem_set_ne q,List.getElem_set_ne q]
   refine a2.of (fun q2 hq2=>?_) (by omega)
   rw[f5]
   refine hl4' q2 (a2.lt q2 hq2) (fun z=>?_)
   have:=List.pairwise_flatten.mp k.past.ndg
   have dis:=List.pairwise_iff_getElem.mp this.2
   rcases Nat.lt_or_gt_of_ne q with y | y
   ·exact dis j i hjg hg' y q2 z q2 hq2 rfl
   ·exact dis i j hg' hjg y q2 hq2 q2 z rfl
 ·refine pm2.nodup_iff.mpr (List.nodup_append.mpr ⟨?_,(List.nodup_append.mp nd1).2.1,fun a ha b hb e=>?_⟩)
  ·rcases G4n with z | z
   ·exact z
   ·rw[z];exact(List.nodup_append.mp nd1).1
  ·subst e
   rcases hG4' a ha with z | z
   ·exact(List.nodup_append.mp nd1).2.2 a z a hb rfl
   ·have:=glt a (pm1.mem_iff.mpr (List.mem_append_right _ hb));omega
 ·rcases gsub q hq with y | y
  ·exact k.dg q y z
  ·have:=elt q z;omega
theorem FrP.trans{h0 h1 h2:Hp Fm}{g:Nat}{σ σ1 σ2:SS}{gs gs1 gs2:List (List Nat)}{Q Q1 Q2:Nat→Prop}(a:FrP h0 h1 g σ σ1 gs gs1 Q Q1)(b:FrP h1 h2 g σ1 σ2 gs1 gs2 Q1 Q2):FrP h0 h2 g σ σ2 gs gs2 Q Q2:=by
 have n1:=a.hx.no
 have g1:=a.hx.ng
 refine⟨⟨Nat.le_trans n1 b.hx.no,Nat.le_trans g1 b.hx.ng,b.hx.pol.trans a.hx.pol,fun o ho hs=>?_,fun q hq hn=>?_⟩,fun o ho=>?_,fun q hq=>?_,fun o ho=>?_,fun o ho=>?_,fun q hq=>?_⟩
 ·refine(b.hx.obj o (by omega) (fun z=>?_)).trans (a.hx.obj o ho hs)
  rcases z with (z | z) | z
  ·rcases List.mem_cons.mp z with y | y
   ·exact hs (.inl (.inl (by rw[y];simp)))
   ·rcases a.ob o y with u | u
    ·exact hs (.inl (.inl (List.mem_cons_of_mem _ u)))
    ·omega
  ·rcases a.dn o z with u | u
   ·exact hs (.inl (.inr u))
   ·omega
  ·rcases a.qn o z with u | u
   ·exact hs (.inr u)
   ·omega
 ·refine(b.hx.len q (by omega) (fun z=>?_)).trans (a.hx.len q hq hn)
  rcases z with z | z
  ·rcases a.gr q z with u | u
   ·exact hn (.inl u)
   ·omega
  ·rcases a.gn q z with u | u
   ·exact hn (.inr u)
   ·omega
 ·rcases b.ob o ho with z | z
  ·exact a.ob o z
  ·exact .inr (by omega)
 ·rcases b.gr q hq with z | z
  ·exact a.gr q z
  ·exact .inr (by omega)
 ·rcases b.dn o ho with z | z
  ·exact a.dn o z
  ·exact .inr (by omega)
 ·rcases b.qn o ho with z | z
  ·exact a.qn o z
  ·exact .inr (by omega)
 ·rcases b.gn q hq with z | z
  ·exact a.gn q z
  ·exact .inr (by omega)
theorem Went.frP{hz h h':Hp Fm}{g pm:Nat}{bs:List Br}{σ σ':SS}{m:Nat}(w:Went hz h h' g pm bs σ m σ')(gs:List (List Nat))(Q:Nat→Prop):FrP h h' g σ σ' gs gs Q Q:=
 ⟨⟨w.2.hx.no,w.2.hx.ng,w.2.hx.pol,fun o ho hs=>w.2.hx.obj o ho (fun z=>hs (.inl z)),fun q hq hn=>w.2.hx.len q hq (fun z=>hn (.inl z))⟩,w.2.ob,w.2.gr,w.2.dn,fun _ z=>.inl z,fun _ z=>.inl z⟩
theorem push_nil{hz h h':Hp Fm}{g pm:Nat}{bs:List Br}{σ:SS}{n pp:Nat}{vs:List AV}{gs:List (List Nat)}{Q:Nat→Prop}(k:PL hz h g pm bs σ n pp vs gs Q)(hl:vs.length+1≤σ.xs.length){Lv u:AV}(hr:∀q,isRow Lv q→Q q∧q≠pp)
  (hx:HX (fun o=>o=pp∨isRow Lv o) (fun _=>False) h h') (gp:Mp.get h'.obj pp=some (.row [u])) (rs:RS 0 h' 1 false (vs++[.nils]) u) (hu:∀q,isRow u q→isRow Lv q∨h.no≤q) (hul:∀q,isRow u q→q<h'.no) :
  ∃Q',PL hz h' g pm bs σ n pp (vs++[.nils]) (gs++[[]]) Q'∧FrP h h' g σ σ gs (gs++[[]]) Q Q':=by
 have efl:(gs++[[]]).flatten=gs.flatten:=by rw[List.flatten_append];simp
 have hS:∀o,(o=pp∨isRow Lv o)→Q o:=fun o ho=>by
  rcases ho with z | z
  ·rw[z];exact k.past.pq
  ·exact(hr o z).1
 have hD:∀o,Q o→¬(o∈g::objsT σ.xs∨σ.D o):=fun o ho z=>z.elim (k.dq o ho).1 (k.dq o ho).2
 refine⟨fun o=>Q o∨(h.no≤o∧o<h'.no),⟨k.inv.ofX hx (fun o ho z=>hD o (hS o z) ho) (fun _ _ z=>z),⟨⟨u,gp,rs,fun q hq=>?_⟩,⟨by rw[List.length_append,List.length_append];simp[k.past.el.1],fun i hi hg=>?_⟩,by rw[efl];exact k.past.ndg,.inl k.past.pq,fun o ho=>?_⟩,fun o ho=>?_,by rw[efl];exact k.dg,by rw[List.length_append,List.length_singleton];exact hl⟩,⟨hx.mono (fun o _ z=>.inr (hS o z)) (fun _ _ z=>z.elim),fun _ z=>.inl z,fun _ z=>.inl z,fun _ z=>.inl z,fun o ho=>ho.imp (fun z=>z) (fun z=>z.1),fun q hq=>.inl (by rw[efl]at hq;exact hq)⟩⟩
 ·rcases hu q hq with z | z
  ·exact⟨.inl (hr q z).1,(hr q z).2⟩
  ·exact⟨.inr ⟨z,hul q hq⟩,fun y=>by have:=k.past.lt _ k.past.pq;omega⟩
 ·by_cases q:i<vs.length
  ·obtain⟨acc,a,b⟩:=k.past.el.2 i q (by rw[←k.past.el.1];exact q)
   refine⟨acc,?_,b⟩
   rw[List.getElem_append_left q,List.getElem_append_left (by rw[←k.past.el.1];exact q)]
   exact a.of (fun q hq=>hx.len q (a.lt q hq) (fun z=>z)) hx.ng
  ·have e1:i=vs.length:=by rw[List.length_append,List.length_singleton]at hi;omega
   refine⟨[],?_,Nat.zero_le _⟩
   rw[List.getElem_append_right (by omega),List.getElem_append_right (by rw[←k.past.el.1];omega)]
   have e2:=k.past.el.1
   simp only[List.getElem_singleton]
   exact .inl ⟨rfl,rfl,rfl⟩
 ·rcases ho with z | z
  ·exact Nat.lt_of_lt_of_le (k.past.lt o z) hx.no
  ·exact z.2
 ·rcases ho with z | ⟨z,_⟩
  ·exact k.dq o z
  ·refine⟨fun y=>?_,fun y=>by have:=k.inv.sys.mem.lt o y;omega⟩
   rcases List.mem_cons.mp y with y | y
   ·have:=k.inv.sys.eng.gn;omega
   ·obtain⟨y1,hy1,hy2⟩:=List.mem_flatMap.mp y
    obtain⟨_,_,_,_,Ty⟩:=k.inv.sys.eng.tr y1 hy1
    have:=Ty.pn
    have:=Ty.mn
    simp only[List.mem_cons,List.not_mem_nil,or_false]at hy2
    rcases hy2 with hy2 | hy2 <;> omega
end Go.Vn

set_option maxRecDepth 20000
namespace Go.Vn
open Go.Proofs
theorem StepR.len{σ σ':SS}{i st e:Int}(h:StepR σ σ' i st e):σ'.xs.length=σ.xs.length:=by
 rcases h with⟨_,rfl,_⟩ | ⟨j,hj,_,h⟩
 ·rfl
 ·rcases h with⟨_,rfl,_⟩ | ⟨_,_,_,_,rfl⟩ | ⟨_,_,_,_,rfl⟩ | ⟨_,_,_,_,rfl⟩ | ⟨_,_,rfl⟩ | ⟨_,_,_,_,_,rfl⟩ | ⟨_,_,_,D',M',rfl⟩
  all_goals first | rfl | exact List.length_set
theorem AbortR.len{σ σ':SS}{i e:Int}(h:AbortR σ σ' i e):σ'.xs.length=σ.xs.length:=by
 rcases h with⟨_,rfl,_⟩ | ⟨j,hj,_,_,⟨_,rfl,_⟩ | ⟨_,_,rfl⟩⟩
 all_goals first | rfl | exact List.length_set
theorem StepR.sq{σ σ':SS}{i st e:Int}(h:StepR σ σ' i st e):σ'.sq≤σ.sq+1:=by
 rcases h with⟨_,rfl,_⟩ | ⟨j,hj,_,h⟩
 ·omega
 ·rcases h with⟨_,rfl,_⟩ | ⟨_,_,_,_,rfl⟩ | ⟨_,_,_,_,rfl⟩ | ⟨_,_,_,_,rfl⟩ | ⟨_,_,rfl⟩ | ⟨_,_,_,_,_,rfl⟩ | ⟨_,_,_,D',M',rfl⟩
  all_goals first | exact Int.le_refl _ | (show σ.sq≤σ.sq+1;omega) | omega
theorem AbortR.sq{σ σ':SS}{i e:Int}(h:AbortR σ σ' i e):σ'.sq=σ.sq:=by
 rcases h with⟨_,rfl,_⟩ | ⟨j,hj,_,_,⟨_,rfl,_⟩ | ⟨_,_,rfl⟩⟩
 all_goals rfl
theorem Quiet.sqle{σ σ':SS}(h:Quiet σ σ'):σ'.sq≤σ.sq+1:=by have:=h.2.2.1;omega
theorem polDid:PolOk (· == 112):=⟨rfl,rfl,rfl,rfl,rfl,rfl,rfl,rfl⟩
theorem vNx4{F G K:Prop}(f:F)(k:K)(h:F→K→G:=by intro f k;(repeat(first|with_reducible first|refine vmR ?_|refine vmV rfl ?_|refine vmW rfl ?_|refine vmL ?_|refine blockW_y (by decide) ?_|((with_reducible first|apply vmO|apply vmT|apply vmC);case a=>simp[f,splice];with_reducible first|exact .v|exact .c|exact .t|exact .f)));exact k):G:=h f k
theorem vNx5{F G K:Prop}(f:F)(k:K)(h:F→K→G:=by intro f k;(repeat(first|with_reducible first|refine vmR ?_|refine vmV rfl ?_|refine vmW rfl ?_|refine vmL ?_|refine blockW_y (by decide) ?_|((with_reducible first|apply vmO|apply vmT|apply vmC);case a=>simp[f,newRs,newSeq];with_reducible first|exact .v|exact .c|exact .t|exact .f)));exact k):G:=h f k
theorem vNx6{F G K:Prop}(f:F)(k:K)(h:F→K→G:=by intro f k;(repeat(first|with_reducible first|refine vmR ?_|refine vmV rfl ?_|refine vmW rfl ?_|refine vmL ?_|refine blockW_y (by decide) ?_|((with_reducible first|apply vmO|apply vmT|apply vmC);case a=>simp[f,buildSliceAV,newSeq,newSl];with_reducible first|exact .v|exact .c|exact .t|exact .f)));exact k):G:=h f k
set_option maxHeartbeats 4000000 in
theorem play_ans{hz h:Hp Fm}{g pm:Nat}{bs:List Br}{σ:SS}{n pp:Nat}{vs:List AV}{gs:List (List Nat)}{Q:Nat→Prop}(k:PL hz h g pm bs σ n pp vs gs Q)(hn:n≤270)(c:Cl)(hc:ClR c) :
  A Tryz.prog TT (.func 21) [.ptr pp 0,.ptr g 0,encC c] h (fun _ h'=>PlayE hz h h' g pm bs σ n pp vs gs Q c.k):=by
 obtain⟨hzb,hhzb⟩:∃hzb:Hp Fm,hzb={ hz with pol:=(· == 112) }:=⟨_,rfl⟩
 obtain⟨hb,hhb⟩:∃hb:Hp Fm,hb={ h with pol:=(· == 112) }:=⟨_,rfl⟩
 have kb:PL hzb hb g pm bs σ n pp vs gs Q:=by rw[hhzb,hhb];exact k.polp polDid
 have hbp:hb.pol=(· == 112):=by rw[hhb]
 obtain⟨c1,c2,c3,c4,c5⟩:=hc
 have vlen:vs.length≤1000:=Nat.le_trans k.len (Nat.le_trans k.inv.xl (by omega))
 have out:∀h',PlayE hzb hb h' g pm bs σ n pp vs gs Q c.k→PlayE hz h { h' with pol:=h.pol } g pm bs σ n pp vs gs Q c.k:=by
  rintro h' ⟨σ',vs',gs',Q',a,b,m,q,l⟩
  have hzp:({ hzb with pol:=h.pol }:Hp Fm)=hz:=by
   rw[hhzb]
   have:=k.inv.sys.eng.he.pol
   rw[this]
  have a':=a.polp (p:=h.pol) k.inv.sys.pol
  rw[hzp]at a'
  rw[hhb]at b
  exact⟨σ',vs',gs',Q',a',⟨b.hx.polp,b.ob,b.gr,b.dn,b.qn,b.gn⟩,m,q,l⟩
 apply A_goT Tryz.func21 rfl (by rfl);(case hn=>(simp[Tryz.ntmps21];rfl))
 refine vZ ?_
 refine A_heap ?_
 intro hA hhA
 have eA:HE hb hA:=by rw[hhA,hhb];exact(HE.refl _).new _
 have g5:Mp.get hA.obj h.no=some (.row [.int .i64 c.k,.int .i64 c.id,.int .i64 c.t,.str c.key,.str c.to,.int .i64 c.f,.int .i64 c.u,.str c.v]):=by rw[hhA];simp
 have n5:h.no<hA.no:=by rw[hhA];exact Nat.lt_succ_self _
 clear hhA
 have nA:h.no=hb.no:=by rw[hhb]
 refine A.mono (okey18_ans c.key hA) ?_
 rintro _ hB ⟨rfl,eB⟩
 have g5B:=(eB.obj _ n5).trans g5
 have n5B:h.no<hB.no:=Nat.lt_of_lt_of_le n5 eB.no
 obtain⟨ky,hky⟩:∃ky,ky=keyS c.key:=⟨_,rfl⟩
 have kyl:ky.length≤100000:=by rw[hky];exact keyS_len _
 rw[←hky]
 refine vP ?_
 refine vF g5B ?_
 obtain⟨w,hw⟩:∃w,w=c.v.take 210:=⟨_,rfl⟩
 have wl:w.length≤99999:=by rw[hw,List.length_take];omega
 refine W.mono (R:=fun e s=>e=.normal∧∃t:Fm AV,s=⟨t,145,hB,none⟩∧tget t 0=.ptr pp 0∧tget t 1=.ptr g 0∧tget t 5=.ptr h.no 0∧tget t 6=.str ky∧tget t 7=.str w) ?_ ?_
 ·by_cases q:210<c.v.length
  ·have q':(210:Int)<c.v.length:=by omega
   have sl:=sl_hi c.v 210 (by omega)
   have e210:((210:Nat):Int)=210:=rfl
   rw[e210,←hw]at sl
   refine vF (cJ q (cJ q' sl)) ?_
   exact⟨rfl,_,rfl,by simp,by simp,by simp,by simp,by simp⟩
  ·have q':¬(210:Int)<c.v.length:=by omega
   have:w=c.v:=by rw[hw];exact List.take_of_length_le (by omega)
   rw[this]
   refine vF (cJ q q') ?_
   exact⟨rfl,_,rfl,by simp,by simp,by simp,by simp,by simp⟩
 rintro e s ⟨rfl,t,rfl,t0,t1,t5,t6,t7⟩
 have z5:h.no≠hB.no:=by omega
 refine vNx4 (cJ t5 (cJ g5B z5)) ?_
 refine W_heap ?_
 intro hC hhC
 have eC:HE hB hC:=by rw[hhC];exact((HE.refl hB).new _).set (Nat.le_refl _) _
 have g8:Mp.get hC.obj hB.no=some (.row [.int .i64 c.k,.int .i64 c.id,.int .i64 c.t,.str c.key,.str c.to,.int .i64 c.f,.int .i64 c.u,.str c.v,.str [],.bool false,.nils]):=by rw[hhC];simp
 have n8:hB.no<hC.no:=by rw[hhC];exact Nat.lt_succ_self _
 clear hhC
 have g5C:=(eC.obj _ n5B).trans g5B
 have n5C:h.no<hC.no:=Nat.lt_of_lt_of_le n5B eC.no
 have ebC:HE hb hC:=eA.trans (eB.trans eC)
 have kC:=kb.he ebC
 have hpC:hC.pol=(· == 112):=by rw[ebC.pol];exact hbp
 have pre:∀h',PlayE hzb hC h' g pm bs σ n pp vs gs Q c.k→PlayE hzb hb h' g pm bs σ n pp vs gs Q c.k:=by
  rintro h' ⟨σ',vs',gs',Q',a,b,m,q,l⟩
  exact⟨σ',vs',gs',Q',a,⟨⟨Nat.le_trans ebC.no b.hx.no,Nat.le_trans ebC.ng b.hx.ng,b.hx.pol.trans ebC.pol,fun o ho hs=>(b.hx.obj o (Nat.lt_of_lt_of_le ho ebC.no) hs).trans (ebC.obj o ho),fun q hq hn=>(b.hx.len q (Nat.lt_of_lt_of_le hq ebC.ng) hn).trans (ebC.len q hq)⟩,fun o ho=>(b.ob o ho).imp (fun z=>z) (fun z=>Nat.le_trans ebC.no z),fun q hq=>(b.gr q hq).imp (fun z=>z) (fun z=>Nat.le_trans ebC.ng z),fun o ho=>(b.dn o ho).imp (fun z=>z) (fun z=>Nat.le_trans ebC.no z),fun o ho=>(b.qn o ho).imp (fun z=>z) (fun z=>Nat.le_trans ebC.no z),fun q hq=>(b.gn q hq).imp (fun z=>z) (fun z=>Nat.le_trans ebC.ng z)⟩,m,q,l⟩
 have oQ:∀o,hb.no≤o→o<hC.no→(∀(S:Nat→Prop),True):=fun _ _ _ _=>trivial
 have own:∀o,hb.no≤o→o∉g::objsT σ.xs∧¬σ.D o:=fun o ho=>by
  refine⟨fun z=>?_,fun z=>by have:=kb.inv.sys.mem.lt o z;omega⟩
  rcases List.mem_cons.mp z with y | y
  ·have:=kb.inv.sys.eng.gn;omega
  ·obtain⟨y1,hy1,hy2⟩:=List.mem_flatMap.mp y
   obtain⟨_,_,_,_,Ty⟩:=kb.inv.sys.eng.tr y1 hy1
   have:=Ty.pn
   have:=Ty.mn
   simp only[List.mem_cons,List.not_mem_nil,or_false]at hy2
   rcases hy2 with hy2 | hy2 <;> omega
 have stay:∀{h':Hp Fm} {m:Nat} {σ':SS} (w:Went hzb hC h' g pm bs σ m σ') (o:Nat),hb.no≤o→o<hC.no→Mp.get h'.obj o=Mp.get hC.obj o:=fun w o h1 h2=>w.2.hx.obj o h2 (fun z=>z.elim (own o h1).1 (own o h1).2)
 have nb8:hb.no≤hB.no:=Nat.le_trans eA.no eB.no
 refine W.mono (R:=fun e s=>(e=.ret∧PlayE hzb hC s.h g pm bs σ n pp vs gs Q c.k)∨(e=.normal∧1≤c.k∧c.k≤4∧∃(t:Fm AV) (hh:Hp Fm) (σ':SS) (e2:Int) (dv:List UInt8) (db:Bool) (dl:AV),s=⟨t,145,hh,none⟩∧tget t 0=.ptr pp 0∧tget t 5=.ptr h.no 0∧tget t 8=.ptr hB.no 0∧tget t 9=.int .i64 e2∧dl.cells=[dl]∧dl.isCell=true ∧
  Mp.get hh.obj h.no=some (.row [.int .i64 c.k,.int .i64 c.id,.int .i64 c.t,.str c.key,.str c.to,.int .i64 c.f,.int .i64 c.u,.str c.v])∧Mp.get hh.obj hB.no=some (.row [.int .i64 c.k,.int .i64 c.id,.int .i64 c.t,.str c.key,.str c.to,.int .i64 c.f,.int .i64 c.u,.str c.v,.str dv,.bool db,dl]) ∧
  h.no<hh.no∧hB.no<hh.no∧(∃h1,Went hzb hC h1 g pm bs σ n σ'∧HX (fun o=>o=hB.no) (fun _=>False) h1 hh)∧Quiet σ σ')) ?_ ?_
 ·have mono1:∀{h':Hp Fm} {σ':SS},Went hzb hC h' g pm bs σ n σ'→Went hzb hC h' g pm bs σ (n+1) σ':=fun w=>⟨w.1.up (by omega),w.2⟩
  by_cases q0:c.k=0
  ·refine vF (cJ t1 q0) ?_
   refine A.mono (begin_i kC.inv hn) ?_
   rintro _ h1 ⟨id,e,σ',rfl,w,mv,hres⟩
   refine vP ?_
   rcases hres with⟨rfl,q6,eσ⟩ | ⟨rfl,rfl,q6,eM,eE,eS,p,m,exs⟩
   ·refine vZ ?_
    exact .inl ⟨rfl,PlayE.went kC w mv (by rw[eσ]) (fun z=>absurd z (by omega)) (by rw[eσ];omega)⟩
   ·have kD:=kC.went w (by rw[exs,List.length_append];omega) (by omega)
    obtain⟨Lv,gp,rs,rq⟩:=kD.past.ex
    have Lc:=rs.cells
    have Li:=rs.isCell
    have hp1:h1.pol 112=true:=by rw[w.2.hx.pol,hpC];rfl
    have ppn:=kD.past.lt _ kD.past.pq
    have zp:pp≠h1.no:=by omega
    refine vNx5 (cJ t0 (cJ gp (cJ Lc (cJ Li hp1)))) ?_
    refine WO_heap ?_
    intro hE hhE
    have eE:HE h1 hE:=by rw[hhE];exact(HE.refl h1).new _
    have nE:newEls hE 1 false (.rs h1.no 0 1 false 1 1)=some [.nils]:=by
     simp[newEls,rsEls,hhE,chunkAV]
    have hp2:hE.pol 112=true:=by rw[eE.pol];exact hp1
    clear hhE
    have rsE:=RS.he rs eE
    have fitv:∀x∈vs,Fit false 1 x:=fun x hx=>by
     obtain⟨a,b⟩:=kD.past.cells x hx
     exact .inr ⟨rfl,rfl,b,a⟩
    with_reducible apply WO_app_i;(case hw=>(simp[t0,gp,Lc,Li];done));(case ho=>rfl);(case hb=>rfl);(case ha=>(simp[t0,gp,Lc,Li];first | done | exact⟨rfl,rfl⟩ | rfl));(case h1=>(simp;first | done | rfl));(case h2=>(simp;first | done | rfl))
    refine app_then (RS.appN (lo:=0) etDidL rsE (Nat.zero_le _) hp2 nE fitv (fun x hx=>by rw[List.mem_singleton.mp hx];exact .inr ⟨rfl,rfl,rfl,rfl⟩) (by simp;omega)) ?_
    rintro u h2 ⟨r2,x2,p2,q2⟩
    replace x2:HX (isRow Lv) (fun _=>False) hE h2:=x2
    replace p2:h2.pol=hE.pol:=p2
    replace q2:∀q,isRow u q→isRow Lv q∨hE.no≤q:=q2
    have uc:=r2.cells
    have ui:=r2.isCell
    have gp2:=(x2.obj pp (Nat.lt_of_lt_of_le ppn eE.no) (fun z=>(rq pp z).2 rfl)).trans ((eE.obj pp ppn).trans gp)
    refine vP ?_
    refine vNx4 (cJ t0 (cJ gp2 (cJ uc ui))) ?_
    have ppu:∀q,isRow u q→q≠pp:=fun q hq z=>by
     rcases q2 q hq with y | y
     ·exact(rq q y).2 z
     ·have:=eE.no;omega
    have hxF:HX (fun o=>o=pp∨isRow Lv o) (fun _=>False) h1 { h2 with obj:=Mp.set h2.obj pp (.row [u]) }:=by
     have:=eE.no
     have:=eE.ng
     refine⟨Nat.le_trans eE.no x2.no,Nat.le_trans eE.ng x2.ng,p2.trans eE.pol,fun o ho hs=>?_,fun q hq _=>?_⟩
     ·show Mp.get (Mp.set h2.obj pp _) o=_
      rw[Mp.get_set,if_neg (fun z=>hs (.inl z))]
      exact(x2.obj o (by omega) (fun z=>hs (.inr z))).trans (eE.obj o ho)
     ·exact(x2.len q (by omega) (fun z=>z)).trans (eE.len q hq)
    have rsF:RS 0 { h2 with obj:=Mp.set h2.obj pp (.row [u]) } 1 false (vs++[.nils]) u:=RS.of r2 (HX.set1 (h':=h2) (S:=fun o=>o=pp) rfl) (fun q hq z=>ppu q hq z)
    have ult:∀q,isRow u q→q<h2.no:=fun q hq=>by
     rcases r2 with⟨z,_⟩ | ⟨o,cap,z,_,ra⟩
     ·rw[z]at hq;obtain⟨_,_,_,_,_,e⟩:=hq;cases e
     ·rw[z]at hq
      obtain⟨_,_,_,_,_,e⟩:=hq
      injection e with e
      rw[←e];exact ra.on
    obtain⟨Q',kF,fF⟩:=push_nil kD (by rw[exs,List.length_append,List.length_singleton];have:=kC.len;omega) rq hxF (by simp) rsF (fun q hq=>(q2 q hq).imp (fun z=>z) (fun z=>Nat.le_trans eE.no z)) ult
    refine .inl ⟨rfl,σ',_,_,Q',kF,(w.frP gs Q).trans fF,mv,fun z=>absurd z (by omega),.inr ⟨by simp,by rw[exs];simp⟩,by rw[eS];omega⟩
  by_cases q1:c.k=1
  ·have i1:=get_i kC.inv c.id c2 ky kyl c.t
   refine vF (cJ t1 (cJ t5 (cJ t6 (cJ g5C (cJ q0 q1))))) ?_
   refine A.mono i1 ?_
   rintro _ h1 ⟨sv,bv,e,σ',rfl,w,qt⟩
   have r8:=(stay w hB.no nb8 n8).trans g8
   have r5:=(stay w h.no (by omega) n5C).trans g5C
   have n1:=w.2.hx.no
   refine vP ?_
   refine vNx4 r8 ?_
   refine .inr ⟨rfl,by omega,by omega,_,_,σ',e,sv,bv,.nils,rfl,by simp[t0],by simp[t5],by simp,by simp,rfl,rfl,?_,?_,?_,?_,⟨h1,w,(HX.set1 (h':=h1) (S:=fun o=>o=hB.no) rfl).set (fun _=>rfl) _⟩,qt⟩
   ·simp[z5];exact r5
   ·simp
   ·show h.no<h1.no;omega
   ·show hB.no<h1.no;omega
  by_cases q2:c.k=2
  ·have z85:hB.no≠h.no:=fun z=>z5 z.symm
   refine vF (cJ t1 (cJ t5 (cJ t6 (cJ g5C (cJ q0 (cJ q1 q2)))))) ?_
   (with_reducible refine W_draw_id (pln:=true) [0,1,2,3,4,5,6,7,8,9,10,11,12,13,14,15] [(2,(2,[7])),(5,(5,[])),(8,(8,[0]))] (by kernel_rfl) rfl ?_)
   refine vF (cJ t1 (cJ t5 (cJ t6 g5C))) ?_
   refine A.mono (okey18_ans c.to hC.drew) ?_
   rintro _ h1 ⟨rfl,e1⟩
   have e1':HE hC h1:=((HE.refl hC).drew).trans e1
   have g51:=(e1'.obj _ n5C).trans g5C
   have g81:=(e1'.obj _ n8).trans g8
   obtain⟨kt,hkt⟩:∃kt,kt=keyS c.to:=⟨_,rfl⟩
   rw[←hkt]
   refine vP ?_
   have i1:=scan_i (kC.inv.he e1') (by omega) c.id c2 ky kt c.t
   refine vF (cJ t1 (cJ t5 (cJ t6 (cJ g5C g51)))) ?_
   refine A.mono i1 ?_
   rintro _ h2 ⟨pv,l,e,σ',rfl,sv,w1,qt⟩
   have w:=Went.pre e1' w1
   have pc:=sv.cells
   have pi:=sv.isCell
   have r8:=(stay w hB.no nb8 n8).trans g8
   have r5:=(stay w h.no (by omega) n5C).trans g5C
   have n1:=w.2.hx.no
   refine vP ?_
   refine vNx4 (cJ t1 (cJ t5 (cJ t6 (cJ g5C (cJ g51 (cJ r5 (cJ r8 (cJ pc pi)))))))) ?_
   refine⟨by simp[readSame,beqAV_self,t1,t5,t6,g5C,g51,r5,r8,pc,pi,z5,z85];done,_,by simp;first | done | rfl,?_⟩
   refine vZ ?_
   refine .inr ⟨rfl,by omega,by omega,_,_,σ',e,[],false,pv,rfl,by simp[t0],by simp[t5],by simp,by simp,pc,pi,?_,?_,?_,?_,⟨h2,w,?_⟩,qt⟩
   ·simp[z5,Hp.drew];exact r5
   ·simp[Hp.drew]
   ·show h.no<h2.no;omega
   ·show hB.no<h2.no;omega
   ·exact⟨Nat.le_refl _,Nat.le_refl _,rfl,fun o ho hs=>by simp[show o≠hB.no from hs,Hp.drew],fun q hq _=>rfl⟩
  by_cases q3:c.k=3
  ·have i1:=put_i kC.inv c.id c2 ky kyl c.f c.u w wl
   refine vF (cJ t1 (cJ t5 (cJ t6 (cJ t7 (cJ g5C (cJ q0 (cJ q1 (cJ q2 q3)))))))) ?_
   refine A.mono i1 ?_
   rintro _ h1 ⟨e,σ',rfl,w1,qt⟩
   have r8:=(stay w1 hB.no nb8 n8).trans g8
   have r5:=(stay w1 h.no (by omega) n5C).trans g5C
   have n1:=w1.2.hx.no
   refine vP ?_
   refine vZ ?_
   exact .inr ⟨rfl,by omega,by omega,_,_,σ',e,[],false,.nils,rfl,by simp[t0],by simp[t5],by simp,by simp,rfl,rfl,r5,r8,by omega,by omega,⟨h1,w1,HX.refl _ _ h1⟩,qt⟩
  by_cases q4:c.k=4
  ·have i1:=gone_i kC.inv c.id c2 ky kyl c.f c.u
   refine vF (cJ t1 (cJ t5 (cJ t6 (cJ t7 (cJ g5C (cJ q0 (cJ q1 (cJ q2 (cJ q3 q4))))))))) ?_
   refine A.mono i1 ?_
   rintro _ h1 ⟨e,σ',rfl,w1,qt⟩
   have r8:=(stay w1 hB.no nb8 n8).trans g8
   have r5:=(stay w1 h.no (by omega) n5C).trans g5C
   have n1:=w1.2.hx.no
   refine vP ?_
   refine vZ ?_
   exact .inr ⟨rfl,by omega,by omega,_,_,σ',e,[],false,.nils,rfl,by simp[t0],by simp[t5],by simp,by simp,rfl,rfl,r5,r8,by omega,by omega,⟨h1,w1,HX.refl _ _ h1⟩,qt⟩
  by_cases q5:c.k=5
  ·have i1:=step_i kC.inv hn c.id c2
   refine vF (cJ t1 (cJ t5 (cJ t6 (cJ t7 (cJ g5C (cJ q0 (cJ q1 (cJ q2 (cJ q3 (cJ q4 q5)))))))))) ?_
   refine A.mono i1 ?_
   rintro _ h1 ⟨st,e,σ',rfl,w1,mv,sr⟩
   refine vP ?_
   refine vZ ?_
   exact .inl ⟨rfl,PlayE.went kC w1 mv sr.len (fun z=>absurd z (by omega)) sr.sq⟩
  by_cases q6:c.k=6
  ·have i1:=abort_i kC.inv c.id c2
   refine vF (cJ t1 (cJ t5 (cJ t6 (cJ t7 (cJ g5C (cJ q0 (cJ q1 (cJ q2 (cJ q3 (cJ q4 (cJ q5 q6))))))))))) ?_
   refine A.mono i1 ?_
   rintro _ h1 ⟨e,σ',rfl,w1,mv,sr⟩
   refine vP ?_
   refine vZ ?_
   exact .inl ⟨rfl,PlayE.went kC (mono1 w1) mv sr.len (fun z=>absurd z (by omega)) (by rw[sr.sq];omega)⟩
  by_cases q7:c.k=7
  ·have i1:=tick_i kC.inv
   refine vF (cJ t1 (cJ t5 (cJ t6 (cJ t7 (cJ g5C (cJ q0 (cJ q1 (cJ q2 (cJ q3 (cJ q4 (cJ q5 (cJ q6 q7)))))))))))) ?_
   refine A.mono i1 ?_
   rintro _ h1 ⟨e,σ',rfl,w1,mv,sr⟩
   refine vP ?_
   refine vZ ?_
   exact .inl ⟨rfl,PlayE.went kC (mono1 w1) mv (by rw[sr.1]) (fun z=>absurd z (by omega)) (by have:=sr.2;omega)⟩
  ·refine vF (cJ t1 (cJ t5 (cJ t6 (cJ t7 (cJ g5C (cJ q0 (cJ q1 (cJ q2 (cJ q3 (cJ q4 (cJ q5 (cJ q6 q7)))))))))))) ?_
   exact .inl ⟨rfl,PlayE.went kC ⟨kC.inv.up (by omega),Fr.he (HE.refl hC)⟩ (Moves.refl σ) rfl (fun z=>absurd z (by omega)) (by omega)⟩
 ·rintro e s (⟨rfl,hp⟩ | ⟨rfl,ck1,ck4,t,hh,σ',e2,dv,db,dl,rfl,t0,t5,t8,t9,dc,di,r5,r8,n5h,n8h,⟨h1,w,hx1⟩,qt⟩)
  ·obtain⟨st,sn,sh,sr⟩:=s
   refine vZ ?_
   (first | apply endW_r | apply endW_n);(case h1=>(simp[Tryz.results21];first | done | rfl))
   exact out _ (pre _ hp)
  have hl1:σ'.xs.length=σ.xs.length:=qt.2.2.2.1
  have k1:=kC.went w (by omega) (Nat.le_refl _)
  have nb1:hb.no≤hB.no:=nb8
  have nQ:∀o,Q o→o≠hB.no:=fun o ho z=>by
   have:=kb.past.lt o ho;omega
  have nE:∀o,o∈g::objsT σ'.xs∨σ'.D o→o≠hB.no:=fun o ho z=>by
   rw[z]at ho
   rcases ho with y | y
   ·rcases List.mem_cons.mp y with u | u
    ·exact(own hB.no nb1).1 (by rw[u];simp)
    ·rcases w.2.ob _ u with v | v
     ·exact(own hB.no nb1).1 (List.mem_cons_of_mem _ v)
     ·omega
   ·rcases w.2.dn _ y with v | v
    ·exact(own hB.no nb1).2 v
    ·omega
  have kh:PL hzb hh g pm bs σ' n pp vs gs Q:=⟨k1.inv.ofX hx1 nE (fun _ _ z=>z),k1.past.of hx1 nQ (fun _ _ z=>z),k1.dq,k1.dg,k1.len⟩
  have fh:FrP hb hh g σ σ' gs gs Q Q:=by
   have f:=w.frP gs Q
   refine⟨⟨Nat.le_trans ebC.no (Nat.le_trans f.hx.no hx1.no),Nat.le_trans ebC.ng (Nat.le_trans f.hx.ng hx1.ng),hx1.pol.trans (f.hx.pol.trans ebC.pol),fun o ho hs=>?_,fun q hq hn=>?_⟩,fun o ho=>(f.ob o ho).imp (fun z=>z) (fun z=>Nat.le_trans ebC.no z),fun q hq=>(f.gr q hq).imp (fun z=>z) (fun z=>Nat.le_trans ebC.ng z),fun o ho=>(f.dn o ho).imp (fun z=>z) (fun z=>Nat.le_trans ebC.no z),fun o ho=>.inl ho,fun q hq=>.inl hq⟩
   ·have h1:=ebC.no
    have h2:=f.hx.no
    exact(hx1.obj o (by omega) (fun z=>by omega)).trans ((f.hx.obj o (by omega) hs).trans (ebC.obj o ho))
   ·have h1:=ebC.ng
    have h2:=f.hx.ng
    exact(hx1.len q (by omega) (fun z=>z)).trans ((f.hx.len q (by omega) hn).trans (ebC.len q hq))
  have kh1:PL hzb hh g pm bs σ' (n+1) pp vs gs Q:=⟨kh.inv.up (by omega),kh.past.up (by omega),kh.dq,kh.dg,kh.len⟩
  have skip:∀h':Hp Fm,HE hh h'→PlayE hzb hb h' g pm bs σ n pp vs gs Q c.k:=fun h' e=>by
   refine⟨σ',vs,gs,Q,kh1.he e,?_,qt.moves,fun _=>qt,.inl ⟨rfl,hl1⟩,qt.sqle⟩
   exact⟨⟨Nat.le_trans fh.hx.no e.no,Nat.le_trans fh.hx.ng e.ng,e.pol.trans fh.hx.pol,fun o ho hs=>(e.obj o (Nat.lt_of_lt_of_le ho fh.hx.no)).trans (fh.hx.obj o ho hs),fun q hq hn=>(e.len q (Nat.lt_of_lt_of_le hq fh.hx.ng)).trans (fh.hx.len q hq hn)⟩,fh.ob,fh.gr,fh.dn,fh.qn,fh.gn⟩
  obtain⟨Lv,gp,rs,rq⟩:=kh.past.ex
  have Lc:=rs.cells
  have Li:=rs.isCell
  have Ln:=rs.nm
  have Ll:=rs.len Tryz.underlying56
  obtain⟨m,hm⟩:∃m,m=vs.length:=⟨_,rfl⟩
  rw[←hm]at Ll
  refine vZ ?_
  (with_reducible refine W_draw_id (pln:=true) [0,1,2,3,4,5,6,7,8,9,10,11,12,13,14,15,16] [(4,(4,[])),(9,(9,[])),(13,(13,[]))] (by kernel_rfl) rfl ?_)
  by_cases q1:e2=0
  case neg=>
   refine vF (cJ t0 (cJ t5 (cJ t9 q1))) ?_
   refine⟨by simp[readSame,beqAV_self,t0,t5,t9,q1];done,_,by simp;first | done | rfl,?_⟩
   refine vZ ?_
   (first | apply endW_r | apply endW_n);(case h1=>(simp[Tryz.results21];first | done | rfl))
   exact out _ (skip _ (HE.refl hh).drew)
  by_cases q2:1≤c.id
  case neg=>
   refine vF (cJ t0 (cJ t5 (cJ t9 (cJ q1 (cJ q2 r5))))) ?_
   refine⟨by simp[readSame,beqAV_self,t0,t5,t9,q1,q2,r5];done,_,by simp;first | done | rfl,?_⟩
   refine vZ ?_
   (first | apply endW_r | apply endW_n);(case h1=>(simp[Tryz.results21];first | done | rfl))
   exact out _ (skip _ (HE.refl hh).drew)
  by_cases q3:c.id≤m
  case neg=>
   refine vF (cJ t0 (cJ t5 (cJ t9 (cJ q1 (cJ q2 (cJ q3 (cJ r5 (cJ gp (cJ Lc (cJ Li (cJ Ln Ll))))))))))) ?_
   refine⟨by simp[readSame,beqAV_self,t0,t5,t9,q1,q2,q3,r5,gp,Lc,Li,Ln,Ll];done,_,by simp;first | done | rfl,?_⟩
   refine vZ ?_
   (first | apply endW_r | apply endW_n);(case h1=>(simp[Tryz.results21];first | done | rfl))
   exact out _ (skip _ (HE.refl hh).drew)
  refine vF (cJ t0 (cJ t5 (cJ t9 (cJ q1 (cJ q2 (cJ q3 (cJ r5 (cJ gp (cJ Lc (cJ Li (cJ Ln Ll))))))))))) ?_
  refine⟨by simp[readSame,beqAV_self,t0,t5,t9,q1,q2,q3,r5,gp,Lc,Li,Ln,Ll];done,_,by simp;first | done | rfl,?_⟩
  refine vZ ?_
  obtain⟨j,hj⟩:∃j:Nat,c.id=(j:Int)+1:=⟨(c.id-1).toNat,by omega⟩
  have hjm:j<vs.length:=by omega
  have wj:IntKind.i64.wrap (c.id-1)=(j:Int):=by rw[wrap64 (by omega) (by omega)];omega
  rcases rs with⟨rfl,hvn⟩ | ⟨o,cap,rfl,_,ra⟩
  ·rw[hvn]at hjm;simp at hjm
  have oQ:=rq o ⟨_,_,_,_,_,rfl⟩
  have ixL:indexAddrAV Tryz.prog 56 (.rs o 0 1 false vs.length cap) (.int .i64 (j:Int))=some (.ptr o j):=by
   rw[index_rs Tryz.underlying56 z112 (by omega) (by omega),Int.toNat_natCast,Nat.mul_one]
  have khd:=kh.he (HE.refl hh).drew
  have hp1:hh.pol 112=true:=by rw[hx1.pol,w.2.hx.pol,hpC];rfl
  have hp2:hh.pol 108=false:=by rw[hx1.pol,w.2.hx.pol,hpC];rfl
  have kdd:=kh.he ((HE.refl hh).drew).drew
  obtain⟨cs,x4,h4,a1,a2,a3,ap,xc4,xi4,ho4,hn4,hp4,hend⟩:=play_tail kdd hp1 hp2 j hjm (by omega) [.int .i64 c.k,.int .i64 c.id,.int .i64 c.t,.str c.key,.str c.to,.int .i64 c.f,.int .i64 c.u,.str c.v,.str dv,.bool db,dl] rfl o cap gp ⟨ra.row,ra.cap,ra.on⟩ oQ.1 oQ.2 hh.ng 0 1
  have ho4':h4.obj=hh.obj:=ho4
  have gro:Mp.get hh.obj o=some (.row cs):=a1
  obtain⟨vc,vi⟩:=kh.past.cells _ (List.getElem_mem hjm)
  have oh:o<hh.no:=kh.past.lt o oQ.1
  have ob:o<hb.no:=kb.past.lt o oQ.1
  have zpo:pp≠o:=fun z=>oQ.2 z.symm
  have z5o:h.no≠o:=by omega
  have z8o:hB.no≠o:=by omega
  have gp4:Mp.get h4.obj pp=_:=(by rw[ho4']:Mp.get h4.obj pp=Mp.get hh.obj pp).trans gp
  have r54:Mp.get h4.obj h.no=_:=(by rw[ho4']:Mp.get h4.obj h.no=Mp.get hh.obj h.no).trans r5
  have r84:Mp.get h4.obj hB.no=_:=(by rw[ho4']:Mp.get h4.obj hB.no=Mp.get hh.obj hB.no).trans r8
  have gro4:Mp.get h4.obj o=_:=(by rw[ho4']:Mp.get h4.obj o=Mp.get hh.obj o).trans gro
  (with_reducible refine W_draw_id (pln:=true) [0,1,2,3,4,5,6,7,8,9,10,11,12,13,14,15,16,17,18,19,20] [(3,(3,[18,19])),(5,(5,[18,19])),(10,(10,[18])),(12,(12,[18])),(15,(15,[18])),(16,(16,[]))] (by kernel_rfl) rfl ?_)
  refine vNx6 (cJ t0 (cJ t5 (cJ t8 (cJ r5 (cJ r8 (cJ gp (cJ wj (cJ ixL (cJ gro (cJ a2 (cJ vc (cJ vi (cJ dc (cJ di hp2)))))))))))))) ?_
  with_reducible apply WT_app_i;(case hw=>(simp[t0,t5,t8,r5,r8,gp,wj,ixL,gro,a2,vc,vi,dc,di,newSeq,newSl,hp2];done));(case ho=>rfl);(case hb=>rfl);(case ha=>(simp[t0,t5,t8,r5,r8,gp,wj,ixL,gro,a2,vc,vi,dc,di,newSeq,newSl,hp2];first | done | exact⟨rfl,rfl⟩ | rfl));(case h1=>(simp;first | done | rfl));(case h2=>(simp;first | done | rfl))
  refine app_then (R:=fun r h'=>r=x4∧h'=h4) ⟨x4,h4,ap,rfl,rfl⟩ ?_
  rintro r4 h4' ⟨er,eh⟩
  subst er eh
  refine vP ?_
  refine vF (cJ t0 (cJ t5 (cJ t8 (cJ gp4 (cJ r54 (cJ r84 (cJ wj (cJ ixL (cJ gro4 (cJ xc4 (cJ xi4 a3))))))))))) ?_
  refine⟨by simp[readSame,beqAV_self,t0,t5,t8,r5,r8,gp,gro,a2,gp4,r54,r84,wj,ixL,gro4,xc4,xi4,a3,zpo,z5o,z8o,vc,vi,dc,di];done,_,by simp;first | done | rfl,?_⟩
  refine vZ ?_
  (first | apply endW_r | apply endW_n);(case h1=>(simp[Tryz.results21];first | done | rfl))
  refine out _ ?_
  obtain⟨gs',kz,hz2,gz⟩:=hend { h4' with obj:=Mp.set h4'.obj o (.row (splice cs j [r4])) } rfl rfl rfl rfl rfl
  have ez:HE hh hh.drew.drew:=((HE.refl hh).drew).drew
  refine⟨σ',vs.set j r4,gs',Q,kz,?_,qt.moves,fun _=>qt,.inl ⟨by rw[List.length_set],hl1⟩,qt.sqle⟩
  have fd:FrP hb hh.drew.drew g σ σ' gs gs Q Q:=⟨⟨fh.hx.no,fh.hx.ng,fh.hx.pol,fh.hx.obj,fh.hx.len⟩,fh.ob,fh.gr,fh.dn,fh.qn,fh.gn⟩
  have fz:FrP hh.drew.drew { h4' with obj:=Mp.set h4'.obj o (.row (splice cs j [r4])) } g σ' σ' gs gs' Q Q:=⟨HX.mono hz2 (fun q _ z=>Or.inr (by rw[z];exact oQ.1)) (fun q _ z=>Or.inr z),fun _ z=>.inl z,fun _ z=>.inl z,fun _ z=>.inl z,fun _ z=>.inl z,gz⟩
  exact fd.trans fz
end Go.Vn

set_option maxRecDepth 20000
namespace Go.Vn
open Go.Proofs
set_option maxHeartbeats 1000000 in
theorem newmem2_ans(lo:Nat)(bs:List Br)(v:AV)(ok:BOk bs)(h0:Hp Fm)(k:BRs lo h0 bs v)(hlo:lo≤h0.no)(hp:h0.pol 93=true) :
  A Tryz.prog TT (.func 27) [v] h0 (fun r h'=>∃pm,r=.ptr pm 0∧MemH h' (fun o=>h0.no≤o∧o<h'.no) pm bs []∧HE h0 h'):=by
 have vc:=k.cells
 have vi:=k.isCell
 have ble:=ok.le
 apply A_go Tryz.func27 rfl (by rfl);(case hn=>(simp[Tryz.ntmps27];rfl))
 refine vF (cJ vc vi) ?_
 refine A.mono (tmay_ans lo bs v ok h0 k) ?_
 rintro _ h1 ⟨rfl,e1⟩
 refine vP ?_
 refine vZ ?_
 refine A.mono (cnew_ans h1) ?_
 rintro _ h2 ⟨rfl,g1,g2,g3,g4,n2,e2⟩
 have e12:=e1.trans e2
 refine vP ?_
 refine vF (cJ vc vi) ?_
 refine A.mono (clonebr_ans lo bs v h2 (RS.he k e12) (Nat.le_trans hlo e12.no) (by omega) (by rw[e12.pol];exact hp)) ?_
 rintro w h3 ⟨rw3,e3⟩
 have wc:=rw3.cells
 have wi:=rw3.isCell
 have n3:=e3.no
 have n1:=e1.no
 have g1:=(e3.obj _ (by omega)).trans g1
 have g2:=(e3.obj _ (by omega)).trans g2
 have g3:=(e3.obj _ (by omega)).trans g3
 have g4:=(e3.obj _ (by omega)).trans g4
 refine vP ?_
 refine vF (cJ wc wi) ?_
 (first | apply endW_r | apply endW_n);(case h1=>(simp[Tryz.results27];first | done | rfl))
 have en:HE h3 { h3 with obj:=Mp.set h3.obj h3.no (.row [.ptr (h1.no+3) 0,w]),no:=h3.no+1 }:=(HE.refl h3).new _
 have q1:=(en.obj _ (show h1.no+3<h3.no by omega)).trans g1
 have q2:=(en.obj _ (show h1.no+2<h3.no by omega)).trans g2
 have q3:=(en.obj _ (show h1.no+1<h3.no by omega)).trans g3
 have q4:=(en.obj _ (show h1.no<h3.no by omega)).trans g4
 refine⟨h3.no,rfl,⟨⟨h1.no+3,h1.no+2,h1.no+1,h1.no,[],w,by simp,⟨q1,⟨q2,q3,q4,trivial,?_,?_,?_⟩,trivial,?_,?_⟩,RS.lo (RS.he rw3 en) (by omega),?_,fun q hq=>?_,fun o ho=>?_⟩,ok,fun o ho=>ho.2⟩,(e12.trans e3).new _⟩
 ·show h1.no+2<h3.no+1;omega
 ·show h1.no+1<h3.no+1;omega
 ·show h1.no<h3.no+1;omega
 ·simp[objsN]
 ·show h1.no+3<h3.no+1;omega
 ·simp only[objsN,List.flatMap_nil,List.mem_cons,List.not_mem_nil,or_false];omega
 ·have a:=rw3.rows q hq
  have b:q<h3.no:=by
   rcases rw3 with⟨z,_⟩ | ⟨o,cap,z,_,ra⟩
   ·rw[z]at hq;obtain⟨_,_,_,_,_,e⟩:=hq;cases e
   ·rw[z]at hq
    obtain⟨_,_,_,_,_,e⟩:=hq
    injection e with e
    rw[←e];exact ra.on
  refine⟨⟨by omega,by show q<h3.no+1;omega⟩,?_⟩
  simp only[objsN,List.flatMap_nil,List.mem_cons,List.not_mem_nil,or_false];omega
 ·simp only[objsN,List.flatMap_nil,List.mem_cons,List.not_mem_nil,or_false]at ho
  refine⟨by omega,?_⟩
  show o<h3.no+1
  omega
theorem polLaw:PolOk (· == 93):=⟨rfl,rfl,rfl,rfl,rfl,rfl,rfl,rfl⟩
theorem vNy3{G K:Prop}(k:K)(h:K→G:=by intro k;(repeat(first|with_reducible first|refine vmR ?_|refine vmV rfl ?_|refine vmW rfl ?_|refine vmL ?_|refine blockW_y (by decide) ?_|((with_reducible first|apply vmO|apply vmT|apply vmC);case a=>simp[eqlAV];with_reducible first|exact .v|exact .c|exact .t|exact .f)));exact k):G:=h k
set_option maxHeartbeats 1000000 in
theorem obegin3_ans(h0:Hp Fm)(hp:h0.pol 93=true)(hpo:PolOk h0.pol) :
  A Tryz.prog TT (.func 8) [.nils] h0 (fun r h'=>∃g e pm bs D,r=.tup [.ptr g 0,.ptr e 0,.ptr pm 0]∧OInv { h0 with no:=0,ng:=0 } h' g pm bs ⟨D,1,0,[],.nils,[],[]⟩ 0∧HE h0 h'):=by
 apply A_go Tryz.func8 rfl (by rfl);(case hn=>(simp[Tryz.ntmps8];rfl))
 refine vZ ?_
 refine A.mono (good11_ans [] .nils (.inl ⟨rfl,rfl⟩) (fun _ h=>by cases h) h0 hp) ?_
 rintro v h1 ⟨bs,ok,bl,fl,rs,e1⟩
 have vc:=rs.cells
 have vi:=rs.isCell
 refine vP ?_
 refine vF (cJ vc vi) ?_
 refine A.mono (newmem2_ans h0.no bs v ok h1 rs e1.no (by rw[e1.pol];exact hp)) ?_
 rintro _ h2 ⟨pm,rfl,me,e2⟩
 refine vP ?_
 have new:A Tryz.prog TT (.func 28) [.ifc 25 (.ptr pm 0),.int .i64 1] h2 (fun r h'=>r=.ptr h2.no 0∧Mp.get h'.obj h2.no=some (.row [.ifc 25 (.ptr pm 0),.int .i64 1,.int .i64 0,.nils])∧h'.no=h2.no+1∧HE h2 h'):=by
  apply A_go Tryz.func28 rfl (by rfl);(case hn=>(simp[Tryz.ntmps28];rfl))
  refine vZ ?_
  (first | apply endW_r | apply endW_n);(case h1=>(simp[Tryz.results28];first | done | rfl))
  exact⟨rfl,by simp,rfl,(HE.refl h2).new _⟩
 refine vNy3 ?_
 refine A.mono new ?_
 rintro _ h3 ⟨rfl,gr,n3,e3⟩
 refine vP ?_
 refine vF (cJ vc vi) ?_
 (first | apply endW_r | apply endW_n);(case h1=>(simp[Tryz.results8];first | done | rfl))
 have e4:∀r,HE h3 { h3 with obj:=Mp.set h3.obj h3.no r,no:=h3.no+1 }:=fun r=>(HE.refl h3).new _
 have e04:∀r,HE h0 { h3 with obj:=Mp.set h3.obj h3.no r,no:=h3.no+1 }:=fun r=>(e1.trans (e2.trans e3)).trans (e4 r)
 refine⟨h2.no,h3.no,pm,bs,(fun o=>h1.no≤o∧o<h2.no),rfl,⟨⟨rfl,rfl,⟨?_,.inl ⟨rfl,rfl,rfl⟩,(fun x hx=>by cases hx),by simp[objsT],by simp[grpsT],?_,(fun o _=>Nat.zero_le o),(fun q hq=>by simp[grpsT]at hq),⟨Nat.zero_le _,Nat.zero_le _,(e04 _).pol,fun o ho=>absurd ho (Nat.not_lt_zero _),fun q hq=>absurd hq (Nat.not_lt_zero _)⟩⟩,me.he (e3.trans (e4 _)),fun o ho=>?_,(fun m hm=>by cases hm),by simp[cntM],by simp,by rw[(e04 _).pol];exact hpo,(fun x hx=>by cases hx),by simp⟩,⟨Int.le_refl _,by show(1:Int)≤10000;omega⟩,⟨Int.le_refl _,by show(0:Int)≤100000;omega⟩,(fun x hx=>by cases hx),(fun i j hi=>by cases hi),(fun m hm=>by cases hm),by simp[cntM],by simp,by simp⟩,e04 _⟩
 ·exact((e4 _).obj _ (by omega)).trans gr
 ·show h2.no<h3.no+1;omega
 ·simp only[objsT,List.flatMap_nil,List.mem_cons,List.not_mem_nil,or_false]
  omega
end Go.Vn

set_option maxRecDepth 20000
namespace Go.Vn
open Go.Proofs
def AOk(ep sq:Int)(x:Tr)(A:St3):Prop:=((x.st=1∨x.st=2)→LeE A.e A.s ep sq)∧((x.st=3∨x.st=4)→LtE A.e A.s x.at_.e x.at_.s)
theorem AOk.move{σ σ':SS}{x x':Tr}{A:St3}(h:AOk σ.ep σ.sq x A)(hl:LeE σ.ep σ.sq σ'.ep σ'.sq)(t:TMove σ σ' x x'):AOk σ'.ep σ'.sq x' A:=by
 obtain⟨h1,h2⟩:=h
 rcases t with⟨e1,e2⟩ | ⟨e1,e2⟩ | e1 | ⟨e1,e2,e3⟩ | ⟨e1,e2,e3⟩
 ·refine⟨fun z=>(h1 (by rw[←e1];exact z)).trans hl,fun z=>by rw[e2];exact h2 (by rw[←e1];exact z)⟩
 ·exact⟨fun _=>(h1 (.inl e1)).trans hl,fun z=>by omega⟩
 ·exact⟨fun z=>by omega,fun z=>by omega⟩
 ·refine⟨fun z=>by omega,fun _=>?_⟩
  have:=h1 (.inr e1)
  unfold LeE at this
  unfold LtE at e3 ⊢
  omega
 ·exact⟨fun z=>by omega,fun _=>by rw[e3];exact h2 (.inl e1)⟩
def AllA(σ:SS)(As:List St3):Prop:=As.length=σ.xs.length∧∀i (h:i<σ.xs.length) (h':i<As.length),AOk σ.ep σ.sq σ.xs[i] As[i]
theorem AllA.same{σ σ':SS}{As:List St3}(h:AllA σ As)(m:Moves σ σ')(hl:σ'.xs.length=σ.xs.length):AllA σ' As:=by
 rcases m.2 with⟨y,e,_⟩ | ⟨_,t⟩
 ·rw[e,List.length_append,List.length_singleton]at hl;omega
 ·exact⟨h.1.trans hl.symm,fun i hi h'=>(h.2 i (by omega) h').move m.1 (t i (by omega) hi)⟩
theorem AllA.push{σ σ':SS}{As:List St3}(h:AllA σ As)(m:Moves σ σ')(hl:σ'.xs.length=σ.xs.length+1){L:St3}(hL:LeE L.e L.s σ'.ep σ'.sq):AllA σ' (As++[L]):=by
 rcases m.2 with⟨y,e,hy⟩ | ⟨e,_⟩
 ·refine⟨by rw[List.length_append,List.length_singleton,hl,h.1],fun i hi h'=>?_⟩
  have gx:∀(l:List Tr) (hl:l=σ.xs++[y]) (hi:i<l.length),AOk σ'.ep σ'.sq l[i] (As++[L])[i]:=fun l hl hi=>by
   subst hl
   by_cases q:i<σ.xs.length
   ·rw[List.getElem_append_left q,List.getElem_append_left (by rw[h.1];exact q)]
    exact(h.2 i q (by rw[h.1];exact q)).move m.1 (.inl ⟨rfl,rfl⟩)
   ·have e1:i=σ.xs.length:=by rw[List.length_append,List.length_singleton]at hi;omega
    rw[List.getElem_append_right (by omega),List.getElem_append_right (by rw[h.1];omega)]
    simp only[List.getElem_singleton]
    exact⟨fun _=>hL,fun z=>by omega⟩
  exact gx _ e hi
 ·omega
theorem PL.ofX{hz h h':Hp Fm}{g pm:Nat}{bs:List Br}{σ:SS}{n pp:Nat}{vs:List AV}{gs:List (List Nat)}{Q:Nat→Prop}(k:PL hz h g pm bs σ n pp vs gs Q){G:Nat→Prop}(hx:HX (fun _=>False) G h h')(h1:∀q∈σ.lg++grpsT σ.xs,¬G q)(h2:∀q∈gs.flatten,¬G q):PL hz h' g pm bs σ n pp vs gs Q:=
 ⟨k.inv.ofX hx (fun _ _ z=>z) h1,k.past.of hx (fun _ _ z=>z) h2,k.dq,k.dg,k.len⟩
theorem PL.up{hz h:Hp Fm}{g pm:Nat}{bs:List Br}{σ:SS}{n m pp:Nat}{vs:List AV}{gs:List (List Nat)}{Q:Nat→Prop}(k:PL hz h g pm bs σ n pp vs gs Q)(hm:n≤m):PL hz h g pm bs σ m pp vs gs Q:=
 ⟨k.inv.up hm,k.past.up hm,k.dq,k.dg,k.len⟩
def OutG(σ:SS)(gs:List (List Nat))(q:Nat):Prop:=q∉σ.lg++grpsT σ.xs∧q∉gs.flatten
theorem PL.glt{hz h:Hp Fm}{g pm:Nat}{bs:List Br}{σ:SS}{n pp:Nat}{vs:List AV}{gs:List (List Nat)}{Q:Nat→Prop}(k:PL hz h g pm bs σ n pp vs gs Q){q:Nat}(hq:h.ng≤q):OutG σ gs q:=by
 refine⟨fun z=>?_,fun z=>?_⟩
 ·rcases List.mem_append.mp z with z | z
  ·have:=k.inv.sys.eng.ac.lt q z;omega
  ·obtain⟨y,hy,hy2⟩:=List.mem_flatMap.mp z
   have:=(k.inv.sys.eng.tr y hy).glt q hy2;omega
 ·obtain⟨G,hG,hq'⟩:=List.mem_flatten.mp z
  obtain⟨i,hi,rfl⟩:=List.getElem_of_mem hG
  obtain⟨_,a,_⟩:=k.past.el.2 i (by rw[k.past.el.1];exact hi) hi
  have:=a.lt q hq';omega
end Go.Vn
