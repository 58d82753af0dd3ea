/- What functions of the program come to, in the value machine (a part of the proof of the claim's statement). No condition. -/
import Derived.Test.YtplcehpejjfjoaaGreatVnL3
import Derived.Test.YtplcehpejjfjoaaGreatVnI3
set_option linter.unusedSimpArgs false
set_option linter.unusedVariables false
set_option maxRecDepth 20000
namespace Go.Vn
open Go.Proofs
def OneR(_:Unit)(v:AV):Prop:=v=.int .i64 1
theorem ents_keys1{α:Type}{R:α→AV→Prop}:∀{wr:Ents α} {es:List (AV × AV × Nat)},EntsR R wr es→es.map kstr=wr.map (·.1)∧∀e∈es,e.1=.str (kstr e):=by
 intro wr
 induction wr with
 | nil=>intro es en;cases es with
  | nil=>exact⟨rfl,fun e he=>by cases he⟩
  | cons _ _=>exact en.elim
 | cons f fs ih=>intro es en;cases es with
  | nil=>exact en.elim
  | cons e es=>
   obtain⟨h1,h2⟩:=ih en.2
   have h3:kstr e=f.1:=by unfold kstr;rw[en.1.1]
   refine⟨by simp[h1,h3],fun x hx=>?_⟩
   rcases List.mem_cons.mp hx with rfl | hx
   ·rw[h3];exact en.1.1
   ·exact h2 x hx
theorem ents_ok1{α:Type}{es:List (AV × AV × Nat)}{R:α→AV→Prop}{wr:Ents α}{clk:Nat}(en:EntsR R wr es)(bo:Born clk wr) :
  (∀e∈es,e.2.2<clk)∧(es.map (·.2.2)).Nodup:=by
 have hbirth:=en.births
 refine⟨fun e he=>?_,by rw[hbirth];exact bo.nd⟩
 have:e.2.2∈es.map (·.2.2):=List.mem_map_of_mem he
 rw[hbirth]at this
 obtain⟨f,hf,e1⟩:=List.mem_map.mp this
 have:=bo.lt f hf;omega
theorem setF_len{α:Type}(k:List UInt8)(a:α)(clk:Nat)(fs:Ents α):(setF k a clk fs).length≤fs.length+1:=by
 have:=congrArg List.length (setF_births (k:=k) (a:=a) (clk:=clk) fs)
 rw[List.length_map]at this
 rw[this]
 split
 ·rw[List.length_map];omega
 ·rw[List.length_append,List.length_map,List.length_singleton];omega
theorem keysofi_ans(m:Nat)(h0:Hp Fm) :
  A Tryz.prog TT (.func 77) [.mp m] h0 (fun r h'=>r=.fn (.func 100) [] [.ptr h0.no 0]∧Mp.get h'.obj h0.no=some (.row [.mp m])∧h'.no=h0.no+1∧HE h0 h'):=by
 apply A_go Tryz.func77 rfl (by rfl);(case hn=>(simp[Tryz.ntmps77];rfl))
 refine vZ ?_
 (first | apply endW_r | apply endW_n);(case h1=>(simp[Tryz.results77];first | done | rfl))
 exact⟨rfl,by simp,rfl,(HE.refl h0).new _⟩
theorem etScan:ElT Tryz.prog 81 130 3 56 true (.agg [.str [],.str [],.nils]):=⟨Tryz.underlying81,z130,b130,a130,t130,rfl,rfl,(fun h=>by cases h),by omega,by omega⟩
theorem etPair:ElT Tryz.prog 106 152 2 32 true (.agg [.str [],.str []]):=⟨Tryz.underlying106,z152,b152,a152,t152,rfl,rfl,(fun h=>by cases h),by omega,by omega⟩
theorem ScR.app{b:List UInt8 × List UInt8 × List (List UInt8 × St3)}{w:AV}(hw:SV 4 (b.2.2.map encSeen) w):∀{ss:List (List UInt8 × List UInt8 × List (List UInt8 × St3))} {vs:List AV},ScR ss vs→ScR (ss++[b]) (vs++[.agg [.str b.1,.str b.2.1,w]])
 | [],[],_=>⟨⟨w,rfl,hw⟩,trivial⟩
 | _::_,_::_,h=>⟨h.1,ScR.app hw h.2⟩
theorem ScR.len:∀{ss:List (List UInt8 × List UInt8 × List (List UInt8 × St3))} {vs:List AV},ScR ss vs→vs.length=ss.length
 | [],[],_=>rfl
 | _::_,_::_,h=>by simp[ScR.len h.2]
theorem TxOk.pcsOf{x:Tr}(tok:TxOk x)(key:List UInt8):((lookF key x.wr).getD []).length≤80∧∀tm s,atP ((lookF key x.wr).getD []) tm=some s→1≤s.length:=by
 have pok:PcsOk ((lookF key x.wr).getD [])∧((lookF key x.wr).getD []).length≤80:=by
  cases hl:lookF key x.wr with
  | none=>exact⟨⟨(fun p hp=>by cases hp),List.Pairwise.nil⟩,by simp⟩
  | some ps=>
   obtain⟨a,b⟩:=tok.pcs key ps hl
   have:=tok.o1
   exact⟨a,by show ps.length≤80;omega⟩
 refine⟨pok.2,fun tm s hs=>?_⟩
 obtain⟨p,hp,rfl⟩:=atP_mem hs
 rcases (pok.1.may p hp).2.1 with z | z
 ·cases hv:p.val with
  | nil=>rw[hv]at z;cases z
  | cons _ _=>simp
 ·rw[z];simp
def scanT(x:Tr)(fr to:List UInt8)(M:Mem)(G:List Nat):Tr:={ x with ops:=x.ops+1,sc:=x.sc++[(fr,to,lookM M fr to)],sg:=G }
theorem vNj11{F G K:Prop}(f:F)(k:K)(h:F→K→G:=by intro f k;(repeat(first|with_reducible first|refine vmR ?_|refine vmV rfl ?_|refine vmW rfl ?_|refine vmL ?_|refine blockW_y (by decide) ?_|((with_reducible first|apply vmO|apply vmT|apply vmC);case a=>simp[f,splice];with_reducible first|exact .v|exact .c|exact .t|exact .f)));exact k):G:=h f k
theorem vNj12{F G K:Prop}(f:F)(k:K)(h:F→K→G:=by intro f k;(repeat(first|with_reducible first|refine vmR ?_|refine vmV rfl ?_|refine vmW rfl ?_|refine vmL ?_|refine blockW_y (by decide) ?_|((with_reducible first|apply vmO|apply vmT|apply vmC);case a=>simp[f,newSeq,newSl];with_reducible first|exact .v|exact .c|exact .t|exact .f)));exact k):G:=h f k
theorem vNj13{F G K:Prop}(f:F)(k:K)(h:F→K→G:=by intro f k;(repeat(first|with_reducible first|refine vmR ?_|refine vmV rfl ?_|refine vmW rfl ?_|refine vmL ?_|refine blockW_y (by decide) ?_|((with_reducible first|apply vmO|apply vmT|apply vmC);case a=>simp[f,makeMapAV];with_reducible first|exact .v|exact .c|exact .t|exact .f)));exact k):G:=h f k
theorem vNj14{F G K:Prop}(f:F)(k:K)(h:F→K→G:=by intro f k;(repeat(first|with_reducible first|refine vmR ?_|refine vmV rfl ?_|refine vmW rfl ?_|refine vmL ?_|refine blockW_y (by decide) ?_|((with_reducible first|apply vmO|apply vmT|apply vmC);case a=>simp[f,rangeAV];with_reducible first|exact .v|exact .c|exact .t|exact .f)));exact k):G:=h f k
set_option maxHeartbeats 4000000 in
theorem scan_m{hz h:Hp Fm}{D:Nat→Prop}{g pm:Nat}{ep sq:Int}{xs:List Tr}{lv:AV}{lg:List Nat}{bs:List Br}{M:Mem}(k:Sys hz h D g pm ep sq xs lv lg bs M)(hml:M.length≤50000)(i:Int)(hi64:-9223372036854775808≤i∧i≤9223372036854775807)(fr to:List UInt8)(tm:Int) :
  A Tryz.prog TT (.func 49) [.ptr g 0,.int .i64 i,.str fr,.str to,.int .i64 tm] h (fun r h'=>∃pv l e,r=.tup [pv,.int .i64 e]∧SV 2 l pv∧((e≠0∧HE h h')∨(e=0∧openE xs i=0∧∃(j:Nat) (hj:j<xs.length) (G:List Nat),i=(j:Int)+1∧Sys hz h' D g pm ep sq (xs.set j (scanT xs[j] fr to M G)) lv lg bs M∧HX (fun o=>o=(xs[j]).p) (fun q=>q∈(xs[j]).sg) h h'∧∀q∈G,q∈(xs[j]).sg∨h.ng≤q))):=by
 apply A_go Tryz.func49 rfl (by rfl);(case hn=>(simp[Tryz.ntmps49];rfl))
 refine vZ ?_
 refine A.mono (open_ans hz h g pm ep sq xs lv lg k.eng i hi64 k.xl2) ?_
 rintro _ h1 ⟨eh,⟨f1,rfl⟩ | ⟨f1,j,hj,rfl,s1,so,rfl⟩⟩
 ·rw[eh]
  clear eh h1
  obtain⟨e,he⟩:∃e,e=openE xs i:=⟨_,rfl⟩
  rw[←he]at f1 ⊢
  refine vP ?_
  refine vF f1 ?_
  (first | apply endW_r | apply endW_n);(case h1=>(simp[Tryz.results49];first | done | rfl))
  exact⟨_,[],e,rfl,.inl ⟨rfl,rfl⟩,.inl ⟨f1,HE.refl h⟩⟩
 rw[eh]
 clear eh h1
 obtain⟨x,ex⟩:∃x,x=xs[j]:=⟨_,rfl⟩
 rw[←ex]at s1 so ⊢
 have hmem:x∈xs:=by rw[ex];exact List.getElem_mem _
 have tok:=k.tx x hmem
 have xg:=k.eng.p_ne hmem
 refine vP ?_
 refine vZ ?_
 refine A.mono (timed_ans tm h) ?_
 rintro _ hC ⟨rfl,ehC⟩
 rw[ehC]
 clear ehC hC
 refine vP ?_
 cases qt:timeOk tm with
 | false=>
  refine vZ ?_
  (first | apply endW_r | apply endW_n);(case h1=>(simp[Tryz.results49];first | done | rfl))
  exact⟨_,[],1,rfl,.inl ⟨rfl,rfl⟩,.inl ⟨by omega,HE.refl h⟩⟩
 | true=>
 have kB:=k.eng
 obtain⟨esB,rdB,scB,slB,TB⟩:=kB.tr x hmem
 have trB:=TB.row
 have scl:=TB.scr.len
 obtain⟨rc,ri⟩:rdB.cells=[rdB]∧rdB.isCell=true:=⟨TB.rd.sv.cells,TB.rd.sv.isCell⟩
 obtain⟨sc,si⟩:scB.cells=[scB]∧scB.isCell=true:=⟨TB.sc.sv.cells,TB.sc.sv.isCell⟩
 have w1:IntKind.i64.wrap (x.ops+1)=x.ops+1:=by have:=tok.o0;exact wrap64 (by omega) (by omega)
 rw[tok.br]at trB
 refine vF (cJ trB (cJ w1 (cJ rc (cJ ri (cJ sc si))))) ?_
 refine A_heap ?_
 intro hD hhD
 have xD:HX (fun o=>o=x.p) (fun _=>False) h hD:=by rw[hhD];exact HX.set1 (h':=h) rfl
 have trD:Mp.get hD.obj x.p=some (.row [.int .i64 0,.int .i64 x.st,.int .i64 (x.ops+1),.int .i64 x.at_.b,.int .i64 x.at_.e,.int .i64 x.at_.s,.mp x.m,rdB,scB]):=by rw[hhD];simp
 have nDB:hD.no=h.no:=by rw[hhD]
 have gDB:hD.ng=h.ng:=by rw[hhD]
 have lDB:hD.len=h.len:=by rw[hhD]
 clear hhD
 have grD:=(xD.obj _ kB.gn (fun e=>xg.1 e.symm)).trans kB.row
 have tmD:=(xD.obj _ TB.mn (fun e=>xg.2.2 e.symm)).trans TB.map
 have Dp:∀o,D o→¬o=x.p:=fun o ho z=>k.dis o ho (by rw[z];exact List.mem_cons_of_mem _ (objsT_mem hmem).1)
 have mpD:MemP hD D g pm ep sq lv bs M:=⟨grD,by rw[nDB];exact kB.gn,k.mem.of xD Dp,k.ok,k.cnt,k.len,by rw[xD.pol];exact k.pol.leg,by rw[xD.pol];exact k.pol.ver,by rw[xD.pol];exact k.pol.str,by rw[xD.pol];exact k.pol.seen⟩
 refine A.mono (look_ans mpD fr to) ?_
 rintro _ hE ⟨⟨w,rfl,sw⟩,eE⟩
 have wc:=sw.cells
 have wi:=sw.isCell
 have wn:=sw.nm
 have wl:=sw.len Tryz.underlying80
 rw[List.length_map]at wl
 have trE:=(eE.obj _ (by rw[nDB];exact TB.pn)).trans trD
 refine vP ?_
 have nxE:x.p≠hE.no:=by have:=TB.pn;have:=eE.no;omega
 have pnE:x.p<hE.no:=by have:=TB.pn;have:=eE.no;omega
 refine vNj11 (cJ wc wi) ?_
 refine W_heap ?_
 intro hF hhF
 have eF:HE hE hF:=by rw[hhF];exact((HE.refl hE).new _).set (Nat.le_refl _) _
 have gF:Mp.get hF.obj hE.no=some (.row [.str fr,.str to,w]):=by rw[hhF];simp
 have nF:hE.no<hF.no:=by rw[hhF];exact Nat.lt_succ_self _
 clear hhF
 have eDF:=eE.trans eF
 have trF:=(eF.obj _ pnE).trans trE
 have hpF:hF.pol 130=false:=by rw[eDF.pol,xD.pol];exact k.pol.scan
 have acF:ACg hF 3 slB scB x.sg:=TB.sc.of (fun q hq=>(eDF.len q (by rw[gDB];exact TB.sc.lt q hq)).trans (by rw[lDB])) (by have:=eDF.ng;omega)
 have sl40:slB.length≤40:=by have:=tok.sc;have:=tok.o1;omega
 (with_reducible refine W_draw_id (pln:=true) [0,1,2,3,4,5,6,7,8,9,10] [(4,(4,[7])),(5,(5,[]))] (by kernel_rfl) rfl ?_)
 refine vNj12 (cJ trF (cJ gF (cJ wc (cJ wi (cJ sc (cJ si hpF)))))) ?_
 with_reducible apply WT_app_i;(case hw=>(simp[trF,gF,wc,wi,sc,si,newSeq,newSl,hpF];done));(case ho=>rfl);(case hb=>rfl);(case ha=>(simp[trF,gF,wc,wi,sc,si,newSeq,newSl,hpF];first | done | exact⟨rfl,rfl⟩ | rfl));(case h1=>(simp;first | done | rfl));(case h2=>(simp;first | done | rfl))
 refine app_then (ACg.app etScan (acF.of (fun q hq=>((HE.refl hF).newSl 1).len q (acF.lt q hq)) ((HE.refl hF).newSl 1).ng) hpF (by omega)) ?_
 rintro x4 h4 ⟨G4,ac4,hG4,ho4,hn4,hp4,hg4,hl4⟩
 have xc4:=ac4.sv.cells
 have xi4:=ac4.sv.isCell
 have ho4':h4.obj=hF.obj:=ho4
 have hn4':h4.no=hF.no:=hn4
 have hp4':h4.pol=hF.pol:=hp4
 have hg4':hF.ng≤h4.ng:=Nat.le_trans ((HE.refl hF).newSl 1).ng hg4
 have hl4':∀q,q<hF.ng→q∉x.sg→Mp.get h4.len q=Mp.get hF.len q:=fun q hq hn=>(hl4 q (Nat.lt_of_lt_of_le hq ((HE.refl hF).newSl 1).ng) hn).trans (((HE.refl hF).newSl 1).len q hq)
 have hG4':G4=x.sg∨∃q,G4=[q]∧hF.ng≤q:=by
  rcases hG4 with z | ⟨q,z,z2⟩
  ·exact .inl z
  ·exact .inr ⟨q,z,Nat.le_trans ((HE.refl hF).newSl 1).ng z2⟩
 clear ho4 hn4 hp4 hg4 hl4 hG4
 have tr4:Mp.get h4.obj x.p=_:=(by rw[ho4']:Mp.get h4.obj x.p=Mp.get hF.obj x.p).trans trF
 have g4:Mp.get h4.obj hE.no=_:=(by rw[ho4']:Mp.get h4.obj hE.no=Mp.get hF.obj hE.no).trans gF
 refine vP ?_
 refine vNj11 (cJ xc4 (cJ xi4 (cJ trF (cJ gF (cJ g4 tr4))))) ?_
 refine⟨by simp[readSame,beqAV_self,xc4,xi4,trF,gF,g4,tr4,splice,nxE];done,_,by simp;first | done | rfl,?_⟩
 refine W_heap ?_
 intro hI hhI
 have xI:HX (fun o=>o=x.p) (fun _=>False) h4 hI:=by rw[hhI];exact HX.set1 (h':=h4) rfl
 have trI:Mp.get hI.obj x.p=some (.row [.int .i64 0,.int .i64 x.st,.int .i64 (x.ops+1),.int .i64 x.at_.b,.int .i64 x.at_.e,.int .i64 x.at_.s,.mp x.m,rdB,x4]):=by rw[hhI];simp
 have lI:hI.len=h4.len:=by rw[hhI]
 have nI:hI.no=h4.no:=by rw[hhI]
 have ngI:hI.ng=h4.ng:=by rw[hhI]
 clear hhI
 have nEF:=eF.no
 have xFI:HX (fun o=>o=x.p) (fun q=>q∈x.sg) hF hI:=⟨by omega,by omega,xI.pol.trans hp4',fun o ho hs=>(xI.obj o (by omega) hs).trans (by rw[ho4']),fun q hq hn=>by rw[lI];exact hl4' q hq hn⟩
 have xhI:HX (fun o=>o=x.p) (fun q=>q∈x.sg) h hI:=by
  have n1:=eDF.no
  have n2:=eDF.ng
  refine⟨by have:=xFI.no;omega,by have:=xFI.ng;omega,xFI.pol.trans (eDF.pol.trans xD.pol),fun o ho hs=>?_,fun q hq hn=>?_⟩
  ·exact(xFI.obj o (by omega) hs).trans ((eDF.obj o (by omega)).trans (xD.obj o ho hs))
  ·exact(xFI.len q (by omega) hn).trans ((eDF.len q (by omega)).trans (by rw[lDB]))
 have gI:=(xFI.obj hE.no nF (fun z=>nxE z.symm)).trans gF
 have tmI:=(xhI.obj x.m TB.mn (fun e=>xg.2.2 e.symm)).trans TB.map
 have grI:=(xhI.obj g kB.gn (fun e=>xg.1 e.symm)).trans kB.row
 have mpI:MemP hI D g pm ep sq lv bs M:=⟨grI,Nat.lt_of_lt_of_le kB.gn xhI.no,k.mem.of xhI Dp,k.ok,k.cnt,k.len,by rw[xhI.pol];exact k.pol.leg,by rw[xhI.pol];exact k.pol.ver,by rw[xhI.pol];exact k.pol.str,by rw[xhI.pol];exact k.pol.seen⟩
 have fin:∀hJ,HE hI hJ→Sys hz hJ D g pm ep sq (xs.set j (scanT x fr to M G4)) lv lg bs M∧HX (fun o=>o=x.p) (fun q=>q∈x.sg) h hJ:=by
  intro hJ eJ
  have ndg:=k.eng.ndg
  obtain⟨l1,l2,t1,_⟩:=set_split xs j hj x
  have nx2:=(List.nodup_append.mp ndg).2.1
  rw[t1,←ex]at nx2
  simp only[grpsT,List.flatMap_append,List.flatMap_cons]at nx2
  have nx3:=(List.nodup_append.mp (List.nodup_append.mp nx2).2.1).1
  have rgl:∀q∈x.rg,¬q∈x.sg:=fun q hq hg=>(List.nodup_append.mp nx3).2.2 q hq q hg rfl
  have sgn:∀q∈G4,q∈x.sg∨h.ng≤q:=fun q hq=>by
   rcases hG4' with z | ⟨q1,z,z2⟩
   ·rw[z]at hq;exact .inl hq
   ·rw[z]at hq;rw[List.mem_singleton.mp hq];exact .inr (by have:=eDF.ng;omega)
  have engI:EngH hz hI g pm ep sq (xs.set j (scanT x fr to M G4)) lv lg:=by
   refine kB.upd hj ex (x':=scanT x fr to M G4) (xhI.mono (fun o _ z=>.inr (.inl z)) (fun q _ z=>List.mem_append_right _ z)) ?_ ⟨esB,rdB,x4,(slB++[AV.agg [AV.str fr,AV.str to,w]]:List AV),⟨?_,tmI,TB.en,TB.born,?_,?_,ScR.app (b:=(fr,to,lookM M fr to)) sw TB.scr,Nat.lt_of_lt_of_le TB.pn xhI.no,Nat.lt_of_lt_of_le TB.mn xhI.no⟩⟩ rfl rfl ?_ ?_
   ·exact grI
   ·rw[tok.br.symm]at trI;exact trI
   ·exact TB.rd.of (fun q hq=>xhI.len q (TB.rd.lt q hq) (rgl q hq)) xhI.ng
   ·exact ac4.of (fun q _=>by rw[lI]) (by omega)
   ·show(x.rg++G4).Nodup
    refine List.nodup_append.mpr ⟨(List.nodup_append.mp nx3).1,?_,fun q hq r hr e=>?_⟩
    ·rcases hG4' with z | ⟨q1,z,_⟩
     ·rw[z];exact(List.nodup_append.mp nx3).2.1
     ·rw[z];simp
    ·subst e
     rcases sgn q hr with z | z
     ·exact rgl q hq z
     ·have:=TB.rd.lt q hq;omega
   ·intro q hq
    rcases List.mem_append.mp hq with z | z
    ·exact .inl (List.mem_append_left _ z)
    ·rcases sgn q z with y | y
     ·exact .inl (List.mem_append_right _ y)
     ·exact .inr y
  have sysI:=k.upd (x':=scanT x fr to M G4) hj engI (by rw[←ex];rfl) (by rw[←ex];rfl) xhI (fun o z=>tx_objs hj g (.inr (.inl (by rw[z,ex])))) ⟨tok.br,by have:=tok.o0;show 0≤x.ops+1;omega,by show x.ops+1≤40;omega,by show(x.rd.length:Int)≤x.ops+1;have:=tok.rd;omega,by
   show(((x.sc++[(fr,to,lookM M fr to)]).length:Nat):Int)≤x.ops+1
   have:=tok.sc
   rw[List.length_append,List.length_singleton];omega,by show(x.wr.length:Int)≤x.ops+1;have:=tok.wl;omega,fun k' ps hl=>by
    obtain⟨a,b⟩:=tok.pcs k' ps hl
    exact⟨a,by show(ps.length:Int)≤2*(x.ops+1);omega⟩,tok.key,tok.wnd⟩
  refine⟨sysI.he eJ,?_⟩
  exact⟨Nat.le_trans xhI.no eJ.no,Nat.le_trans xhI.ng eJ.ng,eJ.pol.trans xhI.pol,fun o ho hs=>(eJ.obj o (Nat.lt_of_lt_of_le ho xhI.no)).trans (xhI.obj o ho hs),fun q hq hn=>(eJ.len q (Nat.lt_of_lt_of_le hq xhI.ng)).trans (xhI.len q hq hn)⟩
 have pI:x.p<hI.no:=Nat.lt_of_lt_of_le TB.pn xhI.no
 have mI:x.m<hI.no:=Nat.lt_of_lt_of_le TB.mn xhI.no
 have oI:hE.no<hI.no:=by omega
 obtain⟨n,hn⟩:∃n,n=(lookM M fr to).length:=⟨_,rfl⟩
 rw[←hn]at wl
 have nb:n≤50000:=by rw[hn,lookM,List.length_map];exact Nat.le_trans (keysM_len M fr to) hml
 obtain⟨mk,hmk⟩:∃mk,mk=hI.no:=⟨_,rfl⟩
 have zo:hE.no≠hI.no:=by omega
 refine vNj13 (cJ gI (cJ wc (cJ wi (cJ wn (cJ wl zo))))) ?_
 rw[←hmk]
 refine W_heap ?_
 intro hK hhK
 have eK:HE hI hK:=by rw[hhK,hmk];exact(HE.refl hI).new _
 have gK:Mp.get hK.obj mk=some (.mp [] 0):=by rw[hhK];simp
 have nK:mk<hK.no:=by rw[hhK,hmk];exact Nat.lt_succ_self _
 clear hhK
 refine W.mono (R:=fun e s=>e=.exit 1∧∃(t:Fm AV) (hh:Hp Fm) (ws:Ents Unit) (es:List (AV × AV × Nat)) (clk:Nat),s=⟨t,119,hh,none⟩∧tget t 0=.ptr g 0∧tget t 2=.str fr∧tget t 3=.str to∧tget t 4=.int .i64 tm∧tget t 12=.ptr x.p 0∧tget t 15=.mp mk ∧
   HE hI hh∧mk<hh.no∧Mp.get hh.obj mk=some (.mp es clk)∧EntsR OneR ws es∧Born clk ws∧ws.length≤n) ?_ ?_
 ·refine W_loop (fun z s=>∃(t:Fm AV) (hh:Hp Fm) (i:Nat) (ws:Ents Unit) (es:List (AV × AV × Nat)) (clk:Nat),s=⟨t,119,hh,none⟩∧z=n-i∧i≤n∧tget t 0=.ptr g 0∧tget t 2=.str fr∧tget t 3=.str to∧tget t 4=.int .i64 tm∧tget t 12=.ptr x.p 0∧tget t 15=.mp mk∧tget t 65=w∧tget t 66=.int .i64 n∧tget t 67=.int .i64 i ∧
   HE hI hh∧mk<hh.no∧Mp.get hh.obj mk=some (.mp es clk)∧EntsR OneR ws es∧Born clk ws∧ws.length≤i) n
   ⟨_,_,0,[],[],0,rfl,rfl,by omega,by simp,by simp,by simp,by simp,by simp,by simp,by simp,by simp,by simp,eK,nK,gK,trivial,⟨by simp,by simp⟩,by simp⟩ ?_
  rintro _ s ⟨t,hh,i,ws,es,clk,rfl,rfl,hi,t0,t2,t3,t4,t12,t15,t65,t66,t67,he,nh,gm,en,bo,hwl⟩
  by_cases q:i<n
  case neg=>
   have q':¬(i:Int)<n:=by omega
   refine vF (cJ t66 (cJ t67 (cJ q q'))) ?_
   exact⟨rfl,_,_,ws,es,clk,rfl,by simp[t0],by simp[t2],by simp[t3],by simp[t4],by simp[t12],by simp[t15],he,nh,gm,en,bo,by omega⟩
  have q':(i:Int)<n:=by omega
  obtain⟨y,hy⟩:∃y,y=(lookM M fr to)[i]'(by omega):=⟨_,rfl⟩
  have ix:=sw.idx (k:=.i64) (i:=(i:Int)) Tryz.underlying80 z101 (by omega) (by rw[List.length_map];omega)
  replace ix:indexAddrAV Tryz.prog 80 w (.int .i64 (i:Int))=some (.el (encSeen y) 0):=by rw[ix];simp[hy]
  simp only[encSeen]at ix
  obtain⟨ip,hip⟩:∃ip,ip=i+1:=⟨_,rfl⟩
  have wip:IntKind.i64.wrap ((i:Int)+1)=(ip:Int):=by rw[wrap64 (by omega) (by omega)];omega
  obtain⟨es',en',ud⟩:=upd_ans (P:=Tryz.prog) (t:=149) (m:=mk) (clk:=clk) (k:=y.1) Tryz.underlying149 Tryz.underlying9 en (R:=OneR) (a:=()) (v:=.int .i64 1) rfl
  have zm:mk≠hh.no:=by omega
  refine vNj11 (cJ t65 (cJ t66 (cJ t67 (cJ q (cJ q' ix))))) ?_
  refine vF (cJ t15 (cJ ud (cJ gm zm))) ?_
  refine vF (cJ t67 wip) ?_
  refine⟨n-ip,by omega,_,_,ip,setF y.1 () clk ws,es',clkF y.1 clk ws,rfl,rfl,by omega,by simp[t0],by simp[t2],by simp[t3],by simp[t4],by simp[t12],by simp[t15],by simp[t65],by simp[t66],by simp,?_,?_,by simp,en',bo.set y.1 (),?_⟩
  ·exact((he.new _).set (by show hI.no≤hh.no;exact he.no) _).set (by omega) _
  ·show mk<hh.no+1;omega
  ·have:=setF_len y.1 () clk ws;omega
 rintro e s ⟨rfl,t,hh,ws,es,clk,rfl,t0,t2,t3,t4,t12,t15,he,nh,gm,en,bo,hwl⟩
 have trh:=(he.obj _ pI).trans trI
 have tmh:=(he.obj _ mI).trans tmI
 obtain⟨ents1,ents2⟩:=ents_ok1 TB.en TB.born
 obtain⟨ents3,ents4⟩:=ents_keys1 TB.en
 have esl:esB.length≤40:=by
  have h1:=TB.en.len
  have h2:=tok.wl
  have h3:=tok.o1
  omega
 refine vNj14 (cJ t12 (cJ trh tmh)) ?_
 obtain⟨it,hit⟩:∃it,it=hh.no:=⟨_,rfl⟩
 rw[←hit]
 refine W_heap ?_
 intro hL hhL
 have eL:HE hh hL:=by rw[hhL,hit];exact(HE.refl hh).new _
 have gi:Mp.get hL.obj it=some (.iter (some x.m) x.clk (([]:List (AV × AV × Nat)).map (·.2.2)) x.clk):=by rw[hhL];simp
 have nL:it<hL.no:=by rw[hhL,hit];exact Nat.lt_succ_self _
 clear hhL
 have itI:hI.no≤it:=by rw[hit];exact he.no
 have itmk:it≠mk:=by omega
 refine W.mono (R:=fun e s=>e=.exit 3∧∃(t:Fm AV) (hh:Hp Fm) (ws:Ents Unit) (es:List (AV × AV × Nat)) (clk:Nat),s=⟨t,119,hh,none⟩∧tget t 0=.ptr g 0∧tget t 4=.int .i64 tm∧tget t 12=.ptr x.p 0∧tget t 15=.mp mk ∧
   HE hI hh∧mk<hh.no∧Mp.get hh.obj mk=some (.mp es clk)∧EntsR OneR ws es∧Born clk ws∧ws.length≤n+40) ?_ ?_
 ·refine W_loop (fun z s=>∃(t:Fm AV) (h3:Hp Fm) (done:List (AV × AV × Nat)) (ws:Ents Unit) (es:List (AV × AV × Nat)) (clk:Nat),s=⟨t,119,h3,none⟩∧z=esB.length-done.length∧(∀e∈done,e∈esB)∧(done.map (·.2.2)).Nodup∧Mp.get h3.obj it=some (.iter (some x.m) x.clk (done.map (·.2.2)) x.clk) ∧
   tget t 0=.ptr g 0∧tget t 2=.str fr∧tget t 3=.str to∧tget t 4=.int .i64 tm∧tget t 12=.ptr x.p 0∧tget t 15=.mp mk∧tget t 79=.ptr it 0∧HE hI h3∧it<h3.no∧mk<h3.no∧Mp.get h3.obj mk=some (.mp es clk)∧EntsR OneR ws es∧Born clk ws∧ws.length≤n+done.length) esB.length
   ⟨_,_,[],ws,es,clk,rfl,by simp,by simp,by simp,gi,by simp[t0],by simp[t2],by simp[t3],by simp[t4],by simp[t12],by simp[t15],by simp,he.trans eL,nL,Nat.lt_of_lt_of_le nh eL.no,(eL.obj _ nh).trans gm,en,bo,by simpa using hwl⟩ ?_
  clear t0 t2 t3 t4 t12 t15 gm en bo hwl ws es clk t
  rintro _ _ ⟨t,h3,done,ws,es,clk,rfl,rfl,hd,hdn,hi3,t0,t2,t3,t4,t12,t15,t79,he3,n3,nm3,gm,en,bo,hwl⟩
  have hm3:=(he3.obj _ mI).trans tmI
  have dlen:=len_sub done esB (nodup_of_map _ hdn) hd
  refine vZ ?_
  with_reducible refine WO_next_i done ?_ rfl ?_ hi3 hm3 ents1 ents2 hd hdn ?_ ?_
  ·simp
  ·simp[t79]
  ·intro h5 k5 hp5
   refine vP ?_
   refine vZ ?_
   have z5:=k5.he
   exact⟨rfl,_,_,ws,es,clk,rfl,by simp[t0],by simp[t4],by simp[t12],by simp[t15],he3.trans z5,Nat.lt_of_lt_of_le nm3 z5.no,(z5.obj _ nm3).trans gm,en,bo,by omega⟩
  ·intro h5 e hin hnot k5 hno5 hit5
   replace hno5:h5.no=h3.no:=hno5
   replace k5:HX (fun q=>q=it) (fun _=>False) h3 h5:=k5
   have hm5:Mp.get h5.obj x.m=some (.mp esB x.clk):=(k5.obj _ (by have:=he3.no;omega) (by omega)).trans hm3
   have hen:=entry_some (done:=done) (h:=h5) (es:=esB) hit5 hm5 ents2 hin
   have hdn':((done++[e]).map (·.2.2)).Nodup:=by
    rw[List.map_append,List.nodup_append]
    refine⟨hdn,by simp,fun a ha b hb=>?_⟩
    simp only[List.map_cons,List.map_nil,List.mem_singleton]at hb
    subst hb;intro q;exact hnot (q▸ha)
   have hd':∀x∈done++[e],x∈esB:=fun x hx=>by
    rcases List.mem_append.mp hx with q | q
    ·exact hd x q
    ·rw[List.mem_singleton.mp q];exact hin
   have hln:=len_sub (done++[e]) esB (nodup_of_map _ hdn') hd'
   rw[List.length_append,List.length_singleton]at hln
   have ek:=ents4 e hin
   obtain⟨kk,hkk⟩:∃kk,kk=kstr e:=⟨_,rfl⟩
   rw[←hkk]at ek
   rw[ek]at hen
   have he5:HE hI h5:=he3.x2 k5 (fun q e=>by omega) (fun _ z=>z.elim)
   have gm5:=(k5.obj mk nm3 (fun z=>itmk z.symm)).trans gm
   have nm5:mk<h5.no:=by omega
   rw[ek]
   refine vP ?_
   by_cases q1:ltB kk fr=true
   ·refine vF (cJ t2 (cJ t3 (cJ t79 (cJ hen q1)))) ?_
    exact⟨esB.length-(done++[e]).length,by simp;omega,_,_,done++[e],ws,es,clk,rfl,rfl,hd',hdn',hit5,by simp[t0],by simp[t2],by simp[t3],by simp[t4],by simp[t12],by simp[t15],by simp[t79],he5,by omega,nm5,gm5,en,bo,by simp;omega⟩
   simp only[Bool.not_eq_true]at q1
   cases q2:ltB kk to with
   | false=>
    refine vF (cJ t2 (cJ t3 (cJ t79 (cJ hen (cJ q1 q2))))) ?_
    exact⟨esB.length-(done++[e]).length,by simp;omega,_,_,done++[e],ws,es,clk,rfl,rfl,hd',hdn',hit5,by simp[t0],by simp[t2],by simp[t3],by simp[t4],by simp[t12],by simp[t15],by simp[t79],he5,by omega,nm5,gm5,en,bo,by simp;omega⟩
   | true=>
    obtain⟨es',en',ud⟩:=upd_ans (P:=Tryz.prog) (t:=149) (m:=mk) (clk:=clk) (k:=kk) Tryz.underlying149 Tryz.underlying9 en (R:=OneR) (a:=()) (v:=.int .i64 1) rfl
    refine vF (cJ t2 (cJ t3 (cJ t15 (cJ t79 (cJ hen (cJ q1 (cJ q2 (cJ ud gm5)))))))) ?_
    refine⟨esB.length-(done++[e]).length,by simp;omega,_,_,done++[e],setF kk () clk ws,es',clkF kk clk ws,rfl,rfl,hd',hdn',?_,by simp[t0],by simp[t2],by simp[t3],by simp[t4],by simp[t12],by simp[t15],by simp[t79],he5.set (by omega) _,by show it<h5.no;omega,nm5,by simp,en',bo.set kk (),?_⟩
    ·show Mp.get (Mp.set h5.obj mk _) it=_
     rw[Mp.get_set,if_neg itmk];exact hit5
    ·have:=setF_len kk () clk ws
     simp;omega
 clear t0 t2 t3 t4 t12 t15 gm en bo hwl ws es clk t trh tmh nh he eL gi nL hL hit
 rintro e s ⟨rfl,t,hh,ws,es,clk,rfl,t0,t4,t12,t15,he,nh,gm,en,bo,hwl⟩
 refine vF t15 ?_
 refine A.mono (keysofi_ans mk hh) ?_
 rintro _ h2 ⟨rfl,gk2,hk2,e2⟩
 refine vP ?_
 refine vZ ?_
 obtain⟨wo1,wo2⟩:=ents_ok1 en bo
 obtain⟨wk1,wk2⟩:=ents_keys1 en
 have wel:=en.len
 refine A.mono (sorted_ans 100 (by simp) keys2_ans hh.no mk clk es wo1 wo2 kstr wk2 (by omega) h2 gk2 ((e2.obj _ nh).trans gm) (by omega) (by omega)) ?_
 rintro v h3 ⟨l,sv,pm_,_,e3⟩
 have he3:=he.trans (e2.trans e3)
 have vc:=sv.cells
 have vi:=sv.isCell
 have vn:=sv.nm
 have vl:=sv.len Tryz.underlying113
 rw[List.length_map]at vl
 have ll:l.length≤60000:=by rw[pm_.length_eq,List.length_map];omega
 obtain⟨N,hN⟩:∃N,N=l.length:=⟨_,rfl⟩
 rw[←hN]at vl ll
 refine vP ?_
 refine vF (cJ vc (cJ vi (cJ vn vl))) ?_
 refine W_loop (fun z s=>∃(t:Fm AV) (hh:Hp Fm) (i:Nat) (a:AV) (acc:List AV),s=⟨t,119,hh,none⟩∧z=N-i∧i≤N∧acc.length≤i∧tget t 0=.ptr g 0∧tget t 4=.int .i64 tm∧tget t 12=.ptr x.p 0∧tget t 19=a∧tget t 96=v∧tget t 97=.int .i64 N∧tget t 98=.int .i64 i∧AC hI hh 2 acc a∧HE hI hh) N
  ⟨_,_,0,_,[],rfl,rfl,by omega,by simp,by simp[t0],by simp[t4],by simp[t12],rfl,by simp,by simp,by simp,.inl ⟨by simp,rfl⟩,he3⟩ ?_
 clear t0 t4 t12 t15 t
 rintro _ s ⟨t,hq,i,a,acc,rfl,rfl,hi,hacc,t0,t4,t12,t19,t96,t97,t98,ac,heq⟩
 have uc:=ac.sv.cells
 have ui:=ac.sv.isCell
 by_cases q:i<N
 case neg=>
  have q':¬(i:Int)<N:=by omega
  refine vF (cJ t19 (cJ t97 (cJ t98 (cJ q (cJ q' (cJ uc ui)))))) ?_
  (first | apply endW_r | apply endW_n);(case h1=>(simp[Tryz.results49];first | done | rfl))
  obtain⟨r1,r2⟩:=fin hq heq
  exact⟨a,acc,0,rfl,ac.sv,.inr ⟨rfl,f1,j,hj,G4,rfl,by rw[←ex];exact r1,by rw[←ex];exact r2,fun q z=>by
   rcases hG4' with y | ⟨q1,y,y2⟩
   ·exact .inl (by rw[←ex,←y];exact z)
   ·rw[y]at z;rw[List.mem_singleton.mp z];have:=eDF.ng;exact .inr (by omega)⟩⟩
 have q':(i:Int)<N:=by omega
 obtain⟨key,hkey⟩:∃key,key=l[i]'(by omega):=⟨_,rfl⟩
 have ix:=sv.idx (k:=.i64) (i:=(i:Int)) Tryz.underlying113 z9 (by omega) (by rw[List.length_map];omega)
 replace ix:indexAddrAV Tryz.prog 113 v (.int .i64 (i:Int))=some (.el (.str key) 0):=by rw[ix];simp[hkey]
 obtain⟨ip,hip⟩:∃ip,ip=i+1:=⟨_,rfl⟩
 have wip:IntKind.i64.wrap ((i:Int)+1)=(ip:Int):=by rw[wrap64 (by omega) (by omega)];omega
 obtain⟨p80,pne⟩:=tok.pcsOf key
 refine vF (cJ t0 (cJ t4 (cJ t12 (cJ t96 (cJ t97 (cJ t98 (cJ q (cJ q' ix)))))))) ?_
 refine A.mono (sees_ans (mpI.he heq) x.p x.m x.clk x.st (x.ops+1) x.at_.b x.at_.e x.at_.s rdB x4 x.wr esB ((heq.obj _ pI).trans trI) ((heq.obj _ mI).trans tmI) TB.en (Nat.lt_of_lt_of_le pI heq.no) (Nat.lt_of_lt_of_le mI heq.no) key tm _ rfl (by omega) (pne tm)) ?_
 rintro _ h5 ⟨⟨str,b,rfl⟩,e5⟩
 have he5:=heq.trans e5
 have ac5:=ac.of e5
 refine vP ?_
 cases b with
 | false=>
  refine vF (cJ t19 (cJ t98 wip)) ?_
  exact⟨N-ip,by omega,_,_,ip,a,acc,rfl,rfl,by omega,by omega,by simp[t0],by simp[t4],by simp[t12],by simp[t19],by simp[t96],by simp[t97],by simp,ac5,he5⟩
 | true=>
  have hph:h5.pol 152=false:=by rw[he5.pol,xhI.pol];exact k.pol.pair
  refine vNj12 (cJ t19 (cJ uc (cJ ui hph))) ?_
  with_reducible apply WO_app_i;(case hw=>(simp[t19,uc,ui,newSeq,newSl,hph];done));(case ho=>rfl);(case hb=>rfl);(case ha=>(simp[t19,uc,ui,newSeq,newSl,hph];first | done | exact⟨rfl,rfl⟩ | rfl));(case h1=>(simp;first | done | rfl));(case h2=>(simp;first | done | rfl))
  refine app_then (AC.app (h0:=hI) etPair (ac5.of ((HE.refl h5).newSl 1)) (he5.newSl 1) (by rw[xhI.pol];exact k.pol.pair) (by omega)) ?_
  rintro y4 h6 ⟨ac6,he6,_,_,_⟩
  have yc:=ac6.sv.cells
  have yi:=ac6.sv.isCell
  refine vP ?_
  refine vF (cJ t98 (cJ yc (cJ yi wip))) ?_
  exact⟨N-ip,by omega,_,_,ip,y4,_,rfl,rfl,by omega,by simp;omega,by simp[t0],by simp[t4],by simp[t12],by simp,by simp[t96],by simp[t97],by simp,ac6,he6⟩
end Go.Vn

set_option maxRecDepth 20000
namespace Go.Vn
open Go.Proofs
theorem eqlST(d:Nat)(a b c x y z:Int):eqlAV Tryz.prog (d+2) 29 (.agg [.int .i64 a,.int .i64 b,.int .i64 c]) (.agg [.int .i64 x,.int .i64 y,.int .i64 z])=some (decide (a=x)&&decide (b=y)&&decide (c=z)):=by
 have hg:(Tryz.prog.stoodInHeld 29 || Tryz.prog.eqGuardType Tryz.prog.depth 29)=false:=by kernel_rfl
 unfold eqlAV
 rw[Tryz.underlying29]
 simp only[hg,Bool.false_eq_true,if_false]
 simp[eqlAV,partAV]
 by_cases h1:a=x <;> by_cases h2:b=y <;> by_cases h3:c=z <;> simp[h1,h2,h3]
theorem eqlTX(d:Nat)(a b:List UInt8):eqlAV Tryz.prog (d+1) 9 (.str a) (.str b)=some (eqB a b):=by simp[eqlAV,Tryz.underlying9]
theorem eqlSE(s t:List UInt8 × St3):eqlAV Tryz.prog 20 101 (encSeen s) (encSeen t)=some (decide (s=t)):=by
 obtain⟨a,⟨x,y,z⟩⟩:=s
 obtain⟨b,⟨u,v,w⟩⟩:=t
 have hg:(Tryz.prog.stoodInHeld 101 || Tryz.prog.eqGuardType Tryz.prog.depth 101)=false:=by kernel_rfl
 unfold eqlAV
 rw[Tryz.underlying101]
 simp only[hg,Bool.false_eq_true,if_false,encSeen]
 simp[eqlTX,eqlST,partAV,eqB_dec]
 by_cases h1:a=b <;> by_cases h2:x=u <;> by_cases h3:y=v <;> by_cases h4:z=w <;> simp[h1,h2,h3,h4]
theorem eql_st(s t:St3):eqlAV Tryz.prog 20 29 (.agg [.int .i64 s.b,.int .i64 s.e,.int .i64 s.s]) (.agg [.int .i64 t.b,.int .i64 t.e,.int .i64 t.s])=some (decide (s=t)):=by
 rw[eqlST 18 s.b s.e s.s t.b t.e t.s]
 obtain⟨a,b,c⟩:=s
 obtain⟨x,y,z⟩:=t
 by_cases h1:a=x <;> by_cases h2:b=y <;> by_cases h3:c=z <;> simp[h1,h2,h3]
set_option maxHeartbeats 1000000 in
theorem eqseen_ans(a b:List (List UInt8 × St3))(va vb:AV)(sa:SV 4 (a.map encSeen) va)(sb:SV 4 (b.map encSeen) vb)(hl:a.length≤1000000)(h0:Hp Fm) :
  A Tryz.prog TT (.func 62) [va,vb] h0 (fun r h'=>r=.bool (decide (a=b))∧HE h0 h'):=by
 have ac:=sa.cells
 have ai:=sa.isCell
 have an:=sa.nm
 have al:=sa.len Tryz.underlying80
 have bc:=sb.cells
 have bi:=sb.isCell
 have bn:=sb.nm
 have bl:=sb.len Tryz.underlying80
 rw[List.length_map]at al bl
 obtain⟨n,hn⟩:∃n,n=a.length:=⟨_,rfl⟩
 obtain⟨m,hm⟩:∃m,m=b.length:=⟨_,rfl⟩
 rw[←hn]at al hl
 rw[←hm]at bl
 by_cases q:n=m
 case neg=>
  have q':¬((n:Int)=m):=by omega
  apply A_go Tryz.func62 rfl (by rfl);(case hn=>(simp[Tryz.ntmps62];rfl))
  refine vF (cJ ac (cJ ai (cJ an (cJ al (cJ bc (cJ bi (cJ bn (cJ bl (cJ q q'))))))))) ?_
  (first | apply endW_r | apply endW_n);(case h1=>(simp[Tryz.results62];first | done | rfl))
  refine⟨?_,HE.refl _⟩
  have:¬a=b:=fun e=>q (by rw[hn,hm,e])
  simp[this]
 have q':((n:Int)=m):=by omega
 rw[←q]at hm bl
 have qs:((n:Int)=n):=rfl
 apply A_go Tryz.func62 rfl (by rfl);(case hn=>(simp[Tryz.ntmps62];rfl))
 refine vF (cJ ac (cJ ai (cJ an (cJ al (cJ bc (cJ bi (cJ bn bl))))))) ?_
 refine W_loop (fun z s=>∃(t:Fm AV) (h:Hp Fm) (i:Nat),s=⟨t,26,h,none⟩∧z=n-i∧i≤n∧tget t 0=va∧tget t 1=vb∧tget t 12=.int .i64 n∧tget t 13=.int .i64 i∧a.take i=b.take i∧HE h0 h) n
  ⟨_,_,0,rfl,rfl,by omega,by simp,by simp,by simp,by simp,by simp,HE.refl _⟩ ?_
 rintro _ s ⟨t,h,i,rfl,rfl,hi,t0,t1,t12,t13,heq,he⟩
 by_cases qi:i<n
 case neg=>
  have qi':¬(i:Int)<n:=by omega
  refine vF (cJ t12 (cJ t13 (cJ qi qi'))) ?_
  (first | apply endW_r | apply endW_n);(case h1=>(simp[Tryz.results62];first | done | rfl))
  rw[List.take_of_length_le (by omega),List.take_of_length_le (by omega)]at heq
  exact⟨by simp[heq],he⟩
 have qi':(i:Int)<n:=by omega
 obtain⟨x,hx⟩:∃x,x=a[i]'(by omega):=⟨_,rfl⟩
 obtain⟨y,hy⟩:∃y,y=b[i]'(by omega):=⟨_,rfl⟩
 have ix:=sa.idx (k:=.i64) (i:=(i:Int)) Tryz.underlying80 z101 (by omega) (by rw[List.length_map];omega)
 replace ix:indexAddrAV Tryz.prog 80 va (.int .i64 (i:Int))=some (.el (encSeen x) 0):=by rw[ix];simp[hx]
 have iy:=sb.idx (k:=.i64) (i:=(i:Int)) Tryz.underlying80 z101 (by omega) (by rw[List.length_map];omega)
 replace iy:indexAddrAV Tryz.prog 80 vb (.int .i64 (i:Int))=some (.el (encSeen y) 0):=by rw[iy];simp[hy]
 simp only[encSeen]at ix iy
 obtain⟨ip,hip⟩:∃ip,ip=i+1:=⟨_,rfl⟩
 have wip:IntKind.i64.wrap ((i:Int)+1)=(ip:Int):=by rw[wrap64 (by omega) (by omega)];omega
 have nq:=eqlSE x y
 simp only[encSeen]at nq
 refine vF (cJ t12 (cJ t13 (cJ qi qi'))) ?_
 (with_reducible refine W_draw_id (pln:=true) [0,1,2,3,4,5,6,7,8] [(3,(3,[])),(7,(7,[]))] (by kernel_rfl) rfl ?_)
 by_cases e:x=y
 ·rw[e]at nq ix
  have nq':=nq
  simp only[decide_true]at nq'
  refine vF (cJ t0 (cJ t1 (cJ ix (cJ iy nq')))) ?_
  refine⟨by simp[readSame,beqAV_self,t0,t1,ix,iy];done,_,by simp;first | done | rfl,?_⟩
  refine vF (cJ t13 wip) ?_
  refine⟨n-ip,by omega,_,_,ip,rfl,rfl,by omega,by simp[t0],by simp[t1],by simp[t12],by simp,?_,he.drew⟩
  rw[hip,List.take_succ_eq_append_getElem (by omega),List.take_succ_eq_append_getElem (by omega),heq,←hx,←hy,e]
 ·have nq':=nq
  simp only[e,decide_false]at nq'
  refine vF (cJ t0 (cJ t1 (cJ ix (cJ iy nq')))) ?_
  refine⟨by simp[readSame,beqAV_self,t0,t1,ix,iy];done,_,by simp;first | done | rfl,?_⟩
  refine vZ ?_
  (first | apply endW_r | apply endW_n);(case h1=>(simp[Tryz.results62];first | done | rfl))
  refine⟨?_,he.drew⟩
  have:¬a=b:=fun z=>e (by subst z;rw[hx,hy])
  simp[this]
end Go.Vn

set_option maxRecDepth 20000
namespace Go.Vn
open Go.Proofs
def readOk(xs:List Tr)(x:Tr)(M:Mem)(s:List UInt8 × St3):Bool:=decide (lastM M s.1=s.2) && !(xs.any fun y=>lockQ x y (fun k=>decide (k=s.1)))
def scanOk(xs:List Tr)(x:Tr)(M:Mem)(s:List UInt8 × List UInt8 × List (List UInt8 × St3)):Bool:=decide (lookM M s.1 s.2.1=s.2.2) && !(xs.any fun y=>lockQ x y (fun k => !ltB k s.1&&ltB k s.2.1))
def validM(xs:List Tr)(x:Tr)(M:Mem):Bool:=x.rd.all (readOk xs x M)&&x.sc.all (scanOk xs x M)
theorem val1_ans(s:List UInt8 × St3)(h:Hp Fm)(bx:Nat)(hb:Mp.get h.obj bx=some (.row [.str s.1,.int .i64 s.2.b,.int .i64 s.2.e,.int .i64 s.2.s]))(bn:bx<h.no)(dom:List (List UInt8)):CL h 61 [.ptr bx 0] dom (fun k=>decide (k=s.1)):=by
 intro k _ h1 e1
 have gb:=(e1.obj _ bn).trans hb
 apply A_go Tryz.func61 rfl (by rfl);(case hn=>(simp[Tryz.ntmps61];rfl))
 refine vF gb ?_
 (first | apply endW_r | apply endW_n);(case h1=>(simp[Tryz.results61];first | done | rfl))
 exact⟨by rw[eqB_dec],HE.refl _⟩
theorem val2_ans(a b:List UInt8)(w:AV)(h:Hp Fm)(bx:Nat)(hb:Mp.get h.obj bx=some (.row [.str a,.str b,w]))(bn:bx<h.no)(dom:List (List UInt8)):CL h 64 [.ptr bx 0] dom (fun k => !ltB k a&&ltB k b):=by
 intro k _ h1 e1
 have gb:=(e1.obj _ bn).trans hb
 cases q:ltB k a with
 | true=>
  apply A_go Tryz.func64 rfl (by rfl);(case hn=>(simp[Tryz.ntmps64];rfl))
  refine vF (cJ gb q) ?_
  (first | apply endW_r | apply endW_n);(case h1=>(simp[Tryz.results64];first | done | rfl))
  exact⟨by simp[q],HE.refl _⟩
 | false=>
  cases q2:ltB k b with
  | true=>
   apply A_go Tryz.func64 rfl (by rfl);(case hn=>(simp[Tryz.ntmps64];rfl))
   refine vF (cJ gb (cJ q q2)) ?_
   (first | apply endW_r | apply endW_n);(case h1=>(simp[Tryz.results64];first | done | rfl))
   exact⟨by simp[q,q2],HE.refl _⟩
  | false=>
   apply A_go Tryz.func64 rfl (by rfl);(case hn=>(simp[Tryz.ntmps64];rfl))
   refine vF (cJ gb (cJ q q2)) ?_
   (first | apply endW_r | apply endW_n);(case h1=>(simp[Tryz.results64];first | done | rfl))
   exact⟨by simp[q,q2],HE.refl _⟩
theorem ScR.at_:∀{ss:List (List UInt8 × List UInt8 × List (List UInt8 × St3))} {vs:List AV},ScR ss vs→∀{i:Nat} (hi:i<ss.length),∃w,vs[i]? = some (.agg [.str (ss[i]).1,.str (ss[i]).2.1,w])∧SV 4 ((ss[i]).2.2.map encSeen) w
 | [],_,_,i,hi=>by cases hi
 | _::_,[],h,i,hi=>h.elim
 | s::ss,v::vs,h,i,hi=>by
  cases i with
  | zero=>obtain⟨w,e1,e2⟩:=h.1;exact⟨w,by simp[e1],e2⟩
  | succ i=>obtain⟨w,e1,e2⟩:=ScR.at_ h.2 (i:=i) (by simpa using hi);exact⟨w,by simpa using e1,by simpa using e2⟩
theorem all_take{α:Type}{l:List α}{p:α→Bool}{i:Nat}(h:(l.take i).all p=true)(hi:i<l.length)(hp:p l[i]=true):(l.take (i+1)).all p=true:=by
 rw[List.take_succ_eq_append_getElem hi,List.all_append,h];simp[hp]
theorem vNl10{F G K:Prop}(f:F)(k:K)(h:F→K→G:=by intro f k;(repeat(first|with_reducible first|refine vmR ?_|refine vmV rfl ?_|refine vmW rfl ?_|refine vmL ?_|refine blockW_y (by decide) ?_|((with_reducible first|apply vmO|apply vmT|apply vmC);case a=>simp[f,splice];with_reducible first|exact .v|exact .c|exact .t|exact .f)));exact k):G:=h f k
set_option maxHeartbeats 4000000 in
theorem valid_m{hz h:Hp Fm}{D:Nat→Prop}{g pm:Nat}{ep sq:Int}{xs:List Tr}{lv:AV}{lg:List Nat}{bs:List Br}{M:Mem}(k:Sys hz h D g pm ep sq xs lv lg bs M)(x:Tr)(hx:x∈xs) :
  A Tryz.prog TT (.func 33) [.ptr g 0,.ptr x.p 0] h (fun r h'=>r=.bool (validM xs x M)∧HE h h'):=by
 have tok:=k.tx x hx
 have tm1:=tok.o1
 have hwl:∀y∈xs,y.wr.length≤60000:=fun y hy=>by have:=(k.tx y hy).wl;have:=(k.tx y hy).o1;omega
 obtain⟨es,rdv,scv,sls,T⟩:=k.eng.tr x hx
 have tr:=T.row
 rw[tok.br]at tr
 obtain⟨rc,ri⟩:rdv.cells=[rdv]∧rdv.isCell=true:=⟨T.rd.sv.cells,T.rd.sv.isCell⟩
 obtain⟨sc,si⟩:scv.cells=[scv]∧scv.isCell=true:=⟨T.sc.sv.cells,T.sc.sv.isCell⟩
 have rl:=T.rd.sv.len Tryz.underlying80
 have rn:=T.rd.sv.nm
 have sl:=T.sc.sv.len Tryz.underlying81
 have sn:=T.sc.sv.nm
 rw[List.length_map]at rl
 obtain⟨n,hn⟩:∃n,n=x.rd.length:=⟨_,rfl⟩
 obtain⟨m,hm⟩:∃m,m=x.sc.length:=⟨_,rfl⟩
 have hml:=T.scr.len
 rw[←hn]at rl
 rw[hml,←hm]at sl
 have nb:n≤40:=by have:=tok.rd;omega
 have mb:m≤40:=by have:=tok.sc;omega
 apply A_go Tryz.func33 rfl (by rfl);(case hn=>(simp[Tryz.ntmps33];rfl))
 refine vF (cJ tr (cJ rc (cJ ri (cJ rl rn)))) ?_
 refine W_loop (fun z s=>∃(t:Fm AV) (hh:Hp Fm) (i:Nat),s=⟨t,67,hh,none⟩∧z=n-i∧i≤n∧tget t 0=.ptr g 0∧tget t 1=.ptr x.p 0∧tget t 12=rdv∧tget t 13=.int .i64 n∧tget t 14=.int .i64 i∧(x.rd.take i).all (readOk xs x M)=true∧HE h hh) n
  ⟨_,_,0,rfl,rfl,by omega,by simp,by simp,by simp,by simp,by simp,by simp,HE.refl _⟩ ?_
 rintro _ s ⟨t,hh,i,rfl,rfl,hi,t0,t1,t12,t13,t14,hall,he⟩
 by_cases q:i<n
 case pos=>
  have q':(i:Int)<n:=by omega
  obtain⟨s,hs⟩:∃s,s=x.rd[i]'(by omega):=⟨_,rfl⟩
  have ix:=T.rd.sv.idx (k:=.i64) (i:=(i:Int)) Tryz.underlying80 z101 (by omega) (by rw[List.length_map];omega)
  replace ix:indexAddrAV Tryz.prog 80 rdv (.int .i64 (i:Int))=some (.el (encSeen s) 0):=by rw[ix];simp[hs]
  simp only[encSeen]at ix
  obtain⟨ip,hip⟩:∃ip,ip=i+1:=⟨_,rfl⟩
  have wip:IntKind.i64.wrap ((i:Int)+1)=(ip:Int):=by rw[wrap64 (by omega) (by omega)];omega
  have hnot:readOk xs x M s=false→validM xs x M=false:=fun e=>by
   have:x.rd.all (readOk xs x M)=false:=by
    rw[Bool.eq_false_iff]
    intro z
    have:=List.all_eq_true.mp z s (by rw[hs];exact List.getElem_mem _)
    rw[e]at this;cases this
   simp[validM,this]
  refine vNl10 (cJ t12 (cJ t13 (cJ t14 (cJ q (cJ q' ix))))) ?_
  refine W_heap ?_
  intro hA hhA
  have eA:HE hh hA:=by rw[hhA];exact((HE.refl hh).new _).set (Nat.le_refl _) _
  have gA:Mp.get hA.obj hh.no=some (.row [.str s.1,.int .i64 s.2.b,.int .i64 s.2.e,.int .i64 s.2.s]):=by rw[hhA];simp
  have nA:hh.no<hA.no:=by rw[hhA];exact Nat.lt_succ_self _
  clear hhA
  have heA:=he.trans eA
  have trA:=(heA.obj _ T.pn).trans tr
  have kA:=k.he heA
  (with_reducible refine W_draw_id (pln:=true) [0,1,2,3,4,5,6,7,8,9,10,11,12,13,14,15,16] [(4,(4,[])),(6,(6,[])),(9,(9,[0]))] (by kernel_rfl) rfl ?_)
  refine vF (cJ t0 (cJ t1 (cJ trA gA))) ?_
  refine A.mono (last_ans ((k.he heA).memP.he (HE.refl hA).drew) s.1) ?_
  rintro _ hB ⟨rfl,eB⟩
  have eAB:=((HE.refl hA).drew).trans eB
  have gB:=(eAB.obj _ nA).trans gA
  have trB:=(eAB.obj _ (Nat.lt_of_lt_of_le T.pn heA.no)).trans trA
  have heB:=heA.trans eAB
  have kB:=k.he heB
  have nB:hh.no<hB.no:=Nat.lt_of_lt_of_le nA eAB.no
  simp only[encSt]
  have es1:=eql_st (lastM M s.1) s.2
  refine vP ?_
  by_cases q1:lastM M s.1=s.2
  case neg=>
   have rf:readOk xs x M s=false:=by simp[readOk,q1]
   simp only[q1,decide_false]at es1
   refine vF (cJ t0 (cJ t1 (cJ trA (cJ gA (cJ trB (cJ gB es1)))))) ?_
   refine⟨by simp[readSame,beqAV_self,t0,t1,trA,gA,trB,gB];done,_,by simp;first | done | rfl,?_⟩
   refine vZ ?_
   (first | apply endW_r | apply endW_n);(case h1=>(simp[Tryz.results33];first | done | rfl))
   exact⟨by rw[hnot rf],heB⟩
  simp only[q1,decide_true]at es1
  rw[←q1]at gB gA
  rw[q1]at gB gA
  refine vF (cJ t0 (cJ t1 (cJ trA (cJ gA (cJ trB (cJ gB (cJ q1 es1))))))) ?_
  refine A.mono (locked_ans hz hB g pm ep sq xs lv lg kB.eng x hx k.xl2 hwl 61 (by simp) [.ptr hh.no 0] (fun kk=>decide (kk=s.1)) (fun y _=>val1_ans s hB hh.no gB nB _)) ?_
  rintro _ hC ⟨rfl,eC⟩
  have gC:=(eC.obj _ nB).trans gB
  have trC:=(eC.obj _ (Nat.lt_of_lt_of_le T.pn heB.no)).trans trB
  have heC:=heB.trans eC
  refine vP ?_
  cases q2:(xs.any fun y=>lockQ x y fun kk=>decide (kk=s.1))with
  | true=>
   have rf:readOk xs x M s=false:=by simp only[readOk,q2];simp
   refine vF (cJ t0 (cJ t1 (cJ trA (cJ gA (cJ trB (cJ gB (cJ trC gC))))))) ?_
   refine⟨by simp[readSame,beqAV_self,t0,t1,trA,gA,trB,gB,trC,gC];done,_,by simp;first | done | rfl,?_⟩
   refine vZ ?_
   (first | apply endW_r | apply endW_n);(case h1=>(simp[Tryz.results33];first | done | rfl))
   exact⟨by rw[hnot rf],heC⟩
  | false=>
   have rf:readOk xs x M s=true:=by simp only[readOk,q2,q1];simp
   refine vF (cJ t0 (cJ t1 (cJ trA (cJ gA (cJ trB (cJ gB (cJ trC gC))))))) ?_
   refine⟨by simp[readSame,beqAV_self,t0,t1,trA,gA,trB,gB,trC,gC];done,_,by simp;first | done | rfl,?_⟩
   refine vF (cJ t14 wip) ?_
   exact⟨n-ip,by omega,_,_,ip,rfl,rfl,by omega,by simp[t0],by simp[t1],by simp[t12],by simp[t13],by simp,by rw[hip];exact all_take hall (by omega) (by rw[←hs];exact rf),heC⟩
 have q':¬(i:Int)<n:=by omega
 rw[List.take_of_length_le (by omega)]at hall
 have trh:=(he.obj _ T.pn).trans tr
 refine vF (cJ t1 (cJ t13 (cJ t14 (cJ q (cJ q' (cJ trh (cJ sc (cJ si (cJ sl sn))))))))) ?_
 refine W_loop (fun z s=>∃(t:Fm AV) (hh:Hp Fm) (i:Nat),s=⟨t,67,hh,none⟩∧z=m-i∧i≤m∧tget t 0=.ptr g 0∧tget t 1=.ptr x.p 0∧tget t 39=scv∧tget t 40=.int .i64 m∧tget t 41=.int .i64 i∧(x.sc.take i).all (scanOk xs x M)=true∧HE h hh) m
  ⟨_,_,0,rfl,rfl,by omega,by simp[t0],by simp[t1],by simp,by simp,by simp,by simp,he⟩ ?_
 clear t0 t1 t12 t13 t14 he trh hi q q' t hh i
 rintro _ s ⟨t,hh,i,rfl,rfl,hi,t0,t1,t39,t40,t41,hall2,he⟩
 by_cases q:i<m
 case neg=>
  have q':¬(i:Int)<m:=by omega
  rw[List.take_of_length_le (by omega)]at hall2
  refine vF (cJ t40 (cJ t41 (cJ q q'))) ?_
  (first | apply endW_r | apply endW_n);(case h1=>(simp[Tryz.results33];first | done | rfl))
  exact⟨by simp[validM,hall,hall2],he⟩
 have q':(i:Int)<m:=by omega
 obtain⟨s,hs⟩:∃s,s=x.sc[i]'(by omega):=⟨_,rfl⟩
 obtain⟨w,ew,sw⟩:=T.scr.at_ (i:=i) (by omega)
 rw[←hs]at ew sw
 have hil:i<sls.length:=by omega
 have ix:=T.sc.sv.idx (k:=.i64) (i:=(i:Int)) Tryz.underlying81 z130 (by omega) (by omega)
 replace ix:indexAddrAV Tryz.prog 81 scv (.int .i64 (i:Int))=some (.el (.agg [.str s.1,.str s.2.1,w]) 0):=by
  rw[ix]
  rw[List.getElem?_eq_getElem hil]at ew
  injection ew with ew
  simp[ew]
 have wc:=sw.cells
 have wi:=sw.isCell
 obtain⟨ip,hip⟩:∃ip,ip=i+1:=⟨_,rfl⟩
 have wip:IntKind.i64.wrap ((i:Int)+1)=(ip:Int):=by rw[wrap64 (by omega) (by omega)];omega
 have hnot:scanOk xs x M s=false→validM xs x M=false:=fun e=>by
  have:x.sc.all (scanOk xs x M)=false:=by
   rw[Bool.eq_false_iff]
   intro z
   have:=List.all_eq_true.mp z s (by rw[hs];exact List.getElem_mem _)
   rw[e]at this;cases this
  simp[validM,this]
 refine vNl10 (cJ t39 (cJ t40 (cJ t41 (cJ q (cJ q' (cJ ix (cJ wc wi))))))) ?_
 refine W_heap ?_
 intro hA hhA
 have eA:HE hh hA:=by rw[hhA];exact((HE.refl hh).new _).set (Nat.le_refl _) _
 have gA:Mp.get hA.obj hh.no=some (.row [.str s.1,.str s.2.1,w]):=by rw[hhA];simp
 have nA:hh.no<hA.no:=by rw[hhA];exact Nat.lt_succ_self _
 clear hhA
 have heA:=he.trans eA
 have trA:=(heA.obj _ T.pn).trans tr
 (with_reducible refine W_draw_id (pln:=true) [0,1,2,3,4,5,6,7,8,9,10,11,12,13,14,15,16,17,18,19,20] [(4,(4,[])),(6,(6,[])),(8,(8,[])),(12,(12,[0]))] (by kernel_rfl) rfl ?_)
 refine vF (cJ t0 (cJ t1 (cJ trA gA))) ?_
 refine A.mono (look_ans ((k.he heA).memP.he (HE.refl hA).drew) s.1 s.2.1) ?_
 rintro _ hB ⟨⟨w2,rfl,sw2⟩,eB⟩
 have wc2:=sw2.cells
 have wi2:=sw2.isCell
 have eAB:=((HE.refl hA).drew).trans eB
 have gB:=(eAB.obj _ nA).trans gA
 have trB:=(eAB.obj _ (Nat.lt_of_lt_of_le T.pn heA.no)).trans trA
 have heB:=heA.trans eAB
 have nB:hh.no<hB.no:=Nat.lt_of_lt_of_le nA eAB.no
 refine vP ?_
 have lkl:(lookM M s.1 s.2.1).length≤1000000:=by rw[lookM,List.length_map];have:=keysM_len M s.1 s.2.1;have:=k.len;omega
 refine vF (cJ t0 (cJ t1 (cJ trA (cJ gA (cJ trB (cJ gB (cJ wc (cJ wi (cJ wc2 wi2))))))))) ?_
 refine A.mono (eqseen_ans _ _ w2 w sw2 sw lkl hB) ?_
 rintro _ hC ⟨rfl,eC⟩
 have gC:=(eC.obj _ nB).trans gB
 have trC:=(eC.obj _ (Nat.lt_of_lt_of_le T.pn heB.no)).trans trB
 have heC:=heB.trans eC
 have nC:hh.no<hC.no:=Nat.lt_of_lt_of_le nB eC.no
 have kC:=k.he heC
 refine vP ?_
 by_cases q1:lookM M s.1 s.2.1=s.2.2
 case neg=>
  have rf:scanOk xs x M s=false:=by simp[scanOk,q1]
  refine vF (cJ t0 (cJ t1 (cJ trA (cJ gA (cJ trB (cJ gB (cJ trC (cJ gC (cJ q1 (cJ wc (cJ wi (cJ wc2 wi2)))))))))))) ?_
  refine⟨by simp[readSame,beqAV_self,t0,t1,trA,gA,trB,gB,trC,gC,wc,wi,wc2,wi2];done,_,by simp;first | done | rfl,?_⟩
  refine vZ ?_
  (first | apply endW_r | apply endW_n);(case h1=>(simp[Tryz.results33];first | done | rfl))
  exact⟨by rw[hnot rf],heC⟩
 refine vF (cJ t0 (cJ t1 (cJ trA (cJ gA (cJ trB (cJ gB (cJ trC (cJ gC (cJ q1 (cJ wc (cJ wi (cJ wc2 wi2)))))))))))) ?_
 refine A.mono (locked_ans hz hC g pm ep sq xs lv lg kC.eng x hx k.xl2 hwl 64 (by simp) [.ptr hh.no 0] (fun kk => !ltB kk s.1&&ltB kk s.2.1) (fun y _=>val2_ans s.1 s.2.1 w hC hh.no gC nC _)) ?_
 rintro _ hD ⟨rfl,eD⟩
 have gD:=(eD.obj _ nC).trans gC
 have trD:=(eD.obj _ (Nat.lt_of_lt_of_le T.pn heC.no)).trans trC
 have heD:=heC.trans eD
 refine vP ?_
 cases q2:(xs.any fun y=>lockQ x y fun kk => !ltB kk s.1&&ltB kk s.2.1)with
 | true=>
  have rf:scanOk xs x M s=false:=by simp only[scanOk,q2];simp
  refine vF (cJ t0 (cJ t1 (cJ trA (cJ gA (cJ trB (cJ gB (cJ trC (cJ gC (cJ trD (cJ gD (cJ wc (cJ wi (cJ wc2 wi2))))))))))))) ?_
  refine⟨by simp[readSame,beqAV_self,t0,t1,trA,gA,trB,gB,trC,gC,trD,gD,wc,wi,wc2,wi2];done,_,by simp;first | done | rfl,?_⟩
  refine vZ ?_
  (first | apply endW_r | apply endW_n);(case h1=>(simp[Tryz.results33];first | done | rfl))
  exact⟨by rw[hnot rf],heD⟩
 | false=>
  have rf:scanOk xs x M s=true:=by simp only[scanOk,q2,q1];simp
  refine vF (cJ t0 (cJ t1 (cJ trA (cJ gA (cJ trB (cJ gB (cJ trC (cJ gC (cJ trD (cJ gD (cJ wc (cJ wi (cJ wc2 wi2))))))))))))) ?_
  refine⟨by simp[readSame,beqAV_self,t0,t1,trA,gA,trB,gB,trC,gC,trD,gD,wc,wi,wc2,wi2];done,_,by simp;first | done | rfl,?_⟩
  refine vF (cJ t41 wip) ?_
  exact⟨m-ip,by omega,_,_,ip,rfl,rfl,by omega,by simp[t0],by simp[t1],by simp[t39],by simp[t40],by simp,by rw[hip];exact all_take hall2 (by omega) (by rw[←hs];exact rf),heD⟩
end Go.Vn
