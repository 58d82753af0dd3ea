/- The value machine: regions in the order of the text, code, calls: what the machine answers, the model does. No condition. -/
import Derived.Test.YtplcehpejjfjoaaGreatVnB3
import Derived.OrdersIn
import Derived.RangeFuncLeaves
set_option linter.unusedSimpArgs false
set_option linter.unusedVariables false
namespace Go.Vn
section
variable {μ:Type→Type} [Mp μ] {P:Program}
variable {ψ:Gh} {w:World}
structure TR(ψ:Gh)(w:World)(t:μ AV)(nt:Nat)(a:Act):Prop where
 size:nt≤a.tmps.size
 val:∀i,VR ψ w (tget t i) (a.tmps.getD i Go.undef)
theorem TR.mono{ψ':Gh}{w':World}(E:Ext ψ w ψ' w'){t:μ AV}{nt:Nat}{a:Act}(h:TR ψ w t nt a):TR ψ' w' t nt a:=⟨h.size,fun i=>(h.val i).mono E⟩
theorem TR.ev{t:μ AV}{nt:Nat}{a:Act}(h:TR ψ w t nt a)(x:Operand):VR ψ w (Vn.ev t x) (a.eval x):=by
 cases x with
 | tmp i=>exact h.val i
 | const v=>exact VR_ofVal v
 | global g=>exact .bad _
 | func f=>exact .fn _ [] [] _ _ rfl rfl (fun i hi=>absurd hi (by simp)) (fun i hi=>absurd hi (by simp))
theorem tget_set(t:μ AV)(d:Nat)(v:AV)(i:Nat):tget (Mp.set t d v) i=if i=d then v else tget t i:=by
 unfold tget
 rw[Mp.get_set]
 split <;> rfl
theorem getD_set(x:Array Value)(d:Nat)(v:Value)(i:Nat)(hd:d<x.size):(x.setIfInBounds d v).getD i Go.undef=if i=d then v else x.getD i Go.undef:=by
 simp only[Array.getD_eq_getD_getElem?]
 by_cases h:i=d
 ·subst h;rw[if_pos rfl,Array.getElem?_setIfInBounds_self_of_lt hd];rfl
 ·rw[if_neg h,Array.getElem?_setIfInBounds_ne (by omega)]
theorem TR.put{st st':St μ}{a:Act}{dst:Option Nat}{v:AV}{u:Value}(h:TR ψ w st.t st.nt a)(hv:VR ψ w v u)(hp:Vn.put st dst v=some st'):TR ψ w st'.t st'.nt (a.put dst u)∧st'.h=st.h∧st'.nt=st.nt∧st'.ro=st.ro:=by
 unfold Vn.put at hp
 cases dst with
 | none=>cases hp;exact⟨h,rfl,rfl,rfl⟩
 | some d=>
  simp only at hp
  split at hp
  ·rename_i hd
   cases hp
   refine⟨⟨by simp[Act.put,h.size],fun i=>?_⟩,rfl,rfl,rfl⟩
   simp only[Act.put,tget_set]
   rw[getD_set _ _ _ _ (by have:=h.size;omega)]
   split
   ·exact hv
   ·exact h.val i
  ·cases hp
theorem put_defers(a:Act)(dst:Option Nat)(u:Value):(a.put dst u).defers=a.defers:=by cases dst <;> rfl
def asB:Option Value→Option Bool
 | some (.bool b)=>some b
 | _=>none
theorem yielded_asB(ops:Array Oper)(tmps:Array Value)(j:Nat):yielded ops tmps j=asB (((ops[j]?).bind (·.dst)).bind (tmps[·]?)):=by
 unfold yielded asB
 cases ((ops[j]?).bind (·.dst)).bind (tmps[·]?)with
 | none=>rfl
 | some v=>cases v <;> rfl
theorem want_sound{ops:Array Oper}{t:μ AV}{nt:Nat}{a:Act}{o:Oper}{b:Bool}(h:TR ψ w t nt a)(hw:want ops t o=some b):Region.wanted o (yielded ops a.tmps)=b:=by
 unfold want at hw
 unfold Region.wanted
 split at hw
 ·rename_i hg;cases hw;simp[hg]
 ·rename_i j q hg
  rw[hg]
  show(yielded ops a.tmps j == some q)=b
  rw[yielded_asB]
  split at hw
  ·rename_i hd
   cases hw
   rw[hd];rfl
  ·rename_i d hd
   have hv:=h.val d
   rw[hd]
   simp only[Option.bind_some]
   simp only[Array.getD_eq_getD_getElem?]at hv
   cases hx:a.tmps[d]? with
   | none=>
    rw[hx]at hv
    simp only[Option.getD_none]at hv
    split at hw
    ·rename_i q2 ht;rw[ht]at hv;cases hv
    ·cases hw
    ·cases hw;rfl
   | some xv=>
    rw[hx]at hv
    simp only[Option.getD_some]at hv
    split at hw
    ·rename_i q2 ht
     rw[ht]at hv
     cases hv
     cases hw
     rfl
    ·cases hw
    ·rename_i ht1 ht2
     cases hw
     cases xv <;> try rfl
     rename_i q2
     generalize tget t d=tv at hv ht1 ht2
     cases hv
     ·exact(ht2 rfl).elim
     ·exact(ht1 _ rfl).elim
def FW(ro:Option Nat):Fence:={ Fence.wide with round:=ro }
theorem FW_about{ro:Option Nat}{o:Oper}{w:World}{ρ:Operand→Value}:∀f,o.about P w ρ=some f→(FW ro).fn f:=fun _ _=>trivial
theorem FW_dep{ro:Option Nat}{p:Prop}:(FW ro).depth.isSome=true→p:=fun h=>by simp[FW,Fence.wide]at h
def Ret(ψ:Gh)(w:World)(h':Hp μ)(r:AV)(e:Ending)(w':World):Prop:=∃v ψ',e=.returned v∧Ext ψ w ψ' w'∧Sim ψ' w' h'∧VR ψ' w' r v
structure CfSound(P:Program)(cf:Cf μ):Prop where
 func:∀f args h r h',cf (.func f) args h=some (r,h')→hasBody P f=true→∀ψ w vs,Sim ψ w h→VRs ψ w args vs→CallsIn Fence.wide 0 P f vs w (Ret ψ w h' r)
 yield:∀o args h r h',cf (.yield o) args h=some (r,h')→∀ψ w vs B,Sim ψ w h→VRs ψ w args vs→ψ.obj o=some B →
  ∃f tmps assign body,(Instr.yield B vs).run P w=.ok (.round B f tmps assign body) w∧RoundIn Fence.wide 0 P B f tmps assign body w (Ret ψ w h' r)
structure Post(ψ:Gh)(w:World)(st':St μ)(nt:Nat)(ds:List Deferred)(a':Act)(w':World):Prop where
 out:∃ψ',Ext ψ w ψ' w'∧Sim ψ' w' st'.h∧TR ψ' w' st'.t nt a'
 defers:a'.defers=ds
theorem put_same{s st':St μ}{d:Option Nat}{v:AV}(hp:Vn.put s d v=some st'):st'.nt=s.nt∧st'.ro=s.ro:=by
 unfold Vn.put at hp
 split at hp
 ·cases hp;exact⟨rfl,rfl⟩
 ·split at hp
  ·cases hp;exact⟨rfl,rfl⟩
  ·cases hp
theorem stepOp_same{cf:Cf μ}{ops:Array Oper}{o:Oper}{st st':St μ}(h:stepOp P cf ops o st=some st'):st'.nt=st.nt∧st'.ro=st.ro:=by
 unfold stepOp at h
 split at h
 ·cases h
 ·exact put_same h
 ·split at h
  ·have:=put_same h;exact this
  ·have:=put_same h;exact this
  ·split at h
   ·have:=put_same h;exact this
   ·cases h
  ·cases h
theorem stepOp_nt{cf:Cf μ}{ops:Array Oper}{o:Oper}{st st':St μ}(h:stepOp P cf ops o st=some st'):st'.nt=st.nt:=(stepOp_same h).1
theorem enter_upon{cf:Cf μ}(hcf:CfSound P cf){fx:Fx}{args:List AV}{h h':Hp μ}{r:AV}(hc:cf fx args h=some (r,h')){res:Result Next}(he:EffR P ψ w (.enter fx args h) res){ro:Option Nat}{o:Oper}{a:Act}
  {K:Act→World→Prop} {Q:Exit→Act→World→Prop} (hK:∀u ψ1 w1,Ext ψ w ψ1 w1→Sim ψ1 w1 h'→VR ψ1 w1 r u→K (a.put o.dst u) w1):o.uponIn (FW ro) 0 P a K Q res:=by
 cases fx with
 | func f=>
  obtain⟨vs,rfl,S,V,hb⟩:=he
  rw[Oper.uponIn_enter]
  refine⟨FW_dep,?_⟩
  have:=hcf.func f args h r h' hc hb ψ w vs S V
  refine CallsIn.mono (F:=FW ro) (R:=Ret ψ w h' r) this ?_
  rintro e w1 ⟨u,ψ1,rfl,q1,q2,q3⟩
  exact hK u ψ1 w1 q1 q2 q3
 | yield b=>
  obtain⟨vs,B,rfl,hB,S,V⟩:=he
  obtain⟨f,tmps,assign,body,q1,q2⟩:=hcf.yield b args h r h' hc ψ w vs B S V hB
  rw[q1,Oper.uponIn_round]
  refine⟨FW_dep,?_⟩
  refine RoundIn.mono (F:=FW ro) (R:=Ret ψ w h' r) q2 ?_
  rintro e w1 ⟨u,ψ1,rfl,q1,q2,q3⟩
  exact hK u ψ1 w1 q1 q2 q3
theorem not_defer{ρ:Operand→AV}{h:Hp μ}{o:Oper}{e:Eff μ}(he:opEff P ρ h o=some e):∀c,o.op≠.defer c:=fun c hc=>by
 unfold opEff at he;rw[hc]at he;cases he
theorem step_sound{cf:Cf μ}(hcf:CfSound P cf){ops:Array Oper}{o:Oper}{st st':St μ}(hs:stepOp P cf ops o st=some st'){a:Act}(S:Sim ψ w st.h)(T:TR ψ w st.t st.nt a){ro:Option Nat}{K:Act→World→Prop}{Q:Exit→Act→World→Prop}
  (hK:∀a' w',Post ψ w st' st.nt a.defers a' w'→K a' w') :
  if Region.wanted o (yielded ops a.tmps)then o.wpIn (FW ro) 0 P a w K Q else(∀f,o.about P w a.eval=some f→(FW ro).fn f)∧K (a.put o.dst Go.undef) w:=by
 unfold stepOp at hs
 split at hs
 ·cases hs
 ·rename_i hw
  rw[want_sound T hw]
  simp only[Bool.false_eq_true,if_false]
  obtain⟨p1,p2,p3,_⟩:=T.put .undef hs
  exact⟨FW_about,hK _ _ ⟨⟨ψ,Ext.refl _ _,p2▸S,p3▸p1⟩,put_defers _ _ _⟩⟩
 ·rename_i hw
  rw[want_sound T hw]
  simp only[if_true]
  refine⟨FW_about,?_⟩
  split at hs
  ·rename_i v h' he
   rw[Oper.semAt_eq _ _ _ (not_defer he)]
   obtain⟨u,w',ψ',r1,r2,r3,r4⟩:=op_sound S he (fun x _=>T.ev x)
   rw[r1,Oper.uponIn_value]
   obtain⟨p1,p2,p3,_⟩:=TR.put (st:={ st with h:=h' }) (T.mono r2) r4 hs
   exact hK _ _ ⟨⟨ψ',r2,p2▸r3,p3▸p1⟩,put_defers _ _ _⟩
  ·rename_i h' he
   rw[Oper.semAt_eq _ _ _ (not_defer he)]
   obtain⟨w',ψ',r1,r2,r3⟩:=op_sound S he (fun x _=>T.ev x)
   rw[r1,Oper.uponIn_skip]
   obtain⟨p1,p2,p3,_⟩:=TR.put (st:={ st with h:=h' }) (T.mono r2) .undef hs
   exact hK _ _ ⟨⟨ψ',r2,p2▸r3,p3▸p1⟩,put_defers _ _ _⟩
  ·rename_i f args h' he
   rw[Oper.semAt_eq _ _ _ (not_defer he)]
   have hE:=op_sound S he (fun x _=>T.ev x)
   split at hs
   ·rename_i r h'' hc
    refine enter_upon hcf hc hE fun u ψ' w' q1 q2 q3=>?_
    obtain⟨p1,p2,p3,_⟩:=TR.put (st:={ st with h:=h'' }) (T.mono q1) q3 hs
    exact hK _ _ ⟨⟨ψ',q1,p2▸q2,p3▸p1⟩,put_defers _ _ _⟩
   ·cases hs
  ·cases hs
theorem runOps_sound{cf:Cf μ}(hcf:CfSound P cf){ops:Array Oper}{ro:Option Nat}{Q:Exit→Act→World→Prop}:∀(l:List Oper) (k:Nat) (ψ:Gh) (w:World) (st st':St μ) (a:Act),(∀i,l[i]? = ops[k+i]?)→runOps P cf ops l st=some st'→Sim ψ w st.h→TR ψ w st.t st.nt a →
  (∀a' w',Post ψ w st' st.nt a.defers a' w'→Q .normal a' w')→wpOpsIn (FW ro) 0 P ops Q (List.range' k l.length) a w
 | [],k,ψ,w,st,st',a,_,hr,S,T,hQ=>by
  cases hr
  exact hQ _ _ ⟨⟨ψ,Ext.refl _ _,S,T⟩,rfl⟩
 | o::rest,k,ψ,w,st,st',a,hl,hr,S,T,hQ=>by
  simp only[runOps]at hr
  split at hr
  ·rename_i st1 h1
   have ho:ops[k]? = some o:=by have:=hl 0;simpa using this.symm
   rw[List.length_cons,List.range'_succ]
   unfold wpOpsIn
   rw[ho]
   refine step_sound hcf h1 S T fun a' w' ⟨⟨ψ',q1,q2,q3⟩,q4⟩=>?_
   have hnt:=stepOp_nt h1
   refine runOps_sound hcf rest (k+1) ψ' w' st1 st' a' (fun i=>by have:=hl (i+1);rw[List.getElem?_cons_succ]at this;rw[this];congr 1;omega) hr q2 (hnt▸q3) fun a'' w'' ⟨⟨ψ'',r1,r2,r3⟩,r4⟩=>?_
   exact hQ _ _ ⟨⟨ψ'',q1.trans r1,r2,by rw[hnt]at r3;exact r3⟩,r4.trans q4⟩
  ·cases hr
theorem region_sound{cf:Cf μ}(hcf:CfSound P cf){id:Nat}{ops:Array Oper}{ro:Option Nat}{Q:Exit→Act→World→Prop}{st st':St μ}{a:Act}(hr:runOps P cf ops ops.toList st=some st')(S:Sim ψ w st.h)(T:TR ψ w st.t st.nt a)
  (hQ:∀a' w',Post ψ w st' st.nt a.defers a' w'→Q .normal a' w'):(Code.region id ops false).wpIn (FW ro) 0 P Q a w:=by
 refine wpIn_region ?_
 have:=runOps_sound (ro:=ro) hcf ops.toList 0 ψ w st st' a (fun i=>by simp) hr S T hQ
 rw[Array.length_toList,←List.range_eq_range']at this
 exact this
def DfSound(P:Program)(df:Array Oper→St μ→Option (St μ)):Prop:=∀ops st st',df ops st=some st'→(st'.nt=st.nt∧st'.ro=st.ro)∧∀ψ w a id Q ro,Sim ψ w st.h→TR ψ w st.t st.nt a →
 (∀a' w',Post ψ w st' st.nt a.defers a' w'→Q .normal a' w')→(Code.region id ops true).wpIn (FW ro) 0 P Q a w
def exOf:Ex→Exit
 | .normal=>.normal
 | .exit i=>.exit i
 | .goto l=>.goto l
 | .ret=>.ret
def ScopeWp(F:Fence)(P:Program)(b c:Code)(Q:Exit→Act→World→Prop)(a:Act)(w:World):Prop:=
 ∀(bf:Frame) (k:List Item) (cs:List Frame),bf.roundOf=F.round→F.fn bf.fn→F.room (cs.length+1+0)→∃e a' w',Q e a' w'∧ArrivesIn (Machine.fenced P F) P (lone (bf.atR a (.code c::.inScope b::k)) cs w) bf k cs e a' w'
def LoopWp(F:Fence)(P:Program)(b:Code)(Q:Exit→Act→World→Prop)(a:Act)(w:World):Prop:=
 ∀(bf:Frame) (k:List Item) (cs:List Frame),bf.roundOf=F.round→F.fn bf.fn→F.room (cs.length+1+0)→∃e a' w',Q e a' w'∧ArrivesIn (Machine.fenced P F) P (lone (bf.atR a (.code b::.inLoop b::k)) cs w) bf k cs e a' w'
theorem stepR_scope{b:Frame}{a:Act}{k:List Item}{cs:List Frame}{c:Code}:step P (lone (b.atR a (.code (.scope c)::k)) cs w)=.next (lone (b.atR a (.code c::.inScope c::k)) cs w):=
 step_lone_go (by simp[stepG,stepG.exec,Frame.atR])
theorem stepR_inScope{b:Frame}{a:Act}{k:List Item}{cs:List Frame}{c:Code}:step P (lone (b.atR a (.inScope c::k)) cs w)=.next (lone (b.atR a k) cs w):=
 step_lone_go (by simp[stepG,stepG.exec,Frame.atR])
theorem scope_wp{F:Fence}{b:Code}{Q:Exit→Act→World→Prop}{a:Act}(h:ScopeWp F P b b Q a w):(Code.scope b).wpIn F 0 P Q a w:=
 fun bf k cs h1 h2 h3=>let⟨e,a',w',q,r⟩:=h bf k cs h1 h2 h3;⟨e,a',w',q,.of_steps (.one (fenced_calm h2 h3 rfl) stepR_scope) r⟩
theorem loop_wp{F:Fence}{b:Code}{Q:Exit→Act→World→Prop}{a:Act}(h:LoopWp F P b Q a w):(Code.loop b).wpIn F 0 P Q a w:=
 fun bf k cs h1 h2 h3=>let⟨e,a',w',q,r⟩:=h bf k cs h1 h2 h3;⟨e,a',w',q,.of_steps (.one (fenced_calm h2 h3 rfl) stepR_loop) r⟩
theorem loopWp_round{F:Fence}{b:Code}{Q:Exit→Act→World→Prop}{a:Act}(h:b.wpIn F 0 P (Exit.then (LoopWp F P b Q) Q) a w):LoopWp F P b Q a w:=by
 intro bf k cs h1 h2 h3
 obtain⟨e,a₁,w₁,hq,harr⟩:=h bf (.inLoop b::k) cs h1 h2 h3
 cases e with
 | normal=>
  obtain⟨e₂,a₂,w₂,hq₂,harr₂⟩:=hq bf k cs h1 h2 h3
  exact⟨e₂,a₂,w₂,hq₂,.of_steps (StepsIn.trans harr (.one (fenced_calm h2 h3 rfl) stepR_inLoop)) harr₂⟩
 | exit id=>exact⟨_,a₁,w₁,hq,.pass (x:=.inLoop b) rfl (fun _ _=>.inl (by simp)) harr⟩
 | goto l=>exact⟨_,a₁,w₁,hq,.pass (x:=.inLoop b) rfl (fun _ _=>.inl (by simp)) harr⟩
 | ret=>exact⟨_,a₁,w₁,hq,.pass (x:=.inLoop b) rfl (fun _ _=>.inl (by simp)) harr⟩
 | panic ch=>exact⟨_,a₁,w₁,hq,.pass (x:=.inLoop b) rfl (fun _ _=>.inl (by simp)) harr⟩
 | outgrown=>exact⟨_,a₁,w₁,hq,.pass (x:=.inLoop b) rfl (fun _ _=>.inl (by simp)) harr⟩
def Jump(F:Fence)(P:Program)(b:Code)(Q:Exit→Act→World→Prop):Exit→Act→World→Prop
 | .goto l,a,w=>match findLabel b l with
  | some rest=>ScopeWp F P b rest Q a w
  | none=>Q (.goto l) a w
 | e,a,w=>Q e a w
theorem scopeWp_run{F:Fence}{b c:Code}{Q:Exit→Act→World→Prop}{a:Act}(h:c.wpIn F 0 P (Jump F P b Q) a w):ScopeWp F P b c Q a w:=by
 intro bf k cs h1 h2 h3
 obtain⟨e,a₁,w₁,hq,harr⟩:=h bf (.inScope b::k) cs h1 h2 h3
 cases e with
 | normal=>exact⟨.normal,a₁,w₁,hq,StepsIn.trans harr (.one (fenced_calm h2 h3 rfl) stepR_inScope)⟩
 | exit id=>
  have hx:exitTo id (.inScope b::k)=exitTo id k:=by simp[exitTo]
  exact⟨.exit id,a₁,w₁,hq,fun k' hk=>harr.1 k' (by rw[hx];exact hk),fun hr hk=>harr.2 hr (by rw[hx];exact hk)⟩
 | goto l=>
  simp only[Jump]at hq
  split at hq
  ·rename_i rest hf
   obtain⟨e₂,a₂,w₂,hq₂,harr₂⟩:=hq bf k cs h1 h2 h3
   exact⟨e₂,a₂,w₂,hq₂,.of_steps (harr.1 _ (by simp[gotoIn,hf])) harr₂⟩
  ·rename_i hf
   have hx:gotoIn l (.inScope b::k)=gotoIn l k:=by simp[gotoIn,hf]
   exact⟨.goto l,a₁,w₁,hq,fun k' hk=>harr.1 k' (by rw[hx];exact hk),fun hr hk=>harr.2 hr (by rw[hx];exact hk)⟩
 | ret=>exact⟨_,a₁,w₁,hq,harr⟩
 | panic ch=>exact⟨_,a₁,w₁,hq,harr⟩
 | outgrown=>exact⟨_,a₁,w₁,hq,harr⟩
def Marks(ψ':Gh)(w w':World)(ds ds':List Deferred):Prop:=∃rs:List Nat,ds'=rs.map (fun r=>{ target:=.collected r,args := #[] })++ds∧rs.Nodup ∧
  ∀r∈rs,w.heap.size≤r∧w'.heap[r]? = some (.deferred (some []))∧ψ'.grp r=none∧ψ'.own r=none
theorem Marks.refl(ψ:Gh)(w w':World)(ds:List Deferred):Marks ψ w w' ds ds:=⟨[],rfl,List.nodup_nil,fun r h=>by cases h⟩
theorem Marks.trans{ψ ψ' ψ'':Gh}{w w' w'':World}{ds ds' ds'':List Deferred}(E0:Ext ψ w ψ' w')(E:Ext ψ' w' ψ'' w'')(h:Marks ψ' w w' ds ds')(k:Marks ψ'' w' w'' ds' ds''):Marks ψ'' w w'' ds ds'':=by
 obtain⟨rs,g1,g2,g3⟩:=h
 obtain⟨rs2,k1,k2,k3⟩:=k
 refine⟨rs2++rs,by rw[k1,g1];simp,?_,fun r hr=>?_⟩
 ·rw[List.nodup_append]
  refine⟨k2,g2,fun x hx y hy hxy=>?_⟩
  subst hxy
  have h1:=(k3 x hx).1
  have h2:=(Array.getElem?_eq_some_iff.1 (g3 x hy).2.1).1
  omega
 ·rcases List.mem_append.1 hr with hr | hr
  ·have:=k3 r hr
   exact⟨Nat.le_trans E0.size this.1,this.2⟩
  ·obtain⟨a1,a2,a3,a4⟩:=g3 r hr
   obtain⟨b1,b2,b3⟩:=E.fr r (Array.getElem?_eq_some_iff.1 a2).1 a3 a4
   exact⟨a1,b1.trans a2,b2,b3⟩
def Out(ψ:Gh)(w:World)(nt:Nat)(ds:List Deferred)(r:Ex)(st':St μ)(e:Exit)(a':Act)(w':World):Prop:=
 e=exOf r∧∃ψ',Ext ψ w ψ' w'∧Sim ψ' w' st'.h∧TR ψ' w' st'.t nt a'∧Marks ψ' w w' ds a'.defers
theorem Out.of_post{nt:Nat}{ds:List Deferred}{st':St μ}{a':Act}{w':World}(h:Post ψ w st' nt ds a' w'):Out ψ w nt ds .normal st' .normal a' w':=by
 obtain⟨⟨ψ',q1,q2,q3⟩,q4⟩:=h
 exact⟨rfl,ψ',q1,q2,q3,q4▸Marks.refl _ _ _ _⟩
theorem Out.here{nt:Nat}{a:Act}{st:St μ}(r:Ex)(S:Sim ψ w st.h)(T:TR ψ w st.t nt a):Out ψ w nt a.defers r st (exOf r) a w:=
 ⟨rfl,ψ,Ext.refl _ _,S,T,Marks.refl _ _ _ _⟩
theorem Out.comp{ψ ψ':Gh}{w w':World}{nt nt':Nat}{ds:List Deferred}{r:Ex}{st':St μ}{e:Exit}{a' a'':Act}{w'':World}(E:Ext ψ w ψ' w')(M:Marks ψ' w w' ds a'.defers)(hn:nt'=nt)(k:Out ψ' w' nt' a'.defers r st' e a'' w''):Out ψ w nt ds r st' e a'' w'':=by
 subst hn
 obtain⟨h1,ψ2,q1,q2,q3,q4⟩:=k
 exact⟨h1,ψ2,E.trans q1,q2,q3,M.trans E q1 q4⟩
def RoR(ψ:Gh):Option Nat→Option Nat→Prop
 | none,none=>True
 | some o,some l=>ψ.obj o=some l
 | _,_=>False
theorem RoR.mono{ψ ψ':Gh}{w w':World}(E:Ext ψ w ψ' w'):∀{a b:Option Nat},RoR ψ a b→RoR ψ' a b
 | none,none,_=>trivial
 | some o,some l,h=>E.obj o l h
 | some _,none,h=>h.elim
 | none,some _,h=>h.elim
theorem loop_laid{st:St μ}(S:Sim ψ w st.h){a:Act}(T:TR ψ w st.t st.nt a){ro:Option Nat}(R:RoR ψ st.ro ro)(hl:roOk st≠false)(fn:FuncId)(ps:Array Nat)(x y:Code) :
  ∃l mark w1 ψ1,(Instr.enterLoop fn a.tmps ps x y ro).run P w=.ok (l,mark) w1∧Ext ψ w ψ1 w1∧Sim ψ1 w1 (laidF ps x y st) ∧
   ψ1.obj st.h.no=some l∧∃rs:List Nat,mark=rs.map (fun r=>{ target:=.collected r,args := #[] })∧rs.Nodup∧∀r∈rs,w.heap.size≤r∧w1.heap[r]? = some (.deferred (some []))∧ψ1.grp r=none∧ψ1.own r=none:=by
 have lay:∀(w0:World) (d:Nat),Ext ψ w ψ w0→Sim ψ w0 st.h→∃ψ1,Ext ψ w0 ψ1 (w0.alloc (.loop { state:=.ready,pending:=none,fn,tmps:=a.tmps,params:=ps,assign:=x,body:=y,defers:=d })) ∧
   Sim ψ1 (w0.alloc (.loop { state:=.ready,pending:=none,fn,tmps:=a.tmps,params:=ps,assign:=x,body:=y,defers:=d })) (laidF ps x y st)∧ψ1.obj st.h.no=some w0.heap.size:=fun w0 d E0 S0=>
  newObj_sound S0 (Pushed.alloc w0 _) fun ψ' E=>.loop _ _ (Pushed.alloc w0 _).new rfl rfl rfl rfl rfl T.size fun i=>(T.val i).mono (E0.trans E)
 cases hro:st.ro with
 | none=>
  cases ro with
  | some l=>rw[hro]at R;exact R.elim
  | none=>
   obtain⟨E0,S0,g0,g1⟩:=pushed_sound S (Pushed.alloc w (.deferred (some [])))
   obtain⟨ψ1,E1,S1,o1⟩:=lay _ w.heap.size E0 S0
   refine⟨_,_,_,ψ1,?_,E0.trans E1,S1,o1,[w.heap.size],rfl,by simp,fun r hr=>?_⟩
   ·simp[Instr.enterLoop]
   ·simp only[List.mem_singleton]at hr
    subst hr
    have hnew:=(Pushed.alloc w (.deferred (some []))).new
    have h1:=E1.fr w.heap.size (Array.getElem?_eq_some_iff.1 hnew).1 g0 g1
    exact⟨Nat.le_refl _,h1.1.trans hnew,h1.2⟩
 | some o=>
  cases ro with
  | none=>rw[hro]at R;exact R.elim
  | some l=>
   unfold roOk at hl
   rw[hro]at R hl
   simp only[hasLoop]at hl
   split at hl
   ·rename_i lo hlo
    obtain⟨B,r,h1,h2,h3,_⟩:=S.loop hlo
    have hB:B=l:=by have:ψ.obj o=some l:=R;rw[h1]at this;exact Option.some.inj this
    subst hB
    obtain⟨ψ1,E1,S1,o1⟩:=lay w r.defers (Ext.refl _ _) S
    refine⟨_,_,_,ψ1,?_,E1,S1,o1,[],rfl,List.nodup_nil,fun r hr=>by cases hr⟩
    have hg:(getObj B).run P w=.ok (.loop r) w:=by simp[getObj,Sem.run,h3]
    simp[Instr.enterLoop,Instr.getLoop,hg]
   ·exact absurd rfl hl
theorem rangeF_inv{cf:Cf μ}{f:Operand}{ps:Array Nat}{x y:Code}{st st':St μ}{r:Ex}(hr:rangeF P cf f ps x y st=some (r,st')):roOk st≠false∧∃g args h1 rv h2 lo,enterFn P (laidF ps x y st) (ev st.t f) [.yl st.h.no]=some (.enter (.func g) args h1) ∧
  cf (.func g) args h1=some (rv,h2)∧Mp.get h2.obj st.h.no=some (.loop lo)∧lo.state≠.busy∧behind lo { st with h:={ h2 with obj:=Mp.set h2.obj st.h.no (.loop { lo with state:=.exhausted }) } }=some (r,st'):=by
 unfold rangeF at hr
 by_cases hl:roOk st=false
 ·rw[if_pos hl]at hr;cases hr
 rw[if_neg hl]at hr
 simp only[Option.bind_eq_some_iff]at hr
 obtain⟨⟨g,args,h1⟩,he,⟨rv,h2⟩,hc,hb⟩:=hr
 unfold rangeE at he
 split at he
 case h_2=>cases he
 rename_i e1
 cases he
 unfold rangeB at hb
 split at hb
 case h_2=>cases hb
 rename_i lo hlo
 split at hb
 ·cases hb
 rename_i hbusy
 exact⟨hl,g,args,h1,rv,h2,lo,e1,hc,hlo,hbusy,hb⟩
theorem range_sound{cf:Cf μ}(hcf:CfSound P cf){f:Operand}{ps:Array Nat}{x y:Code}{st st':St μ}{r:Ex}(hr:rangeF P cf f ps x y st=some (r,st')){a:Act}(S:Sim ψ w st.h)(T:TR ψ w st.t st.nt a){ro:Option Nat}(R:RoR ψ st.ro ro) :
  (Code.rangeFunc f ps x y).wpIn (FW ro) 0 P (Out ψ w st.nt a.defers r st') a w:=by
 obtain⟨hl,g,args,h1,rv,h2,lo,he,hc,hlo,hbusy,hr⟩:=rangeF_inv hr
 refine wpIn_rangeFunc fun fn _=>?_
 obtain⟨l,mark,w1,ψ1,q1,E1,S1,o1,rs,m1,m2,m3⟩:=loop_laid (P:=P) S T R hl fn ps x y
 have hE:=enter_sound (P:=P) S1 he ((T.ev f).mono E1) (args:=[.yl st.h.no]) (av := #[.func (.yield l) #[] #[]]) ⟨rfl,fun i hi=>by simp at hi;subst hi;exact .yl _ _ o1⟩
 have hfv:=(T.ev f).mono E1
 unfold enterFn at he
 split at he
 case h_2=>cases he
 case h_3=>cases he
 rename_i g' first cap hf
 split at he
 case isFalse=>(simp only[Option.map_eq_some_iff]at he;obtain⟨_,_,he⟩:=he;cases he)
 rename_i hb
 cases he
 rw[hf]at hfv
 generalize hav:a.eval f=av at hfv hE
 cases hfv with
 | fn _ _ _ xs ys hx hy hxa hya=>
  obtain⟨vs,e1,S2,V,_⟩:=hE
  have hvs:vs=xs ++ #[.func (.yield l) #[] #[]]++ys:=by
   simp only[Deferred.ofValue,Sem.run_bind,Sem.run_pure,Result.andThen_ok,invoke,callFunc_run hb]at e1
   cases e1;rfl
  subst hvs
  have hcall:=hcf.func _ _ _ _ _ hc hb ψ1 w1 _ S2 V
  refine⟨l,mark,w1,{ target:=.fn (.func g) ys,args:=xs ++ #[.func (.yield l) #[] #[]] },w1,g,xs ++ #[.func (.yield l) #[] #[]]++ys,w1,q1,?_,fun _ _=>trivial,?_,FW_dep,?_⟩
  ·have hm:Array.map a.eval #[Operand.const (Value.func (Fn.yield l) #[] #[])] = #[Value.func (Fn.yield l) #[] #[]]:=by simp[Act.eval]
   simp only[resolve,rangeCall,hav,hm,Deferred.ofValue,Sem.run_pure]
  ·simp only[invoke,callFunc_run hb]
  refine CallsIn.mono (F:=FW ro) (R:=Ret ψ1 w1 h2 rv) hcall ?_
  rintro e w3 ⟨v,ψ3,rfl,E3,S3,_⟩
  obtain⟨B,rc,k1,k2,k3,k4,k5,k6,k7,k8,k9,k10⟩:=S3.loop hlo
  have hB:B=l:=by have:=E3.obj _ _ o1;rw[k1]at this;exact Option.some.inj this
  subst hB
  have hnb:¬rc.state=LoopState.busy:=by rw[k4];exact hbusy
  let w4:World:={ w3 with heap:=w3.heap.setIfInBounds B (.loop { rc with state:=.exhausted }) }
  have hend:(Instr.endLoop B).run P w3=.ok lo.pending w4:=by
   have hg:(getObj B).run P w3=.ok (.loop rc) w3:=by simp[getObj,Sem.run,k3]
   have hs:(setObj B (.loop { rc with state:=.exhausted })).run P w3=.ok () w4:=by simp[setObj,Sem.run,k3,w4]
   rw[k5]at hs
   simp[Instr.endLoop,Instr.getLoop,hg,hnb,k5]
   rw[hs];rfl
  obtain⟨E4,S4⟩:=setObj_sound S3 (x:=.loop { lo with state:=.exhausted }) k1 k2 (by rw[k3];intro h;cases h) (OnlyAt.setObj w3 B (.loop { rc with state:=.exhausted })) fun E=>.loop _ { rc with state:=.exhausted } (set_at k3) rfl k5 k6 k7 k8 k9 fun i=>(k10 i).mono E
  have hE:Ext ψ w ψ3 w4:=(E1.trans E3).trans E4
  have hT:TR ψ3 w4 st.t st.nt { a with defers:=mark++a.defers }:=⟨(T.mono hE).size,(T.mono hE).val⟩
  have hmk:∀r∈rs,w.heap.size≤r∧w4.heap[r]? = some (.deferred (some []))∧ψ3.grp r=none∧ψ3.own r=none:=fun r hr=>by
   obtain⟨b1,b2,b3,b4⟩:=m3 r hr
   obtain⟨c1,c2,c3⟩:=(E3.trans E4).fr r (Array.getElem?_eq_some_iff.1 b2).1 b3 b4
   exact⟨b1,c1.trans b2,c2,c3⟩
  have hQ:∀r0,Out ψ w st.nt a.defers r0 ({ st with h:={ h2 with obj:=Mp.set h2.obj st.h.no (.loop { lo with state:=.exhausted }) } }:St μ) (exOf r0) { a with defers:=mark++a.defers } w4:=fun r0=>
   ⟨rfl,ψ3,hE,S4,hT,rs,by simp only[m1],m2,hmk⟩
  refine⟨lo.pending,w4,hend,?_⟩
  unfold behind at hr
  split at hr
  ·rename_i hp;rw[hp];cases hr;exact hQ .normal
  ·rename_i hp;rw[hp];cases hr;exact wpIn_ret (hQ .ret)
  ·rename_i i hp;rw[hp];cases hr;exact wpIn_exit (hQ (.exit i))
  ·rename_i i hp;rw[hp];cases hr;exact wpIn_goto (hQ (.goto i))
  ·cases hr
theorem range_same{cf:Cf μ}{f:Operand}{ps:Array Nat}{x y:Code}{st st':St μ}{r:Ex}(hr:rangeF P cf f ps x y st=some (r,st')):st'.nt=st.nt∧st'.ro=st.ro:=by
 obtain⟨_,_,_,_,_,_,lo,_,_,_,_,hr⟩:=rangeF_inv hr
 unfold behind at hr
 split at hr <;> cases hr <;> exact⟨rfl,rfl⟩
theorem runOps_same{cf:Cf μ}{ops:Array Oper}:∀(l:List Oper) (st st':St μ),runOps P cf ops l st=some st'→st'.nt=st.nt∧st'.ro=st.ro
 | [],st,st',h=>by cases h;exact⟨rfl,rfl⟩
 | o::rest,st,st',h=>by
  simp only[runOps]at h
  split at h
  ·rename_i st1 h1
   have a:=runOps_same rest _ _ h
   have b:=stepOp_same h1
   exact⟨a.1.trans b.1,a.2.trans b.2⟩
  ·cases h
theorem exec_same{cf:Cf μ}{df:Array Oper→St μ→Option (St μ)}(hdf:DfSound P df):∀(n:Nat) (m:Option Code) (c:Code) (st st':St μ) (r:Ex),execF P cf df n m c st=some (r,st')→st'.nt=st.nt∧st'.ro=st.ro:=by
 have tr:∀{a b c:St μ},(b.nt=a.nt∧b.ro=a.ro)→(c.nt=b.nt∧c.ro=b.ro)→(c.nt=a.nt∧c.ro=a.ro):=fun h k=>⟨k.1.trans h.1,k.2.trans h.2⟩
 intro n
 induction n with
 | zero=>intro m c st st' r h;simp[execF]at h
 | succ n ih=>
  intro m c st st' r h
  cases m with
  | some b=>
   simp only[execF]at h
   split at h
   ·rename_i l st1 h1
    split at h
    ·exact tr (ih _ _ _ _ _ h1) (ih _ _ _ _ _ h)
    ·cases h;exact ih _ _ _ _ _ h1
   ·exact ih _ _ _ _ _ h
  | none=>
   cases c <;> simp only[execF]at h
   case skip=>cases h;exact⟨rfl,rfl⟩
   case label=>cases h;exact⟨rfl,rfl⟩
   case ret=>cases h;exact⟨rfl,rfl⟩
   case exit=>cases h;exact⟨rfl,rfl⟩
   case goto=>cases h;exact⟨rfl,rfl⟩
   case seq a b=>
    split at h
    ·rename_i st1 h1;exact tr (ih _ _ _ _ _ h1) (ih _ _ _ _ _ h)
    ·exact ih _ _ _ _ _ h
   case cond x a b=>
    split at h
    ·exact ih _ _ _ _ _ h
    ·exact ih _ _ _ _ _ h
    ·cases h
   case block id b=>
    split at h
    ·rename_i i st1 h1
     split at h
     ·cases h;exact ih _ _ _ _ _ h1
     ·cases h;exact ih _ _ _ _ _ h1
    ·exact ih _ _ _ _ _ h
   case loop b=>
    split at h
    ·rename_i st1 h1;exact tr (ih _ _ _ _ _ h1) (ih _ _ _ _ _ h)
    ·exact ih _ _ _ _ _ h
   case scope b=>exact ih _ _ _ _ _ h
   case rangeFunc f ps a b=>exact range_same h
   case region id ops draw=>
    split at h
    ·cases hd:df ops st with
     | none=>rw[hd]at h;cases h
     | some s=>rw[hd]at h;cases h;exact(hdf _ _ _ hd).1
    ·cases hd:runOps P cf ops ops.toList st with
     | none=>rw[hd]at h;cases h
     | some s=>rw[hd]at h;cases h;exact runOps_same _ _ _ hd
   all_goals cases h
theorem exec_sound{cf:Cf μ}{df:Array Oper→St μ→Option (St μ)}(hcf:CfSound P cf)(hdf:DfSound P df):∀n:Nat,
  (∀(c:Code) (st st':St μ) (r:Ex),execF P cf df n none c st=some (r,st')→∀ψ w a ro,Sim ψ w st.h→TR ψ w st.t st.nt a→RoR ψ st.ro ro→c.wpIn (FW ro) 0 P (Out ψ w st.nt a.defers r st') a w) ∧
  (∀(b c:Code) (st st':St μ) (r:Ex),execF P cf df n (some b) c st=some (r,st')→∀ψ w a ro,Sim ψ w st.h→TR ψ w st.t st.nt a→RoR ψ st.ro ro→ScopeWp (FW ro) P b c (Out ψ w st.nt a.defers r st') a w) ∧
  (∀(b:Code) (st st':St μ) (r:Ex),execF P cf df n none (.loop b) st=some (r,st')→∀ψ w a ro,Sim ψ w st.h→TR ψ w st.t st.nt a→RoR ψ st.ro ro→LoopWp (FW ro) P b (Out ψ w st.nt a.defers r st') a w):=by
 intro n
 induction n with
 | zero=>exact⟨fun c st st' r h=>by simp[execF]at h,fun b c st st' r h=>by simp[execF]at h,fun b st st' r h=>by simp[execF]at h⟩
 | succ n ih=>
  obtain⟨ih1,ih2,ih3⟩:=ih
  have hloop:∀(b:Code) (st st':St μ) (r:Ex),execF P cf df (n+1) none (.loop b) st=some (r,st')→∀ψ w a ro,Sim ψ w st.h→TR ψ w st.t st.nt a→RoR ψ st.ro ro→LoopWp (FW ro) P b (Out ψ w st.nt a.defers r st') a w:=by
   intro b st st' r h ψ w a ro S T R
   simp only[execF]at h
   refine loopWp_round ?_
   split at h
   ·rename_i st1 h1
    have hs:=exec_same hdf _ _ _ _ _ _ h1
    refine wpIn_mono (ih1 b st st1 _ h1 ψ w a ro S T R) ?_
    rintro e a' w' ⟨rfl,ψ',q1,q2,q3,q4⟩
    intro bf k cs f1 f2 f3
    obtain⟨e2,a2,w2,g1,g2⟩:=ih3 b st1 st' r h ψ' w' a' ro q2 (hs.1▸q3) (hs.2▸R.mono q1) bf k cs f1 f2 f3
    exact⟨e2,a2,w2,Out.comp q1 q4 hs.1 g1,g2⟩
   ·rename_i hne
    refine wpIn_mono (ih1 b st st' _ h ψ w a ro S T R) ?_
    intro e a' w' q
    cases r with
    | normal=>exact(hne _ h).elim
    | _=>obtain⟨rfl,q⟩:=q;exact⟨rfl,q⟩
  refine⟨fun c st st' r h ψ w a ro S T R=>?_,fun b c st st' r h ψ w a ro S T R=>?_,hloop⟩
  ·cases c with
   | skip=>simp only[execF]at h;cases h;exact wpIn_skip (Out.here .normal S T)
   | label l=>simp only[execF]at h;cases h;exact wpIn_label (Out.here .normal S T)
   | ret=>simp only[execF]at h;cases h;exact wpIn_ret (Out.here .ret S T)
   | exit i=>simp only[execF]at h;cases h;exact wpIn_exit (Out.here (.exit i) S T)
   | goto l=>simp only[execF]at h;cases h;exact wpIn_goto (Out.here (.goto l) S T)
   | seq x y=>
    simp only[execF]at h
    refine wpIn_seq ?_
    split at h
    ·rename_i st1 h1
     have hs:=exec_same hdf _ _ _ _ _ _ h1
     refine wpIn_mono (ih1 x st st1 _ h1 ψ w a ro S T R) ?_
     rintro e a' w' ⟨rfl,ψ',q1,q2,q3,q4⟩
     refine wpIn_mono (ih1 y st1 st' r h ψ' w' a' ro q2 (hs.1▸q3) (hs.2▸R.mono q1)) ?_
     intro e2 a2 w2 g
     exact Out.comp q1 q4 hs.1 g
    ·rename_i hne
     refine wpIn_mono (ih1 x st st' _ h ψ w a ro S T R) ?_
     intro e a' w' q
     cases r with
     | normal=>exact(hne _ h).elim
     | _=>obtain⟨rfl,q⟩:=q;exact⟨rfl,q⟩
   | cond x y z=>
    simp only[execF]at h
    have hx:=T.ev x
    split at h
    ·rename_i hq
     rw[hq]at hx
     generalize hav:a.eval x=av at hx
     cases hx
     exact wpIn_cond_true hav (ih1 y st st' r h ψ w a ro S T R)
    ·rename_i hq
     rw[hq]at hx
     generalize hav:a.eval x=av at hx
     cases hx
     exact wpIn_cond_false hav (ih1 z st st' r h ψ w a ro S T R)
    ·cases h
   | block id b=>
    simp only[execF]at h
    refine wpIn_block ?_
    split at h
    ·rename_i i st1 h1
     refine wpIn_mono (ih1 b st st1 _ h1 ψ w a ro S T R) ?_
     rintro e a' w' ⟨rfl,q⟩
     simp only[exOf,Exit.inBlock]
     split at h
     ·rename_i he;cases h;rw[if_pos he];exact⟨rfl,q⟩
     ·rename_i he;cases h;rw[if_neg he];exact⟨rfl,q⟩
    ·rename_i hne
     refine wpIn_mono (ih1 b st st' _ h ψ w a ro S T R) ?_
     intro e a' w' q
     cases r with
     | exit i=>exact(hne _ _ h).elim
     | _=>obtain⟨rfl,q⟩:=q;exact⟨rfl,q⟩
   | loop b=>exact loop_wp (hloop b st st' r h ψ w a ro S T R)
   | scope b=>
    simp only[execF]at h
    exact scope_wp (ih2 b b st st' r h ψ w a ro S T R)
   | region id ops draw=>
    simp only[execF]at h
    cases draw with
    | true=>
     simp only[if_true]at h
     cases hd:df ops st with
     | none=>rw[hd]at h;cases h
     | some s=>
      rw[hd]at h;cases h
      exact(hdf ops st st' hd).2 ψ w a id _ ro S T fun a' w' q=>Out.of_post q
    | false=>
     simp only[Bool.false_eq_true,if_false]at h
     cases hd:runOps P cf ops ops.toList st with
     | none=>rw[hd]at h;cases h
     | some s=>
      rw[hd]at h;cases h
      exact region_sound hcf hd S T fun a' w' q=>Out.of_post q
   | rangeFunc f ps x y=>
    simp only[execF]at h
    exact range_sound hcf h S T R
   | refuse=>simp[execF]at h
  ·simp only[execF]at h
   refine scopeWp_run ?_
   split at h
   ·rename_i l st1 h1
    have hs:=exec_same hdf _ _ _ _ _ _ h1
    refine wpIn_mono (ih1 c st st1 _ h1 ψ w a ro S T R) ?_
    rintro e a' w' ⟨rfl,ψ',q1,q2,q3,q4⟩
    simp only[exOf,Jump]
    split at h
    ·rename_i rest hf
     rw[hf]
     intro bf k cs f1 f2 f3
     obtain⟨e2,a2,w2,g1,g2⟩:=ih2 b rest st1 st' r h ψ' w' a' ro q2 (hs.1▸q3) (hs.2▸R.mono q1) bf k cs f1 f2 f3
     exact⟨e2,a2,w2,Out.comp q1 q4 hs.1 g1,g2⟩
    ·rename_i hf
     rw[hf]
     cases h
     exact⟨rfl,ψ',q1,q2,q3,q4⟩
   ·rename_i hne
    refine wpIn_mono (ih1 c st st' _ h ψ w a ro S T R) ?_
    intro e a' w' q
    cases r with
    | goto l=>exact(hne _ _ h).elim
    | _=>obtain⟨rfl,q⟩:=q;exact⟨rfl,q⟩
end
end Go.Vn

/- The value machine: regions whose order is drawn: what is asked of them. No condition. -/
namespace Go.Vn
mutual
def beqAV:AV→AV→Bool
 | .undef,.undef=>true
 | .bad,.bad=>true
 | .flt k a,.flt k' b=>decide (k=k')&&Nat.beq a b
 | .cpx k a c,.cpx k' b d=>decide (k=k')&&Nat.beq a b&&Nat.beq c d
 | .bool a,.bool b=>a == b
 | .int k a,.int k' b=>decide (k=k')&&decide (a=b)
 | .str a,.str b=>eqB a b
 | .nilp,.nilp=>true
 | .ptr a b,.ptr c d=>Nat.beq a c&&Nat.beq b d
 | .el v a,.el u b=>beqAV v u&&Nat.beq a b
 | .nils,.nils=>true
 | .esl a,.esl b=>Nat.beq a b
 | .rs a b c g d e,.rs a' b' c' g' d' e'=>Nat.beq a a'&&Nat.beq b b'&&Nat.beq c c'&&(g == g')&&Nat.beq d d'&&Nat.beq e e'
 | .yl a,.yl b=>Nat.beq a b
 | .sl g o s c e,.sl g' o' s' c' e'=>Nat.beq g g'&&Nat.beq o o'&&Nat.beq s s'&&(c == c')&&beqL e e'
 | .nilm,.nilm=>true
 | .mp a,.mp b=>Nat.beq a b
 | .fn f a b,.fn g c d=>decide (f=g)&&beqL a c&&beqL b d
 | .nilf,.nilf=>true
 | .ifc t v,.ifc s u=>Nat.beq t s&&beqAV v u
 | .nili,.nili=>true
 | .agg a,.agg b=>beqL a b
 | .tup a,.tup b=>beqL a b
 | _,_=>false
def beqL:List AV→List AV→Bool
 | [],[]=>true
 | a::x,b::y=>beqAV a b&&beqL x y
 | _,_=>false
end
mutual
theorem beqAV_eq:∀a b:AV,beqAV a b=true→a=b:=by
 intro a b h
 unfold beqAV at h
 split at h <;> (try simp only[Bool.and_eq_true,beq_iff_eq,decide_eq_true_eq,Nat.beq_eq]at h) <;> try (first | rfl | (cases h;done))
 ·rw[h.1,h.2]
 ·rw[h.1.1,h.1.2,h.2]
 ·rw[h]
 ·rw[h.1,h.2]
 ·rename_i x y;rw[eqB_eq,beq_iff_eq]at h;rw[h]
 ·rw[h.1,h.2]
 ·rename_i v1 a1 v2 b1;rw[beqAV_eq v1 v2 h.1,h.2]
 ·rw[h]
 ·rw[h.1.1.1.1.1,h.1.1.1.1.2,h.1.1.1.2,h.1.1.2,h.1.2,h.2]
 ·rw[h]
 ·rename_i e1 _ _ _ _ e2;rw[h.1.1.1.1,h.1.1.1.2,h.1.1.2,h.1.2,beqL_eq e1 e2 h.2]
 ·rw[h]
 ·rename_i f1 a1 b1 f2 a2 b2;rw[h.1.1,beqL_eq a1 a2 h.1.2,beqL_eq b1 b2 h.2]
 ·rename_i v1 _ v2;rw[h.1,beqAV_eq v1 v2 h.2]
 ·rename_i a1 a2;rw[beqL_eq a1 a2 h]
 ·rename_i a1 a2;rw[beqL_eq a1 a2 h]
theorem beqL_eq:∀a b:List AV,beqL a b=true→a=b:=by
 intro a b h
 match a,b with
 | [],[]=>rfl
 | a::x,b::y=>
  simp only[beqL,Bool.and_eq_true]at h
  rw[beqAV_eq a b h.1,beqL_eq x y h.2]
 | [],_::_=>simp[beqL]at h
 | _::_,[]=>simp[beqL]at h
end
theorem eqB_self:∀a:List UInt8,eqB a a=true
 | []=>rfl
 | a::x=>by simp[eqB,eqB_self x]
mutual
theorem beqAV_self:∀a:AV,beqAV a a=true:=by
 intro a
 match a with
 | .undef | .bad | .bool _ | .int _ _ | .flt _ _ | .cpx _ _ _ | .nilp | .ptr _ _ | .yl _ | .nils | .esl _ | .nilm | .mp _ | .nilf | .nili=>simp[beqAV]
 | .str s=>simp[beqAV,eqB_self]
 | .el v o=>simp[beqAV,beqAV_self v]
 | .rs _ _ _ _ _ _=>simp[beqAV]
 | .sl g o s c e=>simp[beqAV,beqL_self e]
 | .fn f x y=>simp[beqAV,beqL_self x,beqL_self y]
 | .ifc t v=>simp[beqAV,beqAV_self v]
 | .agg x=>simp[beqAV,beqL_self x]
 | .tup x=>simp[beqAV,beqL_self x]
theorem beqL_self:∀a:List AV,beqL a a=true:=by
 intro a
 match a with
 | []=>rfl
 | a::x=>simp[beqL,beqAV_self a,beqL_self x]
end
section
variable {μ:Type→Type} [Mp μ] (P:Program)
def cls(o:Op):Nat:=match o with
 | .move _ | .assign _ | .pick .. | .build .. | .nilCheck _ | .unOp .. | .makeInterface .. | .makeFunc .. | .slice .. | .fieldAddr .. | .field .. | .indexAddr .. | .index .. | .extract .. => 0
 | .binOp _ t _ _ _=>if isPtrT P t=true then 1 else 0
 | .convert s d _=>match P.underlying d,P.underlying s with
  | some (.slice _),_=>2
  | _,some (.slice _)=>1
  | _,_=>0
 | .load .. => 1
 | .lookup .. => 1
 | .entry _=>1
 | .call c=>match c.callee with
  | .builtin .min | .builtin .max | .builtin .cap=>0
  | .builtin .len=>match (c.argTypes[0]?).bind P.underlying with
   | some (.map _ _)=>1
   | _=>0
  | _=>2
 | _=>2
def dstAt(ops:Array Oper)(i:Nat):Option Nat:=(ops[i]?).bind (·.dst)
def reads(ops:Array Oper)(o:Oper):List Nat:=
 (o.op.operands.toList.filterMap fun | .tmp t=>some t | _=>none)++(match o.guard with
  | some (j,_)=>(dstAt ops j).toList
  | none=>[])
def maskOf(acc:List Nat)(o:Oper):Nat:=o.after.toList.foldl (fun s e=>if Region.binds .any e then s ||| 2 ^ e.on ||| acc.getD e.on 0 else s) 0
def masks:List Oper→List Nat→List Nat
 | [],acc=>acc
 | o::rest,acc=>masks rest (acc++[maskOf acc o])
def cl(pln:Bool)(o:Op):Nat:=if !pln&&isA o then 3 else cls P o
def clAt(pln:Bool)(ops:Array Oper)(i:Nat):Nat:=match ops[i]? with
 | some o=>cl P pln o.op
 | none=>0
def posOf(π:List Nat)(i:Nat):Nat:=π.idxOf i
def drawOk(pln:Bool)(ops:Array Oper)(ms π:List Nat):Bool:=
 let n:=ops.size
 let ps:=(List.range n).map (posOf π)
 let pos:=fun i=>ps.getD i 0
 let cs:=(List.range n).map (clAt P pln ops)
 let c:=fun i=>cs.getD i 0
 π.length == n &&
 ((List.range n).all fun i=>decide (pos i<n)&&π.getD (pos i) n == i) &&
 ((List.range n).all fun k=>decide (π.getD k n<n)&&pos (π.getD k n) == k) &&
 (List.range n).all fun j=>match ops[j]? with
  | none=>true
  | some o=>
   (o.after.all fun e => !Region.binds .any e || decide (e.on<j)) &&
   ((List.range j).all fun i=>
    (!(ms.getD j 0).testBit i || decide (pos i<pos j)) &&
    (!(c i == 2&&c j == 2) || (ms.getD j 0).testBit i) &&
    (match dstAt ops i with
     | some d=>dstAt ops j != some d&&(!(reads ops o).contains d || (ms.getD j 0).testBit i)
     | none=>true) &&
    (match dstAt ops j with
     | some d => !((ops[i]?).any fun oi=>(reads ops oi).contains d) || (ms.getD j 0).testBit i
     | none=>true)) &&
   ((List.range n).all fun a => !(c a == 3) || a == j || (if c j == 2 then(decide (pos a<pos j) == (ms.getD j 0).testBit a)
    else !(ms.getD j 0).testBit a || (List.range n).any fun q=>c q == 2&&(ms.getD q 0).testBit a&&(ms.getD j 0).testBit q))
def ec(pln:Bool)(ops:Array Oper)(π:List Nat)(m:Nat):Nat:=((List.range m).filter fun k=>decide (2≤clAt P pln ops (π.getD k ops.size))).length
def readPlan(pln:Bool)(ops:Array Oper)(ms π:List Nat)(i:Nat):List Nat:=
 (List.range (ops.size+1)).filter fun m=>
  (m == 0 || clAt P pln ops (π.getD (m-1) ops.size) == 2)&&ec P pln ops π m != ec P pln ops π (posOf π i) &&
  ((List.range ops.size).all fun j => !(clAt P pln ops j == 2) || (if posOf π j<m then !(ms.getD j 0).testBit i else !(ms.getD i 0).testBit j))
def planW(pln:Bool)(ops:Array Oper)(ms π:List Nat):Option (Bool × List Nat × List (Nat × Nat × List Nat)):=
 if drawOk P pln ops ms π then some (pln,π,((List.range ops.size).filter fun i=>clAt P pln ops i == 1).map fun i=>(i,posOf π i,readPlan P pln ops ms π i))else none
def lazyO(ops:Array Oper)(ms:List Nat):List Nat:=
 let n:=ops.size
 let acc:=((List.range n).filter fun i=>clAt P false ops i == 2).foldl (fun acc j=>acc++((List.range n).filter fun i=>(ms.getD j 0).testBit i && !acc.contains i)++(if acc.contains j then []else [j])) []
 acc++(List.range n).filter fun i => !acc.contains i
def plan(ops:Array Oper):Option (Bool × List Nat × List (Nat × Nat × List Nat)):=
 let ms:=masks ops.toList []
 match planW P true ops ms (List.range ops.size)with
 | some r=>some r
 | none=>planW P false ops ms (lazyO P ops ms)
def trace(cf:Cf μ)(ops:Array Oper):List Oper→St μ→Option (List (St μ))
 | [],st=>some [st]
 | o::rest,st=>(stepOp P cf ops o st).bind fun st'=>(trace cf ops rest st').map fun l=>st::l
def readSame(ops:Array Oper)(tr:List (St μ))(i p m:Nat):Bool:=
 match ops[i]?,tr[p]?,tr[m]? with
 | some o,some s,some s'=>match want ops s.t o with
  | some true=>match opEff P (ev s.t) s.h o,opEff P (ev s.t) s'.h o with
   | some (.val v _),some (.val v' _)=>beqAV v v'
   | _,_=>false
  | some false=>true
  | none=>false
 | _,_,_=>false
def inPlaces(ops:Array Oper)(π:List Nat):List Oper:=π.filterMap (ops[·]?)
def drawG(cf:Cf μ)(ops:Array Oper)(π:List Nat)(pl:List (Nat × Nat × List Nat))(st:St μ):Option (St μ):=
 (trace P cf ops (inPlaces ops π) { st with h:=st.h.drew }).bind fun tr=>if pl.all fun p=>p.2.2.all fun m=>readSame P ops tr p.1 p.2.1 m then tr.getLast? else none
def drawF(cf:Cf μ)(ops:Array Oper)(st:St μ):Option (St μ):=(plan P ops).bind fun q=>drawG P cf ops q.2.1 q.2.2 st
theorem drawF_eq{cf:Cf μ}{ops:Array Oper}{st:St μ}{pln:Bool}{π:List Nat}(pl:List (Nat × Nat × List Nat))(h:plan P ops=some (pln,π,pl)):drawF P cf ops st=drawG P cf ops π pl st:=by simp[drawF,h]
end
end Go.Vn

/- The value machine: regions whose order is drawn: whatever order is drawn, the model comes to what the machine answers. No condition. -/
namespace Go.Vn
section
variable {μ:Type→Type} [Mp μ] {P:Program}
variable {ψ:Gh} {w:World}
theorem testBit_fold(acc:List Nat)(k:Nat):∀(l:List Edge) (s:Nat),(l.foldl (fun s e=>if Region.binds .any e then s ||| 2 ^ e.on ||| acc.getD e.on 0 else s) s).testBit k=true →
  s.testBit k=true∨∃e∈l,Region.binds .any e=true∧(k=e.on∨(acc.getD e.on 0).testBit k=true)
 | [],s,h=>.inl h
 | e::l,s,h=>by
  simp only[List.foldl_cons]at h
  rcases testBit_fold acc k l _ h with h | ⟨x,hx,hb,hk⟩
  ·by_cases hb:Region.binds .any e=true
   ·rw[if_pos hb]at h
    simp only[Nat.testBit_or,Bool.or_eq_true,Nat.testBit_two_pow,decide_eq_true_eq]at h
    rcases h with (h | h) | h
    ·exact .inl h
    ·exact .inr ⟨e,by simp,hb,.inl h.symm⟩
    ·exact .inr ⟨e,by simp,hb,.inr h⟩
   ·rw[if_neg hb]at h;exact .inl h
  ·exact .inr ⟨x,by simp[hx],hb,hk⟩
theorem masks_get:∀(l:List Oper) (acc:List Nat) (i:Nat),i<acc.length→(masks l acc).getD i 0=acc.getD i 0
 | [],_,_,_=>rfl
 | o::rest,acc,i,h=>by
  simp only[masks]
  rw[masks_get rest _ i (by simp;omega)]
  simp[List.getElem?_append_left h]
theorem masks_new:∀(l:List Oper) (acc:List Nat) (j:Nat) (hj:j<l.length),∃acc',acc'.length=acc.length+j∧(∀i,i<acc'.length→(masks l acc).getD i 0=acc'.getD i 0)∧(masks l acc).getD (acc.length+j) 0=maskOf acc' l[j]
 | [],_,_,hj=>by simp at hj
 | o::rest,acc,0,_=>⟨acc,by simp,fun i hi=>masks_get _ _ i hi,by
   simp only[masks,Nat.add_zero,List.getElem_cons_zero]
   rw[masks_get _ _ _ (by simp)]
   simp⟩
 | o::rest,acc,j+1,hj=>by
  obtain⟨acc',h1,h2,h3⟩:=masks_new rest (acc++[maskOf acc o]) j (by simpa using hj)
  simp only[List.length_append,List.length_cons,List.length_nil]at h1 h3
  refine⟨acc',by omega,fun i hi=>h2 i hi,?_⟩
  simp only[masks,List.getElem_cons_succ]
  rw[show acc.length+(j+1)=acc.length+(0+1)+j from by omega]
  exact h3
theorem closed_masks{ops:Array Oper}{D:Nat→Prop}(hc:∀i (o:Oper),ops[i]? = some o→D i→∀e∈o.after,Region.binds .any e=true→e.on<i∧D e.on) :
  ∀i k,i<ops.size→D i→((masks ops.toList []).getD i 0).testBit k=true→D k∧k<i:=by
 intro i
 induction i using Nat.strongRecOn with
 | _ i ih=>
  intro k hi hD hb
  obtain⟨acc,h1,h2,h3⟩:=masks_new ops.toList [] i (by simpa using hi)
  simp only[List.length_nil,Nat.zero_add]at h1 h3
  rw[h3]at hb
  unfold maskOf at hb
  rcases testBit_fold acc k _ 0 hb with h | ⟨e,he,hbi,hk⟩
  ·simp at h
  ·have ho:ops[i]? = some ops[i]:=Array.getElem?_eq_getElem hi
   simp only[Array.getElem_toList]at he
   obtain⟨e1,e2⟩:=hc i ops[i] ho hD e (by simpa using he) hbi
   rcases hk with rfl | hk
   ·exact⟨e2,e1⟩
   ·rw[←h2 e.on (by omega)]at hk
    obtain⟨q1,q2⟩:=ih e.on e1 k (by omega) e2 hk
    exact⟨q1,by omega⟩
theorem pure_cls{h:Hp μ}{ρ:Operand→AV}{o:Oper}{e:Eff μ}(hc:cls P o.op=0)(he:opEff P ρ h o=some e):∃v,e=.val v h∧∀h':Hp μ,opEff P ρ h' o=some (.val v h'):=by
 have kv:∀{v:Option AV} {e:Eff μ},vals h v=some e→∃r,e=.val r h∧∀h':Hp μ,vals h' v=some (.val r h'):=fun {v e} hh=>by
  obtain⟨r,hr,rfl⟩:=vals_inv hh
  exact⟨r,rfl,fun h'=>by rw[hr];rfl⟩
 unfold opEff at he
 unfold opEff
 split at he <;> rename_i hop <;> simp only[hop,cls]at hc ⊢ <;> try (exact absurd hc (by decide))
 ·cases he;exact⟨_,rfl,fun h'=>rfl⟩
 ·cases he;exact⟨_,rfl,fun h'=>rfl⟩
 ·split at he
  ·cases he;exact⟨_,rfl,fun h'=>rfl⟩
  ·cases he
 ·exact kv he
 ·split at he
  ·cases he;exact⟨_,rfl,fun h'=>rfl⟩
  ·cases he;exact⟨_,rfl,fun h'=>rfl⟩
  ·cases he;exact⟨_,rfl,fun h'=>rfl⟩
  ·cases he;exact⟨_,rfl,fun h'=>rfl⟩
  ·cases he;exact⟨_,rfl,fun h'=>rfl⟩
  ·cases he
 ·split at hc
  ·cases hc
  ·rename_i hnp
   simp only[binH,if_neg hnp]at he ⊢
   exact kv he
 ·exact kv he
 ·obtain⟨r,hr,rfl⟩:=valh_inv he
  unfold convAV at hr
  split at hr
  ·cases hr;rename_i h0 h1 h2;exact⟨_,rfl,fun h'=>by simp only[convAV,h0,h1,h2];rfl⟩
  ·cases hr;rename_i h0 h1 h2;exact⟨_,rfl,fun h'=>by simp only[convAV,h0,h1,h2];rfl⟩
  ·rename_i h0 h1 h2;rw[h1]at hc;simp at hc
  ·rename_i h0 h1 h2;rw[h1]at hc;simp at hc
  ·rename_i h0 h1 h2;rw[h1,h0]at hc;simp at hc
  ·rename_i h0 h1 h2;rw[h1,h0]at hc;simp at hc
  ·rename_i h0 h1 h2;rw[h1,h0]at hc;simp at hc
  ·rename_i h0 h1 h2;rw[h1,h0]at hc;simp at hc
  ·cases hr
 ·split at he
  ·cases he
  ·cases he;exact⟨_,rfl,fun h'=>rfl⟩
  ·cases he
 ·cases he;exact⟨_,rfl,fun h'=>rfl⟩
 ·exact kv he
 ·exact kv he
 ·exact kv he
 ·exact kv he
 ·exact kv he
 ·exact kv he
 ·split at he
  ·rename_i b hb
   rw[hb]at hc
   simp only[builtinAV]at he ⊢
   split at he
   ·simp only[Option.bind_eq_some_iff]at he
    obtain⟨t,ht,he⟩:=he
    obtain⟨r,hr,_⟩:=vals_inv he
    unfold lenMapAV at hr
    split at hr
    ·rename_i hu _;simp[ht,hu]at hc
    ·cases hr
   ·simp only[Option.bind_eq_some_iff]at he
    obtain⟨t,ht,he⟩:=he
    obtain⟨r,h1,h2⟩:=kv he
    exact⟨r,h1,fun h'=>by rw[ht];exact h2 h'⟩
   ·exact absurd hc (by simp)
   ·exact kv he
   ·exact kv he
   ·simp only[Option.bind_eq_some_iff]at he
    obtain⟨t,ht,he⟩:=he
    obtain⟨r,h1,h2⟩:=kv he
    exact⟨r,h1,fun h'=>by rw[ht];exact h2 h'⟩
   ·exact absurd hc (by simp)
   ·exact absurd hc (by simp)
   ·exact absurd hc (by simp)
   ·cases he
  ·rename_i f hf
   rw[hf]at hc
   simp at hc
  ·rename_i f m hf
   rw[hf]at hc
   simp at hc
theorem want_of{ops:Array Oper}{t:μ AV}{a:Act}{o:Oper}{b:Bool}(h:∀d∈reads ops o,VR ψ w (tget t d) (a.tmps.getD d Go.undef))(hw:want ops t o=some b):Region.wanted o (yielded ops a.tmps)=b:=by
 unfold want at hw
 unfold Region.wanted
 split at hw
 ·rename_i hg;cases hw;simp[hg]
 ·rename_i j q hg
  rw[hg]
  show(yielded ops a.tmps j == some q)=b
  rw[yielded_asB]
  split at hw
  ·rename_i hd
   cases hw
   rw[hd];rfl
  ·rename_i d hd
   have hv:=h d (by simp only[reads,hg,dstAt,hd];simp)
   rw[hd]
   simp only[Option.bind_some]
   simp only[Array.getD_eq_getD_getElem?]at hv
   cases hx:a.tmps[d]? with
   | none=>
    rw[hx]at hv
    simp only[Option.getD_none]at hv
    split at hw
    ·rename_i q2 ht;rw[ht]at hv;cases hv
    ·cases hw
    ·cases hw;rfl
   | some xv=>
    rw[hx]at hv
    simp only[Option.getD_some]at hv
    split at hw
    ·rename_i q2 ht
     rw[ht]at hv
     cases hv
     cases hw
     rfl
    ·cases hw
    ·rename_i ht1 ht2
     cases hw
     cases xv <;> try rfl
     rename_i q2
     generalize tget t d=tv at hv ht1 ht2
     cases hv
     ·exact(ht2 rfl).elim
     ·exact(ht1 _ rfl).elim
theorem trace_get{cf:Cf μ}{ops:Array Oper}:∀(l:List Oper) (st:St μ) (tr:List (St μ)),trace P cf ops l st=some tr→tr.length=l.length+1∧tr[0]? = some st ∧
  ∀i (hi:i<l.length),∃s s',tr[i]? = some s∧tr[i+1]? = some s'∧stepOp P cf ops l[i] s=some s'
 | [],st,tr,h=>by cases h;exact⟨rfl,rfl,fun i hi=>by simp at hi⟩
 | o::rest,st,tr,h=>by
  simp only[trace,Option.bind_eq_some_iff,Option.map_eq_some_iff]at h
  obtain⟨s1,h1,l,h2,rfl⟩:=h
  obtain⟨q1,q2,q3⟩:=trace_get rest s1 l h2
  refine⟨by simp[q1],rfl,fun i hi=>?_⟩
  cases i with
  | zero=>exact⟨st,s1,rfl,by simpa using q2,h1⟩
  | succ i=>
   obtain⟨s,s',r1,r2,r3⟩:=q3 i (by simpa using hi)
   exact⟨s,s',by simpa using r1,by simpa using r2,by simpa using r3⟩
theorem put_get{st st':St μ}{dst:Option Nat}{v:AV}(h:Vn.put st dst v=some st'):st'.h=st.h∧(st'.nt=st.nt∧st'.ro=st.ro)∧(∀d,dst=some d→d<st.nt∧tget st'.t d=v)∧∀i,dst≠some i→tget st'.t i=tget st.t i:=by
 unfold Vn.put at h
 cases dst with
 | none=>cases h;exact⟨rfl,⟨rfl,rfl⟩,fun d hd=>(by cases hd),fun i _=>rfl⟩
 | some d=>
  simp only at h
  split at h
  ·rename_i hlt
   cases h
   refine⟨rfl,⟨rfl,rfl⟩,fun d' hd'=>?_,fun i hi=>?_⟩
   ·cases hd';exact⟨hlt,by simp[tget_set]⟩
   ·simp only[tget_set];rw[if_neg (fun e=>hi (by rw[e]))]
  ·cases h
theorem stepOp_cases{cf:Cf μ}{ops:Array Oper}{o:Oper}{st st':St μ}(h:stepOp P cf ops o st=some st') :
  ∃v h',Vn.put { st with h:=h' } o.dst v=some st' ∧
   ((want ops st.t o=some false∧v=.undef∧h'=st.h) ∨
    (want ops st.t o=some true∧(opEff P (ev st.t) st.h o=some (.val v h')∨(opEff P (ev st.t) st.h o=some (.skip h')∧v=.undef)∨∃f args h0,opEff P (ev st.t) st.h o=some (.enter f args h0)∧cf f args h0=some (v,h')))):=by
 unfold stepOp at h
 split at h
 ·cases h
 ·rename_i hw;exact⟨.undef,st.h,h,.inl ⟨hw,rfl,rfl⟩⟩
 ·rename_i hw
  split at h
  ·rename_i v h' he;exact⟨v,h',h,.inr ⟨hw,.inl he⟩⟩
  ·rename_i h' he;exact⟨.undef,h',h,.inr ⟨hw,.inr (.inl ⟨he,rfl⟩)⟩⟩
  ·rename_i f args h0 he
   split at h
   ·rename_i r h' hc;exact⟨r,h',h,.inr ⟨hw,.inr (.inr ⟨f,args,h0,he,hc⟩)⟩⟩
   ·cases h
  ·cases h
theorem read_cls{h:Hp μ}{ρ:Operand→AV}{o:Oper}{e:Eff μ}(hc:cls P o.op≠2)(he:opEff P ρ h o=some e):∃v,e=.val v h:=by
 have kv:∀{v:Option AV} {e:Eff μ},vals h v=some e→∃r,e=.val r h:=fun {v e} hh=>by
  obtain⟨r,hr,rfl⟩:=vals_inv hh
  exact⟨r,rfl⟩
 unfold opEff at he
 split at he <;> rename_i hop <;> simp only[hop,cls]at hc <;> try (exact absurd rfl hc)
 ·cases he;exact⟨_,rfl⟩
 ·cases he;exact⟨_,rfl⟩
 ·split at he
  ·cases he;exact⟨_,rfl⟩
  ·cases he
 ·exact kv he
 ·exact kv he
 ·split at he
  ·cases he;exact⟨_,rfl⟩
  ·cases he;exact⟨_,rfl⟩
  ·cases he;exact⟨_,rfl⟩
  ·cases he;exact⟨_,rfl⟩
  ·cases he;exact⟨_,rfl⟩
  ·cases he
 ·exact kv he
 ·exact kv he
 ·obtain⟨r,hr,rfl⟩:=valh_inv he
  unfold convAV at hr
  split at hr
  ·cases hr;exact⟨_,rfl⟩
  ·cases hr;exact⟨_,rfl⟩
  ·rename_i h0 h1 h2;rw[h1]at hc;simp at hc
  ·split at hr
   ·cases hr;exact⟨_,rfl⟩
   ·cases hr
  ·split at hr
   ·cases hr;exact⟨_,rfl⟩
   ·cases hr
  ·split at hr
   ·cases hr;exact⟨_,rfl⟩
   ·cases hr
  ·split at hr
   ·simp only[Option.map_eq_some_iff]at hr
    obtain⟨s,hs,rfl⟩:=hr
    exact⟨_,rfl⟩
   ·cases hr
  ·split at hr
   ·simp only[Option.bind_eq_some_iff,Option.map_eq_some_iff]at hr
    obtain⟨els,_,s,hs,rfl⟩:=hr
    exact⟨_,rfl⟩
   ·cases hr
  ·cases hr
 ·split at he
  ·cases he
  ·cases he;exact⟨_,rfl⟩
  ·cases he
 ·cases he;exact⟨_,rfl⟩
 ·exact kv he
 ·exact kv he
 ·exact kv he
 ·exact kv he
 ·exact kv he
 ·exact kv he
 ·exact kv he
 ·exact kv he
 ·split at he
  ·rename_i b hb
   rw[hb]at hc
   simp only[builtinAV]at he
   split at he
   ·simp only[Option.bind_eq_some_iff]at he
    obtain⟨t,ht,he⟩:=he
    exact kv he
   ·simp only[Option.bind_eq_some_iff]at he
    obtain⟨t,ht,he⟩:=he
    exact kv he
   ·exact absurd hc (by simp)
   ·exact kv he
   ·exact kv he
   ·simp only[Option.bind_eq_some_iff]at he
    obtain⟨t,ht,he⟩:=he
    exact kv he
   ·exact absurd hc (by simp)
   ·exact absurd hc (by simp)
   ·exact absurd hc (by simp)
   ·cases he
  ·rename_i f hf
   rw[hf]at hc
   simp at hc
  ·rename_i f m hf
   rw[hf]at hc
   simp at hc
end
end Go.Vn

/- The value machine: regions whose order is drawn, the theorem. No condition. -/
namespace Go.Vn
theorem filter_lt{p q:Nat→Bool}:∀(l:List Nat),(∀x∈l,q x=true→p x=true)→(∃i∈l,p i=true∧q i=false)→(l.filter q).length<(l.filter p).length
 | [],_,h=>by obtain⟨i,hi,_⟩:=h;cases hi
 | x::l,hall,hex=>by
  have hle:(l.filter q).length≤(l.filter p).length:=by
   clear hex
   have hl:∀y∈l,q y=true→p y=true:=fun y hy=>hall y (by simp[hy])
   clear hall
   induction l with
   | nil=>simp
   | cons y l ih=>
    have ih':=ih fun z hz=>hl z (by simp[hz])
    have hy:=hl y (by simp)
    simp only[List.filter_cons]
    cases hq:q y with
    | true=>rw[hy hq];simp only[if_true,List.length_cons];omega
    | false=>cases hp:p y <;> simp <;> omega
  simp only[List.filter_cons]
  obtain⟨i,hi,h1,h2⟩:=hex
  rcases List.mem_cons.1 hi with rfl | hi
  ·rw[h1,h2];simp only[if_true,Bool.false_eq_true,if_false,List.length_cons];omega
  ·have:=filter_lt l (fun y hy=>hall y (by simp[hy])) ⟨i,hi,h1,h2⟩
   have hx:=hall x (by simp)
   cases hq:q x with
   | true=>rw[hx hq];simp only[if_true,List.length_cons];omega
   | false=>cases hp:p x <;> simp <;> omega
section
variable {μ:Type→Type} [Mp μ] {P:Program}
structure Facts(P:Program)(pln:Bool)(ops:Array Oper)(ms π:List Nat):Prop where
 len:π.length=ops.size
 pos:∀i,i<ops.size→posOf π i<ops.size∧π.getD (posOf π i) ops.size=i
 at_:∀k,k<ops.size→π.getD k ops.size<ops.size∧posOf π (π.getD k ops.size)=k
 on:∀j (o:Oper),ops[j]? = some o→∀e∈o.after,Region.binds .any e=true→e.on<j
 topo:∀i j,i<j→j<ops.size→(ms.getD j 0).testBit i=true→posOf π i<posOf π j
 two:∀i j,i<j→j<ops.size→clAt P pln ops i=2→clAt P pln ops j=2→(ms.getD j 0).testBit i=true
 one:∀i j d,i<j→j<ops.size→dstAt ops i=some d→dstAt ops j≠some d
 after:∀i j d (o:Oper),i<j→ops[j]? = some o→dstAt ops i=some d→d∈reads ops o→(ms.getD j 0).testBit i=true
 ahead:∀i j d (o:Oper),i<j→j<ops.size→ops[i]? = some o→dstAt ops j=some d→d∈reads ops o→(ms.getD j 0).testBit i=true
 aeff:∀a j,a<ops.size→j<ops.size→clAt P pln ops a=3→clAt P pln ops j=2→(posOf π a<posOf π j↔(ms.getD j 0).testBit a=true)
 amid:∀a j,a<ops.size→j<ops.size→a≠j→clAt P pln ops a=3→clAt P pln ops j≠2→(ms.getD j 0).testBit a=true→∃q,q<ops.size∧clAt P pln ops q=2∧(ms.getD q 0).testBit a=true∧(ms.getD j 0).testBit q=true
theorem getD_map_range{α:Type}(f:Nat→α)(n i:Nat)(d:α)(h:i<n):((List.range n).map f).getD i d=f i:=by
 simp[List.getD_eq_getElem?_getD,h]
theorem facts_of{pln:Bool}{ops:Array Oper}{ms π:List Nat}(h:drawOk P pln ops ms π=true):Facts P pln ops ms π:=by
 unfold drawOk at h
 simp only[Bool.and_eq_true,beq_iff_eq]at h
 obtain⟨⟨⟨h1,h2⟩,h3⟩,h4⟩:=h
 have p1:∀i,i<ops.size→posOf π i<ops.size∧π.getD (posOf π i) ops.size=i:=fun i hi=>by
  have:=List.all_eq_true.1 h2 i (List.mem_range.2 hi)
  simp only[getD_map_range (posOf π) _ _ _ hi,Bool.and_eq_true,decide_eq_true_eq,beq_iff_eq]at this
  exact this
 have p2:∀k,k<ops.size→π.getD k ops.size<ops.size∧posOf π (π.getD k ops.size)=k:=fun k hk=>by
  have:=List.all_eq_true.1 h3 k (List.mem_range.2 hk)
  simp only[Bool.and_eq_true,decide_eq_true_eq,beq_iff_eq]at this
  refine⟨this.1,?_⟩
  have h:=this.2
  rw[getD_map_range (posOf π) _ _ _ this.1]at h
  exact h
 have key:∀j (o:Oper),ops[j]? = some o→(o.after.all fun e => !Region.binds .any e || decide (e.on<j))=true∧(∀i,i<j →
   ((!(ms.getD j 0).testBit i || decide (posOf π i<posOf π j))=true∧(!(clAt P pln ops i == 2&&clAt P pln ops j == 2) || (ms.getD j 0).testBit i)=true ∧
    (match dstAt ops i with
     | some d=>dstAt ops j != some d&&(!(reads ops o).contains d || (ms.getD j 0).testBit i)
     | none=>true)=true ∧
    (match dstAt ops j with
     | some d => !((ops[i]?).any fun oi=>(reads ops oi).contains d) || (ms.getD j 0).testBit i
     | none=>true)=true)) ∧
   (∀a,a<ops.size→clAt P pln ops a=3→a≠j→(if clAt P pln ops j == 2 then(decide (posOf π a<posOf π j) == (ms.getD j 0).testBit a)
    else !(ms.getD j 0).testBit a || (List.range ops.size).any fun q=>clAt P pln ops q == 2&&(ms.getD q 0).testBit a&&(ms.getD j 0).testBit q)=true):=fun j o ho=>by
  have hj:j<ops.size:=(Array.getElem?_eq_some_iff.1 ho).1
  have h5:=List.all_eq_true.1 h4 j (List.mem_range.2 hj)
  rw[ho]at h5
  simp only[Bool.and_eq_true]at h5
  refine⟨h5.1.1,fun i hi=>?_,fun a ha hca haj=>?_⟩
  ·have h6:=(List.all_eq_true.1 h5.1.2) i (List.mem_range.2 hi)
   simp only[getD_map_range (posOf π) _ _ _ hj,getD_map_range (posOf π) _ _ _ (Nat.lt_trans hi hj),getD_map_range (clAt P pln ops) _ _ _ hj,getD_map_range (clAt P pln ops) _ _ _ (Nat.lt_trans hi hj),Bool.and_eq_true]at h6
   exact⟨h6.1.1.1,h6.1.1.2,h6.1.2,h6.2⟩
  ·have h6:=(List.all_eq_true.1 h5.2) a (List.mem_range.2 ha)
   simp only[getD_map_range (posOf π) _ _ _ hj,getD_map_range (posOf π) _ _ _ ha,getD_map_range (clAt P pln ops) _ _ _ hj,getD_map_range (clAt P pln ops) _ _ _ ha,hca]at h6
   have h7:(a == j)=false:=by simpa using haj
   rw[h7]at h6
   simp only[beq_self_eq_true,Bool.not_true,Bool.false_or]at h6
   by_cases hc:clAt P pln ops j=2
   ·have hc':(clAt P pln ops j == 2)=true:=by simp[hc]
    simp only[hc',if_true]
    first | (rw[if_pos hc]at h6;exact h6) | (rw[if_pos hc']at h6;exact h6)
   ·have hc':(clAt P pln ops j == 2)=false:=by simp[hc]
    have h6:=by first | (rw[if_neg hc]at h6;exact h6) | (rw[hc']at h6;simpa only[Bool.false_eq_true,if_false]using h6)
    simp only[hc',Bool.false_eq_true,if_false,Bool.or_eq_true,Bool.not_eq_true',List.any_eq_true]at h6 ⊢
    rcases h6 with h6 | ⟨q,hq,h6⟩
    ·exact .inl h6
    ·have hq':=List.mem_range.1 hq
     simp only[getD_map_range (clAt P pln ops) _ _ _ hq']at h6
     exact .inr ⟨q,hq,h6⟩
 refine⟨h1,p1,p2,fun j o ho e he hb=>?_,fun i j hij hj hb=>?_,fun i j hij hj h1 h2=>?_,fun i j d hij hj h1 h2=>?_,fun i j d o hij ho h1 h2=>?_,fun i j d o hij hj ho h1 h2=>?_,fun a j ha hj hca hcj=>?_,fun a j ha hj haj hca hcj hb=>?_⟩
 ·have:=(Array.all_eq_true_iff_forall_mem.1 (key j o ho).1) e he
  simpa[hb]using this
 ·have:=((key j ops[j] (Array.getElem?_eq_getElem hj)).2.1 i hij).1
  simpa only[hb,Bool.not_true,Bool.false_or,decide_eq_true_eq]using this
 ·have:=((key j ops[j] (Array.getElem?_eq_getElem hj)).2.1 i hij).2.1
  simpa only[h1,h2,beq_self_eq_true,Bool.and_self,Bool.not_true,Bool.false_or]using this
 ·obtain⟨_,_,q2,_⟩:=(key j ops[j] (Array.getElem?_eq_getElem hj)).2.1 i hij
  rw[h1]at q2
  simp only[Bool.and_eq_true,bne_iff_ne]at q2
  exact q2.1 h2
 ·obtain⟨_,_,q2,_⟩:=(key j o ho).2.1 i hij
  rw[h1]at q2
  simp only[Bool.and_eq_true]at q2
  have:=q2.2
  have hm:(reads ops o).contains d=true:=by simpa using h2
  simpa only[hm,Bool.not_true,Bool.false_or]using this
 ·obtain⟨_,_,_,q3⟩:=(key j ops[j] (Array.getElem?_eq_getElem hj)).2.1 i hij
  rw[h1]at q3
  have hany:((ops[i]?).any fun oi=>(reads ops oi).contains d)=true:=by rw[ho];simp[h2]
  simp only at q3
  rw[hany]at q3
  simpa only[Bool.not_true,Bool.false_or]using q3
 ·have haj:a≠j:=fun he=>by rw[he,hcj]at hca;cases hca
  have:=(key j ops[j] (Array.getElem?_eq_getElem hj)).2.2 a ha hca haj
  simp only[hcj,beq_self_eq_true,if_true,beq_iff_eq]at this
  rw[←this,decide_eq_true_eq]
 ·have:=(key j ops[j] (Array.getElem?_eq_getElem hj)).2.2 a ha hca haj
  have hc:(clAt P pln ops j == 2)=false:=by simpa using hcj
  simp only[hc,Bool.false_eq_true,if_false,hb,Bool.not_true,Bool.false_or,List.any_eq_true,Bool.and_eq_true,beq_iff_eq]at this
  obtain⟨q,hq,⟨h5,h6⟩,h7⟩:=this
  exact⟨q,List.mem_range.1 hq,h5,h6,h7⟩
theorem ec_succ(pln:Bool)(ops:Array Oper)(π:List Nat)(k:Nat):ec P pln ops π (k+1)=ec P pln ops π k+if 2≤clAt P pln ops (π.getD k ops.size)then 1 else 0:=by
 unfold ec
 rw[List.range_succ,List.filter_append,List.length_append]
 congr 1
 by_cases h:2≤clAt P pln ops (π.getD k ops.size) <;> simp only[List.filter_cons,h,decide_true,decide_false,if_true,if_false,List.filter_nil,List.length_cons,List.length_nil,Bool.false_eq_true]
theorem ec_mono{pln:Bool}{ops:Array Oper}{π:List Nat}{m m':Nat}(_:m≤m'):ec P pln ops π m≤ec P pln ops π m':=by
 induction m' with
 | zero=>rw[show m=0 from by omega];exact Nat.le_refl _
 | succ k ih=>
  by_cases he:m=k+1
  ·rw[he];exact Nat.le_refl _
  ·have:=ih (by omega);rw[ec_succ];omega
theorem ec_same{pln:Bool}{ops:Array Oper}{π:List Nat}{m m':Nat}(h:m≤m')(he:ec P pln ops π m=ec P pln ops π m'):∀k,m≤k→k<m'→¬2≤clAt P pln ops (π.getD k ops.size):=fun k h1 h2 hc=>by
 have q1:=ec_mono (P:=P) (pln:=pln) (ops:=ops) (π:=π) h1
 have q2:=ec_mono (P:=P) (pln:=pln) (ops:=ops) (π:=π) (show k+1≤m' from h2)
 rw[ec_succ,if_pos hc]at q2
 omega
theorem cls_le(o:Op):cls P o≤2:=by
 cases o <;> simp only[cls] <;> (repeat' split) <;> omega
theorem cl_cases{pln:Bool}{ops:Array Oper}{i:Nat}{o:Oper}(ho:ops[i]? = some o):(clAt P pln ops i=3∧isA o.op=true)∨(clAt P pln ops i=cls P o.op∧clAt P pln ops i≤2):=by
 simp only[clAt,ho,cl]
 split
 ·rename_i h
  simp only[Bool.and_eq_true]at h
  exact .inl ⟨rfl,h.2⟩
 ·exact .inr ⟨rfl,cls_le _⟩
def Pend(P:Program)(pln:Bool)(ops:Array Oper)(π:List Nat)(s:Nat→St μ)(m j:Nat):Prop:=clAt P pln ops j=3∧m≤posOf π j∧∀o,ops[j]? = some o→want ops (s (posOf π j)).t o=some true
structure Inv(P:Program)(pln:Bool)(ops:Array Oper)(π:List Nat)(s:Nat→St μ)(ψ:Gh)(w:World)(nt:Nat)(t0:μ AV)(ds:List Deferred)(blk:Nat→Nat)(listed:Array Bool)(a':Act)(w':World)(m:Nat)(ψ':Gh):Prop where
 sz:listed.size=ops.size
 clo:∀i (o:Oper),ops[i]? = some o→listed.getD i false=true→∀e∈o.after,Region.binds .any e=true→e.on<i∧listed.getD e.on false=true
 mn:m≤ops.size
 eff:∀j,j<ops.size→clAt P pln ops j=2→(listed.getD j false=true↔posOf π j<m)
 alo:∀j,j<ops.size→clAt P pln ops j=3→posOf π j<m→listed.getD j false=true
 ext:Ext ψ w ψ' w'
 sim:Sim ψ' w' (s m).h
 tsz:nt≤a'.tmps.size
 tw:∀τ j,j<ops.size→dstAt ops j=some τ→listed.getD j false=true→¬Pend P pln ops π s m j→VR ψ' w' (tget (s (posOf π j+1)).t τ) (a'.tmps.getD τ Go.undef)
 tu:∀τ,(∀j,j<ops.size→dstAt ops j=some τ→listed.getD j false=false)→VR ψ' w' (tget t0 τ) (a'.tmps.getD τ Go.undef)
 td:a'.defers=ds
 pe:∀j (o:Oper),ops[j]? = some o→listed.getD j false=true→Pend P pln ops π s m j→∃ob u,w.heap.size≤blk j∧w'.heap[blk j]? = some ob∧ψ'.grp (blk j)=none∧ψ'.own (blk j)=none∧(∀τ,o.dst=some τ→a'.tmps.getD τ Go.undef=u)∧Later P (ev (s (posOf π j)).t) o μ (blk j) ob u ψ' w'
 inj:∀j k,j<ops.size→k<ops.size→listed.getD j false=true→listed.getD k false=true→Pend P pln ops π s m j→Pend P pln ops π s m k→blk j=blk k→j=k
theorem draw_sound(hm:P.follows .mixedOrders=true){cf:Cf μ}(hcf:CfSound P cf):DfSound P (drawF P cf):=by
 intro ops st st' hd
 simp only[drawF,Option.bind_eq_some_iff]at hd
 obtain⟨⟨pln,π,pl⟩,hpl,hd⟩:=hd
 simp only[drawG,Option.bind_eq_some_iff]at hd
 obtain⟨tr,htr,hd⟩:=hd
 split at hd
 case isFalse=>cases hd
 rename_i hchk
 let ms:=masks ops.toList []
 have hpl':drawOk P pln ops ms π=true∧pl=((List.range ops.size).filter fun i=>clAt P pln ops i == 1).map fun i=>(i,posOf π i,readPlan P pln ops ms π i):=by
  have one:∀b ρ,planW P b ops ms ρ=some (pln,π,pl)→drawOk P pln ops ms π=true∧pl=((List.range ops.size).filter fun i=>clAt P pln ops i == 1).map fun i=>(i,posOf π i,readPlan P pln ops ms π i):=fun b ρ h=>by
   unfold planW at h
   split at h
   ·rename_i h0;cases h;exact⟨h0,rfl⟩
   ·cases h
  unfold plan at hpl
  simp only at hpl
  split at hpl
  ·rename_i r hr;cases hpl;exact one _ _ hr
  ·exact one _ _ hpl
 obtain⟨hok,hple⟩:=hpl'
 have F:=facts_of hok
 obtain⟨st1,hst1⟩:∃x:St μ,x={ st with h:=st.h.drew }:=⟨_,rfl⟩
 rw[←hst1]at htr
 have hst1n:st.nt=st1.nt:=by rw[hst1]
 have hst1r:st.ro=st1.ro:=by rw[hst1]
 have hst1t:st.t=st1.t:=by rw[hst1]
 have hst1h:st.h.drew=st1.h:=by rw[hst1]
 rw[hst1n,hst1r];simp only[hst1t]
 clear hst1n hst1r hst1t hst1
 have hinl:(inPlaces ops π).length=ops.size∧∀k (o:Oper),k<ops.size→ops[π.getD k ops.size]? = some o→(inPlaces ops π)[k]? = some o:=by
  have key:∀l:List Nat,(∀x∈l,x<ops.size)→(l.filterMap (ops[·]?)).length=l.length∧∀k,k<l.length→(l.filterMap (ops[·]?))[k]? = ops[l.getD k ops.size]? := by
   intro l
   induction l with
   | nil=>intro _;exact⟨rfl,fun k h=>by simp at h⟩
   | cons x l ih=>
    intro hx
    obtain⟨i1,i2⟩:=ih fun y hy=>hx y (by simp[hy])
    have hxs:=hx x (by simp)
    have hg:ops[x]? = some ops[x]:=Array.getElem?_eq_getElem hxs
    rw[List.filterMap_cons,hg]
    refine⟨by simp[i1],fun k hk=>?_⟩
    cases k with
    | zero=>simp[hg]
    | succ k=>have:=i2 k (by simpa using hk);simpa using this
  have hmem:∀x∈π,x<ops.size:=fun x hx=>by
   obtain⟨k,hk,rfl⟩:=List.getElem_of_mem hx
   have:=(F.at_ k (by rw[←F.len];exact hk)).1
   rw[List.getD_eq_getElem?_getD,List.getElem?_eq_getElem hk]at this
   exact this
  obtain⟨k1,k2⟩:=key π hmem
  exact⟨k1.trans F.len,fun k o hk ho=>by unfold inPlaces;rw[k2 k (by rw[F.len];exact hk)];exact ho⟩
 obtain⟨t1,t2,t3⟩:=trace_get (inPlaces ops π) st1 tr htr
 rw[hinl.1]at t1
 let s:Nat→St μ:=fun i=>tr.getD i st1
 have hs:∀i,i≤ops.size→tr[i]? = some (s i):=fun i hi=>by
  simp only[s,List.getD_eq_getElem?_getD]
  rw[List.getElem?_eq_getElem (by omega)];rfl
 have hs0:s 0=st1:=by have:=hs 0 (by omega);rw[t2]at this;exact(Option.some.inj this).symm
 have hst:∀k (o:Oper),k<ops.size→ops[π.getD k ops.size]? = some o→stepOp P cf ops o (s k)=some (s (k+1)):=fun k o hk ho=>by
  have hlt:k<(inPlaces ops π).length:=by rw[hinl.1];exact hk
  obtain⟨a,b,h1,h2,h3⟩:=t3 k hlt
  rw[hs k (by omega)]at h1
  rw[hs (k+1) (by omega)]at h2
  cases h1;cases h2
  have:=hinl.2 k o hk ho
  rw[List.getElem?_eq_getElem hlt]at this
  rw[Option.some.inj this]at h3
  exact h3
 have hlast:st'=s ops.size:=by
  rw[List.getLast?_eq_getElem?,t1]at hd
  simp only[Nat.add_sub_cancel]at hd
  rw[hs ops.size (Nat.le_refl _)]at hd
  exact(Option.some.inj hd).symm
 have opk:∀k,k<ops.size→∃o,ops[π.getD k ops.size]? = some o:=fun k hk=>⟨_,Array.getElem?_eq_getElem (F.at_ k hk).1⟩
 have hnt:∀i,i≤ops.size→(s i).nt=st1.nt∧(s i).ro=st1.ro:=by
  intro i
  induction i with
  | zero=>intro _;rw[hs0];exact⟨rfl,rfl⟩
  | succ i ih=>
   intro hi
   obtain⟨o,ho⟩:=opk i (by omega)
   have:=stepOp_same (hst i o (by omega) ho)
   have h2:=ih (by omega)
   exact⟨this.1.trans h2.1,this.2.trans h2.2⟩
 have hput:∀k (o:Oper),k<ops.size→ops[π.getD k ops.size]? = some o→∃v h',(s (k+1)).h=h'∧(∀d,o.dst=some d→d<st1.nt∧tget (s (k+1)).t d=v)∧(∀d,o.dst≠some d→tget (s (k+1)).t d=tget (s k).t d) ∧
   ((want ops (s k).t o=some false∧v=.undef∧h'=(s k).h) ∨
    (want ops (s k).t o=some true∧(opEff P (ev (s k).t) (s k).h o=some (.val v h')∨(opEff P (ev (s k).t) (s k).h o=some (.skip h')∧v=.undef)∨∃f args h0,opEff P (ev (s k).t) (s k).h o=some (.enter f args h0)∧cf f args h0=some (v,h')))):=fun k o hk ho=>by
  obtain⟨v,h',q1,q2⟩:=stepOp_cases (hst k o hk ho)
  obtain⟨p1,p2,p3,p4⟩:=put_get q1
  exact⟨v,h',p1,fun d hd=>⟨by rw[←(hnt k (by omega)).1];exact(p3 d hd).1,(p3 d hd).2⟩,fun d hd=>p4 d hd,q2⟩
 have hdst:∀i (o:Oper),ops[i]? = some o→dstAt ops i=o.dst:=fun i o ho=>by simp[dstAt,ho]
 have hstep1:∀k,k<ops.size→¬2≤clAt P pln ops (π.getD k ops.size)→(s (k+1)).h=(s k).h:=fun k hk hc=>by
  obtain⟨o,ho⟩:=opk k hk
  have hc':cls P o.op≠2:=by
   rcases cl_cases (P:=P) (pln:=pln) ho with⟨h1,_⟩ | ⟨h1,_⟩ <;> omega
  obtain⟨v,h',p1,_,_,p4⟩:=hput k o hk ho
  rw[p1]
  rcases p4 with⟨_,_,e⟩ | ⟨_,e | ⟨e,_⟩ | ⟨f,args,h0,e,_⟩⟩
  ·exact e
  ·obtain⟨v',e'⟩:=read_cls hc' e;cases e';rfl
  ·obtain⟨v',e'⟩:=read_cls hc' e;cases e'
  ·obtain⟨v',e'⟩:=read_cls hc' e;cases e'
 have hheap:∀m m',m≤m'→m'≤ops.size→(∀k,m≤k→k<m'→¬2≤clAt P pln ops (π.getD k ops.size))→(s m').h=(s m).h:=by
  intro m m' hle
  induction m' with
  | zero=>intro _ _;rw[show m=0 from by omega]
  | succ k ih=>
   intro hk hno
   by_cases he:m=k+1
   ·rw[he]
   ·rw[hstep1 k (by omega) (hno k (by omega) (by omega))]
    exact ih (by omega) (by omega) (fun j h1 h2=>hno j h1 (by omega))
 have htmp:∀τ m m',m≤m'→m'≤ops.size→(∀k,m≤k→k<m'→dstAt ops (π.getD k ops.size)≠some τ)→tget (s m').t τ=tget (s m).t τ:=by
  intro τ m m' hle
  induction m' with
  | zero=>intro _ _;rw[show m=0 from by omega]
  | succ k ih=>
   intro hk hno
   by_cases he:m=k+1
   ·rw[he]
   ·have ih':=ih (by omega) (by omega) (fun j h1 h2=>hno j h1 (by omega))
    obtain⟨o,ho⟩:=opk k (by omega)
    obtain⟨v,h',_,_,p3,_⟩:=hput k o (by omega) ho
    rw[p3 τ (by rw[←hdst _ _ ho];exact hno k (by omega) (by omega)),ih']
 have huniq:∀i j τ,i<ops.size→j<ops.size→dstAt ops i=some τ→dstAt ops j=some τ→i=j:=fun i j τ hi hj h1 h2=>by
  rcases Nat.lt_trichotomy i j with h | h | h
  ·exact(F.one i j τ h hj h1 h2).elim
  ·exact h
  ·exact(F.one j i τ h hi h2 h1).elim
 refine⟨⟨by rw[hlast];exact(hnt _ (Nat.le_refl _)).1,by rw[hlast];exact(hnt _ (Nat.le_refl _)).2⟩,fun ψ w a id Q ro S T hQ=>?_⟩
 refine wpIn_region_any hm ?_
 have gd:∀(listed:Array Bool) (j:Nat),listed.size=ops.size→j<ops.size→listed.getD j true=listed.getD j false:=fun listed j h1 h2=>by
  simp only[Array.getD_eq_getD_getElem?]
  rw[Array.getElem?_eq_getElem (by omega)]
  rfl
 have adv:∀(blk:Nat→Nat) (listed:Array Bool) (a':Act) (w':World) (m:Nat) (ψ':Gh),Inv P pln ops π s ψ w st1.nt st1.t a.defers blk listed a' w' m ψ'→m<ops.size→clAt P pln ops (π.getD m ops.size)≠2 →
   (clAt P pln ops (π.getD m ops.size)=3→listed.getD (π.getD m ops.size) false=true)→∃ψ'',Inv P pln ops π s ψ w st1.nt st1.t a.defers blk listed a' w' (m+1) ψ'':=by
  intro blk listed a' w' m ψ' I hmn hc2 hc3
  obtain⟨hin,hpm⟩:=F.at_ m hmn
  generalize hi:π.getD m ops.size=i at hc2 hc3 hin hpm
  obtain⟨o,ho⟩:∃o,ops[i]? = some o:=⟨_,Array.getElem?_eq_getElem hin⟩
  have hpos:∀j,j<ops.size→posOf π j=m→j=i:=fun j hj hp=>by
   have:=(F.pos j hj).2
   rw[hp,hi]at this
   exact this.symm
  have heff:∀j,j<ops.size→clAt P pln ops j=2→(listed.getD j false=true↔posOf π j<m+1):=fun j hj hcj=>by
   rw[I.eff j hj hcj]
   constructor
   ·intro h;omega
   ·intro h
    rcases Nat.lt_or_ge (posOf π j) m with h' | h'
    ·exact h'
    ·have:=hpos j hj (by omega);subst this;exact absurd hcj hc2
  have halo:∀j,j<ops.size→clAt P pln ops j=3→posOf π j<m+1→listed.getD j false=true:=fun j hj hcj h=>by
   rcases Nat.lt_or_ge (posOf π j) m with h' | h'
   ·exact I.alo j hj hcj h'
   ·have:=hpos j hj (by omega);subst this;exact hc3 hcj
  have pend:∀j,j<ops.size→Pend P pln ops π s (m+1) j→Pend P pln ops π s m j:=fun j hj ⟨h1,h2,h3⟩=>⟨h1,by omega,h3⟩
  have pend':∀j,j<ops.size→j≠i→Pend P pln ops π s m j→Pend P pln ops π s (m+1) j:=fun j hj hne ⟨h1,h2,h3⟩=>⟨h1,by
   rcases Nat.lt_or_ge m (posOf π j)with h' | h'
   ·exact h'
   ·exact(hne (hpos j hj (by omega))).elim,h3⟩
  by_cases hp:Pend P pln ops π s m i
  ·obtain⟨hc,hle,hw⟩:=hp
   have hwi:=hw o ho
   rw[hpm]at hwi
   obtain⟨ob,u,b1,b2,b3,b4,b5,b6⟩:=I.pe i o ho (hc3 hc) ⟨hc,hle,hw⟩
   rw[hpm]at b6
   obtain⟨v,h',p1,p2,p3,p4⟩:=hput m o hmn (by rw[hi];exact ho)
   have hisA:isA o.op=true:=by
    rcases cl_cases (P:=P) (pln:=pln) ho with⟨_,h⟩ | ⟨_,h⟩
    ·exact h
    ·omega
   rcases p4 with⟨hwf,_,_⟩ | ⟨_,hcase⟩
   ·rw[hwi]at hwf;cases hwf
   have hop:∃e,opEff P (ev (s m).t) (s m).h o=some e:=by
    rcases hcase with e | ⟨e,_⟩ | ⟨f,args,h0,e,_⟩ <;> exact⟨_,e⟩
   obtain⟨e,he⟩:=hop
   obtain⟨v2,h2',ψ3,rfl,E3,hC,S3,V3⟩:=b6 ψ' w' (s m).h e (fun _ _ h=>h) I.sim b2 b3 b4 he
   have hvv:v2=v∧h2'=h':=by
    rcases hcase with e | ⟨e,_⟩ | ⟨f,args,h0,e,_⟩ <;> rw[he]at e <;> cases e
    exact⟨rfl,rfl⟩
   obtain⟨rfl,rfl⟩:=hvv
   refine⟨ψ3,⟨I.sz,I.clo,by omega,heff,halo,⟨I.ext.toExt0.trans E3,fun C h1 h2 h3=>?_⟩,by rw[p1];exact S3,I.tsz,fun τ j hj hd hl hnp=>?_,fun τ hno=>(I.tu τ hno).mono0 E3,I.td,fun j oj hoj hl hpj=>?_,fun j k hj hk hlj hlk hpj hpk hb=>I.inj j k hj hk hlj hlk (pend j hj hpj) (pend k hk hpk) hb⟩⟩
   ·obtain⟨c1,c2,c3⟩:=I.ext.fr C h1 h2 h3
    obtain⟨d1,d2⟩:=hC C (by omega)
    exact⟨c1,d1.trans c2,d2.trans c3⟩
   ·by_cases hji:j=i
    ·subst hji
     rw[hdst _ _ ho]at hd
     rw[hpm,(p2 τ hd).2,b5 τ hd]
     exact V3
    ·exact(I.tw τ j hj hd hl fun hp=>hnp (pend' j hj hji hp)).mono0 E3
   ·have hj:=(Array.getElem?_eq_some_iff.1 hoj).1
    have hji:j≠i:=fun he=>by rw[he]at hpj;have:=hpj.2.1;omega
    obtain⟨ob',u',d1,d2,d3,d4,d5,d6⟩:=I.pe j oj hoj hl (pend j hj hpj)
    have hne:blk j≠blk i:=fun hb=>hji (I.inj j i hj hin hl (hc3 hc) (pend j hj hpj) ⟨hc,hle,hw⟩ hb)
    obtain⟨x1,x2⟩:=hC (blk j) hne
    exact⟨ob',u',d1,d2,x1.trans d3,x2.trans d4,d5,d6.mono E3⟩
  ·have hsame:(s (m+1)).h=(s m).h:=by
    by_cases hc:clAt P pln ops i=3
    ·obtain⟨v,h',p1,p2,p3,p4⟩:=hput m o hmn (by rw[hi];exact ho)
     rcases p4 with⟨_,_,e⟩ | ⟨hw,_⟩
     ·rw[p1,e]
     ·exact(hp ⟨hc,by omega,fun o' ho'=>by rw[ho]at ho';cases ho';rw[hpm];exact hw⟩).elim
    ·have hle:clAt P pln ops i≤2:=by rcases cl_cases (P:=P) (pln:=pln) ho with⟨h1,_⟩ | ⟨_,h1⟩ <;> omega
     exact hstep1 m hmn (by rw[hi];omega)
   refine⟨ψ',⟨I.sz,I.clo,by omega,heff,halo,I.ext,by rw[hsame];exact I.sim,I.tsz,fun τ j hj hd hl hnp=>I.tw τ j hj hd hl fun hpj=>?_,I.tu,I.td,fun j oj hoj hl hpj=>I.pe j oj hoj hl (pend j (Array.getElem?_eq_some_iff.1 hoj).1 hpj),
    fun j k hj hk hlj hlk hpj hpk hb=>I.inj j k hj hk hlj hlk (pend j hj hpj) (pend k hk hpk) hb⟩⟩
   have hji:j≠i:=fun he=>hp (he▸hpj)
   exact hnp (pend' j hj hji hpj)
 have advTo:∀(d:Nat) (blk:Nat→Nat) (listed:Array Bool) (a':Act) (w':World) (m:Nat) (ψ':Gh),Inv P pln ops π s ψ w st1.nt st1.t a.defers blk listed a' w' m ψ'→m+d≤ops.size →
   (∀k,m≤k→k<m+d→clAt P pln ops (π.getD k ops.size)≠2∧(clAt P pln ops (π.getD k ops.size)=3→listed.getD (π.getD k ops.size) false=true))→∃ψ'',Inv P pln ops π s ψ w st1.nt st1.t a.defers blk listed a' w' (m+d) ψ'':=by
  intro d
  induction d with
  | zero=>intro blk listed a' w' m ψ' I _ _;exact⟨ψ',I⟩
  | succ d ih=>
   intro blk listed a' w' m ψ' I hle hk
   obtain⟨ψ1,I1⟩:=adv blk listed a' w' m ψ' I (by omega) (hk m (by omega) (by omega)).1 (hk m (by omega) (by omega)).2
   obtain⟨ψ2,I2⟩:=ih blk listed a' w' (m+1) ψ1 I1 (by omega) fun k h1 h2=>hk k (by omega) (by omega)
   exact⟨ψ2,by rw[show m+(d+1)=m+1+d from by omega];exact I2⟩
 have fin:∀(blk:Nat→Nat) (listed:Array Bool) (a':Act) (w':World) (m:Nat) (ψ':Gh),Inv P pln ops π s ψ w st1.nt st1.t a.defers blk listed a' w' m ψ'→(∀j,j<ops.size→listed.getD j false=true)→Q .normal a' w':=by
  intro blk listed a' w' m ψ' I hall
  obtain⟨ψ2,I2⟩:=advTo (ops.size-m) blk listed a' w' m ψ' I (by have:=I.mn;omega) fun k h1 h2=>by
   have hk:k<ops.size:=by have:=I.mn;omega
   obtain⟨q1,q2⟩:=F.at_ k hk
   refine⟨fun hc=>?_,fun _=>hall _ q1⟩
   have:=(I.eff _ q1 hc).1 (hall _ q1)
   omega
  have hmn:m+(ops.size-m)=ops.size:=by have:=I.mn;omega
  rw[hmn]at I2
  refine hQ a' w' ⟨⟨ψ2,I2.ext,by rw[hlast];exact I2.sim,I2.tsz,fun τ=>?_⟩,I2.td⟩
  rw[hlast]
  by_cases hw:∃j,j<ops.size∧dstAt ops j=some τ
  ·obtain⟨j,hj,hd⟩:=hw
   have hpj:=(F.pos j hj).1
   rw[htmp τ (posOf π j+1) ops.size (by omega) (Nat.le_refl _) (fun k h1 h2 hkd=>by
    obtain⟨q1,q2⟩:=F.at_ k h2
    have:=huniq _ _ τ q1 hj hkd hd
    rw[this]at q2;omega)]
   exact I2.tw τ j hj hd (hall j hj) fun hp=>by have:=hp.2.1;omega
  ·have hno:∀j,j<ops.size→dstAt ops j≠some τ:=fun j hj hd=>hw ⟨j,hj,hd⟩
   rw[htmp τ 0 ops.size (by omega) (Nat.le_refl _) (fun k _ h2=>hno _ (F.at_ k h2).1),hs0]
   exact I2.tu τ fun j hj hd=>(hno j hj hd).elim
 have key:∀(fuel:Nat) (blk:Nat→Nat) (listed:Array Bool) (a':Act) (w':World) (m:Nat) (ψ':Gh),Inv P pln ops π s ψ w st1.nt st1.t a.defers blk listed a' w' m ψ'→(m=0∨(0<m∧clAt P pln ops (π.getD (m-1) ops.size)=2)) →
   ((List.range ops.size).filter fun j => !listed.getD j false).length≤fuel→wpAnyIn (FW ro) 0 P .any ops Q fuel listed a' w':=by
  intro fuel
  induction fuel with
  | zero=>
   intro blk listed a' w' m ψ' I _ hcnt
   have hall:∀j,j<ops.size→listed.getD j false=true:=fun j hj=>by
    have h0:(List.range ops.size).filter (fun j => !listed.getD j false)=[]:=List.eq_nil_of_length_eq_zero (by omega)
    rw[List.filter_eq_nil_iff]at h0
    have:=h0 j (List.mem_range.2 hj)
    simpa using this
   refine⟨?_,fin blk listed a' w' m ψ' I hall⟩
   refine List.eq_nil_iff_forall_not_mem.2 fun j hj=>?_
   obtain⟨h1,o,ho,_⟩:=mem_ready.1 hj
   have hlt:=(Array.getElem?_eq_some_iff.1 ho).1
   rw[gd listed j I.sz hlt,hall j hlt]at h1
   cases h1
  | succ fuel ih=>
   intro blk listed a' w' m ψ' I hrep hcnt
   refine⟨fun hr=>?_,fun i hi=>?_⟩
   ·have hall:∀j,j<ops.size→listed.getD j false=true:=by
     intro j
     induction j using Nat.strongRecOn with
     | _ j ihj=>
      intro hj
      cases hl:listed.getD j false with
      | true=>rfl
      | false=>
       have:j∈Region.ready .any ops listed:=by
        refine mem_ready.2 ⟨by rw[gd listed j I.sz hj];exact hl,ops[j],Array.getElem?_eq_getElem hj,fun e he hb=>?_⟩
        have hon:=F.on j _ (Array.getElem?_eq_getElem hj) e he hb
        exact ihj e.on hon (by omega)
       rw[hr]at this
       cases this
    exact fin blk listed a' w' m ψ' I hall
   ·obtain⟨hun,o,ho,hpre⟩:=mem_ready.1 hi
    have hin:=(Array.getElem?_eq_some_iff.1 ho).1
    rw[gd listed i I.sz hin]at hun
    obtain⟨hpi,hpi2⟩:=F.pos i hin
    have hmask:∀j k,j<ops.size→listed.getD j false=true→(ms.getD j 0).testBit k=true→listed.getD k false=true∧k<j:=fun j k hj hl hb=>
     (closed_masks (D:=fun j=>listed.getD j false=true) (fun i o ho hD e he hb=>I.clo i o ho hD e he hb) j k hj hl hb)
    let listed':=listed.setIfInBounds i true
    have hget:∀j,listed'.getD j false=if j=i then true else listed.getD j false:=fun j=>by
     have:=I.sz
     simp only[listed',Array.getD_eq_getD_getElem?]
     by_cases h:j=i
     ·subst h;rw[if_pos rfl,Array.getElem?_setIfInBounds_self_of_lt (by omega)];rfl
     ·rw[if_neg h,Array.getElem?_setIfInBounds_ne (by omega)]
    have hclo':∀j (o:Oper),ops[j]? = some o→listed'.getD j false=true→∀e∈o.after,Region.binds .any e=true→e.on<j∧listed'.getD e.on false=true:=fun j o' ho' hl e he hb=>by
     rw[hget]at hl ⊢
     by_cases hji:j=i
     ·subst hji
      rw[ho]at ho';cases ho'
      have h1:=hpre e he hb
      refine⟨F.on j o ho e he hb,?_⟩
      split
      ·rfl
      ·exact h1
     ·rw[if_neg hji]at hl
      obtain⟨q1,q2⟩:=I.clo j o' ho' hl e he hb
      refine⟨q1,?_⟩
      split
      ·rfl
      ·exact q2
    have hmaski:∀k,(ms.getD i 0).testBit k=true→k<i∧listed.getD k false=true:=fun k hb=>by
     have:=(closed_masks (D:=fun j=>listed'.getD j false=true) (fun i o ho hD e he hb=>hclo' i o ho hD e he hb) i k hin (by simp only[hget];simp) hb)
     have h2:=this.1
     simp only[hget,if_neg (show k≠i by omega)]at h2
     exact⟨this.2,h2⟩
    have hcount:((List.range ops.size).filter fun j => !listed'.getD j false).length<((List.range ops.size).filter fun j => !listed.getD j false).length:=by
     refine filter_lt _ (fun x _ hx=>?_) ⟨i,List.mem_range.2 hin,by simp[hun],by rw[hget];simp⟩
     rw[hget]at hx
     split at hx
     ·cases hx
     ·exact hx
    have hrdG:∀(m1:Nat) (ψ1:Gh),Inv P pln ops π s ψ w st1.nt st1.t a.defers blk listed a' w' m1 ψ1→(∀j,j<ops.size→listed.getD j false=true→(ms.getD i 0).testBit j=true→¬Pend P pln ops π s m1 j) →
      ∀τ∈reads ops o,VR ψ1 w' (tget (s (posOf π i)).t τ) (a'.tmps.getD τ Go.undef):=fun m1 ψ1 I1 hnp τ hτ=>by
     by_cases hw:∃j,j<ops.size∧dstAt ops j=some τ
     ·obtain⟨j,hj,hd⟩:=hw
      have hwr:∀k,k<ops.size→dstAt ops (π.getD k ops.size)=some τ→k=posOf π j:=fun k hk hkd=>by
       obtain⟨q1,q2⟩:=F.at_ k hk
       rw[←q2,huniq _ _ τ q1 hj hkd hd]
      by_cases hji:j<i
      ·have hb:=F.after j i τ o hji ho hd hτ
       have hl:=(hmaski j hb).2
       have hpp:=F.topo j i hji hin hb
       rw[htmp τ (posOf π j+1) (posOf π i) (by omega) (by omega) (fun k h1 h2 hkd=>by have:=hwr k (by omega) hkd;omega)]
       exact I1.tw τ j hj hd hl (hnp j hj hl hb)
      ·have hl:listed.getD j false=false:=by
        by_cases hje:j=i
        ·rw[hje];exact hun
        ·cases hl:listed.getD j false with
         | false=>rfl
         | true=>
          have:=(hmask j i hj hl (F.ahead i j τ o (by omega) hj ho hd hτ)).1
          rw[hun]at this;cases this
       have hpp:posOf π i≤posOf π j:=by
        by_cases hje:j=i
        ·rw[hje];exact Nat.le_refl _
        ·have:=F.topo i j (by omega) hj (F.ahead i j τ o (by omega) hj ho hd hτ);omega
       rw[htmp τ 0 (posOf π i) (by omega) (by omega) (fun k _ h2 hkd=>by have:=hwr k (by omega) hkd;omega),hs0]
       exact I1.tu τ fun k hk hkd=>by rw[huniq k j τ hk hj hkd hd];exact hl
     ·have hno:∀j,j<ops.size→dstAt ops j≠some τ:=fun j hj hd=>hw ⟨j,hj,hd⟩
      rw[htmp τ 0 (posOf π i) (by omega) (by omega) (fun k _ h2=>hno _ (F.at_ k (by omega)).1),hs0]
      exact I1.tu τ fun j hj hd=>(hno j hj hd).elim
    have hevG:∀(ψ1:Gh),(∀τ∈reads ops o,VR ψ1 w' (tget (s (posOf π i)).t τ) (a'.tmps.getD τ Go.undef))→∀x∈o.op.operands,VR ψ1 w' (ev (s (posOf π i)).t x) (a'.eval x):=fun ψ1 hrd x hx=>by
     cases x with
     | tmp τ=>exact hrd τ (by simp only[reads,List.mem_append,List.mem_filterMap];exact .inl ⟨.tmp τ,by simpa using hx,rfl⟩)
     | const v=>exact VR_ofVal v
     | global g=>exact .bad _
     | func f=>exact .fn _ [] [] _ _ rfl rfl (fun i hi=>absurd hi (by simp)) (fun i hi=>absurd hi (by simp))
    obtain⟨v,h',p1,p2,p3,p4⟩:=hput (posOf π i) o hpi (by rw[hpi2];exact ho)
    have hts:∀u,(a'.put o.dst u).tmps.size=a'.tmps.size:=fun u=>by cases hd:o.dst <;> simp[Act.put]
    have hta:∀u τ,(a'.put o.dst u).tmps.getD τ Go.undef=if o.dst=some τ then u else a'.tmps.getD τ Go.undef:=fun u τ=>by
     have tsz:=I.tsz
     cases hd:o.dst with
     | none=>simp[Act.put]
     | some d=>
      have hlt:=(p2 d hd).1
      simp only[Act.put]
      rw[getD_set _ _ _ _ (Nat.lt_of_lt_of_le hlt tsz)]
      by_cases h:τ=d
      ·subst h;simp
      ·rw[if_neg h,if_neg (fun e=>h (Option.some.inj e).symm)]
    have hother:∀τ j,j<ops.size→dstAt ops j=some τ→j≠i→o.dst≠some τ:=fun τ j hj hd hji h=>hji (huniq j i τ hj hin hd (by rw[hdst i o ho];exact h))
    have next:∀(u:Value) (m0 m1:Nat) (ψ0 ψ1:Gh) (w1:World),Inv P pln ops π s ψ w st1.nt st1.t a.defers blk listed a' w' m0 ψ0→Ext ψ0 w' ψ1 w1→Sim ψ1 w1 (s m1).h→VR ψ1 w1 v u→m1≤ops.size →
      (∀j,j<ops.size→clAt P pln ops j=2→(listed'.getD j false=true↔posOf π j<m1))→(∀j,j<ops.size→clAt P pln ops j=3→posOf π j<m1→listed'.getD j false=true) →
      (∀j,j<ops.size→j≠i→(Pend P pln ops π s m1 j↔Pend P pln ops π s m0 j))→¬Pend P pln ops π s m1 i→(m1=0∨(0<m1∧clAt P pln ops (π.getD (m1-1) ops.size)=2))→wpAnyIn (FW ro) 0 P .any ops Q fuel listed' (a'.put o.dst u) w1:=by
     intro u m0 m1 ψ0 ψ1 w1 I0 E1 S1 V1 hm1 heff halo hpe hpi' hrep'
     refine ih blk listed' (a'.put o.dst u) w1 m1 ψ1 ⟨by simp[listed',I.sz],hclo',hm1,heff,halo,I0.ext.trans E1,S1,by rw[hts];exact I.tsz,fun τ j hj hd hl hnp=>?_,fun τ hno=>?_,(put_defers _ _ _).trans I.td,fun j oj hoj hl hpj=>?_,fun j k hj hk hlj hlk hpj hpk hb=>?_⟩ hrep' (by omega)
     ·rw[hta]
      rw[hget]at hl
      by_cases hji:j=i
      ·subst hji
       rw[hdst _ _ ho]at hd
       rw[if_pos hd,(p2 τ hd).2]
       exact V1
      ·rw[if_neg hji]at hl
       rw[if_neg (hother τ j hj hd hji)]
       exact(I0.tw τ j hj hd hl fun hp=>hnp ((hpe j hj hji).2 hp)).mono E1
     ·rw[hta]
      have hne:o.dst≠some τ:=fun h=>by
       have:=hno i hin (by rw[hdst i o ho];exact h)
       rw[hget]at this
       simp at this
      rw[if_neg hne]
      refine(I0.tu τ fun j hj hd=>?_).mono E1
      have:=hno j hj hd
      rw[hget]at this
      split at this
      ·cases this
      ·exact this
     ·have hj:=(Array.getElem?_eq_some_iff.1 hoj).1
      have hji:j≠i:=fun he=>hpi' (he▸hpj)
      rw[hget,if_neg hji]at hl
      obtain⟨ob,u',d1,d2,d3,d4,d5,d6⟩:=I0.pe j oj hoj hl ((hpe j hj hji).1 hpj)
      obtain⟨x1,x2,x3⟩:=E1.fr (blk j) (Array.getElem?_eq_some_iff.1 d2).1 d3 d4
      refine⟨ob,u',d1,x1.trans d2,x2,x3,fun τ hτ=>?_,d6.mono E1.toExt0⟩
      rw[hta,if_neg (hother τ j hj (by rw[hdst j oj hoj];exact hτ) hji)]
      exact d5 τ hτ
     ·have hji:j≠i:=fun he=>hpi' (he▸hpj)
      have hki:k≠i:=fun he=>hpi' (he▸hpk)
      rw[hget,if_neg hji]at hlj
      rw[hget,if_neg hki]at hlk
      exact I0.inj j k hj hk hlj hlk ((hpe j hj hji).1 hpj) ((hpe k hk hki).1 hpk) hb
    have effN:clAt P pln ops i≠2→∀j,j<ops.size→clAt P pln ops j=2→(listed'.getD j false=true↔posOf π j<m):=fun hci j hj hcj=>by
     rw[hget,if_neg (fun h:j=i=>hci (by rw[←h];exact hcj))]
     exact I.eff j hj hcj
    have aloN:∀j,j<ops.size→clAt P pln ops j=3→posOf π j<m→listed'.getD j false=true:=fun j hj hcj h=>by
     rw[hget]
     split
     ·rfl
     ·exact I.alo j hj hcj h
    have hnpN:clAt P pln ops i≠2→∀j,j<ops.size→listed.getD j false=true→(ms.getD i 0).testBit j=true→¬Pend P pln ops π s m j:=fun hci j hj hl hb hp=>by
     obtain⟨q,hq,hcq,hb1,hb2⟩:=F.amid j i hj hin (by have:=(hmaski j hb).1;omega) hp.1 hci hb
     have hlq:=(hmaski q hb2).2
     have h1:=(I.eff q hq hcq).1 hlq
     have h2:=(F.aeff j q hj hq hp.1 hcq).2 hb1
     have:=hp.2.1
     omega
    unfold wpOpIn
    rw[ho]
    simp only
    rcases cl_cases (P:=P) (pln:=pln) ho with⟨hc3,hisA⟩ | ⟨hcl,hcl2⟩
    ·-- it makes an object
     have hci:clAt P pln ops i≠2:=by omega
     have hmle:m≤posOf π i:=by
      rcases Nat.lt_or_ge (posOf π i) m with h | h
      ·have:=I.alo i hin hc3 h;rw[hun]at this;cases this
      ·exact h
     have hrd:=hrdG m ψ' I (hnpN hci)
     rcases p4 with⟨hw,hv,hh⟩ | ⟨hw,hcase⟩
     ·rw[want_of hrd hw]
      simp only[Bool.false_eq_true,if_false]
      refine⟨FW_about,next _ m m ψ' ψ' w' I (Ext.refl _ _) I.sim (hv▸.undef) I.mn (effN hci) aloN (fun _ _ _=>Iff.rfl) (fun hp=>?_) hrep⟩
      have:=hp.2.2 o ho
      rw[hw]at this;cases this
     ·rw[want_of hrd hw]
      simp only[if_true]
      refine⟨FW_about,?_⟩
      have hop:∃e,opEff P (ev (s (posOf π i)).t) (s (posOf π i)).h o=some e:=by
       rcases hcase with e | ⟨e,_⟩ | ⟨f,args,h0,e,_⟩ <;> exact⟨_,e⟩
      obtain⟨e,he⟩:=hop
      obtain⟨u,ob,r1,r2⟩:=aop_sound (P:=P) (ψ:=ψ') (w:=w') hisA he (hevG ψ' hrd)
      rw[Oper.semAt_eq _ _ _ (not_defer he),r1,Oper.uponIn_value]
      have hp0:=Pushed.alloc w' ob
      obtain⟨E1,S1,g1,g2⟩:=pushed_sound I.sim hp0
      let blk':Nat→Nat:=fun j=>if j=i then w'.heap.size else blk j
      have hlt:∀j (oj:Oper),ops[j]? = some oj→listed.getD j false=true→Pend P pln ops π s m j→blk j<w'.heap.size:=fun j oj hoj hl hp=>by
       obtain⟨ob',_,_,d2,_⟩:=I.pe j oj hoj hl hp
       exact(Array.getElem?_eq_some_iff.1 d2).1
      refine ih blk' listed' (a'.put o.dst u) (w'.alloc ob) m ψ' ⟨by simp[listed',I.sz],hclo',I.mn,effN hci,aloN,I.ext.trans E1,S1,by rw[hts];exact I.tsz,fun τ j hj hd hl hnp=>?_,fun τ hno=>?_,(put_defers _ _ _).trans I.td,fun j oj hoj hl hpj=>?_,fun j k hj hk hlj hlk hpj hpk hb=>?_⟩ hrep (by omega)
      ·rw[hta]
       rw[hget]at hl
       by_cases hji:j=i
       ·subst hji
        exact(hnp ⟨hc3,hmle,fun o' ho'=>by rw[ho]at ho';cases ho';exact hw⟩).elim
       ·rw[if_neg hji]at hl
        rw[if_neg (hother τ j hj hd hji)]
        exact(I.tw τ j hj hd hl hnp).mono E1
      ·rw[hta]
       have hne:o.dst≠some τ:=fun h=>by
        have:=hno i hin (by rw[hdst i o ho];exact h)
        rw[hget]at this
        simp at this
       rw[if_neg hne]
       refine(I.tu τ fun j hj hd=>?_).mono E1
       have:=hno j hj hd
       rw[hget]at this
       split at this
       ·cases this
       ·exact this
      ·have hj:=(Array.getElem?_eq_some_iff.1 hoj).1
       rw[hget]at hl
       by_cases hji:j=i
       ·subst hji
        rw[ho]at hoj;cases hoj
        have hb:blk' j=w'.heap.size:=by simp[blk']
        rw[hb]
        refine⟨ob,u,I.ext.size,hp0.new,g1,g2,fun τ hτ=>by rw[hta,if_pos hτ],r2.mono E1.toExt0⟩
       ·rw[if_neg hji]at hl
        have hb:blk' j=blk j:=by simp[blk',hji]
        rw[hb]
        obtain⟨ob',u',d1,d2,d3,d4,d5,d6⟩:=I.pe j oj hoj hl hpj
        obtain⟨x1,x2,x3⟩:=E1.fr (blk j) (hlt j oj hoj hl hpj) d3 d4
        refine⟨ob',u',d1,x1.trans d2,x2,x3,fun τ hτ=>?_,d6.mono E1.toExt0⟩
        rw[hta,if_neg (hother τ j hj (by rw[hdst j oj hoj];exact hτ) hji)]
        exact d5 τ hτ
      ·rw[hget]at hlj hlk
       simp only[blk']at hb
       by_cases hji:j=i
       ·by_cases hki:k=i
        ·rw[hji,hki]
        ·rw[if_neg hki]at hlk
         rw[if_pos hji,if_neg hki]at hb
         have:=hlt k _ (Array.getElem?_eq_getElem hk) hlk hpk
         omega
       ·rw[if_neg hji]at hlj
        by_cases hki:k=i
        ·rw[if_neg hji,if_pos hki]at hb
         have:=hlt j _ (Array.getElem?_eq_getElem hj) hlj hpj
         omega
        ·rw[if_neg hki]at hlk
         rw[if_neg hji,if_neg hki]at hb
         exact I.inj j k hj hk hlj hlk hpj hpk hb
    by_cases hci:clAt P pln ops i=2
    ·-- it turns the heap
     have hmle:m≤posOf π i:=by
      rcases Nat.lt_or_ge (posOf π i) m with h | h
      ·have:=(I.eff i hin hci).2 h;rw[hun]at this;cases this
      ·exact h
     obtain⟨ψ2,I2⟩:=advTo (posOf π i-m) blk listed a' w' m ψ' I (by omega) fun k h1 h2=>by
      have hk:k<ops.size:=by omega
      obtain⟨q1,q2⟩:=F.at_ k hk
      refine⟨fun hc=>?_,fun hc=>?_⟩
      ·have hlk:listed.getD (π.getD k ops.size) false=true:=by
        rcases Nat.lt_trichotomy (π.getD k ops.size) i with h | h | h
        ·exact(hmaski _ (F.two _ _ h hin hc hci)).2
        ·rw[h]at q2;omega
        ·have:=F.topo i _ h q1 (F.two _ _ h q1 hci hc);omega
       have:=(I.eff _ q1 hc).1 hlk
       omega
      ·exact(hmaski _ ((F.aeff _ i q1 hin hc hci).1 (by omega))).2
     have hmm:m+(posOf π i-m)=posOf π i:=by omega
     rw[hmm]at I2
     have hnp2:∀j,j<ops.size→listed.getD j false=true→(ms.getD i 0).testBit j=true→¬Pend P pln ops π s (posOf π i) j:=fun j hj hl hb hp=>by
      have:=(F.aeff j i hj hin hp.1 hci).2 hb
      have:=hp.2.1
      omega
     have hrd:=hrdG _ ψ2 I2 hnp2
     have heff':∀j,j<ops.size→clAt P pln ops j=2→(listed'.getD j false=true↔posOf π j<posOf π i+1):=fun j hj hcj=>by
      rw[hget]
      by_cases hji:j=i
      ·subst hji;simp
      ·rw[if_neg hji,I2.eff j hj hcj]
       have:posOf π j≠posOf π i:=fun he=>hji (by rw[←(F.pos j hj).2,he,hpi2])
       omega
     have halo':∀j,j<ops.size→clAt P pln ops j=3→posOf π j<posOf π i+1→listed'.getD j false=true:=fun j hj hcj h=>by
      rw[hget]
      split
      ·rfl
      ·rename_i hji
       have:posOf π j≠posOf π i:=fun he=>hji (by rw[←(F.pos j hj).2,he,hpi2])
       exact I2.alo j hj hcj (by omega)
     have hpe':∀j,j<ops.size→j≠i→(Pend P pln ops π s (posOf π i+1) j↔Pend P pln ops π s (posOf π i) j):=fun j hj hji=>by
      have:posOf π j≠posOf π i:=fun he=>hji (by rw[←(F.pos j hj).2,he,hpi2])
      constructor
      ·rintro⟨h1,h2,h3⟩;exact⟨h1,by omega,h3⟩
      ·rintro⟨h1,h2,h3⟩;exact⟨h1,by omega,h3⟩
     have hpn':¬Pend P pln ops π s (posOf π i+1) i:=fun hp=>by have:=hp.2.1;omega
     have hrep':posOf π i+1=0∨(0<posOf π i+1∧clAt P pln ops (π.getD (posOf π i+1-1) ops.size)=2):=.inr ⟨by omega,by rw[Nat.add_sub_cancel,hpi2];exact hci⟩
     rcases p4 with⟨hw,hv,hh⟩ | ⟨hw,hcase⟩
     ·rw[want_of hrd hw]
      simp only[Bool.false_eq_true,if_false]
      exact⟨FW_about,next _ _ _ ψ2 ψ2 w' I2 (Ext.refl _ _) (by rw[p1,hh];exact I2.sim) (hv▸.undef) (by omega) heff' halo' hpe' hpn' hrep'⟩
     ·rw[want_of hrd hw]
      simp only[if_true]
      refine⟨FW_about,?_⟩
      rw[Oper.semAt_eq _ _ _ (by rcases hcase with he | ⟨he,_⟩ | ⟨f,args,h0,he,_⟩ <;> exact not_defer he)]
      have hev:=hevG ψ2 hrd
      rcases hcase with he | ⟨he,hv⟩ | ⟨f,args,h0,he,hc⟩
      ·obtain⟨u,w1,ψ1,r1,r2,r3,r4⟩:=op_sound I2.sim he hev
       rw[r1,Oper.uponIn_value]
       exact next u _ _ ψ2 ψ1 w1 I2 r2 (by rw[p1];exact r3) r4 (by omega) heff' halo' hpe' hpn' hrep'
      ·obtain⟨w1,ψ1,r1,r2,r3⟩:=op_sound I2.sim he hev
       rw[r1,Oper.uponIn_skip]
       exact next _ _ _ ψ2 ψ1 w1 I2 r2 (by rw[p1];exact r3) (hv▸.undef) (by omega) heff' halo' hpe' hpn' hrep'
      ·refine enter_upon hcf hc (op_sound I2.sim he hev) fun u ψ1 w1 q1 q2 q3=>?_
       exact next u _ _ ψ2 ψ1 w1 I2 q1 (by rw[p1];exact q2) q3 (by omega) heff' halo' hpe' hpn' hrep'
    ·-- it does not turn the heap
     have hci':cls P o.op≠2:=by rw[←hcl];exact hci
     have hrd:=hrdG m ψ' I (hnpN hci)
     have hpn':¬Pend P pln ops π s m i:=fun hp=>by have:=hp.1;omega
     rcases p4 with⟨hw,hv,hh⟩ | ⟨hw,hcase⟩
     ·rw[want_of hrd hw]
      simp only[Bool.false_eq_true,if_false]
      exact⟨FW_about,next _ m m ψ' ψ' w' I (Ext.refl _ _) I.sim (hv▸.undef) I.mn (effN hci) aloN (fun _ _ _=>Iff.rfl) hpn' hrep⟩
     ·rw[want_of hrd hw]
      simp only[if_true]
      refine⟨FW_about,?_⟩
      have heff:opEff P (ev (s (posOf π i)).t) (s (posOf π i)).h o=some (.val v (s (posOf π i)).h):=by
       rcases hcase with he | ⟨he,hv⟩ | ⟨f,args,h0,he,hc⟩
       ·obtain⟨v',e'⟩:=read_cls hci' he;cases e';exact he
       ·obtain⟨v',e'⟩:=read_cls hci' he;cases e'
       ·obtain⟨v',e'⟩:=read_cls hci' he;cases e'
      have heff2:opEff P (ev (s (posOf π i)).t) (s m).h o=some (.val v (s m).h):=by
       by_cases hc0:cls P o.op=0
       ·obtain⟨v',e1,e2⟩:=pure_cls hc0 heff
        cases e1
        exact e2 _
       ·have hc1:clAt P pln ops i=1:=by omega
        by_cases hec:ec P pln ops π m=ec P pln ops π (posOf π i)
        ·have:(s m).h=(s (posOf π i)).h:=by
          rcases Nat.le_total m (posOf π i)with h | h
          ·exact(hheap m (posOf π i) h (by omega) (ec_same h hec)).symm
          ·exact hheap (posOf π i) m h I.mn (ec_same h hec.symm)
         rw[this];exact heff
        ·have hmem:(i,posOf π i,readPlan P pln ops ms π i)∈pl:=by
          rw[hple]
          exact List.mem_map.2 ⟨i,List.mem_filter.2 ⟨List.mem_range.2 hin,by simp[hc1]⟩,rfl⟩
         have hrp:m∈readPlan P pln ops ms π i:=by
          unfold readPlan
          refine List.mem_filter.2 ⟨List.mem_range.2 (by have:=I.mn;omega),?_⟩
          simp only[Bool.and_eq_true,Bool.or_eq_true,beq_iff_eq,bne_iff_ne]
          refine⟨⟨hrep.imp (fun h=>h) (fun h=>h.2),hec⟩,List.all_eq_true.2 fun j hj=>?_⟩
          have hj':=List.mem_range.1 hj
          by_cases hcj:clAt P pln ops j=2
          ·have hcj':(clAt P pln ops j == 2)=true:=by simp[hcj]
           rw[hcj']
           simp only[Bool.not_true,Bool.false_or]
           split
           ·rename_i hjr
            have hl:=(I.eff j hj' hcj).2 hjr
            cases hb:(ms.getD j 0).testBit i with
            | false=>rfl
            | true=>have:=(hmask j i hj' hl hb).1;rw[hun]at this;cases this
           ·rename_i hjr
            cases hb:(ms.getD i 0).testBit j with
            | false=>rfl
            | true=>
             have hl:=(hmaski j hb).2
             have:=(I.eff j hj' hcj).1 hl
             omega
          ·have hcj':(clAt P pln ops j == 2)=false:=by simp[hcj]
           rw[hcj'];rfl
         have hsm:=(List.all_eq_true.1 ((List.all_eq_true.1 hchk) _ hmem)) m hrp
         unfold readSame at hsm
         rw[ho,hs (posOf π i) (by omega),hs m I.mn]at hsm
         simp only at hsm
         rw[hw,heff]at hsm
         simp only at hsm
         split at hsm
         ·rename_i v1 _ v2 hx e1 e2
          cases e1
          obtain⟨v3,e3⟩:=read_cls hci' e2
          cases e3
          rw[beqAV_eq _ _ hsm]
          exact e2
         ·cases hsm
      rw[Oper.semAt_eq _ _ _ (not_defer heff)]
      obtain⟨u,w1,ψ1,r1,r2,r3,r4⟩:=op_sound I.sim heff2 (hevG ψ' hrd)
      rw[r1,Oper.uponIn_value]
      exact next u m m ψ' ψ1 w1 I r2 r3 r4 I.mn (effN hci) aloN (fun _ _ _=>Iff.rfl) hpn' hrep
 have hrepl:∀j,(Array.replicate ops.size false).getD j false=false:=fun j=>by
  rw[Array.getD_eq_getD_getElem?,Array.getElem?_replicate]
  split <;> rfl
 refine key ops.size (fun _=>0) _ a _ 0 ψ ⟨by simp,fun i o ho hl=>(by rw[hrepl]at hl;cases hl),by omega,fun j hj _=>⟨fun hl=>(by rw[hrepl]at hl;cases hl),fun h=>(by omega)⟩,fun j hj _ h=>(by omega),Ext.drew ψ w,by rw[hs0,←hst1h];exact S.drew,T.size,
  fun τ j hj _ hl=>(by rw[hrepl]at hl;cases hl),fun τ _=>(T.val τ).mono (Ext.drew ψ w),rfl,fun j o _ hl=>(by rw[hrepl]at hl;cases hl),fun j k _ _ hl=>(by rw[hrepl]at hl;cases hl)⟩ (.inl rfl) ?_
 exact Nat.le_trans (List.length_filter_le _ _) (by simp)
end
end Go.Vn

/- The value machine: calls; what a call answers, whatever the rounds; equations. Conditions: the program follows mixed orders. -/
namespace Go.Vn
section
variable {μ:Type→Type} [Mp μ] (P:Program)
def callF(T:Tab):Nat→Cf μ
 | 0=>fun _ _ _=>none
 | n+1=>fun fx args h=>match fx with
  | .func f=>match P.funcs[f]? with
   | none=>none
   | some fn=>match fn.body with
    | none=>none
    | some c=>match execF P (callF T n) (drawF P (callF T n)) n none c ⟨argsT args,max args.length fn.ntmps,polIn T f h,none⟩with
     | some (.normal,st)=>(resultsAV P fn st.t st.h).map fun r=>polOut T f h (r,st.h)
     | some (.ret,st)=>(resultsAV P fn st.t st.h).map fun r=>polOut T f h (r,st.h)
     | _=>none
  | .yield o=>roundF (execF P (callF T n) (drawF P (callF T n)) n none) o args h
end
section
variable {μ:Type→Type} [Mp μ] {P:Program}
theorem argsT_get(args:List AV)(i:Nat):tget (argsT args:μ AV) i=(args[i]?).getD .undef:=by
 have key:∀(l:List AV) (m:μ AV) (k:Nat),tget (l.foldl (fun(p:μ AV × Nat) a=>(Mp.set p.1 p.2 a,p.2+1)) (m,k)).1 i=if k≤i∧i<k+l.length then(l[i-k]?).getD .undef else tget m i:=by
  intro l
  induction l with
  | nil=>intro m k;rw[if_neg (by simp only[List.length_nil];omega)];rfl
  | cons a l ih=>
   intro m k
   simp only[List.foldl_cons]
   rw[ih]
   by_cases h1:k+1≤i∧i<k+1+l.length
   ·rw[if_pos h1,if_pos (by simp only[List.length_cons];omega),show i-k=(i-(k+1))+1 from by omega]
    simp
   ·rw[if_neg h1,tget_set]
    by_cases h2:i=k
    ·rw[if_pos h2,if_pos (by simp only[List.length_cons];omega)]
     subst h2;simp
    ·rw[if_neg h2,if_neg (by simp only[List.length_cons];omega)]
 unfold argsT
 rw[key]
 split
 ·simp
 ·rename_i h
  have:args[i]? = none:=List.getElem?_eq_none (by omega)
  rw[this]
  simp[tget,Mp.get_emp]
def resS(tmps:Array Value):ResultVar→Sem Value
 | .tmp t=>pure (tmps.getD t Go.undef)
 | .cell a t=>do loadVar t (←asAddr (tmps.getD a Go.undef))
theorem results_eq(fn:Func)(tmps:Array Value):results fn tmps=(do let vs ←fn.results.mapM (resS tmps);pure (if h:vs.size=1 then vs[0]else .tuple vs)):=by
 unfold results
 have:(fun(x:ResultVar)=>(match x with | .tmp t=>pure (tmps.getD t Go.undef) | .cell a t=>do loadVar t (←asAddr (tmps.getD a Go.undef)):Sem Value))=resS tmps:=by
  funext x;cases x <;> rfl
 rw[←this]
 rfl
theorem resultV_sound{ψ:Gh}{w:World}{h:Hp μ}{t:μ AV}{nt:Nat}{a:Act}(S:Sim ψ w h)(T:TR ψ w t nt a){rv:ResultVar}{r:AV}(hr:resultV P t h rv=some r) :
  ∃u,(resS a.tmps rv).run P w=.ok u w∧VR ψ w r u:=by
 cases rv with
 | tmp i=>cases hr;exact⟨_,rfl,T.val i⟩
 | cell x ty=>
  simp only[resultV]at hr
  have hx:=T.val x
  obtain⟨u,h1,h2⟩:=load_sound S hr hx
  refine⟨u,?_,h2⟩
  simp only[resS]
  generalize tget t x=av at hr hx
  generalize a.tmps.getD x Go.undef=v at hx h1
  unfold loadAV at hr
  cases hx <;> (try (cases h3:tagg P ty <;> cases h4:tsize P ty <;> rw[h3,h4]at hr <;> cases hr;done))
  ·simp only[asAddr,Sem.run_bind,Sem.run_pure,Result.andThen_ok]
   simpa[Instr.loadAt,Instr.sureAddr]using h1
  ·simp only[asAddr,Sem.run_bind,Sem.run_pure,Result.andThen_ok]
   simpa[Instr.loadAt,Instr.sureAddr]using h1
theorem results_sound{ψ:Gh}{w:World}{h:Hp μ}{t:μ AV}{nt:Nat}{a:Act}{fn:Func}(S:Sim ψ w h)(T:TR ψ w t nt a){r:AV}(hr:resultsAV P fn t h=some r) :
  ∃u,(results fn a.tmps).run P w=.ok u w∧VR ψ w r u:=by
 have key:∀(l:List ResultVar) (rs:List AV),l.mapM (resultV P t h)=some rs→∃us:List Value,(l.mapM (resS a.tmps)).run P w=.ok us w∧us.length=rs.length∧l.length=rs.length ∧
   ∀i (h1:i<rs.length) (h2:i<us.length),VR ψ w rs[i] us[i]:=by
  intro l
  induction l with
  | nil=>intro rs h;simp at h;subst h;exact⟨[],by simp,rfl,rfl,fun i h1=>by simp at h1⟩
  | cons rv l ih=>
   intro rs h
   simp only[List.mapM_cons,Option.bind_eq_bind,Option.pure_def,Option.bind_eq_some_iff]at h
   obtain⟨r0,e1,rs',e2,e3⟩:=h
   cases e3
   obtain⟨us,h1,h2,h3,h4⟩:=ih rs' e2
   obtain⟨u,g1,g2⟩:=resultV_sound S T e1
   refine⟨u::us,?_,by simp[h2],by simp[h3],fun i h5 h6=>?_⟩
   ·simp only[List.mapM_cons,Sem.run_bind,g1,Result.andThen_ok,h1,Sem.run_pure]
   ·cases i with
    | zero=>exact g2
    | succ i=>simpa using h4 i (by simpa using h5) (by simpa using h6)
 have hrun:∀us:List Value,(fn.results.toList.mapM (resS a.tmps)).run P w=.ok us w→(results fn a.tmps).run P w=.ok (if h:us.toArray.size=1 then us.toArray[0]else .tuple us.toArray) w:=fun us h=>by
  rw[results_eq,Array.mapM_eq_mapM_toList]
  simp only[Sem.run_bind,Sem.run_map,h,Result.andThen_ok,Sem.run_pure]
 unfold resultsAV at hr
 split at hr
 ·rename_i rv hl
  obtain⟨u,g1,g2⟩:=resultV_sound S T hr
  refine⟨u,?_,g2⟩
  rw[hrun [u] (by rw[hl];simp[g1])]
  simp
 ·rename_i hne
  simp only[Option.map_eq_some_iff]at hr
  obtain⟨rs,e1,rfl⟩:=hr
  obtain⟨us,h1,h2,h3,h4⟩:=key _ rs e1
  refine⟨_,hrun us h1,?_⟩
  have hn1:¬us.toArray.size=1:=fun h=>by
   rw[List.size_toArray]at h
   have:fn.results.toList.length=1:=by omega
   match hq:fn.results.toList,this with
   | [x],_=>exact hne x hq
  rw[dif_neg hn1]
  exact .tup _ _ (by simp[h2]) fun i hi=>by simpa using h4 i hi (by omega)
section
variable {ψ:Gh} {w:World} {h:Hp μ}
theorem Sim.pol(S:Sim ψ w h)(p:TypeId→Bool):Sim ψ w { h with pol:=p }:=⟨S.obj,S.own,S.no,S.grp,S.len,S.zero,S.neq,S.ng,S.blk,S.gblk,S.tape,S.drawn⟩
theorem polIn_sound(S:Sim ψ w h)(T:Tab)(f:Nat):Sim ψ w (polIn T f h):=by
 unfold polIn
 split
 ·exact S
 ·exact S.pol _
theorem frzRow_sound(S:Sim ψ w h){o off sz n cap B:Nat}{ag:Bool}{cs els:List AV}(hro:Mp.get h.obj o=some (.row cs))(hels:rsEls h o off sz ag n=some els)(hle:off+cap*sz≤cs.length)(ho:ψ.obj o=some B)(hn:n≤cap) :
  ∃ψ',Ext ψ w ψ' w∧Sim ψ' w { h with obj:=Mp.set h.obj o .dead,len:=Mp.set h.len h.ng els.length,ng:=h.ng+1 }∧VR ψ' w (.sl h.ng 0 sz cap els) (.slice (some ⟨B,off,none⟩) n cap):=by
 obtain⟨B',c,e,h1,h2,h3,h4⟩:=S.rowp o cs hro
 have h5:∀i,i<c.size→w.frozen? ⟨B',i,none⟩=false:=fun i _=>by simp[World.frozen?,h3]
 rw[h1]at ho;cases ho
 obtain⟨r1,f,r2,r3,r4⟩:=rsEls_sound S hels h1
 have hfl:=flat_length (fun e he=>(r4 e he).1)
 have hgB:ψ.grp B=none:=(S.own B o h2).1
 have hBs:=(S.own B o h2).2
 have hol:o<h.no:=by
  rcases Nat.lt_or_ge o h.no with q | q
  ·exact q
  ·have:=(S.no o q).1;rw[hro]at this;cases this
 let ψ':Gh:={ ψ with own:=fun C=>if C=B then none else ψ.own C,grp:=fun C=>if C=B then some h.ng else ψ.grp C,com:=fun C=>if C=B then off+n*sz else ψ.com C,lim:=fun C=>if C=B then c.size else ψ.lim C,blk:=fun g=>if g=h.ng then some B else ψ.blk g,len:=fun g=>if g=h.ng then some els.length else ψ.len g,ng:=h.ng+1 }
 have hne:∀C g,ψ.grp C=some g→C≠B:=fun C g e he=>by rw[he,hgB]at e;cases e
 have E:Ext ψ w ψ' w:=⟨⟨rfl,rfl,rfl,Nat.le_refl _,fun _ _ e=>e,fun C g e=>by simp only[ψ'];rw[if_neg (hne C g e)];exact e,
  fun C g e=>by simp only[ψ'];rw[if_neg (hne C g e)];exact Nat.le_refl _,fun _ _ _ _ _=>rfl,by simp only[ψ'];have:=S.neq;omega,
  fun g e=>.inl ⟨by simp only[ψ'];rw[if_neg (by have:=S.neq;omega)],by simp only[ψ'];rw[if_neg (by have:=S.neq;omega)],fun D hD=>by
   have h1:=(S.blk g D hD).1
   simp only[ψ'];rw[if_neg (hne D g h1),if_neg (hne D g h1)];exact⟨rfl,rfl⟩⟩,fun _ _=>rfl⟩,fun C a1 a2 a3=>⟨rfl,by
   simp only[ψ'];rw[if_neg (fun he=>by rw[he,h2]at a3;cases a3)];exact a2,by
   simp only[ψ'];rw[if_neg (fun he=>by rw[he,h2]at a3;cases a3)];exact a3⟩⟩
 refine⟨ψ',E,⟨fun o' y ho' ha=>?_,fun C o' hC=>?_,fun o' ho'=>?_,fun C g hC=>?_,fun g=>?_,?_,by simp[ψ'],fun g hg=>?_,fun g C hC=>?_,fun C g hC=>?_,S.tape,S.drawn⟩,?_⟩
 ·simp only[Mp.get_set]at ho'
  by_cases q:o'=o
  ·rw[if_pos q]at ho';cases ho';simp[AObj.alive]at ha
  ·rw[if_neg q]at ho'
   obtain⟨C,q1,q2,q3⟩:=S.obj o' y ho' ha
   have hCB:C≠B:=fun he=>by rw[he,h2]at q2;cases q2;exact q rfl
   exact⟨C,q1,by simp only[ψ'];rw[if_neg hCB];exact q2,q3.mono E rfl⟩
 ·simp only[ψ']at hC ⊢
  split at hC
  ·cases hC
  ·rename_i q;rw[if_neg q];exact S.own C o' hC
 ·simp only[Mp.get_set]
  simp only at ho'
  rw[if_neg (by omega)]
  exact S.no o' ho'
 ·simp only[ψ']at hC
  split at hC
  ·rename_i q;cases hC;exact⟨by simp,by rw[q];exact hBs⟩
  ·have:=S.grp C g hC;exact⟨by simp only;omega,this.2⟩
 ·simp only[Mp.get_set,ψ']
  split
  ·rfl
  ·exact S.len g
 ·have:=S.zero
  exact⟨by simp only[ψ'];rw[if_neg (by omega)];exact this.1,by simp⟩
 ·simp only at hg
  simp only[ψ']
  rw[if_neg (by omega),if_neg (by omega)]
  exact S.ng g (by omega)
 ·simp only[ψ']at hC ⊢
  by_cases hg:g=h.ng
  ·rw[if_pos hg]at hC;cases hC
   have:=S.zero
   exact⟨by simp[hg],by omega,c,e,(0,0),h3,by simp,h5,.inl rfl⟩
  ·rw[if_neg hg]at hC
   obtain⟨q1,q2,c',t,fr',q3,q4,q5⟩:=S.blk g C hC
   have:=hne C g q1
   exact⟨by rw[if_neg this];exact q1,q2,c',t,fr',q3,by rw[if_neg this];exact q4,q5⟩
 ·simp only[ψ']at hC ⊢
  split at hC
  ·rename_i q;cases hC;exact .inr (by rw[if_pos rfl,q])
  ·rename_i q
   rcases S.gblk C g hC with z | z
   ·exact .inl z
   ·have:=(S.grp C g hC).1;exact .inr (by rw[if_neg (by omega)];exact z)
 ·subst r1
  refine .sl h.ng 0 sz cap els B off f (by simp[ψ']) (fun _=>by simp[ψ']) (fun _=>by simp[ψ']) (fun e he=>(r4 e he).1) (fun e he=>(r4 e he).2) (fun i hi=>r2 i (by omega)) (fun i hi=>(r3 i hi).mono E) (fun m hm=>?_) hn (fun _ m hm _=>?_)
  ·simp only[ψ',if_pos]at hm;cases hm;omega
  ·simp only[ψ',if_pos]
   exact⟨trivial,trivial,by omega⟩
theorem frz_sound:∀(d:Nat) (v:AV) (vv:Value) (h:Hp μ) (ψ:Gh),Sim ψ w h→VR ψ w v vv→∃ψ',Ext ψ w ψ' w∧Sim ψ' w (frz d v h).2∧VR ψ' w (frz d v h).1 vv
 | 0,v,vv,h,ψ,S,V=>⟨ψ,Ext.refl _ _,S,V⟩
 | d+1,v,vv,h,ψ,S,V=>by
  have fold:∀(l acc:List AV) (ys xs:Array Value) (h:Hp μ) (ψ:Gh),Sim ψ w h→VRs ψ w acc xs→VRs ψ w l ys→∃ψ',Ext ψ w ψ' w ∧
    Sim ψ' w (l.foldl (fun(p:List AV × Hp μ) x=>let q:=frz d x p.2;(p.1++[q.1],q.2)) (acc,h)).2∧VRs ψ' w (l.foldl (fun(p:List AV × Hp μ) x=>let q:=frz d x p.2;(p.1++[q.1],q.2)) (acc,h)).1 (xs++ys):=by
   intro l
   induction l with
   | nil=>
    intro acc ys xs h ψ S A L
    have:ys = #[]:=Array.eq_empty_of_size_eq_zero (by have:=L.1;simpa using this)
    subst this
    exact⟨ψ,Ext.refl _ _,S,by simpa using A⟩
   | cons a l ih=>
    intro acc ys xs h ψ S A L
    obtain⟨ls,lv⟩:=L
    have ha:=lv 0 (by simp)
    simp only[List.getElem_cons_zero]at ha
    obtain⟨ψ1,E1,S1,V1⟩:=frz_sound d a _ h ψ S ha
    have hsz:ys.size=l.length+1:=by rw[ls];rfl
    obtain⟨ψ2,E2,S2,V2⟩:=ih (acc++[(frz d a h).1]) (ys.extract 1 ys.size) (xs ++ #[ys[0]]) (frz d a h).2 ψ1 S1
     (VRs_append (A.mono E1) ⟨rfl,fun i hi=>by simp at hi;subst hi;exact V1⟩)
     ⟨by simp[hsz],fun i hi=>by
      have:=(lv (i+1) (by simpa using hi)).mono E1
      simp only[List.getElem_cons_succ]at this
      simpa[Nat.add_comm]using this⟩
    refine⟨ψ2,E1.trans E2,S2,?_⟩
    have he:xs++ys=xs ++ #[ys[0]]++ys.extract 1 ys.size:=by
     rw[Array.append_assoc]
     congr 1
     apply Array.ext
     ·simp[hsz];omega
     ·intro i h1 h2
      cases i with
      | zero=>simp
      | succ i=>simp[Array.getElem_append,Nat.add_comm]
    rw[he];exact V2
  cases V with
  | rs o off sz ag n cap B ho hn=>
   simp only[frz]
   split
   ·rename_i cs els hro hels
    split
    ·exact⟨ψ,Ext.refl _ _,S,.rs o off sz ag n cap B ho hn⟩
    ·exact frzRow_sound S hro hels (by omega) ho hn
   ·exact⟨ψ,Ext.refl _ _,S,.rs o off sz ag n cap B ho hn⟩
  | agg cs x hx ha=>
   simp only[frz]
   obtain⟨ψ',E,S',V'⟩:=fold cs [] x #[] h ψ S ⟨rfl,fun i hi=>by simp at hi⟩ ⟨hx,ha⟩
   rw[Array.empty_append]at V'
   exact⟨ψ',E,S',.agg _ _ V'.1 V'.2⟩
  | tup cs x hx ha=>
   simp only[frz]
   obtain⟨ψ',E,S',V'⟩:=fold cs [] x #[] h ψ S ⟨rfl,fun i hi=>by simp at hi⟩ ⟨hx,ha⟩
   rw[Array.empty_append]at V'
   exact⟨ψ',E,S',.tup _ _ V'.1 V'.2⟩
  | _=>simp only[frz];exact⟨ψ,Ext.refl _ _,S,by constructor <;> assumption⟩
theorem polOut_sound(S:Sim ψ w h){v:AV}{vv:Value}(V:VR ψ w v vv)(T:Tab)(f:Nat)(h0:Hp μ):∃ψ',Ext ψ w ψ' w∧Sim ψ' w (polOut T f h0 (v,h)).2∧VR ψ' w (polOut T f h0 (v,h)).1 vv:=by
 unfold polOut
 split
 ·exact⟨ψ,Ext.refl _ _,S,V⟩
 ·obtain⟨ψ',E,S',V'⟩:=frz_sound 3 v vv h ψ S V
  exact⟨ψ',E,S'.pol _,V'⟩
theorem takes{ψ0:Gh}{w0:World}{fn:Func}{tmps:Array Value}{R:Ending→World→Prop}:∀(rs:List Nat) (ψ:Gh) (w:World),Ext ψ0 w0 ψ w→Sim ψ w h→rs.Nodup→(∀r∈rs,w0.heap.size≤r∧w.heap[r]? = some (.deferred (some []))∧ψ.grp r=none∧ψ.own r=none) →
  (∀w',Ext ψ0 w0 ψ w'→Sim ψ w' h→(∀a v,VR ψ w a v→VR ψ w' a v)→∃v,(results fn tmps).run P w'=.ok v w'∧R (.returned v) w') →
  LeavesInM Fence.wide 0 P fn tmps R (rs.map (fun r=>{ target:=.collected r,args := #[] })) .returning w
 | [],ψ,w,E,S,_,_,K=>by
  simp only[List.map_nil,LeavesInM,LeavesIn]
  exact K w E S fun _ _ h=>h
 | r::rs,ψ,w,E,S,hnd,hr,K=>by
  obtain⟨a1,a2,a3,a4⟩:=hr r (by simp)
  rw[List.nodup_cons]at hnd
  have hat:=OnlyAt.setObj w r (.deferred none)
  have E0:Ext0 ψ w ψ { w with heap:=w.heap.setIfInBounds r (.deferred none) }:=by
   have hne:∀C g,ψ.grp C=some g→C≠r:=fun C g e he=>by rw[he,a3]at e;cases e
   exact⟨hat.os,hat.tape,hat.output,by rw[hat.size];exact Nat.le_refl _,fun _ _ e=>e,fun _ _ e=>e,fun _ _ _=>Nat.le_refl _,fun C g i e _=>hat.cell (hne C g e),Nat.le_refl _,
    fun _ _=>.inl ⟨rfl,rfl,fun _ _=>⟨rfl,rfl⟩⟩,fun C e=>hat.other C (hne C 0 e)⟩
  have E':Ext ψ0 w0 ψ { w with heap:=w.heap.setIfInBounds r (.deferred none) }:=
   ⟨E.toExt0.trans E0,fun C h1 h2 h3=>by
    obtain⟨b1,b2,b3⟩:=E.fr C h1 h2 h3
    exact⟨(hat.other C fun he=>by omega).trans b1,b2,b3⟩⟩
  have S':Sim ψ { w with heap:=w.heap.setIfInBounds r (.deferred none) } h:=by
   refine⟨fun o y ho ha=>?_,fun C o hC=>?_,S.no,fun C g hC=>?_,S.len,S.zero,S.neq,S.ng,fun g C hC=>?_,S.gblk,S.tape,S.drawn⟩
   ·obtain⟨C,q1,q2,q3⟩:=S.obj o y ho ha
    have hCr:C≠r:=fun he=>by
     subst he
     rw[a4]at q2;cases q2
    exact⟨C,q1,q2,q3.mono0 E0 (hat.other C hCr)⟩
   ·have:=S.own C o hC
    exact⟨this.1,by rw[hat.size];exact this.2⟩
   ·have:=S.grp C g hC
    exact⟨this.1,by rw[hat.size];exact this.2⟩
   ·obtain⟨h1,h2,c1,t,fr1,h3,h4,h5⟩:=S.blk g C hC
    have hCr:C≠r:=fun he=>by rw[he,a3]at h1;cases h1
    exact⟨h1,h2,c1,t,fr1,(hat.other C hCr).trans h3,h4,fun i hi=>(hat.frozen hCr).trans (h5.1 i hi),h5.2⟩
  simp only[List.map_cons,LeavesInM]
  refine⟨by simp,.inl ⟨r,_,rfl,?_,takes rs ψ _ E' S' hnd.2 (fun x hx=>?_) fun w' e1 s1 m1=>K w' e1 s1 fun a v hv=>m1 a v (hv.mono0 E0)⟩⟩
  ·simp[Instr.takeDeferred,Sem.run_bind,getObj,setObj,Sem.run,a2,Result.andThen]
  ·obtain⟨b1,b2,b3⟩:=hr x (by simp[hx])
   exact⟨b1,(hat.other x fun he=>hnd.1 (he▸hx)).trans b2,b3⟩
end
theorem Ret.of{ψ ψ':Gh}{w w':World}{h':Hp μ}{r:AV}{e:Ending}{w'':World}(E:Ext ψ w ψ' w')(h:Ret ψ' w' h' r e w''):Ret ψ w h' r e w'':=by
 obtain⟨v,ψ1,h1,h2,h3,h4⟩:=h
 exact⟨v,ψ1,h1,E.trans h2,h3,h4⟩
theorem roundT_rel{ψ:Gh}{w:World}:∀(ps:List Nat) (args:List AV) (vs:List Value) (t:μ AV) (tmps:Array Value),args.length=vs.length→(∀i (h1:i<args.length) (h2:i<vs.length),VR ψ w args[i] vs[i])→(∀p∈ps,p<tmps.size) →
  (∀i,VR ψ w (tget t i) (tmps.getD i Go.undef))→((ps.zip vs).foldl (fun tmps (x:Nat × Value)=>tmps.setIfInBounds x.1 x.2) tmps).size=tmps.size∧∀i,VR ψ w (tget (roundT t ps args) i) (((ps.zip vs).foldl (fun tmps (x:Nat × Value)=>tmps.setIfInBounds x.1 x.2) tmps).getD i Go.undef)
 | [],args,vs,t,tmps,_,_,_,ht=>⟨rfl,ht⟩
 | p::ps,[],[],t,tmps,_,_,_,ht=>⟨rfl,ht⟩
 | p::ps,a::args,v::vs,t,tmps,hl,hv,hp,ht=>by
  have:=roundT_rel ps args vs (Mp.set t p a) (tmps.setIfInBounds p v) (by simpa using hl) (fun i h1 h2=>by have:=hv (i+1) (by simpa using h1) (by simpa using h2);simp only[List.getElem_cons_succ]at this;exact this) (fun q hq=>by simpa using hp q (by simp[hq]))
   (fun i=>by
    rw[tget_set,getD_set _ _ _ _ (hp p (by simp))]
    split
    ·exact hv 0 (by simp) (by simp)
    ·exact ht i)
  simp only[List.zip_cons_cons,List.foldl_cons,roundT]
  refine⟨by rw[this.1];simp,this.2⟩
 | p::ps,[],v::vs,t,tmps,hl,_,_,_=>by simp at hl
 | p::ps,a::args,[],t,tmps,hl,_,_,_=>by simp at hl
theorem endR_sound{ψ:Gh}{w:World}{o B:Nat}{e:Ex}{st:St μ}{r:AV × Hp μ}(h:endR o e st=some r)(S:Sim ψ w st.h)(hB:ψ.obj o=some B){a:Act}:roundPost P B (Ret ψ w r.2 r.1) (exOf e) a w:=by
 unfold endR at h
 split at h
 case h_2=>cases h
 rename_i l hl
 obtain⟨B',rc,k1,k2,k3,k4,k5,k6,k7,k8,k9,k10⟩:=S.loop hl
 rw[k1]at hB;cases hB
 have fin:∀(s:LoopState) (p:Option Code) (b:Bool),p.isNone=b→s=(if p.isNone then .ready else .done)→r=(.bool b,{ st.h with obj:=Mp.set st.h.obj o (.loop { l with state:=s,pending:=p }) }) →
   ∃v w',(Instr.endRound B p).run P w=.ok v w'∧Ret ψ w r.2 r.1 (.returned v) w':=by
  rintro s p b rfl rfl rfl
  let rc':Loop:={ rc with state:=if p.isNone then .ready else .done,pending:=p }
  obtain⟨E4,S4⟩:=setObj_sound S (x:=.loop { l with state:=if p.isNone then .ready else .done,pending:=p }) k1 k2 (by rw[k3];intro h;cases h) (OnlyAt.setObj w B (.loop rc')) fun E=>.loop _ rc' (set_at k3) rfl rfl k6 k7 k8 k9 fun i=>(k10 i).mono E
  refine⟨.bool p.isNone,_,?_,.bool p.isNone,ψ,rfl,E4,S4,.bool p.isNone⟩
  have hg:(getObj B).run P w=.ok (.loop rc) w:=by simp[getObj,Sem.run,k3]
  have hs':(setObj B (.loop { rc with state:=if p.isNone then .ready else .done,pending:=p })).run P w=.ok () { w with heap:=w.heap.setIfInBounds B (.loop rc') }:=by simp[setObj,Sem.run,k3,rc']
  simp only[Instr.endRound,Instr.getLoop,Sem.run_bind,hg,Result.andThen_ok,Sem.run_pure,hs']
 cases e with
 | normal=>cases h;exact fin .ready none true rfl rfl rfl
 | ret=>cases h;exact fin .done (some .ret) false rfl rfl rfl
 | exit i=>cases h;exact fin .done (some (.exit i)) false rfl rfl rfl
 | goto i=>cases h;exact fin .done (some (.goto i)) false rfl rfl rfl
theorem beginR_sound{ψ:Gh}{w:World}{o B:Nat}{st st':St μ}(h:beginR o st=some st')(S:Sim ψ w st.h)(hB:ψ.obj o=some B):∃w',(Instr.beginRound B).run P w=.ok () w'∧Ext ψ w ψ w'∧Sim ψ w' st'.h∧st'.t=st.t∧st'.nt=st.nt∧st'.ro=st.ro:=by
 unfold beginR at h
 split at h
 case h_2=>cases h
 rename_i l hl
 split at h
 case isFalse=>cases h
 rename_i hrd
 cases h
 obtain⟨B',rc,k1,k2,k3,k4,k5,k6,k7,k8,k9,k10⟩:=S.loop hl
 rw[k1]at hB;cases hB
 obtain⟨E4,S4⟩:=setObj_sound S (x:=.loop { l with state:=.busy }) k1 k2 (by rw[k3];intro h;cases h) (OnlyAt.setObj w B (.loop { rc with state:=.busy })) fun E=>.loop _ { rc with state:=.busy } (set_at k3) rfl k5 k6 k7 k8 k9 fun i=>(k10 i).mono E
 refine⟨_,?_,E4,S4,rfl,rfl,rfl⟩
 have hg:(getObj B).run P w=.ok (.loop rc) w:=by simp[getObj,Sem.run,k3]
 have hs':(setObj B (.loop { rc with state:=.busy })).run P w=.ok () { w with heap:=w.heap.setIfInBounds B (.loop { rc with state:=.busy }) }:=by simp[setObj,Sem.run,k3]
 simp only[Instr.beginRound,Instr.getLoop,Sem.run_bind,hg,Result.andThen_ok,Sem.run_pure,hs',k4,hrd]
theorem call_sound(hm:P.follows .mixedOrders=true)(T:Tab):∀n,CfSound P (callF P T n:Cf μ):=by
 intro n
 induction n with
 | zero=>exact⟨fun f args h r h' hc=>by simp[callF]at hc,fun f args h r h' hc=>by simp[callF]at hc⟩
 | succ n ih=>
  refine⟨fun f args h r h' hc hb ψ w vs S V=>?_,fun o args h r h' hc ψ w vs B S V hB=>?_⟩
  ·skip
   simp only[callF]at hc
   split at hc
   ·cases hc
   ·rename_i fn hf
    split at hc
    ·cases hc
    ·rename_i c hbd
     have hsz:=V.1
     have hinit:TR ψ w (argsT args:μ AV) (max args.length fn.ntmps) { tmps:=vs++Array.replicate (fn.ntmps-vs.size) Go.undef,defers:=[] }:=by
      refine⟨by simp;omega,fun i=>?_⟩
      rw[argsT_get]
      simp only[Array.getD_eq_getD_getElem?]
      by_cases hi:i<args.length
      ·rw[List.getElem?_eq_getElem hi,Array.getElem?_append_left (by omega),Array.getElem?_eq_getElem (by omega)]
       exact V.2 i hi
      ·rw[List.getElem?_eq_none (by omega),Array.getElem?_append_right (by omega),Array.getElem?_replicate]
       split <;> exact .undef
     have hex:=fun r st' (he:execF P (callF P T n) (drawF P (callF P T n)) n none c ⟨argsT args,max args.length fn.ntmps,polIn T f h,none⟩=some (r,st'))=>
      (exec_sound ih (draw_sound hm ih) n).1 c _ st' r he ψ w { tmps:=vs++Array.replicate (fn.ntmps-vs.size) Go.undef,defers:=[] } none (polIn_sound S T f) hinit trivial
     have fin:∀(x:Ex) (st':St μ) (r0:AV),resultsAV P fn st'.t st'.h=some r0→polOut T f h (r0,st'.h)=(r,h')→∀a w',Out ψ w (max args.length fn.ntmps) [] x st' (exOf x) a w'→LeavesInM Fence.wide 0 P fn a.tmps (Ret ψ w h' r) a.defers .returning w':=by
      rintro x st' r0 e1 e2 a w' ⟨_,ψ',q1,q2,q3,rs,m1,m2,m3⟩
      rw[m1,List.append_nil]
      refine takes rs ψ' w' q1 q2 m2 m3 fun w'' E S2 hv=>?_
      obtain⟨u,u1,u2⟩:=results_sound (P:=P) S2 (a:=a) ⟨q3.size,fun i=>hv _ _ (q3.val i)⟩ e1
      obtain⟨ψ2,E2,S3,V3⟩:=polOut_sound S2 u2 T f h
      rw[e2]at S3 V3
      exact⟨u,u1,u,ψ2,rfl,E.trans E2,S3,V3⟩
     refine callsIn_of_wp_marks hf hbd trivial ?_
     split at hc
     ·rename_i st' he
      simp only[Option.map_eq_some_iff]at hc
      obtain⟨r0,e1,e2⟩:=hc
      refine wpIn_mono (F:=FW none) (hex _ _ he) ?_
      intro e a w' ho
      have:=ho.1
      subst this
      exact fin _ _ _ e1 e2 a w' ho
     ·rename_i st' he
      simp only[Option.map_eq_some_iff]at hc
      obtain⟨r0,e1,e2⟩:=hc
      refine wpIn_mono (F:=FW none) (hex _ _ he) ?_
      intro e a w' ho
      have:=ho.1
      subst this
      exact fin _ _ _ e1 e2 a w' ho
     ·cases hc
  ·skip
   simp only[callF]at hc
   unfold roundF at hc
   split at hc
   case h_2=>cases hc
   rename_i l hl
   split at hc
   case isFalse=>cases hc
   rename_i hcond
   obtain⟨c1,c2⟩:=hcond
   obtain⟨B',rc,k1,k2,k3,k4,k5,k6,k7,k8,k9,k10⟩:=S.loop hl
   rw[k1]at hB;cases hB
   have hg:(getObj B).run P w=.ok (.loop rc) w:=by simp[getObj,Sem.run,k3]
   have hrel:=roundT_rel (ψ:=ψ) (w:=w) l.params.toList args vs.toList l.t rc.tmps (by simpa using V.1.symm) (fun i h1 h2=>by simpa using V.2 i h1) (fun p hp=>by have:=List.all_eq_true.1 c2 p hp;simp at this;omega) k10
   refine⟨rc.fn,(rc.params.zip vs).foldl (fun tmps (x:Nat × Value)=>tmps.setIfInBounds x.1 x.2) rc.tmps,rc.assign,rc.body,?_,?_⟩
   ·have hsz:vs.size=rc.params.size:=by rw[V.1,k6,c1]
    simp only[Instr.yield,Instr.getLoop,Sem.run_bind,hg,Result.andThen_ok,Sem.run_pure]
    simp[hsz]
   ·split at hc
    case h_2=>cases hc
    rename_i s1 he1
    simp only[Option.bind_eq_some_iff]at hc
    obtain⟨s2,hb2,⟨e,s3⟩,he3,hend⟩:=hc
    rw[k7,k8]
    have hT:TR ψ w (roundT l.t l.params.toList args) l.nt { tmps:=(rc.params.zip vs).foldl (fun tmps (x:Nat × Value)=>tmps.setIfInBounds x.1 x.2) rc.tmps,defers:=[] }:=by
     have:(rc.params.zip vs).foldl (fun tmps (x:Nat × Value)=>tmps.setIfInBounds x.1 x.2) rc.tmps=(l.params.toList.zip vs.toList).foldl (fun tmps (x:Nat × Value)=>tmps.setIfInBounds x.1 x.2) rc.tmps:=by
      rw[k6,←Array.foldl_toList,Array.toList_zip]
     rw[this]
     exact⟨by simp only[hrel.1];exact k9,hrel.2⟩
    refine roundIn_of_wpIn trivial ?_
    have hx1:=(exec_sound ih (draw_sound hm ih) n).1 l.assign _ s1 _ he1 ψ w _ (some B) S hT k1
    refine wpIn_mono (F:=FW (some B)) hx1 ?_
    rintro e1 a1 w1 ⟨rfl,ψ1,E1,S1,T1,_⟩
    obtain⟨w2,b1,b2,b3,b4,b5,b6⟩:=beginR_sound (P:=P) hb2 S1 (E1.obj _ _ k1)
    refine⟨w2,b1,?_⟩
    have hs:=exec_same (draw_sound hm ih) _ _ _ _ _ _ he1
    have hx2:=(exec_sound ih (draw_sound hm ih) n).1 l.body s2 s3 e he3 ψ1 w2 a1 (some B) b3 (by rw[b4,b5,hs.1];exact T1.mono b2) (by rw[b6,hs.2];exact E1.obj _ _ k1)
    refine wpIn_mono (F:=FW (some B)) hx2 ?_
    rintro e2 a2 w3 ⟨rfl,ψ3,E3,S3,_,_⟩
    have hp:=endR_sound (P:=P) (a:=a2) hend S3 (E3.obj _ _ (E1.obj _ _ k1))
    have E:=(E1.trans b2).trans E3
    cases e with
    | normal=>obtain⟨v,w',g1,g2⟩:=hp;exact⟨v,w',g1,g2.of E⟩
    | ret=>obtain⟨v,w',g1,g2⟩:=hp;exact⟨v,w',g1,g2.of E⟩
    | exit i=>obtain⟨v,w',g1,g2⟩:=hp;exact⟨v,w',g1,g2.of E⟩
    | goto i=>obtain⟨v,w',g1,g2⟩:=hp;exact⟨v,w',g1,g2.of E⟩
end
end Go.Vn
