/- The value machine: what is answered in some rounds is answered in more; answers without rounds, and their equations. No condition. -/
import Derived.Test.YtplcehpejjfjoaaGreatVnB4
set_option linter.unusedSimpArgs false
set_option linter.unusedVariables false
namespace Go.Vn
section
variable {μ:Type→Type} [Mp μ] {P:Program} {T:Tab}
def LeF{α β:Type}(f g:α→Option β):Prop:=∀a b,f a=some b→g a=some b
def LeC(cf cf':Cf μ):Prop:=∀f args h r,cf f args h=some r→cf' f args h=some r
theorem stepOp_mono{cf cf':Cf μ}(hc:LeC cf cf'){ops:Array Oper}{o:Oper}{st st':St μ}(h:stepOp P cf ops o st=some st'):stepOp P cf' ops o st=some st':=by
 unfold stepOp at h ⊢
 split at h
 ·cases h
 ·exact h
 ·split at h
  ·exact h
  ·exact h
  ·split at h
   ·rename_i hcf;rw[hc _ _ _ _ hcf];exact h
   ·cases h
  ·cases h
theorem runOps_mono{cf cf':Cf μ}(hc:LeC cf cf'){ops:Array Oper}:∀(l:List Oper) (st st':St μ),runOps P cf ops l st=some st'→runOps P cf' ops l st=some st'
 | [],st,st',h=>h
 | o::rest,st,st',h=>by
  simp only[runOps]at h ⊢
  split at h
  ·rename_i s hs;rw[stepOp_mono hc hs];exact runOps_mono hc rest s st' h
  ·cases h
theorem trace_mono{cf cf':Cf μ}(hc:LeC cf cf'){ops:Array Oper}:∀(l:List Oper) (st:St μ) (tr:List (St μ)),trace P cf ops l st=some tr→trace P cf' ops l st=some tr
 | [],st,tr,h=>h
 | o::rest,st,tr,h=>by
  simp only[trace,Option.bind_eq_some_iff,Option.map_eq_some_iff]at h ⊢
  obtain⟨s,h1,l,h2,h3⟩:=h
  exact⟨s,stepOp_mono hc h1,l,trace_mono hc rest s l h2,h3⟩
theorem drawF_mono{cf cf':Cf μ}(hc:LeC cf cf'){ops:Array Oper}{st st':St μ}(h:drawF P cf ops st=some st'):drawF P cf' ops st=some st':=by
 simp only[drawF,drawG,Option.bind_eq_some_iff]at h ⊢
 obtain⟨pl,h1,tr,h2,h3⟩:=h
 exact⟨pl,h1,tr,trace_mono hc _ _ _ h2,h3⟩
theorem range_mono{cf cf':Cf μ}(hc:LeC cf cf'){f:Operand}{ps:Array Nat}{a b:Code}{st:St μ}{r:Ex × St μ}(h:rangeF P cf f ps a b st=some r):rangeF P cf' f ps a b st=some r:=by
 unfold rangeF at h ⊢
 by_cases hl:roOk st=false
 ·rw[if_pos hl]at h;cases h
 rw[if_neg hl]at h ⊢
 simp only[Option.bind_eq_some_iff]at h ⊢
 obtain⟨q,h1,x,h2,h3⟩:=h
 exact⟨q,h1,x,hc _ _ _ _ h2,h3⟩
theorem round_mono{ex ex':Code→St μ→Option (Ex × St μ)}(hx:∀c st r,ex c st=some r→ex' c st=some r){o:Nat}{args:List AV}{h:Hp μ}{r:AV × Hp μ}(hr:roundF ex o args h=some r):roundF ex' o args h=some r:=by
 unfold roundF at hr ⊢
 split at hr
 ·rename_i l hl
  split at hr
  ·rename_i hc
   simp only[hl,if_pos hc]
   split at hr
   ·rename_i s1 h1
    rw[hx _ _ _ h1]
    simp only[Option.bind_eq_some_iff]at hr ⊢
    obtain⟨s2,q1,x,q2,q3⟩:=hr
    exact⟨s2,q1,x,hx _ _ _ q2,q3⟩
   ·cases hr
  ·cases hr
 ·cases hr
theorem execF_mono{cf cf':Cf μ}{df df':Array Oper→St μ→Option (St μ)}(hc:LeC cf cf')(hd:∀ops st st',df ops st=some st'→df' ops st=some st'):∀(n n':Nat) (m:Option Code) (c:Code) (st:St μ) (r:Ex × St μ),
  n≤n'→execF P cf df n m c st=some r→execF P cf' df' n' m c st=some r
 | 0,_,m,c,st,r,_,h=>by simp[execF]at h
 | n+1,0,m,c,st,r,hn,h=>by omega
 | n+1,n'+1,some b,c,st,r,hn,h=>by
  have ih:=fun m c st r=>execF_mono hc hd n n' m c st r (by omega)
  simp only[execF]at h ⊢
  split at h
  ·rename_i l st1 h1
   rw[ih _ _ _ _ h1]
   simp only
   split at h
   ·exact ih _ _ _ _ h
   ·exact h
  ·rename_i hne
   rw[ih _ _ _ _ h]
   split
   ·rename_i l st1 he;cases he;exact(hne _ _ h).elim
   ·rfl
 | n+1,n'+1,none,c,st,r,hn,h=>by
  have ih:=fun m c st r=>execF_mono hc hd n n' m c st r (by omega)
  cases c <;> simp only[execF]at h ⊢
  case skip=>exact h
  case label=>exact h
  case ret=>exact h
  case exit=>exact h
  case goto=>exact h
  case seq a b=>
   split at h
   ·rename_i st1 h1;rw[ih _ _ _ _ h1];exact ih _ _ _ _ h
   ·rename_i hne
    rw[ih _ _ _ _ h]
    split
    ·rename_i st1 he;cases he;exact(hne _ h).elim
    ·rfl
  case cond x a b=>
   split at h
   ·exact ih _ _ _ _ h
   ·exact ih _ _ _ _ h
   ·cases h
  case block id b=>
   split at h
   ·rename_i i st1 h1;rw[ih _ _ _ _ h1];exact h
   ·rename_i hne
    rw[ih _ _ _ _ h]
    split
    ·rename_i i st1 he;cases he;exact(hne _ _ h).elim
    ·rfl
  case loop b=>
   split at h
   ·rename_i st1 h1;rw[ih _ _ _ _ h1];exact ih _ _ _ _ h
   ·rename_i hne
    rw[ih _ _ _ _ h]
    split
    ·rename_i st1 he;cases he;exact(hne _ h).elim
    ·rfl
  case scope b=>exact ih _ _ _ _ h
  case region id ops draw=>
   split at h
   ·rename_i hdr
    rw[if_pos hdr]
    simp only[Option.map_eq_some_iff]at h ⊢
    obtain⟨s,h1,h2⟩:=h
    exact⟨s,hd _ _ _ h1,h2⟩
   ·rename_i hdr
    rw[if_neg hdr]
    simp only[Option.map_eq_some_iff]at h ⊢
    obtain⟨s,h1,h2⟩:=h
    exact⟨s,runOps_mono hc _ _ _ h1,h2⟩
  case rangeFunc=>exact range_mono hc h
  all_goals exact h
theorem callF_mono:∀(n n':Nat),n≤n'→LeC (callF P T n:Cf μ) (callF P T n')
 | 0,_,_=>fun f args h r hc=>by simp[callF]at hc
 | n+1,0,hn=>by omega
 | n+1,n'+1,hn=>fun f args h r hc=>by
  have ih:=callF_mono n n' (by omega)
  have hx:=fun c st r=>execF_mono (P:=P) (df:=drawF P (callF P T n)) (df':=drawF P (callF P T n')) ih (fun _ _ _=>drawF_mono ih) n n' none c st r (by omega)
  cases f with
  | func f=>
   simp only[callF]at hc ⊢
   split at hc
   ·cases hc
   ·rename_i fn hf
    split at hc
    ·cases hc
    ·rename_i c hb
     split at hc
     ·rename_i st he;rw[hx _ _ _ he];exact hc
     ·rename_i st he;rw[hx _ _ _ he];exact hc
     ·cases hc
  | yield o=>
   simp only[callF]at hc ⊢
   exact round_mono hx hc
noncomputable def lim{α:Type}(f:Nat→Option α):Option α:=open Classical in if h:∃n x,f n=some x then some h.choose_spec.choose else none
theorem lim_iff{α:Type}{f:Nat→Option α}(hf:∀(n n':Nat) (x:α),n≤n'→f n=some x→f n'=some x)(x:α):lim f=some x↔∃n,f n=some x:=by
 unfold lim
 constructor
 ·intro h
  split at h
  ·rename_i hx
   cases h
   exact⟨hx.choose,hx.choose_spec.choose_spec⟩
  ·cases h
 ·rintro⟨n,hn⟩
  have hx:∃n x,f n=some x:=⟨n,x,hn⟩
  rw[dif_pos hx]
  have h1:=hx.choose_spec.choose_spec
  have h2:=hf _ (max hx.choose n) _ (by omega) h1
  have h3:=hf _ (max hx.choose n) _ (by omega) hn
  rw[h2]at h3
  exact h3
variable (P T)in
noncomputable def callR:Cf μ:=fun f args h=>lim fun n=>callF P T n f args h
theorem callR_iff{f:Fx}{args:List AV}{h:Hp μ}{r:AV × Hp μ}:callR P T f args h=some r↔∃n,callF P T n f args h=some r:=
 lim_iff (fun n n' x hn hx=>callF_mono n n' hn _ _ _ _ hx) r
theorem callR_sound(hm:P.follows .mixedOrders=true):CfSound P (callR P T:Cf μ):=⟨fun f args h r h' hc=>by
  obtain⟨n,hn⟩:=callR_iff.1 hc
  exact(call_sound hm T n).func f args h r h' hn,
 fun f args h r h' hc=>by
  obtain⟨n,hn⟩:=callR_iff.1 hc
  exact(call_sound hm T n).yield f args h r h' hn⟩
variable (P T)in
noncomputable def execR(c:Code)(st:St μ):Option (Ex × St μ):=lim fun n=>execF P (callR P T) (drawF P (callR P T)) n none c st
variable (P T)in
noncomputable def scopeR(b c:Code)(st:St μ):Option (Ex × St μ):=lim fun n=>execF P (callR P T) (drawF P (callR P T)) n (some b) c st
omit [Mp μ]in
theorem leC_refl(cf:Cf μ):LeC cf cf:=fun _ _ _ _ h=>h
theorem execR_iff{c:Code}{st:St μ}{r:Ex × St μ}:execR P T c st=some r↔∃n,execF P (callR P T) (drawF P (callR P T)) n none c st=some r:=
 lim_iff (fun n n' x hn hx=>execF_mono (leC_refl _) (fun _ _ _ h=>h) n n' none c st x hn hx) r
theorem scopeR_iff{b c:Code}{st:St μ}{r:Ex × St μ}:scopeR P T b c st=some r↔∃n,execF P (callR P T) (drawF P (callR P T)) n (some b) c st=some r:=
 lim_iff (fun n n' x hn hx=>execF_mono (leC_refl _) (fun _ _ _ h=>h) n n' (some b) c st x hn hx) r
theorem up{m:Option Code}{c:Code}{st:St μ}{r:Ex × St μ}{n n':Nat}(hn:n≤n')(h:execF P (callR P T) (drawF P (callR P T)) n m c st=some r):execF P (callR P T) (drawF P (callR P T)) n' m c st=some r:=
 execF_mono (leC_refl _) (fun _ _ _ h=>h) n n' m c st r hn h
theorem execR_skip(st:St μ):execR P T .skip st=some (.normal,st):=execR_iff.2 ⟨1,rfl⟩
theorem execR_label(l:Nat)(st:St μ):execR P T (.label l) st=some (.normal,st):=execR_iff.2 ⟨1,rfl⟩
theorem execR_ret(st:St μ):execR P T .ret st=some (.ret,st):=execR_iff.2 ⟨1,rfl⟩
theorem execR_exit(i:Nat)(st:St μ):execR P T (.exit i) st=some (.exit i,st):=execR_iff.2 ⟨1,rfl⟩
theorem execR_goto(l:Nat)(st:St μ):execR P T (.goto l) st=some (.goto l,st):=execR_iff.2 ⟨1,rfl⟩
theorem execR_region(id:Nat)(ops:Array Oper)(st:St μ):execR P T (.region id ops false) st=(runOps P (callR P T) ops ops.toList st).map fun s=>(.normal,s):=by
 apply Option.ext;intro r
 rw[execR_iff]
 constructor
 ·rintro⟨n,h⟩
  cases n with
  | zero=>simp[execF]at h
  | succ n=>simpa[execF]using h
 ·intro h;exact⟨1,by simpa[execF]using h⟩
theorem execR_draw(id:Nat)(ops:Array Oper)(st:St μ):execR P T (.region id ops true) st=(drawF P (callR P T) ops st).map fun s=>(.normal,s):=by
 apply Option.ext;intro r
 rw[execR_iff]
 constructor
 ·rintro⟨n,h⟩
  cases n with
  | zero=>simp[execF]at h
  | succ n=>simpa[execF]using h
 ·intro h;exact⟨1,by simpa[execF]using h⟩
theorem execR_seq(a b:Code)(st:St μ):execR P T (.seq a b) st=match execR P T a st with | some (.normal,s)=>execR P T b s | r=>r:=by
 apply Option.ext;intro r
 rw[execR_iff]
 constructor
 ·rintro⟨n,h⟩
  cases n with
  | zero=>simp[execF]at h
  | succ n=>
   simp only[execF]at h
   split at h
   ·rename_i s h1
    rw[execR_iff.2 ⟨n,h1⟩]
    exact execR_iff.2 ⟨n,h⟩
   ·rename_i hne
    rw[execR_iff.2 ⟨n,h⟩]
    split
    ·rename_i s he;cases he;exact(hne _ h).elim
    ·rfl
 ·intro h
  split at h
  ·rename_i s h1
   obtain⟨n1,h1⟩:=execR_iff.1 h1
   obtain⟨n2,h2⟩:=execR_iff.1 h
   refine⟨max n1 n2+1,?_⟩
   simp only[execF]
   rw[up (by omega) h1]
   exact up (by omega) h2
  ·rename_i hne
   obtain⟨n1,h1⟩:=execR_iff.1 h
   refine⟨n1+1,?_⟩
   simp only[execF]
   rw[h1]
   split
   ·rename_i s he;cases he;exact(hne _ h).elim
   ·rfl
theorem execR_cond(x:Operand)(a b:Code)(st:St μ):execR P T (.cond x a b) st=match ev st.t x with | .bool true=>execR P T a st | .bool false=>execR P T b st | _=>none:=by
 apply Option.ext;intro r
 rw[execR_iff]
 constructor
 ·rintro⟨n,h⟩
  cases n with
  | zero=>simp[execF]at h
  | succ n=>
   simp only[execF]at h
   split at h
   ·rename_i hx;rw[hx];exact execR_iff.2 ⟨n,h⟩
   ·rename_i hx;rw[hx];exact execR_iff.2 ⟨n,h⟩
   ·cases h
 ·intro h
  split at h
  ·rename_i hx
   obtain⟨n,h⟩:=execR_iff.1 h
   exact⟨n+1,by simp only[execF];rw[hx];exact h⟩
  ·rename_i hx
   obtain⟨n,h⟩:=execR_iff.1 h
   exact⟨n+1,by simp only[execF];rw[hx];exact h⟩
  ·cases h
theorem execR_block(id:Nat)(b:Code)(st:St μ):execR P T (.block id b) st=match execR P T b st with | some (.exit i,s)=>if i=id then some (.normal,s)else some (.exit i,s) | r=>r:=by
 apply Option.ext;intro r
 rw[execR_iff]
 constructor
 ·rintro⟨n,h⟩
  cases n with
  | zero=>simp[execF]at h
  | succ n=>
   simp only[execF]at h
   split at h
   ·rename_i i s h1
    rw[execR_iff.2 ⟨n,h1⟩]
    exact h
   ·rename_i hne
    rw[execR_iff.2 ⟨n,h⟩]
    split
    ·rename_i i s he;cases he;exact(hne _ _ h).elim
    ·rfl
 ·intro h
  split at h
  ·rename_i i s h1
   obtain⟨n1,h1⟩:=execR_iff.1 h1
   refine⟨n1+1,?_⟩
   simp only[execF]
   rw[h1]
   exact h
  ·rename_i hne
   obtain⟨n1,h1⟩:=execR_iff.1 h
   refine⟨n1+1,?_⟩
   simp only[execF]
   rw[h1]
   split
   ·rename_i i s he;cases he;exact(hne _ _ h).elim
   ·rfl
theorem execR_loop(b:Code)(st:St μ):execR P T (.loop b) st=match execR P T b st with | some (.normal,s)=>execR P T (.loop b) s | r=>r:=by
 apply Option.ext;intro r
 rw[execR_iff]
 constructor
 ·rintro⟨n,h⟩
  cases n with
  | zero=>simp[execF]at h
  | succ n=>
   simp only[execF]at h
   split at h
   ·rename_i s h1
    rw[execR_iff.2 ⟨n,h1⟩]
    exact execR_iff.2 ⟨n,h⟩
   ·rename_i hne
    rw[execR_iff.2 ⟨n,h⟩]
    split
    ·rename_i s he;cases he;exact(hne _ h).elim
    ·rfl
 ·intro h
  split at h
  ·rename_i s h1
   obtain⟨n1,h1⟩:=execR_iff.1 h1
   obtain⟨n2,h2⟩:=execR_iff.1 h
   refine⟨max n1 n2+1,?_⟩
   simp only[execF]
   rw[up (by omega) h1]
   exact up (by omega) h2
  ·rename_i hne
   obtain⟨n1,h1⟩:=execR_iff.1 h
   refine⟨n1+1,?_⟩
   simp only[execF]
   rw[h1]
   split
   ·rename_i s he;cases he;exact(hne _ h).elim
   ·rfl
theorem execR_scope(b:Code)(st:St μ):execR P T (.scope b) st=scopeR P T b b st:=by
 apply Option.ext;intro r
 rw[execR_iff,scopeR_iff]
 constructor
 ·rintro⟨n,h⟩
  cases n with
  | zero=>simp[execF]at h
  | succ n=>exact⟨n,by simpa only[execF]using h⟩
 ·rintro⟨n,h⟩;exact⟨n+1,by simpa only[execF]using h⟩
theorem scopeR_eq(b c:Code)(st:St μ):scopeR P T b c st=match execR P T c st with
  | some (.goto l,s)=>(match findLabel b l with | some rest=>scopeR P T b rest s | none=>some (.goto l,s))
  | r=>r:=by
 apply Option.ext;intro r
 rw[scopeR_iff]
 constructor
 ·rintro⟨n,h⟩
  cases n with
  | zero=>simp[execF]at h
  | succ n=>
   simp only[execF]at h
   split at h
   ·rename_i l s h1
    rw[execR_iff.2 ⟨n,h1⟩]
    simp only
    split at h
    ·rename_i rest hf;rw[hf];exact scopeR_iff.2 ⟨n,h⟩
    ·rename_i hf;rw[hf];exact h
   ·rename_i hne
    rw[execR_iff.2 ⟨n,h⟩]
    split
    ·rename_i l s he;cases he;exact(hne _ _ h).elim
    ·rfl
 ·intro h
  split at h
  ·rename_i l s h1
   obtain⟨n1,h1⟩:=execR_iff.1 h1
   split at h
   ·rename_i rest hf
    obtain⟨n2,h2⟩:=scopeR_iff.1 h
    refine⟨max n1 n2+1,?_⟩
    simp only[execF]
    rw[up (by omega) h1]
    simp only[hf]
    exact up (by omega) h2
   ·rename_i hf
    refine⟨n1+1,?_⟩
    simp only[execF]
    rw[h1]
    simp only[hf]
    exact h
  ·rename_i hne
   obtain⟨n1,h1⟩:=execR_iff.1 h
   refine⟨n1+1,?_⟩
   simp only[execF]
   rw[h1]
   split
   ·rename_i l s he;cases he;exact(hne _ _ h).elim
   ·rfl
theorem step_cont{ops:Array Oper}{o:Oper}{st st':St μ}(h:stepOp P (callR P T) ops o st=some st'):∃n,stepOp P (callF P T n) ops o st=some st':=by
 unfold stepOp at h ⊢
 split at h
 ·cases h
 ·exact⟨0,h⟩
 ·split at h
  ·exact⟨0,h⟩
  ·exact⟨0,h⟩
  ·split at h
   ·rename_i hc
    obtain⟨n,hn⟩:=callR_iff.1 hc
    exact⟨n,by rw[hn];exact h⟩
   ·cases h
  ·cases h
theorem runOps_cont{ops:Array Oper}:∀(l:List Oper) (st st':St μ),runOps P (callR P T) ops l st=some st'→∃n,runOps P (callF P T n) ops l st=some st'
 | [],st,st',h=>⟨0,h⟩
 | o::rest,st,st',h=>by
  simp only[runOps]at h
  split at h
  ·rename_i s hs
   obtain⟨n1,h1⟩:=step_cont hs
   obtain⟨n2,h2⟩:=runOps_cont rest s st' h
   refine⟨max n1 n2,?_⟩
   simp only[runOps]
   rw[stepOp_mono (callF_mono n1 (max n1 n2) (by omega)) h1]
   exact runOps_mono (callF_mono n2 (max n1 n2) (by omega)) _ _ _ h2
  ·cases h
theorem trace_cont{ops:Array Oper}:∀(l:List Oper) (st:St μ) (tr:List (St μ)),trace P (callR P T) ops l st=some tr→∃n,trace P (callF P T n) ops l st=some tr
 | [],st,tr,h=>⟨0,h⟩
 | o::rest,st,tr,h=>by
  simp only[trace,Option.bind_eq_some_iff,Option.map_eq_some_iff]at h ⊢
  obtain⟨s,h1,l,h2,h3⟩:=h
  obtain⟨n1,h1⟩:=step_cont h1
  obtain⟨n2,h2⟩:=trace_cont rest s l h2
  exact⟨max n1 n2,s,stepOp_mono (callF_mono n1 (max n1 n2) (by omega)) h1,l,trace_mono (callF_mono n2 (max n1 n2) (by omega)) _ _ _ h2,h3⟩
theorem drawF_cont{ops:Array Oper}{st st':St μ}(h:drawF P (callR P T) ops st=some st'):∃n,drawF P (callF P T n) ops st=some st':=by
 simp only[drawF,drawG,Option.bind_eq_some_iff]at h ⊢
 obtain⟨pl,h1,tr,h2,h3⟩:=h
 obtain⟨n,h2⟩:=trace_cont _ _ _ h2
 exact⟨n,pl,h1,tr,h2,h3⟩
theorem range_cont{f:Operand}{ps:Array Nat}{a b:Code}{st:St μ}{r:Ex × St μ}(h:rangeF P (callR P T) f ps a b st=some r):∃n,rangeF P (callF P T n) f ps a b st=some r:=by
 unfold rangeF at h ⊢
 by_cases hl:roOk st=false
 ·rw[if_pos hl]at h;cases h
 simp only[if_neg hl,Option.bind_eq_some_iff]at h ⊢
 obtain⟨q,h1,x,h2,h3⟩:=h
 obtain⟨n,hn⟩:=callR_iff.1 h2
 exact⟨n,q,h1,x,hn,h3⟩
theorem exec_cont:∀(n:Nat) (m:Option Code) (c:Code) (st:St μ) (r:Ex × St μ),execF P (callR P T) (drawF P (callR P T)) n m c st=some r→∃k,execF P (callF P T k) (drawF P (callF P T k)) n m c st=some r:=by
 have mono:=fun {k k':Nat} (hk:k≤k') (n:Nat) (m:Option Code) (c:Code) (st:St μ) (r:Ex × St μ) (h:execF P (callF P T k) (drawF P (callF P T k)) n m c st=some r)=>
  execF_mono (P:=P) (df:=drawF P (callF P T k)) (df':=drawF P (callF P T k')) (callF_mono k k' hk) (fun _ _ _=>drawF_mono (callF_mono k k' hk)) n n m c st r (Nat.le_refl _) h
 intro n
 induction n with
 | zero=>intro m c st r h;simp[execF]at h
 | succ n ih=>
  intro m c st r h
  cases m with
  | some b=>
   simp only[execF]at h
   split at h
   ·rename_i l st1 h1
    obtain⟨k1,h1⟩:=ih _ _ _ _ h1
    split at h
    ·rename_i rest hf
     obtain⟨k2,h2⟩:=ih _ _ _ _ h
     refine⟨max k1 k2,?_⟩
     simp only[execF]
     rw[mono (by omega) _ _ _ _ _ h1]
     simp only[hf]
     exact mono (by omega) _ _ _ _ _ h2
    ·rename_i hf
     refine⟨k1,?_⟩
     simp only[execF]
     rw[h1]
     simp only[hf]
     exact h
   ·rename_i hne
    obtain⟨k1,h1⟩:=ih _ _ _ _ h
    refine⟨k1,?_⟩
    simp only[execF]
    rw[h1]
    split
    ·rename_i l s he;cases he;exact(hne _ _ h).elim
    ·rfl
  | none=>
   cases c <;> simp only[execF]at h
   case skip=>exact⟨0,h⟩
   case label=>exact⟨0,h⟩
   case ret=>exact⟨0,h⟩
   case exit=>exact⟨0,h⟩
   case goto=>exact⟨0,h⟩
   case seq a b=>
    split at h
    ·rename_i st1 h1
     obtain⟨k1,h1⟩:=ih _ _ _ _ h1
     obtain⟨k2,h2⟩:=ih _ _ _ _ h
     refine⟨max k1 k2,?_⟩
     simp only[execF]
     rw[mono (by omega) _ _ _ _ _ h1]
     exact mono (by omega) _ _ _ _ _ h2
    ·rename_i hne
     obtain⟨k1,h1⟩:=ih _ _ _ _ h
     refine⟨k1,?_⟩
     simp only[execF]
     rw[h1]
     split
     ·rename_i s he;cases he;exact(hne _ h).elim
     ·rfl
   case cond x a b=>
    split at h
    ·rename_i hx
     obtain⟨k,h⟩:=ih _ _ _ _ h
     exact⟨k,by simp only[execF];rw[hx];exact h⟩
    ·rename_i hx
     obtain⟨k,h⟩:=ih _ _ _ _ h
     exact⟨k,by simp only[execF];rw[hx];exact h⟩
    ·cases h
   case block id b=>
    split at h
    ·rename_i i st1 h1
     obtain⟨k1,h1⟩:=ih _ _ _ _ h1
     refine⟨k1,?_⟩
     simp only[execF]
     rw[h1]
     exact h
    ·rename_i hne
     obtain⟨k1,h1⟩:=ih _ _ _ _ h
     refine⟨k1,?_⟩
     simp only[execF]
     rw[h1]
     split
     ·rename_i i s he;cases he;exact(hne _ _ h).elim
     ·rfl
   case loop b=>
    split at h
    ·rename_i st1 h1
     obtain⟨k1,h1⟩:=ih _ _ _ _ h1
     obtain⟨k2,h2⟩:=ih _ _ _ _ h
     refine⟨max k1 k2,?_⟩
     simp only[execF]
     rw[mono (by omega) _ _ _ _ _ h1]
     exact mono (by omega) _ _ _ _ _ h2
    ·rename_i hne
     obtain⟨k1,h1⟩:=ih _ _ _ _ h
     refine⟨k1,?_⟩
     simp only[execF]
     rw[h1]
     split
     ·rename_i s he;cases he;exact(hne _ h).elim
     ·rfl
   case scope b=>
    obtain⟨k,h⟩:=ih _ _ _ _ h
    exact⟨k,by simpa only[execF]using h⟩
   case region id ops draw=>
    split at h
    ·rename_i hdr
     simp only[Option.map_eq_some_iff]at h
     obtain⟨s,h1,h2⟩:=h
     obtain⟨k,h1⟩:=drawF_cont h1
     exact⟨k,by simp only[execF,hdr,if_true,h1,Option.map_some,h2]⟩
    ·rename_i hdr
     simp only[Option.map_eq_some_iff]at h
     obtain⟨s,h1,h2⟩:=h
     obtain⟨k,h1⟩:=runOps_cont _ _ _ h1
     exact⟨k,by simp only[execF,hdr,h1,Option.map_some,h2];simp⟩
   case rangeFunc=>
    obtain⟨k,h⟩:=range_cont h
    exact⟨k,by simp only[execF];exact h⟩
   all_goals cases h
theorem callR_eq{f:Nat}{args:List AV}{h:Hp μ}{fn:Func}{c:Code}(hf:P.funcs[f]? = some fn)(hb:fn.body=some c):callR P T (.func f) args h=match execR P T c ⟨argsT args,max args.length fn.ntmps,polIn T f h,none⟩with
  | some (.normal,st)=>(resultsAV P fn st.t st.h).map fun r=>polOut T f h (r,st.h)
  | some (.ret,st)=>(resultsAV P fn st.t st.h).map fun r=>polOut T f h (r,st.h)
  | _=>none:=by
 apply Option.ext;intro r
 constructor
 ·intro h1
  obtain⟨n,hn⟩:=callR_iff.1 h1
  cases n with
  | zero=>simp[callF]at hn
  | succ n=>
   simp only[callF,hf,hb]at hn
   have hle:LeC (callF P T n:Cf μ) (callR P T):=fun f args h r hx=>callR_iff.2 ⟨n,hx⟩
   have hx:=fun x (he:execF P (callF P T n) (drawF P (callF P T n)) n none c ⟨argsT args,max args.length fn.ntmps,polIn T f h,none⟩=some x)=>
    execR_iff.2 ⟨n,execF_mono (df:=drawF P (callF P T n)) (df':=drawF P (callR P T)) hle (fun _ _ _=>drawF_mono hle) n n none c _ x (Nat.le_refl _) he⟩
   split at hn
   ·rename_i st he;rw[hx _ he];exact hn
   ·rename_i st he;rw[hx _ he];exact hn
   ·cases hn
 ·intro h1
  have go:∀(e:Ex) (st:St μ),execR P T c ⟨argsT args,max args.length fn.ntmps,polIn T f h,none⟩=some (e,st)→(e=.normal∨e=.ret)→((resultsAV P fn st.t st.h).map fun r=>polOut T f h (r,st.h))=some r→callR P T (.func f) args h=some r:=by
   intro e st hx he hr
   obtain⟨n,hn⟩:=execR_iff.1 hx
   obtain⟨k,hk⟩:=exec_cont n _ _ _ _ hn
   refine callR_iff.2 ⟨max n k+1,?_⟩
   simp only[callF,hf,hb]
   rw[execF_mono (df:=drawF P (callF P T k)) (df':=drawF P (callF P T (max n k))) (callF_mono k (max n k) (by omega)) (fun _ _ _=>drawF_mono (callF_mono k (max n k) (by omega))) n (max n k) _ _ _ _ (by omega) hk]
   rcases he with rfl | rfl
   ·exact hr
   ·exact hr
  split at h1
  ·rename_i st he;exact go _ _ he (.inl rfl) h1
  ·rename_i st he;exact go _ _ he (.inr rfl) h1
  ·cases h1
theorem callR_round(o:Nat)(args:List AV)(h:Hp μ):callR P T (.yield o) args h=roundF (execR P T) o args h:=by
 apply Option.ext;intro r
 constructor
 ·intro h1
  obtain⟨n,hn⟩:=callR_iff.1 h1
  cases n with
  | zero=>simp[callF]at hn
  | succ n=>
   simp only[callF]at hn
   have hle:LeC (callF P T n:Cf μ) (callR P T):=fun f args h r hx=>callR_iff.2 ⟨n,hx⟩
   exact round_mono (fun c st x he=>execR_iff.2 ⟨n,execF_mono (df:=drawF P (callF P T n)) (df':=drawF P (callR P T)) hle (fun _ _ _=>drawF_mono hle) n n none c _ x (Nat.le_refl _) he⟩) hn
 ·intro h1
  have up:∀(c:Code) (st:St μ) (x:Ex × St μ),execR P T c st=some x→∃n,∀m,n≤m→execF P (callF P T m) (drawF P (callF P T m)) m none c st=some x:=by
   intro c st x hx
   obtain⟨n,hn⟩:=execR_iff.1 hx
   obtain⟨k,hk⟩:=exec_cont n _ _ _ _ hn
   exact⟨max n k,fun m hm=>execF_mono (df:=drawF P (callF P T k)) (df':=drawF P (callF P T m)) (callF_mono k m (by omega)) (fun _ _ _=>drawF_mono (callF_mono k m (by omega))) n m _ _ _ _ (by omega) hk⟩
  unfold roundF at h1
  split at h1
  ·rename_i l hl
   split at h1
   ·rename_i hc
    split at h1
    ·rename_i s1 e1
     simp only[Option.bind_eq_some_iff]at h1
     obtain⟨s2,q1,x,q2,q3⟩:=h1
     obtain⟨n1,u1⟩:=up _ _ _ e1
     obtain⟨n2,u2⟩:=up _ _ _ q2
     refine callR_iff.2 ⟨max n1 n2+1,?_⟩
     simp only[callF,roundF,hl,if_pos hc,u1 (max n1 n2) (by omega)]
     simp only[Option.bind_eq_some_iff]
     exact⟨s2,q1,x,u2 _ (by omega),q3⟩
    ·cases h1
   ·cases h1
  ·cases h1
end
end Go.Vn

/- The value machine: rules for proving what code comes to. No condition. -/
namespace Go.Vn
section
variable {P:Program} {T:Tab}
def W(P:Program)(T:Tab)(c:Code)(st:St Fm)(Q:Ex→St Fm→Prop):Prop:=∃e s,execR P T c st=some (e,s)∧Q e s
def WS(P:Program)(T:Tab)(b c:Code)(st:St Fm)(Q:Ex→St Fm→Prop):Prop:=∃e s,scopeR P T b c st=some (e,s)∧Q e s
def WO(P:Program)(T:Tab)(ops:Array Oper)(l:List Oper)(st:St Fm)(Q:St Fm→Prop):Prop:=∃s,runOps P (callR P T) ops l st=some s∧Q s
def A(P:Program)(T:Tab)(f:Fx)(args:List AV)(h:Hp Fm)(Q:AV→Hp Fm→Prop):Prop:=∃r h',callR P T f args h=some (r,h')∧Q r h'
def thenW(k:St Fm→Prop)(Q:Ex→St Fm→Prop):Ex→St Fm→Prop
 | .normal,s=>k s
 | e,s=>Q e s
@[simp] theorem thenW_normal(k:St Fm→Prop)(Q:Ex→St Fm→Prop)(s:St Fm):thenW k Q .normal s=k s:=rfl
@[simp] theorem thenW_exit(k:St Fm→Prop)(Q:Ex→St Fm→Prop)(i:Nat)(s:St Fm):thenW k Q (.exit i) s=Q (.exit i) s:=rfl
@[simp] theorem thenW_goto(k:St Fm→Prop)(Q:Ex→St Fm→Prop)(i:Nat)(s:St Fm):thenW k Q (.goto i) s=Q (.goto i) s:=rfl
@[simp] theorem thenW_ret(k:St Fm→Prop)(Q:Ex→St Fm→Prop)(s:St Fm):thenW k Q .ret s=Q .ret s:=rfl
def blockW(id:Nat)(Q:Ex→St Fm→Prop):Ex→St Fm→Prop
 | .exit i,s=>if i=id then Q .normal s else Q (.exit i) s
 | e,s=>Q e s
@[simp] theorem blockW_normal(id:Nat)(Q:Ex→St Fm→Prop)(s:St Fm):blockW id Q .normal s=Q .normal s:=rfl
@[simp] theorem blockW_exit(id i:Nat)(Q:Ex→St Fm→Prop)(s:St Fm):blockW id Q (.exit i) s=if i=id then Q .normal s else Q (.exit i) s:=rfl
@[simp] theorem blockW_goto(id i:Nat)(Q:Ex→St Fm→Prop)(s:St Fm):blockW id Q (.goto i) s=Q (.goto i) s:=rfl
@[simp] theorem blockW_ret(id:Nat)(Q:Ex→St Fm→Prop)(s:St Fm):blockW id Q .ret s=Q .ret s:=rfl
@[simp] theorem W_skip(st:St Fm)(Q:Ex→St Fm→Prop):W P T .skip st Q=Q .normal st:=by
 unfold W;rw[execR_skip];exact propext ⟨fun⟨_,_,h,q⟩=>(by cases h;exact q),fun q=>⟨_,_,rfl,q⟩⟩
@[simp] theorem W_label(l:Nat)(st:St Fm)(Q:Ex→St Fm→Prop):W P T (.label l) st Q=Q .normal st:=by
 unfold W;rw[execR_label];exact propext ⟨fun⟨_,_,h,q⟩=>(by cases h;exact q),fun q=>⟨_,_,rfl,q⟩⟩
@[simp] theorem W_ret(st:St Fm)(Q:Ex→St Fm→Prop):W P T .ret st Q=Q .ret st:=by
 unfold W;rw[execR_ret];exact propext ⟨fun⟨_,_,h,q⟩=>(by cases h;exact q),fun q=>⟨_,_,rfl,q⟩⟩
@[simp] theorem W_exit(i:Nat)(st:St Fm)(Q:Ex→St Fm→Prop):W P T (.exit i) st Q=Q (.exit i) st:=by
 unfold W;rw[execR_exit];exact propext ⟨fun⟨_,_,h,q⟩=>(by cases h;exact q),fun q=>⟨_,_,rfl,q⟩⟩
@[simp] theorem W_goto(l:Nat)(st:St Fm)(Q:Ex→St Fm→Prop):W P T (.goto l) st Q=Q (.goto l) st:=by
 unfold W;rw[execR_goto];exact propext ⟨fun⟨_,_,h,q⟩=>(by cases h;exact q),fun q=>⟨_,_,rfl,q⟩⟩
@[simp] theorem W_seq(a b:Code)(st:St Fm)(Q:Ex→St Fm→Prop):W P T (.seq a b) st Q=W P T a st (thenW (fun s=>W P T b s Q) Q):=by
 unfold W
 rw[execR_seq]
 apply propext
 constructor
 ·rintro⟨e,s,h,hq⟩
  split at h
  ·rename_i s1 h1;exact⟨.normal,s1,h1,e,s,h,hq⟩
  ·rename_i hne
   refine⟨e,s,h,?_⟩
   cases e with
   | normal=>exact(hne _ h).elim
   | _=>exact hq
 ·rintro⟨e,s,h,hq⟩
  cases e with
  | normal=>obtain⟨e2,s2,h2,hq2⟩:=hq;exact⟨e2,s2,by rw[h];exact h2,hq2⟩
  | _=>exact⟨_,s,by rw[h],hq⟩
@[simp] theorem W_block(id:Nat)(b:Code)(st:St Fm)(Q:Ex→St Fm→Prop):W P T (.block id b) st Q=W P T b st (blockW id Q):=by
 unfold W
 rw[execR_block]
 apply propext
 constructor
 ·rintro⟨e,s,h,hq⟩
  split at h
  ·rename_i i s1 h1
   split at h
   ·rename_i hi;cases h;exact⟨_,s,h1,by simp[hi,hq]⟩
   ·rename_i hi;cases h;exact⟨_,s,h1,by simp[hi,hq]⟩
  ·rename_i hne
   refine⟨e,s,h,?_⟩
   cases e with
   | exit i=>exact(hne _ _ h).elim
   | _=>exact hq
 ·rintro⟨e,s,h,hq⟩
  rw[h]
  cases e with
  | exit i=>
   simp only[blockW]at hq
   simp only
   split at hq
   ·rename_i hi;exact⟨.normal,s,by rw[if_pos hi],hq⟩
   ·rename_i hi;exact⟨.exit i,s,by rw[if_neg hi],hq⟩
  | _=>exact⟨_,s,rfl,hq⟩
@[simp] theorem W_region(id:Nat)(ops:Array Oper)(st:St Fm)(Q:Ex→St Fm→Prop):W P T (.region id ops false) st Q=WO P T ops ops.toList st (Q .normal):=by
 unfold W WO
 rw[execR_region]
 apply propext
 constructor
 ·rintro⟨e,s,h,hq⟩
  simp only[Option.map_eq_some_iff]at h
  obtain⟨s1,h1,h2⟩:=h
  cases h2
  exact⟨s,h1,hq⟩
 ·rintro⟨s,h,hq⟩;exact⟨.normal,s,by rw[h];rfl,hq⟩
theorem W_cond_true{x:Operand}{a b:Code}{st:St Fm}{Q:Ex→St Fm→Prop}(h:ev st.t x=.bool true):W P T (.cond x a b) st Q=W P T a st Q:=by unfold W;rw[execR_cond,h]
theorem W_cond_false{x:Operand}{a b:Code}{st:St Fm}{Q:Ex→St Fm→Prop}(h:ev st.t x=.bool false):W P T (.cond x a b) st Q=W P T b st Q:=by unfold W;rw[execR_cond,h]
@[simp] theorem WO_nil(ops:Array Oper)(st:St Fm)(Q:St Fm→Prop):WO P T ops [] st Q=Q st:=by simp[WO,runOps]
def effW(P:Program)(T:Tab)(ops:Array Oper)(rest:List Oper)(st:St Fm)(dst:Option Nat)(Q:St Fm→Prop):Option (Eff Fm)→Prop
 | some (.val v h)=>∃s,put { st with h:=h } dst v=some s∧WO P T ops rest s Q
 | some (.skip h)=>∃s,put { st with h:=h } dst .undef=some s∧WO P T ops rest s Q
 | some (.enter f args h)=>A P T f args h fun r h'=>∃s,put { st with h:=h' } dst r=some s∧WO P T ops rest s Q
 | none=>False
theorem WO_cons_do{ops:Array Oper}{o:Oper}{rest:List Oper}{st:St Fm}{Q:St Fm→Prop}(hw:want ops st.t o=some true):WO P T ops (o::rest) st Q=effW P T ops rest st o.dst Q (opEff P (ev st.t) st.h o):=by
 unfold WO
 simp only[runOps,stepOp,hw]
 apply propext
 constructor
 ·rintro⟨s,h,hq⟩
  split at h
  ·rename_i s1 h1
   split at h1
   ·rename_i v h' he;rw[he];exact⟨s1,h1,s,h,hq⟩
   ·rename_i h' he;rw[he];exact⟨s1,h1,s,h,hq⟩
   ·rename_i f args h' he
    rw[he]
    split at h1
    ·rename_i r h'' hc;exact⟨r,h'',hc,s1,h1,s,h,hq⟩
    ·cases h1
   ·cases h1
  ·cases h
 ·intro h
  generalize opEff P (ev st.t) st.h o=e at h
  cases e with
  | none=>exact h.elim
  | some e=>cases e with
   | val v h'=>obtain⟨s1,h1,s,h2,hq⟩:=h;exact⟨s,by simp only[h1,h2],hq⟩
   | skip h'=>obtain⟨s1,h1,s,h2,hq⟩:=h;exact⟨s,by simp only[h1,h2],hq⟩
   | enter f args h'=>obtain⟨r,h'',hc,s1,h1,s,h2,hq⟩:=h;exact⟨s,by simp only[hc,h1,h2],hq⟩
theorem WO_cons_no{ops:Array Oper}{o:Oper}{rest:List Oper}{st:St Fm}{Q:St Fm→Prop}(hw:want ops st.t o=some false):WO P T ops (o::rest) st Q=∃s,put st o.dst .undef=some s∧WO P T ops rest s Q:=by
 unfold WO
 simp only[runOps,stepOp,hw]
 apply propext
 constructor
 ·rintro⟨s,h,hq⟩
  split at h
  ·rename_i s1 h1;exact⟨s1,h1,s,h,hq⟩
  ·cases h
 ·rintro⟨s1,h1,s,h2,hq⟩;exact⟨s,by simp only[h1,h2],hq⟩
@[simp] theorem effW_val(ops:Array Oper)(rest:List Oper)(st:St Fm)(dst:Option Nat)(Q:St Fm→Prop)(v:AV)(h:Hp Fm):effW P T ops rest st dst Q (some (.val v h))=∃s,put { st with h:=h } dst v=some s∧WO P T ops rest s Q:=rfl
@[simp] theorem effW_skip(ops:Array Oper)(rest:List Oper)(st:St Fm)(dst:Option Nat)(Q:St Fm→Prop)(h:Hp Fm):effW P T ops rest st dst Q (some (.skip h))=∃s,put { st with h:=h } dst .undef=some s∧WO P T ops rest s Q:=rfl
@[simp] theorem effW_enter(ops:Array Oper)(rest:List Oper)(st:St Fm)(dst:Option Nat)(Q:St Fm→Prop)(f:Fx)(args:List AV)(h:Hp Fm) :
  effW P T ops rest st dst Q (some (.enter f args h))=A P T f args h fun r h'=>∃s,put { st with h:=h' } dst r=some s∧WO P T ops rest s Q:=rfl
theorem W.mono{c:Code}{st:St Fm}{Q R:Ex→St Fm→Prop}(h:W P T c st R)(hq:∀e s,R e s→Q e s):W P T c st Q:=let⟨e,s,h1,h2⟩:=h;⟨e,s,h1,hq e s h2⟩
theorem WO.mono{ops:Array Oper}{l:List Oper}{st:St Fm}{Q R:St Fm→Prop}(h:WO P T ops l st R)(hq:∀s,R s→Q s):WO P T ops l st Q:=let⟨s,h1,h2⟩:=h;⟨s,h1,hq s h2⟩
theorem A.mono{f:Fx}{args:List AV}{h:Hp Fm}{Q R:AV→Hp Fm→Prop}(ha:A P T f args h R)(hq:∀r h',R r h'→Q r h'):A P T f args h Q:=let⟨r,h',h1,h2⟩:=ha;⟨r,h',h1,hq r h' h2⟩
theorem W_loop{b:Code}{st:St Fm}{Q:Ex→St Fm→Prop}(I:Nat→St Fm→Prop)(n:Nat)(h0:I n st)
  (hr:∀n s,I n s→W P T b s (thenW (fun s'=>∃m,m<n∧I m s') Q)):W P T (.loop b) st Q:=by
 induction n using Nat.strongRecOn generalizing st with
 | _ n ih=>
  obtain⟨e,s,h1,hq⟩:=hr n st h0
  unfold W
  rw[execR_loop,h1]
  cases e with
  | normal=>
   obtain⟨m,hm,hI⟩:=hq
   exact ih m hm hI
  | _=>exact⟨_,s,rfl,hq⟩
theorem W_loop_i{b:Code}{st:St Fm}{Q:Ex→St Fm→Prop}(h:W P T b st (thenW (fun s=>W P T (.loop b) s Q) Q)):W P T (.loop b) st Q:=by
 obtain⟨e,s,h1,hq⟩:=h
 unfold W
 rw[execR_loop,h1]
 cases e with
 | normal=>exact hq
 | _=>exact⟨_,s,rfl,hq⟩
def jumpW(P:Program)(T:Tab)(b:Code)(Q:Ex→St Fm→Prop):Ex→St Fm→Prop
 | .goto l,s=>match findLabel b l with
  | some rest=>WS P T b rest s Q
  | none=>Q (.goto l) s
 | e,s=>Q e s
theorem W_scope(b:Code)(st:St Fm)(Q:Ex→St Fm→Prop):W P T (.scope b) st Q=WS P T b b st Q:=by unfold W WS;rw[execR_scope]
theorem WS_run{b c:Code}{st:St Fm}{Q:Ex→St Fm→Prop}(h:W P T c st (jumpW P T b Q)):WS P T b c st Q:=by
 obtain⟨e,s,h1,hq⟩:=h
 unfold WS
 rw[scopeR_eq,h1]
 cases e with
 | goto l=>
  cases hf:findLabel b l with
  | some rest=>
   simp only[jumpW,hf]at hq ⊢
   exact hq
  | none=>
   simp only[jumpW,hf]at hq ⊢
   exact⟨_,s,rfl,hq⟩
 | _=>exact⟨_,s,rfl,hq⟩
@[simp] theorem jumpW_normal(b:Code)(Q:Ex→St Fm→Prop)(s:St Fm):jumpW P T b Q .normal s=Q .normal s:=rfl
@[simp] theorem jumpW_ret(b:Code)(Q:Ex→St Fm→Prop)(s:St Fm):jumpW P T b Q .ret s=Q .ret s:=rfl
@[simp] theorem jumpW_exit(b:Code)(Q:Ex→St Fm→Prop)(i:Nat)(s:St Fm):jumpW P T b Q (.exit i) s=Q (.exit i) s:=rfl
theorem jumpW_goto(b:Code)(Q:Ex→St Fm→Prop)(l:Nat)(s:St Fm):jumpW P T b Q (.goto l) s=match findLabel b l with | some rest=>WS P T b rest s Q | none=>Q (.goto l) s:=rfl
def endW(P:Program)(fn:Func)(Q:AV→Hp Fm→Prop):Ex→St Fm→Prop
 | .normal,s | .ret,s=>∃r,resultsAV P fn s.t s.h=some r∧Q r s.h
 | _,_=>False
@[simp] theorem endW_ret(fn:Func)(Q:AV→Hp Fm→Prop)(s:St Fm):endW P fn Q .ret s=∃r,resultsAV P fn s.t s.h=some r∧Q r s.h:=rfl
@[simp] theorem endW_normal(fn:Func)(Q:AV→Hp Fm→Prop)(s:St Fm):endW P fn Q .normal s=∃r,resultsAV P fn s.t s.h=some r∧Q r s.h:=rfl
theorem A_run{f:Nat}{args:List AV}{h:Hp Fm}{fn:Func}{c:Code}{Q:AV→Hp Fm→Prop}(hf:P.funcs[f]? = some fn)(hb:fn.body=some c)
  (hw:W P T c ⟨argsT args,max args.length fn.ntmps,polIn T f h,none⟩ (endW P fn fun r h'=>Q (polOut T f h (r,h')).1 (polOut T f h (r,h')).2)):A P T (.func f) args h Q:=by
 obtain⟨e,s,h1,hq⟩:=hw
 unfold A
 rw[callR_eq hf hb,h1]
 cases e with
 | normal=>obtain⟨r,h2,h3⟩:=hq;exact⟨_,_,by simp[h2],h3⟩
 | ret=>obtain⟨r,h2,h3⟩:=hq;exact⟨_,_,by simp[h2],h3⟩
 | exit i=>exact hq.elim
 | goto l=>exact hq.elim
theorem A_go{f:Nat}{args:List AV}{h:Hp Fm}{fn:Func}{c:Code}{Q:AV→Hp Fm→Prop}{n:Nat}(hf:P.funcs[f]? = some fn)(hb:fn.body=some c)(ht:T f=none)
  (hn:max args.length fn.ntmps=n) (hw:W P T c ⟨argsT args,n,h,none⟩ (endW P fn Q)):A P T (.func f) args h Q:=by
 subst hn
 refine A_run hf hb ?_
 simp only[polIn,polOut,ht]
 exact hw
theorem A_goT{f:Nat}{args:List AV}{h:Hp Fm}{fn:Func}{c:Code}{Q:AV→Hp Fm→Prop}{n:Nat}{p:TypeId→Bool}(hf:P.funcs[f]? = some fn)(hb:fn.body=some c)(ht:T f=some p)
  (hn:max args.length fn.ntmps=n) (hw:W P T c ⟨argsT args,n,{ h with pol:=p },none⟩ (endW P fn fun r h'=>Q (frz 3 r h').1 { (frz 3 r h').2 with pol:=h.pol })):A P T (.func f) args h Q:=by
 subst hn
 refine A_run hf hb ?_
 simp only[polIn,polOut,ht]
 exact hw
theorem A_round{o:Nat}{args:List AV}{h:Hp Fm}{l:ALoop Fm}{Q:AV→Hp Fm→Prop}(hl:Mp.get h.obj o=some (.loop l))(hc:args.length=l.params.size∧l.params.toList.all (· < l.nt)=true)
  (hw:W P T l.assign ⟨roundT l.t l.params.toList args,l.nt,h,some o⟩ fun e s1=>e=.normal∧∃s2,beginR o s1=some s2∧W P T l.body s2 fun e s3=>∃r h',endR o e s3=some (r,h')∧Q r h'):A P T (.yield o) args h Q:=by
 obtain⟨e,s1,h1,rfl,s2,h2,e3,s3,h3,r,h',h4,hq⟩:=hw
 refine⟨r,h',?_,hq⟩
 rw[callR_round]
 unfold roundF
 simp only[hl,if_pos hc,h1,h2,Option.bind_some,h3,h4]
theorem W_range_i{f:Operand}{ps:Array Nat}{a b:Code}{st:St Fm}{Q:Ex→St Fm→Prop}{g:Nat}{args:List AV}{h1:Hp Fm}(hr:roOk st=true)(he:rangeE P f ps a b st=some (g,args,h1))
  (h:A P T (.func g) args h1 fun r h2=>∃e s,rangeB st (r,h2)=some (e,s)∧Q e s):W P T (.rangeFunc f ps a b) st Q:=by
 obtain⟨r,h2,hc,e,s,hb,hq⟩:=h
 refine⟨e,s,execR_iff.2 ⟨1,?_⟩,hq⟩
 simp only[execF,rangeF,hr,he,Option.bind_some,hc,hb]
 simp
theorem W_draw{id:Nat}{ops:Array Oper}{st:St Fm}{Q:Ex→St Fm→Prop}{pln:Bool}{π:List Nat}(pl:List (Nat × Nat × List Nat))(hp:plan P ops=some (pln,π,pl))
  (h:∃tr s,trace P (callR P T) ops (inPlaces ops π) { st with h:=st.h.drew }=some tr∧(pl.all fun p=>p.2.2.all fun m=>readSame P ops tr p.1 p.2.1 m)=true∧tr.getLast? = some s∧Q .normal s):W P T (.region id ops true) st Q:=by
 obtain⟨tr,s,h1,h2,h3,h4⟩:=h
 refine⟨.normal,s,?_,h4⟩
 rw[execR_draw,drawF_eq P pl hp]
 simp only[drawG,h1,Option.bind_some,h2,if_true,h3,Option.map_some]
def WT(P:Program)(T:Tab)(ops:Array Oper)(l:List Oper)(st:St Fm)(acc:List (St Fm))(Q:List (St Fm)→Prop):Prop:=∃tr,trace P (callR P T) ops l st=some tr∧Q (acc.reverse++tr)
theorem WT_nil(ops:Array Oper)(st:St Fm)(acc:List (St Fm))(Q:List (St Fm)→Prop):WT P T ops [] st acc Q=Q (acc.reverse++[st]):=by simp[WT,trace]
def effT(P:Program)(T:Tab)(ops:Array Oper)(rest:List Oper)(st:St Fm)(dst:Option Nat)(acc:List (St Fm))(Q:List (St Fm)→Prop):Option (Eff Fm)→Prop
 | some (.val v h)=>∃s,put { st with h:=h } dst v=some s∧WT P T ops rest s (st::acc) Q
 | some (.skip h)=>∃s,put { st with h:=h } dst .undef=some s∧WT P T ops rest s (st::acc) Q
 | some (.enter f args h)=>A P T f args h fun r h'=>∃s,put { st with h:=h' } dst r=some s∧WT P T ops rest s (st::acc) Q
 | none=>False
theorem WT_step{ops:Array Oper}{o:Oper}{rest:List Oper}{st s:St Fm}{acc:List (St Fm)}{Q:List (St Fm)→Prop}(h1:stepOp P (callR P T) ops o st=some s)(h2:WT P T ops rest s (st::acc) Q):WT P T ops (o::rest) st acc Q:=by
 obtain⟨tr,h3,h4⟩:=h2
 refine⟨st::tr,by simp[trace,h1,h3],?_⟩
 simpa using h4
theorem WT_cons_do{ops:Array Oper}{o:Oper}{rest:List Oper}{st:St Fm}{acc:List (St Fm)}{Q:List (St Fm)→Prop}(hw:want ops st.t o=some true)(h:effT P T ops rest st o.dst acc Q (opEff P (ev st.t) st.h o)):WT P T ops (o::rest) st acc Q:=by
 generalize he:opEff P (ev st.t) st.h o=e at h
 cases e with
 | none=>exact h.elim
 | some e=>cases e with
  | val v h'=>obtain⟨s,h1,h2⟩:=h;exact WT_step (by simp only[stepOp,hw,he,h1]) h2
  | skip h'=>obtain⟨s,h1,h2⟩:=h;exact WT_step (by simp only[stepOp,hw,he,h1]) h2
  | enter f args h'=>obtain⟨r,h'',hc,s,h1,h2⟩:=h;exact WT_step (by simp only[stepOp,hw,he,hc,h1]) h2
theorem WT_cons_no{ops:Array Oper}{o:Oper}{rest:List Oper}{st:St Fm}{acc:List (St Fm)}{Q:List (St Fm)→Prop}(hw:want ops st.t o=some false)(h:∃s,put st o.dst .undef=some s∧WT P T ops rest s (st::acc) Q):WT P T ops (o::rest) st acc Q:=by
 obtain⟨s,h1,h2⟩:=h
 exact WT_step (by simp only[stepOp,hw,h1]) h2
theorem W_drawT{id:Nat}{ops:Array Oper}{st:St Fm}{Q:Ex→St Fm→Prop}{pln:Bool}{π:List Nat}(pl:List (Nat × Nat × List Nat))(hp:plan P ops=some (pln,π,pl))
  (h:WT P T ops (inPlaces ops π) { st with h:=st.h.drew } [] fun tr=>(pl.all fun p=>p.2.2.all fun m=>readSame P ops tr p.1 p.2.1 m)=true∧∃s,tr.getLast? = some s∧Q .normal s):W P T (.region id ops true) st Q:=by
 obtain⟨tr,h1,h2,s,h3,h4⟩:=h
 exact W_draw pl hp ⟨tr,s,h1,by simpa using h2,by simpa using h3,h4⟩
end
structure HX(S G:Nat→Prop)(h h':Hp Fm):Prop where
 no:h.no≤h'.no
 ng:h.ng≤h'.ng
 pol:h'.pol=h.pol
 obj:∀o,o<h.no→¬S o→Mp.get h'.obj o=Mp.get h.obj o
 len:∀g,g<h.ng→¬G g→Mp.get h'.len g=Mp.get h.len g
structure HE(h h':Hp Fm):Prop where
 no:h.no≤h'.no
 ng:h.ng≤h'.ng
 pol:h'.pol=h.pol
 obj:∀o,o<h.no→Mp.get h'.obj o=Mp.get h.obj o
 len:∀g,g<h.ng→Mp.get h'.len g=Mp.get h.len g
theorem HE.refl(h:Hp Fm):HE h h:=⟨Nat.le_refl _,Nat.le_refl _,rfl,fun _ _=>rfl,fun _ _=>rfl⟩
theorem HE.trans{a b c:Hp Fm}(h:HE a b)(k:HE b c):HE a c:=
 ⟨Nat.le_trans h.no k.no,Nat.le_trans h.ng k.ng,k.pol.trans h.pol,fun o ho=>(k.obj o (Nat.lt_of_lt_of_le ho h.no)).trans (h.obj o ho),fun g hg=>(k.len g (Nat.lt_of_lt_of_le hg h.ng)).trans (h.len g hg)⟩
theorem HE.new{a h:Hp Fm}(k:HE a h)(cs:AObj Fm):HE a { h with obj:=Mp.set h.obj h.no cs,no:=h.no+1 }:=
 k.trans ⟨by simp,Nat.le_refl _,rfl,fun o ho=>by simp only[Mp.get_set];rw[if_neg (by omega)],fun _ _=>rfl⟩
theorem HE.newSl{a h:Hp Fm}(k:HE a h)(n:Nat):HE a { h with len:=Mp.set h.len h.ng n,ng:=h.ng+1 }:=
 k.trans ⟨Nat.le_refl _,by simp,rfl,fun _ _=>rfl,fun g hg=>by simp only[Mp.get_set];rw[if_neg (by omega)]⟩
theorem HE.drew{a h:Hp Fm}(k:HE a h):HE a h.drew:=⟨k.no,k.ng,k.pol,k.obj,k.len⟩
theorem HE.set{a h:Hp Fm}(k:HE a h){o:Nat}(ho:a.no≤o)(x:AObj Fm):HE a { h with obj:=Mp.set h.obj o x }:=
 ⟨k.no,k.ng,k.pol,fun p hp=>by simp only[Mp.get_set];rw[if_neg (by omega)];exact k.obj p hp,k.len⟩
theorem HE.grow{a h:Hp Fm}(k:HE a h){g:Nat}(hg:a.ng≤g)(n:Nat):HE a { h with len:=Mp.set h.len g n }:=
 ⟨k.no,k.ng,k.pol,k.obj,fun p hp=>by simp only[Mp.get_set];rw[if_neg (by omega)];exact k.len p hp⟩
theorem HE.x{h h':Hp Fm}(k:HE h h')(S G:Nat→Prop):HX S G h h':=⟨k.no,k.ng,k.pol,fun o ho _=>k.obj o ho,fun g hg _=>k.len g hg⟩
theorem HX.refl(S G:Nat→Prop)(h:Hp Fm):HX S G h h:=(HE.refl h).x S G
theorem HX.trans{S G:Nat→Prop}{a b c:Hp Fm}(h:HX S G a b)(k:HX S G b c):HX S G a c:=
 ⟨Nat.le_trans h.no k.no,Nat.le_trans h.ng k.ng,k.pol.trans h.pol,fun o ho hs=>(k.obj o (Nat.lt_of_lt_of_le ho h.no) hs).trans (h.obj o ho hs),fun g hg hs=>(k.len g (Nat.lt_of_lt_of_le hg h.ng) hs).trans (h.len g hg hs)⟩
theorem HX.mono{S G S' G':Nat→Prop}{a b:Hp Fm}(h:HX S G a b)(hS:∀o,o<a.no→S o→S' o)(hG:∀g,g<a.ng→G g→G' g):HX S' G' a b:=
 ⟨h.no,h.ng,h.pol,fun o ho hs=>h.obj o ho fun k=>hs (hS o ho k),fun g hg hs=>h.len g hg fun k=>hs (hG g hg k)⟩
theorem HX.new{S G:Nat→Prop}{a h:Hp Fm}(k:HX S G a h)(cs:AObj Fm):HX S G a { h with obj:=Mp.set h.obj h.no cs,no:=h.no+1 }:=
 k.trans (((HE.refl h).new cs).x S G)
theorem HX.newSl{S G:Nat→Prop}{a h:Hp Fm}(k:HX S G a h)(n:Nat):HX S G a { h with len:=Mp.set h.len h.ng n,ng:=h.ng+1 }:=
 k.trans (((HE.refl h).newSl n).x S G)
theorem HX.drew{S G:Nat→Prop}{a h:Hp Fm}(k:HX S G a h):HX S G a h.drew:=⟨k.no,k.ng,k.pol,k.obj,k.len⟩
theorem HX.set{S G:Nat→Prop}{a h:Hp Fm}(k:HX S G a h){o:Nat}(ho:o<a.no→S o)(x:AObj Fm):HX S G a { h with obj:=Mp.set h.obj o x }:=
 ⟨k.no,k.ng,k.pol,fun p hp hs=>by simp only[Mp.get_set];rw[if_neg (fun e=>by subst e;exact hs (ho hp))];exact k.obj p hp hs,k.len⟩
theorem HX.grow{S G:Nat→Prop}{a h:Hp Fm}(k:HX S G a h){g:Nat}(hg:g<a.ng→G g)(n:Nat):HX S G a { h with len:=Mp.set h.len g n }:=
 ⟨k.no,k.ng,k.pol,k.obj,fun p hp hs=>by simp only[Mp.get_set];rw[if_neg (fun e=>by subst e;exact hs (hg hp))];exact k.len p hp hs⟩
section
variable {P:Program} {T:Tab} {ops:Array Oper} {o:Oper} {rest:List Oper} {st s:St Fm} {Q:St Fm→Prop} {QE:Ex→St Fm→Prop}
theorem W_seq_i{a b:Code}(h:W P T a st (thenW (fun s=>W P T b s QE) QE)):W P T (.seq a b) st QE:=by rw[W_seq];exact h
theorem W_block_i{id:Nat}{b:Code}(h:W P T b st (blockW id QE)):W P T (.block id b) st QE:=by rw[W_block];exact h
theorem W_region_i{id:Nat}{l:List Oper}(h:WO P T l.toArray l st (QE .normal)):W P T (.region id l.toArray false) st QE:=by rw[W_region];exact h
theorem W_skip_i(h:QE .normal st):W P T .skip st QE:=by rw[W_skip];exact h
theorem W_label_i{l:Nat}(h:QE .normal st):W P T (.label l) st QE:=by rw[W_label];exact h
theorem W_ret_i(h:QE .ret st):W P T .ret st QE:=by rw[W_ret];exact h
theorem W_exit_i{i:Nat}(h:QE (.exit i) st):W P T (.exit i) st QE:=by rw[W_exit];exact h
theorem W_goto_i{i:Nat}(h:QE (.goto i) st):W P T (.goto i) st QE:=by rw[W_goto];exact h
theorem W_scope_i{b:Code}(h:WS P T b b st QE):W P T (.scope b) st QE:=by rw[W_scope];exact h
theorem W_cond_t{x:Operand}{a b:Code}(h:ev st.t x=.bool true)(ha:W P T a st QE):W P T (.cond x a b) st QE:=by rw[W_cond_true h];exact ha
theorem W_cond_f{x:Operand}{a b:Code}(h:ev st.t x=.bool false)(ha:W P T b st QE):W P T (.cond x a b) st QE:=by rw[W_cond_false h];exact ha
theorem WO_nil_i(h:Q st):WO P T ops [] st Q:=by rw[WO_nil];exact h
theorem WO_no_i(hw:want ops st.t o=some false)(hp:put st o.dst .undef=some s)(h:WO P T ops rest s Q):WO P T ops (o::rest) st Q:=by rw[WO_cons_no hw];exact⟨s,hp,h⟩
theorem WO_val_i{v:AV}{h':Hp Fm}(hw:want ops st.t o=some true)(he:opEff P (ev st.t) st.h o=some (.val v h'))(hp:put { st with h:=h' } o.dst v=some s)(h:WO P T ops rest s Q):WO P T ops (o::rest) st Q:=by
 rw[WO_cons_do hw,he];exact⟨s,hp,h⟩
theorem WO_skip_i{h':Hp Fm}(hw:want ops st.t o=some true)(he:opEff P (ev st.t) st.h o=some (.skip h'))(hp:put { st with h:=h' } o.dst .undef=some s)(h:WO P T ops rest s Q):WO P T ops (o::rest) st Q:=by
 rw[WO_cons_do hw,he];exact⟨s,hp,h⟩
theorem WO_call_i{f:Fx}{args:List AV}{h':Hp Fm}(hw:want ops st.t o=some true)(he:opEff P (ev st.t) st.h o=some (.enter f args h'))(h:A P T f args h' fun r h''=>∃s,put { st with h:=h'' } o.dst r=some s∧WO P T ops rest s Q):WO P T ops (o::rest) st Q:=by
 rw[WO_cons_do hw,he];exact h
theorem WT_no_i{acc:List (St Fm)}{Q:List (St Fm)→Prop}(hw:want ops st.t o=some false)(hp:put st o.dst .undef=some s)(h:WT P T ops rest s (st::acc) Q):WT P T ops (o::rest) st acc Q:=WT_cons_no hw ⟨s,hp,h⟩
theorem WT_val_i{acc:List (St Fm)}{Q:List (St Fm)→Prop}{v:AV}{h':Hp Fm}(hw:want ops st.t o=some true)(he:opEff P (ev st.t) st.h o=some (.val v h'))(hp:put { st with h:=h' } o.dst v=some s)(h:WT P T ops rest s (st::acc) Q):WT P T ops (o::rest) st acc Q:=
 WT_cons_do hw (by rw[he];exact⟨s,hp,h⟩)
theorem WT_skip_i{acc:List (St Fm)}{Q:List (St Fm)→Prop}{h':Hp Fm}(hw:want ops st.t o=some true)(he:opEff P (ev st.t) st.h o=some (.skip h'))(hp:put { st with h:=h' } o.dst .undef=some s)(h:WT P T ops rest s (st::acc) Q):WT P T ops (o::rest) st acc Q:=
 WT_cons_do hw (by rw[he];exact⟨s,hp,h⟩)
theorem WT_call_i{acc:List (St Fm)}{Q:List (St Fm)→Prop}{f:Fx}{args:List AV}{h':Hp Fm}(hw:want ops st.t o=some true)(he:opEff P (ev st.t) st.h o=some (.enter f args h'))
  (h:A P T f args h' fun r h''=>∃s,put { st with h:=h'' } o.dst r=some s∧WT P T ops rest s (st::acc) Q):WT P T ops (o::rest) st acc Q:=
 WT_cons_do hw (by rw[he];exact h)
theorem WT_nil_i{acc:List (St Fm)}{Q:List (St Fm)→Prop}(h:Q (acc.reverse++[st])):WT P T ops [] st acc Q:=by rw[WT_nil];exact h
theorem thenW_n{k:St Fm→Prop}(h:k s):thenW k QE .normal s:=h
theorem thenW_e{k:St Fm→Prop}{e:Ex}(hne:e≠.normal)(h:QE e s):thenW k QE e s:=by cases e <;> first | exact h | exact(hne rfl).elim
theorem blockW_n{id:Nat}(h:QE .normal s):blockW id QE .normal s:=h
theorem blockW_x{id:Nat}(h:QE .normal s):blockW id QE (.exit id) s:=by simp only[blockW,if_true];exact h
theorem blockW_y{id i:Nat}(hi:i≠id)(h:QE (.exit i) s):blockW id QE (.exit i) s:=by simp only[blockW,hi,if_false];exact h
theorem blockW_r{id:Nat}(h:QE .ret s):blockW id QE .ret s:=h
theorem blockW_g{id l:Nat}(h:QE (.goto l) s):blockW id QE (.goto l) s:=h
theorem endW_n{fn:Func}{Q:AV→Hp Fm→Prop}{r:AV}(h1:resultsAV P fn s.t s.h=some r)(h2:Q r s.h):endW P fn Q .normal s:=⟨r,h1,h2⟩
theorem endW_r{fn:Func}{Q:AV→Hp Fm→Prop}{r:AV}(h1:resultsAV P fn s.t s.h=some r)(h2:Q r s.h):endW P fn Q .ret s:=⟨r,h1,h2⟩
end
attribute [simp] want opEff binH isPtrT put tget_set argsT_get ev vals valh ofVal ofScalar binAV intBin shiftBin strBin unAV resultsAV resultV Mp.get_set newRowAV loadAV storeAV
@[simp 10] theorem partAV_t(n:Nat)(a:AV)(cs:List AV)(off:Nat):partAV true n (a::cs) off=if off+n≤(a::cs).length then some (.agg (((a::cs).drop off).take n))else none:=rfl
@[simp 10] theorem partAV_f(n:Nat)(a:AV)(cs:List AV)(off:Nat):partAV false n (a::cs) off=(a::cs)[off]? := rfl
@[simp 10] theorem splice_eq(a:AV)(cs:List AV)(off:Nat)(vs:List AV):splice (a::cs) off vs=(a::cs).take off++vs++(a::cs).drop (off+vs.length):=rfl
attribute [simp] fieldAddrAV fieldPlaceAV minmax enterFn newSl buildAV buildSliceAV setEls fillAV
@[simp] theorem builtin_len{P:Program}{h:Hp Fm}{ts:Array TypeId}{x:AV}(hx:∀o,x≠.mp o):builtinAV P h .len ts [x]=(ts[0]?).bind fun t=>vals h (lenAV P t x):=by
 cases x <;> first | rfl | exact(hx _ rfl).elim
@[simp] theorem builtin_lenm{P:Program}{h:Hp Fm}{ts:Array TypeId}{o:Nat}:builtinAV P h .len ts [.mp o]=(ts[0]?).bind fun t=>vals h (lenMapAV P h t o):=rfl
@[simp] theorem builtin_append{P:Program}{h:Hp Fm}{ts:Array TypeId}{s x:AV}:builtinAV P h .append ts [s,x]=(ts[0]?).bind fun t1=>(ts[1]?).bind fun t2=>valh (appendAV P h t1 t2 s x):=rfl
@[simp] theorem builtin_min{P:Program}{h:Hp Fm}{ts:Array TypeId}{l:List AV}:builtinAV P h .min ts l=vals h (Vn.minmax false l):=by unfold builtinAV;rfl
@[simp] theorem builtin_max{P:Program}{h:Hp Fm}{ts:Array TypeId}{l:List AV}:builtinAV P h .max ts l=vals h (Vn.minmax true l):=by unfold builtinAV;rfl
@[simp] theorem builtin_cap{P:Program}{h:Hp Fm}{ts:Array TypeId}{x:AV}:builtinAV P h .cap ts [x]=(ts[0]?).bind fun t=>vals h (capAV P t x):=rfl
@[simp] theorem builtin_copy{P:Program}{h:Hp Fm}{ts:Array TypeId}{d s:AV}:builtinAV P h .copy ts [d,s]=(ts[0]?).bind fun t=>valh (copyAV P h t d s):=rfl
@[simp] theorem builtin_clear{P:Program}{h:Hp Fm}{ts:Array TypeId}{d:AV}:builtinAV P h .clear ts [d]=(ts[0]?).bind fun t=>valh (clearAV P h t d):=rfl
@[simp] theorem builtin_delete{P:Program}{h:Hp Fm}{ts:Array TypeId}{m k:AV}:builtinAV P h .delete ts [m,k]=(ts[0]?).bind fun t=>valh (deleteAV P h t m k):=rfl
def SV(sz:Nat)(xs:List AV)(v:AV):Prop:=(v=.nils∧xs=[])∨(∃g off cp,v=.sl g off sz cp xs)∨∃c,v=.esl c∧xs=[]
theorem SV.len{P:Program}{t e:TypeId}{sz:Nat}{xs:List AV}{v:AV}(h:SV sz xs v)(hu:P.underlying t=some (.slice e)):lenAV P t v=some (.int .i64 xs.length):=by
 rcases h with⟨rfl,rfl⟩ | ⟨g,off,cp,rfl⟩ | ⟨c,rfl,rfl⟩ <;> simp[lenAV,hu]
theorem SV.nm{sz:Nat}{xs:List AV}{v:AV}(h:SV sz xs v)(o:Nat):v≠.mp o:=by
 rcases h with⟨rfl,_⟩ | ⟨_,_,_,rfl⟩ | ⟨_,rfl,_⟩ <;> simp
theorem SV.idx{P:Program}{t e:TypeId}{sz:Nat}{xs:List AV}{v:AV}(h:SV sz xs v)(hu:P.underlying t=some (.slice e))(hs:tsize P e=some sz){k:IntKind}{i:Int}(h0:0≤i)(h1:i.toNat<xs.length) :
  indexAddrAV P t v (.int k i)=some (.el xs[i.toNat] 0):=by
 rcases h with⟨rfl,rfl⟩ | ⟨g,off,cp,rfl⟩ | ⟨c,rfl,rfl⟩
 ·simp at h1
 ·simp[indexAddrAV,hu,hs,h0,h1]
 ·simp at h1
theorem SV.take{P:Program}{t e:TypeId}{sz:Nat}{xs:List AV}{v:AV}(h:SV sz xs v)(hu:P.underlying t=some (.slice e))(hs:tsize P e=some sz){k:IntKind}{i:Int}(h0:0≤i)(h1:i≤xs.length) :
  ∃r,sliceAV P t v none (some (.int k i)) none=some r∧SV sz (xs.take i.toNat) r:=by
 rcases h with⟨rfl,rfl⟩ | ⟨g,off,cp,rfl⟩ | ⟨c,rfl,rfl⟩
 ·have:i=0:=by simp at h1;omega
  subst this
  exact⟨.nils,by simp[sliceAV,hu,hs,obound,bound],.inl ⟨rfl,by simp⟩⟩
 ·exact⟨_,by simp[sliceAV,hu,hs,obound,bound,h0,h1];exact⟨rfl,rfl,rfl⟩,.inr (.inl ⟨_,_,_,rfl⟩)⟩
 ·have:i=0:=by simp at h1;omega
  subst this
  exact⟨.esl c,by simp[sliceAV,hu,hs,obound,bound],.inr (.inr ⟨c,rfl,by simp⟩)⟩
end Go.Vn
namespace Go.Vn
@[simp] theorem cells_bool(b:Bool):(AV.bool b).cells=[AV.bool b]:=rfl
@[simp] theorem isCell_bool(b:Bool):(AV.bool b).isCell=true:=rfl
@[simp] theorem cells_int(k:IntKind)(n:Int):(AV.int k n).cells=[AV.int k n]:=rfl
@[simp] theorem isCell_int(k:IntKind)(n:Int):(AV.int k n).isCell=true:=rfl
@[simp] theorem cells_flt(k:FloatKind)(n:Nat):(AV.flt k n).cells=[AV.flt k n]:=rfl
@[simp] theorem isCell_flt(k:FloatKind)(n:Nat):(AV.flt k n).isCell=true:=rfl
@[simp] theorem cells_str(s:List UInt8):(AV.str s).cells=[AV.str s]:=rfl
@[simp] theorem isCell_str(s:List UInt8):(AV.str s).isCell=true:=rfl
@[simp] theorem cells_nilp  : (AV.nilp ).cells=[AV.nilp ]:=rfl
@[simp] theorem isCell_nilp  : (AV.nilp ).isCell=true:=rfl
@[simp] theorem cells_ptr(o f:Nat):(AV.ptr o f).cells=[AV.ptr o f]:=rfl
@[simp] theorem isCell_ptr(o f:Nat):(AV.ptr o f).isCell=true:=rfl
@[simp] theorem cells_el(v:AV)(f:Nat):(AV.el v f).cells=[AV.el v f]:=rfl
@[simp] theorem isCell_el(v:AV)(f:Nat):(AV.el v f).isCell=true:=rfl
@[simp] theorem cells_nils  : (AV.nils ).cells=[AV.nils ]:=rfl
@[simp] theorem isCell_nils  : (AV.nils ).isCell=true:=rfl
@[simp] theorem cells_esl(c:Nat):(AV.esl c).cells=[AV.esl c]:=rfl
@[simp] theorem isCell_esl(c:Nat):(AV.esl c).isCell=true:=rfl
@[simp] theorem cells_rs(a b c:Nat)(g:Bool)(d e:Nat):(AV.rs a b c g d e).cells=[AV.rs a b c g d e]:=rfl
@[simp] theorem isCell_rs(a b c:Nat)(g:Bool)(d e:Nat):(AV.rs a b c g d e).isCell=true:=rfl
@[simp] theorem cells_yl(a:Nat):(AV.yl a).cells=[AV.yl a]:=rfl
@[simp] theorem isCell_yl(a:Nat):(AV.yl a).isCell=true:=rfl
@[simp] theorem cells_sl(g o z c:Nat)(l:List AV):(AV.sl g o z c l).cells=[AV.sl g o z c l]:=rfl
@[simp] theorem isCell_sl(g o z c:Nat)(l:List AV):(AV.sl g o z c l).isCell=true:=rfl
@[simp] theorem cells_nilm  : (AV.nilm ).cells=[AV.nilm ]:=rfl
@[simp] theorem isCell_nilm  : (AV.nilm ).isCell=true:=rfl
@[simp] theorem cells_mp(o:Nat):(AV.mp o).cells=[AV.mp o]:=rfl
@[simp] theorem isCell_mp(o:Nat):(AV.mp o).isCell=true:=rfl
@[simp] theorem cells_fn(f:Fn)(a b:List AV):(AV.fn f a b).cells=[AV.fn f a b]:=rfl
@[simp] theorem isCell_fn(f:Fn)(a b:List AV):(AV.fn f a b).isCell=true:=rfl
@[simp] theorem cells_nilf  : (AV.nilf ).cells=[AV.nilf ]:=rfl
@[simp] theorem isCell_nilf  : (AV.nilf ).isCell=true:=rfl
@[simp] theorem cells_ifc(t:Nat)(v:AV):(AV.ifc t v).cells=[AV.ifc t v]:=rfl
@[simp] theorem isCell_ifc(t:Nat)(v:AV):(AV.ifc t v).isCell=true:=rfl
@[simp] theorem cells_nili  : (AV.nili ).cells=[AV.nili ]:=rfl
@[simp] theorem isCell_nili  : (AV.nili ).isCell=true:=rfl
@[simp] theorem cells_agg(l:List AV):(AV.agg l).cells=l:=rfl
@[simp] theorem isCell_agg(l:List AV):(AV.agg l).isCell=false:=rfl
@[simp] theorem isCell_undef:AV.undef.isCell=false:=rfl
@[simp] theorem isCell_bad:AV.bad.isCell=false:=rfl
end Go.Vn
namespace Go.Vn
def AC(h0 h:Hp Fm)(sz:Nat)(acc:List AV)(v:AV):Prop:=(v=.nils∧acc=[])∨∃g off cap,v=.sl g off sz cap acc∧Mp.get h.len g=some (off+acc.length)∧g<h.ng∧h0.ng≤g
theorem AC.sv{h0 h:Hp Fm}{sz:Nat}{acc:List AV}{v:AV}(k:AC h0 h sz acc v):SV sz acc v:=by
 rcases k with⟨a,b⟩ | ⟨g,off,cap,a,_⟩
 ·exact .inl ⟨a,b⟩
 ·exact .inr (.inl ⟨g,off,cap,a⟩)
theorem AC.of{h0 h h':Hp Fm}{sz:Nat}{acc:List AV}{v:AV}(k:AC h0 h sz acc v)(he:HE h h'):AC h0 h' sz acc v:=by
 rcases k with h | ⟨g,off,cap,a,b,c,d⟩
 ·exact .inl h
 ·exact .inr ⟨g,off,cap,a,(he.len g c).trans b,Nat.lt_of_lt_of_le c he.ng,d⟩
structure ElT(P:Program)(t e sz by_:Nat)(ag:Bool)(z:AV):Prop where
 u:P.underlying t=some (.slice e)
 s:tsize P e=some sz
 b:tbytes P e=some by_
 g:tagg P e=some ag
 zz:tzero P e=some z
 zl:z.cells.length=sz
 zc:z.cells.all AV.isCell=true
 one:ag=false→sz=1
 ps:0<sz
 pb:0<by_
theorem ElT.ok{P:Program}{t e sz by_:Nat}{ag:Bool}{z:AV}(k:ElT P t e sz by_ ag z):¬(sz=0∨by_=0∨z.cells.length≠sz∨z.cells.all AV.isCell=false∨(ag=false∧sz≠1)):=by
 have:=k.ps;have:=k.pb;have:=k.zl;have:=k.zc;have:=k.one
 rintro (h | h | h | h | ⟨h1,h2⟩)
 ·omega
 ·omega
 ·exact h k.zl
 ·rw[k.zc]at h;cases h
 ·exact h2 (k.one h1)
theorem SV.newEls{h:Hp Fm}{sz:Nat}{ag:Bool}{xs:List AV}{v:AV}(k:SV sz xs v):newEls h sz ag v=some xs:=by
 rcases k with⟨rfl,rfl⟩ | ⟨g,o,c,rfl⟩ | ⟨c,rfl,rfl⟩
 ·rfl
 ·simp[Vn.newEls]
 ·rfl
theorem AC.appN{P:Program}{t e sz by_:Nat}{ag:Bool}{z:AV}(et:ElT P t e sz by_ ag z){h0 h:Hp Fm}{acc new:List AV}{v x:AV}
  (k:AC h0 h sz acc v) (he:HE h0 h) (hp:h0.pol e=false) (hx:newEls h sz ag x=some new) (hl:(acc.length+new.length)*by_≤2 ^ 40) :
  ∃r h',appendAV P h t t v x=some (r,h')∧(AC h0 h' sz (acc++new) r∧HE h0 h'∧h'.obj=h.obj∧h'.no=h.no∧h.ng≤h'.ng):=by
 have hok:=et.ok
 have hd:¬(isIntD (.slice e)=true):=by simp[isIntD]
 have hpol:h.pol e=false:=by rw[he.pol];exact hp
 have base:appendAV P h t t v x=appendTo h e sz by_ ag z v new:=by
  unfold appendAV
  simp only[et.u,if_neg hd,et.s,et.g,et.b,et.zz,hx,Option.bind_some,if_neg hok]
 rw[base]
 unfold appendTo
 by_cases hn:new.length=0
 ·have:new=[]:=List.length_eq_zero_iff.mp hn
  subst this
  refine⟨v,h,?_,by simpa using k,he,rfl,rfl,Nat.le_refl _⟩
  rcases k with⟨rfl,rfl⟩ | ⟨g,off,cap,rfl,hf,hg,hn⟩
  ·simp
  ·simp
 ·have hn':new≠[]:=fun z=>hn (by simp[z])
  rcases k with⟨rfl,rfl⟩ | ⟨g,off,cap,rfl,hf,hg,hgn⟩
  ·have hl':new.length*by_≤1099511627776:=by simpa using hl
   refine⟨_,_,by simp[newSeq,hpol,Hp.drew,newSl,hl',hn'];exact⟨rfl,rfl⟩,?_,he.drew.newSl _,rfl,rfl,Nat.le_succ _⟩
   exact .inr ⟨h.ng,0,_,rfl,by simp[Mp.get_set,Hp.drew],by simp[Hp.drew],he.ng⟩
  ·have hl':(acc.length+new.length)*by_≤1099511627776:=by simpa using hl
   by_cases hc:cap<acc.length+new.length
   ·refine⟨_,_,by simp[newSeq,hpol,Hp.drew,newSl,hl',hn',hc];exact⟨rfl,rfl⟩,?_,he.drew.newSl _,rfl,rfl,Nat.le_succ _⟩
    exact .inr ⟨h.ng,0,_,rfl,by simp[Mp.get_set,Hp.drew],by simp[Hp.drew],he.ng⟩
   ·refine⟨_,_,by simp[hf,hl',hn',hc];exact⟨rfl,rfl⟩,?_,he.grow hgn _,rfl,rfl,Nat.le_refl _⟩
    exact .inr ⟨g,off,cap,rfl,by simp[Mp.get_set];omega,hg,hgn⟩
theorem AC.app{P:Program}{t e sz by_:Nat}{ag:Bool}{z:AV}(et:ElT P t e sz by_ ag z){h0 h:Hp Fm}{acc:List AV}{v x:AV}{g' o' c':Nat}
  (k:AC h0 h sz acc v) (he:HE h0 h) (hp:h0.pol e=false) (hl:(acc.length+1)*by_≤2 ^ 40) :
  ∃r h',appendAV P h t t v (.sl g' o' sz c' [x])=some (r,h')∧(AC h0 h' sz (acc++[x]) r∧HE h0 h'∧h'.obj=h.obj∧h'.no=h.no∧h.ng≤h'.ng):=
 AC.appN et k he hp (SV.newEls (.inr (.inl ⟨g',o',c',rfl⟩))) (by simpa using hl)
theorem app_then{P:Program}{h:Hp Fm}{t1 t2:Nat}{s x:AV}{R K:AV→Hp Fm→Prop}(h1:∃r h',appendAV P h t1 t2 s x=some (r,h')∧R r h')(h2:∀r h',R r h'→K r h'):∃r h',appendAV P h t1 t2 s x=some (r,h')∧K r h':=
 let⟨r,h',a,b⟩:=h1;⟨r,h',a,h2 r h' b⟩
theorem WO_app_i{P:Program}{T:Tab}{ops:Array Oper}{o:Oper}{rest:List Oper}{st:St Fm}{Q:St Fm→Prop}{c:Call}{s x:AV}{t1 t2:Nat}(hw:want ops st.t o=some true)(ho:o.op=.call c)(hb:c.callee=.builtin .append)
  (ha:c.args.toList.map (ev st.t)=[s,x]) (h1:c.argTypes[0]? = some t1) (h2:c.argTypes[1]? = some t2)
  (h:∃r h',appendAV P st.h t1 t2 s x=some (r,h')∧∃s',put { st with h:=h' } o.dst r=some s'∧WO P T ops rest s' Q):WO P T ops (o::rest) st Q:=by
 obtain⟨r,h',e1,s',e2,e3⟩:=h
 refine WO_val_i (v:=r) (h':=h') hw ?_ e2 e3
 simp only[opEff,ho,hb,builtinAV,ha,h1,h2,Option.bind_some,e1,valh,Option.map_some]
end Go.Vn
namespace Go.Vn
end Go.Vn
namespace Go.Vn
theorem W_draw_i{P:Program}{T:Tab}{id:Nat}{l:List Oper}{st:St Fm}{Q:Ex→St Fm→Prop}{pln:Bool}(π:List Nat)(pl:List (Nat × Nat × List Nat))(l2:List Oper)(hp:plan P l.toArray=some (pln,π,pl))(hl:inPlaces l.toArray π=l2)
  (h:WT P T l.toArray l2 { st with h:=st.h.drew } [] fun tr=>(pl.all fun p=>p.2.2.all fun m=>readSame P l.toArray tr p.1 p.2.1 m)=true∧∃s,tr.getLast? = some s∧Q .normal s):W P T (.region id l.toArray true) st Q:=by
 subst hl;exact W_drawT pl hp h
theorem W_draw_id{P:Program}{T:Tab}{id:Nat}{l:List Oper}{st:St Fm}{Q:Ex→St Fm→Prop}{pln:Bool}(π:List Nat)(pl:List (Nat × Nat × List Nat))(hp:plan P l.toArray=some (pln,π,pl))(hl:inPlaces l.toArray π=l)
  (h:WT P T l.toArray l { st with h:=st.h.drew } [] fun tr=>(pl.all fun p=>p.2.2.all fun m=>readSame P l.toArray tr p.1 p.2.1 m)=true∧∃s,tr.getLast? = some s∧Q .normal s):W P T (.region id l.toArray true) st Q:=
 W_draw_i π pl l hp hl h
end Go.Vn
namespace Go.Vn
theorem jumpW_r{P:Program}{T:Tab}{b:Code}{Q:Ex→St Fm→Prop}{s:St Fm}(h:Q .ret s):jumpW P T b Q .ret s:=h
theorem jumpW_n{P:Program}{T:Tab}{b:Code}{Q:Ex→St Fm→Prop}{s:St Fm}(h:Q .normal s):jumpW P T b Q .normal s:=h
theorem jumpW_x{P:Program}{T:Tab}{b:Code}{Q:Ex→St Fm→Prop}{s:St Fm}{i:Nat}(h:Q (.exit i) s):jumpW P T b Q (.exit i) s:=h
theorem jumpW_g{P:Program}{T:Tab}{b rest:Code}{Q:Ex→St Fm→Prop}{s:St Fm}{l:Nat}(hf:findLabel b l=some rest)(h:WS P T b rest s Q):jumpW P T b Q (.goto l) s:=by rw[jumpW_goto,hf];exact h
theorem W_scope_go{P:Program}{T:Tab}{b:Code}{st:St Fm}{Q:Ex→St Fm→Prop}(h:W P T b st (jumpW P T b Q)):W P T (.scope b) st Q:=W_scope_i (WS_run h)
end Go.Vn
namespace Go.Vn
theorem W_skip_seq{P:Program}{T:Tab}{c:Code}{st:St Fm}{Q:Ex→St Fm→Prop}(h:W P T (.seq .skip c) st Q):W P T c st Q:=by rw[W_seq,W_skip]at h;exact h
end Go.Vn
namespace Go.Vn
end Go.Vn
namespace Go.Vn
@[simp] theorem drew_obj(h:Hp Fm):h.drew.obj=h.obj:=rfl
@[simp] theorem drew_no(h:Hp Fm):h.drew.no=h.no:=rfl
@[simp] theorem drew_len(h:Hp Fm):h.drew.len=h.len:=rfl
@[simp] theorem drew_ng(h:Hp Fm):h.drew.ng=h.ng:=rfl
@[simp] theorem drew_pol(h:Hp Fm):h.drew.pol=h.pol:=rfl
@[simp] theorem drew_tape(h:Hp Fm):h.drew.tape=h.tape:=rfl
end Go.Vn

/- The value machine: steps, each by one rule. No condition. -/
namespace Go.Vn
class Rd (p:Prop) (q:outParam Prop):Prop where
 h:q→p
theorem vmR{p q:Prop}[i:Rd p q](h:q):p:=i.h h
class Rl (p:Prop) (q:outParam Prop):Prop where
 h:q→p
theorem vmL{p q:Prop}[i:Rl p q](h:q):p:=i.h h
def condC(q:Bool)(a b:Code):Code:=match q with | true=>a | false=>b
section
variable {P:Program} {T:Tab} {st:St Fm} {Q:Ex→St Fm→Prop}
instance{a b:Code}:Rd (W P T (.seq a b) st Q) (W P T a st (thenW (fun s=>W P T b s Q) Q)):=⟨W_seq_i⟩
instance{id:Nat}{b:Code}:Rd (W P T (.block id b) st Q) (W P T b st (blockW id Q)):=⟨W_block_i⟩
instance{id:Nat}{l:List Oper}:Rd (W P T (.region id l.toArray false) st Q) (WO P T l.toArray l st (Q .normal)):=⟨W_region_i⟩
instance:Rd (W P T .skip st Q) (Q .normal st):=⟨W_skip_i⟩
instance{l:Nat}:Rl (W P T (.label l) st Q) (Q .normal st):=⟨W_label_i⟩
instance:Rd (W P T .ret st Q) (Q .ret st):=⟨W_ret_i⟩
instance{i:Nat}:Rd (W P T (.exit i) st Q) (Q (.exit i) st):=⟨W_exit_i⟩
instance{i:Nat}:Rd (W P T (.goto i) st Q) (Q (.goto i) st):=⟨W_goto_i⟩
instance{b:Code}:Rd (W P T (.scope b) st Q) (W P T b st (jumpW P T b Q)):=⟨W_scope_go⟩
instance{a b:Code}:Rd (W P T (condC true a b) st Q) (W P T a st Q):=⟨fun h=>h⟩
instance{a b:Code}:Rd (W P T (condC false a b) st Q) (W P T b st Q):=⟨fun h=>h⟩
instance{b:Code}:Rd (jumpW P T b Q .ret st) (Q .ret st):=⟨jumpW_r⟩
instance{b:Code}:Rd (jumpW P T b Q .normal st) (Q .normal st):=⟨jumpW_n⟩
instance{b:Code}{i:Nat}:Rd (jumpW P T b Q (.exit i) st) (Q (.exit i) st):=⟨jumpW_x⟩
instance{id:Nat}:Rd (blockW id Q .normal st) (Q .normal st):=⟨blockW_n⟩
instance{id:Nat}:Rd (blockW id Q .ret st) (Q .ret st):=⟨blockW_r⟩
instance{id l:Nat}:Rd (blockW id Q (.goto l) st) (Q (.goto l) st):=⟨blockW_g⟩
instance{id:Nat}:Rd (blockW id Q (.exit id) st) (Q .normal st):=⟨blockW_x⟩
instance{k:St Fm→Prop}:Rd (thenW k Q .normal st) (k st):=⟨thenW_n⟩
instance{k:St Fm→Prop}:Rd (thenW k Q .ret st) (Q .ret st):=⟨thenW_e (by simp)⟩
instance{k:St Fm→Prop}{i:Nat}:Rd (thenW k Q (.exit i) st) (Q (.exit i) st):=⟨thenW_e (by simp)⟩
instance{k:St Fm→Prop}{i:Nat}:Rd (thenW k Q (.goto i) st) (Q (.goto i) st):=⟨thenW_e (by simp)⟩
instance{ops:Array Oper}{R:St Fm→Prop}:Rd (WO P T ops [] st R) (R st):=⟨WO_nil_i⟩
instance{ops:Array Oper}{acc:List (St Fm)}{R:List (St Fm)→Prop}:Rd (WT P T ops [] st acc R) (R (acc.reverse++[st])):=⟨WT_nil_i⟩
end
inductive Ib:AV→Bool→Prop where
 | t:Ib (.bool true) true
 | f:Ib (.bool false) false
theorem vmC{P:Program}{T:Tab}{t:Fm AV}{n:Nat}{h:Hp Fm}{ro:Option Nat}{x:Operand}{c b:Code}{Q:Ex→St Fm→Prop}{q:Bool}(a:Ib (ev t x) q)(k:W P T (condC q c b) ⟨t,n,h,ro⟩ Q):W P T (.cond x c b) ⟨t,n,h,ro⟩ Q:=by
 generalize hv:ev t x=v at a
 cases a with
 | t=>exact W_cond_t hv k
 | f=>exact W_cond_f hv k
def effZ(P:Program)(ops:Array Oper)(o:Oper)(t:Fm AV)(h:Hp Fm):Option (Eff Fm):=match want ops t o with
 | some true=>(match opEff P (ev t) h o with
  | some (.skip h')=>some (.val .undef h')
  | r=>r)
 | some false=>some (.val .undef h)
 | none=>none
theorem effZ_eq(P:Program)(ops:Array Oper)(o:Oper)(t:Fm AV)(h:Hp Fm):effZ P ops o t h=match want ops t o with
 | some true=>(match opEff P (ev t) h o with
  | some (.skip h')=>some (.val .undef h')
  | r=>r)
 | some false=>some (.val .undef h)
 | none=>none:=rfl
inductive Ez:Option (Eff Fm)→Eff Fm→Prop where
 | v {v:AV} {h:Hp Fm}:Ez (some (.val v h)) (.val v h)
 | c {f:Fx} {args:List AV} {h:Hp Fm}:Ez (some (.enter f args h)) (.enter f args h)
def contZ(P:Program)(T:Tab)(ops:Array Oper)(rest:List Oper)(dst:Option Nat)(t:Fm AV)(n:Nat)(ro:Option Nat)(Q:St Fm→Prop):Eff Fm→Prop
 | .val v h=>∃s,put ⟨t,n,h,ro⟩ dst v=some s∧WO P T ops rest s Q
 | .skip _=>False
 | .enter f args h=>A P T f args h fun r h'=>∃s,put ⟨t,n,h',ro⟩ dst r=some s∧WO P T ops rest s Q
def contT(P:Program)(T:Tab)(ops:Array Oper)(rest:List Oper)(dst:Option Nat)(t:Fm AV)(n:Nat)(ro:Option Nat)(h0:Hp Fm)(acc:List (St Fm))(Q:List (St Fm)→Prop):Eff Fm→Prop
 | .val v h=>∃s,put ⟨t,n,h,ro⟩ dst v=some s∧WT P T ops rest s (⟨t,n,h0,ro⟩::acc) Q
 | .skip _=>False
 | .enter f args h=>A P T f args h fun r h'=>∃s,put ⟨t,n,h',ro⟩ dst r=some s∧WT P T ops rest s (⟨t,n,h0,ro⟩::acc) Q
section
variable {P:Program} {T:Tab} {ops:Array Oper} {rest:List Oper} {dst:Option Nat} {op:Op} {ty:TypeId} {ps:String} {af:Array Edge} {gd:Option (Nat × Bool)} {t:Fm AV} {n:Nat} {h:Hp Fm} {ro:Option Nat} {Q:St Fm→Prop} {acc:List (St Fm)} {R:List (St Fm)→Prop} {r:Eff Fm}
theorem vmO(a:Ez (effZ P ops ⟨dst,op,ty,ps,af,gd⟩ t h) r)(k:contZ P T ops rest dst t n ro Q r):WO P T ops (⟨dst,op,ty,ps,af,gd⟩::rest) ⟨t,n,h,ro⟩ Q:=by
 unfold effZ at a
 split at a
 ·rename_i hw
  split at a
  ·rename_i h' he
   cases a
   obtain⟨s,h1,h2⟩:=k
   exact WO_skip_i hw he h1 h2
  ·generalize he:opEff P (ev t) h ⟨dst,op,ty,ps,af,gd⟩=e at a
   cases a with
   | v=>obtain⟨s,h1,h2⟩:=k;exact WO_val_i hw he h1 h2
   | c=>exact WO_call_i hw he k
 ·rename_i hw
  cases a
  obtain⟨s,h1,h2⟩:=k
  exact WO_no_i hw h1 h2
 ·cases a
theorem vmT(a:Ez (effZ P ops ⟨dst,op,ty,ps,af,gd⟩ t h) r)(k:contT P T ops rest dst t n ro h acc R r):WT P T ops (⟨dst,op,ty,ps,af,gd⟩::rest) ⟨t,n,h,ro⟩ acc R:=by
 unfold effZ at a
 split at a
 ·rename_i hw
  split at a
  ·rename_i h' he
   cases a
   obtain⟨s,h1,h2⟩:=k
   exact WT_skip_i hw he h1 h2
  ·generalize he:opEff P (ev t) h ⟨dst,op,ty,ps,af,gd⟩=e at a
   cases a with
   | v=>obtain⟨s,h1,h2⟩:=k;exact WT_val_i hw he h1 h2
   | c=>exact WT_call_i hw he k
 ·rename_i hw
  cases a
  obtain⟨s,h1,h2⟩:=k
  exact WT_no_i hw h1 h2
 ·cases a
theorem vmV{d:Nat}{v:AV}(hn:Nat.blt d n=true)(k:WO P T ops rest ⟨Mp.set t d v,n,h,ro⟩ Q):contZ P T ops rest (some d) t n ro Q (.val v h):=
 ⟨_,by simp[put,Nat.blt_eq.mp hn],k⟩
theorem vmW{d:Nat}{v:AV}{h0:Hp Fm}(hn:Nat.blt d n=true)(k:WT P T ops rest ⟨Mp.set t d v,n,h,ro⟩ (⟨t,n,h0,ro⟩::acc) R):contT P T ops rest (some d) t n ro h0 acc R (.val v h):=
 ⟨_,by simp[put,Nat.blt_eq.mp hn],k⟩
instance{v:AV}:Rd (contZ P T ops rest none t n ro Q (.val v h)) (WO P T ops rest ⟨t,n,h,ro⟩ Q):=⟨fun k=>⟨_,rfl,k⟩⟩
instance{v:AV}{h0:Hp Fm}:Rd (contT P T ops rest none t n ro h0 acc R (.val v h)) (WT P T ops rest ⟨t,n,h,ro⟩ (⟨t,n,h0,ro⟩::acc) R):=⟨fun k=>⟨_,rfl,k⟩⟩
instance{f:Fx}{args:List AV}:Rd (contZ P T ops rest dst t n ro Q (.enter f args h)) (A P T f args h fun r h'=>∃s,put ⟨t,n,h',ro⟩ dst r=some s∧WO P T ops rest s Q):=⟨fun k=>k⟩
instance{f:Fx}{args:List AV}{h0:Hp Fm}:Rd (contT P T ops rest dst t n ro h0 acc R (.enter f args h)) (A P T f args h fun r h'=>∃s,put ⟨t,n,h',ro⟩ dst r=some s∧WT P T ops rest s (⟨t,n,h0,ro⟩::acc) R):=⟨fun k=>k⟩
end
attribute [simp] effZ_eq roundT
@[simp] theorem conv_int{P:Program}{h:Hp Fm}{s d:TypeId}{k k1 k2:IntKind}{n:Int}(hs:P.underlying s=some (.int k1))(hd:P.underlying d=some (.int k2)):convAV P h s d (.int k n)=some (.int k2 (k2.wrap n),h):=by simp[convAV,hs,hd]
@[simp high] theorem valh_mk(v:AV)(h:Hp Fm):valh (some (v,h))=some (Eff.val v h):=rfl
section
variable {P:Program} {h:Hp Fm} {t:TypeId} {o a p b:Nat}
@[simp] theorem binP_eq:binP P h .eql t (.ptr o a) (.ptr p b)=(ptrEqAV h o a p b).map .bool:=rfl
@[simp] theorem binP_ne:binP P h .neq t (.ptr o a) (.ptr p b)=(ptrEqAV h o a p b).map fun q=>.bool (!q):=rfl
@[simp] theorem binP_en:binP P h .eql t (.ptr o a) .nilp=binAV P .eql t (.ptr o a) .nilp:=rfl
@[simp] theorem binP_ne2:binP P h .eql t .nilp (.ptr o a)=binAV P .eql t .nilp (.ptr o a):=rfl
@[simp] theorem binP_nn:binP P h .eql t .nilp .nilp=binAV P .eql t .nilp .nilp:=rfl
@[simp] theorem binP_xn:binP P h .neq t (.ptr o a) .nilp=binAV P .neq t (.ptr o a) .nilp:=rfl
@[simp] theorem binP_xn2:binP P h .neq t .nilp (.ptr o a)=binAV P .neq t .nilp (.ptr o a):=rfl
@[simp] theorem binP_xnn:binP P h .neq t .nilp .nilp=binAV P .neq t .nilp .nilp:=rfl
@[simp] theorem ptrEq_same:ptrEqAV h o a o b=some (decide (a=b)):=by simp[ptrEqAV]
theorem ptrEq_diff{x y:List AV}(hne:o≠p)(h1:Mp.get h.obj o=some (.row x))(h2:Mp.get h.obj p=some (.row y)):ptrEqAV h o a p b=some false:=by simp[ptrEqAV,hne,h1,h2]
end
theorem W_heap{P:Program}{T:Tab}{c:Code}{t:Fm AV}{n:Nat}{h:Hp Fm}{ro:Option Nat}{Q:Ex→St Fm→Prop}(k:∀h',h'=h→W P T c ⟨t,n,h',ro⟩ Q):W P T c ⟨t,n,h,ro⟩ Q:=k h rfl
theorem WO_heap{P:Program}{T:Tab}{ops:Array Oper}{l:List Oper}{t:Fm AV}{n:Nat}{h:Hp Fm}{ro:Option Nat}{Q:St Fm→Prop}(k:∀h',h'=h→WO P T ops l ⟨t,n,h',ro⟩ Q):WO P T ops l ⟨t,n,h,ro⟩ Q:=k h rfl
theorem A_heap{P:Program}{T:Tab}{f:Fx}{args:List AV}{h:Hp Fm}{Q:AV→Hp Fm→Prop}(k:∀h',h'=h→A P T f args h' Q):A P T f args h Q:=k h rfl
theorem cJ{a b:Prop}(x:a)(y:b):a∧b:=⟨x,y⟩
theorem vZ{G K:Prop}(k:K)(h:K→G:=by intro k;(repeat(first|with_reducible first|refine vmR ?_|refine vmV rfl ?_|refine vmW rfl ?_|refine vmL ?_|refine blockW_y (by decide) ?_|((with_reducible first|apply vmO|apply vmT|apply vmC);case a=>simp;with_reducible first|exact .v|exact .c|exact .t|exact .f)));exact k):G:=h k
theorem vF{F G K:Prop}(f:F)(k:K)(h:F→K→G:=by intro f k;(repeat(first|with_reducible first|refine vmR ?_|refine vmV rfl ?_|refine vmW rfl ?_|refine vmL ?_|refine blockW_y (by decide) ?_|((with_reducible first|apply vmO|apply vmT|apply vmC);case a=>simp[f];with_reducible first|exact .v|exact .c|exact .t|exact .f)));exact k):G:=h f k
theorem vP{α:Sort _}{p q:α→Prop}{x:α}(k:q x)(h:p x:=by simp;first | done | rfl):∃s,p s∧q s:=⟨x,h,k⟩
end Go.Vn

/- The value machine: slices that are rows, and grow. No condition. -/
namespace Go.Vn
def Fit(ag:Bool)(sz:Nat)(e:AV):Prop:=(ag=true∧∃cs,e=.agg cs∧cs.length=sz)∨(ag=false∧sz=1∧e.isCell=true∧e.cells=[e])
theorem Fit.len{ag:Bool}{sz:Nat}{e:AV}(h:Fit ag sz e):e.cells.length=sz:=by
 rcases h with⟨_,cs,rfl,h⟩ | ⟨_,rfl,_,h⟩
 ·exact h
 ·rw[h];rfl
theorem fits_len{ag:Bool}{sz:Nat}{els:List AV}(h:∀e∈els,Fit ag sz e):(els.flatMap AV.cells).length=els.length*sz:=by
 induction els with
 | nil=>simp
 | cons a l ih=>
  rw[List.flatMap_cons,List.length_append,ih (fun e he=>h e (List.mem_cons_of_mem _ he)),(h a (List.mem_cons_self ..)).len,List.length_cons,Nat.add_mul];omega
theorem chunk_fit{ag:Bool}{sz:Nat}(els J:List AV)(h:∀e∈els,Fit ag sz e):chunkAV ag sz els.length (els.flatMap AV.cells++J)=els:=by
 induction els with
 | nil=>rfl
 | cons a l ih=>
  have ha:=h a (List.mem_cons_self ..)
  have hl:=ha.len
  have hd:(a.cells++(l.flatMap AV.cells++J)).drop sz=l.flatMap AV.cells++J:=by rw[←hl,List.drop_left]
  have ht:(a.cells++(l.flatMap AV.cells++J)).take sz=a.cells:=by rw[←hl,List.take_left]
  simp only[List.flatMap_cons,List.length_cons,chunkAV,List.append_assoc,hd]
  rw[ih (fun e he=>h e (List.mem_cons_of_mem _ he))]
  rcases ha with⟨rfl,cs,rfl,_⟩ | ⟨rfl,rfl,_,hc⟩
  ·simp only[if_true,ht];rfl
  ·simp[hc]
structure RSat(h:Hp Fm)(sz:Nat)(els:List AV)(o cap:Nat):Prop where
 row:∃J,Mp.get h.obj o=some (.row (els.flatMap AV.cells++J))∧J.length=(cap-els.length)*sz
 cap:els.length≤cap
 on:o<h.no
def RS(lo:Nat)(h:Hp Fm)(sz:Nat)(ag:Bool)(els:List AV)(v:AV):Prop:=(v=.nils∧els=[])∨∃o cap,v=.rs o 0 sz ag els.length cap∧lo≤o∧RSat h sz els o cap
def isRow(v:AV)(q:Nat):Prop:=∃off sz ag n cap,v=.rs q off sz ag n cap
theorem RS.of{lo:Nat}{h h':Hp Fm}{sz:Nat}{ag:Bool}{els:List AV}{v:AV}{S G:Nat→Prop}(k:RS lo h sz ag els v)(hx:HX S G h h')(hs:∀q,isRow v q→¬S q):RS lo h' sz ag els v:=by
 rcases k with k | ⟨o,cap,rfl,hlo,⟨J,h1,h2⟩,hc,ho⟩
 ·exact .inl k
 ·exact .inr ⟨o,cap,rfl,hlo,⟨J,by rw[hx.obj o ho (hs o ⟨_,_,_,_,_,rfl⟩)];exact h1,h2⟩,hc,Nat.lt_of_lt_of_le ho hx.no⟩
theorem RS.newEls{lo:Nat}{h:Hp Fm}{sz:Nat}{ag:Bool}{els:List AV}{v:AV}(k:RS lo h sz ag els v)(hf:∀e∈els,Fit ag sz e)(h0:0<sz)(h1:ag=false→sz=1):newEls h sz ag v=some els:=by
 rcases k with⟨rfl,rfl⟩ | ⟨o,cap,rfl,hlo,⟨J,h2,h3⟩,hc,ho⟩
 ·rfl
 ·simp only[Vn.newEls,and_self,if_true,rsEls,h2]
  rw[if_pos ⟨h0,h1,by rw[List.length_append,fits_len hf];omega⟩,List.drop_zero,chunk_fit els J hf]
theorem RS.isCell{lo:Nat}{h:Hp Fm}{sz:Nat}{ag:Bool}{els:List AV}{v:AV}(k:RS lo h sz ag els v):v.isCell=true:=by
 rcases k with⟨rfl,_⟩ | ⟨_,_,rfl,_⟩ <;> rfl
theorem RS.cells{lo:Nat}{h:Hp Fm}{sz:Nat}{ag:Bool}{els:List AV}{v:AV}(k:RS lo h sz ag els v):v.cells=[v]:=by
 rcases k with⟨rfl,_⟩ | ⟨_,_,rfl,_⟩ <;> rfl
theorem grown_ge(h:Hp Fm)(need cap:Nat)(e:TypeId):need≤h.grown need cap e:=by
 unfold Hp.grown Question.cut
 exact Nat.le_add_right _ _
theorem RS.fresh{P:Program}{t e sz by_:Nat}{ag:Bool}{z:AV}(et:ElT P t e sz by_ ag z){lo:Nat}{h:Hp Fm}(hlo:lo≤h.no)(cap:Nat)(els:List AV)(hc:els.length≤cap) :
  RS lo (newRs h sz ag z.cells cap els).2 sz ag els (newRs h sz ag z.cells cap els).1:=by
 refine .inr ⟨h.no,cap,rfl,hlo,⟨(List.replicate (cap-els.length) z.cells).flatten,by simp only[newRs,Mp.get_set,if_true],?_⟩,hc,by simp[newRs]⟩
 have:∀n,((List.replicate n z.cells).flatten).length=n*sz:=by
  intro n
  induction n with
  | zero=>simp
  | succ n ih=>rw[List.replicate_succ,List.flatten_cons,List.length_append,ih,et.zl,Nat.add_mul];omega
 exact this _
theorem newRs_hx(S G:Nat→Prop)(h:Hp Fm)(sz:Nat)(ag:Bool)(zc:List AV)(cap:Nat)(els:List AV):HX S G h (newRs h sz ag zc cap els).2:=(HX.refl S G h).new _
theorem RS.appN{P:Program}{t e sz by_:Nat}{ag:Bool}{z:AV}(et:ElT P t e sz by_ ag z){lo:Nat}{h:Hp Fm}{acc new:List AV}{v x:AV}
  (k:RS lo h sz ag acc v) (hlo:lo≤h.no) (hp:h.pol e=true) (hx:Vn.newEls h sz ag x=some new) (hf:∀e∈acc,Fit ag sz e) (hg:∀e∈new,Fit ag sz e) (hl:(acc.length+new.length)*by_≤2 ^ 40) :
  ∃r h',appendAV P h t t v x=some (r,h')∧(RS lo h' sz ag (acc++new) r∧HX (isRow v) (fun _=>False) h h'∧h'.pol=h.pol∧(∀q,isRow r q→isRow v q∨h.no≤q)):=by
 have hok:=et.ok
 have hd:¬(isIntD (.slice e)=true):=by simp[isIntD]
 have base:appendAV P h t t v x=appendTo h e sz by_ ag z v new:=by
  unfold appendAV
  simp only[et.u,if_neg hd,et.s,et.g,et.b,et.zz,hx,Option.bind_some,if_neg hok]
 rw[base]
 unfold appendTo
 have hrow:∀{w q},isRow w q→isRow w q:=id
 rcases k with⟨rfl,rfl⟩ | ⟨o,cap,rfl,hlo',⟨J,h1,h2⟩,hc,ho⟩
 ·by_cases hn:new.length=0
  ·have:new=[]:=List.length_eq_zero_iff.mp hn
   subst this
   exact⟨.nils,h,by simp,.inl ⟨rfl,rfl⟩,HX.refl _ _ _,rfl,fun q hq=>.inl hq⟩
  ·have hl':new.length*by_≤2 ^ 40:=by simpa using hl
   have hpd:h.drew.pol e=true:=hp
   refine⟨(newRs h.drew sz ag z.cells (h.grown new.length 0 e) new).1,(newRs h.drew sz ag z.cells (h.grown new.length 0 e) new).2,by simp only[if_neg hn,if_pos hl',newSeq,if_pos hpd],RS.fresh et (h:=h.drew) hlo _ _ (grown_ge _ _ _ _),HX.trans ?_ (newRs_hx _ _ _ _ _ _ _ _),rfl,?_⟩
   ·exact(HX.refl _ _ h).drew
   ·rintro q ⟨_,_,_,_,_,he⟩
    injection he with he
    exact .inr (by rw[←he];exact Nat.le_refl _)
 ·by_cases hn:new.length=0
  ·have:new=[]:=List.length_eq_zero_iff.mp hn
   subst this
   refine⟨_,h,by simp;rfl,.inr ⟨o,cap,by simp,hlo',⟨J,by simpa using h1,by simpa using h2⟩,by simpa using hc,ho⟩,HX.refl _ _ _,rfl,?_⟩
   rintro q ⟨_,_,_,_,_,he⟩
   injection he with he
   exact .inl ⟨_,_,_,_,_,by rw[he]⟩
  ·by_cases hcc:cap<acc.length+new.length
   ·have hels:rsEls h o 0 sz ag acc.length=some acc:=by
     simp only[rsEls,h1]
     rw[if_pos ⟨et.ps,et.one,by rw[List.length_append,fits_len hf];omega⟩,List.drop_zero,chunk_fit acc J hf]
    refine⟨(newRs h.drew sz ag z.cells (h.grown (acc.length+new.length) cap e) (acc++new)).1,(newRs h.drew sz ag z.cells (h.grown (acc.length+new.length) cap e) (acc++new)).2,by simp only[ne_eq,not_true,or_self,if_false,if_neg hn,if_pos hl,if_pos hcc,hels,Option.map_some],RS.fresh et (h:=h.drew) hlo _ _ (by rw[List.length_append];exact grown_ge _ _ _ _),HX.trans ?_ (newRs_hx _ _ _ _ _ _ _ _),rfl,?_⟩
    ·exact(HX.refl _ _ h).drew
    ·rintro q ⟨_,_,_,_,_,he⟩
     injection he with he
     exact .inr (by rw[←he];exact Nat.le_refl _)
   ·have hlen:(acc.flatMap AV.cells++J).length=cap*sz:=by
     rw[List.length_append,fits_len hf,h2,←Nat.add_mul];congr 1;omega
    have hle:0+(acc.length+new.length)*sz≤(acc.flatMap AV.cells++J).length:=by
     rw[hlen,Nat.zero_add];exact Nat.mul_le_mul_right _ (by omega)
    refine⟨.rs o 0 sz ag (acc.length+new.length) cap,{ h with obj:=Mp.set h.obj o (.row (splice (acc.flatMap AV.cells++J) (0+acc.length*sz) (new.flatMap AV.cells))) },by simp only[ne_eq,not_true,or_self,if_false,if_neg hn,if_pos hl,if_neg hcc,h1,if_pos hle],.inr ⟨o,cap,by rw[List.length_append],hlo',⟨J.drop (new.flatMap AV.cells).length,?_,?_⟩,by rw[List.length_append];omega,ho⟩,(HX.refl _ _ h).set (fun _=>⟨_,_,_,_,_,rfl⟩) _,rfl,?_⟩
    ·simp only[Mp.get_set,if_true,splice,Nat.zero_add]
     have e1:(acc.flatMap AV.cells++J).take (acc.length*sz)=acc.flatMap AV.cells:=by rw[←fits_len hf,List.take_left]
     have e2:(acc.flatMap AV.cells++J).drop (acc.length*sz+(new.flatMap AV.cells).length)=J.drop (new.flatMap AV.cells).length:=by rw[←List.drop_drop,←fits_len hf,List.drop_left]
     rw[e1,e2,List.flatMap_append]
    ·rw[List.length_drop,h2,fits_len hg,List.length_append,←Nat.sub_mul];congr 1;omega
    ·rintro q ⟨_,_,_,_,_,he⟩
     injection he with he
     exact .inl ⟨_,_,_,_,_,by rw[he]⟩
end Go.Vn
