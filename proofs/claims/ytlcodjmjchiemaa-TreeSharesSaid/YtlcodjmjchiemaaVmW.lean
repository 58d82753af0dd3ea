/- The value machine: rules for proving what code comes to. No condition. -/
import Derived.Test.YtlcodjmjchiemaaVmLim
set_option linter.unusedSimpArgs false
set_option linter.unusedVariables false
namespace Go.Vm

section
variable {P : Program}

/-- Code comes to an end that fits. -/
def W (P : Program) (c : Code) (st : St Fm) (Q : Ex → St Fm → Prop) : Prop := ∃ e s, execR P c st = some (e, s) ∧ Q e s
/-- From within a scope. -/
def WS (P : Program) (b c : Code) (st : St Fm) (Q : Ex → St Fm → Prop) : Prop := ∃ e s, scopeR P b c st = some (e, s) ∧ Q e s
/-- Operations, one behind the other. -/
def WO (P : Program) (ops : Array Oper) (l : List Oper) (st : St Fm) (Q : St Fm → Prop) : Prop := ∃ s, runOps P (callR P) ops l st = some s ∧ Q s
/-- A call answers something that fits. -/
def A (P : Program) (f : Nat) (args : List AV) (h : Hp Fm) (Q : AV → Hp Fm → Prop) : Prop := ∃ r h', callR P f args h = some (r, h') ∧ Q r h'

def thenW (k : St Fm → Prop) (Q : Ex → St Fm → Prop) : Ex → St Fm → Prop
  | .normal, s => k s
  | e, s => Q e s
@[simp] theorem thenW_normal (k : St Fm → Prop) (Q : Ex → St Fm → Prop) (s : St Fm) : thenW k Q .normal s = k s := rfl
@[simp] theorem thenW_exit (k : St Fm → Prop) (Q : Ex → St Fm → Prop) (i : Nat) (s : St Fm) : thenW k Q (.exit i) s = Q (.exit i) s := rfl
@[simp] theorem thenW_goto (k : St Fm → Prop) (Q : Ex → St Fm → Prop) (i : Nat) (s : St Fm) : thenW k Q (.goto i) s = Q (.goto i) s := rfl
@[simp] theorem thenW_ret (k : St Fm → Prop) (Q : Ex → St Fm → Prop) (s : St Fm) : thenW k Q .ret s = Q .ret s := rfl

def blockW (id : Nat) (Q : Ex → St Fm → Prop) : Ex → St Fm → Prop
  | .exit i, s => if i = id then Q .normal s else Q (.exit i) s
  | e, s => Q e s
@[simp] theorem blockW_normal (id : Nat) (Q : Ex → St Fm → Prop) (s : St Fm) : blockW id Q .normal s = Q .normal s := rfl
@[simp] theorem blockW_exit (id i : Nat) (Q : Ex → St Fm → Prop) (s : St Fm) : blockW id Q (.exit i) s = if i = id then Q .normal s else Q (.exit i) s := rfl
@[simp] theorem blockW_goto (id i : Nat) (Q : Ex → St Fm → Prop) (s : St Fm) : blockW id Q (.goto i) s = Q (.goto i) s := rfl
@[simp] theorem blockW_ret (id : Nat) (Q : Ex → St Fm → Prop) (s : St Fm) : blockW id Q .ret s = Q .ret s := rfl

@[simp] theorem W_skip (st : St Fm) (Q : Ex → St Fm → Prop) : W P .skip st Q = Q .normal st := by
  unfold W; rw [execR_skip]; exact propext ⟨fun ⟨_, _, h, q⟩ => (by cases h; exact q), fun q => ⟨_, _, rfl, q⟩⟩
@[simp] theorem W_label (l : Nat) (st : St Fm) (Q : Ex → St Fm → Prop) : W P (.label l) st Q = Q .normal st := by
  unfold W; rw [execR_label]; exact propext ⟨fun ⟨_, _, h, q⟩ => (by cases h; exact q), fun q => ⟨_, _, rfl, q⟩⟩
@[simp] theorem W_ret (st : St Fm) (Q : Ex → St Fm → Prop) : W P .ret st Q = Q .ret st := by
  unfold W; rw [execR_ret]; exact propext ⟨fun ⟨_, _, h, q⟩ => (by cases h; exact q), fun q => ⟨_, _, rfl, q⟩⟩
@[simp] theorem W_exit (i : Nat) (st : St Fm) (Q : Ex → St Fm → Prop) : W P (.exit i) st Q = Q (.exit i) st := by
  unfold W; rw [execR_exit]; exact propext ⟨fun ⟨_, _, h, q⟩ => (by cases h; exact q), fun q => ⟨_, _, rfl, q⟩⟩
@[simp] theorem W_goto (l : Nat) (st : St Fm) (Q : Ex → St Fm → Prop) : W P (.goto l) st Q = Q (.goto l) st := by
  unfold W; rw [execR_goto]; exact propext ⟨fun ⟨_, _, h, q⟩ => (by cases h; exact q), fun q => ⟨_, _, rfl, q⟩⟩

@[simp] theorem W_seq (a b : Code) (st : St Fm) (Q : Ex → St Fm → Prop) : W P (.seq a b) st Q = W P a st (thenW (fun s => W P b s Q) Q) := by
  unfold W
  rw [execR_seq]
  apply propext
  constructor
  · rintro ⟨e, s, h, hq⟩
    split at h
    · rename_i s1 h1; exact ⟨.normal, s1, h1, e, s, h, hq⟩
    · rename_i hne
      refine ⟨e, s, h, ?_⟩
      cases e with
      | normal => exact (hne _ h).elim
      | _ => exact hq
  · rintro ⟨e, s, h, hq⟩
    cases e with
    | normal => obtain ⟨e2, s2, h2, hq2⟩ := hq; exact ⟨e2, s2, by rw [h]; exact h2, hq2⟩
    | _ => exact ⟨_, s, by rw [h], hq⟩

@[simp] theorem W_block (id : Nat) (b : Code) (st : St Fm) (Q : Ex → St Fm → Prop) : W P (.block id b) st Q = W P b st (blockW id Q) := by
  unfold W
  rw [execR_block]
  apply propext
  constructor
  · rintro ⟨e, s, h, hq⟩
    split at h
    · rename_i i s1 h1
      split at h
      · rename_i hi; cases h; exact ⟨_, s, h1, by simp [hi, hq]⟩
      · rename_i hi; cases h; exact ⟨_, s, h1, by simp [hi, hq]⟩
    · rename_i hne
      refine ⟨e, s, h, ?_⟩
      cases e with
      | exit i => exact (hne _ _ h).elim
      | _ => exact hq
  · rintro ⟨e, s, h, hq⟩
    rw [h]
    cases e with
    | exit i =>
      simp only [blockW] at hq
      simp only
      split at hq
      · rename_i hi; exact ⟨.normal, s, by rw [if_pos hi], hq⟩
      · rename_i hi; exact ⟨.exit i, s, by rw [if_neg hi], hq⟩
    | _ => exact ⟨_, s, rfl, hq⟩

@[simp] theorem W_region (id : Nat) (ops : Array Oper) (st : St Fm) (Q : Ex → St Fm → Prop) : W P (.region id ops false) st Q = WO P ops ops.toList st (Q .normal) := by
  unfold W WO
  rw [execR_region]
  apply propext
  constructor
  · rintro ⟨e, s, h, hq⟩
    simp only [Option.map_eq_some_iff] at h
    obtain ⟨s1, h1, h2⟩ := h
    cases h2
    exact ⟨s, h1, hq⟩
  · rintro ⟨s, h, hq⟩; exact ⟨.normal, s, by rw [h]; rfl, hq⟩

theorem W_cond_true {x : Operand} {a b : Code} {st : St Fm} {Q : Ex → St Fm → Prop} (h : ev st.t x = .bool true) : W P (.cond x a b) st Q = W P a st Q := by unfold W; rw [execR_cond, h]
theorem W_cond_false {x : Operand} {a b : Code} {st : St Fm} {Q : Ex → St Fm → Prop} (h : ev st.t x = .bool false) : W P (.cond x a b) st Q = W P b st Q := by unfold W; rw [execR_cond, h]
theorem W_cond_if {x : Operand} {a b : Code} {st : St Fm} {Q : Ex → St Fm → Prop} {q : Bool} (h : ev st.t x = .bool q) (ha : q = true → W P a st Q) (hb : q = false → W P b st Q) : W P (.cond x a b) st Q := by
  cases q with
  | true => rw [W_cond_true h]; exact ha rfl
  | false => rw [W_cond_false h]; exact hb rfl

@[simp] theorem WO_nil (ops : Array Oper) (st : St Fm) (Q : St Fm → Prop) : WO P ops [] st Q = Q st := by simp [WO, runOps]

/-- What an operation does, and what is behind it. -/
def effW (P : Program) (ops : Array Oper) (rest : List Oper) (st : St Fm) (dst : Option Nat) (Q : St Fm → Prop) : Option (Eff Fm) → Prop
  | some (.val v h) => ∃ s, put { st with h := h } dst v = some s ∧ WO P ops rest s Q
  | some (.skip h) => ∃ s, put { st with h := h } dst .undef = some s ∧ WO P ops rest s Q
  | some (.enter f args h) => A P f args h fun r h' => ∃ s, put { st with h := h' } dst r = some s ∧ WO P ops rest s Q
  | none => False

theorem WO_cons_do {ops : Array Oper} {o : Oper} {rest : List Oper} {st : St Fm} {Q : St Fm → Prop} (hw : want ops st.t o = some true) : WO P ops (o :: rest) st Q = effW P ops rest st o.dst Q (opEff P (ev st.t) st.h o) := by
  unfold WO
  simp only [runOps, stepOp, hw]
  apply propext
  constructor
  · rintro ⟨s, h, hq⟩
    split at h
    · rename_i s1 h1
      split at h1
      · rename_i v h' he; rw [he]; exact ⟨s1, h1, s, h, hq⟩
      · rename_i h' he; rw [he]; exact ⟨s1, h1, s, h, hq⟩
      · rename_i f args h' he
        rw [he]
        split at h1
        · rename_i r h'' hc; exact ⟨r, h'', hc, s1, h1, s, h, hq⟩
        · cases h1
      · cases h1
    · cases h
  · intro h
    generalize opEff P (ev st.t) st.h o = e at h
    cases e with
    | none => exact h.elim
    | some e => cases e with
      | val v h' => obtain ⟨s1, h1, s, h2, hq⟩ := h; exact ⟨s, by simp only [h1, h2], hq⟩
      | skip h' => obtain ⟨s1, h1, s, h2, hq⟩ := h; exact ⟨s, by simp only [h1, h2], hq⟩
      | enter f args h' => obtain ⟨r, h'', hc, s1, h1, s, h2, hq⟩ := h; exact ⟨s, by simp only [hc, h1, h2], hq⟩

theorem WO_cons_no {ops : Array Oper} {o : Oper} {rest : List Oper} {st : St Fm} {Q : St Fm → Prop} (hw : want ops st.t o = some false) : WO P ops (o :: rest) st Q = ∃ s, put st o.dst .undef = some s ∧ WO P ops rest s Q := by
  unfold WO
  simp only [runOps, stepOp, hw]
  apply propext
  constructor
  · rintro ⟨s, h, hq⟩
    split at h
    · rename_i s1 h1; exact ⟨s1, h1, s, h, hq⟩
    · cases h
  · rintro ⟨s1, h1, s, h2, hq⟩; exact ⟨s, by simp only [h1, h2], hq⟩

@[simp] theorem effW_val (ops : Array Oper) (rest : List Oper) (st : St Fm) (dst : Option Nat) (Q : St Fm → Prop) (v : AV) (h : Hp Fm) : effW P ops rest st dst Q (some (.val v h)) = ∃ s, put { st with h := h } dst v = some s ∧ WO P ops rest s Q := rfl
@[simp] theorem effW_skip (ops : Array Oper) (rest : List Oper) (st : St Fm) (dst : Option Nat) (Q : St Fm → Prop) (h : Hp Fm) : effW P ops rest st dst Q (some (.skip h)) = ∃ s, put { st with h := h } dst .undef = some s ∧ WO P ops rest s Q := rfl
@[simp] theorem effW_enter (ops : Array Oper) (rest : List Oper) (st : St Fm) (dst : Option Nat) (Q : St Fm → Prop) (f : Nat) (args : List AV) (h : Hp Fm) :
    effW P ops rest st dst Q (some (.enter f args h)) = A P f args h fun r h' => ∃ s, put { st with h := h' } dst r = some s ∧ WO P ops rest s Q := rfl

theorem W.mono {c : Code} {st : St Fm} {Q R : Ex → St Fm → Prop} (h : W P c st R) (hq : ∀ e s, R e s → Q e s) : W P c st Q := let ⟨e, s, h1, h2⟩ := h; ⟨e, s, h1, hq e s h2⟩
theorem WO.mono {ops : Array Oper} {l : List Oper} {st : St Fm} {Q R : St Fm → Prop} (h : WO P ops l st R) (hq : ∀ s, R s → Q s) : WO P ops l st Q := let ⟨s, h1, h2⟩ := h; ⟨s, h1, hq s h2⟩
theorem A.mono {f : Nat} {args : List AV} {h : Hp Fm} {Q R : AV → Hp Fm → Prop} (ha : A P f args h R) (hq : ∀ r h', R r h' → Q r h') : A P f args h Q := let ⟨r, h', h1, h2⟩ := ha; ⟨r, h', h1, hq r h' h2⟩

/-- A loop: an invariant with a measure. -/
theorem W_loop {b : Code} {st : St Fm} {Q : Ex → St Fm → Prop} (I : Nat → St Fm → Prop) (n : Nat) (h0 : I n st)
    (hr : ∀ n s, I n s → W P b s (thenW (fun s' => ∃ m, m < n ∧ I m s') Q)) : W P (.loop b) st Q := by
  induction n using Nat.strongRecOn generalizing st with
  | _ n ih =>
    obtain ⟨e, s, h1, hq⟩ := hr n st h0
    unfold W
    rw [execR_loop, h1]
    cases e with
    | normal =>
      obtain ⟨m, hm, hI⟩ := hq
      exact ih m hm hI
    | _ => exact ⟨_, s, rfl, hq⟩

/-- A scope. -/
def jumpW (P : Program) (b : Code) (Q : Ex → St Fm → Prop) : Ex → St Fm → Prop
  | .goto l, s => match findLabel b l with
    | some rest => WS P b rest s Q
    | none => Q (.goto l) s
  | e, s => Q e s

theorem W_scope (b : Code) (st : St Fm) (Q : Ex → St Fm → Prop) : W P (.scope b) st Q = WS P b b st Q := by unfold W WS; rw [execR_scope]

theorem WS_run {b c : Code} {st : St Fm} {Q : Ex → St Fm → Prop} (h : W P c st (jumpW P b Q)) : WS P b c st Q := by
  obtain ⟨e, s, h1, hq⟩ := h
  unfold WS
  rw [scopeR_eq, h1]
  cases e with
  | goto l =>
    simp only [jumpW] at hq
    simp only
    split at hq
    · rename_i hf; rw [hf]; exact hq
    · rename_i hf; rw [hf]; exact ⟨_, s, rfl, hq⟩
  | _ => exact ⟨_, s, rfl, hq⟩

@[simp] theorem jumpW_normal (b : Code) (Q : Ex → St Fm → Prop) (s : St Fm) : jumpW P b Q .normal s = Q .normal s := rfl
@[simp] theorem jumpW_ret (b : Code) (Q : Ex → St Fm → Prop) (s : St Fm) : jumpW P b Q .ret s = Q .ret s := rfl
@[simp] theorem jumpW_exit (b : Code) (Q : Ex → St Fm → Prop) (i : Nat) (s : St Fm) : jumpW P b Q (.exit i) s = Q (.exit i) s := rfl
theorem jumpW_goto (b : Code) (Q : Ex → St Fm → Prop) (l : Nat) (s : St Fm) : jumpW P b Q (.goto l) s = match findLabel b l with | some rest => WS P b rest s Q | none => Q (.goto l) s := rfl

/-- How a function must end. -/
def endW (P : Program) (fn : Func) (Q : AV → Hp Fm → Prop) : Ex → St Fm → Prop
  | .normal, s | .ret, s => ∃ r, resultsAV P fn s.t s.h = some r ∧ Q r s.h
  | _, _ => False
@[simp] theorem endW_ret (fn : Func) (Q : AV → Hp Fm → Prop) (s : St Fm) : endW P fn Q .ret s = ∃ r, resultsAV P fn s.t s.h = some r ∧ Q r s.h := rfl
@[simp] theorem endW_normal (fn : Func) (Q : AV → Hp Fm → Prop) (s : St Fm) : endW P fn Q .normal s = ∃ r, resultsAV P fn s.t s.h = some r ∧ Q r s.h := rfl

theorem A_run {f : Nat} {args : List AV} {h : Hp Fm} {fn : Func} {c : Code} {Q : AV → Hp Fm → Prop} (hf : P.funcs[f]? = some fn) (hb : fn.body = some c)
    (hw : W P c ⟨argsT args, max args.length fn.ntmps, h⟩ (endW P fn Q)) : A P f args h Q := by
  obtain ⟨e, s, h1, hq⟩ := hw
  cases e with
  | normal => obtain ⟨r, h2, h3⟩ := hq; exact ⟨r, s.h, callR_run hf hb h1 (.inl rfl) h2, h3⟩
  | ret => obtain ⟨r, h2, h3⟩ := hq; exact ⟨r, s.h, callR_run hf hb h1 (.inr rfl) h2, h3⟩
  | exit i => exact hq.elim
  | goto l => exact hq.elim

theorem A_go {f : Nat} {args : List AV} {h : Hp Fm} {fn : Func} {c : Code} {Q : AV → Hp Fm → Prop} {n : Nat} (hf : P.funcs[f]? = some fn) (hb : fn.body = some c)
    (hn : max args.length fn.ntmps = n) (hw : W P c ⟨argsT args, n, h⟩ (endW P fn Q)) : A P f args h Q := by subst hn; exact A_run hf hb hw

/-- Drawn regions. -/
theorem W_draw {id : Nat} {ops : Array Oper} {st : St Fm} {Q : Ex → St Fm → Prop} (pl : List (Nat × List Nat)) (hp : plan P ops = some pl)
    (h : ∃ tr s, trace P (callR P) ops ops.toList st = some tr ∧ (pl.all fun p => p.2.all fun m => readSame P ops tr p.1 m) = true ∧ tr.getLast? = some s ∧ Q .normal s) : W P (.region id ops true) st Q := by
  obtain ⟨tr, s, h1, h2, h3, h4⟩ := h
  refine ⟨.normal, s, ?_, h4⟩
  rw [execR_draw, drawF_eq _ pl hp]
  simp only [drawG, h1, Option.bind_some, h2, if_true, h3, Option.map_some]

/-- A trace, one state behind the other. acc: the states so far, the last one first. -/
def WT (P : Program) (ops : Array Oper) (l : List Oper) (st : St Fm) (acc : List (St Fm)) (Q : List (St Fm) → Prop) : Prop := ∃ tr, trace P (callR P) ops l st = some tr ∧ Q (acc.reverse ++ tr)

theorem WT_nil (ops : Array Oper) (st : St Fm) (acc : List (St Fm)) (Q : List (St Fm) → Prop) : WT P ops [] st acc Q = Q (acc.reverse ++ [st]) := by simp [WT, trace]

def effT (P : Program) (ops : Array Oper) (rest : List Oper) (st : St Fm) (dst : Option Nat) (acc : List (St Fm)) (Q : List (St Fm) → Prop) : Option (Eff Fm) → Prop
  | some (.val v h) => ∃ s, put { st with h := h } dst v = some s ∧ WT P ops rest s (st :: acc) Q
  | some (.skip h) => ∃ s, put { st with h := h } dst .undef = some s ∧ WT P ops rest s (st :: acc) Q
  | some (.enter f args h) => A P f args h fun r h' => ∃ s, put { st with h := h' } dst r = some s ∧ WT P ops rest s (st :: acc) Q
  | none => False

theorem WT_step {ops : Array Oper} {o : Oper} {rest : List Oper} {st s : St Fm} {acc : List (St Fm)} {Q : List (St Fm) → Prop} (h1 : stepOp P (callR P) ops o st = some s) (h2 : WT P ops rest s (st :: acc) Q) : WT P ops (o :: rest) st acc Q := by
  obtain ⟨tr, h3, h4⟩ := h2
  refine ⟨st :: tr, by simp [trace, h1, h3], ?_⟩
  simpa using h4

theorem WT_cons_do {ops : Array Oper} {o : Oper} {rest : List Oper} {st : St Fm} {acc : List (St Fm)} {Q : List (St Fm) → Prop} (hw : want ops st.t o = some true) (h : effT P ops rest st o.dst acc Q (opEff P (ev st.t) st.h o)) : WT P ops (o :: rest) st acc Q := by
  generalize he : opEff P (ev st.t) st.h o = e at h
  cases e with
  | none => exact h.elim
  | some e => cases e with
    | val v h' => obtain ⟨s, h1, h2⟩ := h; exact WT_step (by simp only [stepOp, hw, he, h1]) h2
    | skip h' => obtain ⟨s, h1, h2⟩ := h; exact WT_step (by simp only [stepOp, hw, he, h1]) h2
    | enter f args h' => obtain ⟨r, h'', hc, s, h1, h2⟩ := h; exact WT_step (by simp only [stepOp, hw, he, hc, h1]) h2

theorem WT_cons_no {ops : Array Oper} {o : Oper} {rest : List Oper} {st : St Fm} {acc : List (St Fm)} {Q : List (St Fm) → Prop} (hw : want ops st.t o = some false) (h : ∃ s, put st o.dst .undef = some s ∧ WT P ops rest s (st :: acc) Q) : WT P ops (o :: rest) st acc Q := by
  obtain ⟨s, h1, h2⟩ := h
  exact WT_step (by simp only [stepOp, hw, h1]) h2

theorem W_drawT {id : Nat} {ops : Array Oper} {st : St Fm} {Q : Ex → St Fm → Prop} (pl : List (Nat × List Nat)) (hp : plan P ops = some pl)
    (h : WT P ops ops.toList st [] fun tr => (pl.all fun p => p.2.all fun m => readSame P ops tr p.1 m) = true ∧ ∃ s, tr.getLast? = some s ∧ Q .normal s) : W P (.region id ops true) st Q := by
  obtain ⟨tr, h1, h2, s, h3, h4⟩ := h
  exact W_draw pl hp ⟨tr, s, h1, by simpa using h2, by simpa using h3, h4⟩
end

/-- A heap goes on: nothing of it is turned. -/
structure HE (h h' : Hp Fm) : Prop where
  no : h.no ≤ h'.no
  ng : h.ng ≤ h'.ng
  obj : ∀ o, o < h.no → Mp.get h'.obj o = Mp.get h.obj o
  len : ∀ g, g < h.ng → Mp.get h'.len g = Mp.get h.len g

theorem HE.refl (h : Hp Fm) : HE h h := ⟨Nat.le_refl _, Nat.le_refl _, fun _ _ => rfl, fun _ _ => rfl⟩
theorem HE.trans {a b c : Hp Fm} (h : HE a b) (k : HE b c) : HE a c :=
  ⟨Nat.le_trans h.no k.no, Nat.le_trans h.ng k.ng, fun o ho => (k.obj o (Nat.lt_of_lt_of_le ho h.no)).trans (h.obj o ho), fun g hg => (k.len g (Nat.lt_of_lt_of_le hg h.ng)).trans (h.len g hg)⟩
theorem HE.new {a h : Hp Fm} (k : HE a h) (cs : AObj) : HE a { h with obj := Mp.set h.obj h.no cs, no := h.no + 1 } :=
  k.trans ⟨by simp, Nat.le_refl _, fun o ho => by simp only [Mp.get_set]; rw [if_neg (by omega)], fun _ _ => rfl⟩
theorem HE.newSl {a h : Hp Fm} (k : HE a h) (n : Nat) : HE a { h with len := Mp.set h.len h.ng n, ng := h.ng + 1 } :=
  k.trans ⟨Nat.le_refl _, by simp, fun _ _ => rfl, fun g hg => by simp only [Mp.get_set]; rw [if_neg (by omega)]⟩
/-- A row, or a slice, that is newer than a is turned. -/
theorem HE.set {a h : Hp Fm} (k : HE a h) {o : Nat} (ho : a.no ≤ o) (x : AObj) : HE a { h with obj := Mp.set h.obj o x } :=
  ⟨k.no, k.ng, fun p hp => by simp only [Mp.get_set]; rw [if_neg (by omega)]; exact k.obj p hp, k.len⟩
theorem HE.grow {a h : Hp Fm} (k : HE a h) {g : Nat} (hg : a.ng ≤ g) (n : Nat) : HE a { h with len := Mp.set h.len g n } :=
  ⟨k.no, k.ng, k.obj, fun p hp => by simp only [Mp.get_set]; rw [if_neg (by omega)]; exact k.len p hp⟩

section
variable {P : Program} {ops : Array Oper} {o : Oper} {rest : List Oper} {st s : St Fm} {Q : St Fm → Prop} {QE : Ex → St Fm → Prop}

theorem W_seq_i {a b : Code} (h : W P a st (thenW (fun s => W P b s QE) QE)) : W P (.seq a b) st QE := by rw [W_seq]; exact h
theorem W_block_i {id : Nat} {b : Code} (h : W P b st (blockW id QE)) : W P (.block id b) st QE := by rw [W_block]; exact h
theorem W_region_i {id : Nat} {l : List Oper} (h : WO P l.toArray l st (QE .normal)) : W P (.region id l.toArray false) st QE := by rw [W_region]; exact h
theorem W_skip_i (h : QE .normal st) : W P .skip st QE := by rw [W_skip]; exact h
theorem W_label_i {l : Nat} (h : QE .normal st) : W P (.label l) st QE := by rw [W_label]; exact h
theorem W_ret_i (h : QE .ret st) : W P .ret st QE := by rw [W_ret]; exact h
theorem W_exit_i {i : Nat} (h : QE (.exit i) st) : W P (.exit i) st QE := by rw [W_exit]; exact h
theorem W_goto_i {i : Nat} (h : QE (.goto i) st) : W P (.goto i) st QE := by rw [W_goto]; exact h
theorem W_scope_i {b : Code} (h : WS P b b st QE) : W P (.scope b) st QE := by rw [W_scope]; exact h
theorem W_cond_t {x : Operand} {a b : Code} (h : ev st.t x = .bool true) (ha : W P a st QE) : W P (.cond x a b) st QE := by rw [W_cond_true h]; exact ha
theorem W_cond_f {x : Operand} {a b : Code} (h : ev st.t x = .bool false) (ha : W P b st QE) : W P (.cond x a b) st QE := by rw [W_cond_false h]; exact ha
theorem WO_nil_i (h : Q st) : WO P ops [] st Q := by rw [WO_nil]; exact h
theorem WO_no_i (hw : want ops st.t o = some false) (hp : put st o.dst .undef = some s) (h : WO P ops rest s Q) : WO P ops (o :: rest) st Q := by rw [WO_cons_no hw]; exact ⟨s, hp, h⟩
theorem WO_val_i {v : AV} {h' : Hp Fm} (hw : want ops st.t o = some true) (he : opEff P (ev st.t) st.h o = some (.val v h')) (hp : put { st with h := h' } o.dst v = some s) (h : WO P ops rest s Q) : WO P ops (o :: rest) st Q := by
  rw [WO_cons_do hw, he]; exact ⟨s, hp, h⟩
theorem WO_skip_i {h' : Hp Fm} (hw : want ops st.t o = some true) (he : opEff P (ev st.t) st.h o = some (.skip h')) (hp : put { st with h := h' } o.dst .undef = some s) (h : WO P ops rest s Q) : WO P ops (o :: rest) st Q := by
  rw [WO_cons_do hw, he]; exact ⟨s, hp, h⟩
theorem WO_call_i {f : Nat} {args : List AV} {h' : Hp Fm} (hw : want ops st.t o = some true) (he : opEff P (ev st.t) st.h o = some (.enter f args h')) (h : A P f args h' fun r h'' => ∃ s, put { st with h := h'' } o.dst r = some s ∧ WO P ops rest s Q) : WO P ops (o :: rest) st Q := by
  rw [WO_cons_do hw, he]; exact h
theorem WT_no_i {acc : List (St Fm)} {Q : List (St Fm) → Prop} (hw : want ops st.t o = some false) (hp : put st o.dst .undef = some s) (h : WT P ops rest s (st :: acc) Q) : WT P ops (o :: rest) st acc Q := WT_cons_no hw ⟨s, hp, h⟩
theorem WT_val_i {acc : List (St Fm)} {Q : List (St Fm) → Prop} {v : AV} {h' : Hp Fm} (hw : want ops st.t o = some true) (he : opEff P (ev st.t) st.h o = some (.val v h')) (hp : put { st with h := h' } o.dst v = some s) (h : WT P ops rest s (st :: acc) Q) : WT P ops (o :: rest) st acc Q :=
  WT_cons_do hw (by rw [he]; exact ⟨s, hp, h⟩)
theorem WT_skip_i {acc : List (St Fm)} {Q : List (St Fm) → Prop} {h' : Hp Fm} (hw : want ops st.t o = some true) (he : opEff P (ev st.t) st.h o = some (.skip h')) (hp : put { st with h := h' } o.dst .undef = some s) (h : WT P ops rest s (st :: acc) Q) : WT P ops (o :: rest) st acc Q :=
  WT_cons_do hw (by rw [he]; exact ⟨s, hp, h⟩)
theorem WT_call_i {acc : List (St Fm)} {Q : List (St Fm) → Prop} {f : Nat} {args : List AV} {h' : Hp Fm} (hw : want ops st.t o = some true) (he : opEff P (ev st.t) st.h o = some (.enter f args h'))
    (h : A P f args h' fun r h'' => ∃ s, put { st with h := h'' } o.dst r = some s ∧ WT P ops rest s (st :: acc) Q) : WT P ops (o :: rest) st acc Q :=
  WT_cons_do hw (by rw [he]; exact h)
theorem WT_nil_i {acc : List (St Fm)} {Q : List (St Fm) → Prop} (h : Q (acc.reverse ++ [st])) : WT P ops [] st acc Q := by rw [WT_nil]; exact h
theorem thenW_n {k : St Fm → Prop} (h : k s) : thenW k QE .normal s := h
theorem thenW_e {k : St Fm → Prop} {e : Ex} (hne : e ≠ .normal) (h : QE e s) : thenW k QE e s := by cases e <;> first | exact h | exact (hne rfl).elim
theorem blockW_n {id : Nat} (h : QE .normal s) : blockW id QE .normal s := h
theorem blockW_x {id : Nat} (h : QE .normal s) : blockW id QE (.exit id) s := by simp only [blockW, if_true]; exact h
theorem blockW_y {id i : Nat} (hi : i ≠ id) (h : QE (.exit i) s) : blockW id QE (.exit i) s := by simp only [blockW, hi, if_false]; exact h
theorem blockW_r {id : Nat} (h : QE .ret s) : blockW id QE .ret s := h
theorem blockW_g {id l : Nat} (h : QE (.goto l) s) : blockW id QE (.goto l) s := h
theorem endW_r {fn : Func} {Q : AV → Hp Fm → Prop} {r : AV} (h1 : resultsAV P fn s.t s.h = some r) (h2 : Q r s.h) : endW P fn Q .ret s := ⟨r, h1, h2⟩
end

attribute [simp] want opEff put tget_set argsT_get ev vals valh ofVal ofScalar binAV intBin shiftBin strBin unAV resultsAV resultV Mp.get_set newRowAV partAV splice loadAV storeAV
attribute [simp] fieldAddrAV fieldPlaceAV minmax builtinAV enterFn newSl buildAV buildSliceAV setEls fillAV

/-- The value is a slice of these things. -/
def SV (sz : Nat) (xs : List AV) (v : AV) : Prop := (v = .nils ∧ xs = []) ∨ ∃ g off cp, v = .sl g off sz cp xs

theorem SV.len {P : Program} {t e : TypeId} {sz : Nat} {xs : List AV} {v : AV} (h : SV sz xs v) (hu : P.underlying t = some (.slice e)) : lenAV P t v = some (.int .i64 xs.length) := by
  rcases h with ⟨rfl, rfl⟩ | ⟨g, off, cp, rfl⟩ <;> simp [lenAV, hu]
theorem SV.idx {P : Program} {t e : TypeId} {sz : Nat} {xs : List AV} {v : AV} (h : SV sz xs v) (hu : P.underlying t = some (.slice e)) (hs : tsize P e = some sz) {k : IntKind} {i : Int} (h0 : 0 ≤ i) (h1 : i.toNat < xs.length) :
    indexAddrAV P t v (.int k i) = some (.el xs[i.toNat] 0) := by
  rcases h with ⟨rfl, rfl⟩ | ⟨g, off, cp, rfl⟩
  · simp at h1
  · simp [indexAddrAV, hu, hs, h0, h1]
theorem SV.take {P : Program} {t e : TypeId} {sz : Nat} {xs : List AV} {v : AV} (h : SV sz xs v) (hu : P.underlying t = some (.slice e)) (hs : tsize P e = some sz) {k : IntKind} {i : Int} (h0 : 0 ≤ i) (h1 : i ≤ xs.length) :
    ∃ r, sliceAV P t v none (some (.int k i)) none = some r ∧ SV sz (xs.take i.toNat) r := by
  rcases h with ⟨rfl, rfl⟩ | ⟨g, off, cp, rfl⟩
  · have : i = 0 := by simp at h1; omega
    subst this
    exact ⟨.nils, by simp [sliceAV, hu, hs, obound, bound], .inl ⟨rfl, by simp⟩⟩
  · exact ⟨_, by simp [sliceAV, hu, hs, obound, bound, h0, h1]; exact ⟨rfl, rfl, rfl⟩, .inr ⟨_, _, _, rfl⟩⟩
end Go.Vm

namespace Go.Vm
@[simp] theorem cells_bool (b : Bool) : (AV.bool b).cells = [AV.bool b] := rfl
@[simp] theorem isCell_bool (b : Bool) : (AV.bool b).isCell = true := rfl
@[simp] theorem cells_int (k : IntKind) (n : Int) : (AV.int k n).cells = [AV.int k n] := rfl
@[simp] theorem isCell_int (k : IntKind) (n : Int) : (AV.int k n).isCell = true := rfl
@[simp] theorem cells_flt (k : FloatKind) (n : Nat) : (AV.flt k n).cells = [AV.flt k n] := rfl
@[simp] theorem isCell_flt (k : FloatKind) (n : Nat) : (AV.flt k n).isCell = true := rfl
@[simp] theorem cells_str (s : List UInt8) : (AV.str s).cells = [AV.str s] := rfl
@[simp] theorem isCell_str (s : List UInt8) : (AV.str s).isCell = true := rfl
@[simp] theorem cells_nilp  : (AV.nilp ).cells = [AV.nilp ] := rfl
@[simp] theorem isCell_nilp  : (AV.nilp ).isCell = true := rfl
@[simp] theorem cells_ptr (o f : Nat) : (AV.ptr o f).cells = [AV.ptr o f] := rfl
@[simp] theorem isCell_ptr (o f : Nat) : (AV.ptr o f).isCell = true := rfl
@[simp] theorem cells_el (v : AV) (f : Nat) : (AV.el v f).cells = [AV.el v f] := rfl
@[simp] theorem isCell_el (v : AV) (f : Nat) : (AV.el v f).isCell = true := rfl
@[simp] theorem cells_nils  : (AV.nils ).cells = [AV.nils ] := rfl
@[simp] theorem isCell_nils  : (AV.nils ).isCell = true := rfl
@[simp] theorem cells_sl (g o z : Nat) (c : Bool) (l : List AV) : (AV.sl g o z c l).cells = [AV.sl g o z c l] := rfl
@[simp] theorem isCell_sl (g o z : Nat) (c : Bool) (l : List AV) : (AV.sl g o z c l).isCell = true := rfl
@[simp] theorem cells_nilm  : (AV.nilm ).cells = [AV.nilm ] := rfl
@[simp] theorem isCell_nilm  : (AV.nilm ).isCell = true := rfl
@[simp] theorem cells_mp (o : Nat) : (AV.mp o).cells = [AV.mp o] := rfl
@[simp] theorem isCell_mp (o : Nat) : (AV.mp o).isCell = true := rfl
@[simp] theorem cells_fn (f : Fn) (a b : List AV) : (AV.fn f a b).cells = [AV.fn f a b] := rfl
@[simp] theorem isCell_fn (f : Fn) (a b : List AV) : (AV.fn f a b).isCell = true := rfl
@[simp] theorem cells_nilf  : (AV.nilf ).cells = [AV.nilf ] := rfl
@[simp] theorem isCell_nilf  : (AV.nilf ).isCell = true := rfl
@[simp] theorem cells_ifc (t : Nat) (v : AV) : (AV.ifc t v).cells = [AV.ifc t v] := rfl
@[simp] theorem isCell_ifc (t : Nat) (v : AV) : (AV.ifc t v).isCell = true := rfl
@[simp] theorem cells_nili  : (AV.nili ).cells = [AV.nili ] := rfl
@[simp] theorem isCell_nili  : (AV.nili ).isCell = true := rfl
@[simp] theorem cells_agg (l : List AV) : (AV.agg l).cells = l := rfl
@[simp] theorem isCell_agg (l : List AV) : (AV.agg l).isCell = false := rfl
@[simp] theorem isCell_undef : AV.undef.isCell = false := rfl
@[simp] theorem isCell_bad : AV.bad.isCell = false := rfl
end Go.Vm

namespace Go.Vm
/-- A slice under way: what is appended to it goes behind it. -/
def AC (h0 h : Hp Fm) (sz : Nat) (acc : List AV) (v : AV) : Prop := (v = .nils ∧ acc = []) ∨ ∃ g off, v = .sl g off sz false acc ∧ Mp.get h.len g = some (off + acc.length) ∧ g < h.ng ∧ h0.ng ≤ g

theorem AC.sv {h0 h : Hp Fm} {sz : Nat} {acc : List AV} {v : AV} (k : AC h0 h sz acc v) : SV sz acc v := by
  rcases k with ⟨a, b⟩ | ⟨g, off, a, _⟩
  · exact .inl ⟨a, b⟩
  · exact .inr ⟨g, off, false, a⟩

theorem AC.of {h0 h h' : Hp Fm} {sz : Nat} {acc : List AV} {v : AV} (k : AC h0 h sz acc v) (he : HE h h') : AC h0 h' sz acc v := by
  rcases k with h | ⟨g, off, a, b, c, d⟩
  · exact .inl h
  · exact .inr ⟨g, off, a, (he.len g c).trans b, Nat.lt_of_lt_of_le c he.ng, d⟩

theorem AC.app {P : Program} {t e sz by_ : Nat} {z : AV} {h0 h : Hp Fm} {acc : List AV} {v x : AV} {g' o' : Nat} {c' : Bool} (hu : P.underlying t = some (.slice e)) (hs : tsize P e = some sz) (hb : tbytes P e = some by_) (hz : tzero P e = some z)
    (hzl : z.cells.length = sz) (h1 : 0 < sz) (h2 : 0 < by_) (k : AC h0 h sz acc v) (he : HE h0 h) (hl : (acc.length + 1) * by_ ≤ 2 ^ 40) :
    ∃ r h', appendAV P h t t v (.sl g' o' sz c' [x]) = some (r, h') ∧ (AC h0 h' sz (acc ++ [x]) r ∧ HE h0 h' ∧ h'.obj = h.obj ∧ h'.no = h.no) := by
  have hsz : ¬ (sz = 0 ∨ by_ = 0 ∨ z.cells.length ≠ sz) := by omega
  rcases k with ⟨rfl, rfl⟩ | ⟨g, off, rfl, hf, hg, hn⟩
  · refine ⟨_, _, by simp only [appendAV, hu, hs, hb, hz, isIntD, newEls, Option.bind_some, if_neg hsz, if_true]; simp only [List.length_nil, Nat.zero_add, Nat.one_mul] at hl; simp [newSl, hl]; exact ⟨rfl, rfl⟩, ?_, he.newSl _, rfl, rfl⟩
    exact .inr ⟨h.ng, 0, rfl, by simp [Mp.get_set], by simp, he.ng⟩
  · have hl' : (acc.length + 1) * by_ ≤ 1099511627776 := by simpa using hl
    refine ⟨_, _, by simp only [appendAV, hu, hs, hb, hz, isIntD, newEls, Option.bind_some, if_neg hsz, if_true]; simp [hf, hl']; exact ⟨rfl, rfl⟩, ?_, he.grow hn _, rfl, rfl⟩
    exact .inr ⟨g, off, rfl, by simp [Mp.get_set]; omega, hg, hn⟩

theorem app_then {P : Program} {h : Hp Fm} {t1 t2 : Nat} {s x : AV} {R K : AV → Hp Fm → Prop} (h1 : ∃ r h', appendAV P h t1 t2 s x = some (r, h') ∧ R r h') (h2 : ∀ r h', R r h' → K r h') : ∃ r h', appendAV P h t1 t2 s x = some (r, h') ∧ K r h' :=
  let ⟨r, h', a, b⟩ := h1; ⟨r, h', a, h2 r h' b⟩

theorem WO_app_i {P : Program} {ops : Array Oper} {o : Oper} {rest : List Oper} {st : St Fm} {Q : St Fm → Prop} {c : Call} {s x : AV} {t1 t2 : Nat} (hw : want ops st.t o = some true) (ho : o.op = .call c) (hb : c.callee = .builtin .append)
    (ha : c.args.toList.map (ev st.t) = [s, x]) (h1 : c.argTypes[0]? = some t1) (h2 : c.argTypes[1]? = some t2)
    (h : ∃ r h', appendAV P st.h t1 t2 s x = some (r, h') ∧ ∃ s', put { st with h := h' } o.dst r = some s' ∧ WO P ops rest s' Q) : WO P ops (o :: rest) st Q := by
  obtain ⟨r, h', e1, s', e2, e3⟩ := h
  refine WO_val_i (v := r) (h' := h') hw ?_ e2 e3
  simp only [opEff, ho, hb, builtinAV, ha, h1, h2, Option.bind_some, e1, valh, Option.map_some]
end Go.Vm

namespace Go.Vm
/-- To forget all of the slots but what is told of them. The heap is as it was. -/
theorem WO_cut {P : Program} {ops : Array Oper} {l : List Oper} {t : Fm AV} {n : Nat} {h : Hp Fm} {Q : St Fm → Prop} (facts : Fm AV → Prop) (h1 : WO P ops l ⟨t, n, h⟩ (fun s => s.nt = n ∧ s.h = h ∧ facts s.t)) (h2 : ∀ t', facts t' → Q ⟨t', n, h⟩) :
    WO P ops l ⟨t, n, h⟩ Q := h1.mono fun s ⟨a, b, c⟩ => by obtain ⟨t', n', h'⟩ := s; subst a; subst b; exact h2 t' c
end Go.Vm

namespace Go.Vm
theorem W_draw_i {P : Program} {id : Nat} {l : List Oper} {st : St Fm} {Q : Ex → St Fm → Prop} (pl : List (Nat × List Nat)) (hp : plan P l.toArray = some pl)
    (h : WT P l.toArray l st [] fun tr => (pl.all fun p => p.2.all fun m => readSame P l.toArray tr p.1 m) = true ∧ ∃ s, tr.getLast? = some s ∧ Q .normal s) : W P (.region id l.toArray true) st Q := W_drawT pl hp h
end Go.Vm

namespace Go.Vm
theorem jumpW_r {P : Program} {b : Code} {Q : Ex → St Fm → Prop} {s : St Fm} (h : Q .ret s) : jumpW P b Q .ret s := h
theorem jumpW_n {P : Program} {b : Code} {Q : Ex → St Fm → Prop} {s : St Fm} (h : Q .normal s) : jumpW P b Q .normal s := h
theorem jumpW_x {P : Program} {b : Code} {Q : Ex → St Fm → Prop} {s : St Fm} {i : Nat} (h : Q (.exit i) s) : jumpW P b Q (.exit i) s := h
theorem jumpW_g {P : Program} {b rest : Code} {Q : Ex → St Fm → Prop} {s : St Fm} {l : Nat} (hf : findLabel b l = some rest) (h : WS P b rest s Q) : jumpW P b Q (.goto l) s := by rw [jumpW_goto, hf]; exact h
theorem W_scope_go {P : Program} {b : Code} {st : St Fm} {Q : Ex → St Fm → Prop} (h : W P b st (jumpW P b Q)) : W P (.scope b) st Q := W_scope_i (WS_run h)
end Go.Vm

namespace Go.Vm
theorem W_skip_seq {P : Program} {c : Code} {st : St Fm} {Q : Ex → St Fm → Prop} (h : W P (.seq .skip c) st Q) : W P c st Q := by rw [W_seq, W_skip] at h; exact h
end Go.Vm

namespace Go.Vm
theorem W_cut {P : Program} {c : Code} {t : Fm AV} {n : Nat} {h : Hp Fm} {Q : Ex → St Fm → Prop} (facts : Fm AV → Prop) (h1 : W P c ⟨t, n, h⟩ (fun e s => e = .normal ∧ s.nt = n ∧ s.h = h ∧ facts s.t)) (h2 : ∀ t', facts t' → Q .normal ⟨t', n, h⟩) :
    W P c ⟨t, n, h⟩ Q := h1.mono fun e s ⟨z, a, b, c⟩ => by obtain ⟨t', n', h'⟩ := s; subst z; subst a; subst b; exact h2 t' c
end Go.Vm
