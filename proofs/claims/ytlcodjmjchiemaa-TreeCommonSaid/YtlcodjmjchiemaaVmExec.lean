/- The value machine: regions in the order of the text, code, calls: what the machine answers, the model does. No condition. -/
import Derived.Test.YtlcodjmjchiemaaVmOp
set_option linter.unusedSimpArgs false
set_option linter.unusedVariables false
namespace Go.Vm

section
variable {μ : Type → Type} [Mp μ] {P : Program}
variable {ψ : Gh} {w : World}

/-- The slots. -/
structure TR (ψ : Gh) (w : World) (t : μ AV) (nt : Nat) (a : Act) : Prop where
  size : nt ≤ a.tmps.size
  val : ∀ i, VR ψ w (tget t i) (a.tmps.getD i Go.undef)

theorem TR.mono {ψ' : Gh} {w' : World} (E : Ext ψ w ψ' w') {t : μ AV} {nt : Nat} {a : Act} (h : TR ψ w t nt a) : TR ψ' w' t nt a := ⟨h.size, fun i => (h.val i).mono E⟩

theorem TR.ev {t : μ AV} {nt : Nat} {a : Act} (h : TR ψ w t nt a) (x : Operand) : VR ψ w (Vm.ev t x) (a.eval x) := by
  cases x with
  | tmp i => exact h.val i
  | const v => exact VR_ofVal v
  | global g => exact .bad _
  | func f => exact .fn _ [] [] _ _ rfl rfl (fun i hi => absurd hi (by simp)) (fun i hi => absurd hi (by simp))

theorem tget_set (t : μ AV) (d : Nat) (v : AV) (i : Nat) : tget (Mp.set t d v) i = if i = d then v else tget t i := by
  unfold tget
  rw [Mp.get_set]
  split <;> rfl

theorem getD_set (x : Array Value) (d : Nat) (v : Value) (i : Nat) (hd : d < x.size) : (x.setIfInBounds d v).getD i Go.undef = if i = d then v else x.getD i Go.undef := by
  simp only [Array.getD_eq_getD_getElem?]
  by_cases h : i = d
  · subst h; rw [if_pos rfl, Array.getElem?_setIfInBounds_self_of_lt hd]; rfl
  · rw [if_neg h, Array.getElem?_setIfInBounds_ne (by omega)]

theorem TR.put {st st' : St μ} {a : Act} {dst : Option Nat} {v : AV} {u : Value} (h : TR ψ w st.t st.nt a) (hv : VR ψ w v u) (hp : Vm.put st dst v = some st') : TR ψ w st'.t st'.nt (a.put dst u) ∧ st'.h = st.h ∧ st'.nt = st.nt := by
  unfold Vm.put at hp
  cases dst with
  | none => cases hp; exact ⟨h, rfl, rfl⟩
  | some d =>
    simp only at hp
    split at hp
    · rename_i hd
      cases hp
      refine ⟨⟨by simp [Act.put, h.size], fun i => ?_⟩, rfl, rfl⟩
      simp only [Act.put, tget_set]
      rw [getD_set _ _ _ _ (by have := h.size; omega)]
      split
      · exact hv
      · exact h.val i
    · cases hp

theorem put_defers (a : Act) (dst : Option Nat) (u : Value) : (a.put dst u).defers = a.defers := by cases dst <;> rfl

def asB : Option Value → Option Bool
  | some (.bool b) => some b
  | _ => none

theorem yielded_asB (ops : Array Oper) (tmps : Array Value) (j : Nat) : yielded ops tmps j = asB (((ops[j]?).bind (·.dst)).bind (tmps[·]?)) := by
  unfold yielded asB
  cases ((ops[j]?).bind (·.dst)).bind (tmps[·]?) with
  | none => rfl
  | some v => cases v <;> rfl

theorem want_sound {ops : Array Oper} {t : μ AV} {nt : Nat} {a : Act} {o : Oper} {b : Bool} (h : TR ψ w t nt a) (hw : want ops t o = some b) : Region.wanted o (yielded ops a.tmps) = b := by
  unfold want at hw
  unfold Region.wanted
  split at hw
  · rename_i hg; cases hw; simp [hg]
  · rename_i j q hg
    rw [hg]
    show (yielded ops a.tmps j == some q) = b
    rw [yielded_asB]
    split at hw
    · rename_i hd
      cases hw
      rw [hd]; rfl
    · rename_i d hd
      have hv := h.val d
      rw [hd]
      simp only [Option.bind_some]
      simp only [Array.getD_eq_getD_getElem?] at hv
      cases hx : a.tmps[d]? with
      | none =>
        rw [hx] at hv
        simp only [Option.getD_none] at hv
        split at hw
        · rename_i q2 ht; rw [ht] at hv; cases hv
        · cases hw
        · cases hw; rfl
      | some xv =>
        rw [hx] at hv
        simp only [Option.getD_some] at hv
        split at hw
        · rename_i q2 ht
          rw [ht] at hv
          cases hv
          cases hw
          rfl
        · cases hw
        · rename_i ht1 ht2
          cases hw
          cases xv <;> try rfl
          rename_i q2
          generalize tget t d = tv at hv ht1 ht2
          cases hv
          · exact (ht2 rfl).elim
          · exact (ht1 _ rfl).elim

/-- What calls answer is what the model's calls answer. -/
def CfSound (P : Program) (cf : Cf μ) : Prop := ∀ f args h r h', cf f args h = some (r, h') → hasBody P f = true → ∀ ψ w vs, Sim ψ w h → VRs ψ w args vs →
  Calls P f vs w fun e w' => ∃ v ψ', e = .returned v ∧ Ext ψ w ψ' w' ∧ Sim ψ' w' h' ∧ VR ψ' w' r v

/-- Behind a step. -/
structure Post (ψ : Gh) (w : World) (st' : St μ) (nt : Nat) (ds : List Deferred) (a' : Act) (w' : World) : Prop where
  out : ∃ ψ', Ext ψ w ψ' w' ∧ Sim ψ' w' st'.h ∧ TR ψ' w' st'.t nt a'
  defers : a'.defers = ds

theorem stepOp_nt {cf : Cf μ} {ops : Array Oper} {o : Oper} {st st' : St μ} (h : stepOp P cf ops o st = some st') : st'.nt = st.nt := by
  have key : ∀ (s : St μ) (d v), s.nt = st.nt → Vm.put s d v = some st' → st'.nt = st.nt := fun s d v hs hp => by
    unfold Vm.put at hp
    split at hp
    · cases hp; exact hs
    · split at hp
      · cases hp; exact hs
      · cases hp
  unfold stepOp at h
  split at h
  · cases h
  · exact key _ _ _ (by rfl) h
  · split at h
    · exact key _ _ _ (by rfl) h
    · exact key _ _ _ (by rfl) h
    · split at h
      · exact key _ _ _ (by rfl) h
      · cases h
    · cases h

theorem step_sound {cf : Cf μ} (hcf : CfSound P cf) {ops : Array Oper} {o : Oper} {st st' : St μ} (hs : stepOp P cf ops o st = some st') {a : Act} (S : Sim ψ w st.h) (T : TR ψ w st.t st.nt a) {K : Act → World → Prop} {Q : Exit → Act → World → Prop}
    (hK : ∀ a' w', Post ψ w st' st.nt a.defers a' w' → K a' w') :
    if Region.wanted o (yielded ops a.tmps) then o.wp P a w K Q ∨ (o.asks P a w ∧ LetsOut Q) else K (a.put o.dst Go.undef) w := by
  unfold stepOp at hs
  split at hs
  · cases hs
  · rename_i hw
    rw [want_sound T hw]
    simp only [Bool.false_eq_true, if_false]
    obtain ⟨p1, p2, p3⟩ := T.put .undef hs
    exact hK _ _ ⟨⟨ψ, Ext.refl _ _, p2 ▸ S, p3 ▸ p1⟩, put_defers _ _ _⟩
  · rename_i hw
    rw [want_sound T hw]
    simp only [if_true]
    refine .inl ?_
    unfold Oper.wp
    split at hs
    · rename_i v h' he
      obtain ⟨u, w', ψ', r1, r2, r3, r4⟩ := op_sound S he (fun x _ => T.ev x)
      rw [r1, Oper.upon_value]
      obtain ⟨p1, p2, p3⟩ := TR.put (st := { st with h := h' }) (T.mono r2) r4 hs
      exact hK _ _ ⟨⟨ψ', r2, p2 ▸ r3, p3 ▸ p1⟩, put_defers _ _ _⟩
    · rename_i h' he
      obtain ⟨w', ψ', r1, r2, r3⟩ := op_sound S he (fun x _ => T.ev x)
      rw [r1, Oper.upon_skip]
      obtain ⟨p1, p2, p3⟩ := TR.put (st := { st with h := h' }) (T.mono r2) .undef hs
      exact hK _ _ ⟨⟨ψ', r2, p2 ▸ r3, p3 ▸ p1⟩, put_defers _ _ _⟩
    · rename_i f args h' he
      obtain ⟨vs, r1, r2, r3, r4⟩ := op_sound S he (fun x _ => T.ev x)
      rw [r1, Oper.upon_enter]
      split at hs
      · rename_i r h'' hc
        refine (hcf f args h' r h'' hc r4 ψ w vs r2 r3).mono ?_
        rintro e w' ⟨v, ψ', rfl, q1, q2, q3⟩
        obtain ⟨p1, p2, p3⟩ := TR.put (st := { st with h := h'' }) (T.mono q1) q3 hs
        exact hK _ _ ⟨⟨ψ', q1, p2 ▸ q2, p3 ▸ p1⟩, put_defers _ _ _⟩
      · cases hs
    · cases hs

theorem runOps_sound {cf : Cf μ} (hcf : CfSound P cf) {ops : Array Oper} {Q : Exit → Act → World → Prop} : ∀ (l : List Oper) (ψ : Gh) (w : World) (st st' : St μ) (a : Act), runOps P cf ops l st = some st' → Sim ψ w st.h → TR ψ w st.t st.nt a →
    (∀ a' w', Post ψ w st' st.nt a.defers a' w' → Q .normal a' w') → wpList P ops Q l a w
  | [], ψ, w, st, st', a, hr, S, T, hQ => by
    cases hr
    exact hQ _ _ ⟨⟨ψ, Ext.refl _ _, S, T⟩, rfl⟩
  | o :: rest, ψ, w, st, st', a, hr, S, T, hQ => by
    simp only [runOps] at hr
    split at hr
    · rename_i st1 h1
      unfold wpList
      refine step_sound hcf h1 S T fun a' w' ⟨⟨ψ', q1, q2, q3⟩, q4⟩ => ?_
      have hnt := stepOp_nt h1
      refine runOps_sound hcf rest ψ' w' st1 st' a' hr q2 (hnt ▸ q3) fun a'' w'' ⟨⟨ψ'', r1, r2, r3⟩, r4⟩ => ?_
      exact hQ _ _ ⟨⟨ψ'', q1.trans r1, r2, by rw [hnt] at r3; exact r3⟩, r4.trans q4⟩
    · cases hr

/-- What a region whose order is drawn answers is what the model's answers. -/
def DfSound (P : Program) (df : Array Oper → St μ → Option (St μ)) : Prop := ∀ ops st st', df ops st = some st' → st'.nt = st.nt ∧ ∀ ψ w a id Q, Sim ψ w st.h → TR ψ w st.t st.nt a →
  (∀ a' w', Post ψ w st' st.nt a.defers a' w' → Q .normal a' w') → (Code.region id ops true).wp P Q a w

def exOf : Ex → Exit
  | .normal => .normal
  | .exit i => .exit i
  | .goto l => .goto l
  | .ret => .ret

/-- 'wp' from within a scope; from within a loop. -/
def ScopeWp (P : Program) (b c : Code) (Q : Exit → Act → World → Prop) (a : Act) (w : World) : Prop :=
  ∀ (bf : Frame) (k : List Item) (cs : List Frame), ∃ e a' w', Q e a' w' ∧ Arrives P (lone (bf.at a (.code c :: .inScope b :: k)) cs w) bf k cs e a' w'
def LoopWp (P : Program) (b : Code) (Q : Exit → Act → World → Prop) (a : Act) (w : World) : Prop :=
  ∀ (bf : Frame) (k : List Item) (cs : List Frame), ∃ e a' w', Q e a' w' ∧ Arrives P (lone (bf.at a (.code b :: .inLoop b :: k)) cs w) bf k cs e a' w'

theorem scope_wp {b : Code} {Q : Exit → Act → World → Prop} {a : Act} (h : ScopeWp P b b Q a w) : (Code.scope b).wp P Q a w :=
  fun bf k cs => let ⟨e, a', w', q, r⟩ := h bf k cs; ⟨e, a', w', q, .of_steps (.one step_scope) r⟩
theorem loop_wp {b : Code} {Q : Exit → Act → World → Prop} {a : Act} (h : LoopWp P b Q a w) : (Code.loop b).wp P Q a w :=
  fun bf k cs => let ⟨e, a', w', q, r⟩ := h bf k cs; ⟨e, a', w', q, .of_steps (.one step_loop) r⟩

theorem loopWp_round {b : Code} {Q : Exit → Act → World → Prop} {a : Act} (h : b.wp P (Exit.then (LoopWp P b Q) Q) a w) : LoopWp P b Q a w := by
  intro bf k cs
  obtain ⟨e, a₁, w₁, hq, harr⟩ := h bf (.inLoop b :: k) cs
  cases e with
  | normal =>
    obtain ⟨e₂, a₂, w₂, hq₂, harr₂⟩ := hq bf k cs
    exact ⟨e₂, a₂, w₂, hq₂, .of_steps (Steps.trans harr (.one step_inLoop)) harr₂⟩
  | exit id => exact ⟨_, a₁, w₁, hq, .pass (x := .inLoop b) rfl (fun _ _ => .inl (by simp)) harr⟩
  | goto l => exact ⟨_, a₁, w₁, hq, .pass (x := .inLoop b) rfl (fun _ _ => .inl (by simp)) harr⟩
  | ret => exact ⟨_, a₁, w₁, hq, .pass (x := .inLoop b) rfl (fun _ _ => .inl (by simp)) harr⟩
  | panic ch => exact ⟨_, a₁, w₁, hq, .pass (x := .inLoop b) rfl (fun _ _ => .inl (by simp)) harr⟩
  | outgrown => exact ⟨_, a₁, w₁, hq, .pass (x := .inLoop b) rfl (fun _ _ => .inl (by simp)) harr⟩

/-- What a scope does with a jump. -/
def Jump (P : Program) (b : Code) (Q : Exit → Act → World → Prop) : Exit → Act → World → Prop
  | .goto l, a, w => match findLabel b l with
    | some rest => ScopeWp P b rest Q a w
    | none => Q (.goto l) a w
  | e, a, w => Q e a w

theorem scopeWp_run {b c : Code} {Q : Exit → Act → World → Prop} {a : Act} (h : c.wp P (Jump P b Q) a w) : ScopeWp P b c Q a w := by
  intro bf k cs
  obtain ⟨e, a₁, w₁, hq, harr⟩ := h bf (.inScope b :: k) cs
  cases e with
  | normal => exact ⟨.normal, a₁, w₁, hq, Steps.trans harr (.one step_inScope)⟩
  | exit id => exact ⟨.exit id, a₁, w₁, hq, fun k' hk => harr k' (by simp [exitTo, hk])⟩
  | goto l =>
    simp only [Jump] at hq
    split at hq
    · rename_i rest hf
      obtain ⟨e₂, a₂, w₂, hq₂, harr₂⟩ := hq bf k cs
      exact ⟨e₂, a₂, w₂, hq₂, .of_steps (harr _ (by simp [gotoIn, hf])) harr₂⟩
    · rename_i hf
      exact ⟨.goto l, a₁, w₁, hq, fun k' hk => harr k' (by simp [gotoIn, hf, hk])⟩
  | ret => exact ⟨_, a₁, w₁, hq, harr⟩
  | panic ch => exact ⟨_, a₁, w₁, hq, harr⟩
  | outgrown => exact ⟨_, a₁, w₁, hq, harr⟩

/-- How code must be left. -/
def Out (ψ : Gh) (w : World) (nt : Nat) (ds : List Deferred) (r : Ex) (st' : St μ) (e : Exit) (a' : Act) (w' : World) : Prop := e = exOf r ∧ Post ψ w st' nt ds a' w'

theorem Out.trans {ψ ψ' : Gh} {w w' : World} {nt : Nat} {ds ds' : List Deferred} {r : Ex} {st' : St μ} {e : Exit} {a'' : Act} {w'' : World} (E : Ext ψ w ψ' w') (hd : ds' = ds) (h : Out ψ' w' nt ds' r st' e a'' w'') : Out ψ w nt ds r st' e a'' w'' := by
  obtain ⟨h1, ⟨ψ'', q1, q2, q3⟩, q4⟩ := h
  exact ⟨h1, ⟨ψ'', E.trans q1, q2, q3⟩, q4.trans hd⟩

theorem exec_nt {cf : Cf μ} {df : Array Oper → St μ → Option (St μ)} (hdf : DfSound P df) : ∀ (n : Nat) (m : Option Code) (c : Code) (st st' : St μ) (r : Ex), execF P cf df n m c st = some (r, st') → st'.nt = st.nt := by
  have hro : ∀ (ops : Array Oper) (l : List Oper) (st st' : St μ), runOps P cf ops l st = some st' → st'.nt = st.nt := by
    intro ops l
    induction l with
    | nil => intro st st' h; cases h; rfl
    | cons o rest ih =>
      intro st st' h
      simp only [runOps] at h
      split at h
      · rename_i st1 h1
        exact (ih _ _ h).trans (stepOp_nt h1)
      · cases h
  intro n
  induction n with
  | zero => intro m c st st' r h; simp [execF] at h
  | succ n ih =>
    intro m c st st' r h
    cases m with
    | some b =>
      simp only [execF] at h
      split at h
      · rename_i l st1 h1
        split at h
        · exact (ih _ _ _ _ _ h).trans (ih _ _ _ _ _ h1)
        · cases h; exact ih _ _ _ _ _ h1
      · exact ih _ _ _ _ _ h
    | none =>
      cases c <;> simp only [execF] at h
      case skip => cases h; rfl
      case label => cases h; rfl
      case ret => cases h; rfl
      case exit => cases h; rfl
      case goto => cases h; rfl
      case seq a b =>
        split at h
        · rename_i st1 h1; exact (ih _ _ _ _ _ h).trans (ih _ _ _ _ _ h1)
        · exact ih _ _ _ _ _ h
      case cond x a b =>
        split at h
        · exact ih _ _ _ _ _ h
        · exact ih _ _ _ _ _ h
        · cases h
      case block id b =>
        split at h
        · rename_i i st1 h1
          split at h
          · cases h; exact ih _ _ _ _ _ h1
          · cases h; exact ih _ _ _ _ _ h1
        · exact ih _ _ _ _ _ h
      case loop b =>
        split at h
        · rename_i st1 h1; exact (ih _ _ _ _ _ h).trans (ih _ _ _ _ _ h1)
        · exact ih _ _ _ _ _ h
      case scope b => exact ih _ _ _ _ _ h
      case region id ops draw =>
        split at h
        · cases hd : df ops st with
          | none => rw [hd] at h; cases h
          | some s => rw [hd] at h; cases h; exact (hdf _ _ _ hd).1
        · cases hd : runOps P cf ops ops.toList st with
          | none => rw [hd] at h; cases h
          | some s => rw [hd] at h; cases h; exact hro _ _ _ _ hd
      all_goals cases h

theorem exec_sound {cf : Cf μ} {df : Array Oper → St μ → Option (St μ)} (hcf : CfSound P cf) (hdf : DfSound P df) : ∀ n : Nat,
    (∀ (c : Code) (st st' : St μ) (r : Ex), execF P cf df n none c st = some (r, st') → ∀ ψ w a, Sim ψ w st.h → TR ψ w st.t st.nt a → c.wp P (Out ψ w st.nt a.defers r st') a w) ∧
    (∀ (b c : Code) (st st' : St μ) (r : Ex), execF P cf df n (some b) c st = some (r, st') → ∀ ψ w a, Sim ψ w st.h → TR ψ w st.t st.nt a → ScopeWp P b c (Out ψ w st.nt a.defers r st') a w) ∧
    (∀ (b : Code) (st st' : St μ) (r : Ex), execF P cf df n none (.loop b) st = some (r, st') → ∀ ψ w a, Sim ψ w st.h → TR ψ w st.t st.nt a → LoopWp P b (Out ψ w st.nt a.defers r st') a w) := by
  intro n
  induction n with
  | zero => exact ⟨fun c st st' r h => by simp [execF] at h, fun b c st st' r h => by simp [execF] at h, fun b st st' r h => by simp [execF] at h⟩
  | succ n ih =>
    obtain ⟨ih1, ih2, ih3⟩ := ih
    have hloop : ∀ (b : Code) (st st' : St μ) (r : Ex), execF P cf df (n + 1) none (.loop b) st = some (r, st') → ∀ ψ w a, Sim ψ w st.h → TR ψ w st.t st.nt a → LoopWp P b (Out ψ w st.nt a.defers r st') a w := by
      intro b st st' r h ψ w a S T
      simp only [execF] at h
      refine loopWp_round ?_
      split at h
      · rename_i st1 h1
        have hnt := exec_nt hdf _ _ _ _ _ _ h1
        refine wp_mono (ih1 b st st1 _ h1 ψ w a S T) ?_
        rintro e a' w' ⟨rfl, ⟨ψ', q1, q2, q3⟩, q4⟩
        intro bf k cs
        obtain ⟨e2, a2, w2, g1, g2⟩ := ih3 b st1 st' r h ψ' w' a' q2 (hnt ▸ q3) bf k cs
        exact ⟨e2, a2, w2, Out.trans q1 q4 (hnt ▸ g1), g2⟩
      · rename_i hne
        refine wp_mono (ih1 b st st' _ h ψ w a S T) ?_
        rintro e a' w' ⟨rfl, q⟩
        cases r with
        | normal => exact (hne _ h).elim
        | exit i => exact ⟨rfl, q⟩
        | goto l => exact ⟨rfl, q⟩
        | ret => exact ⟨rfl, q⟩
    refine ⟨fun c st st' r h ψ w a S T => ?_, fun b c st st' r h ψ w a S T => ?_, hloop⟩
    · cases c with
      | skip => simp only [execF] at h; cases h; exact wp_skip ⟨rfl, ⟨ψ, Ext.refl _ _, S, T⟩, rfl⟩
      | label l => simp only [execF] at h; cases h; exact wp_label ⟨rfl, ⟨ψ, Ext.refl _ _, S, T⟩, rfl⟩
      | ret => simp only [execF] at h; cases h; exact wp_ret ⟨rfl, ⟨ψ, Ext.refl _ _, S, T⟩, rfl⟩
      | exit i => simp only [execF] at h; cases h; exact wp_exit ⟨rfl, ⟨ψ, Ext.refl _ _, S, T⟩, rfl⟩
      | goto l => simp only [execF] at h; cases h; exact wp_goto ⟨rfl, ⟨ψ, Ext.refl _ _, S, T⟩, rfl⟩
      | seq x y =>
        simp only [execF] at h
        refine wp_seq ?_
        split at h
        · rename_i st1 h1
          have hnt := exec_nt hdf _ _ _ _ _ _ h1
          refine wp_mono (ih1 x st st1 _ h1 ψ w a S T) ?_
          rintro e a' w' ⟨rfl, ⟨ψ', q1, q2, q3⟩, q4⟩
          refine wp_mono (ih1 y st1 st' r h ψ' w' a' q2 (hnt ▸ q3)) ?_
          intro e2 a2 w2 g
          exact Out.trans q1 q4 (hnt ▸ g)
        · rename_i hne
          refine wp_mono (ih1 x st st' _ h ψ w a S T) ?_
          rintro e a' w' ⟨rfl, q⟩
          cases r with
          | normal => exact (hne _ h).elim
          | exit i => exact ⟨rfl, q⟩
          | goto l => exact ⟨rfl, q⟩
          | ret => exact ⟨rfl, q⟩
      | cond x y z =>
        simp only [execF] at h
        have hx := T.ev x
        split at h
        · rename_i hq
          rw [hq] at hx
          generalize hav : a.eval x = av at hx
          cases hx
          exact wp_cond_true hav (ih1 y st st' r h ψ w a S T)
        · rename_i hq
          rw [hq] at hx
          generalize hav : a.eval x = av at hx
          cases hx
          exact wp_cond_false hav (ih1 z st st' r h ψ w a S T)
        · cases h
      | block id b =>
        simp only [execF] at h
        refine wp_block ?_
        split at h
        · rename_i i st1 h1
          refine wp_mono (ih1 b st st1 _ h1 ψ w a S T) ?_
          rintro e a' w' ⟨rfl, q⟩
          simp only [exOf, Exit.inBlock]
          split at h
          · rename_i he; cases h; rw [if_pos he]; exact ⟨rfl, q⟩
          · rename_i he; cases h; rw [if_neg he]; exact ⟨rfl, q⟩
        · rename_i hne
          refine wp_mono (ih1 b st st' _ h ψ w a S T) ?_
          rintro e a' w' ⟨rfl, q⟩
          cases r with
          | exit i => exact (hne _ _ h).elim
          | normal => exact ⟨rfl, q⟩
          | goto l => exact ⟨rfl, q⟩
          | ret => exact ⟨rfl, q⟩
      | loop b => exact loop_wp (hloop b st st' r h ψ w a S T)
      | scope b =>
        simp only [execF] at h
        exact scope_wp (ih2 b b st st' r h ψ w a S T)
      | region id ops draw =>
        simp only [execF] at h
        cases draw with
        | true =>
          simp only [if_true] at h
          cases hd : df ops st with
          | none => rw [hd] at h; cases h
          | some s =>
            rw [hd] at h; cases h
            exact (hdf ops st st' hd).2 ψ w a id _ S T fun a' w' q => ⟨rfl, q⟩
        | false =>
          simp only [Bool.false_eq_true, if_false] at h
          cases hd : runOps P cf ops ops.toList st with
          | none => rw [hd] at h; cases h
          | some s =>
            rw [hd] at h; cases h
            exact wp_region_list (runOps_sound hcf _ ψ w st st' a hd S T fun a' w' q => ⟨rfl, q⟩)
      | rangeFunc => simp [execF] at h
      | refuse => simp [execF] at h
    · simp only [execF] at h
      refine scopeWp_run ?_
      split at h
      · rename_i l st1 h1
        have hnt := exec_nt hdf _ _ _ _ _ _ h1
        refine wp_mono (ih1 c st st1 _ h1 ψ w a S T) ?_
        rintro e a' w' ⟨rfl, ⟨ψ', q1, q2, q3⟩, q4⟩
        simp only [exOf, Jump]
        split at h
        · rename_i rest hf
          rw [hf]
          intro bf k cs
          obtain ⟨e2, a2, w2, g1, g2⟩ := ih2 b rest st1 st' r h ψ' w' a' q2 (hnt ▸ q3) bf k cs
          exact ⟨e2, a2, w2, Out.trans q1 q4 (hnt ▸ g1), g2⟩
        · rename_i hf
          rw [hf]
          cases h
          exact ⟨rfl, ⟨ψ', q1, q2, q3⟩, q4⟩
      · rename_i hne
        refine wp_mono (ih1 c st st' _ h ψ w a S T) ?_
        rintro e a' w' ⟨rfl, q⟩
        cases r with
        | goto l => exact (hne _ _ h).elim
        | normal => exact ⟨rfl, q⟩
        | exit i => exact ⟨rfl, q⟩
        | ret => exact ⟨rfl, q⟩
end
end Go.Vm
