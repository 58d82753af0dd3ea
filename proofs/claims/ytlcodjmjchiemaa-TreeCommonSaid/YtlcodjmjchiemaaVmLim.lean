/- The value machine: what is answered in some rounds is answered in more; answers without rounds, and their equations. No condition. -/
import Derived.Test.YtlcodjmjchiemaaVmCall
set_option linter.unusedSimpArgs false
set_option linter.unusedVariables false
namespace Go.Vm

section
variable {μ : Type → Type} [Mp μ] {P : Program}

def LeF {α β : Type} (f g : α → Option β) : Prop := ∀ a b, f a = some b → g a = some b
def LeC (cf cf' : Cf μ) : Prop := ∀ f args h r, cf f args h = some r → cf' f args h = some r

theorem stepOp_mono {cf cf' : Cf μ} (hc : LeC cf cf') {ops : Array Oper} {o : Oper} {st st' : St μ} (h : stepOp P cf ops o st = some st') : stepOp P cf' ops o st = some st' := by
  unfold stepOp at h ⊢
  split at h
  · cases h
  · exact h
  · split at h
    · exact h
    · exact h
    · split at h
      · rename_i hcf; rw [hc _ _ _ _ hcf]; exact h
      · cases h
    · cases h

theorem runOps_mono {cf cf' : Cf μ} (hc : LeC cf cf') {ops : Array Oper} : ∀ (l : List Oper) (st st' : St μ), runOps P cf ops l st = some st' → runOps P cf' ops l st = some st'
  | [], st, st', h => h
  | o :: rest, st, st', h => by
    simp only [runOps] at h ⊢
    split at h
    · rename_i s hs; rw [stepOp_mono hc hs]; exact runOps_mono hc rest s st' h
    · cases h

theorem trace_mono {cf cf' : Cf μ} (hc : LeC cf cf') {ops : Array Oper} : ∀ (l : List Oper) (st : St μ) (tr : List (St μ)), trace P cf ops l st = some tr → trace P cf' ops l st = some tr
  | [], st, tr, h => h
  | o :: rest, st, tr, h => by
    simp only [trace, Option.bind_eq_some_iff, Option.map_eq_some_iff] at h ⊢
    obtain ⟨s, h1, l, h2, h3⟩ := h
    exact ⟨s, stepOp_mono hc h1, l, trace_mono hc rest s l h2, h3⟩

theorem drawF_mono {cf cf' : Cf μ} (hc : LeC cf cf') {ops : Array Oper} {st st' : St μ} (h : drawF P cf ops st = some st') : drawF P cf' ops st = some st' := by
  simp only [drawF, drawG, Option.bind_eq_some_iff] at h ⊢
  obtain ⟨pl, h1, tr, h2, h3⟩ := h
  exact ⟨pl, h1, tr, trace_mono hc _ _ _ h2, h3⟩

theorem execF_mono {cf cf' : Cf μ} {df df' : Array Oper → St μ → Option (St μ)} (hc : LeC cf cf') (hd : ∀ ops st st', df ops st = some st' → df' ops st = some st') : ∀ (n n' : Nat) (m : Option Code) (c : Code) (st : St μ) (r : Ex × St μ),
    n ≤ n' → execF P cf df n m c st = some r → execF P cf' df' n' m c st = some r
  | 0, _, m, c, st, r, _, h => by simp [execF] at h
  | n + 1, 0, m, c, st, r, hn, h => by omega
  | n + 1, n' + 1, some b, c, st, r, hn, h => by
    have ih := fun m c st r => execF_mono hc hd n n' m c st r (by omega)
    simp only [execF] at h ⊢
    split at h
    · rename_i l st1 h1
      rw [ih _ _ _ _ h1]
      simp only
      split at h
      · exact ih _ _ _ _ h
      · exact h
    · rename_i hne
      rw [ih _ _ _ _ h]
      split
      · rename_i l st1 he; cases he; exact (hne _ _ h).elim
      · rfl
  | n + 1, n' + 1, none, c, st, r, hn, h => by
    have ih := fun m c st r => execF_mono hc hd n n' m c st r (by omega)
    cases c <;> simp only [execF] at h ⊢
    case skip => exact h
    case label => exact h
    case ret => exact h
    case exit => exact h
    case goto => exact h
    case seq a b =>
      split at h
      · rename_i st1 h1; rw [ih _ _ _ _ h1]; exact ih _ _ _ _ h
      · rename_i hne
        rw [ih _ _ _ _ h]
        split
        · rename_i st1 he; cases he; exact (hne _ h).elim
        · rfl
    case cond x a b =>
      split at h
      · exact ih _ _ _ _ h
      · exact ih _ _ _ _ h
      · cases h
    case block id b =>
      split at h
      · rename_i i st1 h1; rw [ih _ _ _ _ h1]; exact h
      · rename_i hne
        rw [ih _ _ _ _ h]
        split
        · rename_i i st1 he; cases he; exact (hne _ _ h).elim
        · rfl
    case loop b =>
      split at h
      · rename_i st1 h1; rw [ih _ _ _ _ h1]; exact ih _ _ _ _ h
      · rename_i hne
        rw [ih _ _ _ _ h]
        split
        · rename_i st1 he; cases he; exact (hne _ h).elim
        · rfl
    case scope b => exact ih _ _ _ _ h
    case region id ops draw =>
      split at h
      · rename_i hdr
        rw [if_pos hdr]
        simp only [Option.map_eq_some_iff] at h ⊢
        obtain ⟨s, h1, h2⟩ := h
        exact ⟨s, hd _ _ _ h1, h2⟩
      · rename_i hdr
        rw [if_neg hdr]
        simp only [Option.map_eq_some_iff] at h ⊢
        obtain ⟨s, h1, h2⟩ := h
        exact ⟨s, runOps_mono hc _ _ _ h1, h2⟩
    all_goals exact h

theorem callF_mono : ∀ (n n' : Nat), n ≤ n' → LeC (callF P n : Cf μ) (callF P n')
  | 0, _, _ => fun f args h r hc => by simp [callF] at hc
  | n + 1, 0, hn => by omega
  | n + 1, n' + 1, hn => fun f args h r hc => by
    have ih := callF_mono n n' (by omega)
    simp only [callF] at hc ⊢
    split at hc
    · cases hc
    · rename_i fn hf
      split at hc
      · cases hc
      · rename_i c hb
        have hx := fun r => execF_mono (P := P) (df := drawF P (callF P n)) (df' := drawF P (callF P n')) ih (fun _ _ _ => drawF_mono ih) n n' none c ⟨argsT args, max args.length fn.ntmps, h⟩ r (by omega)
        split at hc
        · rename_i st he; rw [hx _ he]; exact hc
        · rename_i st he; rw [hx _ he]; exact hc
        · cases hc

/-- The value that a rising row of answers comes to. -/
noncomputable def lim {α : Type} (f : Nat → Option α) : Option α := open Classical in if h : ∃ n x, f n = some x then some h.choose_spec.choose else none

theorem lim_iff {α : Type} {f : Nat → Option α} (hf : ∀ (n n' : Nat) (x : α), n ≤ n' → f n = some x → f n' = some x) (x : α) : lim f = some x ↔ ∃ n, f n = some x := by
  unfold lim
  constructor
  · intro h
    split at h
    · rename_i hx
      cases h
      exact ⟨hx.choose, hx.choose_spec.choose_spec⟩
    · cases h
  · rintro ⟨n, hn⟩
    have hx : ∃ n x, f n = some x := ⟨n, x, hn⟩
    rw [dif_pos hx]
    have h1 := hx.choose_spec.choose_spec
    have h2 := hf _ (max hx.choose n) _ (by omega) h1
    have h3 := hf _ (max hx.choose n) _ (by omega) hn
    rw [h2] at h3
    exact h3

variable (P) in
/-- What a call answers. -/
noncomputable def callR : Cf μ := fun f args h => lim fun n => callF P n f args h

theorem callR_iff {f : Nat} {args : List AV} {h : Hp μ} {r : AV × Hp μ} : callR P f args h = some r ↔ ∃ n, callF P n f args h = some r :=
  lim_iff (fun n n' x hn hx => callF_mono n n' hn _ _ _ _ hx) r

theorem callR_sound (hm : P.follows .mixedOrders = true) : CfSound P (callR P : Cf μ) := fun f args h r h' hc => by
  obtain ⟨n, hn⟩ := callR_iff.1 hc
  exact call_sound hm n f args h r h' hn

variable (P) in
noncomputable def execR (c : Code) (st : St μ) : Option (Ex × St μ) := lim fun n => execF P (callR P) (drawF P (callR P)) n none c st
variable (P) in
noncomputable def scopeR (b c : Code) (st : St μ) : Option (Ex × St μ) := lim fun n => execF P (callR P) (drawF P (callR P)) n (some b) c st

omit [Mp μ] in
theorem leC_refl (cf : Cf μ) : LeC cf cf := fun _ _ _ _ h => h

theorem execR_iff {c : Code} {st : St μ} {r : Ex × St μ} : execR P c st = some r ↔ ∃ n, execF P (callR P) (drawF P (callR P)) n none c st = some r :=
  lim_iff (fun n n' x hn hx => execF_mono (leC_refl _) (fun _ _ _ h => h) n n' none c st x hn hx) r
theorem scopeR_iff {b c : Code} {st : St μ} {r : Ex × St μ} : scopeR P b c st = some r ↔ ∃ n, execF P (callR P) (drawF P (callR P)) n (some b) c st = some r :=
  lim_iff (fun n n' x hn hx => execF_mono (leC_refl _) (fun _ _ _ h => h) n n' (some b) c st x hn hx) r

theorem up {m : Option Code} {c : Code} {st : St μ} {r : Ex × St μ} {n n' : Nat} (hn : n ≤ n') (h : execF P (callR P) (drawF P (callR P)) n m c st = some r) : execF P (callR P) (drawF P (callR P)) n' m c st = some r :=
  execF_mono (leC_refl _) (fun _ _ _ h => h) n n' m c st r hn h

theorem execR_skip (st : St μ) : execR P .skip st = some (.normal, st) := execR_iff.2 ⟨1, rfl⟩
theorem execR_label (l : Nat) (st : St μ) : execR P (.label l) st = some (.normal, st) := execR_iff.2 ⟨1, rfl⟩
theorem execR_ret (st : St μ) : execR P .ret st = some (.ret, st) := execR_iff.2 ⟨1, rfl⟩
theorem execR_exit (i : Nat) (st : St μ) : execR P (.exit i) st = some (.exit i, st) := execR_iff.2 ⟨1, rfl⟩
theorem execR_goto (l : Nat) (st : St μ) : execR P (.goto l) st = some (.goto l, st) := execR_iff.2 ⟨1, rfl⟩

theorem execR_region (id : Nat) (ops : Array Oper) (st : St μ) : execR P (.region id ops false) st = (runOps P (callR P) ops ops.toList st).map fun s => (.normal, s) := by
  apply Option.ext; intro r
  rw [execR_iff]
  constructor
  · rintro ⟨n, h⟩
    cases n with
    | zero => simp [execF] at h
    | succ n => simpa [execF] using h
  · intro h; exact ⟨1, by simpa [execF] using h⟩

theorem execR_draw (id : Nat) (ops : Array Oper) (st : St μ) : execR P (.region id ops true) st = (drawF P (callR P) ops st).map fun s => (.normal, s) := by
  apply Option.ext; intro r
  rw [execR_iff]
  constructor
  · rintro ⟨n, h⟩
    cases n with
    | zero => simp [execF] at h
    | succ n => simpa [execF] using h
  · intro h; exact ⟨1, by simpa [execF] using h⟩

theorem execR_seq (a b : Code) (st : St μ) : execR P (.seq a b) st = match execR P a st with | some (.normal, s) => execR P b s | r => r := by
  apply Option.ext; intro r
  rw [execR_iff]
  constructor
  · rintro ⟨n, h⟩
    cases n with
    | zero => simp [execF] at h
    | succ n =>
      simp only [execF] at h
      split at h
      · rename_i s h1
        rw [execR_iff.2 ⟨n, h1⟩]
        exact execR_iff.2 ⟨n, h⟩
      · rename_i hne
        rw [execR_iff.2 ⟨n, h⟩]
        split
        · rename_i s he; cases he; exact (hne _ h).elim
        · rfl
  · intro h
    split at h
    · rename_i s h1
      obtain ⟨n1, h1⟩ := execR_iff.1 h1
      obtain ⟨n2, h2⟩ := execR_iff.1 h
      refine ⟨max n1 n2 + 1, ?_⟩
      simp only [execF]
      rw [up (by omega) h1]
      exact up (by omega) h2
    · rename_i hne
      obtain ⟨n1, h1⟩ := execR_iff.1 h
      refine ⟨n1 + 1, ?_⟩
      simp only [execF]
      rw [h1]
      split
      · rename_i s he; cases he; exact (hne _ h).elim
      · rfl

theorem execR_cond (x : Operand) (a b : Code) (st : St μ) : execR P (.cond x a b) st = match ev st.t x with | .bool true => execR P a st | .bool false => execR P b st | _ => none := by
  apply Option.ext; intro r
  rw [execR_iff]
  constructor
  · rintro ⟨n, h⟩
    cases n with
    | zero => simp [execF] at h
    | succ n =>
      simp only [execF] at h
      split at h
      · rename_i hx; rw [hx]; exact execR_iff.2 ⟨n, h⟩
      · rename_i hx; rw [hx]; exact execR_iff.2 ⟨n, h⟩
      · cases h
  · intro h
    split at h
    · rename_i hx
      obtain ⟨n, h⟩ := execR_iff.1 h
      exact ⟨n + 1, by simp only [execF]; rw [hx]; exact h⟩
    · rename_i hx
      obtain ⟨n, h⟩ := execR_iff.1 h
      exact ⟨n + 1, by simp only [execF]; rw [hx]; exact h⟩
    · cases h

theorem execR_block (id : Nat) (b : Code) (st : St μ) : execR P (.block id b) st = match execR P b st with | some (.exit i, s) => if i = id then some (.normal, s) else some (.exit i, s) | r => r := by
  apply Option.ext; intro r
  rw [execR_iff]
  constructor
  · rintro ⟨n, h⟩
    cases n with
    | zero => simp [execF] at h
    | succ n =>
      simp only [execF] at h
      split at h
      · rename_i i s h1
        rw [execR_iff.2 ⟨n, h1⟩]
        exact h
      · rename_i hne
        rw [execR_iff.2 ⟨n, h⟩]
        split
        · rename_i i s he; cases he; exact (hne _ _ h).elim
        · rfl
  · intro h
    split at h
    · rename_i i s h1
      obtain ⟨n1, h1⟩ := execR_iff.1 h1
      refine ⟨n1 + 1, ?_⟩
      simp only [execF]
      rw [h1]
      exact h
    · rename_i hne
      obtain ⟨n1, h1⟩ := execR_iff.1 h
      refine ⟨n1 + 1, ?_⟩
      simp only [execF]
      rw [h1]
      split
      · rename_i i s he; cases he; exact (hne _ _ h).elim
      · rfl

theorem execR_loop (b : Code) (st : St μ) : execR P (.loop b) st = match execR P b st with | some (.normal, s) => execR P (.loop b) s | r => r := by
  apply Option.ext; intro r
  rw [execR_iff]
  constructor
  · rintro ⟨n, h⟩
    cases n with
    | zero => simp [execF] at h
    | succ n =>
      simp only [execF] at h
      split at h
      · rename_i s h1
        rw [execR_iff.2 ⟨n, h1⟩]
        exact execR_iff.2 ⟨n, h⟩
      · rename_i hne
        rw [execR_iff.2 ⟨n, h⟩]
        split
        · rename_i s he; cases he; exact (hne _ h).elim
        · rfl
  · intro h
    split at h
    · rename_i s h1
      obtain ⟨n1, h1⟩ := execR_iff.1 h1
      obtain ⟨n2, h2⟩ := execR_iff.1 h
      refine ⟨max n1 n2 + 1, ?_⟩
      simp only [execF]
      rw [up (by omega) h1]
      exact up (by omega) h2
    · rename_i hne
      obtain ⟨n1, h1⟩ := execR_iff.1 h
      refine ⟨n1 + 1, ?_⟩
      simp only [execF]
      rw [h1]
      split
      · rename_i s he; cases he; exact (hne _ h).elim
      · rfl

theorem execR_scope (b : Code) (st : St μ) : execR P (.scope b) st = scopeR P b b st := by
  apply Option.ext; intro r
  rw [execR_iff, scopeR_iff]
  constructor
  · rintro ⟨n, h⟩
    cases n with
    | zero => simp [execF] at h
    | succ n => exact ⟨n, by simpa only [execF] using h⟩
  · rintro ⟨n, h⟩; exact ⟨n + 1, by simpa only [execF] using h⟩

theorem scopeR_eq (b c : Code) (st : St μ) : scopeR P b c st = match execR P c st with
    | some (.goto l, s) => (match findLabel b l with | some rest => scopeR P b rest s | none => some (.goto l, s))
    | r => r := by
  apply Option.ext; intro r
  rw [scopeR_iff]
  constructor
  · rintro ⟨n, h⟩
    cases n with
    | zero => simp [execF] at h
    | succ n =>
      simp only [execF] at h
      split at h
      · rename_i l s h1
        rw [execR_iff.2 ⟨n, h1⟩]
        simp only
        split at h
        · rename_i rest hf; rw [hf]; exact scopeR_iff.2 ⟨n, h⟩
        · rename_i hf; rw [hf]; exact h
      · rename_i hne
        rw [execR_iff.2 ⟨n, h⟩]
        split
        · rename_i l s he; cases he; exact (hne _ _ h).elim
        · rfl
  · intro h
    split at h
    · rename_i l s h1
      obtain ⟨n1, h1⟩ := execR_iff.1 h1
      split at h
      · rename_i rest hf
        obtain ⟨n2, h2⟩ := scopeR_iff.1 h
        refine ⟨max n1 n2 + 1, ?_⟩
        simp only [execF]
        rw [up (by omega) h1]
        simp only [hf]
        exact up (by omega) h2
      · rename_i hf
        refine ⟨n1 + 1, ?_⟩
        simp only [execF]
        rw [h1]
        simp only [hf]
        exact h
    · rename_i hne
      obtain ⟨n1, h1⟩ := execR_iff.1 h
      refine ⟨n1 + 1, ?_⟩
      simp only [execF]
      rw [h1]
      split
      · rename_i l s he; cases he; exact (hne _ _ h).elim
      · rfl

/-- Whatever is answered with the answers of calls is answered in some rounds. -/
theorem step_cont {ops : Array Oper} {o : Oper} {st st' : St μ} (h : stepOp P (callR P) ops o st = some st') : ∃ n, stepOp P (callF P n) ops o st = some st' := by
  unfold stepOp at h ⊢
  split at h
  · cases h
  · exact ⟨0, h⟩
  · split at h
    · exact ⟨0, h⟩
    · exact ⟨0, h⟩
    · split at h
      · rename_i hc
        obtain ⟨n, hn⟩ := callR_iff.1 hc
        exact ⟨n, by rw [hn]; exact h⟩
      · cases h
    · cases h

theorem runOps_cont {ops : Array Oper} : ∀ (l : List Oper) (st st' : St μ), runOps P (callR P) ops l st = some st' → ∃ n, runOps P (callF P n) ops l st = some st'
  | [], st, st', h => ⟨0, h⟩
  | o :: rest, st, st', h => by
    simp only [runOps] at h
    split at h
    · rename_i s hs
      obtain ⟨n1, h1⟩ := step_cont hs
      obtain ⟨n2, h2⟩ := runOps_cont rest s st' h
      refine ⟨max n1 n2, ?_⟩
      simp only [runOps]
      rw [stepOp_mono (callF_mono n1 (max n1 n2) (by omega)) h1]
      exact runOps_mono (callF_mono n2 (max n1 n2) (by omega)) _ _ _ h2
    · cases h

theorem trace_cont {ops : Array Oper} : ∀ (l : List Oper) (st : St μ) (tr : List (St μ)), trace P (callR P) ops l st = some tr → ∃ n, trace P (callF P n) ops l st = some tr
  | [], st, tr, h => ⟨0, h⟩
  | o :: rest, st, tr, h => by
    simp only [trace, Option.bind_eq_some_iff, Option.map_eq_some_iff] at h ⊢
    obtain ⟨s, h1, l, h2, h3⟩ := h
    obtain ⟨n1, h1⟩ := step_cont h1
    obtain ⟨n2, h2⟩ := trace_cont rest s l h2
    exact ⟨max n1 n2, s, stepOp_mono (callF_mono n1 (max n1 n2) (by omega)) h1, l, trace_mono (callF_mono n2 (max n1 n2) (by omega)) _ _ _ h2, h3⟩

theorem drawF_cont {ops : Array Oper} {st st' : St μ} (h : drawF P (callR P) ops st = some st') : ∃ n, drawF P (callF P n) ops st = some st' := by
  simp only [drawF, drawG, Option.bind_eq_some_iff] at h ⊢
  obtain ⟨pl, h1, tr, h2, h3⟩ := h
  obtain ⟨n, h2⟩ := trace_cont _ _ _ h2
  exact ⟨n, pl, h1, tr, h2, h3⟩

theorem exec_cont : ∀ (n : Nat) (m : Option Code) (c : Code) (st : St μ) (r : Ex × St μ), execF P (callR P) (drawF P (callR P)) n m c st = some r → ∃ k, execF P (callF P k) (drawF P (callF P k)) n m c st = some r := by
  have mono := fun {k k' : Nat} (hk : k ≤ k') (n : Nat) (m : Option Code) (c : Code) (st : St μ) (r : Ex × St μ) (h : execF P (callF P k) (drawF P (callF P k)) n m c st = some r) =>
    execF_mono (P := P) (df := drawF P (callF P k)) (df' := drawF P (callF P k')) (callF_mono k k' hk) (fun _ _ _ => drawF_mono (callF_mono k k' hk)) n n m c st r (Nat.le_refl _) h
  intro n
  induction n with
  | zero => intro m c st r h; simp [execF] at h
  | succ n ih =>
    intro m c st r h
    cases m with
    | some b =>
      simp only [execF] at h
      split at h
      · rename_i l st1 h1
        obtain ⟨k1, h1⟩ := ih _ _ _ _ h1
        split at h
        · rename_i rest hf
          obtain ⟨k2, h2⟩ := ih _ _ _ _ h
          refine ⟨max k1 k2, ?_⟩
          simp only [execF]
          rw [mono (by omega) _ _ _ _ _ h1]
          simp only [hf]
          exact mono (by omega) _ _ _ _ _ h2
        · rename_i hf
          refine ⟨k1, ?_⟩
          simp only [execF]
          rw [h1]
          simp only [hf]
          exact h
      · rename_i hne
        obtain ⟨k1, h1⟩ := ih _ _ _ _ h
        refine ⟨k1, ?_⟩
        simp only [execF]
        rw [h1]
        split
        · rename_i l s he; cases he; exact (hne _ _ h).elim
        · rfl
    | none =>
      cases c <;> simp only [execF] at h
      case skip => exact ⟨0, h⟩
      case label => exact ⟨0, h⟩
      case ret => exact ⟨0, h⟩
      case exit => exact ⟨0, h⟩
      case goto => exact ⟨0, h⟩
      case seq a b =>
        split at h
        · rename_i st1 h1
          obtain ⟨k1, h1⟩ := ih _ _ _ _ h1
          obtain ⟨k2, h2⟩ := ih _ _ _ _ h
          refine ⟨max k1 k2, ?_⟩
          simp only [execF]
          rw [mono (by omega) _ _ _ _ _ h1]
          exact mono (by omega) _ _ _ _ _ h2
        · rename_i hne
          obtain ⟨k1, h1⟩ := ih _ _ _ _ h
          refine ⟨k1, ?_⟩
          simp only [execF]
          rw [h1]
          split
          · rename_i s he; cases he; exact (hne _ h).elim
          · rfl
      case cond x a b =>
        split at h
        · rename_i hx
          obtain ⟨k, h⟩ := ih _ _ _ _ h
          exact ⟨k, by simp only [execF]; rw [hx]; exact h⟩
        · rename_i hx
          obtain ⟨k, h⟩ := ih _ _ _ _ h
          exact ⟨k, by simp only [execF]; rw [hx]; exact h⟩
        · cases h
      case block id b =>
        split at h
        · rename_i i st1 h1
          obtain ⟨k1, h1⟩ := ih _ _ _ _ h1
          refine ⟨k1, ?_⟩
          simp only [execF]
          rw [h1]
          exact h
        · rename_i hne
          obtain ⟨k1, h1⟩ := ih _ _ _ _ h
          refine ⟨k1, ?_⟩
          simp only [execF]
          rw [h1]
          split
          · rename_i i s he; cases he; exact (hne _ _ h).elim
          · rfl
      case loop b =>
        split at h
        · rename_i st1 h1
          obtain ⟨k1, h1⟩ := ih _ _ _ _ h1
          obtain ⟨k2, h2⟩ := ih _ _ _ _ h
          refine ⟨max k1 k2, ?_⟩
          simp only [execF]
          rw [mono (by omega) _ _ _ _ _ h1]
          exact mono (by omega) _ _ _ _ _ h2
        · rename_i hne
          obtain ⟨k1, h1⟩ := ih _ _ _ _ h
          refine ⟨k1, ?_⟩
          simp only [execF]
          rw [h1]
          split
          · rename_i s he; cases he; exact (hne _ h).elim
          · rfl
      case scope b =>
        obtain ⟨k, h⟩ := ih _ _ _ _ h
        exact ⟨k, by simpa only [execF] using h⟩
      case region id ops draw =>
        split at h
        · rename_i hdr
          simp only [Option.map_eq_some_iff] at h
          obtain ⟨s, h1, h2⟩ := h
          obtain ⟨k, h1⟩ := drawF_cont h1
          exact ⟨k, by simp only [execF, hdr, if_true, h1, Option.map_some, h2]⟩
        · rename_i hdr
          simp only [Option.map_eq_some_iff] at h
          obtain ⟨s, h1, h2⟩ := h
          obtain ⟨k, h1⟩ := runOps_cont _ _ _ h1
          exact ⟨k, by simp only [execF, hdr, h1, Option.map_some, h2]; simp⟩
      all_goals cases h

/-- A call is its body. -/
theorem callR_run {f : Nat} {args : List AV} {h : Hp μ} {fn : Func} {c : Code} {e : Ex} {st : St μ} {r : AV} (hf : P.funcs[f]? = some fn) (hb : fn.body = some c)
    (hx : execR P c ⟨argsT args, max args.length fn.ntmps, h⟩ = some (e, st)) (he : e = .normal ∨ e = .ret) (hr : resultsAV P fn st.t st.h = some r) : callR P f args h = some (r, st.h) := by
  obtain ⟨n, hn⟩ := execR_iff.1 hx
  obtain ⟨k, hk⟩ := exec_cont n _ _ _ _ hn
  refine callR_iff.2 ⟨max n k + 1, ?_⟩
  simp only [callF, hf, hb]
  rw [execF_mono (df := drawF P (callF P k)) (df' := drawF P (callF P (max n k))) (callF_mono k (max n k) (by omega)) (fun _ _ _ => drawF_mono (callF_mono k (max n k) (by omega))) n (max n k) _ _ _ _ (by omega) hk]
  rcases he with rfl | rfl
  · simp only [hr, Option.map_some]
  · simp only [hr, Option.map_some]

/-- A call is its body: the equation. -/
theorem callR_eq {f : Nat} {args : List AV} {h : Hp μ} {fn : Func} {c : Code} (hf : P.funcs[f]? = some fn) (hb : fn.body = some c) : callR P f args h = match execR P c ⟨argsT args, max args.length fn.ntmps, h⟩ with
    | some (.normal, st) => (resultsAV P fn st.t st.h).map fun r => (r, st.h)
    | some (.ret, st) => (resultsAV P fn st.t st.h).map fun r => (r, st.h)
    | _ => none := by
  apply Option.ext; intro r
  constructor
  · intro h1
    obtain ⟨n, hn⟩ := callR_iff.1 h1
    cases n with
    | zero => simp [callF] at hn
    | succ n =>
      simp only [callF, hf, hb] at hn
      have hle : LeC (callF P n : Cf μ) (callR P) := fun f args h r hx => callR_iff.2 ⟨n, hx⟩
      have hx := fun x (he : execF P (callF P n) (drawF P (callF P n)) n none c ⟨argsT args, max args.length fn.ntmps, h⟩ = some x) =>
        execR_iff.2 ⟨n, execF_mono (df := drawF P (callF P n)) (df' := drawF P (callR P)) hle (fun _ _ _ => drawF_mono hle) n n none c _ x (Nat.le_refl _) he⟩
      split at hn
      · rename_i st he; rw [hx _ he]; exact hn
      · rename_i st he; rw [hx _ he]; exact hn
      · cases hn
  · intro h1
    split at h1
    · rename_i st he
      simp only [Option.map_eq_some_iff] at h1
      obtain ⟨a, e1, e2⟩ := h1
      rw [← e2]
      exact callR_run hf hb he (.inl rfl) e1
    · rename_i st he
      simp only [Option.map_eq_some_iff] at h1
      obtain ⟨a, e1, e2⟩ := h1
      rw [← e2]
      exact callR_run hf hb he (.inr rfl) e1
    · cases h1
end
end Go.Vm
