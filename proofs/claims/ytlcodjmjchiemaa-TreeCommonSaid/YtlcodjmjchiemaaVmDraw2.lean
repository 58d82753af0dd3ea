/- The value machine: regions whose order is drawn, the theorem. No condition. -/
import Derived.Test.YtlcodjmjchiemaaVmDraw
set_option linter.unusedSimpArgs false
set_option linter.unusedVariables false
namespace Go.Vm

theorem filter_lt {p q : Nat → Bool} : ∀ (l : List Nat), (∀ x ∈ l, q x = true → p x = true) → (∃ i ∈ l, p i = true ∧ q i = false) → (l.filter q).length < (l.filter p).length
  | [], _, h => by obtain ⟨i, hi, _⟩ := h; cases hi
  | x :: l, hall, hex => by
    have hle : (l.filter q).length ≤ (l.filter p).length := by
      clear hex
      have hl : ∀ y ∈ l, q y = true → p y = true := fun y hy => hall y (by simp [hy])
      clear hall
      induction l with
      | nil => simp
      | cons y l ih =>
        have ih' := ih fun z hz => hl z (by simp [hz])
        have hy := hl y (by simp)
        simp only [List.filter_cons]
        cases hq : q y with
        | true => rw [hy hq]; simp only [if_true, List.length_cons]; omega
        | false => cases hp : p y <;> simp <;> omega
    simp only [List.filter_cons]
    obtain ⟨i, hi, h1, h2⟩ := hex
    rcases List.mem_cons.1 hi with rfl | hi
    · rw [h1, h2]; simp only [if_true, Bool.false_eq_true, if_false, List.length_cons]; omega
    · have := filter_lt l (fun y hy => hall y (by simp [hy])) ⟨i, hi, h1, h2⟩
      have hx := hall x (by simp)
      cases hq : q x with
      | true => rw [hx hq]; simp only [if_true, List.length_cons]; omega
      | false => cases hp : p x <;> simp <;> omega

section
variable {μ : Type → Type} [Mp μ] {P : Program}

/-- What the static look says. -/
structure Facts (P : Program) (ops : Array Oper) (ms : List Nat) : Prop where
  on : ∀ j (o : Oper), ops[j]? = some o → ∀ e ∈ o.after, Region.binds .any e = true → e.on < j
  two : ∀ i j, i < j → j < ops.size → clsAt P ops i = 2 → clsAt P ops j = 2 → (ms.getD j 0).testBit i = true
  one : ∀ i j d, i < j → j < ops.size → dstAt ops i = some d → dstAt ops j ≠ some d
  after : ∀ i j d (o : Oper), i < j → ops[j]? = some o → dstAt ops i = some d → d ∈ reads ops o → (ms.getD j 0).testBit i = true
  ahead : ∀ i j d (o : Oper), i < j → j < ops.size → ops[i]? = some o → dstAt ops j = some d → d ∈ reads ops o → (ms.getD j 0).testBit i = true

theorem facts_of {ops : Array Oper} {ms : List Nat} (h : drawOk P ops ms = true) : Facts P ops ms := by
  have key : ∀ j (o : Oper), ops[j]? = some o → (o.after.all fun e => !Region.binds .any e || decide (e.on < j)) = true ∧ ∀ i, i < j →
      ((!(clsAt P ops i == 2 && clsAt P ops j == 2) || (ms.getD j 0).testBit i) = true ∧
        (match dstAt ops i with
          | some d => dstAt ops j != some d && (!(reads ops o).contains d || (ms.getD j 0).testBit i)
          | none => true) = true ∧
        (match dstAt ops j with
          | some d => !((ops[i]?).any fun oi => (reads ops oi).contains d) || (ms.getD j 0).testBit i
          | none => true) = true) := fun j o ho => by
    have hj : j < ops.size := (Array.getElem?_eq_some_iff.1 ho).1
    unfold drawOk at h
    rw [List.all_eq_true] at h
    have h1 := h j (List.mem_range.2 hj)
    rw [ho] at h1
    simp only [Bool.and_eq_true] at h1
    refine ⟨h1.1, fun i hi => ?_⟩
    have h2 := (List.all_eq_true.1 h1.2) i (List.mem_range.2 hi)
    simp only [Bool.and_eq_true] at h2
    exact ⟨h2.1.1, h2.1.2, h2.2⟩
  refine ⟨fun j o ho e he hb => ?_, fun i j hij hj h1 h2 => ?_, fun i j d hij hj h1 h2 => ?_, fun i j d o hij ho h1 h2 => ?_, fun i j d o hij hj ho h1 h2 => ?_⟩
  · have := (Array.all_eq_true_iff_forall_mem.1 (key j o ho).1) e he
    simpa [hb] using this
  · obtain ⟨q1, _, _⟩ := (key j ops[j] (Array.getElem?_eq_getElem hj)).2 i hij
    simpa [h1, h2] using q1
  · obtain ⟨_, q2, _⟩ := (key j ops[j] (Array.getElem?_eq_getElem hj)).2 i hij
    rw [h1] at q2
    simp only [Bool.and_eq_true, bne_iff_ne] at q2
    exact q2.1 h2
  · obtain ⟨_, q2, _⟩ := (key j o ho).2 i hij
    rw [h1] at q2
    simp only [Bool.and_eq_true] at q2
    have := q2.2
    simpa [h2] using this
  · obtain ⟨_, _, q3⟩ := (key j ops[j] (Array.getElem?_eq_getElem hj)).2 i hij
    rw [h1] at q3
    have hany : ((ops[i]?).any fun oi => (reads ops oi).contains d) = true := by rw [ho]; simp [h2]
    simp only at q3
    rw [hany] at q3
    simpa using q3

theorem ec_succ (ops : Array Oper) (k : Nat) : ec P ops (k + 1) = ec P ops k + if clsAt P ops k = 2 then 1 else 0 := by
  unfold ec
  rw [List.range_succ, List.filter_append, List.length_append]
  congr 1
  by_cases h : clsAt P ops k = 2 <;> simp [h]

theorem ec_mono {ops : Array Oper} {m m' : Nat} (_ : m ≤ m') : ec P ops m ≤ ec P ops m' := by
  induction m' with
  | zero => rw [show m = 0 from by omega]; exact Nat.le_refl _
  | succ k ih =>
    by_cases he : m = k + 1
    · rw [he]; exact Nat.le_refl _
    · have := ih (by omega); rw [ec_succ]; omega

theorem ec_same {ops : Array Oper} {m m' : Nat} (h : m ≤ m') (he : ec P ops m = ec P ops m') : ∀ j, m ≤ j → j < m' → clsAt P ops j ≠ 2 := fun j h1 h2 hc => by
  have q1 := ec_mono (P := P) (ops := ops) h1
  have q2 := ec_mono (P := P) (ops := ops) (show j + 1 ≤ m' from h2)
  rw [ec_succ, if_pos hc] at q2
  omega

theorem ec_none {ops : Array Oper} {m m' : Nat} (h : m ≤ m') (hn : ∀ j, m ≤ j → j < m' → clsAt P ops j ≠ 2) : ec P ops m = ec P ops m' := by
  induction m' with
  | zero => rw [show m = 0 from by omega]
  | succ k ih =>
    by_cases he : m = k + 1
    · rw [he]
    · rw [ec_succ, if_neg (hn k (by omega) (by omega))]; exact ih (by omega) fun j h1 h2 => hn j h1 (by omega)

theorem rep_of (ops : Array Oper) (m : Nat) : ∃ r, r ≤ m ∧ (r = 0 ∨ (0 < r ∧ clsAt P ops (r - 1) = 2)) ∧ ∀ j, r ≤ j → j < m → clsAt P ops j ≠ 2 := by
  induction m with
  | zero => exact ⟨0, Nat.le_refl _, .inl rfl, fun j h1 h2 => by omega⟩
  | succ k ih =>
    by_cases hc : clsAt P ops k = 2
    · exact ⟨k + 1, Nat.le_refl _, .inr ⟨by omega, hc⟩, fun j h1 h2 => by omega⟩
    · obtain ⟨r, h1, h2, h3⟩ := ih
      exact ⟨r, by omega, h2, fun j h4 h5 => by
        by_cases hj : j = k
        · rw [hj]; exact hc
        · exact h3 j h4 (by omega)⟩

theorem draw_sound (hm : P.follows .mixedOrders = true) {cf : Cf μ} (hcf : CfSound P cf) : DfSound P (drawF P cf) := by
  intro ops st st' hd
  simp only [drawF, Option.bind_eq_some_iff] at hd
  obtain ⟨pl, hpl, hd⟩ := hd
  simp only [drawG, Option.bind_eq_some_iff] at hd
  obtain ⟨tr, htr, hd⟩ := hd
  split at hd
  case isFalse => cases hd
  rename_i hchk
  let ms := masks ops.toList []
  have hpl' : drawOk P ops ms = true ∧ pl = ((List.range ops.size).filter fun i => clsAt P ops i == 1).map fun i => (i, readPlan P ops ms i) := by
    unfold plan at hpl
    simp only at hpl
    split at hpl
    · rename_i h; cases hpl; exact ⟨h, rfl⟩
    · cases hpl
  obtain ⟨hok, hple⟩ := hpl'
  have F := facts_of hok
  obtain ⟨t1, t2, t3⟩ := trace_get ops.toList st tr htr
  simp only [Array.length_toList] at t1 t3
  -- the states
  let s : Nat → St μ := fun i => tr.getD i st
  have hs : ∀ i, i ≤ ops.size → tr[i]? = some (s i) := fun i hi => by
    simp only [s, List.getD_eq_getElem?_getD]
    rw [List.getElem?_eq_getElem (by omega)]; rfl
  have hs0 : s 0 = st := by have := hs 0 (by omega); rw [t2] at this; exact (Option.some.inj this).symm
  have hst : ∀ i (o : Oper), ops[i]? = some o → stepOp P cf ops o (s i) = some (s (i + 1)) := fun i o ho => by
    obtain ⟨hlt, he⟩ := Array.getElem?_eq_some_iff.1 ho
    obtain ⟨a, b, h1, h2, h3⟩ := t3 i hlt
    rw [hs i (by omega)] at h1
    rw [hs (i + 1) (by omega)] at h2
    cases h1; cases h2
    rw [← he]
    simpa using h3
  have hlast : st' = s ops.size := by
    rw [List.getLast?_eq_getElem?, t1] at hd
    simp only [Nat.add_sub_cancel] at hd
    rw [hs ops.size (Nat.le_refl _)] at hd
    exact (Option.some.inj hd).symm
  have hnt : ∀ i, i ≤ ops.size → (s i).nt = st.nt := by
    intro i
    induction i with
    | zero => intro _; rw [hs0]
    | succ i ih =>
      intro hi
      rw [stepOp_nt (hst i ops[i] (Array.getElem?_eq_getElem (by omega)))]
      exact ih (by omega)
  have hput : ∀ i (o : Oper), ops[i]? = some o → ∃ v h', (s (i + 1)).h = h' ∧ (∀ d, o.dst = some d → d < st.nt ∧ tget (s (i + 1)).t d = v) ∧ (∀ d, o.dst ≠ some d → tget (s (i + 1)).t d = tget (s i).t d) ∧
      ((want ops (s i).t o = some false ∧ v = .undef ∧ h' = (s i).h) ∨
       (want ops (s i).t o = some true ∧ (opEff P (ev (s i).t) (s i).h o = some (.val v h') ∨ (opEff P (ev (s i).t) (s i).h o = some (.skip h') ∧ v = .undef) ∨ ∃ f args h0, opEff P (ev (s i).t) (s i).h o = some (.enter f args h0) ∧ cf f args h0 = some (v, h')))) := fun i o ho => by
    obtain ⟨v, h', q1, q2⟩ := stepOp_cases (hst i o ho)
    obtain ⟨p1, p2, p3, p4⟩ := put_get q1
    have hlt := (Array.getElem?_eq_some_iff.1 ho).1
    exact ⟨v, h', p1, fun d hd => ⟨by rw [← hnt i (by omega)]; exact (p3 d hd).1, (p3 d hd).2⟩, fun d hd => p4 d hd, q2⟩
  have hdst : ∀ i (o : Oper), ops[i]? = some o → dstAt ops i = o.dst := fun i o ho => by simp [dstAt, ho]
  have hheap : ∀ m m', m ≤ m' → m' ≤ ops.size → (∀ j, m ≤ j → j < m' → clsAt P ops j ≠ 2) → (s m').h = (s m).h := by
    intro m m' hle
    induction m' with
    | zero => intro _ _; rw [show m = 0 from by omega]
    | succ k ih =>
      intro hk hno
      by_cases he : m = k + 1
      · rw [he]
      · have ih' := ih (by omega) (by omega) (fun j h1 h2 => hno j h1 (by omega))
        have ho : ops[k]? = some ops[k] := Array.getElem?_eq_getElem (by omega)
        have hc := hno k (by omega) (by omega)
        have hc' : cls P (ops[k]).op ≠ 2 := by simpa [clsAt, ho] using hc
        obtain ⟨v, h', p1, _, _, p4⟩ := hput k _ ho
        rw [p1, ← ih']
        rcases p4 with ⟨_, _, e⟩ | ⟨_, e | ⟨e, _⟩ | ⟨f, args, h0, e, _⟩⟩
        · exact e
        · obtain ⟨v', e'⟩ := read_cls hc' e; cases e'; rfl
        · obtain ⟨v', e'⟩ := read_cls hc' e; cases e'
        · obtain ⟨v', e'⟩ := read_cls hc' e; cases e'
  have htmp : ∀ τ m m', m ≤ m' → m' ≤ ops.size → (∀ j, m ≤ j → j < m' → dstAt ops j ≠ some τ) → tget (s m').t τ = tget (s m).t τ := by
    intro τ m m' hle
    induction m' with
    | zero => intro _ _; rw [show m = 0 from by omega]
    | succ k ih =>
      intro hk hno
      by_cases he : m = k + 1
      · rw [he]
      · have ih' := ih (by omega) (by omega) (fun j h1 h2 => hno j h1 (by omega))
        have ho : ops[k]? = some ops[k] := Array.getElem?_eq_getElem (by omega)
        obtain ⟨v, h', _, _, p3, _⟩ := hput k _ ho
        rw [p3 τ (by rw [← hdst k _ ho]; exact hno k (by omega) (by omega)), ih']
  refine ⟨by rw [hlast]; exact hnt _ (Nat.le_refl _), fun ψ w a id Q S T hQ => ?_⟩
  refine wp_region_any hm ?_
  have gd : ∀ (listed : Array Bool) (j : Nat), listed.size = ops.size → j < ops.size → listed.getD j true = listed.getD j false := fun listed j h1 h2 => by
    simp only [Array.getD_eq_getD_getElem?]
    rw [Array.getElem?_eq_getElem (by omega)]
    rfl
  have fin : ∀ (listed : Array Bool) (a' : Act) (w' : World) (m : Nat) (ψ' : Gh), m ≤ ops.size → (∀ j, j < ops.size → clsAt P ops j = 2 → (listed.getD j false = true ↔ j < m)) → Ext ψ w ψ' w' → Sim ψ' w' (s m).h → st.nt ≤ a'.tmps.size →
      (∀ τ j, j < ops.size → dstAt ops j = some τ → listed.getD j false = true → VR ψ' w' (tget (s (j + 1)).t τ) (a'.tmps.getD τ Go.undef)) →
      (∀ τ, (∀ j, j < ops.size → dstAt ops j = some τ → listed.getD j false = false) → VR ψ' w' (tget st.t τ) (a'.tmps.getD τ Go.undef)) → a'.defers = a.defers →
      (∀ j, j < ops.size → listed.getD j false = true) → Q .normal a' w' := by
    intro listed a' w' m ψ' hmn hE E S' tsz tw tu td hall
    refine hQ a' w' ⟨⟨ψ', E, ?_, ?_⟩, td⟩
    · rw [hlast, hheap m ops.size hmn (Nat.le_refl _) (fun j h1 h2 h3 => by have := (hE j h2 h3).1 (hall j h2); omega)]
      exact S'
    · refine ⟨tsz, fun τ => ?_⟩
      rw [hlast]
      by_cases hw : ∃ j, j < ops.size ∧ dstAt ops j = some τ
      · obtain ⟨j, hj, hd⟩ := hw
        rw [htmp τ (j + 1) ops.size (by omega) (Nat.le_refl _) (fun k h1 h2 => F.one j k τ (by omega) h2 hd)]
        exact tw τ j hj hd (hall j hj)
      · have hno : ∀ j, j < ops.size → dstAt ops j ≠ some τ := fun j hj hd => hw ⟨j, hj, hd⟩
        rw [htmp τ 0 ops.size (by omega) (Nat.le_refl _) (fun k _ h2 => hno k h2), hs0]
        exact tu τ fun j hj hd => (hno j hj hd).elim
  have key : ∀ (fuel : Nat) (listed : Array Bool) (a' : Act) (w' : World) (m : Nat) (ψ' : Gh), listed.size = ops.size →
      (∀ i (o : Oper), ops[i]? = some o → listed.getD i false = true → ∀ e ∈ o.after, Region.binds .any e = true → e.on < i ∧ listed.getD e.on false = true) →
      m ≤ ops.size → (∀ j, j < ops.size → clsAt P ops j = 2 → (listed.getD j false = true ↔ j < m)) → Ext ψ w ψ' w' → Sim ψ' w' (s m).h → st.nt ≤ a'.tmps.size →
      (∀ τ j, j < ops.size → dstAt ops j = some τ → listed.getD j false = true → VR ψ' w' (tget (s (j + 1)).t τ) (a'.tmps.getD τ Go.undef)) →
      (∀ τ, (∀ j, j < ops.size → dstAt ops j = some τ → listed.getD j false = false) → VR ψ' w' (tget st.t τ) (a'.tmps.getD τ Go.undef)) → a'.defers = a.defers →
      ((List.range ops.size).filter fun j => !listed.getD j false).length ≤ fuel → wpAny P .any ops Q fuel listed a' w' := by
    intro fuel
    induction fuel with
    | zero =>
      intro listed a' w' m ψ' hsz hclo hmn hE E S' tsz tw tu td hcnt
      have hall : ∀ j, j < ops.size → listed.getD j false = true := fun j hj => by
        have h0 : (List.range ops.size).filter (fun j => !listed.getD j false) = [] := List.eq_nil_of_length_eq_zero (by omega)
        rw [List.filter_eq_nil_iff] at h0
        have := h0 j (List.mem_range.2 hj)
        simpa using this
      refine ⟨?_, fin listed a' w' m ψ' hmn hE E S' tsz tw tu td hall⟩
      refine List.eq_nil_iff_forall_not_mem.2 fun j hj => ?_
      obtain ⟨h1, o, ho, _⟩ := mem_ready.1 hj
      have hlt := (Array.getElem?_eq_some_iff.1 ho).1
      rw [gd listed j hsz hlt, hall j hlt] at h1
      cases h1
    | succ fuel ih =>
      intro listed a' w' m ψ' hsz hclo hmn hE E S' tsz tw tu td hcnt
      refine ⟨fun hr => ?_, fun i hi => ?_⟩
      · have hall : ∀ j, j < ops.size → listed.getD j false = true := by
          intro j
          induction j using Nat.strongRecOn with
          | _ j ihj =>
            intro hj
            cases hl : listed.getD j false with
            | true => rfl
            | false =>
              have : j ∈ Region.ready .any ops listed := by
                refine mem_ready.2 ⟨by rw [gd listed j hsz hj]; exact hl, ops[j], Array.getElem?_eq_getElem hj, fun e he hb => ?_⟩
                have hon := F.on j _ (Array.getElem?_eq_getElem hj) e he hb
                exact ihj e.on hon (by omega)
              rw [hr] at this
              cases this
        exact fin listed a' w' m ψ' hmn hE E S' tsz tw tu td hall
      · obtain ⟨hun, o, ho, hpre⟩ := mem_ready.1 hi
        have hin := (Array.getElem?_eq_some_iff.1 ho).1
        have hoi : ops[i]? = some ops[i] := Array.getElem?_eq_getElem hin
        have hoe : o = ops[i] := by rw [ho] at hoi; exact Option.some.inj hoi
        rw [gd listed i hsz hin] at hun
        -- what is closed under the masks
        have hmask : ∀ j k, j < ops.size → listed.getD j false = true → (ms.getD j 0).testBit k = true → listed.getD k false = true := fun j k hj hl hb =>
          (closed_masks (D := fun j => listed.getD j false = true) (fun i o ho hD e he hb => hclo i o ho hD e he hb) j k hj hl hb).1
        let listed' := listed.setIfInBounds i true
        have hget : ∀ j, listed'.getD j false = if j = i then true else listed.getD j false := fun j => by
          simp only [listed', Array.getD_eq_getD_getElem?]
          by_cases h : j = i
          · subst h; rw [if_pos rfl, Array.getElem?_setIfInBounds_self_of_lt (by omega)]; rfl
          · rw [if_neg h, Array.getElem?_setIfInBounds_ne (by omega)]
        have hclo' : ∀ j (o : Oper), ops[j]? = some o → listed'.getD j false = true → ∀ e ∈ o.after, Region.binds .any e = true → e.on < j ∧ listed'.getD e.on false = true := fun j o' ho' hl e he hb => by
          rw [hget] at hl ⊢
          by_cases hji : j = i
          · subst hji
            rw [ho] at ho'; cases ho'
            have h1 := hpre e he hb
            refine ⟨F.on j o ho e he hb, ?_⟩
            split
            · rfl
            · exact h1
          · rw [if_neg hji] at hl
            obtain ⟨q1, q2⟩ := hclo j o' ho' hl e he hb
            refine ⟨q1, ?_⟩
            split
            · rfl
            · exact q2
        have hmaski : ∀ k, (ms.getD i 0).testBit k = true → k ≠ i → listed.getD k false = true := fun k hb hk => by
          have := (closed_masks (D := fun j => listed'.getD j false = true) (fun i o ho hD e he hb => hclo' i o ho hD e he hb) i k hin (by simp only [hget]; simp) hb).1
          simp only [hget, if_neg hk] at this
          exact this
        -- the operands
        have hrd : ∀ τ ∈ reads ops o, VR ψ' w' (tget (s i).t τ) (a'.tmps.getD τ Go.undef) := fun τ hτ => by
          by_cases hw : ∃ j, j < ops.size ∧ dstAt ops j = some τ
          · obtain ⟨j, hj, hd⟩ := hw
            by_cases hji : j < i
            · have hl := hmaski j (F.after j i τ o hji ho hd hτ) (by omega)
              rw [htmp τ (j + 1) i (by omega) (by omega) (fun k h1 h2 => F.one j k τ (by omega) (by omega) hd)]
              exact tw τ j hj hd hl
            · have hl : listed.getD j false = false := by
                by_cases hje : j = i
                · rw [hje]; exact hun
                · cases hl : listed.getD j false with
                  | false => rfl
                  | true =>
                    have := hmask j i hj hl (F.ahead i j τ o (by omega) hj ho hd hτ)
                    rw [hun] at this; cases this
              have huniq : ∀ k, k < ops.size → dstAt ops k = some τ → k = j := fun k hk hkd => by
                rcases Nat.lt_trichotomy k j with h | h | h
                · exact (F.one k j τ h hj hkd hd).elim
                · exact h
                · exact (F.one j k τ h hk hd hkd).elim
              rw [htmp τ 0 i (by omega) (by omega) (fun k _ h2 hkd => by have := huniq k (by omega) hkd; omega), hs0]
              exact tu τ fun k hk hkd => by rw [huniq k hk hkd]; exact hl
          · have hno : ∀ j, j < ops.size → dstAt ops j ≠ some τ := fun j hj hd => hw ⟨j, hj, hd⟩
            rw [htmp τ 0 i (by omega) (by omega) (fun k _ h2 => hno k (by omega)), hs0]
            exact tu τ fun j hj hd => (hno j hj hd).elim
        have hev : ∀ x ∈ o.op.operands, VR ψ' w' (ev (s i).t x) (a'.eval x) := fun x hx => by
          cases x with
          | tmp τ => exact hrd τ (by simp only [reads, List.mem_append, List.mem_filterMap]; exact .inl ⟨.tmp τ, by simpa using hx, rfl⟩)
          | const v => exact VR_ofVal v
          | global g => exact .bad _
          | func f => exact .fn _ [] [] _ _ rfl rfl (fun i hi => absurd hi (by simp)) (fun i hi => absurd hi (by simp))
        -- what has turned the heap up to here
        have hEi : clsAt P ops i = 2 → ∀ j, j < ops.size → clsAt P ops j = 2 → (listed.getD j false = true ↔ j < i) := fun hci j hj hcj => by
          constructor
          · intro hl
            rcases Nat.lt_trichotomy j i with h | h | h
            · exact h
            · rw [h, hun] at hl; cases hl
            · have := hmask j i hj hl (F.two i j h hj hci hcj)
              rw [hun] at this; cases this
          · intro hlt
            exact hmaski j (F.two j i hlt hin hcj hci) (by omega)
        have hsame : ∀ m', m' ≤ ops.size → (∀ j, j < ops.size → clsAt P ops j = 2 → (j < m ↔ j < m')) → (s m').h = (s m).h := fun m' hm' hj => by
          rcases Nat.le_total m m' with h | h
          · exact hheap m m' h hm' fun j h1 h2 h3 => by have := (hj j (by omega) h3).2 h2; omega
          · exact (hheap m' m h hmn fun j h1 h2 h3 => by have := (hj j (by omega) h3).1 h2; omega).symm
        obtain ⟨v, h', p1, p2, p3, p4⟩ := hput i o ho
        -- on to the next
        let m1 := if clsAt P ops i = 2 then i + 1 else m
        have next : ∀ (u : Value) (ψ1 : Gh) (w1 : World), Ext ψ' w' ψ1 w1 → Sim ψ1 w1 (s m1).h → VR ψ1 w1 v u → wpAny P .any ops Q fuel listed' (a'.put o.dst u) w1 := fun u ψ1 w1 E1 S1 V1 => by
          have hts : (a'.put o.dst u).tmps.size = a'.tmps.size := by cases hd : o.dst <;> simp [Act.put]
          have hta : ∀ τ, (a'.put o.dst u).tmps.getD τ Go.undef = if o.dst = some τ then u else a'.tmps.getD τ Go.undef := fun τ => by
            cases hd : o.dst with
            | none => simp [Act.put]
            | some d =>
              have hlt := (p2 d hd).1
              simp only [Act.put]
              rw [getD_set _ _ _ _ (Nat.lt_of_lt_of_le hlt tsz)]
              by_cases h : τ = d
              · subst h; simp
              · rw [if_neg h, if_neg (fun e => h (Option.some.inj e).symm)]
          refine ih listed' (a'.put o.dst u) w1 m1 ψ1 (by simp [listed', hsz]) hclo' ?_ ?_ (E.trans E1) S1 (by rw [hts]; exact tsz) ?_ ?_ ((put_defers _ _ _).trans td) ?_
          · simp only [m1]; split <;> omega
          · intro j hj hcj
            rw [hget]
            by_cases hci : clsAt P ops i = 2
            · simp only [m1, if_pos hci]
              by_cases hji : j = i
              · subst hji; simp
              · rw [if_neg hji, hEi hci j hj hcj]; omega
            · simp only [m1, if_neg hci]
              have hji : j ≠ i := fun h => hci (h ▸ hcj)
              rw [if_neg hji]
              exact hE j hj hcj
          · intro τ j hj hd hl
            rw [hta]
            rw [hget] at hl
            by_cases hji : j = i
            · subst hji
              rw [hdst _ _ ho] at hd
              rw [if_pos hd, (p2 τ hd).2]
              exact V1
            · rw [if_neg hji] at hl
              have hne : o.dst ≠ some τ := fun h => by
                rw [← hdst i o ho] at h
                rcases Nat.lt_trichotomy i j with h1 | h1 | h1
                · exact F.one i j τ h1 hj h hd
                · exact hji h1.symm
                · exact F.one j i τ h1 hin hd h
              rw [if_neg hne]
              exact (tw τ j hj hd hl).mono E1
          · intro τ hno
            rw [hta]
            have hne : o.dst ≠ some τ := fun h => by
              have := hno i hin (by rw [hdst i o ho]; exact h)
              rw [hget] at this
              simp at this
            rw [if_neg hne]
            refine (tu τ fun j hj hd => ?_).mono E1
            have := hno j hj hd
            rw [hget] at this
            split at this
            · cases this
            · exact this
          · have : ((List.range ops.size).filter fun j => !listed'.getD j false).length < ((List.range ops.size).filter fun j => !listed.getD j false).length := by
              refine filter_lt _ (fun x _ hx => ?_) ⟨i, List.mem_range.2 hin, by simp [hun], by rw [hget]; simp⟩
              rw [hget] at hx
              split at hx
              · cases hx
              · exact hx
            omega
        have hSi : clsAt P ops i = 2 → Sim ψ' w' (s i).h := fun hci => by
          rw [hsame i (by omega) fun j hj hcj => by rw [← hE j hj hcj]; exact hEi hci j hj hcj]; exact S'
        have hSn : clsAt P ops i ≠ 2 → Sim ψ' w' (s m1).h := fun hci => by simp only [m1, if_neg hci]; exact S'
        unfold wpOp
        rw [ho]
        simp only
        rcases p4 with ⟨hw, hv, hh⟩ | ⟨hw, hcase⟩
        · rw [want_of hrd hw]
          simp only [Bool.false_eq_true, if_false]
          refine next _ ψ' w' (Ext.refl _ _) ?_ (hv ▸ .undef)
          by_cases hci : clsAt P ops i = 2
          · simp only [m1, if_pos hci]; rw [p1, hh]; exact hSi hci
          · exact hSn hci
        · rw [want_of hrd hw]
          simp only [if_true]
          refine .inl ?_
          unfold Oper.wp
          by_cases hci : clsAt P ops i = 2
          · have hm1 : m1 = i + 1 := by simp only [m1, if_pos hci]
            have Si := hSi hci
            rcases hcase with he | ⟨he, hv⟩ | ⟨f, args, h0, he, hc⟩
            · obtain ⟨u, w1, ψ1, r1, r2, r3, r4⟩ := op_sound Si he hev
              rw [r1, Oper.upon_value]
              exact next u ψ1 w1 r2 (by rw [hm1, p1]; exact r3) r4
            · obtain ⟨w1, ψ1, r1, r2, r3⟩ := op_sound Si he hev
              rw [r1, Oper.upon_skip]
              exact next _ ψ1 w1 r2 (by rw [hm1, p1]; exact r3) (hv ▸ .undef)
            · obtain ⟨vs, r1, r2, r3, r4⟩ := op_sound Si he hev
              rw [r1, Oper.upon_enter]
              refine (hcf f args h0 v h' hc r4 ψ' w' vs r2 r3).mono ?_
              rintro e w1 ⟨u, ψ1, rfl, q1, q2, q3⟩
              exact next u ψ1 w1 q1 (by rw [hm1, p1]; exact q2) q3
          · have hci' : cls P o.op ≠ 2 := by simpa [clsAt, ho] using hci
            have heff : opEff P (ev (s i).t) (s i).h o = some (.val v (s i).h) := by
              rcases hcase with he | ⟨he, hv⟩ | ⟨f, args, h0, he, hc⟩
              · obtain ⟨v', e'⟩ := read_cls hci' he; cases e'; exact he
              · obtain ⟨v', e'⟩ := read_cls hci' he; cases e'
              · obtain ⟨v', e'⟩ := read_cls hci' he; cases e'
            have heff2 : opEff P (ev (s i).t) (s m).h o = some (.val v (s m).h) := by
              by_cases hc0 : cls P o.op = 0
              · obtain ⟨v', e1, e2⟩ := pure_cls hc0 heff
                cases e1
                exact e2 _
              · have hc1 : clsAt P ops i = 1 := by
                  simp only [clsAt, ho]
                  have hle : cls P o.op ≤ 2 := by
                    cases hop : o.op <;> simp only [cls] <;> first | omega | (split <;> omega)
                  omega
                obtain ⟨r, r1, r2, r3⟩ := rep_of (P := P) ops m
                have hrm : (s m).h = (s r).h := hheap r m r1 hmn r3
                rw [hrm]
                have hecr : ec P ops r = ec P ops m := ec_none r1 r3
                by_cases hec : ec P ops r = ec P ops i
                · have : (s r).h = (s i).h := by
                    rcases Nat.le_total r i with h | h
                    · exact (hheap r i h (by omega) (ec_same h hec)).symm
                    · exact hheap i r h (by omega) (ec_same h hec.symm)
                  rw [this]; exact heff
                · have hmem : (i, readPlan P ops ms i) ∈ pl := by
                    rw [hple]
                    exact List.mem_map.2 ⟨i, List.mem_filter.2 ⟨List.mem_range.2 hin, by simp [hc1]⟩, rfl⟩
                  have hrp : r ∈ readPlan P ops ms i := by
                    unfold readPlan
                    refine List.mem_filter.2 ⟨List.mem_range.2 (by omega), ?_⟩
                    simp only [Bool.and_eq_true, Bool.or_eq_true, beq_iff_eq, bne_iff_ne]
                    refine ⟨⟨r2.imp (fun h => h) (fun h => h.2), hec⟩, List.all_eq_true.2 fun j hj => ?_⟩
                    have hj' := List.mem_range.1 hj
                    by_cases hcj : clsAt P ops j = 2
                    · have hcj' : (clsAt P ops j == 2) = true := by simp [hcj]
                      rw [hcj']
                      simp only [Bool.not_true, Bool.false_or]
                      split
                      · rename_i hjr
                        have hl := (hE j hj' hcj).2 (by omega)
                        cases hb : (ms.getD j 0).testBit i with
                        | false => rfl
                        | true => have := hmask j i hj' hl hb; rw [hun] at this; cases this
                      · rename_i hjr
                        cases hb : (ms.getD i 0).testBit j with
                        | false => rfl
                        | true =>
                          have hji : j ≠ i := fun h => by rw [h, hc1] at hcj; cases hcj
                          have hl := hmaski j hb hji
                          have := (hE j hj' hcj).1 hl
                          exact (r3 j (by omega) this hcj).elim
                    · have hcj' : (clsAt P ops j == 2) = false := by simp [hcj]
                      rw [hcj']; rfl
                  have hsm := (List.all_eq_true.1 ((List.all_eq_true.1 hchk) _ hmem)) r hrp
                  unfold readSame at hsm
                  rw [ho, hs i (by omega), hs r (by omega)] at hsm
                  simp only at hsm
                  rw [hw, heff] at hsm
                  simp only at hsm
                  split at hsm
                  · rename_i v1 _ v2 hx e1 e2
                    cases e1
                    obtain ⟨v3, e3⟩ := read_cls hci' e2
                    cases e3
                    rw [beqAV_eq _ _ hsm]
                    exact e2
                  · cases hsm
            obtain ⟨u, w1, ψ1, r1, r2, r3, r4⟩ := op_sound S' heff2 hev
            rw [r1, Oper.upon_value]
            exact next u ψ1 w1 r2 (by simp only [m1, if_neg hci]; exact r3) r4
  refine key ops.size _ a _ 0 ψ (by simp) ?_ (by omega) ?_ (Ext.drew ψ w) (by rw [hs0]; exact S.drew) T.size ?_ ?_ rfl ?_
  · intro i o ho hl
    rw [Array.getD_eq_getD_getElem?, Array.getElem?_replicate] at hl
    split at hl <;> simp at hl
  · intro j hj _
    rw [Array.getD_eq_getD_getElem?, Array.getElem?_replicate, if_pos hj]
    simp
  · intro τ j hj _ hl
    rw [Array.getD_eq_getD_getElem?, Array.getElem?_replicate, if_pos hj] at hl
    simp at hl
  · intro τ _
    exact (T.val τ).mono (Ext.drew ψ w)
  · exact Nat.le_trans (List.length_filter_le _ _) (by simp)
end
end Go.Vm
