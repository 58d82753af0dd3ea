/- The value machine: regions whose order is drawn: whatever order is drawn, the model comes to what the machine answers. No condition. -/
import Derived.Test.YtlcodjmjchiemaaVmDrawDef
set_option linter.unusedSimpArgs false
set_option linter.unusedVariables false
namespace Go.Vm

section
variable {μ : Type → Type} [Mp μ] {P : Program}
variable {ψ : Gh} {w : World}

theorem testBit_fold (acc : List Nat) (k : Nat) : ∀ (l : List Edge) (s : Nat), (l.foldl (fun s e => if Region.binds .any e then s ||| 2 ^ e.on ||| acc.getD e.on 0 else s) s).testBit k = true →
    s.testBit k = true ∨ ∃ e ∈ l, Region.binds .any e = true ∧ (k = e.on ∨ (acc.getD e.on 0).testBit k = true)
  | [], s, h => .inl h
  | e :: l, s, h => by
    simp only [List.foldl_cons] at h
    rcases testBit_fold acc k l _ h with h | ⟨x, hx, hb, hk⟩
    · by_cases hb : Region.binds .any e = true
      · rw [if_pos hb] at h
        simp only [Nat.testBit_or, Bool.or_eq_true, Nat.testBit_two_pow, decide_eq_true_eq] at h
        rcases h with (h | h) | h
        · exact .inl h
        · exact .inr ⟨e, by simp, hb, .inl h.symm⟩
        · exact .inr ⟨e, by simp, hb, .inr h⟩
      · rw [if_neg hb] at h; exact .inl h
    · exact .inr ⟨x, by simp [hx], hb, hk⟩

theorem masks_get : ∀ (l : List Oper) (acc : List Nat) (i : Nat), i < acc.length → (masks l acc).getD i 0 = acc.getD i 0
  | [], _, _, _ => rfl
  | o :: rest, acc, i, h => by
    simp only [masks]
    rw [masks_get rest _ i (by simp; omega)]
    simp [List.getElem?_append_left h]

theorem masks_new : ∀ (l : List Oper) (acc : List Nat) (j : Nat) (hj : j < l.length), ∃ acc', acc'.length = acc.length + j ∧ (∀ i, i < acc'.length → (masks l acc).getD i 0 = acc'.getD i 0) ∧ (masks l acc).getD (acc.length + j) 0 = maskOf acc' l[j]
  | [], _, _, hj => by simp at hj
  | o :: rest, acc, 0, _ => ⟨acc, by simp, fun i hi => masks_get _ _ i hi, by
      simp only [masks, Nat.add_zero, List.getElem_cons_zero]
      rw [masks_get _ _ _ (by simp)]
      simp⟩
  | o :: rest, acc, j + 1, hj => by
    obtain ⟨acc', h1, h2, h3⟩ := masks_new rest (acc ++ [maskOf acc o]) j (by simpa using hj)
    simp only [List.length_append, List.length_cons, List.length_nil] at h1 h3
    refine ⟨acc', by omega, fun i hi => h2 i hi, ?_⟩
    simp only [masks, List.getElem_cons_succ]
    rw [show acc.length + (j + 1) = acc.length + (0 + 1) + j from by omega]
    exact h3

/-- What is closed under the edges is closed under the masks. -/
theorem closed_masks {ops : Array Oper} {D : Nat → Prop} (hc : ∀ i (o : Oper), ops[i]? = some o → D i → ∀ e ∈ o.after, Region.binds .any e = true → e.on < i ∧ D e.on) :
    ∀ i k, i < ops.size → D i → ((masks ops.toList []).getD i 0).testBit k = true → D k ∧ k < i := by
  intro i
  induction i using Nat.strongRecOn with
  | _ i ih =>
    intro k hi hD hb
    obtain ⟨acc, h1, h2, h3⟩ := masks_new ops.toList [] i (by simpa using hi)
    simp only [List.length_nil, Nat.zero_add] at h1 h3
    rw [h3] at hb
    unfold maskOf at hb
    rcases testBit_fold acc k _ 0 hb with h | ⟨e, he, hbi, hk⟩
    · simp at h
    · have ho : ops[i]? = some ops[i] := Array.getElem?_eq_getElem hi
      simp only [Array.getElem_toList] at he
      obtain ⟨e1, e2⟩ := hc i ops[i] ho hD e (by simpa using he) hbi
      rcases hk with rfl | hk
      · exact ⟨e2, e1⟩
      · rw [← h2 e.on (by omega)] at hk
        obtain ⟨q1, q2⟩ := ih e.on e1 k (by omega) e2 hk
        exact ⟨q1, by omega⟩

theorem pure_cls {h : Hp μ} {ρ : Operand → AV} {o : Oper} {e : Eff μ} (hc : cls P o.op = 0) (he : opEff P ρ h o = some e) : ∃ v, e = .val v h ∧ ∀ h' : Hp μ, opEff P ρ h' o = some (.val v h') := by
  have kv : ∀ {v : Option AV} {e : Eff μ}, vals h v = some e → ∃ r, e = .val r h ∧ ∀ h' : Hp μ, vals h' v = some (.val r h') := fun {v e} hh => by
    obtain ⟨r, hr, rfl⟩ := vals_inv hh
    exact ⟨r, rfl, fun h' => by rw [hr]; rfl⟩
  unfold opEff at he
  unfold opEff
  split at he <;> rename_i hop <;> simp only [hop, cls] at hc ⊢ <;> try (exact absurd hc (by decide))
  · cases he; exact ⟨_, rfl, fun h' => rfl⟩
  · cases he; exact ⟨_, rfl, fun h' => rfl⟩
  · split at he
    · cases he; exact ⟨_, rfl, fun h' => rfl⟩
    · cases he
  · exact kv he
  · split at he
    · cases he; exact ⟨_, rfl, fun h' => rfl⟩
    · cases he; exact ⟨_, rfl, fun h' => rfl⟩
    · cases he; exact ⟨_, rfl, fun h' => rfl⟩
    · cases he
  · exact kv he
  · exact kv he
  · obtain ⟨r, hr, rfl⟩ := valh_inv he
    unfold convAV at hr
    split at hr
    · cases hr; rename_i h0 h1 h2; exact ⟨_, rfl, fun h' => by simp only [convAV, h0, h1, h2]; rfl⟩
    · cases hr; rename_i h0 h1 h2; exact ⟨_, rfl, fun h' => by simp only [convAV, h0, h1, h2]; rfl⟩
    · rename_i h0 h1 h2; rw [h1] at hc; cases hc
    · rename_i h0 h1 h2
      split at hr
      · rename_i hu; cases hr; exact ⟨_, rfl, fun h' => by simp only [convAV, h0, h1, h2, hu, if_true]; rfl⟩
      · cases hr
    · rename_i h0 h1 h2
      split at hr
      · rename_i hu
        simp only [Option.map_eq_some_iff] at hr
        obtain ⟨s, hs, rfl⟩ := hr
        exact ⟨_, rfl, fun h' => by simp only [convAV, h0, h1, h2, hu, and_self, if_true, hs]; rfl⟩
      · cases hr
    · cases hr
  · split at he
    · cases he
    · cases he; exact ⟨_, rfl, fun h' => rfl⟩
    · cases he
  · cases he; exact ⟨_, rfl, fun h' => rfl⟩
  · exact kv he
  · exact kv he
  · exact kv he
  · exact kv he
  · exact kv he
  · exact kv he
  · split at he
    · rename_i b hb
      rw [hb] at hc
      simp only [builtinAV] at he ⊢
      split at he
      · simp only [Option.bind_eq_some_iff] at he
        obtain ⟨t, ht, he⟩ := he
        obtain ⟨r, h1, h2⟩ := kv he
        exact ⟨r, h1, fun h' => by rw [ht]; exact h2 h'⟩
      · exact absurd hc (by decide)
      · exact kv he
      · exact kv he
      · cases he
    · rename_i f hf
      rw [hf] at hc
      simp at hc
    · cases he

/-- The slots that a test looks at. -/
theorem want_of {ops : Array Oper} {t : μ AV} {a : Act} {o : Oper} {b : Bool} (h : ∀ d ∈ reads ops o, VR ψ w (tget t d) (a.tmps.getD d Go.undef)) (hw : want ops t o = some b) : Region.wanted o (yielded ops a.tmps) = b := by
  unfold want at hw
  unfold Region.wanted
  split at hw
  · rename_i hg; cases hw; simp [hg]
  · rename_i j q hg
    rw [hg]
    show (yielded ops a.tmps j == some q) = b
    rw [yielded_asB]
    split at hw
    · rename_i hd
      cases hw
      rw [hd]; rfl
    · rename_i d hd
      have hv := h d (by simp only [reads, hg, dstAt, hd]; simp)
      rw [hd]
      simp only [Option.bind_some]
      simp only [Array.getD_eq_getD_getElem?] at hv
      cases hx : a.tmps[d]? with
      | none =>
        rw [hx] at hv
        simp only [Option.getD_none] at hv
        split at hw
        · rename_i q2 ht; rw [ht] at hv; cases hv
        · cases hw
        · cases hw; rfl
      | some xv =>
        rw [hx] at hv
        simp only [Option.getD_some] at hv
        split at hw
        · rename_i q2 ht
          rw [ht] at hv
          cases hv
          cases hw
          rfl
        · cases hw
        · rename_i ht1 ht2
          cases hw
          cases xv <;> try rfl
          rename_i q2
          generalize tget t d = tv at hv ht1 ht2
          cases hv
          · exact (ht2 rfl).elim
          · exact (ht1 _ rfl).elim

/-- The states of a trace. -/
theorem trace_get {cf : Cf μ} {ops : Array Oper} : ∀ (l : List Oper) (st : St μ) (tr : List (St μ)), trace P cf ops l st = some tr → tr.length = l.length + 1 ∧ tr[0]? = some st ∧
    ∀ i (hi : i < l.length), ∃ s s', tr[i]? = some s ∧ tr[i + 1]? = some s' ∧ stepOp P cf ops l[i] s = some s'
  | [], st, tr, h => by cases h; exact ⟨rfl, rfl, fun i hi => by simp at hi⟩
  | o :: rest, st, tr, h => by
    simp only [trace, Option.bind_eq_some_iff, Option.map_eq_some_iff] at h
    obtain ⟨s1, h1, l, h2, rfl⟩ := h
    obtain ⟨q1, q2, q3⟩ := trace_get rest s1 l h2
    refine ⟨by simp [q1], rfl, fun i hi => ?_⟩
    cases i with
    | zero => exact ⟨st, s1, rfl, by simpa using q2, h1⟩
    | succ i =>
      obtain ⟨s, s', r1, r2, r3⟩ := q3 i (by simpa using hi)
      exact ⟨s, s', by simpa using r1, by simpa using r2, by simpa using r3⟩

theorem put_get {st st' : St μ} {dst : Option Nat} {v : AV} (h : Vm.put st dst v = some st') : st'.h = st.h ∧ st'.nt = st.nt ∧ (∀ d, dst = some d → d < st.nt ∧ tget st'.t d = v) ∧ ∀ i, dst ≠ some i → tget st'.t i = tget st.t i := by
  unfold Vm.put at h
  cases dst with
  | none => cases h; exact ⟨rfl, rfl, fun d hd => (by cases hd), fun i _ => rfl⟩
  | some d =>
    simp only at h
    split at h
    · rename_i hlt
      cases h
      refine ⟨rfl, rfl, fun d' hd' => ?_, fun i hi => ?_⟩
      · cases hd'; exact ⟨hlt, by simp [tget_set]⟩
      · simp only [tget_set]; rw [if_neg (fun e => hi (by rw [e]))]
    · cases h

/-- What one step of the machine is. -/
theorem stepOp_cases {cf : Cf μ} {ops : Array Oper} {o : Oper} {st st' : St μ} (h : stepOp P cf ops o st = some st') :
    ∃ v h', Vm.put { st with h := h' } o.dst v = some st' ∧
      ((want ops st.t o = some false ∧ v = .undef ∧ h' = st.h) ∨
       (want ops st.t o = some true ∧ (opEff P (ev st.t) st.h o = some (.val v h') ∨ (opEff P (ev st.t) st.h o = some (.skip h') ∧ v = .undef) ∨ ∃ f args h0, opEff P (ev st.t) st.h o = some (.enter f args h0) ∧ cf f args h0 = some (v, h')))) := by
  unfold stepOp at h
  split at h
  · cases h
  · rename_i hw; exact ⟨.undef, st.h, h, .inl ⟨hw, rfl, rfl⟩⟩
  · rename_i hw
    split at h
    · rename_i v h' he; exact ⟨v, h', h, .inr ⟨hw, .inl he⟩⟩
    · rename_i h' he; exact ⟨.undef, h', h, .inr ⟨hw, .inr (.inl ⟨he, rfl⟩)⟩⟩
    · rename_i f args h0 he
      split at h
      · rename_i r h' hc; exact ⟨r, h', h, .inr ⟨hw, .inr (.inr ⟨f, args, h0, he, hc⟩)⟩⟩
      · cases h
    · cases h

/-- An operation that does not turn the heap. -/
theorem read_cls {h : Hp μ} {ρ : Operand → AV} {o : Oper} {e : Eff μ} (hc : cls P o.op ≠ 2) (he : opEff P ρ h o = some e) : ∃ v, e = .val v h := by
  by_cases h0 : cls P o.op = 0
  · obtain ⟨v, h1, _⟩ := pure_cls h0 he; exact ⟨v, h1⟩
  · have h1 : ∃ t a, o.op = .load t a := by
      cases hop : o.op <;> rw [hop] at hc h0 <;> simp only [cls] at hc h0 <;> try (first | exact absurd trivial h0 | exact absurd rfl h0 | exact absurd rfl hc)
      · exact ⟨_, _, rfl⟩
      · split at h0
        · rename_i hx; rw [hx] at hc; exact absurd rfl hc
        · exact absurd rfl h0
      · split at h0
        · exact absurd rfl h0
        · exact absurd rfl h0
        · exact absurd rfl h0
        · rename_i h1 h2 h3
          split at hc
          · exact (h1 (by assumption)).elim
          · exact (h2 (by assumption)).elim
          · exact (h3 (by assumption)).elim
          · exact absurd rfl hc
    obtain ⟨t, a, hop⟩ := h1
    unfold opEff at he
    rw [hop] at he
    obtain ⟨r, hr, rfl⟩ := vals_inv he
    exact ⟨r, rfl⟩
end
end Go.Vm
