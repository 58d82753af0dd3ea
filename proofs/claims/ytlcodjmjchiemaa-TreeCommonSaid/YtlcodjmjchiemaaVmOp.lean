/- The value machine: every operation that it does, the model does. No condition. -/
import Derived.Test.YtlcodjmjchiemaaVmOps5
set_option linter.unusedSimpArgs false
set_option linter.unusedVariables false
namespace Go.Vm

section
variable {μ : Type → Type} [Mp μ] {P : Program}
variable {ψ : Gh} {w : World} {h : Hp μ}

/-- What the model's operation must come to. -/
def EffR (P : Program) (ψ : Gh) (w : World) : Eff μ → Result Next → Prop
  | .val v h', r => ∃ u w' ψ', r = .ok (.value u) w' ∧ Ext ψ w ψ' w' ∧ Sim ψ' w' h' ∧ VR ψ' w' v u
  | .skip h', r => ∃ w' ψ', r = .ok .skip w' ∧ Ext ψ w ψ' w' ∧ Sim ψ' w' h'
  | .enter f args h', r => ∃ vs, r = .ok (.enter f vs) w ∧ Sim ψ w h' ∧ VRs ψ w args vs ∧ hasBody P f = true

theorem VRs_map {ρ : Operand → AV} {ρ' : Operand → Value} {xs : Array Operand} (hv : ∀ x ∈ xs, VR ψ w (ρ x) (ρ' x)) : VRs ψ w (xs.toList.map ρ) (xs.map ρ') :=
  ⟨by simp, fun i hi => by
    simp only [List.getElem_map, Array.getElem_toList, Array.getElem_map]
    exact hv _ (Array.getElem_mem _)⟩

theorem VRs_append {a b : List AV} {x y : Array Value} (ha : VRs ψ w a x) (hb : VRs ψ w b y) : VRs ψ w (a ++ b) (x ++ y) := by
  obtain ⟨h1, h2⟩ := ha
  obtain ⟨h3, h4⟩ := hb
  refine ⟨by simp [h1, h3], fun i hi => ?_⟩
  rw [List.length_append] at hi
  by_cases hlt : i < a.length
  · rw [List.getElem_append_left hlt, Array.getElem_append_left (by omega)]
    exact h2 i hlt
  · rw [List.getElem_append_right (by omega), Array.getElem_append_right (by omega)]
    simp only [h1]
    exact h4 _ (by omega)

omit [Mp μ] in
theorem vals_inv {v : Option AV} {e : Eff μ} (hl : vals h v = some e) : ∃ r, v = some r ∧ e = .val r h := by
  cases v with
  | none => cases hl
  | some r => cases hl; exact ⟨r, rfl, rfl⟩

omit [Mp μ] in
theorem valh_inv {v : Option (AV × Hp μ)} {e : Eff μ} (hl : valh v = some e) : ∃ r, v = some r ∧ e = .val r.1 r.2 := by
  cases v with
  | none => cases hl
  | some r => cases hl; exact ⟨r, rfl, rfl⟩

/-- An operation that leaves the world alone. -/
theorem eff_pure (S : Sim ψ w h) {r : AV} {s : Sem Value} (hs : ∃ u, s.run P w = .ok u w ∧ VR ψ w r u) : EffR P ψ w (.val r h) ((do pure (.value (← s)) : Sem Next).run P w) := by
  obtain ⟨u, h1, h2⟩ := hs
  exact ⟨u, w, ψ, by simp only [Sem.run_bind, h1, Result.andThen_ok, Sem.run_pure], Ext.refl _ _, S, h2⟩

theorem eff_heap {r : AV × Hp μ} {s : Sem Value} (hs : ∃ u w' ψ', s.run P w = .ok u w' ∧ Ext ψ w ψ' w' ∧ Sim ψ' w' r.2 ∧ VR ψ' w' r.1 u) : EffR P ψ w (.val r.1 r.2) ((do pure (.value (← s)) : Sem Next).run P w) := by
  obtain ⟨u, w', ψ', h1, h2, h3, h4⟩ := hs
  exact ⟨u, w', ψ', by simp only [Sem.run_bind, h1, Result.andThen_ok, Sem.run_pure], h2, h3, h4⟩

theorem callFunc_run {f : Nat} (hb : hasBody P f = true) (args : Array Value) (w : World) : (callFunc f args).run P w = .ok (.enter f args) w := by
  unfold hasBody at hb
  cases hf : P.funcs[f]? with
  | none => rw [hf] at hb; cases hb
  | some fn =>
    rw [hf] at hb
    simp only [Bool.and_eq_true, bne_iff_ne] at hb
    have h1 : (fn.name == "runtime.NumGoroutine") = false := by simpa using hb.2
    have h2 : fn.body.isNone = false := by
      cases hbd : fn.body with
      | none => rw [hbd] at hb; simp at hb
      | some c => rfl
    simp only [callFunc, Sem.run_bind, run_program, Result.andThen_ok, hf, h1, h2, Bool.false_eq_true, if_false, Sem.run_pure]

theorem enter_sound (S : Sim ψ w h) {f : AV} {fv : Value} {args : List AV} {av : Array Value} {e : Eff μ} (hl : enterFn P h f args = some e) (hf : VR ψ w f fv) (ha : VRs ψ w args av) :
    EffR P ψ w e ((do let d ← Deferred.ofValue fv av; invoke d.target d.args : Sem Next).run P w) := by
  unfold enterFn at hl
  split at hl
  · rename_i g first cap
    split at hl
    · rename_i hb
      cases hl
      cases hf with
      | fn f a b x y hx hy hxa hyb =>
        refine ⟨x ++ av ++ y, ?_, S, VRs_append (VRs_append ⟨hx, hxa⟩ ha) ⟨hy, hyb⟩, hb⟩
        simp only [Deferred.ofValue, Sem.run_bind, Sem.run_pure, Result.andThen_ok, invoke]
        exact callFunc_run hb _ _
    · cases hl
  · cases hl

theorem optmap_VRo {ρ : Operand → AV} {ρ' : Operand → Value} {x : Option Operand} (hv : ∀ q, x = some q → VR ψ w (ρ q) (ρ' q)) : VRo ψ w (x.map ρ) (x.map ρ') := by
  cases x with
  | none => trivial
  | some q => exact hv q rfl

theorem op_sound (S : Sim ψ w h) {ρ : Operand → AV} {ρ' : Operand → Value} {o : Oper} {e : Eff μ} (hl : opEff P ρ h o = some e) (hv : ∀ x ∈ o.op.operands, VR ψ w (ρ x) (ρ' x)) : EffR P ψ w e ((execOp ρ' o).run P w) := by
  unfold opEff at hl
  unfold execOp
  split at hl <;> (try (cases hl; done)) <;> rename_i heq <;> rw [heq] at hv ⊢ <;> simp only [Op.operands] at hv <;> simp only
  · cases hl; exact ⟨_, w, ψ, rfl, Ext.refl _ _, S, hv _ (by simp)⟩
  · cases hl; exact ⟨_, w, ψ, rfl, Ext.refl _ _, S, hv _ (by simp)⟩
  · rename_i c a b
    split at hl
    · rename_i q hq
      cases hl
      have hc := hv c (by simp)
      rw [hq] at hc
      generalize hcv : ρ' c = cv at hc
      cases hc
      refine ⟨if q then ρ' a else ρ' b, w, ψ, by simp [asBool], Ext.refl _ _, S, ?_⟩
      cases q
      · exact hv b (by simp)
      · exact hv a (by simp)
    · cases hl
  · rename_i t
    cases hz : tzero P t with
    | none => rw [hz] at hl; cases hl
    | some z =>
      rw [hz] at hl
      simp only [Option.bind_some] at hl
      split at hl
      · rename_i hc
        obtain ⟨r, hr, rfl⟩ := valh_inv hl
        cases hr
        obtain ⟨zv, hzr, hze⟩ := tzero_run hz w
        have hzz : VRs ψ w z.cells zv.cells := VR_zero hze hc
        obtain ⟨ψ', E, S', V⟩ := newRow_sound S (cs := z.cells) (c := zv.cells) (e := t) ⟨by rw [hzz.1]; exact Nat.le_refl _, fun i hi => ⟨zv.cells[i]'(by rw [hzz.1]; exact hi), by rw [Array.getElem?_eq_getElem], hzz.2 i hi⟩⟩ (Pushed.alloc w _)
        refine eff_heap ⟨_, _, ψ', ?_, E, S', V⟩
        simp only [Instr.alloc, Sem.run_bind, hzr, Result.andThen_ok, newVar, newRow, run_newObj, Sem.run_pure]
        rfl
      · cases hl
  · rename_i t x
    split at hl
    · rename_i hc
      obtain ⟨r, hr, rfl⟩ := valh_inv hl
      cases hr
      have hzz := (cells_rel (hv x (by simp)) hc).1
      obtain ⟨ψ', E, S', V⟩ := newRow_sound S (cs := (ρ x).cells) (c := (ρ' x).cells) (e := t) ⟨by rw [hzz.1]; exact Nat.le_refl _, fun i hi => ⟨(ρ' x).cells[i]'(by rw [hzz.1]; exact hi), by rw [Array.getElem?_eq_getElem], hzz.2 i hi⟩⟩ (Pushed.alloc w _)
      refine eff_heap ⟨_, _, ψ', ?_, E, S', V⟩
      simp only [Instr.box, Sem.run_bind, newVar, newRow, run_newObj, Result.andThen_ok, Sem.run_pure]
      rfl
    · cases hl
  · rename_i t parts
    obtain ⟨r, hr, rfl⟩ := vals_inv hl
    obtain ⟨h1, h2⟩ := parts_rel (ψ := ψ) (w := w) (ρ := ρ) (ρ' := ρ') parts (fun x hx => hv x (by simpa using hx))
    exact eff_pure S (build_sound (lv := parts.map fun (q : Nat × Operand) => (q.1, ρ' q.2)) hr h1 h2)
  · rename_i t len parts
    obtain ⟨r, hr, rfl⟩ := valh_inv hl
    obtain ⟨h1, h2⟩ := parts_rel (ψ := ψ) (w := w) (ρ := ρ) (ρ' := ρ') parts (fun x hx => hv x (by simpa using hx))
    exact eff_heap (buildSlice_sound S (lv := parts.map fun (q : Nat × Operand) => (q.1, ρ' q.2)) hr h1 h2)
  · rename_i t a
    obtain ⟨r, hr, rfl⟩ := vals_inv hl
    exact eff_pure S (load_sound S hr (hv a (by simp)))
  · rename_i t a x
    cases hst : storeAV P h t (ρ a) (ρ x) with
    | none => rw [hst] at hl; cases hl
    | some h' =>
      rw [hst] at hl; cases hl
      obtain ⟨w', h1, h2, h3⟩ := store_sound S hst (hv a (by simp)) (hv x (by simp))
      exact ⟨w', ψ, by simp only [Sem.run_bind, h1, Result.andThen_ok, Sem.run_pure], h2, h3⟩
  · rename_i x
    have hx := hv x (by simp)
    split at hl
    · rename_i a b hq
      cases hl
      rw [hq] at hx
      generalize ρ' x = xv at hx
      cases hx
      rename_i B ho
      exact ⟨_, w, ψ, rfl, Ext.refl _ _, S, .ptr _ _ B ho⟩
    · rename_i a b hq
      cases hl
      rw [hq] at hx
      generalize ρ' x = xv at hx
      have hx0 := hx
      cases hx
      exact ⟨_, w, ψ, rfl, Ext.refl _ _, S, hx0⟩
    · rename_i f a b hq
      cases hl
      rw [hq] at hx
      generalize ρ' x = xv at hx
      have hx0 := hx
      cases hx
      exact ⟨_, w, ψ, rfl, Ext.refl _ _, S, hx0⟩
    · cases hl
  · rename_i op t x y yt
    obtain ⟨r, hr, rfl⟩ := vals_inv hl
    exact eff_pure S (bin_sound hr (hv x (by simp)) (hv y (by simp)))
  · rename_i op t x
    obtain ⟨r, hr, rfl⟩ := vals_inv hl
    exact eff_pure S (un_sound hr (hv x (by simp)))
  · rename_i s d x
    obtain ⟨r, hr, rfl⟩ := valh_inv hl
    exact eff_heap (conv_sound S hr (hv x (by simp)))
  · rename_i t x
    split at hl
    · cases hl
    · rename_i d hd hu
      cases hl
      refine eff_pure S ⟨.iface t (ρ' x), ?_, .ifc t _ _ (hv x (by simp))⟩
      simp only [Instr.makeInterface, Sem.run_bind, underlying_run hu, Result.andThen_ok]
      cases d <;> first | rfl | exact absurd rfl (hd _)
    · cases hl
  · rename_i f a b
    cases hl
    have ha := VRs_map (ρ := ρ) (ρ' := ρ') (xs := a) (fun x hx => hv x (by simp [hx]))
    have hb := VRs_map (ρ := ρ) (ρ' := ρ') (xs := b) (fun x hx => hv x (by simp [hx]))
    exact eff_pure S ⟨_, rfl, .fn f _ _ _ _ ha.1 hb.1 ha.2 hb.2⟩
  · rename_i t l c
    obtain ⟨r, hr, rfl⟩ := valh_inv hl
    exact eff_heap (makeSlice_sound S hr (hv l (by simp)) (hv c (by simp)))
  · rename_i t x l u m
    obtain ⟨r, hr, rfl⟩ := vals_inv hl
    exact eff_pure S (slice_sound hr (hv x (by simp)) (optmap_VRo fun q hq => hv q (by subst hq; simp)) (optmap_VRo fun q hq => hv q (by subst hq; simp)) (optmap_VRo fun q hq => hv q (by subst hq; simp)))
  · rename_i s x f
    obtain ⟨r, hr, rfl⟩ := vals_inv hl
    exact eff_pure S (fieldAddr_sound hr (hv x (by simp)))
  · rename_i s x f
    obtain ⟨r, hr, rfl⟩ := vals_inv hl
    exact eff_pure S (field_sound hr (hv x (by simp)))
  · rename_i t x i
    obtain ⟨r, hr, rfl⟩ := vals_inv hl
    exact eff_pure S (indexAddr_sound hr (hv x (by simp)) (hv i (by simp)))
  · rename_i t x i
    obtain ⟨r, hr, rfl⟩ := vals_inv hl
    exact eff_pure S (index_sound hr (hv x (by simp)) (hv i (by simp)))
  · rename_i x i
    obtain ⟨r, hr, rfl⟩ := vals_inv hl
    refine eff_pure S ?_
    have hx := hv x (by simp)
    generalize ρ' x = xv at hx
    unfold extractAV at hr
    split at hr
    · rename_i vs hq
      rw [hq] at hx
      cases hx
      rename_i y hy hyv
      have hi : i < vs.length := by
        rcases Nat.lt_or_ge i vs.length with h1 | h1
        · exact h1
        · rw [List.getElem?_eq_none h1] at hr; cases hr
      rw [List.getElem?_eq_getElem hi] at hr
      cases hr
      refine ⟨y[i]'(by omega), ?_, hyv i hi⟩
      simp only [Instr.extract]
      rw [Array.getElem?_eq_getElem (by omega)]
      rfl
    · cases hr
  · rename_i c
    split at hl
    · rename_i b hcal
      have hargs := VRs_map (ψ := ψ) (w := w) (ρ := ρ) (ρ' := ρ') (xs := c.args) (fun x hx => hv x (by simp [Call.operands, hcal, hx]))
      simp only [resolve, hcal, Sem.run_bind, Sem.run_pure, Result.andThen_ok, invoke]
      generalize c.args.toList.map ρ = l at hl hargs
      generalize c.args.map ρ' = lv at hargs
      obtain ⟨hs, hvs⟩ := hargs
      unfold builtinAV at hl
      split at hl
      · rename_i x
        cases ht : c.argTypes[0]? with
        | none => rw [ht] at hl; cases hl
        | some t =>
          rw [ht] at hl
          obtain ⟨r, hr, rfl⟩ := vals_inv hl
          obtain ⟨lv⟩ := lv
          match lv, hs with
          | [xv], _ => exact eff_pure S (len_sound ht hr (by have := hvs 0 (by simp); simpa using this))
      · rename_i s x
        cases ht : c.argTypes[0]? with
        | none => rw [ht] at hl; cases hl
        | some t1 =>
          cases ht2 : c.argTypes[1]? with
          | none => rw [ht, ht2] at hl; cases hl
          | some t2 =>
            rw [ht, ht2] at hl
            obtain ⟨r, hr, rfl⟩ := valh_inv hl
            obtain ⟨lv⟩ := lv
            match lv, hs with
            | [sv, xv], _ => exact eff_heap (append_sound S ht ht2 hr (by have := hvs 0 (by simp); simpa using this) (by have := hvs 1 (by simp); simpa using this))
      · obtain ⟨r, hr, rfl⟩ := vals_inv hl
        have := minmax_sound (P := P) (ts := c.argTypes) (ty := o.type) hr ⟨hs, hvs⟩
        exact eff_pure S this
      · obtain ⟨r, hr, rfl⟩ := vals_inv hl
        have := minmax_sound (P := P) (ts := c.argTypes) (ty := o.type) hr ⟨hs, hvs⟩
        exact eff_pure S this
      · cases hl
    · rename_i f hcal
      have hargs := VRs_map (ψ := ψ) (w := w) (ρ := ρ) (ρ' := ρ') (xs := c.args) (fun x hx => hv x (by simp [Call.operands, hcal, hx]))
      have hf := hv f (by simp [Call.operands, hcal])
      have := enter_sound S hl hf hargs
      simp only [resolve, hcal]
      exact this
    · cases hl
end
end Go.Vm
