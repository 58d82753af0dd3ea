/- The value machine: calls; what a call answers, whatever the rounds; equations. Conditions: the program follows mixed orders. -/
import Derived.Test.YtlcodjmjchiemaaVmDraw2
set_option linter.unusedSimpArgs false
set_option linter.unusedVariables false
namespace Go.Vm

section
variable {μ : Type → Type} [Mp μ] (P : Program)

def callF : Nat → Cf μ
  | 0 => fun _ _ _ => none
  | n + 1 => fun f args h => match P.funcs[f]? with
    | none => none
    | some fn => match fn.body with
      | none => none
      | some c => match execF P (callF n) (drawF P (callF n)) n none c ⟨argsT args, max args.length fn.ntmps, h⟩ with
        | some (.normal, st) => (resultsAV P fn st.t st.h).map fun r => (r, st.h)
        | some (.ret, st) => (resultsAV P fn st.t st.h).map fun r => (r, st.h)
        | _ => none
end

section
variable {μ : Type → Type} [Mp μ] {P : Program}

theorem argsT_get (args : List AV) (i : Nat) : tget (argsT args : μ AV) i = (args[i]?).getD .undef := by
  have key : ∀ (l : List AV) (m : μ AV) (k : Nat), tget (l.foldl (fun (p : μ AV × Nat) a => (Mp.set p.1 p.2 a, p.2 + 1)) (m, k)).1 i = if k ≤ i ∧ i < k + l.length then (l[i - k]?).getD .undef else tget m i := by
    intro l
    induction l with
    | nil => intro m k; rw [if_neg (by simp only [List.length_nil]; omega)]; rfl
    | cons a l ih =>
      intro m k
      simp only [List.foldl_cons]
      rw [ih]
      by_cases h1 : k + 1 ≤ i ∧ i < k + 1 + l.length
      · rw [if_pos h1, if_pos (by simp only [List.length_cons]; omega), show i - k = (i - (k + 1)) + 1 from by omega]
        simp
      · rw [if_neg h1, tget_set]
        by_cases h2 : i = k
        · rw [if_pos h2, if_pos (by simp only [List.length_cons]; omega)]
          subst h2; simp
        · rw [if_neg h2, if_neg (by simp only [List.length_cons]; omega)]
  unfold argsT
  rw [key]
  split
  · simp
  · rename_i h
    have : args[i]? = none := List.getElem?_eq_none (by omega)
    rw [this]
    simp [tget, Mp.get_emp]

def resS (tmps : Array Value) : ResultVar → Sem Value
  | .tmp t => pure (tmps.getD t Go.undef)
  | .cell a t => do loadVar t (← asAddr (tmps.getD a Go.undef))

theorem results_eq (fn : Func) (tmps : Array Value) : results fn tmps = (do let vs ← fn.results.mapM (resS tmps); pure (if h : vs.size = 1 then vs[0] else .tuple vs)) := by
  unfold results
  have : (fun (x : ResultVar) => (match x with | .tmp t => pure (tmps.getD t Go.undef) | .cell a t => do loadVar t (← asAddr (tmps.getD a Go.undef)) : Sem Value)) = resS tmps := by
    funext x; cases x <;> rfl
  rw [← this]
  rfl

theorem resultV_sound {ψ : Gh} {w : World} {h : Hp μ} {t : μ AV} {nt : Nat} {a : Act} (S : Sim ψ w h) (T : TR ψ w t nt a) {rv : ResultVar} {r : AV} (hr : resultV P t h rv = some r) :
    ∃ u, (resS a.tmps rv).run P w = .ok u w ∧ VR ψ w r u := by
  cases rv with
  | tmp i => cases hr; exact ⟨_, rfl, T.val i⟩
  | cell x ty =>
    simp only [resultV] at hr
    have hx := T.val x
    obtain ⟨u, h1, h2⟩ := load_sound S hr hx
    refine ⟨u, ?_, h2⟩
    simp only [resS]
    generalize tget t x = av at hr hx
    generalize a.tmps.getD x Go.undef = v at hx h1
    unfold loadAV at hr
    cases hx <;> (try (cases h3 : tagg P ty <;> cases h4 : tsize P ty <;> rw [h3, h4] at hr <;> cases hr; done))
    · simp only [asAddr, Sem.run_bind, Sem.run_pure, Result.andThen_ok]
      simpa [Instr.loadAt, Instr.sureAddr] using h1
    · simp only [asAddr, Sem.run_bind, Sem.run_pure, Result.andThen_ok]
      simpa [Instr.loadAt, Instr.sureAddr] using h1

theorem results_sound {ψ : Gh} {w : World} {h : Hp μ} {t : μ AV} {nt : Nat} {a : Act} {fn : Func} (S : Sim ψ w h) (T : TR ψ w t nt a) {r : AV} (hr : resultsAV P fn t h = some r) :
    ∃ u, (results fn a.tmps).run P w = .ok u w ∧ VR ψ w r u := by
  have key : ∀ (l : List ResultVar) (rs : List AV), l.mapM (resultV P t h) = some rs → ∃ us : List Value, (l.mapM (resS a.tmps)).run P w = .ok us w ∧ us.length = rs.length ∧ l.length = rs.length ∧
      ∀ i (h1 : i < rs.length) (h2 : i < us.length), VR ψ w rs[i] us[i] := by
    intro l
    induction l with
    | nil => intro rs h; simp at h; subst h; exact ⟨[], by simp, rfl, rfl, fun i h1 => by simp at h1⟩
    | cons rv l ih =>
      intro rs h
      simp only [List.mapM_cons, Option.bind_eq_bind, Option.pure_def, Option.bind_eq_some_iff] at h
      obtain ⟨r0, e1, rs', e2, e3⟩ := h
      cases e3
      obtain ⟨us, h1, h2, h3, h4⟩ := ih rs' e2
      obtain ⟨u, g1, g2⟩ := resultV_sound S T e1
      refine ⟨u :: us, ?_, by simp [h2], by simp [h3], fun i h5 h6 => ?_⟩
      · simp only [List.mapM_cons, Sem.run_bind, g1, Result.andThen_ok, h1, Sem.run_pure]
      · cases i with
        | zero => exact g2
        | succ i => simpa using h4 i (by simpa using h5) (by simpa using h6)
  have hrun : ∀ us : List Value, (fn.results.toList.mapM (resS a.tmps)).run P w = .ok us w → (results fn a.tmps).run P w = .ok (if h : us.toArray.size = 1 then us.toArray[0] else .tuple us.toArray) w := fun us h => by
    rw [results_eq, Array.mapM_eq_mapM_toList]
    simp only [Sem.run_bind, Sem.run_map, h, Result.andThen_ok, Sem.run_pure]
  unfold resultsAV at hr
  split at hr
  · rename_i rv hl
    obtain ⟨u, g1, g2⟩ := resultV_sound S T hr
    refine ⟨u, ?_, g2⟩
    rw [hrun [u] (by rw [hl]; simp [g1])]
    simp
  · rename_i hne
    simp only [Option.map_eq_some_iff] at hr
    obtain ⟨rs, e1, rfl⟩ := hr
    obtain ⟨us, h1, h2, h3, h4⟩ := key _ rs e1
    refine ⟨_, hrun us h1, ?_⟩
    have hn1 : ¬ us.toArray.size = 1 := fun h => by
      rw [List.size_toArray] at h
      have : fn.results.toList.length = 1 := by omega
      match hq : fn.results.toList, this with
      | [x], _ => exact hne x hq
    rw [dif_neg hn1]
    exact .tup _ _ (by simp [h2]) fun i hi => by simpa using h4 i hi (by omega)

theorem call_sound (hm : P.follows .mixedOrders = true) : ∀ n, CfSound P (callF P n : Cf μ)
  | 0 => fun f args h r h' hc => by simp [callF] at hc
  | n + 1 => fun f args h r h' hc hb ψ w vs S V => by
    have ih := call_sound hm n
    simp only [callF] at hc
    split at hc
    · cases hc
    · rename_i fn hf
      split at hc
      · cases hc
      · rename_i c hbd
        have hsz := V.1
        have hinit : TR ψ w (argsT args : μ AV) (max args.length fn.ntmps) { tmps := vs ++ Array.replicate (fn.ntmps - vs.size) Go.undef, defers := [] } := by
          refine ⟨by simp; omega, fun i => ?_⟩
          rw [argsT_get]
          simp only [Array.getD_eq_getD_getElem?]
          by_cases hi : i < args.length
          · rw [List.getElem?_eq_getElem hi, Array.getElem?_append_left (by omega), Array.getElem?_eq_getElem (by omega)]
            exact V.2 i hi
          · rw [List.getElem?_eq_none (by omega), Array.getElem?_append_right (by omega), Array.getElem?_replicate]
            split <;> exact .undef
        have hex := fun r st' (he : execF P (callF P n) (drawF P (callF P n)) n none c ⟨argsT args, max args.length fn.ntmps, h⟩ = some (r, st')) =>
          (exec_sound ih (draw_sound hm ih) n).1 c _ st' r he ψ w { tmps := vs ++ Array.replicate (fn.ntmps - vs.size) Go.undef, defers := [] } S hinit
        refine calls_of_wp hf hbd ?_
        split at hc
        · rename_i st' he
          simp only [Option.map_eq_some_iff] at hc
          obtain ⟨r0, e1, e2⟩ := hc
          cases e2
          refine wp_mono (hex _ _ he) ?_
          rintro e a w' ⟨rfl, ⟨ψ', q1, q2, q3⟩, q4⟩
          obtain ⟨u, u1, u2⟩ := results_sound q2 q3 e1
          exact ⟨q4, u, u1, u, ψ', rfl, q1, q2, u2⟩
        · rename_i st' he
          simp only [Option.map_eq_some_iff] at hc
          obtain ⟨r0, e1, e2⟩ := hc
          cases e2
          refine wp_mono (hex _ _ he) ?_
          rintro e a w' ⟨rfl, ⟨ψ', q1, q2, q3⟩, q4⟩
          obtain ⟨u, u1, u2⟩ := results_sound q2 q3 e1
          exact ⟨q4, u, u1, u, ψ', rfl, q1, q2, u2⟩
        · cases hc
end
end Go.Vm
