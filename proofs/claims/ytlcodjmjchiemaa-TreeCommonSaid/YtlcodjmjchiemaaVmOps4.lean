/- The value machine: equality, conversions, indexing, least and greatest, and all operations together. No condition. -/
import Derived.Test.YtlcodjmjchiemaaVmOps3
set_option linter.unusedSimpArgs false
set_option linter.unusedVariables false
namespace Go.Vm

section
variable {μ : Type → Type} [Mp μ] {P : Program}
variable {ψ : Gh} {w : World} {h : Hp μ}

theorem eqlAV_sound : ∀ (d : Nat) (t : TypeId) (x y : AV) (xv yv : Value) (b : Bool) (D : Nat), eqlAV P d t x y = some b → VR ψ w x xv → VR ψ w y yv → d ≤ D → (Op.equalIn D t xv yv).run P w = .ok b w
  | 0, _, _, _, _, _, _, _, h, _, _, _ => by cases h
  | d + 1, t, x, y, xv, yv, b, 0, _, _, _, hD => by omega
  | d + 1, t, x, y, xv, yv, b, D + 1, h, hx, hy, hD => by
    unfold eqlAV at h
    split at h
    · rename_i hu; cases h; cases hx; cases hy; exact run_equalIn_bool' w D t _ _ hu
    · rename_i hu; cases hx; cases hy
      split at h
      · cases h
        rename_i hk; subst hk
        rw [run_equalIn_int w D t _ _ _ _ hu]; simp [BEq.beq]
      · cases h
    · rename_i hu; cases h; cases hx; cases hy
      rw [run_equalIn_string w D t _ _ hu, eqB_eq]; simp
    · rename_i hu; cases h; cases hx; cases hy; simp [Op.equalIn, underlying_run hu]
    · rename_i hu; cases h; cases hx; cases hy; simp [Op.equalIn, underlying_run hu]
    · rename_i hu; cases h; cases hx; cases hy; simp [Op.equalIn, underlying_run hu]
    · rename_i hu; cases h; cases hx; cases hy; simp [Op.equalIn, underlying_run hu]
    · rename_i hu; cases h; cases hx; cases hy; simp [Op.equalIn, underlying_run hu]
    · rename_i hu; cases h; cases hx; cases hy; simp [Op.equalIn, underlying_run hu]
    · rename_i hu; cases h; cases hx; cases hy; simp [Op.equalIn, underlying_run hu]
    · rename_i hu; cases h; cases hx; cases hy; simp [Op.equalIn, underlying_run hu]
    · rename_i hu; cases h; cases hx; cases hy; simp [Op.equalIn, underlying_run hu]
    · rename_i hu; cases h; cases hx; cases hy; simp [Op.equalIn, underlying_run hu]
    · rename_i hu; cases h; cases hx; cases hy; simp [Op.equalIn, underlying_run hu]
    · rename_i hu; cases h; cases hx; cases hy; simp [Op.equalIn, underlying_run hu]
    · rename_i fields as bs hu
      cases hx; rename_i av ha1 ha2
      cases hy; rename_i bv hb1 hb2
      split at h
      · cases h
      · rename_i hg
        simp only [Bool.or_eq_true, not_or, Bool.not_eq_true] at hg
        have hf : P.fieldsOf t = fields := by simp [Program.fieldsOf, hu]
        rw [run_equalIn_struct w D t av bv (by rw [hf]; exact hu) hg.1, hf]
        generalize fields.toList = fs at h
        clear hu hf hg
        induction fs generalizing b with
        | nil => simp only [List.foldr_nil] at h; cases h; simp [Op.eqFields]
        | cons f fs ih =>
          simp only [List.foldr_cons] at h
          by_cases hn : f.name = "_"
          · rw [if_pos hn] at h
            simp only [Op.eqFields, hn, ne_eq, not_true_eq_false, if_false]
            exact ih b h
          · rw [if_neg hn] at h
            cases hag : tagg P f.type with
            | none => rw [hag] at h; cases h
            | some ag =>
              cases hs : tsize P f.type with
              | none => rw [hag, hs] at h; cases h
              | some n =>
                rw [hag, hs] at h
                simp only [Option.bind_some] at h
                cases hpa : partAV ag n as f.offset with
                | none => rw [hpa] at h; cases h
                | some a =>
                  cases hpb : partAV ag n bs f.offset with
                  | none => rw [hpa, hpb] at h; cases h
                  | some c =>
                    rw [hpa, hpb] at h
                    simp only [Option.bind_some] at h
                    cases hr : eqlAV P d f.type a c with
                    | none => rw [hr] at h; cases h
                    | some r =>
                      rw [hr] at h
                      simp only [Option.bind_some] at h
                      obtain ⟨u, u1, u2⟩ := part_sound (P := P) (ψ := ψ) (w := w) hag hs ⟨ha1, ha2⟩ hpa
                      obtain ⟨v, v1, v2⟩ := part_sound (P := P) (ψ := ψ) (w := w) hag hs ⟨hb1, hb2⟩ hpb
                      have he := eqlAV_sound d f.type a c u v r D hr u2 v2 (by omega)
                      simp only [Op.eqFields, hn, ne_eq, not_false_eq_true, if_true, Sem.run_bind, u1, v1, Result.andThen_ok, he]
                      cases r with
                      | true => simp only [if_true] at h; simp only [Bool.not_true, Bool.false_eq_true, if_false]; exact ih b h
                      | false => simp only [Bool.false_eq_true, if_false] at h; cases h; simp
    · cases h

theorem eqGuard_sound {op : BinOp} {t : TypeId} {x y : Operand} {a b : AV} {av bv : Value} {q : Bool} {d : Nat} (h : eqlAV P (d + 1) t a b = some q) (hx : VR ψ w a av) (hy : VR ψ w b bv) : (eqGuard op t x y av bv).run P w = .ok () w := by
  unfold eqlAV at h
  split at h
  case h_16 =>
    cases hx; cases hy
    split at h
    · cases h
    · rename_i hg
      simp only [Bool.or_eq_true, not_or, Bool.not_eq_true] at hg
      exact run_eqGuard_agg w op t x y _ _ hg.2
  case h_17 => cases h
  all_goals (cases hx; cases hy; unfold eqGuard; simp only [Sem.run_ite]; split <;> rfl)
end
end Go.Vm
