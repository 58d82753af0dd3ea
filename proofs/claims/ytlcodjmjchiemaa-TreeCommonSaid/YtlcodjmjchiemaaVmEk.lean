/- What functions of the program come to, in the value machine (a part of the proof of the claim's statement). No condition. -/
import Derived.Test.YtlcodjmjchiemaaVmTk
import Derived.Test.YtlcodjmjchiemaaVmEl
set_option linter.unusedSimpArgs false
set_option linter.unusedVariables false
namespace Go.Vm
open Go.Proofs Go.ChangeShapes Go.WideShapes Go.ChangeAt Go.RowKit

theorem flat_intk {t : Nat} {xs : List AV} (ht : Try.prog.underlying t = some (.int .i64)) (h : FlatV Try.prog t xs) : ∃ n, xs = [.int .i64 n] ∧ I64 n := by
  cases h with
  | bool h b => rw [ht] at h; cases h
  | int h n hn =>
    rw [ht] at h; cases h
    refine ⟨n, rfl, ?_⟩
    simp only [Lit.wf, Bool.and_eq_true, decide_eq_true_eq] at hn
    exact hn
  | str h s _ => rw [ht] at h; cases h
  | struct h parts _ => rw [ht] at h; cases h
theorem el_brk {x : AV} (h : ElV Try.prog 36 x) : ∃ b : Br, x = b.enc ∧ b.ok := by
  obtain ⟨xs, hf, ⟨_, rfl⟩ | ⟨hg, _⟩⟩ := h
  · cases hf with
    | bool h b => rw [Try.underlying36] at h; cases h
    | int h n _ => rw [Try.underlying36] at h; cases h
    | str h s _ => rw [Try.underlying36] at h; cases h
    | struct h parts hp =>
      rw [Try.underlying36] at h
      cases h
      obtain ⟨a, ha, ka⟩ := flat_intk Try.underlying3 (hp 0 _ rfl)
      obtain ⟨b, hb, kb⟩ := flat_intk Try.underlying3 (hp 1 _ rfl)
      obtain ⟨c, hc, kc⟩ := flat_intk Try.underlying3 (hp 2 _ rfl)
      obtain ⟨d, hd⟩ := flat_bool Try.underlying4 (hp 3 _ rfl)
      refine ⟨⟨a, b, c, d⟩, ?_, ka, kb, kc⟩
      show AV.agg ((List.range 4).flatMap parts) = _
      simp [List.range_succ, ha, hb, hc, hd]
  · simp at hg
theorem map_ofk {α : Type} (f : α → AV) (K : α → Prop) : ∀ (els : List AV), (∀ x ∈ els, ∃ p, x = f p ∧ K p) → ∃ l : List α, els = l.map f ∧ ∀ b ∈ l, K b
  | [], _ => ⟨[], rfl, fun b hb => (List.not_mem_nil hb).elim⟩
  | x :: ys, h => by
    obtain ⟨p, hp, kp⟩ := h x (by simp)
    obtain ⟨l, hl, kl⟩ := map_ofk f K ys (fun y hy => h y (by simp [hy]))
    exact ⟨p :: l, by simp [hp, hl], fun b hb => by rcases List.mem_cons.mp hb with k | hb; exact (k ▸ kp); exact kl b hb⟩
end Go.Vm
