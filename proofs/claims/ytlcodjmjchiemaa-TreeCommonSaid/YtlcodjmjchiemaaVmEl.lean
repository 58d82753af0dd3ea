/- What functions of the program come to, in the value machine (a part of the proof of the claim's statement). No condition. -/
import Derived.Test.YtlcodjmjchiemaaVmTg
import Derived.Test.YtlcodjmjchiemaaVmTop2
set_option linter.unusedSimpArgs false
set_option linter.unusedVariables false
namespace Go.Vm
open Go.Proofs Go.ChangeShapes Go.WideShapes Go.ChangeAt Go.RowKit

theorem flat_int {t : Nat} {xs : List AV} (ht : Try.prog.underlying t = some (.int .i64)) (h : FlatV Try.prog t xs) : ∃ n, xs = [.int .i64 n] := by
  cases h with
  | bool h b => rw [ht] at h; cases h
  | int h n _ => rw [ht] at h; cases h; exact ⟨n, rfl⟩
  | str h s _ => rw [ht] at h; cases h
  | struct h parts _ => rw [ht] at h; cases h
theorem flat_bool {t : Nat} {xs : List AV} (ht : Try.prog.underlying t = some .bool) (h : FlatV Try.prog t xs) : ∃ n, xs = [.bool n] := by
  cases h with
  | bool h b => exact ⟨b, rfl⟩
  | int h n _ => rw [ht] at h; cases h
  | str h s _ => rw [ht] at h; cases h
  | struct h parts _ => rw [ht] at h; cases h

theorem el_leg {x : AV} (h : ElV Try.prog 28 x) : ∃ p, x = leg p := by
  obtain ⟨xs, hf, ⟨_, rfl⟩ | ⟨hg, _⟩⟩ := h
  · cases hf with
    | bool h b => rw [Try.underlying28] at h; cases h
    | int h n _ => rw [Try.underlying28] at h; cases h
    | str h s _ => rw [Try.underlying28] at h; cases h
    | struct h parts hp =>
      rw [Try.underlying28] at h
      cases h
      obtain ⟨a, ha⟩ := flat_int Try.underlying3 (hp 0 _ rfl)
      obtain ⟨b, hb⟩ := flat_int Try.underlying3 (hp 1 _ rfl)
      refine ⟨(a, b), ?_⟩
      show AV.agg ((List.range 2).flatMap parts) = _
      simp [List.range_succ, ha, hb]
  · simp at hg
theorem el_stamp {x : AV} (h : ElV Try.prog 32 x) : ∃ a b c, x = stamp a b c := by
  obtain ⟨xs, hf, ⟨_, rfl⟩ | ⟨hg, _⟩⟩ := h
  · cases hf with
    | bool h b => rw [Try.underlying32] at h; cases h
    | int h n _ => rw [Try.underlying32] at h; cases h
    | str h s _ => rw [Try.underlying32] at h; cases h
    | struct h parts hp =>
      rw [Try.underlying32] at h
      cases h
      obtain ⟨a, ha⟩ := flat_int Try.underlying3 (hp 0 _ rfl)
      obtain ⟨b, hb⟩ := flat_int Try.underlying3 (hp 1 _ rfl)
      obtain ⟨c, hc⟩ := flat_int Try.underlying3 (hp 2 _ rfl)
      refine ⟨a, b, c, ?_⟩
      show AV.agg ((List.range 3).flatMap parts) = _
      simp [List.range_succ, ha, hb, hc]
  · simp at hg
theorem el_br {x : AV} (h : ElV Try.prog 36 x) : ∃ b : Br, x = b.enc := by
  obtain ⟨xs, hf, ⟨_, rfl⟩ | ⟨hg, _⟩⟩ := h
  · cases hf with
    | bool h b => rw [Try.underlying36] at h; cases h
    | int h n _ => rw [Try.underlying36] at h; cases h
    | str h s _ => rw [Try.underlying36] at h; cases h
    | struct h parts hp =>
      rw [Try.underlying36] at h
      cases h
      obtain ⟨a, ha⟩ := flat_int Try.underlying3 (hp 0 _ rfl)
      obtain ⟨b, hb⟩ := flat_int Try.underlying3 (hp 1 _ rfl)
      obtain ⟨c, hc⟩ := flat_int Try.underlying3 (hp 2 _ rfl)
      obtain ⟨d, hd⟩ := flat_bool Try.underlying4 (hp 3 _ rfl)
      refine ⟨⟨a, b, c, d⟩, ?_⟩
      show AV.agg ((List.range 4).flatMap parts) = _
      simp [List.range_succ, ha, hb, hc, hd]
  · simp at hg
theorem map_of {α : Type} (f : α → AV) : ∀ (els : List AV), (∀ x ∈ els, ∃ p, x = f p) → ∃ l : List α, els = l.map f
  | [], _ => ⟨[], rfl⟩
  | x :: ys, h => by
    obtain ⟨p, hp⟩ := h x (by simp)
    obtain ⟨l, hl⟩ := map_of f ys (fun y hy => h y (by simp [hy]))
    exact ⟨p :: l, by simp [hp, hl]⟩
theorem vrs_cons {ψ : Gh} {w : World} {a : AV} {v : Value} {xs : List AV} {vs : List Value} (h : VR ψ w a v) (k : VRs ψ w xs vs.toArray) : VRs ψ w (a :: xs) (v :: vs).toArray := by
  obtain ⟨k1, k2⟩ := k
  refine ⟨by simpa using k1, fun i hi => ?_⟩
  cases i with
  | zero => exact h
  | succ i => exact k2 i (by simpa using hi)
theorem vrs_nil {ψ : Gh} {w : World} : VRs ψ w [] [].toArray := ⟨rfl, fun i hi => by simp at hi⟩
theorem el_int {x : AV} (h : ElV Try.prog 3 x) : ∃ n, x = .int .i64 n := by
  obtain ⟨xs, hf, ⟨hg, _⟩ | ⟨_, rfl⟩⟩ := h
  · simp at hg
  · obtain ⟨n, hn⟩ := flat_int Try.underlying3 hf
    injection hn with hn _
    exact ⟨n, hn⟩
end Go.Vm

