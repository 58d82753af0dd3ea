/- What functions of the program come to, in the value machine (a part of the proof of the claim's statement). No condition. -/
import Derived.Test.YtlcodjmjchiemaaVmTg
import Derived.Test.YtlcodjmjchiemaaVmTop2
import Derived.Test.YtlcodjmjchiemaaRows
set_option linter.unusedSimpArgs false
set_option linter.unusedVariables false
namespace Go.Vm
open Go.Proofs Go.ChangeShapes Go.WideShapes Go.ChangeAt Go.RowKit

theorem flat_int {t : Nat} {xs : List AV} (ht : Try.prog.underlying t = some (.int .i64)) (h : FlatV Try.prog t xs) : ∃ n, xs = [.int .i64 n] := by
  cases h with
  | bool h b => rw [ht] at h; cases h
  | int h n _ => rw [ht] at h; cases h; exact ⟨n, rfl⟩
  | str h s _ => rw [ht] at h; cases h
  | struct h parts _ => rw [ht] at h; cases h
theorem flat_bool {t : Nat} {xs : List AV} (ht : Try.prog.underlying t = some .bool) (h : FlatV Try.prog t xs) : ∃ n, xs = [.bool n] := by
  cases h with
  | bool h b => exact ⟨b, rfl⟩
  | int h n _ => rw [ht] at h; cases h
  | str h s _ => rw [ht] at h; cases h
  | struct h parts _ => rw [ht] at h; cases h

theorem el_leg {x : AV} (h : ElV Try.prog 28 x) : ∃ p, x = leg p := by
  obtain ⟨xs, hf, ⟨_, rfl⟩ | ⟨hg, _⟩⟩ := h
  · cases hf with
    | bool h b => rw [Try.underlying28] at h; cases h
    | int h n _ => rw [Try.underlying28] at h; cases h
    | str h s _ => rw [Try.underlying28] at h; cases h
    | struct h parts hp =>
      rw [Try.underlying28] at h
      cases h
      obtain ⟨a, ha⟩ := flat_int Try.underlying3 (hp 0 _ rfl)
      obtain ⟨b, hb⟩ := flat_int Try.underlying3 (hp 1 _ rfl)
      refine ⟨(a, b), ?_⟩
      show AV.agg ((List.range 2).flatMap parts) = _
      simp [List.range_succ, ha, hb]
  · simp at hg
theorem el_stamp {x : AV} (h : ElV Try.prog 32 x) : ∃ a b c, x = stamp a b c := by
  obtain ⟨xs, hf, ⟨_, rfl⟩ | ⟨hg, _⟩⟩ := h
  · cases hf with
    | bool h b => rw [Try.underlying32] at h; cases h
    | int h n _ => rw [Try.underlying32] at h; cases h
    | str h s _ => rw [Try.underlying32] at h; cases h
    | struct h parts hp =>
      rw [Try.underlying32] at h
      cases h
      obtain ⟨a, ha⟩ := flat_int Try.underlying3 (hp 0 _ rfl)
      obtain ⟨b, hb⟩ := flat_int Try.underlying3 (hp 1 _ rfl)
      obtain ⟨c, hc⟩ := flat_int Try.underlying3 (hp 2 _ rfl)
      refine ⟨a, b, c, ?_⟩
      show AV.agg ((List.range 3).flatMap parts) = _
      simp [List.range_succ, ha, hb, hc]
  · simp at hg
theorem el_br {x : AV} (h : ElV Try.prog 36 x) : ∃ b : Br, x = b.enc := by
  obtain ⟨xs, hf, ⟨_, rfl⟩ | ⟨hg, _⟩⟩ := h
  · cases hf with
    | bool h b => rw [Try.underlying36] at h; cases h
    | int h n _ => rw [Try.underlying36] at h; cases h
    | str h s _ => rw [Try.underlying36] at h; cases h
    | struct h parts hp =>
      rw [Try.underlying36] at h
      cases h
      obtain ⟨a, ha⟩ := flat_int Try.underlying3 (hp 0 _ rfl)
      obtain ⟨b, hb⟩ := flat_int Try.underlying3 (hp 1 _ rfl)
      obtain ⟨c, hc⟩ := flat_int Try.underlying3 (hp 2 _ rfl)
      obtain ⟨d, hd⟩ := flat_bool Try.underlying4 (hp 3 _ rfl)
      refine ⟨⟨a, b, c, d⟩, ?_⟩
      show AV.agg ((List.range 4).flatMap parts) = _
      simp [List.range_succ, ha, hb, hc, hd]
  · simp at hg
theorem map_of {α : Type} (f : α → AV) : ∀ (els : List AV), (∀ x ∈ els, ∃ p, x = f p) → ∃ l : List α, els = l.map f
  | [], _ => ⟨[], rfl⟩
  | x :: ys, h => by
    obtain ⟨p, hp⟩ := h x (by simp)
    obtain ⟨l, hl⟩ := map_of f ys (fun y hy => h y (by simp [hy]))
    exact ⟨p :: l, by simp [hp, hl]⟩
theorem vrs_cons {ψ : Gh} {w : World} {a : AV} {v : Value} {xs : List AV} {vs : List Value} (h : VR ψ w a v) (k : VRs ψ w xs vs.toArray) : VRs ψ w (a :: xs) (v :: vs).toArray := by
  obtain ⟨k1, k2⟩ := k
  refine ⟨by simpa using k1, fun i hi => ?_⟩
  cases i with
  | zero => exact h
  | succ i => exact k2 i (by simpa using hi)
theorem vrs_nil {ψ : Gh} {w : World} : VRs ψ w [] [].toArray := ⟨rfl, fun i hi => by simp at hi⟩
end Go.Vm

namespace Go.Proofs.Ytlcodjmjchiemaa.treeSees
open Go.ChangeShapes Go.WideShapes Go.ChangeAt Go.RowKit Go.Vm
theorem own : ownKnob Try.prog.godebug = none := by kernel_rfl
theorem laidOut : laidOutB Try.prog = true := by kernel_rfl
set_option maxRecDepth 100000 in
theorem lifted (os : Os) (started : os.Started) (H : Type) (enc : TypeId × Value → H) :
    ReturnsInHanded {} Try.checked os 4 .any (Rows.treeSeesSpec.pre6 enc Try.prog Try.f4 Rows.treeSeesRow.domain false) (Rows.treeSeesSpec.post enc Try.prog Try.f4 false true false false) := by
  refine returnsInHanded_of_change_sized (C := Try.checked) own started (by kernel_rfl) Try.func4
    (ChangeSpec.witness6 (enc := enc) (C := Try.checked) false ⟨#[], #[.slice none 0 0, .agg #[.int .i64 0, .int .i64 0, .int .i64 0]], []⟩ 8 (by kernel_rfl) (by kernel_rfl) (by kernel_rfl) (by kernel_rfl)) ?_
  intro W base args ds gs before hval0 hW hcnd hsz0 _
  have hval : ∀ (j : Nat) t v, Try.f4.params[j]? = some t → args[j]? = some v → Value.okWide Try.prog W .any base t v := hval0
  have hW' := hW
  obtain ⟨p, q, hA0, hV, rfl, hfz, hnd⟩ := hW
  have hA : DataW.TrodAll enc Try.prog W 0 (fun _ => true) true Try.f4.params.toList args.toList ds p := hA0
  rw [Try.params4] at hA hval
  obtain ⟨v0, vs0, d0, ds0, p0, q0, hargs, rfl, rfl, h0, r0⟩ := trodAll_cons hA
  obtain ⟨v1, vs1, d1, ds1, p1, q1, rfl, rfl, rfl, h1, r1⟩ := trodAll_cons r0
  obtain ⟨rfl, rfl, rfl⟩ := trodAll_nil r1
  obtain rfl : args = #[v0, v1] := by cases args; simp_all
  obtain ⟨rfl, rfl⟩ := trodVars_none hV
  have k0 := h0
  have lt0 : ∀ x ∈ p0, x.block < W.heap.size := by obtain ⟨m, hm⟩ := k0; exact DataW.trod_lt m _ _ _ hm
  have k1 := h1
  have lt1 : ∀ x ∈ p1, x.block < W.heap.size := by obtain ⟨m, hm⟩ := k1; exact DataW.trod_lt m _ _ _ hm
  obtain ⟨a0, els0, hsv0, hlen0, hel0, hr0⟩ := open_slice_arg (n := 4) Try.underlying24 (by kernel_rfl) (of_decide_eq_true (by kernel_rfl)) a28 (hval 0 24 v0 rfl rfl) h0
  obtain ⟨a1, hel1, hr1⟩ := open_flat_arg (n := 4) (by kernel_rfl) a32 (hval 1 32 v1 rfl rfl) h1
  obtain ⟨l, rfl⟩ := map_of leg els0 (fun x hx => el_leg (hel0 x hx))
  obtain ⟨b, e, s, rfl⟩ := el_stamp hel1
  have hc : Try.prog.cellsOf 28 = 2 := by kernel_rfl
  rw [hc] at hsv0
  clear hA0 hval0 hsz0
  refine (law_calls (by kernel_rfl) (by kernel_rfl) (vrs_cons hr0 (vrs_cons hr1 vrs_nil)) ((tree_sees_law l a0 hsv0 b e s _).mono fun r h' k => k.1)).mono fun e W' ⟨he, bel⟩ => ?_
  subst he
  exact ⟨_, rfl, _, _, _, [], _, [], hW', trodAll_mk1 (shut_bool Try.underlying4 _), (trodAll_cons_mk (Below.trod laidOut (by kernel_rfl) (of_decide_eq_true (by kernel_rfl)) k0 bel lt0) (trodAll_cons_mk (Below.trod laidOut (by kernel_rfl) (of_decide_eq_true (by kernel_rfl)) k1 bel lt1) trodAll_mk0)), rfl, bel.frame _, fun h => by cases h⟩
theorem over : Rows.treeSeesRow.holds Try.pinned (OpenSpec.ofChange Rows.treeSeesSpec) :=
  OpenClaim.holds_of_wide 4 Try.f4 rfl rfl rfl rfl rfl rfl rfl ⟨rfl, rfl, rfl, rfl, rfl⟩ rfl rfl rfl rfl rfl (by kernel_rfl) Try.func4 (by kernel_rfl)
    (of_decide_eq_true (by kernel_rfl)) (by unfold Func.isWrapper; first | (rw [if_pos (by decide +kernel)]; kernel_rfl) | (rw [if_neg (by decide +kernel)]; exact ⟨rfl, rfl⟩))
    (fun os started H enc _ => lifted os started H enc)
theorem proved : Rows.TreeSeesSaid := over
end Go.Proofs.Ytlcodjmjchiemaa.treeSees
#print axioms Go.Proofs.Ytlcodjmjchiemaa.treeSees.proved
