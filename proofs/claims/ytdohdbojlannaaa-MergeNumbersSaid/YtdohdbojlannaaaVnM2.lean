/- What functions of the program come to, in the value machine (a part of the proof of the claim's statement). No condition. -/
import Derived.Test.YtdohdbojlannaaaVnM1
import Derived.Test.YtdohdbojlannaaaVnB5
import Derived.KernelRfl
set_option linter.unusedSimpArgs false
set_option linter.unusedVariables false
set_option maxRecDepth 20000
namespace Go.Vn
open Go.Proofs

/-- What a heap's methods do. -/
structure HI {α : Type} [Inhabited α] (V : AV) (X : Hp Fm → List α → Prop) (g : α → Prop) (R : Hp Fm → Hp Fm → Prop) (less : α → α → Bool) : Prop where
  rf : ∀ h, R h h
  tr : ∀ a b c, R a b → R b c → R a c
  sm : ∀ h L, X h L → L.length < 2147483648
  len : ∃ f v, (∀ h : Hp Fm, invokeFn Try.prog h V "Len" [] = some (.enter (.func f) [v] h)) ∧ ∀ h L, X h L → A Try.prog TT (.func f) [v] h (fun r h' => r = .int .i64 L.length ∧ X h' L ∧ R h h')
  less : ∃ f v, (∀ (h : Hp Fm) a b, invokeFn Try.prog h V "Less" [a, b] = some (.enter (.func f) [v, a, b] h)) ∧ ∀ h L (i j : Nat), X h L → i < L.length → j < L.length → g L[i]! → g L[j]! → A Try.prog TT (.func f) [v, .int .i64 i, .int .i64 j] h (fun r h' => r = .bool (less L[i]! L[j]!) ∧ X h' L ∧ R h h')
  swap : ∃ f v, (∀ (h : Hp Fm) a b, invokeFn Try.prog h V "Swap" [a, b] = some (.enter (.func f) [v, a, b] h)) ∧ ∀ h L (i j : Nat), X h L → i < L.length → j < L.length → A Try.prog TT (.func f) [v, .int .i64 i, .int .i64 j] h (fun r h' => X h' (swapL L i j) ∧ R h h')
  pop : ∃ f v, (∀ h : Hp Fm, invokeFn Try.prog h V "Pop" [] = some (.enter (.func f) [v] h)) ∧ ∀ h L, X h L → L ≠ [] → A Try.prog TT (.func f) [v] h (fun r h' => X h' L.dropLast ∧ R h h')

section
variable {α : Type} [Inhabited α] {V : AV} {X : Hp Fm → List α → Prop} {g : α → Prop} {R : Hp Fm → Hp Fm → Prop} {less : α → α → Bool}

/-- Alike but before n. -/
def Beyond (n : Nat) (L L' : List α) : Prop := ∀ i, n ≤ i → L'[i]! = L[i]!

theorem down_ans (k : HI V X g R less) (o : Ord less) (lo n i0 : Nat) (L0 : List α) (h0 : Hp Fm) (hX : X h0 L0) (hn : n ≤ L0.length) (hlo : lo ≤ i0) (hi0 : i0 < n + 1) (hg : ∀ c, c < n → g L0[c]!) (hh : HeapX less L0 n lo (some i0)) :
    A Try.prog TT (.func 39) [V, .int .i64 i0, .int .i64 n] h0 (fun r h' => ∃ (q : Bool) (L' : List α), r = .bool q ∧ X h' L' ∧ L'.Perm L0 ∧ Beyond n L0 L' ∧ Heap less L' n lo ∧ (∀ c, c < n → g L'[c]!) ∧ R h0 h') := by
  have hsm := k.sm _ _ hX
  obtain ⟨fl, vl, less_i, less_a⟩ := k.less
  obtain ⟨fw, vw, swap_i, swap_a⟩ := k.swap
  apply A_go Try.func39 rfl (by rfl); (case hn => (simp [Try.ntmps39]; rfl))
  repeat (first | (with_reducible first | refine W_seq_i ?_ | refine W_block_i ?_ | refine W_region_i ?_ | refine W_skip_i ?_ | refine W_label_i ?_ | refine W_ret_i ?_ | refine W_exit_i ?_ | refine W_goto_i ?_ | refine W_scope_go ?_ | refine jumpW_r ?_ | refine jumpW_n ?_ | refine jumpW_x ?_ | refine blockW_g ?_ | refine thenW_n ?_ | refine blockW_n ?_ | refine blockW_x ?_ | refine blockW_y (by decide) ?_ | refine blockW_r ?_ | refine thenW_e (by simp; done) ?_ | refine WO_nil_i ?_ | refine WT_nil_i ?_) | (with_reducible apply W_cond_t; (case h => (simp; done))) | (with_reducible apply W_cond_f; (case h => (simp; done))) | ((with_reducible first | apply WO_val_i | apply WT_val_i); (case hw => (simp; done)); (case he => (simp; first | done | exact ⟨rfl, rfl⟩ | rfl)); (case hp => (simp; first | done | rfl))) | ((with_reducible first | apply WO_no_i | apply WT_no_i); (case hw => (simp; done)); (case hp => (simp; first | done | rfl))) | ((with_reducible first | apply WO_skip_i | apply WT_skip_i); (case hw => (simp; done)); (case he => (simp; first | done | rfl)); (case hp => (simp; first | done | rfl))) | ((with_reducible first | apply WO_call_i | apply WT_call_i); (case hw => (simp; done)); (case he => (simp; first | done | exact ⟨rfl, rfl, rfl⟩ | rfl))))
  refine W_loop (fun m s => ∃ (t : Fm AV) (h : Hp Fm) (i : Nat) (L : List α), s = ⟨t, 48, h, none⟩ ∧ tget t 0 = V ∧ tget t 1 = .int .i64 i0 ∧ tget t 2 = .int .i64 n ∧ tget t 7 = .int .i64 i ∧ m = n + 1 - i ∧ lo ≤ i ∧ i < n + 1 ∧ X h L ∧ L.Perm L0 ∧ Beyond n L0 L ∧ HeapX less L n lo (some i) ∧ (∀ c, c < n → g L[c]!) ∧ R h0 h) (n + 1 - i0)
    ⟨_, _, i0, L0, rfl, by simp, by simp, by simp, by simp, rfl, hlo, hi0, hX, List.Perm.refl _, fun _ _ => rfl, hh, hg, k.rf _⟩ ?_
  rintro m s ⟨t, h, i, L, rfl, t0, t1, t2, t7, rfl, hli, hin, hXL, hp, hb, hx, hgL, hR⟩
  have hlen : L.length = L0.length := hp.length_eq
  obtain ⟨j1, hj1⟩ : ∃ j, j = 2 * i + 1 := ⟨_, rfl⟩
  obtain ⟨j2, hj2⟩ : ∃ j, j = 2 * i + 2 := ⟨_, rfl⟩
  have w1 : IntKind.i64.wrap (2 * (i : Int)) = 2 * (i : Int) := wrap64 (by omega) (by omega)
  have w2 : IntKind.i64.wrap (2 * (i : Int) + 1) = (j1 : Int) := by rw [wrap64 (by omega) (by omega)]; omega
  have w3 : IntKind.i64.wrap ((j1 : Int) + 1) = (j2 : Int) := by rw [wrap64 (by omega) (by omega)]; omega
  have hng : ¬ ((j1 : Int) < 0) := by omega
  have pj1 : par j1 = i := by unfold par; omega
  have pj2 : par j2 = i := by unfold par; omega
  by_cases c1 : n ≤ j1
  · repeat (first | (with_reducible first | refine W_seq_i ?_ | refine W_block_i ?_ | refine W_region_i ?_ | refine W_skip_i ?_ | refine W_label_i ?_ | refine W_ret_i ?_ | refine W_exit_i ?_ | refine W_goto_i ?_ | refine W_scope_go ?_ | refine jumpW_r ?_ | refine jumpW_n ?_ | refine jumpW_x ?_ | refine blockW_g ?_ | refine thenW_n ?_ | refine blockW_n ?_ | refine blockW_x ?_ | refine blockW_y (by decide) ?_ | refine blockW_r ?_ | refine thenW_e (by simp; done) ?_ | refine WO_nil_i ?_ | refine WT_nil_i ?_) | (with_reducible apply W_cond_t; (case h => (simp [t0, t1, t2, t7, w1, w2, w3, c1, hng]; done))) | (with_reducible apply W_cond_f; (case h => (simp [t0, t1, t2, t7, w1, w2, w3, c1, hng]; done))) | ((with_reducible first | apply WO_val_i | apply WT_val_i); (case hw => (simp [t0, t1, t2, t7, w1, w2, w3, c1, hng]; done)); (case he => (simp [t0, t1, t2, t7, w1, w2, w3, c1, hng]; first | done | exact ⟨rfl, rfl⟩ | rfl)); (case hp => (simp [t0, t1, t2, t7, w1, w2, w3, c1, hng]; first | done | rfl))) | ((with_reducible first | apply WO_no_i | apply WT_no_i); (case hw => (simp [t0, t1, t2, t7, w1, w2, w3, c1, hng]; done)); (case hp => (simp [t0, t1, t2, t7, w1, w2, w3, c1, hng]; first | done | rfl))) | ((with_reducible first | apply WO_skip_i | apply WT_skip_i); (case hw => (simp [t0, t1, t2, t7, w1, w2, w3, c1, hng]; done)); (case he => (simp [t0, t1, t2, t7, w1, w2, w3, c1, hng]; first | done | rfl)); (case hp => (simp [t0, t1, t2, t7, w1, w2, w3, c1, hng]; first | done | rfl))) | ((with_reducible first | apply WO_call_i | apply WT_call_i); (case hw => (simp [t0, t1, t2, t7, w1, w2, w3, c1, hng]; done)); (case he => (simp [t0, t1, t2, t7, w1, w2, w3, c1, hng]; first | done | exact ⟨rfl, rfl, rfl⟩ | rfl))))
    (first | apply endW_r | apply endW_n); (case h1 => (simp [Try.results39]; first | done | rfl))
    refine ⟨_, L, rfl, hXL, hp, hb, step_stop o hx (fun c c0 hc hpc => ?_), hgL, hR⟩
    have := child_min o (L := L) c c0 hc hpc
    omega
  · by_cases c2 : j2 < n
    · repeat (first | (with_reducible first | refine W_seq_i ?_ | refine W_block_i ?_ | refine W_region_i ?_ | refine W_skip_i ?_ | refine W_label_i ?_ | refine W_ret_i ?_ | refine W_exit_i ?_ | refine W_goto_i ?_ | refine W_scope_go ?_ | refine jumpW_r ?_ | refine jumpW_n ?_ | refine jumpW_x ?_ | refine blockW_g ?_ | refine thenW_n ?_ | refine blockW_n ?_ | refine blockW_x ?_ | refine blockW_y (by decide) ?_ | refine blockW_r ?_ | refine thenW_e (by simp; done) ?_ | refine WO_nil_i ?_ | refine WT_nil_i ?_) | (with_reducible apply W_cond_t; (case h => (simp [t0, t1, t2, t7, w1, w2, w3, c1, hng, c2, less_i]; done))) | (with_reducible apply W_cond_f; (case h => (simp [t0, t1, t2, t7, w1, w2, w3, c1, hng, c2, less_i]; done))) | ((with_reducible first | apply WO_val_i | apply WT_val_i); (case hw => (simp [t0, t1, t2, t7, w1, w2, w3, c1, hng, c2, less_i]; done)); (case he => (simp [t0, t1, t2, t7, w1, w2, w3, c1, hng, c2, less_i]; first | done | exact ⟨rfl, rfl⟩ | rfl)); (case hp => (simp [t0, t1, t2, t7, w1, w2, w3, c1, hng, c2, less_i]; first | done | rfl))) | ((with_reducible first | apply WO_no_i | apply WT_no_i); (case hw => (simp [t0, t1, t2, t7, w1, w2, w3, c1, hng, c2, less_i]; done)); (case hp => (simp [t0, t1, t2, t7, w1, w2, w3, c1, hng, c2, less_i]; first | done | rfl))) | ((with_reducible first | apply WO_skip_i | apply WT_skip_i); (case hw => (simp [t0, t1, t2, t7, w1, w2, w3, c1, hng, c2, less_i]; done)); (case he => (simp [t0, t1, t2, t7, w1, w2, w3, c1, hng, c2, less_i]; first | done | rfl)); (case hp => (simp [t0, t1, t2, t7, w1, w2, w3, c1, hng, c2, less_i]; first | done | rfl))) | ((with_reducible first | apply WO_call_i | apply WT_call_i); (case hw => (simp [t0, t1, t2, t7, w1, w2, w3, c1, hng, c2, less_i]; done)); (case he => (simp [t0, t1, t2, t7, w1, w2, w3, c1, hng, c2, less_i]; first | done | exact ⟨rfl, rfl, rfl⟩ | rfl))))
      refine A.mono (less_a _ L j2 j1 hXL (by omega) (by omega) (hgL _ (by omega)) (hgL _ (by omega))) ?_
      rintro r h2 ⟨hr, hX2, hR2⟩
      cases q : less L[j2]! L[j1]!
      · have hm : ∀ c, 0 < c → c < n → par c = i → less L[c]! L[j1]! = false := by
          intro c c0 hc hpc
          rcases child_min o (L := L) c c0 hc hpc with e | e
          · rw [e, ← hj1]; exact ord_irrefl o _
          · rw [e, ← hj2]; exact q
        have hR' := k.tr _ _ _ hR hR2
        rw [q] at hr; subst hr
        refine ⟨_, by simp; first | done | rfl, ?_⟩
        repeat (first | (with_reducible first | refine W_seq_i ?_ | refine W_block_i ?_ | refine W_region_i ?_ | refine W_skip_i ?_ | refine W_label_i ?_ | refine W_ret_i ?_ | refine W_exit_i ?_ | refine W_goto_i ?_ | refine W_scope_go ?_ | refine jumpW_r ?_ | refine jumpW_n ?_ | refine jumpW_x ?_ | refine blockW_g ?_ | refine thenW_n ?_ | refine blockW_n ?_ | refine blockW_x ?_ | refine blockW_y (by decide) ?_ | refine blockW_r ?_ | refine thenW_e (by simp; done) ?_ | refine WO_nil_i ?_ | refine WT_nil_i ?_) | (with_reducible apply W_cond_t; (case h => (simp [t0, t1, t2, t7, w1, w2, w3, c1, hng, c2, q, less_i]; done))) | (with_reducible apply W_cond_f; (case h => (simp [t0, t1, t2, t7, w1, w2, w3, c1, hng, c2, q, less_i]; done))) | ((with_reducible first | apply WO_val_i | apply WT_val_i); (case hw => (simp [t0, t1, t2, t7, w1, w2, w3, c1, hng, c2, q, less_i]; done)); (case he => (simp [t0, t1, t2, t7, w1, w2, w3, c1, hng, c2, q, less_i]; first | done | exact ⟨rfl, rfl⟩ | rfl)); (case hp => (simp [t0, t1, t2, t7, w1, w2, w3, c1, hng, c2, q, less_i]; first | done | rfl))) | ((with_reducible first | apply WO_no_i | apply WT_no_i); (case hw => (simp [t0, t1, t2, t7, w1, w2, w3, c1, hng, c2, q, less_i]; done)); (case hp => (simp [t0, t1, t2, t7, w1, w2, w3, c1, hng, c2, q, less_i]; first | done | rfl))) | ((with_reducible first | apply WO_skip_i | apply WT_skip_i); (case hw => (simp [t0, t1, t2, t7, w1, w2, w3, c1, hng, c2, q, less_i]; done)); (case he => (simp [t0, t1, t2, t7, w1, w2, w3, c1, hng, c2, q, less_i]; first | done | rfl)); (case hp => (simp [t0, t1, t2, t7, w1, w2, w3, c1, hng, c2, q, less_i]; first | done | rfl))) | ((with_reducible first | apply WO_call_i | apply WT_call_i); (case hw => (simp [t0, t1, t2, t7, w1, w2, w3, c1, hng, c2, q, less_i]; done)); (case he => (simp [t0, t1, t2, t7, w1, w2, w3, c1, hng, c2, q, less_i]; first | done | exact ⟨rfl, rfl, rfl⟩ | rfl))))
        refine A.mono (less_a _ L j1 i hX2 (by omega) (by omega) (hgL _ (by omega)) (hgL _ (by omega))) ?_
        rintro r3 h3 ⟨hr3, hX3, hR3⟩
        cases q2 : less L[j1]! L[i]!
        · rw [q2] at hr3; subst hr3
          refine ⟨_, by simp; first | done | rfl, ?_⟩
          repeat (first | (with_reducible first | refine W_seq_i ?_ | refine W_block_i ?_ | refine W_region_i ?_ | refine W_skip_i ?_ | refine W_label_i ?_ | refine W_ret_i ?_ | refine W_exit_i ?_ | refine W_goto_i ?_ | refine W_scope_go ?_ | refine jumpW_r ?_ | refine jumpW_n ?_ | refine jumpW_x ?_ | refine blockW_g ?_ | refine thenW_n ?_ | refine blockW_n ?_ | refine blockW_x ?_ | refine blockW_y (by decide) ?_ | refine blockW_r ?_ | refine thenW_e (by simp; done) ?_ | refine WO_nil_i ?_ | refine WT_nil_i ?_) | (with_reducible apply W_cond_t; (case h => (simp [t0, t1, t2, t7, w1, w2, w3, c1, hng, c2, less_i, swap_i, q2]; done))) | (with_reducible apply W_cond_f; (case h => (simp [t0, t1, t2, t7, w1, w2, w3, c1, hng, c2, less_i, swap_i, q2]; done))) | ((with_reducible first | apply WO_val_i | apply WT_val_i); (case hw => (simp [t0, t1, t2, t7, w1, w2, w3, c1, hng, c2, less_i, swap_i, q2]; done)); (case he => (simp [t0, t1, t2, t7, w1, w2, w3, c1, hng, c2, less_i, swap_i, q2]; first | done | exact ⟨rfl, rfl⟩ | rfl)); (case hp => (simp [t0, t1, t2, t7, w1, w2, w3, c1, hng, c2, less_i, swap_i, q2]; first | done | rfl))) | ((with_reducible first | apply WO_no_i | apply WT_no_i); (case hw => (simp [t0, t1, t2, t7, w1, w2, w3, c1, hng, c2, less_i, swap_i, q2]; done)); (case hp => (simp [t0, t1, t2, t7, w1, w2, w3, c1, hng, c2, less_i, swap_i, q2]; first | done | rfl))) | ((with_reducible first | apply WO_skip_i | apply WT_skip_i); (case hw => (simp [t0, t1, t2, t7, w1, w2, w3, c1, hng, c2, less_i, swap_i, q2]; done)); (case he => (simp [t0, t1, t2, t7, w1, w2, w3, c1, hng, c2, less_i, swap_i, q2]; first | done | rfl)); (case hp => (simp [t0, t1, t2, t7, w1, w2, w3, c1, hng, c2, less_i, swap_i, q2]; first | done | rfl))) | ((with_reducible first | apply WO_call_i | apply WT_call_i); (case hw => (simp [t0, t1, t2, t7, w1, w2, w3, c1, hng, c2, less_i, swap_i, q2]; done)); (case he => (simp [t0, t1, t2, t7, w1, w2, w3, c1, hng, c2, less_i, swap_i, q2]; first | done | exact ⟨rfl, rfl, rfl⟩ | rfl))))
          (first | apply endW_r | apply endW_n); (case h1 => (simp [Try.results39]; first | done | rfl))
          exact ⟨_, L, rfl, hX3, hp, hb, step_stop o hx (fun c c0 hc hpc => o.tr _ L[j1]! _ q2 (hm c c0 hc hpc)), hgL, k.tr _ _ _ hR' hR3⟩
        · rw [q2] at hr3; subst hr3
          refine ⟨_, by simp; first | done | rfl, ?_⟩
          repeat (first | (with_reducible first | refine W_seq_i ?_ | refine W_block_i ?_ | refine W_region_i ?_ | refine W_skip_i ?_ | refine W_label_i ?_ | refine W_ret_i ?_ | refine W_exit_i ?_ | refine W_goto_i ?_ | refine W_scope_go ?_ | refine jumpW_r ?_ | refine jumpW_n ?_ | refine jumpW_x ?_ | refine blockW_g ?_ | refine thenW_n ?_ | refine blockW_n ?_ | refine blockW_x ?_ | refine blockW_y (by decide) ?_ | refine blockW_r ?_ | refine thenW_e (by simp; done) ?_ | refine WO_nil_i ?_ | refine WT_nil_i ?_) | (with_reducible apply W_cond_t; (case h => (simp [t0, t1, t2, t7, w1, w2, w3, c1, hng, c2, less_i, swap_i, q2]; done))) | (with_reducible apply W_cond_f; (case h => (simp [t0, t1, t2, t7, w1, w2, w3, c1, hng, c2, less_i, swap_i, q2]; done))) | ((with_reducible first | apply WO_val_i | apply WT_val_i); (case hw => (simp [t0, t1, t2, t7, w1, w2, w3, c1, hng, c2, less_i, swap_i, q2]; done)); (case he => (simp [t0, t1, t2, t7, w1, w2, w3, c1, hng, c2, less_i, swap_i, q2]; first | done | exact ⟨rfl, rfl⟩ | rfl)); (case hp => (simp [t0, t1, t2, t7, w1, w2, w3, c1, hng, c2, less_i, swap_i, q2]; first | done | rfl))) | ((with_reducible first | apply WO_no_i | apply WT_no_i); (case hw => (simp [t0, t1, t2, t7, w1, w2, w3, c1, hng, c2, less_i, swap_i, q2]; done)); (case hp => (simp [t0, t1, t2, t7, w1, w2, w3, c1, hng, c2, less_i, swap_i, q2]; first | done | rfl))) | ((with_reducible first | apply WO_skip_i | apply WT_skip_i); (case hw => (simp [t0, t1, t2, t7, w1, w2, w3, c1, hng, c2, less_i, swap_i, q2]; done)); (case he => (simp [t0, t1, t2, t7, w1, w2, w3, c1, hng, c2, less_i, swap_i, q2]; first | done | rfl)); (case hp => (simp [t0, t1, t2, t7, w1, w2, w3, c1, hng, c2, less_i, swap_i, q2]; first | done | rfl))) | ((with_reducible first | apply WO_call_i | apply WT_call_i); (case hw => (simp [t0, t1, t2, t7, w1, w2, w3, c1, hng, c2, less_i, swap_i, q2]; done)); (case he => (simp [t0, t1, t2, t7, w1, w2, w3, c1, hng, c2, less_i, swap_i, q2]; first | done | exact ⟨rfl, rfl, rfl⟩ | rfl))))
          refine A.mono (swap_a _ L i j1 hX3 (by omega) (by omega)) ?_
          rintro _ h4 ⟨hX4, hR4⟩
          refine ⟨_, by simp; first | done | rfl, ?_⟩
          repeat (first | (with_reducible first | refine W_seq_i ?_ | refine W_block_i ?_ | refine W_region_i ?_ | refine W_skip_i ?_ | refine W_label_i ?_ | refine W_ret_i ?_ | refine W_exit_i ?_ | refine W_goto_i ?_ | refine W_scope_go ?_ | refine jumpW_r ?_ | refine jumpW_n ?_ | refine jumpW_x ?_ | refine blockW_g ?_ | refine thenW_n ?_ | refine blockW_n ?_ | refine blockW_x ?_ | refine blockW_y (by decide) ?_ | refine blockW_r ?_ | refine thenW_e (by simp; done) ?_ | refine WO_nil_i ?_ | refine WT_nil_i ?_) | (with_reducible apply W_cond_t; (case h => (simp [t0, t1, t2, t7, w1, w2, w3, c1, hng, c2, less_i, swap_i, q2]; done))) | (with_reducible apply W_cond_f; (case h => (simp [t0, t1, t2, t7, w1, w2, w3, c1, hng, c2, less_i, swap_i, q2]; done))) | ((with_reducible first | apply WO_val_i | apply WT_val_i); (case hw => (simp [t0, t1, t2, t7, w1, w2, w3, c1, hng, c2, less_i, swap_i, q2]; done)); (case he => (simp [t0, t1, t2, t7, w1, w2, w3, c1, hng, c2, less_i, swap_i, q2]; first | done | exact ⟨rfl, rfl⟩ | rfl)); (case hp => (simp [t0, t1, t2, t7, w1, w2, w3, c1, hng, c2, less_i, swap_i, q2]; first | done | rfl))) | ((with_reducible first | apply WO_no_i | apply WT_no_i); (case hw => (simp [t0, t1, t2, t7, w1, w2, w3, c1, hng, c2, less_i, swap_i, q2]; done)); (case hp => (simp [t0, t1, t2, t7, w1, w2, w3, c1, hng, c2, less_i, swap_i, q2]; first | done | rfl))) | ((with_reducible first | apply WO_skip_i | apply WT_skip_i); (case hw => (simp [t0, t1, t2, t7, w1, w2, w3, c1, hng, c2, less_i, swap_i, q2]; done)); (case he => (simp [t0, t1, t2, t7, w1, w2, w3, c1, hng, c2, less_i, swap_i, q2]; first | done | rfl)); (case hp => (simp [t0, t1, t2, t7, w1, w2, w3, c1, hng, c2, less_i, swap_i, q2]; first | done | rfl))) | ((with_reducible first | apply WO_call_i | apply WT_call_i); (case hw => (simp [t0, t1, t2, t7, w1, w2, w3, c1, hng, c2, less_i, swap_i, q2]; done)); (case he => (simp [t0, t1, t2, t7, w1, w2, w3, c1, hng, c2, less_i, swap_i, q2]; first | done | exact ⟨rfl, rfl, rfl⟩ | rfl))))
          refine ⟨n + 1 - j1, by omega, _, _, j1, _, rfl, by simp [t0], by simp [t1], by simp [t2], by simp, rfl, by omega, by omega, hX4, (swapL_perm (by omega) (by omega)).trans hp, ?_, step_down o (by omega) hli hx (by omega) pj1 (by omega) hm q2, ?_, k.tr _ _ _ (k.tr _ _ _ hR' hR3) hR4⟩
          · intro z hz
            rw [getElem!_swap (by omega) (by omega), if_neg (by omega), if_neg (by omega)]
            exact hb z hz
          · intro z hz
            rw [getElem!_swap (by omega) (by omega)]
            split
            · exact hgL _ (by omega)
            · split
              · exact hgL _ (by omega)
              · exact hgL _ hz
      · have hm : ∀ c, 0 < c → c < n → par c = i → less L[c]! L[j2]! = false := by
          intro c c0 hc hpc
          rcases child_min o (L := L) c c0 hc hpc with e | e
          · rw [e, ← hj1]; exact o.asym _ _ q
          · rw [e, ← hj2]; exact ord_irrefl o _
        have hR' := k.tr _ _ _ hR hR2
        rw [q] at hr; subst hr
        refine ⟨_, by simp; first | done | rfl, ?_⟩
        repeat (first | (with_reducible first | refine W_seq_i ?_ | refine W_block_i ?_ | refine W_region_i ?_ | refine W_skip_i ?_ | refine W_label_i ?_ | refine W_ret_i ?_ | refine W_exit_i ?_ | refine W_goto_i ?_ | refine W_scope_go ?_ | refine jumpW_r ?_ | refine jumpW_n ?_ | refine jumpW_x ?_ | refine blockW_g ?_ | refine thenW_n ?_ | refine blockW_n ?_ | refine blockW_x ?_ | refine blockW_y (by decide) ?_ | refine blockW_r ?_ | refine thenW_e (by simp; done) ?_ | refine WO_nil_i ?_ | refine WT_nil_i ?_) | (with_reducible apply W_cond_t; (case h => (simp [t0, t1, t2, t7, w1, w2, w3, c1, hng, c2, q, less_i]; done))) | (with_reducible apply W_cond_f; (case h => (simp [t0, t1, t2, t7, w1, w2, w3, c1, hng, c2, q, less_i]; done))) | ((with_reducible first | apply WO_val_i | apply WT_val_i); (case hw => (simp [t0, t1, t2, t7, w1, w2, w3, c1, hng, c2, q, less_i]; done)); (case he => (simp [t0, t1, t2, t7, w1, w2, w3, c1, hng, c2, q, less_i]; first | done | exact ⟨rfl, rfl⟩ | rfl)); (case hp => (simp [t0, t1, t2, t7, w1, w2, w3, c1, hng, c2, q, less_i]; first | done | rfl))) | ((with_reducible first | apply WO_no_i | apply WT_no_i); (case hw => (simp [t0, t1, t2, t7, w1, w2, w3, c1, hng, c2, q, less_i]; done)); (case hp => (simp [t0, t1, t2, t7, w1, w2, w3, c1, hng, c2, q, less_i]; first | done | rfl))) | ((with_reducible first | apply WO_skip_i | apply WT_skip_i); (case hw => (simp [t0, t1, t2, t7, w1, w2, w3, c1, hng, c2, q, less_i]; done)); (case he => (simp [t0, t1, t2, t7, w1, w2, w3, c1, hng, c2, q, less_i]; first | done | rfl)); (case hp => (simp [t0, t1, t2, t7, w1, w2, w3, c1, hng, c2, q, less_i]; first | done | rfl))) | ((with_reducible first | apply WO_call_i | apply WT_call_i); (case hw => (simp [t0, t1, t2, t7, w1, w2, w3, c1, hng, c2, q, less_i]; done)); (case he => (simp [t0, t1, t2, t7, w1, w2, w3, c1, hng, c2, q, less_i]; first | done | exact ⟨rfl, rfl, rfl⟩ | rfl))))
        refine A.mono (less_a _ L j2 i hX2 (by omega) (by omega) (hgL _ (by omega)) (hgL _ (by omega))) ?_
        rintro r3 h3 ⟨hr3, hX3, hR3⟩
        cases q2 : less L[j2]! L[i]!
        · rw [q2] at hr3; subst hr3
          refine ⟨_, by simp; first | done | rfl, ?_⟩
          repeat (first | (with_reducible first | refine W_seq_i ?_ | refine W_block_i ?_ | refine W_region_i ?_ | refine W_skip_i ?_ | refine W_label_i ?_ | refine W_ret_i ?_ | refine W_exit_i ?_ | refine W_goto_i ?_ | refine W_scope_go ?_ | refine jumpW_r ?_ | refine jumpW_n ?_ | refine jumpW_x ?_ | refine blockW_g ?_ | refine thenW_n ?_ | refine blockW_n ?_ | refine blockW_x ?_ | refine blockW_y (by decide) ?_ | refine blockW_r ?_ | refine thenW_e (by simp; done) ?_ | refine WO_nil_i ?_ | refine WT_nil_i ?_) | (with_reducible apply W_cond_t; (case h => (simp [t0, t1, t2, t7, w1, w2, w3, c1, hng, c2, less_i, swap_i, q2]; done))) | (with_reducible apply W_cond_f; (case h => (simp [t0, t1, t2, t7, w1, w2, w3, c1, hng, c2, less_i, swap_i, q2]; done))) | ((with_reducible first | apply WO_val_i | apply WT_val_i); (case hw => (simp [t0, t1, t2, t7, w1, w2, w3, c1, hng, c2, less_i, swap_i, q2]; done)); (case he => (simp [t0, t1, t2, t7, w1, w2, w3, c1, hng, c2, less_i, swap_i, q2]; first | done | exact ⟨rfl, rfl⟩ | rfl)); (case hp => (simp [t0, t1, t2, t7, w1, w2, w3, c1, hng, c2, less_i, swap_i, q2]; first | done | rfl))) | ((with_reducible first | apply WO_no_i | apply WT_no_i); (case hw => (simp [t0, t1, t2, t7, w1, w2, w3, c1, hng, c2, less_i, swap_i, q2]; done)); (case hp => (simp [t0, t1, t2, t7, w1, w2, w3, c1, hng, c2, less_i, swap_i, q2]; first | done | rfl))) | ((with_reducible first | apply WO_skip_i | apply WT_skip_i); (case hw => (simp [t0, t1, t2, t7, w1, w2, w3, c1, hng, c2, less_i, swap_i, q2]; done)); (case he => (simp [t0, t1, t2, t7, w1, w2, w3, c1, hng, c2, less_i, swap_i, q2]; first | done | rfl)); (case hp => (simp [t0, t1, t2, t7, w1, w2, w3, c1, hng, c2, less_i, swap_i, q2]; first | done | rfl))) | ((with_reducible first | apply WO_call_i | apply WT_call_i); (case hw => (simp [t0, t1, t2, t7, w1, w2, w3, c1, hng, c2, less_i, swap_i, q2]; done)); (case he => (simp [t0, t1, t2, t7, w1, w2, w3, c1, hng, c2, less_i, swap_i, q2]; first | done | exact ⟨rfl, rfl, rfl⟩ | rfl))))
          (first | apply endW_r | apply endW_n); (case h1 => (simp [Try.results39]; first | done | rfl))
          exact ⟨_, L, rfl, hX3, hp, hb, step_stop o hx (fun c c0 hc hpc => o.tr _ L[j2]! _ q2 (hm c c0 hc hpc)), hgL, k.tr _ _ _ hR' hR3⟩
        · rw [q2] at hr3; subst hr3
          refine ⟨_, by simp; first | done | rfl, ?_⟩
          repeat (first | (with_reducible first | refine W_seq_i ?_ | refine W_block_i ?_ | refine W_region_i ?_ | refine W_skip_i ?_ | refine W_label_i ?_ | refine W_ret_i ?_ | refine W_exit_i ?_ | refine W_goto_i ?_ | refine W_scope_go ?_ | refine jumpW_r ?_ | refine jumpW_n ?_ | refine jumpW_x ?_ | refine blockW_g ?_ | refine thenW_n ?_ | refine blockW_n ?_ | refine blockW_x ?_ | refine blockW_y (by decide) ?_ | refine blockW_r ?_ | refine thenW_e (by simp; done) ?_ | refine WO_nil_i ?_ | refine WT_nil_i ?_) | (with_reducible apply W_cond_t; (case h => (simp [t0, t1, t2, t7, w1, w2, w3, c1, hng, c2, less_i, swap_i, q2]; done))) | (with_reducible apply W_cond_f; (case h => (simp [t0, t1, t2, t7, w1, w2, w3, c1, hng, c2, less_i, swap_i, q2]; done))) | ((with_reducible first | apply WO_val_i | apply WT_val_i); (case hw => (simp [t0, t1, t2, t7, w1, w2, w3, c1, hng, c2, less_i, swap_i, q2]; done)); (case he => (simp [t0, t1, t2, t7, w1, w2, w3, c1, hng, c2, less_i, swap_i, q2]; first | done | exact ⟨rfl, rfl⟩ | rfl)); (case hp => (simp [t0, t1, t2, t7, w1, w2, w3, c1, hng, c2, less_i, swap_i, q2]; first | done | rfl))) | ((with_reducible first | apply WO_no_i | apply WT_no_i); (case hw => (simp [t0, t1, t2, t7, w1, w2, w3, c1, hng, c2, less_i, swap_i, q2]; done)); (case hp => (simp [t0, t1, t2, t7, w1, w2, w3, c1, hng, c2, less_i, swap_i, q2]; first | done | rfl))) | ((with_reducible first | apply WO_skip_i | apply WT_skip_i); (case hw => (simp [t0, t1, t2, t7, w1, w2, w3, c1, hng, c2, less_i, swap_i, q2]; done)); (case he => (simp [t0, t1, t2, t7, w1, w2, w3, c1, hng, c2, less_i, swap_i, q2]; first | done | rfl)); (case hp => (simp [t0, t1, t2, t7, w1, w2, w3, c1, hng, c2, less_i, swap_i, q2]; first | done | rfl))) | ((with_reducible first | apply WO_call_i | apply WT_call_i); (case hw => (simp [t0, t1, t2, t7, w1, w2, w3, c1, hng, c2, less_i, swap_i, q2]; done)); (case he => (simp [t0, t1, t2, t7, w1, w2, w3, c1, hng, c2, less_i, swap_i, q2]; first | done | exact ⟨rfl, rfl, rfl⟩ | rfl))))
          refine A.mono (swap_a _ L i j2 hX3 (by omega) (by omega)) ?_
          rintro _ h4 ⟨hX4, hR4⟩
          refine ⟨_, by simp; first | done | rfl, ?_⟩
          repeat (first | (with_reducible first | refine W_seq_i ?_ | refine W_block_i ?_ | refine W_region_i ?_ | refine W_skip_i ?_ | refine W_label_i ?_ | refine W_ret_i ?_ | refine W_exit_i ?_ | refine W_goto_i ?_ | refine W_scope_go ?_ | refine jumpW_r ?_ | refine jumpW_n ?_ | refine jumpW_x ?_ | refine blockW_g ?_ | refine thenW_n ?_ | refine blockW_n ?_ | refine blockW_x ?_ | refine blockW_y (by decide) ?_ | refine blockW_r ?_ | refine thenW_e (by simp; done) ?_ | refine WO_nil_i ?_ | refine WT_nil_i ?_) | (with_reducible apply W_cond_t; (case h => (simp [t0, t1, t2, t7, w1, w2, w3, c1, hng, c2, less_i, swap_i, q2]; done))) | (with_reducible apply W_cond_f; (case h => (simp [t0, t1, t2, t7, w1, w2, w3, c1, hng, c2, less_i, swap_i, q2]; done))) | ((with_reducible first | apply WO_val_i | apply WT_val_i); (case hw => (simp [t0, t1, t2, t7, w1, w2, w3, c1, hng, c2, less_i, swap_i, q2]; done)); (case he => (simp [t0, t1, t2, t7, w1, w2, w3, c1, hng, c2, less_i, swap_i, q2]; first | done | exact ⟨rfl, rfl⟩ | rfl)); (case hp => (simp [t0, t1, t2, t7, w1, w2, w3, c1, hng, c2, less_i, swap_i, q2]; first | done | rfl))) | ((with_reducible first | apply WO_no_i | apply WT_no_i); (case hw => (simp [t0, t1, t2, t7, w1, w2, w3, c1, hng, c2, less_i, swap_i, q2]; done)); (case hp => (simp [t0, t1, t2, t7, w1, w2, w3, c1, hng, c2, less_i, swap_i, q2]; first | done | rfl))) | ((with_reducible first | apply WO_skip_i | apply WT_skip_i); (case hw => (simp [t0, t1, t2, t7, w1, w2, w3, c1, hng, c2, less_i, swap_i, q2]; done)); (case he => (simp [t0, t1, t2, t7, w1, w2, w3, c1, hng, c2, less_i, swap_i, q2]; first | done | rfl)); (case hp => (simp [t0, t1, t2, t7, w1, w2, w3, c1, hng, c2, less_i, swap_i, q2]; first | done | rfl))) | ((with_reducible first | apply WO_call_i | apply WT_call_i); (case hw => (simp [t0, t1, t2, t7, w1, w2, w3, c1, hng, c2, less_i, swap_i, q2]; done)); (case he => (simp [t0, t1, t2, t7, w1, w2, w3, c1, hng, c2, less_i, swap_i, q2]; first | done | exact ⟨rfl, rfl, rfl⟩ | rfl))))
          refine ⟨n + 1 - j2, by omega, _, _, j2, _, rfl, by simp [t0], by simp [t1], by simp [t2], by simp, rfl, by omega, by omega, hX4, (swapL_perm (by omega) (by omega)).trans hp, ?_, step_down o (by omega) hli hx (by omega) pj2 (by omega) hm q2, ?_, k.tr _ _ _ (k.tr _ _ _ hR' hR3) hR4⟩
          · intro z hz
            rw [getElem!_swap (by omega) (by omega), if_neg (by omega), if_neg (by omega)]
            exact hb z hz
          · intro z hz
            rw [getElem!_swap (by omega) (by omega)]
            split
            · exact hgL _ (by omega)
            · split
              · exact hgL _ (by omega)
              · exact hgL _ hz
    · have hm : ∀ c, 0 < c → c < n → par c = i → less L[c]! L[j1]! = false := by
        intro c c0 hc hpc
        rcases child_min o (L := L) c c0 hc hpc with e | e
        · rw [e, ← hj1]; exact ord_irrefl o _
        · omega
      repeat (first | (with_reducible first | refine W_seq_i ?_ | refine W_block_i ?_ | refine W_region_i ?_ | refine W_skip_i ?_ | refine W_label_i ?_ | refine W_ret_i ?_ | refine W_exit_i ?_ | refine W_goto_i ?_ | refine W_scope_go ?_ | refine jumpW_r ?_ | refine jumpW_n ?_ | refine jumpW_x ?_ | refine blockW_g ?_ | refine thenW_n ?_ | refine blockW_n ?_ | refine blockW_x ?_ | refine blockW_y (by decide) ?_ | refine blockW_r ?_ | refine thenW_e (by simp; done) ?_ | refine WO_nil_i ?_ | refine WT_nil_i ?_) | (with_reducible apply W_cond_t; (case h => (simp [t0, t1, t2, t7, w1, w2, w3, c1, hng, c2, less_i]; done))) | (with_reducible apply W_cond_f; (case h => (simp [t0, t1, t2, t7, w1, w2, w3, c1, hng, c2, less_i]; done))) | ((with_reducible first | apply WO_val_i | apply WT_val_i); (case hw => (simp [t0, t1, t2, t7, w1, w2, w3, c1, hng, c2, less_i]; done)); (case he => (simp [t0, t1, t2, t7, w1, w2, w3, c1, hng, c2, less_i]; first | done | exact ⟨rfl, rfl⟩ | rfl)); (case hp => (simp [t0, t1, t2, t7, w1, w2, w3, c1, hng, c2, less_i]; first | done | rfl))) | ((with_reducible first | apply WO_no_i | apply WT_no_i); (case hw => (simp [t0, t1, t2, t7, w1, w2, w3, c1, hng, c2, less_i]; done)); (case hp => (simp [t0, t1, t2, t7, w1, w2, w3, c1, hng, c2, less_i]; first | done | rfl))) | ((with_reducible first | apply WO_skip_i | apply WT_skip_i); (case hw => (simp [t0, t1, t2, t7, w1, w2, w3, c1, hng, c2, less_i]; done)); (case he => (simp [t0, t1, t2, t7, w1, w2, w3, c1, hng, c2, less_i]; first | done | rfl)); (case hp => (simp [t0, t1, t2, t7, w1, w2, w3, c1, hng, c2, less_i]; first | done | rfl))) | ((with_reducible first | apply WO_call_i | apply WT_call_i); (case hw => (simp [t0, t1, t2, t7, w1, w2, w3, c1, hng, c2, less_i]; done)); (case he => (simp [t0, t1, t2, t7, w1, w2, w3, c1, hng, c2, less_i]; first | done | exact ⟨rfl, rfl, rfl⟩ | rfl))))
      refine A.mono (less_a _ L j1 i hXL (by omega) (by omega) (hgL _ (by omega)) (hgL _ (by omega))) ?_
      rintro r3 h3 ⟨hr3, hX3, hR3⟩
      cases q2 : less L[j1]! L[i]!
      · rw [q2] at hr3; subst hr3
        refine ⟨_, by simp; first | done | rfl, ?_⟩
        repeat (first | (with_reducible first | refine W_seq_i ?_ | refine W_block_i ?_ | refine W_region_i ?_ | refine W_skip_i ?_ | refine W_label_i ?_ | refine W_ret_i ?_ | refine W_exit_i ?_ | refine W_goto_i ?_ | refine W_scope_go ?_ | refine jumpW_r ?_ | refine jumpW_n ?_ | refine jumpW_x ?_ | refine blockW_g ?_ | refine thenW_n ?_ | refine blockW_n ?_ | refine blockW_x ?_ | refine blockW_y (by decide) ?_ | refine blockW_r ?_ | refine thenW_e (by simp; done) ?_ | refine WO_nil_i ?_ | refine WT_nil_i ?_) | (with_reducible apply W_cond_t; (case h => (simp [t0, t1, t2, t7, w1, w2, w3, c1, hng, c2, less_i, swap_i, q2]; done))) | (with_reducible apply W_cond_f; (case h => (simp [t0, t1, t2, t7, w1, w2, w3, c1, hng, c2, less_i, swap_i, q2]; done))) | ((with_reducible first | apply WO_val_i | apply WT_val_i); (case hw => (simp [t0, t1, t2, t7, w1, w2, w3, c1, hng, c2, less_i, swap_i, q2]; done)); (case he => (simp [t0, t1, t2, t7, w1, w2, w3, c1, hng, c2, less_i, swap_i, q2]; first | done | exact ⟨rfl, rfl⟩ | rfl)); (case hp => (simp [t0, t1, t2, t7, w1, w2, w3, c1, hng, c2, less_i, swap_i, q2]; first | done | rfl))) | ((with_reducible first | apply WO_no_i | apply WT_no_i); (case hw => (simp [t0, t1, t2, t7, w1, w2, w3, c1, hng, c2, less_i, swap_i, q2]; done)); (case hp => (simp [t0, t1, t2, t7, w1, w2, w3, c1, hng, c2, less_i, swap_i, q2]; first | done | rfl))) | ((with_reducible first | apply WO_skip_i | apply WT_skip_i); (case hw => (simp [t0, t1, t2, t7, w1, w2, w3, c1, hng, c2, less_i, swap_i, q2]; done)); (case he => (simp [t0, t1, t2, t7, w1, w2, w3, c1, hng, c2, less_i, swap_i, q2]; first | done | rfl)); (case hp => (simp [t0, t1, t2, t7, w1, w2, w3, c1, hng, c2, less_i, swap_i, q2]; first | done | rfl))) | ((with_reducible first | apply WO_call_i | apply WT_call_i); (case hw => (simp [t0, t1, t2, t7, w1, w2, w3, c1, hng, c2, less_i, swap_i, q2]; done)); (case he => (simp [t0, t1, t2, t7, w1, w2, w3, c1, hng, c2, less_i, swap_i, q2]; first | done | exact ⟨rfl, rfl, rfl⟩ | rfl))))
        (first | apply endW_r | apply endW_n); (case h1 => (simp [Try.results39]; first | done | rfl))
        exact ⟨_, L, rfl, hX3, hp, hb, step_stop o hx (fun c c0 hc hpc => o.tr _ L[j1]! _ q2 (hm c c0 hc hpc)), hgL, k.tr _ _ _ hR hR3⟩
      · rw [q2] at hr3; subst hr3
        refine ⟨_, by simp; first | done | rfl, ?_⟩
        repeat (first | (with_reducible first | refine W_seq_i ?_ | refine W_block_i ?_ | refine W_region_i ?_ | refine W_skip_i ?_ | refine W_label_i ?_ | refine W_ret_i ?_ | refine W_exit_i ?_ | refine W_goto_i ?_ | refine W_scope_go ?_ | refine jumpW_r ?_ | refine jumpW_n ?_ | refine jumpW_x ?_ | refine blockW_g ?_ | refine thenW_n ?_ | refine blockW_n ?_ | refine blockW_x ?_ | refine blockW_y (by decide) ?_ | refine blockW_r ?_ | refine thenW_e (by simp; done) ?_ | refine WO_nil_i ?_ | refine WT_nil_i ?_) | (with_reducible apply W_cond_t; (case h => (simp [t0, t1, t2, t7, w1, w2, w3, c1, hng, c2, less_i, swap_i, q2]; done))) | (with_reducible apply W_cond_f; (case h => (simp [t0, t1, t2, t7, w1, w2, w3, c1, hng, c2, less_i, swap_i, q2]; done))) | ((with_reducible first | apply WO_val_i | apply WT_val_i); (case hw => (simp [t0, t1, t2, t7, w1, w2, w3, c1, hng, c2, less_i, swap_i, q2]; done)); (case he => (simp [t0, t1, t2, t7, w1, w2, w3, c1, hng, c2, less_i, swap_i, q2]; first | done | exact ⟨rfl, rfl⟩ | rfl)); (case hp => (simp [t0, t1, t2, t7, w1, w2, w3, c1, hng, c2, less_i, swap_i, q2]; first | done | rfl))) | ((with_reducible first | apply WO_no_i | apply WT_no_i); (case hw => (simp [t0, t1, t2, t7, w1, w2, w3, c1, hng, c2, less_i, swap_i, q2]; done)); (case hp => (simp [t0, t1, t2, t7, w1, w2, w3, c1, hng, c2, less_i, swap_i, q2]; first | done | rfl))) | ((with_reducible first | apply WO_skip_i | apply WT_skip_i); (case hw => (simp [t0, t1, t2, t7, w1, w2, w3, c1, hng, c2, less_i, swap_i, q2]; done)); (case he => (simp [t0, t1, t2, t7, w1, w2, w3, c1, hng, c2, less_i, swap_i, q2]; first | done | rfl)); (case hp => (simp [t0, t1, t2, t7, w1, w2, w3, c1, hng, c2, less_i, swap_i, q2]; first | done | rfl))) | ((with_reducible first | apply WO_call_i | apply WT_call_i); (case hw => (simp [t0, t1, t2, t7, w1, w2, w3, c1, hng, c2, less_i, swap_i, q2]; done)); (case he => (simp [t0, t1, t2, t7, w1, w2, w3, c1, hng, c2, less_i, swap_i, q2]; first | done | exact ⟨rfl, rfl, rfl⟩ | rfl))))
        refine A.mono (swap_a _ L i j1 hX3 (by omega) (by omega)) ?_
        rintro _ h4 ⟨hX4, hR4⟩
        refine ⟨_, by simp; first | done | rfl, ?_⟩
        repeat (first | (with_reducible first | refine W_seq_i ?_ | refine W_block_i ?_ | refine W_region_i ?_ | refine W_skip_i ?_ | refine W_label_i ?_ | refine W_ret_i ?_ | refine W_exit_i ?_ | refine W_goto_i ?_ | refine W_scope_go ?_ | refine jumpW_r ?_ | refine jumpW_n ?_ | refine jumpW_x ?_ | refine blockW_g ?_ | refine thenW_n ?_ | refine blockW_n ?_ | refine blockW_x ?_ | refine blockW_y (by decide) ?_ | refine blockW_r ?_ | refine thenW_e (by simp; done) ?_ | refine WO_nil_i ?_ | refine WT_nil_i ?_) | (with_reducible apply W_cond_t; (case h => (simp [t0, t1, t2, t7, w1, w2, w3, c1, hng, c2, less_i, swap_i, q2]; done))) | (with_reducible apply W_cond_f; (case h => (simp [t0, t1, t2, t7, w1, w2, w3, c1, hng, c2, less_i, swap_i, q2]; done))) | ((with_reducible first | apply WO_val_i | apply WT_val_i); (case hw => (simp [t0, t1, t2, t7, w1, w2, w3, c1, hng, c2, less_i, swap_i, q2]; done)); (case he => (simp [t0, t1, t2, t7, w1, w2, w3, c1, hng, c2, less_i, swap_i, q2]; first | done | exact ⟨rfl, rfl⟩ | rfl)); (case hp => (simp [t0, t1, t2, t7, w1, w2, w3, c1, hng, c2, less_i, swap_i, q2]; first | done | rfl))) | ((with_reducible first | apply WO_no_i | apply WT_no_i); (case hw => (simp [t0, t1, t2, t7, w1, w2, w3, c1, hng, c2, less_i, swap_i, q2]; done)); (case hp => (simp [t0, t1, t2, t7, w1, w2, w3, c1, hng, c2, less_i, swap_i, q2]; first | done | rfl))) | ((with_reducible first | apply WO_skip_i | apply WT_skip_i); (case hw => (simp [t0, t1, t2, t7, w1, w2, w3, c1, hng, c2, less_i, swap_i, q2]; done)); (case he => (simp [t0, t1, t2, t7, w1, w2, w3, c1, hng, c2, less_i, swap_i, q2]; first | done | rfl)); (case hp => (simp [t0, t1, t2, t7, w1, w2, w3, c1, hng, c2, less_i, swap_i, q2]; first | done | rfl))) | ((with_reducible first | apply WO_call_i | apply WT_call_i); (case hw => (simp [t0, t1, t2, t7, w1, w2, w3, c1, hng, c2, less_i, swap_i, q2]; done)); (case he => (simp [t0, t1, t2, t7, w1, w2, w3, c1, hng, c2, less_i, swap_i, q2]; first | done | exact ⟨rfl, rfl, rfl⟩ | rfl))))
        refine ⟨n + 1 - j1, by omega, _, _, j1, _, rfl, by simp [t0], by simp [t1], by simp [t2], by simp, rfl, by omega, by omega, hX4, (swapL_perm (by omega) (by omega)).trans hp, ?_, step_down o (by omega) hli hx (by omega) pj1 (by omega) hm q2, ?_, k.tr _ _ _ (k.tr _ _ _ hR hR3) hR4⟩
        · intro z hz
          rw [getElem!_swap (by omega) (by omega), if_neg (by omega), if_neg (by omega)]
          exact hb z hz
        · intro z hz
          rw [getElem!_swap (by omega) (by omega)]
          split
          · exact hgL _ (by omega)
          · split
            · exact hgL _ (by omega)
            · exact hgL _ hz
end
end Go.Vn

set_option maxRecDepth 20000
namespace Go.Vn
open Go.Proofs

@[simp] theorem hb30 : hasBody Try.prog 30 = true := by kernel_rfl
@[simp] theorem hb32 : hasBody Try.prog 32 = true := by kernel_rfl
@[simp] theorem hb33 : hasBody Try.prog 33 = true := by kernel_rfl
@[simp] theorem hb39 : hasBody Try.prog 39 = true := by kernel_rfl
@[simp] theorem hb40 : hasBody Try.prog 40 = true := by kernel_rfl
@[simp] theorem wrap_m1 : IntKind.i64.wrap (-1) = -1 := by rfl

section
variable {α : Type} [Inhabited α] {V : AV} {X : Hp Fm → List α → Prop} {g : α → Prop} {R : Hp Fm → Hp Fm → Prop} {less : α → α → Bool}

theorem up_ans (V : AV) (h : Hp Fm) : A Try.prog TT (.func 40) [V, .int .i64 0] h (fun r h' => h' = h) := by
  apply A_go Try.func40 rfl (by rfl); (case hn => (simp [Try.ntmps40]; rfl))
  repeat (first | (with_reducible first | refine W_seq_i ?_ | refine W_block_i ?_ | refine W_region_i ?_ | refine W_skip_i ?_ | refine W_label_i ?_ | refine W_ret_i ?_ | refine W_exit_i ?_ | refine W_goto_i ?_ | refine W_scope_go ?_ | refine jumpW_r ?_ | refine jumpW_n ?_ | refine jumpW_x ?_ | refine blockW_g ?_ | refine thenW_n ?_ | refine blockW_n ?_ | refine blockW_x ?_ | refine blockW_y (by decide) ?_ | refine blockW_r ?_ | refine thenW_e (by simp; done) ?_ | refine WO_nil_i ?_ | refine WT_nil_i ?_) | (with_reducible apply W_cond_t; (case h => (simp; done))) | (with_reducible apply W_cond_f; (case h => (simp; done))) | ((with_reducible first | apply WO_val_i | apply WT_val_i); (case hw => (simp; done)); (case he => (simp; first | done | exact ⟨rfl, rfl⟩ | rfl)); (case hp => (simp; first | done | rfl))) | ((with_reducible first | apply WO_no_i | apply WT_no_i); (case hw => (simp; done)); (case hp => (simp; first | done | rfl))) | ((with_reducible first | apply WO_skip_i | apply WT_skip_i); (case hw => (simp; done)); (case he => (simp; first | done | rfl)); (case hp => (simp; first | done | rfl))) | ((with_reducible first | apply WO_call_i | apply WT_call_i); (case hw => (simp; done)); (case he => (simp; first | done | exact ⟨rfl, rfl, rfl⟩ | rfl))))
  refine W_loop_i ?_
  repeat (first | (with_reducible first | refine W_seq_i ?_ | refine W_block_i ?_ | refine W_region_i ?_ | refine W_skip_i ?_ | refine W_label_i ?_ | refine W_ret_i ?_ | refine W_exit_i ?_ | refine W_goto_i ?_ | refine W_scope_go ?_ | refine jumpW_r ?_ | refine jumpW_n ?_ | refine jumpW_x ?_ | refine blockW_g ?_ | refine thenW_n ?_ | refine blockW_n ?_ | refine blockW_x ?_ | refine blockW_y (by decide) ?_ | refine blockW_r ?_ | refine thenW_e (by simp; done) ?_ | refine WO_nil_i ?_ | refine WT_nil_i ?_) | (with_reducible apply W_cond_t; (case h => (simp; done))) | (with_reducible apply W_cond_f; (case h => (simp; done))) | ((with_reducible first | apply WO_val_i | apply WT_val_i); (case hw => (simp; done)); (case he => (simp; first | done | exact ⟨rfl, rfl⟩ | rfl)); (case hp => (simp; first | done | rfl))) | ((with_reducible first | apply WO_no_i | apply WT_no_i); (case hw => (simp; done)); (case hp => (simp; first | done | rfl))) | ((with_reducible first | apply WO_skip_i | apply WT_skip_i); (case hw => (simp; done)); (case he => (simp; first | done | rfl)); (case hp => (simp; first | done | rfl))) | ((with_reducible first | apply WO_call_i | apply WT_call_i); (case hw => (simp; done)); (case he => (simp; first | done | exact ⟨rfl, rfl, rfl⟩ | rfl))))
  (first | apply endW_r | apply endW_n); (case h1 => (simp [Try.results40]; first | done | rfl))
  simp

theorem init_ans (k : HI V X g R less) (o : Ord less) (L0 : List α) (h0 : Hp Fm) (hX : X h0 L0) (hg : ∀ c, c < L0.length → g L0[c]!) :
    A Try.prog TT (.func 30) [V] h0 (fun r h' => ∃ (L' : List α), X h' L' ∧ L'.Perm L0 ∧ Heap less L' L'.length 0 ∧ (∀ c, c < L'.length → g L'[c]!) ∧ R h0 h') := by
  have hsm := k.sm _ _ hX
  obtain ⟨fl, vl, len_i, len_a⟩ := k.len
  have w1 : IntKind.i64.wrap ((L0.length : Int) / 2) = ((L0.length / 2 : Nat) : Int) := by
    rw [show (L0.length : Int) / 2 = ((L0.length / 2 : Nat) : Int) by omega]; exact wrap64 (by omega) (by omega)
  have w2 : IntKind.i64.wrap (((L0.length / 2 : Nat) : Int) - 1) = ((L0.length / 2 : Nat) : Int) - 1 := wrap64 (by omega) (by omega)
  generalize hm0 : L0.length / 2 = m0 at w1 w2
  apply A_go Try.func30 rfl (by rfl); (case hn => (simp [Try.ntmps30]; rfl))
  repeat (first | (with_reducible first | refine W_seq_i ?_ | refine W_block_i ?_ | refine W_region_i ?_ | refine W_skip_i ?_ | refine W_label_i ?_ | refine W_ret_i ?_ | refine W_exit_i ?_ | refine W_goto_i ?_ | refine W_scope_go ?_ | refine jumpW_r ?_ | refine jumpW_n ?_ | refine jumpW_x ?_ | refine blockW_g ?_ | refine thenW_n ?_ | refine blockW_n ?_ | refine blockW_x ?_ | refine blockW_y (by decide) ?_ | refine blockW_r ?_ | refine thenW_e (by simp; done) ?_ | refine WO_nil_i ?_ | refine WT_nil_i ?_) | (with_reducible apply W_cond_t; (case h => (simp [len_i]; done))) | (with_reducible apply W_cond_f; (case h => (simp [len_i]; done))) | ((with_reducible first | apply WO_val_i | apply WT_val_i); (case hw => (simp [len_i]; done)); (case he => (simp [len_i]; first | done | exact ⟨rfl, rfl⟩ | rfl)); (case hp => (simp [len_i]; first | done | rfl))) | ((with_reducible first | apply WO_no_i | apply WT_no_i); (case hw => (simp [len_i]; done)); (case hp => (simp [len_i]; first | done | rfl))) | ((with_reducible first | apply WO_skip_i | apply WT_skip_i); (case hw => (simp [len_i]; done)); (case he => (simp [len_i]; first | done | rfl)); (case hp => (simp [len_i]; first | done | rfl))) | ((with_reducible first | apply WO_call_i | apply WT_call_i); (case hw => (simp [len_i]; done)); (case he => (simp [len_i]; first | done | exact ⟨rfl, rfl, rfl⟩ | rfl))))
  refine A.mono (len_a _ L0 hX) ?_
  rintro _ h1 ⟨rfl, hX1, hR1⟩
  refine ⟨_, by simp; first | done | rfl, ?_⟩
  repeat (first | (with_reducible first | refine W_seq_i ?_ | refine W_block_i ?_ | refine W_region_i ?_ | refine W_skip_i ?_ | refine W_label_i ?_ | refine W_ret_i ?_ | refine W_exit_i ?_ | refine W_goto_i ?_ | refine W_scope_go ?_ | refine jumpW_r ?_ | refine jumpW_n ?_ | refine jumpW_x ?_ | refine blockW_g ?_ | refine thenW_n ?_ | refine blockW_n ?_ | refine blockW_x ?_ | refine blockW_y (by decide) ?_ | refine blockW_r ?_ | refine thenW_e (by simp; done) ?_ | refine WO_nil_i ?_ | refine WT_nil_i ?_) | (with_reducible apply W_cond_t; (case h => (simp [w1, w2]; done))) | (with_reducible apply W_cond_f; (case h => (simp [w1, w2]; done))) | ((with_reducible first | apply WO_val_i | apply WT_val_i); (case hw => (simp [w1, w2]; done)); (case he => (simp [w1, w2]; first | done | exact ⟨rfl, rfl⟩ | rfl)); (case hp => (simp [w1, w2]; first | done | rfl))) | ((with_reducible first | apply WO_no_i | apply WT_no_i); (case hw => (simp [w1, w2]; done)); (case hp => (simp [w1, w2]; first | done | rfl))) | ((with_reducible first | apply WO_skip_i | apply WT_skip_i); (case hw => (simp [w1, w2]; done)); (case he => (simp [w1, w2]; first | done | rfl)); (case hp => (simp [w1, w2]; first | done | rfl))) | ((with_reducible first | apply WO_call_i | apply WT_call_i); (case hw => (simp [w1, w2]; done)); (case he => (simp [w1, w2]; first | done | exact ⟨rfl, rfl, rfl⟩ | rfl))))
  refine W_loop (fun m s => ∃ (t : Fm AV) (h : Hp Fm) (L : List α), s = ⟨t, 17, h, none⟩ ∧ tget t 0 = V ∧ tget t 2 = .int .i64 L0.length ∧ tget t 3 = .int .i64 ((m : Int) - 1) ∧ m ≤ m0 ∧ X h L ∧ L.Perm L0 ∧ Heap less L L0.length m ∧ (∀ c, c < L0.length → g L[c]!) ∧ R h0 h) m0
    ⟨_, _, L0, rfl, by simp, by simp, by simp, Nat.le_refl _, hX1, List.Perm.refl _, ?_, hg, hR1⟩ ?_
  · intro c c0 hc hlo
    unfold par at hlo; omega
  rintro m s ⟨t, h, L, rfl, t0, t2, t3, hm, hXL, hp, hh, hgL, hR⟩
  have hlen : L.length = L0.length := hp.length_eq
  cases m with
  | zero =>
    repeat (first | (with_reducible first | refine W_seq_i ?_ | refine W_block_i ?_ | refine W_region_i ?_ | refine W_skip_i ?_ | refine W_label_i ?_ | refine W_ret_i ?_ | refine W_exit_i ?_ | refine W_goto_i ?_ | refine W_scope_go ?_ | refine jumpW_r ?_ | refine jumpW_n ?_ | refine jumpW_x ?_ | refine blockW_g ?_ | refine thenW_n ?_ | refine blockW_n ?_ | refine blockW_x ?_ | refine blockW_y (by decide) ?_ | refine blockW_r ?_ | refine thenW_e (by simp; done) ?_ | refine WO_nil_i ?_ | refine WT_nil_i ?_) | (with_reducible apply W_cond_t; (case h => (simp [t0, t2, t3]; done))) | (with_reducible apply W_cond_f; (case h => (simp [t0, t2, t3]; done))) | ((with_reducible first | apply WO_val_i | apply WT_val_i); (case hw => (simp [t0, t2, t3]; done)); (case he => (simp [t0, t2, t3]; first | done | exact ⟨rfl, rfl⟩ | rfl)); (case hp => (simp [t0, t2, t3]; first | done | rfl))) | ((with_reducible first | apply WO_no_i | apply WT_no_i); (case hw => (simp [t0, t2, t3]; done)); (case hp => (simp [t0, t2, t3]; first | done | rfl))) | ((with_reducible first | apply WO_skip_i | apply WT_skip_i); (case hw => (simp [t0, t2, t3]; done)); (case he => (simp [t0, t2, t3]; first | done | rfl)); (case hp => (simp [t0, t2, t3]; first | done | rfl))) | ((with_reducible first | apply WO_call_i | apply WT_call_i); (case hw => (simp [t0, t2, t3]; done)); (case he => (simp [t0, t2, t3]; first | done | exact ⟨rfl, rfl, rfl⟩ | rfl))))
    (first | apply endW_r | apply endW_n); (case h1 => (simp [Try.results30]; first | done | rfl))
    exact ⟨L, hXL, hp, by rw [hlen]; exact hh, by rw [hlen]; exact hgL, hR⟩
  | succ m =>
    have e1 : ((m + 1 : Nat) : Int) - 1 = (m : Int) := by omega
    have w3 : IntKind.i64.wrap ((m : Int) - 1) = (m : Int) - 1 := wrap64 (by omega) (by omega)
    rw [e1] at t3
    repeat (first | (with_reducible first | refine W_seq_i ?_ | refine W_block_i ?_ | refine W_region_i ?_ | refine W_skip_i ?_ | refine W_label_i ?_ | refine W_ret_i ?_ | refine W_exit_i ?_ | refine W_goto_i ?_ | refine W_scope_go ?_ | refine jumpW_r ?_ | refine jumpW_n ?_ | refine jumpW_x ?_ | refine blockW_g ?_ | refine thenW_n ?_ | refine blockW_n ?_ | refine blockW_x ?_ | refine blockW_y (by decide) ?_ | refine blockW_r ?_ | refine thenW_e (by simp; done) ?_ | refine WO_nil_i ?_ | refine WT_nil_i ?_) | (with_reducible apply W_cond_t; (case h => (simp [t0, t2, t3, w3]; done))) | (with_reducible apply W_cond_f; (case h => (simp [t0, t2, t3, w3]; done))) | ((with_reducible first | apply WO_val_i | apply WT_val_i); (case hw => (simp [t0, t2, t3, w3]; done)); (case he => (simp [t0, t2, t3, w3]; first | done | exact ⟨rfl, rfl⟩ | rfl)); (case hp => (simp [t0, t2, t3, w3]; first | done | rfl))) | ((with_reducible first | apply WO_no_i | apply WT_no_i); (case hw => (simp [t0, t2, t3, w3]; done)); (case hp => (simp [t0, t2, t3, w3]; first | done | rfl))) | ((with_reducible first | apply WO_skip_i | apply WT_skip_i); (case hw => (simp [t0, t2, t3, w3]; done)); (case he => (simp [t0, t2, t3, w3]; first | done | rfl)); (case hp => (simp [t0, t2, t3, w3]; first | done | rfl))) | ((with_reducible first | apply WO_call_i | apply WT_call_i); (case hw => (simp [t0, t2, t3, w3]; done)); (case he => (simp [t0, t2, t3, w3]; first | done | exact ⟨rfl, rfl, rfl⟩ | rfl))))
    refine A.mono (down_ans k o m L0.length m L h hXL (by omega) (Nat.le_refl _) (by omega) hgL ⟨?_, ?_⟩) ?_
    · intro c c0 hc hlo hne
      exact hh c c0 hc (by have : par c ≠ m := fun e => hne (by rw [e]); omega)
    · intro c y c0 hc hx hy y0 hlo
      have hy' : y = m := by rw [hy]; injection hx with e; exact e.symm
      unfold par at hlo; omega
    rintro _ h2 ⟨q, L2, rfl, hX2, hp2, hb2, hh2, hg2, hR2⟩
    refine ⟨_, by simp; first | done | rfl, ?_⟩
    repeat (first | (with_reducible first | refine W_seq_i ?_ | refine W_block_i ?_ | refine W_region_i ?_ | refine W_skip_i ?_ | refine W_label_i ?_ | refine W_ret_i ?_ | refine W_exit_i ?_ | refine W_goto_i ?_ | refine W_scope_go ?_ | refine jumpW_r ?_ | refine jumpW_n ?_ | refine jumpW_x ?_ | refine blockW_g ?_ | refine thenW_n ?_ | refine blockW_n ?_ | refine blockW_x ?_ | refine blockW_y (by decide) ?_ | refine blockW_r ?_ | refine thenW_e (by simp; done) ?_ | refine WO_nil_i ?_ | refine WT_nil_i ?_) | (with_reducible apply W_cond_t; (case h => (simp [t0, t2, t3, w3]; done))) | (with_reducible apply W_cond_f; (case h => (simp [t0, t2, t3, w3]; done))) | ((with_reducible first | apply WO_val_i | apply WT_val_i); (case hw => (simp [t0, t2, t3, w3]; done)); (case he => (simp [t0, t2, t3, w3]; first | done | exact ⟨rfl, rfl⟩ | rfl)); (case hp => (simp [t0, t2, t3, w3]; first | done | rfl))) | ((with_reducible first | apply WO_no_i | apply WT_no_i); (case hw => (simp [t0, t2, t3, w3]; done)); (case hp => (simp [t0, t2, t3, w3]; first | done | rfl))) | ((with_reducible first | apply WO_skip_i | apply WT_skip_i); (case hw => (simp [t0, t2, t3, w3]; done)); (case he => (simp [t0, t2, t3, w3]; first | done | rfl)); (case hp => (simp [t0, t2, t3, w3]; first | done | rfl))) | ((with_reducible first | apply WO_call_i | apply WT_call_i); (case hw => (simp [t0, t2, t3, w3]; done)); (case he => (simp [t0, t2, t3, w3]; first | done | exact ⟨rfl, rfl, rfl⟩ | rfl))))
    exact ⟨m, by omega, _, _, L2, rfl, by simp [t0], by simp [t2], by simp, by omega, hX2, hp2.trans hp, hh2, hg2, k.tr _ _ _ hR hR2⟩

theorem fix_ans (k : HI V X g R less) (o : Ord less) (L0 : List α) (h0 : Hp Fm) (hX : X h0 L0) (hg : ∀ c, c < L0.length → g L0[c]!) (hh : HeapX less L0 L0.length 0 (some 0)) :
    A Try.prog TT (.func 33) [V, .int .i64 0] h0 (fun r h' => ∃ (L' : List α), X h' L' ∧ L'.Perm L0 ∧ Heap less L' L'.length 0 ∧ (∀ c, c < L'.length → g L'[c]!) ∧ R h0 h') := by
  obtain ⟨fl, vl, len_i, len_a⟩ := k.len
  apply A_go Try.func33 rfl (by rfl); (case hn => (simp [Try.ntmps33]; rfl))
  repeat (first | (with_reducible first | refine W_seq_i ?_ | refine W_block_i ?_ | refine W_region_i ?_ | refine W_skip_i ?_ | refine W_label_i ?_ | refine W_ret_i ?_ | refine W_exit_i ?_ | refine W_goto_i ?_ | refine W_scope_go ?_ | refine jumpW_r ?_ | refine jumpW_n ?_ | refine jumpW_x ?_ | refine blockW_g ?_ | refine thenW_n ?_ | refine blockW_n ?_ | refine blockW_x ?_ | refine blockW_y (by decide) ?_ | refine blockW_r ?_ | refine thenW_e (by simp; done) ?_ | refine WO_nil_i ?_ | refine WT_nil_i ?_) | (with_reducible apply W_cond_t; (case h => (simp [len_i]; done))) | (with_reducible apply W_cond_f; (case h => (simp [len_i]; done))) | ((with_reducible first | apply WO_val_i | apply WT_val_i); (case hw => (simp [len_i]; done)); (case he => (simp [len_i]; first | done | exact ⟨rfl, rfl⟩ | rfl)); (case hp => (simp [len_i]; first | done | rfl))) | ((with_reducible first | apply WO_no_i | apply WT_no_i); (case hw => (simp [len_i]; done)); (case hp => (simp [len_i]; first | done | rfl))) | ((with_reducible first | apply WO_skip_i | apply WT_skip_i); (case hw => (simp [len_i]; done)); (case he => (simp [len_i]; first | done | rfl)); (case hp => (simp [len_i]; first | done | rfl))) | ((with_reducible first | apply WO_call_i | apply WT_call_i); (case hw => (simp [len_i]; done)); (case he => (simp [len_i]; first | done | exact ⟨rfl, rfl, rfl⟩ | rfl))))
  refine A.mono (len_a _ L0 hX) ?_
  rintro _ h1 ⟨rfl, hX1, hR1⟩
  refine ⟨_, by simp; first | done | rfl, ?_⟩
  repeat (first | (with_reducible first | refine W_seq_i ?_ | refine W_block_i ?_ | refine W_region_i ?_ | refine W_skip_i ?_ | refine W_label_i ?_ | refine W_ret_i ?_ | refine W_exit_i ?_ | refine W_goto_i ?_ | refine W_scope_go ?_ | refine jumpW_r ?_ | refine jumpW_n ?_ | refine jumpW_x ?_ | refine blockW_g ?_ | refine thenW_n ?_ | refine blockW_n ?_ | refine blockW_x ?_ | refine blockW_y (by decide) ?_ | refine blockW_r ?_ | refine thenW_e (by simp; done) ?_ | refine WO_nil_i ?_ | refine WT_nil_i ?_) | (with_reducible apply W_cond_t; (case h => (simp; done))) | (with_reducible apply W_cond_f; (case h => (simp; done))) | ((with_reducible first | apply WO_val_i | apply WT_val_i); (case hw => (simp; done)); (case he => (simp; first | done | exact ⟨rfl, rfl⟩ | rfl)); (case hp => (simp; first | done | rfl))) | ((with_reducible first | apply WO_no_i | apply WT_no_i); (case hw => (simp; done)); (case hp => (simp; first | done | rfl))) | ((with_reducible first | apply WO_skip_i | apply WT_skip_i); (case hw => (simp; done)); (case he => (simp; first | done | rfl)); (case hp => (simp; first | done | rfl))) | ((with_reducible first | apply WO_call_i | apply WT_call_i); (case hw => (simp; done)); (case he => (simp; first | done | exact ⟨rfl, rfl, rfl⟩ | rfl))))
  refine A.mono (down_ans k o 0 L0.length 0 L0 h1 hX1 (Nat.le_refl _) (Nat.le_refl _) (by omega) hg hh) ?_
  rintro _ h2 ⟨q, L2, rfl, hX2, hp2, hb2, hh2, hg2, hR2⟩
  have hlen : L2.length = L0.length := hp2.length_eq
  refine ⟨_, by simp; first | done | rfl, ?_⟩
  cases q
  · repeat (first | (with_reducible first | refine W_seq_i ?_ | refine W_block_i ?_ | refine W_region_i ?_ | refine W_skip_i ?_ | refine W_label_i ?_ | refine W_ret_i ?_ | refine W_exit_i ?_ | refine W_goto_i ?_ | refine W_scope_go ?_ | refine jumpW_r ?_ | refine jumpW_n ?_ | refine jumpW_x ?_ | refine blockW_g ?_ | refine thenW_n ?_ | refine blockW_n ?_ | refine blockW_x ?_ | refine blockW_y (by decide) ?_ | refine blockW_r ?_ | refine thenW_e (by simp; done) ?_ | refine WO_nil_i ?_ | refine WT_nil_i ?_) | (with_reducible apply W_cond_t; (case h => (simp; done))) | (with_reducible apply W_cond_f; (case h => (simp; done))) | ((with_reducible first | apply WO_val_i | apply WT_val_i); (case hw => (simp; done)); (case he => (simp; first | done | exact ⟨rfl, rfl⟩ | rfl)); (case hp => (simp; first | done | rfl))) | ((with_reducible first | apply WO_no_i | apply WT_no_i); (case hw => (simp; done)); (case hp => (simp; first | done | rfl))) | ((with_reducible first | apply WO_skip_i | apply WT_skip_i); (case hw => (simp; done)); (case he => (simp; first | done | rfl)); (case hp => (simp; first | done | rfl))) | ((with_reducible first | apply WO_call_i | apply WT_call_i); (case hw => (simp; done)); (case he => (simp; first | done | exact ⟨rfl, rfl, rfl⟩ | rfl))))
    refine A.mono (up_ans V _) ?_
    rintro _ h3 rfl
    refine ⟨_, by simp; first | done | rfl, ?_⟩
    repeat (first | (with_reducible first | refine W_seq_i ?_ | refine W_block_i ?_ | refine W_region_i ?_ | refine W_skip_i ?_ | refine W_label_i ?_ | refine W_ret_i ?_ | refine W_exit_i ?_ | refine W_goto_i ?_ | refine W_scope_go ?_ | refine jumpW_r ?_ | refine jumpW_n ?_ | refine jumpW_x ?_ | refine blockW_g ?_ | refine thenW_n ?_ | refine blockW_n ?_ | refine blockW_x ?_ | refine blockW_y (by decide) ?_ | refine blockW_r ?_ | refine thenW_e (by simp; done) ?_ | refine WO_nil_i ?_ | refine WT_nil_i ?_) | (with_reducible apply W_cond_t; (case h => (simp; done))) | (with_reducible apply W_cond_f; (case h => (simp; done))) | ((with_reducible first | apply WO_val_i | apply WT_val_i); (case hw => (simp; done)); (case he => (simp; first | done | exact ⟨rfl, rfl⟩ | rfl)); (case hp => (simp; first | done | rfl))) | ((with_reducible first | apply WO_no_i | apply WT_no_i); (case hw => (simp; done)); (case hp => (simp; first | done | rfl))) | ((with_reducible first | apply WO_skip_i | apply WT_skip_i); (case hw => (simp; done)); (case he => (simp; first | done | rfl)); (case hp => (simp; first | done | rfl))) | ((with_reducible first | apply WO_call_i | apply WT_call_i); (case hw => (simp; done)); (case he => (simp; first | done | exact ⟨rfl, rfl, rfl⟩ | rfl))))
    (first | apply endW_r | apply endW_n); (case h1 => (simp [Try.results33]; first | done | rfl))
    exact ⟨L2, hX2, hp2, by rw [hlen]; exact hh2, by rw [hlen]; exact hg2, k.tr _ _ _ hR1 hR2⟩
  · repeat (first | (with_reducible first | refine W_seq_i ?_ | refine W_block_i ?_ | refine W_region_i ?_ | refine W_skip_i ?_ | refine W_label_i ?_ | refine W_ret_i ?_ | refine W_exit_i ?_ | refine W_goto_i ?_ | refine W_scope_go ?_ | refine jumpW_r ?_ | refine jumpW_n ?_ | refine jumpW_x ?_ | refine blockW_g ?_ | refine thenW_n ?_ | refine blockW_n ?_ | refine blockW_x ?_ | refine blockW_y (by decide) ?_ | refine blockW_r ?_ | refine thenW_e (by simp; done) ?_ | refine WO_nil_i ?_ | refine WT_nil_i ?_) | (with_reducible apply W_cond_t; (case h => (simp; done))) | (with_reducible apply W_cond_f; (case h => (simp; done))) | ((with_reducible first | apply WO_val_i | apply WT_val_i); (case hw => (simp; done)); (case he => (simp; first | done | exact ⟨rfl, rfl⟩ | rfl)); (case hp => (simp; first | done | rfl))) | ((with_reducible first | apply WO_no_i | apply WT_no_i); (case hw => (simp; done)); (case hp => (simp; first | done | rfl))) | ((with_reducible first | apply WO_skip_i | apply WT_skip_i); (case hw => (simp; done)); (case he => (simp; first | done | rfl)); (case hp => (simp; first | done | rfl))) | ((with_reducible first | apply WO_call_i | apply WT_call_i); (case hw => (simp; done)); (case he => (simp; first | done | exact ⟨rfl, rfl, rfl⟩ | rfl))))
    (first | apply endW_r | apply endW_n); (case h1 => (simp [Try.results33]; first | done | rfl))
    exact ⟨L2, hX2, hp2, by rw [hlen]; exact hh2, by rw [hlen]; exact hg2, k.tr _ _ _ hR1 hR2⟩

theorem remove_ans (k : HI V X g R less) (o : Ord less) (L0 : List α) (h0 : Hp Fm) (hX : X h0 L0) (hn : L0 ≠ []) (hg : ∀ c, 0 < c → c < L0.length → g L0[c]!) (hh : HeapX less L0 L0.length 0 (some 0)) :
    A Try.prog TT (.func 32) [V, .int .i64 0] h0 (fun r h' => ∃ (L' : List α), X h' L' ∧ (L0[0]! :: L').Perm L0 ∧ Heap less L' L'.length 0 ∧ (∀ c, c < L'.length → g L'[c]!) ∧ R h0 h') := by
  have hsm := k.sm _ _ hX
  have hpos : 0 < L0.length := List.length_pos_iff.2 hn
  obtain ⟨fl, vl, len_i, len_a⟩ := k.len
  obtain ⟨fw, vw, swap_i, swap_a⟩ := k.swap
  obtain ⟨fp, vp, pop_i, pop_a⟩ := k.pop
  obtain ⟨n, hn1⟩ : ∃ n, L0.length = n + 1 := ⟨L0.length - 1, by omega⟩
  have w1 : IntKind.i64.wrap ((L0.length : Int) - 1) = (n : Int) := by rw [hn1]; rw [wrap64 (by omega) (by omega)]; omega
  apply A_go Try.func32 rfl (by rfl); (case hn => (simp [Try.ntmps32]; rfl))
  repeat (first | (with_reducible first | refine W_seq_i ?_ | refine W_block_i ?_ | refine W_region_i ?_ | refine W_skip_i ?_ | refine W_label_i ?_ | refine W_ret_i ?_ | refine W_exit_i ?_ | refine W_goto_i ?_ | refine W_scope_go ?_ | refine jumpW_r ?_ | refine jumpW_n ?_ | refine jumpW_x ?_ | refine blockW_g ?_ | refine thenW_n ?_ | refine blockW_n ?_ | refine blockW_x ?_ | refine blockW_y (by decide) ?_ | refine blockW_r ?_ | refine thenW_e (by simp; done) ?_ | refine WO_nil_i ?_ | refine WT_nil_i ?_) | (with_reducible apply W_cond_t; (case h => (simp [len_i]; done))) | (with_reducible apply W_cond_f; (case h => (simp [len_i]; done))) | ((with_reducible first | apply WO_val_i | apply WT_val_i); (case hw => (simp [len_i]; done)); (case he => (simp [len_i]; first | done | exact ⟨rfl, rfl⟩ | rfl)); (case hp => (simp [len_i]; first | done | rfl))) | ((with_reducible first | apply WO_no_i | apply WT_no_i); (case hw => (simp [len_i]; done)); (case hp => (simp [len_i]; first | done | rfl))) | ((with_reducible first | apply WO_skip_i | apply WT_skip_i); (case hw => (simp [len_i]; done)); (case he => (simp [len_i]; first | done | rfl)); (case hp => (simp [len_i]; first | done | rfl))) | ((with_reducible first | apply WO_call_i | apply WT_call_i); (case hw => (simp [len_i]; done)); (case he => (simp [len_i]; first | done | exact ⟨rfl, rfl, rfl⟩ | rfl))))
  refine A.mono (len_a _ L0 hX) ?_
  rintro _ h1 ⟨rfl, hX1, hR1⟩
  refine ⟨_, by simp; first | done | rfl, ?_⟩
  by_cases q : n = 0
  · subst q
    repeat (first | (with_reducible first | refine W_seq_i ?_ | refine W_block_i ?_ | refine W_region_i ?_ | refine W_skip_i ?_ | refine W_label_i ?_ | refine W_ret_i ?_ | refine W_exit_i ?_ | refine W_goto_i ?_ | refine W_scope_go ?_ | refine jumpW_r ?_ | refine jumpW_n ?_ | refine jumpW_x ?_ | refine blockW_g ?_ | refine thenW_n ?_ | refine blockW_n ?_ | refine blockW_x ?_ | refine blockW_y (by decide) ?_ | refine blockW_r ?_ | refine thenW_e (by simp; done) ?_ | refine WO_nil_i ?_ | refine WT_nil_i ?_) | (with_reducible apply W_cond_t; (case h => (simp [w1, pop_i]; done))) | (with_reducible apply W_cond_f; (case h => (simp [w1, pop_i]; done))) | ((with_reducible first | apply WO_val_i | apply WT_val_i); (case hw => (simp [w1, pop_i]; done)); (case he => (simp [w1, pop_i]; first | done | exact ⟨rfl, rfl⟩ | rfl)); (case hp => (simp [w1, pop_i]; first | done | rfl))) | ((with_reducible first | apply WO_no_i | apply WT_no_i); (case hw => (simp [w1, pop_i]; done)); (case hp => (simp [w1, pop_i]; first | done | rfl))) | ((with_reducible first | apply WO_skip_i | apply WT_skip_i); (case hw => (simp [w1, pop_i]; done)); (case he => (simp [w1, pop_i]; first | done | rfl)); (case hp => (simp [w1, pop_i]; first | done | rfl))) | ((with_reducible first | apply WO_call_i | apply WT_call_i); (case hw => (simp [w1, pop_i]; done)); (case he => (simp [w1, pop_i]; first | done | exact ⟨rfl, rfl, rfl⟩ | rfl))))
    refine A.mono (pop_a _ L0 hX1 hn) ?_
    rintro r h2 ⟨hX2, hR2⟩
    refine ⟨_, by simp; first | done | rfl, ?_⟩
    repeat (first | (with_reducible first | refine W_seq_i ?_ | refine W_block_i ?_ | refine W_region_i ?_ | refine W_skip_i ?_ | refine W_label_i ?_ | refine W_ret_i ?_ | refine W_exit_i ?_ | refine W_goto_i ?_ | refine W_scope_go ?_ | refine jumpW_r ?_ | refine jumpW_n ?_ | refine jumpW_x ?_ | refine blockW_g ?_ | refine thenW_n ?_ | refine blockW_n ?_ | refine blockW_x ?_ | refine blockW_y (by decide) ?_ | refine blockW_r ?_ | refine thenW_e (by simp; done) ?_ | refine WO_nil_i ?_ | refine WT_nil_i ?_) | (with_reducible apply W_cond_t; (case h => (simp; done))) | (with_reducible apply W_cond_f; (case h => (simp; done))) | ((with_reducible first | apply WO_val_i | apply WT_val_i); (case hw => (simp; done)); (case he => (simp; first | done | exact ⟨rfl, rfl⟩ | rfl)); (case hp => (simp; first | done | rfl))) | ((with_reducible first | apply WO_no_i | apply WT_no_i); (case hw => (simp; done)); (case hp => (simp; first | done | rfl))) | ((with_reducible first | apply WO_skip_i | apply WT_skip_i); (case hw => (simp; done)); (case he => (simp; first | done | rfl)); (case hp => (simp; first | done | rfl))) | ((with_reducible first | apply WO_call_i | apply WT_call_i); (case hw => (simp; done)); (case he => (simp; first | done | exact ⟨rfl, rfl, rfl⟩ | rfl))))
    (first | apply endW_r | apply endW_n); (case h1 => (simp [Try.results32]; first | done | rfl))
    match L0, hn1 with
    | [a], _ => exact ⟨[], hX2, by simp, fun c c0 hc => by simp at hc, fun c hc => by simp at hc, k.tr _ _ _ hR1 hR2⟩
  · have q1 : ¬ ((n : Int) = 0) := by omega
    repeat (first | (with_reducible first | refine W_seq_i ?_ | refine W_block_i ?_ | refine W_region_i ?_ | refine W_skip_i ?_ | refine W_label_i ?_ | refine W_ret_i ?_ | refine W_exit_i ?_ | refine W_goto_i ?_ | refine W_scope_go ?_ | refine jumpW_r ?_ | refine jumpW_n ?_ | refine jumpW_x ?_ | refine blockW_g ?_ | refine thenW_n ?_ | refine blockW_n ?_ | refine blockW_x ?_ | refine blockW_y (by decide) ?_ | refine blockW_r ?_ | refine thenW_e (by simp; done) ?_ | refine WO_nil_i ?_ | refine WT_nil_i ?_) | (with_reducible apply W_cond_t; (case h => (simp [w1, q, q1, swap_i]; done))) | (with_reducible apply W_cond_f; (case h => (simp [w1, q, q1, swap_i]; done))) | ((with_reducible first | apply WO_val_i | apply WT_val_i); (case hw => (simp [w1, q, q1, swap_i]; done)); (case he => (simp [w1, q, q1, swap_i]; first | done | exact ⟨rfl, rfl⟩ | rfl)); (case hp => (simp [w1, q, q1, swap_i]; first | done | rfl))) | ((with_reducible first | apply WO_no_i | apply WT_no_i); (case hw => (simp [w1, q, q1, swap_i]; done)); (case hp => (simp [w1, q, q1, swap_i]; first | done | rfl))) | ((with_reducible first | apply WO_skip_i | apply WT_skip_i); (case hw => (simp [w1, q, q1, swap_i]; done)); (case he => (simp [w1, q, q1, swap_i]; first | done | rfl)); (case hp => (simp [w1, q, q1, swap_i]; first | done | rfl))) | ((with_reducible first | apply WO_call_i | apply WT_call_i); (case hw => (simp [w1, q, q1, swap_i]; done)); (case he => (simp [w1, q, q1, swap_i]; first | done | exact ⟨rfl, rfl, rfl⟩ | rfl))))
    refine A.mono (swap_a _ L0 0 n hX1 hpos (by omega)) ?_
    rintro r h2 ⟨hX2, hR2⟩
    refine ⟨_, by simp; first | done | rfl, ?_⟩
    have hsw := getElem!_swap (L := L0) hpos (show n < L0.length by omega)
    have hl2 : (swapL L0 0 n).length = n + 1 := by rw [swapL_length, hn1]
    have hgs : ∀ c, c < n → g (swapL L0 0 n)[c]! := by
      intro c hc
      rw [hsw, if_neg (by omega)]
      split
      · exact hg n (by omega) (by omega)
      · exact hg c (by omega) (by omega)
    have hhs : HeapX less (swapL L0 0 n) n 0 (some 0) := by
      constructor
      · intro c c0 hc _ hne
        have hpc : par c < c := by unfold par; omega
        have hp0 : par c ≠ 0 := fun e => hne (by rw [e])
        rw [hsw, hsw, if_neg (by omega), if_neg (by omega), if_neg (by omega), if_neg hp0]
        exact hh.1 c c0 (by omega) (Nat.zero_le _) hne
      · intro c y c0 hc hx hy y0 _
        rw [hy] at y0; injection hx with e; omega
    have fin : ∀ (h3 h4 : Hp Fm) (L2 : List α), R h2 h3 → R h3 h4 → L2.Perm (swapL L0 0 n) → Beyond n (swapL L0 0 n) L2 → Heap less L2 n 0 → (∀ c, c < n → g L2[c]!) → X h4 L2.dropLast → ∃ (L' : List α), X h4 L' ∧ (L0[0]! :: L').Perm L0 ∧ Heap less L' L'.length 0 ∧ (∀ c, c < L'.length → g L'[c]!) ∧ R h0 h4 := by
      intro h3 h4 L2 hR3 hR4 hp2 hb2 hh2 hg2 hX4
      have hl : L2.length = n + 1 := by rw [hp2.length_eq, hl2]
      have hne : L2 ≠ [] := fun e => by simp [e] at hl
      have hlast : L2.getLast hne = L0[0]! := by
        have := hb2 n (Nat.le_refl _)
        rw [hsw, if_pos rfl] at this
        rw [← this, List.getLast_eq_getElem]
        simp [hl]
      have hdl : ∀ c, c < n → L2.dropLast[c]! = L2[c]! := by
        intro c hc
        have h1 : c < L2.dropLast.length := by rw [List.length_dropLast, hl]; omega
        have h2 : c < L2.length := by omega
        rw [getElem!_pos L2.dropLast c h1, getElem!_pos L2 c h2, List.getElem_dropLast]
      have hpar : ∀ c, par c ≤ c := fun c => by unfold par; omega
      refine ⟨L2.dropLast, hX4, ?_, ?_, ?_, k.tr _ _ _ (k.tr _ _ _ (k.tr _ _ _ hR1 hR2) hR3) hR4⟩
      · have e := List.dropLast_concat_getLast hne
        rw [hlast] at e
        have hc : (L0[0]! :: L2.dropLast).Perm (L2.dropLast ++ [L0[0]!]) := (List.perm_append_singleton _ _).symm
        rw [e] at hc
        exact hc.trans (hp2.trans (swapL_perm hpos (by omega)))
      · intro c c0 hc hlo
        rw [List.length_dropLast, hl] at hc
        have hpc := hpar c
        rw [hdl c (by omega), hdl (par c) (by omega)]
        exact hh2 c c0 (by omega) hlo
      · intro c hc
        rw [List.length_dropLast, hl] at hc
        rw [hdl c (by omega)]; exact hg2 c (by omega)
    repeat (first | (with_reducible first | refine W_seq_i ?_ | refine W_block_i ?_ | refine W_region_i ?_ | refine W_skip_i ?_ | refine W_label_i ?_ | refine W_ret_i ?_ | refine W_exit_i ?_ | refine W_goto_i ?_ | refine W_scope_go ?_ | refine jumpW_r ?_ | refine jumpW_n ?_ | refine jumpW_x ?_ | refine blockW_g ?_ | refine thenW_n ?_ | refine blockW_n ?_ | refine blockW_x ?_ | refine blockW_y (by decide) ?_ | refine blockW_r ?_ | refine thenW_e (by simp; done) ?_ | refine WO_nil_i ?_ | refine WT_nil_i ?_) | (with_reducible apply W_cond_t; (case h => (simp [w1, q, q1]; done))) | (with_reducible apply W_cond_f; (case h => (simp [w1, q, q1]; done))) | ((with_reducible first | apply WO_val_i | apply WT_val_i); (case hw => (simp [w1, q, q1]; done)); (case he => (simp [w1, q, q1]; first | done | exact ⟨rfl, rfl⟩ | rfl)); (case hp => (simp [w1, q, q1]; first | done | rfl))) | ((with_reducible first | apply WO_no_i | apply WT_no_i); (case hw => (simp [w1, q, q1]; done)); (case hp => (simp [w1, q, q1]; first | done | rfl))) | ((with_reducible first | apply WO_skip_i | apply WT_skip_i); (case hw => (simp [w1, q, q1]; done)); (case he => (simp [w1, q, q1]; first | done | rfl)); (case hp => (simp [w1, q, q1]; first | done | rfl))) | ((with_reducible first | apply WO_call_i | apply WT_call_i); (case hw => (simp [w1, q, q1]; done)); (case he => (simp [w1, q, q1]; first | done | exact ⟨rfl, rfl, rfl⟩ | rfl))))
    refine A.mono (down_ans k o 0 n 0 (swapL L0 0 n) h2 hX2 (by omega) (Nat.le_refl _) (by omega) hgs hhs) ?_
    rintro _ h3 ⟨q3, L2, rfl, hX3, hp3, hb3, hh3, hg3, hR3⟩
    have hne2 : L2 ≠ [] := fun e => by have := hp3.length_eq; simp [e] at this; omega
    refine ⟨_, by simp; first | done | rfl, ?_⟩
    cases q3
    · repeat (first | (with_reducible first | refine W_seq_i ?_ | refine W_block_i ?_ | refine W_region_i ?_ | refine W_skip_i ?_ | refine W_label_i ?_ | refine W_ret_i ?_ | refine W_exit_i ?_ | refine W_goto_i ?_ | refine W_scope_go ?_ | refine jumpW_r ?_ | refine jumpW_n ?_ | refine jumpW_x ?_ | refine blockW_g ?_ | refine thenW_n ?_ | refine blockW_n ?_ | refine blockW_x ?_ | refine blockW_y (by decide) ?_ | refine blockW_r ?_ | refine thenW_e (by simp; done) ?_ | refine WO_nil_i ?_ | refine WT_nil_i ?_) | (with_reducible apply W_cond_t; (case h => (simp [w1, q, q1]; done))) | (with_reducible apply W_cond_f; (case h => (simp [w1, q, q1]; done))) | ((with_reducible first | apply WO_val_i | apply WT_val_i); (case hw => (simp [w1, q, q1]; done)); (case he => (simp [w1, q, q1]; first | done | exact ⟨rfl, rfl⟩ | rfl)); (case hp => (simp [w1, q, q1]; first | done | rfl))) | ((with_reducible first | apply WO_no_i | apply WT_no_i); (case hw => (simp [w1, q, q1]; done)); (case hp => (simp [w1, q, q1]; first | done | rfl))) | ((with_reducible first | apply WO_skip_i | apply WT_skip_i); (case hw => (simp [w1, q, q1]; done)); (case he => (simp [w1, q, q1]; first | done | rfl)); (case hp => (simp [w1, q, q1]; first | done | rfl))) | ((with_reducible first | apply WO_call_i | apply WT_call_i); (case hw => (simp [w1, q, q1]; done)); (case he => (simp [w1, q, q1]; first | done | exact ⟨rfl, rfl, rfl⟩ | rfl))))
      refine A.mono (up_ans V _) ?_
      rintro _ h4 rfl
      refine ⟨_, by simp; first | done | rfl, ?_⟩
      repeat (first | (with_reducible first | refine W_seq_i ?_ | refine W_block_i ?_ | refine W_region_i ?_ | refine W_skip_i ?_ | refine W_label_i ?_ | refine W_ret_i ?_ | refine W_exit_i ?_ | refine W_goto_i ?_ | refine W_scope_go ?_ | refine jumpW_r ?_ | refine jumpW_n ?_ | refine jumpW_x ?_ | refine blockW_g ?_ | refine thenW_n ?_ | refine blockW_n ?_ | refine blockW_x ?_ | refine blockW_y (by decide) ?_ | refine blockW_r ?_ | refine thenW_e (by simp; done) ?_ | refine WO_nil_i ?_ | refine WT_nil_i ?_) | (with_reducible apply W_cond_t; (case h => (simp [pop_i]; done))) | (with_reducible apply W_cond_f; (case h => (simp [pop_i]; done))) | ((with_reducible first | apply WO_val_i | apply WT_val_i); (case hw => (simp [pop_i]; done)); (case he => (simp [pop_i]; first | done | exact ⟨rfl, rfl⟩ | rfl)); (case hp => (simp [pop_i]; first | done | rfl))) | ((with_reducible first | apply WO_no_i | apply WT_no_i); (case hw => (simp [pop_i]; done)); (case hp => (simp [pop_i]; first | done | rfl))) | ((with_reducible first | apply WO_skip_i | apply WT_skip_i); (case hw => (simp [pop_i]; done)); (case he => (simp [pop_i]; first | done | rfl)); (case hp => (simp [pop_i]; first | done | rfl))) | ((with_reducible first | apply WO_call_i | apply WT_call_i); (case hw => (simp [pop_i]; done)); (case he => (simp [pop_i]; first | done | exact ⟨rfl, rfl, rfl⟩ | rfl))))
      refine A.mono (pop_a _ L2 hX3 hne2) ?_
      rintro _ h5 ⟨hX5, hR5⟩
      refine ⟨_, by simp; first | done | rfl, ?_⟩
      repeat (first | (with_reducible first | refine W_seq_i ?_ | refine W_block_i ?_ | refine W_region_i ?_ | refine W_skip_i ?_ | refine W_label_i ?_ | refine W_ret_i ?_ | refine W_exit_i ?_ | refine W_goto_i ?_ | refine W_scope_go ?_ | refine jumpW_r ?_ | refine jumpW_n ?_ | refine jumpW_x ?_ | refine blockW_g ?_ | refine thenW_n ?_ | refine blockW_n ?_ | refine blockW_x ?_ | refine blockW_y (by decide) ?_ | refine blockW_r ?_ | refine thenW_e (by simp; done) ?_ | refine WO_nil_i ?_ | refine WT_nil_i ?_) | (with_reducible apply W_cond_t; (case h => (simp; done))) | (with_reducible apply W_cond_f; (case h => (simp; done))) | ((with_reducible first | apply WO_val_i | apply WT_val_i); (case hw => (simp; done)); (case he => (simp; first | done | exact ⟨rfl, rfl⟩ | rfl)); (case hp => (simp; first | done | rfl))) | ((with_reducible first | apply WO_no_i | apply WT_no_i); (case hw => (simp; done)); (case hp => (simp; first | done | rfl))) | ((with_reducible first | apply WO_skip_i | apply WT_skip_i); (case hw => (simp; done)); (case he => (simp; first | done | rfl)); (case hp => (simp; first | done | rfl))) | ((with_reducible first | apply WO_call_i | apply WT_call_i); (case hw => (simp; done)); (case he => (simp; first | done | exact ⟨rfl, rfl, rfl⟩ | rfl))))
      (first | apply endW_r | apply endW_n); (case h1 => (simp [Try.results32]; first | done | rfl))
      exact fin _ _ L2 hR3 hR5 hp3 hb3 hh3 hg3 hX5
    · repeat (first | (with_reducible first | refine W_seq_i ?_ | refine W_block_i ?_ | refine W_region_i ?_ | refine W_skip_i ?_ | refine W_label_i ?_ | refine W_ret_i ?_ | refine W_exit_i ?_ | refine W_goto_i ?_ | refine W_scope_go ?_ | refine jumpW_r ?_ | refine jumpW_n ?_ | refine jumpW_x ?_ | refine blockW_g ?_ | refine thenW_n ?_ | refine blockW_n ?_ | refine blockW_x ?_ | refine blockW_y (by decide) ?_ | refine blockW_r ?_ | refine thenW_e (by simp; done) ?_ | refine WO_nil_i ?_ | refine WT_nil_i ?_) | (with_reducible apply W_cond_t; (case h => (simp [w1, q, q1, pop_i]; done))) | (with_reducible apply W_cond_f; (case h => (simp [w1, q, q1, pop_i]; done))) | ((with_reducible first | apply WO_val_i | apply WT_val_i); (case hw => (simp [w1, q, q1, pop_i]; done)); (case he => (simp [w1, q, q1, pop_i]; first | done | exact ⟨rfl, rfl⟩ | rfl)); (case hp => (simp [w1, q, q1, pop_i]; first | done | rfl))) | ((with_reducible first | apply WO_no_i | apply WT_no_i); (case hw => (simp [w1, q, q1, pop_i]; done)); (case hp => (simp [w1, q, q1, pop_i]; first | done | rfl))) | ((with_reducible first | apply WO_skip_i | apply WT_skip_i); (case hw => (simp [w1, q, q1, pop_i]; done)); (case he => (simp [w1, q, q1, pop_i]; first | done | rfl)); (case hp => (simp [w1, q, q1, pop_i]; first | done | rfl))) | ((with_reducible first | apply WO_call_i | apply WT_call_i); (case hw => (simp [w1, q, q1, pop_i]; done)); (case he => (simp [w1, q, q1, pop_i]; first | done | exact ⟨rfl, rfl, rfl⟩ | rfl))))
      refine A.mono (pop_a _ L2 hX3 hne2) ?_
      rintro _ h5 ⟨hX5, hR5⟩
      refine ⟨_, by simp; first | done | rfl, ?_⟩
      repeat (first | (with_reducible first | refine W_seq_i ?_ | refine W_block_i ?_ | refine W_region_i ?_ | refine W_skip_i ?_ | refine W_label_i ?_ | refine W_ret_i ?_ | refine W_exit_i ?_ | refine W_goto_i ?_ | refine W_scope_go ?_ | refine jumpW_r ?_ | refine jumpW_n ?_ | refine jumpW_x ?_ | refine blockW_g ?_ | refine thenW_n ?_ | refine blockW_n ?_ | refine blockW_x ?_ | refine blockW_y (by decide) ?_ | refine blockW_r ?_ | refine thenW_e (by simp; done) ?_ | refine WO_nil_i ?_ | refine WT_nil_i ?_) | (with_reducible apply W_cond_t; (case h => (simp; done))) | (with_reducible apply W_cond_f; (case h => (simp; done))) | ((with_reducible first | apply WO_val_i | apply WT_val_i); (case hw => (simp; done)); (case he => (simp; first | done | exact ⟨rfl, rfl⟩ | rfl)); (case hp => (simp; first | done | rfl))) | ((with_reducible first | apply WO_no_i | apply WT_no_i); (case hw => (simp; done)); (case hp => (simp; first | done | rfl))) | ((with_reducible first | apply WO_skip_i | apply WT_skip_i); (case hw => (simp; done)); (case he => (simp; first | done | rfl)); (case hp => (simp; first | done | rfl))) | ((with_reducible first | apply WO_call_i | apply WT_call_i); (case hw => (simp; done)); (case he => (simp; first | done | exact ⟨rfl, rfl, rfl⟩ | rfl))))
      (first | apply endW_r | apply endW_n); (case h1 => (simp [Try.results32]; first | done | rfl))
      exact fin _ _ L2 hR3 hR5 hp3 hb3 hh3 hg3 hX5
end
end Go.Vn

namespace Go.Vn
open Go.Proofs

@[simp] theorem t90 : tzero Try.prog 90 = some (.agg [.nils, .nilf]) := by kernel_rfl
@[simp] theorem t65 : tzero Try.prog 65 = some (.agg [.nils, .nilf]) := by kernel_rfl
@[simp] theorem t97 : tzero Try.prog 97 = some (.agg [.nils, .nilf]) := by kernel_rfl
@[simp] theorem z22 : tsize Try.prog 22 = some 1 := by kernel_rfl
@[simp] theorem b22 : tbytes Try.prog 22 = some 24 := by kernel_rfl
@[simp] theorem a22 : tagg Try.prog 22 = some false := by kernel_rfl
@[simp] theorem z23 : tsize Try.prog 23 = some 1 := by kernel_rfl
@[simp] theorem b23 : tbytes Try.prog 23 = some 24 := by kernel_rfl
@[simp] theorem a23 : tagg Try.prog 23 = some false := by kernel_rfl
@[simp] theorem z32 : tsize Try.prog 32 = some 1 := by kernel_rfl
@[simp] theorem b32 : tbytes Try.prog 32 = some 24 := by kernel_rfl
@[simp] theorem a32 : tagg Try.prog 32 = some false := by kernel_rfl
instance {E : Type} : Inhabited (Hd E) := ⟨⟨.nils, [], 0⟩⟩

/-- The heap of heads, or none. -/
def Xof {E : Type} (p o : Nat) (F : AV) (Z : Nat) (enc : E → AV) (h : Hp Fm) (L : List (Hd E)) : Prop :=
  (HH F p o h L ∨ (L = [] ∧ Mp.get h.obj p = some (.row [.nils, F]) ∧ p < h.no)) ∧ (∀ x ∈ L, SV Z (x.xs.map enc) x.s) ∧ h.pol 3 = false

theorem Xof.ofX {E : Type} {p o : Nat} {F : AV} {Z : Nat} {enc : E → AV} {h h' : Hp Fm} {L : List (Hd E)} {S G : Nat → Prop} (k : Xof p o F Z enc h L) (he : HX S G h h') (hp : ¬ S p) (ho : ¬ S o) : Xof p o F Z enc h' L := by
  obtain ⟨k | ⟨rfl, hr, hn⟩, hs, hpol⟩ := k
  · refine ⟨.inl ?_, hs, by rw [he.pol]; exact hpol⟩
    obtain ⟨⟨cap, h1, h2⟩, ⟨J, h3⟩, h4, h5, h6, h7⟩ := k
    exact ⟨⟨cap, by rw [he.obj _ h5 hp]; exact h1, h2⟩, ⟨J, by rw [he.obj _ h6 ho]; exact h3⟩, h4, Nat.lt_of_lt_of_le h5 he.no, Nat.lt_of_lt_of_le h6 he.no, h7⟩
  · exact ⟨.inr ⟨rfl, by rw [he.obj _ hn hp]; exact hr, Nat.lt_of_lt_of_le hn he.no⟩, hs, by rw [he.pol]; exact hpol⟩

theorem Xof.of {E : Type} {p o : Nat} {F : AV} {Z : Nat} {enc : E → AV} {h h' : Hp Fm} {L : List (Hd E)} (k : Xof p o F Z enc h L) (he : HE h h') : Xof p o F Z enc h' L :=
  k.ofX (he.x (fun _ => False) (fun _ => False)) (fun e => e) (fun e => e)

theorem SV.drop1 {P : Program} {t e : TypeId} {sz : Nat} {xs : List AV} {v : AV} (h : SV sz xs v) (hu : P.underlying t = some (.slice e)) (hs : tsize P e = some sz) {k : IntKind} (h1 : xs ≠ []) :
    ∃ r, sliceAV P t v (some (.int k 1)) none none = some r ∧ SV sz (xs.drop 1) r := by
  have hl : 1 ≤ xs.length := List.length_pos_iff.2 h1
  have hz : (1 : Int) ≤ xs.length := by omega
  rcases h with ⟨rfl, rfl⟩ | ⟨g, off, cp, rfl⟩ | ⟨c, rfl, rfl⟩
  · exact (h1 rfl).elim
  · refine ⟨.sl g (off + 1) sz (cp - 1) ((xs.drop 1).take (xs.length - 1)), by simp [sliceAV, hu, hs, obound, bound, hl, hz], .inr (.inl ⟨g, off + 1, cp - 1, ?_⟩)⟩
    rw [List.take_of_length_le (by simp)]
  · exact (h1 rfl).elim

/-- The heads of lists. -/
def hds {E : Type} : Nat → List (AV × List E) → List (Hd E)
  | _, [] => []
  | i, p :: r => (if p.2 = [] then [] else [⟨p.1, p.2, i⟩]) ++ hds (i + 1) r

theorem hds_append {E : Type} : ∀ (a b : List (AV × List E)) (i : Nat), hds i (a ++ b) = hds i a ++ hds (i + a.length) b
  | [], b, i => by simp [hds]
  | p :: a, b, i => by
    simp only [List.cons_append, hds, hds_append a b (i + 1), List.append_assoc, List.length_cons]
    rw [show i + 1 + a.length = i + (a.length + 1) by omega]

theorem hds_take {E : Type} (l : List (AV × List E)) (i : Nat) (h : i < l.length) : hds 0 (l.take (i + 1)) = hds 0 (l.take i) ++ (if l[i].2 = [] then [] else [⟨l[i].1, l[i].2, i⟩]) := by
  rw [List.take_succ_eq_append_getElem h, hds_append, List.length_take, Nat.min_eq_left (by omega)]
  simp [hds]

theorem hds_length {E : Type} : ∀ (l : List (AV × List E)) (i : Nat), (hds i l).length ≤ l.length
  | [], i => by simp [hds]
  | p :: a, i => by
    have := hds_length a (i + 1)
    simp only [hds, List.length_append, List.length_cons]
    split <;> simp <;> omega

theorem hds_mem {E : Type} : ∀ (l : List (AV × List E)) (i : Nat) (x : Hd E), x ∈ hds i l → (x.s, x.xs) ∈ l ∧ x.xs ≠ []
  | [], i, x, h => by simp [hds] at h
  | p :: a, i, x, h => by
    simp only [hds, List.mem_append] at h
    rcases h with h | h
    · split at h
      · cases h
      · rename_i hn; simp only [List.mem_singleton] at h; subst h; exact ⟨List.mem_cons_self .., hn⟩
    · have := hds_mem a (i + 1) x h
      exact ⟨List.mem_cons_of_mem _ this.1, this.2⟩

/-- One thing is told. -/
def Step {E : Type} (less : Hd E → Hd E → Bool) (L : List (Hd E)) (a : E) (L' : List (Hd E)) : Prop :=
  ∃ x r rest s', L.Perm (x :: rest) ∧ x.xs = a :: r ∧ (∀ y ∈ L, less y x = false) ∧ L'.Perm (if r = [] then rest else ⟨s', r, x.w⟩ :: rest)

inductive Path {E : Type} (less : Hd E → Hd E → Bool) : List (Hd E) → List E → List (Hd E) → Prop
  | nil {L L' : List (Hd E)} (h : L'.Perm L) : Path less L [] L'
  | snoc {L L1 L2 : List (Hd E)} {pre : List E} {a : E} (h : Path less L pre L1) (k : Step less L1 a L2) : Path less L (pre ++ [a]) L2

theorem flat_heads {E : Type} (L : List (Hd E)) : (L.map fun x => AV.agg x.cells).flatMap AV.cells = L.flatMap Hd.cells := by
  induction L with
  | nil => rfl
  | cons a l ih => simp only [List.map_cons, List.flatMap_cons, ih]; rfl

theorem Xof.build {E : Type} {p : Nat} {F w : AV} {Z : Nat} {enc : E → AV} {h : Hp Fm} {L : List (Hd E)} (hw : Mp.get h.obj p = some (.row [w, F])) (k : RS (p + 1) h 2 true (L.map fun x => .agg x.cells) w) (hp : p < h.no) (hs : ∀ x ∈ L, SV Z (x.xs.map enc) x.s) (hpol : h.pol 3 = false) (hl : L.length < 2147483648) :
    ∃ o, p < o ∧ Xof p o F Z enc h L := by
  rcases k with ⟨rfl, hn⟩ | ⟨o, cap, rfl, hlo, ⟨J, h1, h2⟩, hc, ho⟩
  · have : L = [] := by simpa using hn
    subst this
    exact ⟨p + 1, by omega, .inr ⟨rfl, hw, hp⟩, hs, hpol⟩
  · rw [List.length_map] at hw hc
    exact ⟨o, hlo, .inl ⟨⟨cap, hw, hc⟩, ⟨J, by rw [h1, flat_heads]; rfl⟩, by omega, hp, ho, hl⟩, hs, hpol⟩

theorem heapX_top {α : Type} [Inhabited α] {less : α → α → Bool} {x y : α} {r : List α} (h : Heap less (x :: r) (x :: r).length 0) : HeapX less (y :: r) (y :: r).length 0 (some 0) := by
  constructor
  · intro c c0 hc _ hne
    have hp0 : par c ≠ 0 := fun e => hne (by rw [e])
    have := h c c0 (by simpa using hc) (Nat.zero_le _)
    obtain ⟨c', rfl⟩ : ∃ c', c = c' + 1 := ⟨c - 1, by omega⟩
    obtain ⟨q, hq⟩ : ∃ q, par (c' + 1) = q + 1 := ⟨par (c' + 1) - 1, by omega⟩
    rw [hq] at this ⊢
    simpa using this
  · intro c y c0 hc hx hy y0 _
    rw [hy] at y0; injection hx with e; omega

/-- How many things are left. -/
def left {E : Type} (L : List (Hd E)) : Nat := (L.map fun x => x.xs.length).sum
theorem left_perm {E : Type} {L L' : List (Hd E)} (h : L.Perm L') : left L = left L' := (h.map _).sum_nat
end Go.Vn

/- The law of merging. -/
namespace Go.Vn

section
variable {E : Type}

theorem Step.left {less : Hd E → Hd E → Bool} {L L' : List (Hd E)} {a : E} (h : Step less L a L') : Vn.left L = Vn.left L' + 1 := by
  obtain ⟨x, r, rest, s', hp, hx, _, hp'⟩ := h
  rw [left_perm hp, left_perm hp']
  by_cases e : r = []
  · subst e; simp [Vn.left, hx]; omega
  · rw [if_neg e]; simp [Vn.left, hx]; omega

theorem Path.left [Inhabited E] {less : Hd E → Hd E → Bool} {L L' : List (Hd E)} {pre : List E} (h : Path less L pre L') : Vn.left L = pre.length + Vn.left L' := by
  induction h with
  | nil h => rw [left_perm h]; simp
  | snoc h k ih => rw [ih, k.left, List.length_append]; simp; omega

/-- An order by numbers. -/
structure CmpOk (c : E → E → Int) : Prop where
  anti : ∀ a b, c a b < 0 ↔ 0 < c b a
  zero : ∀ a b, c a b = 0 ↔ c b a = 0
  tr : ∀ a b d, c a b ≤ 0 → c b d ≤ 0 → c a d ≤ 0
  tz : ∀ a b d, c a b = 0 → c b d = 0 → c a d = 0
  ltl : ∀ a b d, c a b < 0 → c b d ≤ 0 → c a d < 0
  ltr : ∀ a b d, c a b ≤ 0 → c b d < 0 → c a d < 0

theorem lessH_ord [Inhabited E] {c : E → E → Int} (k : CmpOk c) : Ord (lessH c) where
  asym := by
    intro a b h
    have h1 := k.anti a.xs.head! b.xs.head!
    have h2 := k.zero a.xs.head! b.xs.head!
    unfold lessH at h ⊢
    by_cases q : c a.xs.head! b.xs.head! = 0
    · rw [if_neg (by simp [q])] at h
      rw [if_neg (by simp [h2.mp q])]
      have := of_decide_eq_true h
      exact decide_eq_false (by omega)
    · rw [if_pos q] at h
      have := of_decide_eq_true h
      rw [if_pos (fun e => q (h2.mpr e))]
      exact decide_eq_false (by omega)
  tr := by
    intro a b d h1 h2
    have ab := k.anti a.xs.head! b.xs.head!
    have ba := k.anti b.xs.head! a.xs.head!
    have zab := k.zero a.xs.head! b.xs.head!
    have bd := k.anti b.xs.head! d.xs.head!
    have db := k.anti d.xs.head! b.xs.head!
    have zbd := k.zero b.xs.head! d.xs.head!
    have ad := k.anti a.xs.head! d.xs.head!
    have da := k.anti d.xs.head! a.xs.head!
    have zad := k.zero a.xs.head! d.xs.head!
    have t0 := k.tz a.xs.head! b.xs.head! d.xs.head!
    have t1 := k.ltl a.xs.head! b.xs.head! d.xs.head!
    have t2 := k.ltr a.xs.head! b.xs.head! d.xs.head!
    unfold lessH at h1 h2 ⊢
    generalize c a.xs.head! b.xs.head! = ca at *
    generalize c b.xs.head! a.xs.head! = cb at *
    generalize c b.xs.head! d.xs.head! = cc at *
    generalize c d.xs.head! b.xs.head! = cd at *
    generalize c a.xs.head! d.xs.head! = ce at *
    generalize c d.xs.head! a.xs.head! = cf at *
    have g : ∀ (x : Int) (w v : Nat), (if x ≠ 0 then decide (x < 0) else decide (w < v)) = false ↔ (0 < x ∨ (x = 0 ∧ v ≤ w)) := by
      intro x w v
      by_cases q : x = 0
      · rw [if_neg (by simp [q]), decide_eq_false_iff_not]; omega
      · rw [if_pos q, decide_eq_false_iff_not]; omega
    rw [g] at h1 h2 ⊢
    omega
end
end Go.Vn

namespace Go.Vn
theorem CmpOk.pull {E D : Type} {c : E → E → Int} (k : CmpOk c) (f : D → E) : CmpOk (fun a b => c (f a) (f b)) :=
  ⟨fun a b => k.anti _ _, fun a b => k.zero _ _, fun a b d => k.tr _ _ _, fun a b d => k.tz _ _ _, fun a b d => k.ltl _ _ _, fun a b d => k.ltr _ _ _⟩

theorem CmpOk.lex {E : Type} {c d : E → E → Int} (k : CmpOk c) (l : CmpOk d) : CmpOk (fun a b => if c a b ≠ 0 then c a b else d a b) := by
  have g : ∀ a b, ((if c a b ≠ 0 then c a b else d a b) < 0 ↔ (c a b < 0 ∨ (c a b = 0 ∧ d a b < 0))) ∧ (0 < (if c a b ≠ 0 then c a b else d a b) ↔ (0 < c a b ∨ (c a b = 0 ∧ 0 < d a b))) ∧ ((if c a b ≠ 0 then c a b else d a b) = 0 ↔ (c a b = 0 ∧ d a b = 0)) ∧ ((if c a b ≠ 0 then c a b else d a b) ≤ 0 ↔ (c a b < 0 ∨ (c a b = 0 ∧ d a b ≤ 0))) := by
    intro a b
    by_cases q : c a b = 0
    · rw [if_neg (by simp [q])]; omega
    · rw [if_pos q]; omega
  constructor
  · intro a b
    show (if c a b ≠ 0 then c a b else d a b) < 0 ↔ 0 < (if c b a ≠ 0 then c b a else d b a)
    rw [(g a b).1, (g b a).2.1]
    have := k.anti a b; have := l.anti a b; have := k.zero a b
    omega
  · intro a b
    show (if c a b ≠ 0 then c a b else d a b) = 0 ↔ (if c b a ≠ 0 then c b a else d b a) = 0
    rw [(g a b).2.2.1, (g b a).2.2.1]
    have := k.zero a b; have := l.zero a b
    omega
  · intro a b e h1 h2
    show (if c a e ≠ 0 then c a e else d a e) ≤ 0
    replace h1 := (g a b).2.2.2.mp h1; replace h2 := (g b e).2.2.2.mp h2
    rw [(g a e).2.2.2]
    have := k.tz a b e; have := k.ltl a b e; have := k.ltr a b e; have := l.tr a b e
    omega
  · intro a b e h1 h2
    show (if c a e ≠ 0 then c a e else d a e) = 0
    replace h1 := (g a b).2.2.1.mp h1; replace h2 := (g b e).2.2.1.mp h2
    rw [(g a e).2.2.1]
    exact ⟨k.tz a b e h1.1 h2.1, l.tz a b e h1.2 h2.2⟩
  · intro a b e h1 h2
    show (if c a e ≠ 0 then c a e else d a e) < 0
    replace h1 := (g a b).1.mp h1; replace h2 := (g b e).2.2.2.mp h2
    rw [(g a e).1]
    have := k.tz a b e; have := k.ltl a b e; have := k.ltr a b e; have := l.ltl a b e
    omega
  · intro a b e h1 h2
    show (if c a e ≠ 0 then c a e else d a e) < 0
    replace h1 := (g a b).2.2.2.mp h1; replace h2 := (g b e).1.mp h2
    rw [(g a e).1]
    have := k.tz a b e; have := k.ltl a b e; have := k.ltr a b e; have := l.ltr a b e
    omega

/-- Of a list the things alike. -/
def alike {E : Type} (c : E → E → Int) (x : E) (l : List E) : List E := l.filter fun y => decide (c y x = 0)

/-- Each is at most the next ones. -/
def Sorted {E : Type} (c : E → E → Int) : List E → Prop
  | [] => True
  | a :: l => (∀ b ∈ l, c a b ≤ 0) ∧ Sorted c l

/-- Sorted lists with the same things alike, in one row, are the same. -/
theorem sorted_unique {E : Type} {c : E → E → Int} (k : CmpOk c) : ∀ (l m : List E), Sorted c l → Sorted c m → (∀ x, alike c x l = alike c x m) → l = m
  | [], [], _, _, _ => rfl
  | [], b :: m, _, _, h => by
    have h0 : c b b = 0 := by have := k.anti b b; omega
    have := h b
    simp [alike, h0] at this
  | a :: l, [], _, _, h => by
    have h0 : c a a = 0 := by have := k.anti a a; omega
    have := h a
    simp [alike, h0] at this
  | a :: l, b :: m, hl, hm, h => by
    have ha0 : c a a = 0 := by have := k.anti a a; omega
    have hb0 : c b b = 0 := by have := k.anti b b; omega
    have hmem : ∀ (x : E) (p q : List E), (∀ y, alike c y p = alike c y q) → x ∈ p → x ∈ q := by
      intro x p q hpq hx
      have h0 : c x x = 0 := by have := k.anti x x; omega
      have : x ∈ alike c x p := List.mem_filter.mpr ⟨hx, by simp [h0]⟩
      rw [hpq x] at this
      exact (List.mem_filter.mp this).1
    have hab : c b a ≤ 0 := by
      have := hmem a _ _ h (List.mem_cons_self ..)
      rcases List.mem_cons.mp this with e | e
      · subst e; omega
      · exact hm.1 a e
    have hba : c a b ≤ 0 := by
      have := hmem b _ _ (fun y => (h y).symm) (List.mem_cons_self ..)
      rcases List.mem_cons.mp this with e | e
      · subst e; omega
      · exact hl.1 b e
    have hz : c b a = 0 := by have := k.anti a b; have := k.anti b a; omega
    have ha := h a
    simp only [alike, List.filter_cons, ha0, hz, decide_true, if_true] at ha
    injection ha with e1 e2
    subst e1
    congr 1
    refine sorted_unique k l m hl.2 hm.2 fun x => ?_
    have hx := h x
    simp only [alike, List.filter_cons] at hx ⊢
    split at hx
    · injection hx
    · exact hx
end Go.Vn

/- What is told of sorted lists. -/
namespace Go.Vn

theorem flat_front {E : Type} (f f' : Nat → List E) (p : List E) (w0 : Nat) (h0 : f w0 = p ++ f' w0) (hne : ∀ w, w ≠ w0 → f w = f' w) (hlt : p ≠ [] → ∀ w, w < w0 → f w = []) :
    ∀ N, w0 < N → (List.range N).flatMap f = p ++ (List.range N).flatMap f' := by
  intro N
  induction N with
  | zero => intro h; omega
  | succ N ih =>
    intro h
    rw [List.range_succ, List.flatMap_append, List.flatMap_append]
    simp only [List.flatMap_cons, List.flatMap_nil, List.append_nil]
    by_cases e : w0 = N
    · subst e
      have hs : (List.range w0).flatMap f = (List.range w0).flatMap f' := by
        have : ∀ n, n ≤ w0 → (List.range n).flatMap f = (List.range n).flatMap f' := by
          intro n
          induction n with
          | zero => intro _; rfl
          | succ n ihn =>
            intro hn
            rw [List.range_succ, List.flatMap_append, List.flatMap_append, ihn (by omega)]
            simp only [List.flatMap_cons, List.flatMap_nil, List.append_nil]
            rw [hne n (by omega)]
        exact this w0 (Nat.le_refl _)
      by_cases hp : p = []
      · subst hp; rw [hs, h0]; rfl
      · have hz : (List.range w0).flatMap f = [] := by
          rw [List.flatMap_eq_nil_iff]
          intro w hw
          exact hlt hp w (List.mem_range.mp hw)
        rw [← hs, hz, h0]; simp
    · rw [ih (by omega), hne N (fun k => e k.symm), List.append_assoc]

/-- The heads of lists that are told in M. -/
structure Rep {E : Type} (N : Nat) (M : Nat → List E) (L : List (Hd E)) : Prop where
  at_ : ∀ x ∈ L, x.w < N ∧ M x.w = x.xs ∧ x.xs ≠ []
  all : ∀ w, w < N → M w ≠ [] → ∃ x ∈ L, x.w = w
  nd : (L.map Hd.w).Nodup

theorem Rep.perm {E : Type} {N : Nat} {M : Nat → List E} {L L' : List (Hd E)} (k : Rep N M L) (h : L'.Perm L) : Rep N M L' :=
  ⟨fun x hx => k.at_ x (h.mem_iff.mp hx), fun w hw hm => let ⟨x, hx, e⟩ := k.all w hw hm; ⟨x, h.mem_iff.mpr hx, e⟩, (h.map _).nodup_iff.mpr k.nd⟩

theorem head_le {E : Type} [Inhabited E] {c : E → E → Int} (k : CmpOk c) {l : List E} (hs : Sorted c l) {e : E} (he : e ∈ l) : c l.head! e ≤ 0 := by
  cases l with
  | nil => cases he
  | cons a r =>
    rcases List.mem_cons.mp he with h | h
    · subst h; show c e e ≤ 0; have := k.anti e e; omega
    · exact hs.1 e h

theorem Step.law {E : Type} [Inhabited E] {c : E → E → Int} (k : CmpOk c) {N : Nat} {M : Nat → List E} {L L' : List (Hd E)} {a : E} (hr : Rep N M L) (hso : ∀ w, Sorted c (M w)) (h : Step (lessH c) L a L') :
    ∃ M', Rep N M' L' ∧ (∀ w, Sorted c (M' w)) ∧ (∀ x, alike c x ((List.range N).flatMap M) = alike c x [a] ++ alike c x ((List.range N).flatMap M')) ∧ (∀ e ∈ (List.range N).flatMap M, c a e ≤ 0) ∧ a ∈ (List.range N).flatMap M ∧ (∀ e ∈ (List.range N).flatMap M', e ∈ (List.range N).flatMap M) := by
  obtain ⟨x0, r, rest, s', hp, hx, hmin, hp'⟩ := h
  have hr0 := hr.perm hp.symm
  obtain ⟨hwN, hM, _⟩ := hr0.at_ x0 (List.mem_cons_self ..)
  rw [hx] at hM
  have hnd := hr0.nd
  rw [List.map_cons, List.nodup_cons] at hnd
  have hhd : x0.xs.head! = a := by rw [hx]; rfl
  have h00 := k.anti
  -- what is in the other lists
  have oth : ∀ w, w < N → ∀ e ∈ M w, c a e ≤ 0 ∧ (w < x0.w → c a e < 0) := by
    intro w hw e he
    obtain ⟨y, hy, rfl⟩ := hr.all w hw (fun z => by rw [z] at he; cases he)
    obtain ⟨_, hMy, _⟩ := hr.at_ y hy
    have hle : c y.xs.head! e ≤ 0 := head_le k (by rw [← hMy]; exact hso y.w) (by rw [← hMy]; exact he)
    have hm := hmin y hy
    unfold lessH at hm
    rw [hhd] at hm
    by_cases q : c y.xs.head! a = 0
    · rw [if_neg (by simp [q])] at hm
      have hge := of_decide_eq_false hm
      have q' := (k.zero _ _).mp q
      exact ⟨k.tr _ _ _ (by omega) hle, fun hlt => absurd hlt hge⟩
    · rw [if_pos q] at hm
      have hge := of_decide_eq_false hm
      have : c a y.xs.head! < 0 := by have := k.anti a y.xs.head!; omega
      have := k.ltl _ _ _ this hle
      exact ⟨by omega, fun _ => this⟩
  have hsub : ∀ w, ∀ e ∈ (if w = x0.w then r else M w), e ∈ M w := by
    intro w e he
    by_cases q : w = x0.w
    · subst q; rw [if_pos rfl] at he; rw [hM]; exact List.mem_cons_of_mem _ he
    · rwa [if_neg q] at he
  refine ⟨fun w => if w = x0.w then r else M w, ?_, ?_, ?_, ?_, ?_, ?_⟩
  · refine Rep.perm (L := if r = [] then rest else ⟨s', r, x0.w⟩ :: rest) ?_ hp'
    have hrest : ∀ y ∈ rest, y.w ≠ x0.w := fun y hy e => hnd.1 (by rw [← e]; exact List.mem_map_of_mem hy)
    have hat : ∀ y ∈ rest, y.w < N ∧ (if y.w = x0.w then r else M y.w) = y.xs ∧ y.xs ≠ [] := by
      intro y hy
      rw [if_neg (hrest y hy)]
      exact hr0.at_ y (List.mem_cons_of_mem _ hy)
    have hall : ∀ w, w < N → w ≠ x0.w → M w ≠ [] → ∃ y ∈ rest, y.w = w := by
      intro w hw hne hm
      obtain ⟨y, hy, e⟩ := hr0.all w hw hm
      rcases List.mem_cons.mp hy with h | h
      · subst h; exact absurd e.symm hne
      · exact ⟨y, h, e⟩
    by_cases e : r = []
    · rw [if_pos e]
      refine ⟨hat, fun w hw hm => ?_, hnd.2⟩
      by_cases q : w = x0.w
      · rw [if_pos q] at hm; exact absurd e hm
      · rw [if_neg q] at hm; exact hall w hw q hm
    · rw [if_neg e]
      refine ⟨fun y hy => ?_, fun w hw hm => ?_, ?_⟩
      · rcases List.mem_cons.mp hy with h | h
        · subst h; exact ⟨hwN, if_pos rfl, e⟩
        · exact hat y h
      · by_cases q : w = x0.w
        · exact ⟨_, List.mem_cons_self .., q.symm⟩
        · rw [if_neg q] at hm
          obtain ⟨y, hy, e⟩ := hall w hw q hm
          exact ⟨y, List.mem_cons_of_mem _ hy, e⟩
      · rw [List.map_cons, List.nodup_cons]; exact hnd
  · intro w
    show Sorted c (if w = x0.w then r else M w)
    by_cases q : w = x0.w
    · rw [if_pos q]; have := hso x0.w; rw [hM] at this; exact this.2
    · rw [if_neg q]; exact hso w
  · intro x
    unfold alike
    rw [List.filter_flatMap, List.filter_flatMap]
    refine flat_front _ _ _ x0.w ?_ ?_ ?_ N hwN
    · show List.filter _ (M x0.w) = _ ++ List.filter _ (if x0.w = x0.w then r else M x0.w)
      rw [hM, if_pos rfl, ← List.filter_append]; rfl
    · intro w hw
      show List.filter _ (M w) = List.filter _ (if w = x0.w then r else M w)
      rw [if_neg hw]
    · intro hne w hw
      show List.filter _ (M w) = []
      rw [List.filter_eq_nil_iff]
      intro e he hz
      have hax : c a x = 0 := by
        by_cases q : c a x = 0
        · exact q
        · exact absurd (by simp [q]) hne
      have hex : c e x = 0 := of_decide_eq_true hz
      have := (oth w (by omega) e he).2 hw
      have := k.tz a x e hax ((k.zero _ _).mp hex)
      omega
  · intro e he
    obtain ⟨w, hw, he⟩ := List.mem_flatMap.mp he
    exact (oth w (List.mem_range.mp hw) e he).1
  · exact List.mem_flatMap.mpr ⟨x0.w, List.mem_range.mpr hwN, by rw [hM]; exact List.mem_cons_self ..⟩
  · intro e he
    obtain ⟨w, hw, he⟩ := List.mem_flatMap.mp he
    exact List.mem_flatMap.mpr ⟨w, hw, hsub w e he⟩

theorem sorted_snoc {E : Type} {c : E → E → Int} : ∀ (l : List E) (a : E), Sorted c l → (∀ b ∈ l, c b a ≤ 0) → Sorted c (l ++ [a])
  | [], a, _, _ => ⟨(fun b h => by cases h), trivial⟩
  | b :: l, a, h, k => by
    refine ⟨fun e he => ?_, sorted_snoc l a h.2 fun e he => k e (List.mem_cons_of_mem _ he)⟩
    rcases List.mem_append.mp he with q | q
    · exact h.1 e q
    · rw [List.mem_singleton.mp q]; exact k b (List.mem_cons_self ..)

theorem Path.law {E : Type} [Inhabited E] {c : E → E → Int} (k : CmpOk c) {N : Nat} {M : Nat → List E} {L L' : List (Hd E)} {pre : List E} (hr : Rep N M L) (hso : ∀ w, Sorted c (M w)) (h : Path (lessH c) L pre L') :
    ∃ M', Rep N M' L' ∧ (∀ w, Sorted c (M' w)) ∧ (∀ x, alike c x ((List.range N).flatMap M) = alike c x pre ++ alike c x ((List.range N).flatMap M')) ∧ Sorted c pre ∧ ∀ p ∈ pre, ∀ e ∈ (List.range N).flatMap M', c p e ≤ 0 := by
  induction h with
  | nil hp => exact ⟨M, hr.perm hp, hso, fun x => rfl, trivial, fun p hp => by cases hp⟩
  | @snoc L1 L2 pre a h st ih =>
    obtain ⟨M1, hr1, hs1, ha1, hpre, hle⟩ := ih
    obtain ⟨M2, hr2, hs2, ha2, hle2, hmem, hsub⟩ := st.law k hr1 hs1
    refine ⟨M2, hr2, hs2, fun x => ?_, sorted_snoc _ _ hpre fun b hb => hle b hb a hmem, fun p hp e he => ?_⟩
    · rw [ha1, ha2]; unfold alike; rw [List.filter_append, List.append_assoc]
    · rcases List.mem_append.mp hp with q | q
      · exact hle p q e (hsub e he)
      · rw [List.mem_singleton.mp q]; exact hle2 e (hsub e he)

theorem with_loop {P : Program} {T : Tab} {g : Fx} {args : List AV} {h : Hp Fm} {Q : AV → Hp Fm → Prop} (y : Nat) (lr : ALoop Fm) (hg : Mp.get h.obj y = some (.loop lr)) (k : ∀ lr', lr' = lr → Mp.get h.obj y = some (.loop lr') → A P T g args h Q) : A P T g args h Q := k lr rfl hg

theorem AC.ofX {h0 h h' : Hp Fm} {sz : Nat} {acc : List AV} {v : AV} {S : Nat → Prop} (k : AC h0 h sz acc v) (he : HX S (fun _ => False) h h') : AC h0 h' sz acc v := by
  rcases k with h | ⟨g, off, cap, a, b, c, d⟩
  · exact .inl h
  · exact .inr ⟨g, off, cap, a, (he.len g c (fun e => e)).trans b, Nat.lt_of_lt_of_le c he.ng, d⟩
end Go.Vn

/- The orders are orders; and what All answers. -/
namespace Go.Vn

theorem cmpI_ok : CmpOk cmpI := by
  constructor <;> intros <;> unfold cmpI at * <;> (repeat' split at *) <;> omega

theorem first5_ok {E : Type} {c1 c2 c3 c4 c5 : E → E → Int} (h1 : CmpOk c1) (h2 : CmpOk c2) (h3 : CmpOk c3) (h4 : CmpOk c4) (h5 : CmpOk c5) : CmpOk (fun a b => first5 (c1 a b) (c2 a b) (c3 a b) (c4 a b) (c5 a b)) :=
  h1.lex (h2.lex (h3.lex (h4.lex h5)))

theorem hds_w {E : Type} : ∀ (l : List (AV × List E)) (i : Nat) (x : Hd E), x ∈ hds i l → i ≤ x.w ∧ x.w < i + l.length ∧ l[x.w - i]? = some (x.s, x.xs)
  | [], i, x, h => by simp [hds] at h
  | p :: a, i, x, h => by
    simp only [hds, List.mem_append] at h
    rcases h with h | h
    · split at h
      · cases h
      · simp only [List.mem_singleton] at h; subst h; simp
    · have := hds_w a (i + 1) x h
      refine ⟨by omega, by simp; omega, ?_⟩
      rw [show x.w - i = (x.w - (i + 1)) + 1 by omega, List.getElem?_cons_succ]
      exact this.2.2

theorem hds_nodup {E : Type} : ∀ (l : List (AV × List E)) (i : Nat), ((hds i l).map Hd.w).Nodup
  | [], i => by simp [hds]
  | p :: a, i => by
    have ih := hds_nodup a (i + 1)
    simp only [hds, List.map_append]
    split
    · simpa using ih
    · simp only [List.map_cons, List.map_nil, List.singleton_append, List.nodup_cons]
      refine ⟨fun h => ?_, ih⟩
      obtain ⟨x, hx, e⟩ := List.mem_map.mp h
      have := (hds_w a (i + 1) x hx).1
      omega

theorem hds_all {E : Type} : ∀ (l : List (AV × List E)) (i k : Nat) (q : AV × List E), l[k]? = some q → q.2 ≠ [] → ∃ x ∈ hds i l, x.w = i + k
  | [], i, k, q, h, _ => by simp at h
  | p :: a, i, 0, q, h, hn => by
    simp at h; subst h
    exact ⟨⟨p.1, p.2, i⟩, by simp [hds, hn], rfl⟩
  | p :: a, i, k + 1, q, h, hn => by
    obtain ⟨x, hx, e⟩ := hds_all a (i + 1) k q (by simpa using h) hn
    exact ⟨x, by simp only [hds, List.mem_append]; exact .inr hx, by omega⟩

theorem hds_rep {E : Type} (l : List (AV × List E)) : Rep l.length (fun w : Nat => ((l[w]?).map Prod.snd).getD []) (hds 0 l) where
  at_ := fun x hx => by
    have h := hds_w l 0 x hx
    have hn := (hds_mem l 0 x hx).2
    refine ⟨by omega, ?_, hn⟩
    have := h.2.2
    simp only [Nat.sub_zero] at this
    simp [this]
  all := fun w hw hm => by
    have hg : l[w]? = some l[w] := List.getElem?_eq_getElem hw
    rw [hg] at hm
    obtain ⟨x, hx, e⟩ := hds_all l 0 w _ hg hm
    exact ⟨x, hx, by omega⟩
  nd := hds_nodup l 0

theorem flat_nth {E : Type} (l : List (AV × List E)) : (List.range l.length).flatMap (fun w : Nat => ((l[w]?).map Prod.snd).getD []) = l.flatMap Prod.snd := by
  have h : (List.range l.length).map (fun w : Nat => ((l[w]?).map Prod.snd).getD []) = l.map Prod.snd := by
    apply List.ext_getElem
    · simp
    · intro i h1 h2
      simp at h1
      simp [h1]
  rw [List.flatMap_def, h, List.flatMap_def]

/-- What is told in whole is sorted, and has the same things alike in the same row. -/
theorem told {E : Type} [Inhabited E] {c : E → E → Int} (k : CmpOk c) {l : List (AV × List E)} (hs : ∀ q ∈ l, Sorted c q.2) {out : List E} (h : Path (lessH c) (hds 0 l) out []) :
    Sorted c out ∧ ∀ x, alike c x out = alike c x (l.flatMap Prod.snd) := by
  have hso : ∀ w : Nat, Sorted c (((l[w]?).map Prod.snd).getD []) := by
    intro w
    cases e : l[w]? with
    | none => exact trivial
    | some q => exact hs q (List.mem_of_getElem? e)
  obtain ⟨M', hr, _, ha, hp, _⟩ := h.law k (hds_rep l) hso
  refine ⟨hp, fun x => ?_⟩
  have hz : (List.range l.length).flatMap M' = [] := by
    rw [List.flatMap_eq_nil_iff]
    intro w hw
    by_cases e : M' w = []
    · exact e
    · obtain ⟨y, hy, _⟩ := hr.all w (List.mem_range.mp hw) e
      cases hy
  have := ha x
  rw [hz, flat_nth] at this
  rw [this]; simp [alike]
end Go.Vn

namespace Go.Vn
theorem cmpS_nn : cmpS [] [] = 0 := rfl
theorem cmpS_nc (y : UInt8) (b : List UInt8) : cmpS [] (y :: b) = -1 := rfl
theorem cmpS_cn (x : UInt8) (a : List UInt8) : cmpS (x :: a) [] = 1 := rfl
theorem cmpS_cc (x y : UInt8) (a b : List UInt8) : cmpS (x :: a) (y :: b) = if x.toNat < y.toNat then -1 else if y.toNat < x.toNat then 1 else cmpS a b := by
  by_cases h1 : x.toNat < y.toNat
  · have : x < y := UInt8.lt_iff_toNat_lt.mpr h1
    simp [cmpS, ltB, this, h1]
  · have n1 : ¬ x < y := fun h => h1 (UInt8.lt_iff_toNat_lt.mp h)
    rw [if_neg h1]
    by_cases h2 : y.toNat < x.toNat
    · have ne : (x == y) = false := by
        rw [beq_eq_false_iff_ne]; intro e; subst e; omega
      rw [if_pos h2]
      simp [cmpS, ltB, eqB, n1, ne]
    · have e : x = y := UInt8.toNat_inj.mp (by omega)
      subst e
      rw [if_neg h2]
      simp [cmpS, ltB, eqB, n1]

theorem cmpS_anti : ∀ a b : List UInt8, cmpS a b = - cmpS b a
  | [], [] => rfl
  | [], y :: b => rfl
  | x :: a, [] => rfl
  | x :: a, y :: b => by
    have := cmpS_anti a b
    rw [cmpS_cc, cmpS_cc]
    by_cases h1 : x.toNat < y.toNat
    · rw [if_pos h1, if_neg (by omega), if_pos h1]
    · rw [if_neg h1]
      by_cases h2 : y.toNat < x.toNat
      · rw [if_pos h2, if_pos h2]; omega
      · rw [if_neg h2, if_neg h2, if_neg h1]; exact this

theorem cmpS_tr : ∀ a b d : List UInt8, (cmpS a b ≤ 0 → cmpS b d ≤ 0 → cmpS a d ≤ 0) ∧ (cmpS a b = 0 → cmpS b d = 0 → cmpS a d = 0) ∧ (cmpS a b < 0 → cmpS b d ≤ 0 → cmpS a d < 0) ∧ (cmpS a b ≤ 0 → cmpS b d < 0 → cmpS a d < 0)
  | [], [], [] => by simp [cmpS_nn]
  | [], [], z :: d => by simp [cmpS_nn, cmpS_nc]
  | [], y :: b, [] => by simp [cmpS_nn, cmpS_nc, cmpS_cn]
  | [], y :: b, z :: d => by simp [cmpS_nc]
  | x :: a, [], [] => by simp [cmpS_cn]
  | x :: a, [], z :: d => by simp [cmpS_cn]
  | x :: a, y :: b, [] => by simp [cmpS_cn]
  | x :: a, y :: b, z :: d => by
    have ih := cmpS_tr a b d
    rw [cmpS_cc, cmpS_cc, cmpS_cc]
    generalize cmpS a b = p at *
    generalize cmpS b d = q at *
    generalize cmpS a d = r at *
    repeat' split
    all_goals (try omega)

theorem cmpS_ok : CmpOk cmpS where
  anti := fun a b => by have := cmpS_anti a b; omega
  zero := fun a b => by have := cmpS_anti a b; omega
  tr := fun a b d => (cmpS_tr a b d).1
  tz := fun a b d => (cmpS_tr a b d).2.1
  ltl := fun a b d => (cmpS_tr a b d).2.2.1
  ltr := fun a b d => (cmpS_tr a b d).2.2.2

theorem cmpV_ok : CmpOk cmpV :=
  first5_ok (cmpS_ok.pull Ver.key) (cmpI_ok.pull Ver.br) (cmpI_ok.pull Ver.ep) (cmpI_ok.pull Ver.sq) (cmpI_ok.pull Ver.fr)
end Go.Vn

/- The law of putting one thing where it belongs. -/
namespace Go.Vn
theorem sorted_append {E : Type} {c : E → E → Int} : ∀ (l m : List E), Sorted c l → Sorted c m → (∀ a ∈ l, ∀ b ∈ m, c a b ≤ 0) → Sorted c (l ++ m)
  | [], m, _, hm, _ => hm
  | a :: l, m, hl, hm, h => by
    refine ⟨fun b hb => ?_, sorted_append l m hl.2 hm fun x hx => h x (List.mem_cons_of_mem _ hx)⟩
    rcases List.mem_append.mp hb with q | q
    · exact hl.1 b q
    · exact h a (List.mem_cons_self ..) b q
theorem sorted_split {E : Type} {c : E → E → Int} : ∀ (l m : List E), Sorted c (l ++ m) → Sorted c l ∧ Sorted c m ∧ ∀ a ∈ l, ∀ b ∈ m, c a b ≤ 0
  | [], m, h => ⟨trivial, h, fun a ha => by cases ha⟩
  | a :: l, m, h => by
    obtain ⟨h1, h2, h3⟩ := sorted_split l m h.2
    refine ⟨⟨fun b hb => h.1 b (List.mem_append_left _ hb), h1⟩, h2, fun x hx b hb => ?_⟩
    rcases List.mem_cons.mp hx with q | q
    · subst q; exact h.1 b (List.mem_append_right _ hb)
    · exact h3 x q b hb
theorem sorted_last {E : Type} {c : E → E → Int} (k : CmpOk c) {l : List E} (h : Sorted c l) (hn : l ≠ []) : ∀ a ∈ l, c a (l.getLast hn) ≤ 0 := by
  intro a ha
  have e := List.dropLast_concat_getLast hn
  rw [← e] at h ha
  obtain ⟨_, _, h3⟩ := sorted_split _ _ h
  rcases List.mem_append.mp ha with q | q
  · exact h3 a q _ (List.mem_singleton.mpr rfl)
  · rw [List.mem_singleton.mp q]
    have := k.anti (l.getLast hn) (l.getLast hn); omega

/-- before ++ behind is sorted; x belongs between them. -/
theorem put_in {E : Type} {c : E → E → Int} (k : CmpOk c) {l m : List E} {x : E} (h : Sorted c (l ++ m)) (hl : ∀ hn : l ≠ [], ¬ c x (l.getLast hn) < 0) (hm : ∀ b ∈ m, c x b < 0) :
    Sorted c (l ++ [x] ++ m) ∧ ∀ y, alike c y (l ++ [x] ++ m) = alike c y (l ++ m) ++ alike c y [x] := by
  obtain ⟨h1, h2, h3⟩ := sorted_split l m h
  have hlx : ∀ a ∈ l, c a x ≤ 0 := by
    intro a ha
    have hn : l ≠ [] := fun e => by subst e; cases ha
    have q := hl hn
    have := k.anti x (l.getLast hn)
    have := k.anti (l.getLast hn) x
    exact k.tr _ _ _ (sorted_last k h1 hn a ha) (by omega)
  refine ⟨?_, fun y => ?_⟩
  · rw [List.append_assoc]
    refine sorted_append l _ h1 ⟨fun b hb => by have := hm b (by simpa using hb); omega, by simpa using h2⟩ fun a ha b hb => ?_
    rcases List.mem_cons.mp (by simpa using hb : b ∈ x :: m) with q | q
    · subst q; exact hlx a ha
    · exact h3 a ha b q
  · simp only [alike, List.filter_append, List.append_assoc]
    congr 1
    by_cases q : c x y = 0
    · have : List.filter (fun z => decide (c z y = 0)) m = [] := by
        rw [List.filter_eq_nil_iff]
        intro b hb hz
        have hz' : c b y = 0 := of_decide_eq_true hz
        have := hm b hb
        have := k.tz x y b q ((k.zero _ _).mp hz')
        omega
      rw [this]; simp
    · simp [q]
end Go.Vn

namespace Go.Vn
open Go.Proofs
/- Small laws: slices cut, texts cut, how many things. -/
theorem SV.drop {P : Program} {t e : TypeId} {sz : Nat} {xs : List AV} {v : AV} (h : SV sz xs v) (hu : P.underlying t = some (.slice e)) (hs : tsize P e = some sz) {k : IntKind} {i : Int} (h0 : 0 ≤ i) (h1 : i ≤ xs.length) :
    ∃ r, sliceAV P t v (some (.int k i)) none none = some r ∧ SV sz (xs.drop i.toNat) r := by
  rcases h with ⟨rfl, rfl⟩ | ⟨g, off, cp, rfl⟩ | ⟨c, rfl, rfl⟩
  · have : i = 0 := by simp at h1; omega
    subst this
    exact ⟨.nils, by simp [sliceAV, hu, hs, obound, bound], .inl ⟨rfl, by simp⟩⟩
  · have hz : (0 : Int) ≤ xs.length := by omega
    refine ⟨.sl g (off + i.toNat) sz (cp - i.toNat) ((xs.drop i.toNat).take (xs.length - i.toNat)), by simp [sliceAV, hu, hs, obound, bound, h0, h1, hz], .inr (.inl ⟨g, off + i.toNat, cp - i.toNat, ?_⟩)⟩
    rw [List.take_of_length_le (by simp)]
  · have : i = 0 := by simp at h1; omega
    subst this
    exact ⟨.esl c, by simp [sliceAV, hu, hs, obound, bound], .inr (.inr ⟨c, rfl, by simp⟩)⟩

theorem take_str {i : Nat} (s : List UInt8) (h : i < s.length) : sliceAV Try.prog 9 (.str s) none (some (.int .i64 (i : Int))) none = some (.str (s.take i)) := by
  have h1 : (i : Int) ≤ s.length := by omega
  simp [sliceAV, Try.underlying9, obound, bound, h1]

@[simp] theorem lenStr9 (s : List UInt8) : lenAV Try.prog 9 (.str s) = some (.int .i64 s.length) := by simp [lenAV, Try.underlying9]

theorem flat_le {E : Type} (ls : List (AV × List E)) (n : Nat) (h : ∀ q ∈ ls, q.2.length ≤ n) : (ls.flatMap Prod.snd).length ≤ ls.length * n := by
  induction ls with
  | nil => simp
  | cons a l ih =>
    have h1 := ih fun q hq => h q (List.mem_cons_of_mem _ hq)
    have h2 := h a (List.mem_cons_self ..)
    rw [List.flatMap_cons, List.length_append, List.length_cons, Nat.add_mul]; omega

theorem left_cons {E : Type} (x : Hd E) (L : List (Hd E)) : left (x :: L) = x.xs.length + left L := by simp [left]
theorem left_hds {E : Type} : ∀ (ls : List (AV × List E)) (i : Nat), left (hds i ls) = (ls.flatMap Prod.snd).length
  | [], i => by simp [hds, left]
  | p :: r, i => by
    simp only [hds, List.flatMap_cons, List.length_append]
    by_cases q : p.2 = []
    · rw [if_pos q, List.nil_append, left_hds r (i + 1), q]; simp
    · rw [if_neg q, List.singleton_append, left_cons, left_hds r (i + 1)]

theorem cmpS_lt (a b : List UInt8) : cmpS a b < 0 ↔ ltB a b = true := by
  unfold cmpS; cases ltB a b <;> simp
  split <;> omega
theorem cmpS_z {a b : List UInt8} (h : eqB a b = true) : cmpS a b = 0 := by
  have : a = b := by rw [eqB_eq] at h; exact beq_iff_eq.mp h
  subst this
  have := cmpS_anti a a; omega
theorem cmpS_nz {a b : List UInt8} (h : eqB a b = false) : cmpS a b ≠ 0 := by
  unfold cmpS; rw [h]; cases ltB a b <;> simp
theorem cmpI_lt (a b : Int) : cmpI a b < 0 ↔ a < b := by unfold cmpI; (repeat' split) <;> omega
theorem cmpI_z (a b : Int) : cmpI a b = 0 ↔ a = b := by unfold cmpI; (repeat' split) <;> omega

end Go.Vn
