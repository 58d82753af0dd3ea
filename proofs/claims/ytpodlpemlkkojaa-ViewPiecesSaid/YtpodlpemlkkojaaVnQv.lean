/- What functions of the program come to, in the value machine (a part of the proof of the claim's statement). No condition. -/
import Derived.Test.YtpodlpemlkkojaaVnG8
set_option linter.unusedSimpArgs false
set_option linter.unusedVariables false
set_option maxRecDepth 20000
namespace Go.Vn
open Go.Proofs

theorem getF_snoc (m : List Ver) (v : Ver) (t : Int) : getF (m ++ [v]) t = if Has v.fr v.to t then (if v.gone then none else some v.val) else getF m t := by
  unfold getF
  rw [List.reverse_append, List.reverse_singleton, List.singleton_append, List.find?_cons]
  by_cases q : Has v.fr v.to t <;> simp [q]
theorem st_snoc (m : List Ver) (v : Ver) : stF (m ++ [v]) = stS (stF m) v := by unfold stF; rw [List.foldl_append]; rfl
theorem st_law (os : List Ver) : OrdP 0 (stF os) ∧ ∀ t, atP (stF os) t = getF os t := by
  suffices h : ∀ n, ∀ os : List Ver, os.length = n → OrdP 0 (stF os) ∧ ∀ t, atP (stF os) t = getF os t from h _ os rfl
  intro n
  induction n with
  | zero =>
    intro os h
    rw [List.length_eq_zero_iff.mp h]
    exact ⟨trivial, fun t => rfl⟩
  | succ n ih =>
    intro os h
    have hne : os ≠ [] := fun e => by rw [e] at h; simp at h
    obtain ⟨m, v, rfl⟩ : ∃ m v, os = m ++ [v] := ⟨_, _, (List.dropLast_concat_getLast hne).symm⟩
    obtain ⟨h1, h2⟩ := ih m (by simp at h; omega)
    rw [st_snoc]
    constructor
    · unfold stS
      split
      · exact without_ord h1 _ _
      · exact over_ord h1 _
    · intro t
      rw [getF_snoc]
      unfold stS
      cases v.gone
      · simp only [Bool.false_eq_true, if_false]
        rw [over_at, h2 t]
      · simp only [if_true]
        rw [without_at, h2 t]
theorem all_law (os : List Ver) : OrdP 0 (leastP (stF os)) ∧ Apart (leastP (stF os)) ∧ ∀ t, atP (leastP (stF os)) t = getF os t := by
  obtain ⟨h1, h2⟩ := st_law os
  obtain ⟨h3, h4⟩ := least_law _ h1
  exact ⟨h3, least_apart _, fun t => by rw [h4 t, h2 t]⟩
theorem all_len (os : List Ver) (h : os.length ≤ 20) : (leastP (stF os)).length ≤ 2000000 := by
  have h1 := least_len_go (stF os) []
  have h2 := st_len os h
  unfold stF at h1 ⊢
  unfold leastP
  simp at h1; omega
theorem eql4 (d : Nat) (a b : Bool) : eqlAV Try.prog (d + 1) 4 (.bool a) (.bool b) = some (a == b) := by simp [eqlAV]
theorem count_alike {E : Type} {c : E → E → Int} (k : CmpOk c) : ∀ (n : Nat) (l m : List E), l.length ≤ n → (∀ x, alike c x l = alike c x m) → l.length = m.length
  | 0, [], m, _, h => by
    cases m with
    | nil => rfl
    | cons b m =>
      have h0 : c b b = 0 := by have := k.anti b b; omega
      have := h b
      simp [alike, h0] at this
  | n + 1, [], m, _, h => by
    cases m with
    | nil => rfl
    | cons b m =>
      have h0 : c b b = 0 := by have := k.anti b b; omega
      have := h b
      simp [alike, h0] at this
  | n + 1, a :: l, m, hl, h => by
    -- take away all that is alike to a
    have part : ∀ (q : List E), q.length = (alike c a q).length + (q.filter fun y => !decide (c y a = 0)).length := by
      intro q
      induction q with
      | nil => rfl
      | cons y q ih =>
        by_cases e : c y a = 0 <;> simp [alike, e] at ih ⊢ <;> omega
    have hsub : ∀ x, alike c x ((a :: l).filter fun y => !decide (c y a = 0)) = alike c x (m.filter fun y => !decide (c y a = 0)) := by
      intro x
      have e : ∀ q : List E, alike c x (q.filter fun y => !decide (c y a = 0)) = (alike c x q).filter fun y => !decide (c y a = 0) := by
        intro q; unfold alike; rw [List.filter_filter, List.filter_filter]; congr 1; funext y; exact Bool.and_comm _ _
      rw [e, e, h x]
    have ha : c a a = 0 := by have := k.anti a a; omega
    have hlen : ((a :: l).filter fun y => !decide (c y a = 0)).length ≤ n := by
      simp [ha]
      exact Nat.le_trans (List.length_filter_le _ _) (by simpa using hl)
    have := count_alike k n _ _ hlen hsub
    rw [part (a :: l), part m, this, h a]
theorem orderP_le (path : List Lg) (xs : List Ver) {n : Nat} (h : xs.length ≤ n) : (orderP path xs).length ≤ n := by
  have hs := (sort_all (cmpO_ok path) (xs.filter fun a => !unseen path a)).choose_spec
  have e := count_alike (cmpO_ok path) _ _ _ (Nat.le_refl _) hs.2
  unfold orderP
  rw [e]
  exact Nat.le_trans (List.length_filter_le _ _) h

set_option maxHeartbeats 2000000 in
theorem view_agrees_law (l : List Ver) (a : AV) (hv : SV 8 (l.map encV) a) (path : List Lg) (b : AV) (hp : SV 2 (path.map encL) b) (tm : Int) (h0 : Hp Fm) (hpol : h0.pol = fun _ => false) :
    A Try.prog TT (.func 5) [a, b, .int .i64 tm] h0 (fun r h' => r = .bool true ∧ HE h0 h') := by
  have pf : ∀ h, HE h0 h → ∀ e, h.pol e = false := fun h he e => by rw [he.pol, hpol]
  apply A_go Try.func5 rfl (by rfl); (case hn => (simp [Try.ntmps5]; rfl))
  repeat (first | (with_reducible first | refine W_seq_i ?_ | refine W_block_i ?_ | refine W_region_i ?_ | refine W_skip_i ?_ | refine W_label_i ?_ | refine W_ret_i ?_ | refine W_exit_i ?_ | refine W_goto_i ?_ | refine W_scope_go ?_ | refine jumpW_r ?_ | refine jumpW_n ?_ | refine jumpW_x ?_ | refine blockW_g ?_ | refine thenW_n ?_ | refine blockW_n ?_ | refine blockW_x ?_ | refine blockW_y (by decide) ?_ | refine blockW_r ?_ | refine thenW_e (by simp; done) ?_ | refine WO_nil_i ?_ | refine WT_nil_i ?_) | (with_reducible apply W_cond_t; (case h => (simp; done))) | (with_reducible apply W_cond_f; (case h => (simp; done))) | ((with_reducible first | apply WO_val_i | apply WT_val_i); (case hw => (simp; done)); (case he => (simp; first | done | exact ⟨rfl, rfl⟩ | rfl)); (case hp => (simp; first | done | rfl))) | ((with_reducible first | apply WO_no_i | apply WT_no_i); (case hw => (simp; done)); (case hp => (simp; first | done | rfl))) | ((with_reducible first | apply WO_skip_i | apply WT_skip_i); (case hw => (simp; done)); (case he => (simp; first | done | rfl)); (case hp => (simp; first | done | rfl))) | ((with_reducible first | apply WO_call_i | apply WT_call_i); (case hw => (simp; done)); (case he => (simp; first | done | exact ⟨rfl, rfl, rfl⟩ | rfl))))
  refine A.mono (lcut_ans l a hv path b hp _ (pf _ (HE.refl _))) ?_
  rintro _ h1 ⟨xs, v, ps, vp, rfl, hxs, hxl, hvp, hpl, e1⟩
  have vc := hxs.sv.cells
  have vd := hxs.sv.isCell
  have pc := hvp.cells
  have pd := hvp.isCell
  refine ⟨_, by simp; first | done | rfl, ?_⟩
  repeat (first | (with_reducible first | refine W_seq_i ?_ | refine W_block_i ?_ | refine W_region_i ?_ | refine W_skip_i ?_ | refine W_label_i ?_ | refine W_ret_i ?_ | refine W_exit_i ?_ | refine W_goto_i ?_ | refine W_scope_go ?_ | refine jumpW_r ?_ | refine jumpW_n ?_ | refine jumpW_x ?_ | refine blockW_g ?_ | refine thenW_n ?_ | refine blockW_n ?_ | refine blockW_x ?_ | refine blockW_y (by decide) ?_ | refine blockW_r ?_ | refine thenW_e (by simp; done) ?_ | refine WO_nil_i ?_ | refine WT_nil_i ?_) | (with_reducible apply W_cond_t; (case h => (simp [vc, vd, pc, pd]; done))) | (with_reducible apply W_cond_f; (case h => (simp [vc, vd, pc, pd]; done))) | ((with_reducible first | apply WO_val_i | apply WT_val_i); (case hw => (simp [vc, vd, pc, pd]; done)); (case he => (simp [vc, vd, pc, pd]; first | done | exact ⟨rfl, rfl⟩ | rfl)); (case hp => (simp [vc, vd, pc, pd]; first | done | rfl))) | ((with_reducible first | apply WO_no_i | apply WT_no_i); (case hw => (simp [vc, vd, pc, pd]; done)); (case hp => (simp [vc, vd, pc, pd]; first | done | rfl))) | ((with_reducible first | apply WO_skip_i | apply WT_skip_i); (case hw => (simp [vc, vd, pc, pd]; done)); (case he => (simp [vc, vd, pc, pd]; first | done | rfl)); (case hp => (simp [vc, vd, pc, pd]; first | done | rfl))) | ((with_reducible first | apply WO_call_i | apply WT_call_i); (case hw => (simp [vc, vd, pc, pd]; done)); (case he => (simp [vc, vd, pc, pd]; first | done | exact ⟨rfl, rfl, rfl⟩ | rfl))))
  have A1 := state_ans ps vp hvp (by omega) xs v hxs hxl h1 (pf _ e1)
  refine A.mono A1 ?_
  rintro s h2 ⟨hs, e2⟩
  have hx2 := e1.trans e2
  have sc := hs.sv.cells
  have sd := hs.sv.isCell
  obtain ⟨os, hos⟩ : ∃ os, os = orderP ps xs := ⟨_, rfl⟩
  have hol : os.length ≤ 20 := by
    rw [hos]; exact orderP_le ps xs hxl
  obtain ⟨k1, k2, k3⟩ := all_law os
  have k4 := all_len os hol
  rw [← hos] at hs
  obtain ⟨st, hst⟩ : ∃ st, st = leastP (stF os) := ⟨_, rfl⟩
  rw [← hst] at hs k1 k2 k3 k4
  refine ⟨_, by simp; first | done | rfl, ?_⟩
  repeat (first | (with_reducible first | refine W_seq_i ?_ | refine W_block_i ?_ | refine W_region_i ?_ | refine W_skip_i ?_ | refine W_label_i ?_ | refine W_ret_i ?_ | refine W_exit_i ?_ | refine W_goto_i ?_ | refine W_scope_go ?_ | refine jumpW_r ?_ | refine jumpW_n ?_ | refine jumpW_x ?_ | refine blockW_g ?_ | refine thenW_n ?_ | refine blockW_n ?_ | refine blockW_x ?_ | refine blockW_y (by decide) ?_ | refine blockW_r ?_ | refine thenW_e (by simp; done) ?_ | refine WO_nil_i ?_ | refine WT_nil_i ?_) | (with_reducible apply W_cond_t; (case h => (simp [sc, sd]; done))) | (with_reducible apply W_cond_f; (case h => (simp [sc, sd]; done))) | ((with_reducible first | apply WO_val_i | apply WT_val_i); (case hw => (simp [sc, sd]; done)); (case he => (simp [sc, sd]; first | done | exact ⟨rfl, rfl⟩ | rfl)); (case hp => (simp [sc, sd]; first | done | rfl))) | ((with_reducible first | apply WO_no_i | apply WT_no_i); (case hw => (simp [sc, sd]; done)); (case hp => (simp [sc, sd]; first | done | rfl))) | ((with_reducible first | apply WO_skip_i | apply WT_skip_i); (case hw => (simp [sc, sd]; done)); (case he => (simp [sc, sd]; first | done | rfl)); (case hp => (simp [sc, sd]; first | done | rfl))) | ((with_reducible first | apply WO_call_i | apply WT_call_i); (case hw => (simp [sc, sd]; done)); (case he => (simp [sc, sd]; first | done | exact ⟨rfl, rfl, rfl⟩ | rfl))))
  refine A.mono (at_ans st s hs.sv (by omega) tm _) ?_
  rintro _ h3 ⟨rfl, e3⟩
  have hx3 := hx2.trans e3
  have A2 := get_ans ps vp hvp (by omega) xs v hxs hxl tm h3
  rw [← hos] at A2
  rw [k3 tm]
  refine ⟨_, by simp; first | done | rfl, ?_⟩
  cases hg : getF os tm with
  | none =>
    rw [hg] at A2
    have eb : eqB ([] : List UInt8) ([] : List UInt8) = true := by rw [eqB_eq]; simp
    repeat (first | (with_reducible first | refine W_seq_i ?_ | refine W_block_i ?_ | refine W_region_i ?_ | refine W_skip_i ?_ | refine W_label_i ?_ | refine W_ret_i ?_ | refine W_exit_i ?_ | refine W_goto_i ?_ | refine W_scope_go ?_ | refine jumpW_r ?_ | refine jumpW_n ?_ | refine jumpW_x ?_ | refine blockW_g ?_ | refine thenW_n ?_ | refine blockW_n ?_ | refine blockW_x ?_ | refine blockW_y (by decide) ?_ | refine blockW_r ?_ | refine thenW_e (by simp; done) ?_ | refine WO_nil_i ?_ | refine WT_nil_i ?_) | (with_reducible apply W_cond_t; (case h => (simp [outG, vc, vd, pc, pd]; done))) | (with_reducible apply W_cond_f; (case h => (simp [outG, vc, vd, pc, pd]; done))) | ((with_reducible first | apply WO_val_i | apply WT_val_i); (case hw => (simp [outG, vc, vd, pc, pd]; done)); (case he => (simp [outG, vc, vd, pc, pd]; first | done | exact ⟨rfl, rfl⟩ | rfl)); (case hp => (simp [outG, vc, vd, pc, pd]; first | done | rfl))) | ((with_reducible first | apply WO_no_i | apply WT_no_i); (case hw => (simp [outG, vc, vd, pc, pd]; done)); (case hp => (simp [outG, vc, vd, pc, pd]; first | done | rfl))) | ((with_reducible first | apply WO_skip_i | apply WT_skip_i); (case hw => (simp [outG, vc, vd, pc, pd]; done)); (case he => (simp [outG, vc, vd, pc, pd]; first | done | rfl)); (case hp => (simp [outG, vc, vd, pc, pd]; first | done | rfl))) | ((with_reducible first | apply WO_call_i | apply WT_call_i); (case hw => (simp [outG, vc, vd, pc, pd]; done)); (case he => (simp [outG, vc, vd, pc, pd]; first | done | exact ⟨rfl, rfl, rfl⟩ | rfl))))
    refine A.mono A2 ?_
    rintro _ h4 ⟨rfl, e4⟩
    have hx4 := hx3.trans e4
    refine ⟨_, by simp [outG]; first | done | rfl, ?_⟩
    repeat (first | (with_reducible first | refine W_seq_i ?_ | refine W_block_i ?_ | refine W_region_i ?_ | refine W_skip_i ?_ | refine W_label_i ?_ | refine W_ret_i ?_ | refine W_exit_i ?_ | refine W_goto_i ?_ | refine W_scope_go ?_ | refine jumpW_r ?_ | refine jumpW_n ?_ | refine jumpW_x ?_ | refine blockW_g ?_ | refine thenW_n ?_ | refine blockW_n ?_ | refine blockW_x ?_ | refine blockW_y (by decide) ?_ | refine blockW_r ?_ | refine thenW_e (by simp; done) ?_ | refine WO_nil_i ?_ | refine WT_nil_i ?_) | (with_reducible apply W_cond_t; (case h => (simp [outG, sc, sd]; done))) | (with_reducible apply W_cond_f; (case h => (simp [outG, sc, sd]; done))) | ((with_reducible first | apply WO_val_i | apply WT_val_i); (case hw => (simp [outG, sc, sd]; done)); (case he => (simp [outG, sc, sd]; first | done | exact ⟨rfl, rfl⟩ | rfl)); (case hp => (simp [outG, sc, sd]; first | done | rfl))) | ((with_reducible first | apply WO_no_i | apply WT_no_i); (case hw => (simp [outG, sc, sd]; done)); (case hp => (simp [outG, sc, sd]; first | done | rfl))) | ((with_reducible first | apply WO_skip_i | apply WT_skip_i); (case hw => (simp [outG, sc, sd]; done)); (case he => (simp [outG, sc, sd]; first | done | rfl)); (case hp => (simp [outG, sc, sd]; first | done | rfl))) | ((with_reducible first | apply WO_call_i | apply WT_call_i); (case hw => (simp [outG, sc, sd]; done)); (case he => (simp [outG, sc, sd]; first | done | exact ⟨rfl, rfl, rfl⟩ | rfl))))
    refine A.mono (least_ans st s hs.sv (by omega) _) ?_
    rintro s2 h5 ⟨hs2, e5⟩
    have hx5 := hx4.trans e5
    have s2c := hs2.sv.cells
    have s2d := hs2.sv.isCell
    rw [least_idem st k2] at hs2
    refine ⟨_, by simp; first | done | rfl, ?_⟩
    repeat (first | (with_reducible first | refine W_seq_i ?_ | refine W_block_i ?_ | refine W_region_i ?_ | refine W_skip_i ?_ | refine W_label_i ?_ | refine W_ret_i ?_ | refine W_exit_i ?_ | refine W_goto_i ?_ | refine W_scope_go ?_ | refine jumpW_r ?_ | refine jumpW_n ?_ | refine jumpW_x ?_ | refine blockW_g ?_ | refine thenW_n ?_ | refine blockW_n ?_ | refine blockW_x ?_ | refine blockW_y (by decide) ?_ | refine blockW_r ?_ | refine thenW_e (by simp; done) ?_ | refine WO_nil_i ?_ | refine WT_nil_i ?_) | (with_reducible apply W_cond_t; (case h => (simp [sc, sd, s2c, s2d]; done))) | (with_reducible apply W_cond_f; (case h => (simp [sc, sd, s2c, s2d]; done))) | ((with_reducible first | apply WO_val_i | apply WT_val_i); (case hw => (simp [sc, sd, s2c, s2d]; done)); (case he => (simp [sc, sd, s2c, s2d]; first | done | exact ⟨rfl, rfl⟩ | rfl)); (case hp => (simp [sc, sd, s2c, s2d]; first | done | rfl))) | ((with_reducible first | apply WO_no_i | apply WT_no_i); (case hw => (simp [sc, sd, s2c, s2d]; done)); (case hp => (simp [sc, sd, s2c, s2d]; first | done | rfl))) | ((with_reducible first | apply WO_skip_i | apply WT_skip_i); (case hw => (simp [sc, sd, s2c, s2d]; done)); (case he => (simp [sc, sd, s2c, s2d]; first | done | rfl)); (case hp => (simp [sc, sd, s2c, s2d]; first | done | rfl))) | ((with_reducible first | apply WO_call_i | apply WT_call_i); (case hw => (simp [sc, sd, s2c, s2d]; done)); (case he => (simp [sc, sd, s2c, s2d]; first | done | exact ⟨rfl, rfl, rfl⟩ | rfl))))
    refine A.mono (same4_ans st st s2 s hs2.sv hs.sv (by omega) rfl _) ?_
    rintro _ h6 ⟨rfl, e6⟩
    have hx6 := hx5.trans e6
    refine ⟨_, by simp; first | done | rfl, ?_⟩
    repeat (first | (with_reducible first | refine W_seq_i ?_ | refine W_block_i ?_ | refine W_region_i ?_ | refine W_skip_i ?_ | refine W_label_i ?_ | refine W_ret_i ?_ | refine W_exit_i ?_ | refine W_goto_i ?_ | refine W_scope_go ?_ | refine jumpW_r ?_ | refine jumpW_n ?_ | refine jumpW_x ?_ | refine blockW_g ?_ | refine thenW_n ?_ | refine blockW_n ?_ | refine blockW_x ?_ | refine blockW_y (by decide) ?_ | refine blockW_r ?_ | refine thenW_e (by simp; done) ?_ | refine WO_nil_i ?_ | refine WT_nil_i ?_) | (with_reducible apply W_cond_t; (case h => (simp [sc, sd]; done))) | (with_reducible apply W_cond_f; (case h => (simp [sc, sd]; done))) | ((with_reducible first | apply WO_val_i | apply WT_val_i); (case hw => (simp [sc, sd]; done)); (case he => (simp [sc, sd]; first | done | exact ⟨rfl, rfl⟩ | rfl)); (case hp => (simp [sc, sd]; first | done | rfl))) | ((with_reducible first | apply WO_no_i | apply WT_no_i); (case hw => (simp [sc, sd]; done)); (case hp => (simp [sc, sd]; first | done | rfl))) | ((with_reducible first | apply WO_skip_i | apply WT_skip_i); (case hw => (simp [sc, sd]; done)); (case he => (simp [sc, sd]; first | done | rfl)); (case hp => (simp [sc, sd]; first | done | rfl))) | ((with_reducible first | apply WO_call_i | apply WT_call_i); (case hw => (simp [sc, sd]; done)); (case he => (simp [sc, sd]; first | done | exact ⟨rfl, rfl, rfl⟩ | rfl))))
    refine A.mono (ordered_ans st s hs.sv (by omega) k1 _) ?_
    rintro _ h7 ⟨rfl, e7⟩
    have hx7 := hx6.trans e7
    refine ⟨_, by simp; first | done | rfl, ?_⟩
    repeat (first | (with_reducible first | refine W_seq_i ?_ | refine W_block_i ?_ | refine W_region_i ?_ | refine W_skip_i ?_ | refine W_label_i ?_ | refine W_ret_i ?_ | refine W_exit_i ?_ | refine W_goto_i ?_ | refine W_scope_go ?_ | refine jumpW_r ?_ | refine jumpW_n ?_ | refine jumpW_x ?_ | refine blockW_g ?_ | refine thenW_n ?_ | refine blockW_n ?_ | refine blockW_x ?_ | refine blockW_y (by decide) ?_ | refine blockW_r ?_ | refine thenW_e (by simp; done) ?_ | refine WO_nil_i ?_ | refine WT_nil_i ?_) | (with_reducible apply W_cond_t; (case h => (simp [eb, eql4]; done))) | (with_reducible apply W_cond_f; (case h => (simp [eb, eql4]; done))) | ((with_reducible first | apply WO_val_i | apply WT_val_i); (case hw => (simp [eb, eql4]; done)); (case he => (simp [eb, eql4]; first | done | exact ⟨rfl, rfl⟩ | rfl)); (case hp => (simp [eb, eql4]; first | done | rfl))) | ((with_reducible first | apply WO_no_i | apply WT_no_i); (case hw => (simp [eb, eql4]; done)); (case hp => (simp [eb, eql4]; first | done | rfl))) | ((with_reducible first | apply WO_skip_i | apply WT_skip_i); (case hw => (simp [eb, eql4]; done)); (case he => (simp [eb, eql4]; first | done | rfl)); (case hp => (simp [eb, eql4]; first | done | rfl))) | ((with_reducible first | apply WO_call_i | apply WT_call_i); (case hw => (simp [eb, eql4]; done)); (case he => (simp [eb, eql4]; first | done | exact ⟨rfl, rfl, rfl⟩ | rfl))))
    refine A.mono (lives_ans _ (pf _ hx7)) ?_
    rintro _ h8 ⟨rfl, e8⟩
    refine ⟨_, by simp; first | done | rfl, ?_⟩
    repeat (first | (with_reducible first | refine W_seq_i ?_ | refine W_block_i ?_ | refine W_region_i ?_ | refine W_skip_i ?_ | refine W_label_i ?_ | refine W_ret_i ?_ | refine W_exit_i ?_ | refine W_goto_i ?_ | refine W_scope_go ?_ | refine jumpW_r ?_ | refine jumpW_n ?_ | refine jumpW_x ?_ | refine blockW_g ?_ | refine thenW_n ?_ | refine blockW_n ?_ | refine blockW_x ?_ | refine blockW_y (by decide) ?_ | refine blockW_r ?_ | refine thenW_e (by simp; done) ?_ | refine WO_nil_i ?_ | refine WT_nil_i ?_) | (with_reducible apply W_cond_t; (case h => (simp; done))) | (with_reducible apply W_cond_f; (case h => (simp; done))) | ((with_reducible first | apply WO_val_i | apply WT_val_i); (case hw => (simp; done)); (case he => (simp; first | done | exact ⟨rfl, rfl⟩ | rfl)); (case hp => (simp; first | done | rfl))) | ((with_reducible first | apply WO_no_i | apply WT_no_i); (case hw => (simp; done)); (case hp => (simp; first | done | rfl))) | ((with_reducible first | apply WO_skip_i | apply WT_skip_i); (case hw => (simp; done)); (case he => (simp; first | done | rfl)); (case hp => (simp; first | done | rfl))) | ((with_reducible first | apply WO_call_i | apply WT_call_i); (case hw => (simp; done)); (case he => (simp; first | done | exact ⟨rfl, rfl, rfl⟩ | rfl))))
    (first | apply endW_r | apply endW_n); (case h1 => (simp [Try.results5]; first | done | rfl))
    exact ⟨by simp, hx7.trans e8⟩
  | some val =>
    rw [hg] at A2
    have eb : eqB val val = true := by rw [eqB_eq]; simp
    repeat (first | (with_reducible first | refine W_seq_i ?_ | refine W_block_i ?_ | refine W_region_i ?_ | refine W_skip_i ?_ | refine W_label_i ?_ | refine W_ret_i ?_ | refine W_exit_i ?_ | refine W_goto_i ?_ | refine W_scope_go ?_ | refine jumpW_r ?_ | refine jumpW_n ?_ | refine jumpW_x ?_ | refine blockW_g ?_ | refine thenW_n ?_ | refine blockW_n ?_ | refine blockW_x ?_ | refine blockW_y (by decide) ?_ | refine blockW_r ?_ | refine thenW_e (by simp; done) ?_ | refine WO_nil_i ?_ | refine WT_nil_i ?_) | (with_reducible apply W_cond_t; (case h => (simp [outG, vc, vd, pc, pd]; done))) | (with_reducible apply W_cond_f; (case h => (simp [outG, vc, vd, pc, pd]; done))) | ((with_reducible first | apply WO_val_i | apply WT_val_i); (case hw => (simp [outG, vc, vd, pc, pd]; done)); (case he => (simp [outG, vc, vd, pc, pd]; first | done | exact ⟨rfl, rfl⟩ | rfl)); (case hp => (simp [outG, vc, vd, pc, pd]; first | done | rfl))) | ((with_reducible first | apply WO_no_i | apply WT_no_i); (case hw => (simp [outG, vc, vd, pc, pd]; done)); (case hp => (simp [outG, vc, vd, pc, pd]; first | done | rfl))) | ((with_reducible first | apply WO_skip_i | apply WT_skip_i); (case hw => (simp [outG, vc, vd, pc, pd]; done)); (case he => (simp [outG, vc, vd, pc, pd]; first | done | rfl)); (case hp => (simp [outG, vc, vd, pc, pd]; first | done | rfl))) | ((with_reducible first | apply WO_call_i | apply WT_call_i); (case hw => (simp [outG, vc, vd, pc, pd]; done)); (case he => (simp [outG, vc, vd, pc, pd]; first | done | exact ⟨rfl, rfl, rfl⟩ | rfl))))
    refine A.mono A2 ?_
    rintro _ h4 ⟨rfl, e4⟩
    have hx4 := hx3.trans e4
    refine ⟨_, by simp [outG]; first | done | rfl, ?_⟩
    repeat (first | (with_reducible first | refine W_seq_i ?_ | refine W_block_i ?_ | refine W_region_i ?_ | refine W_skip_i ?_ | refine W_label_i ?_ | refine W_ret_i ?_ | refine W_exit_i ?_ | refine W_goto_i ?_ | refine W_scope_go ?_ | refine jumpW_r ?_ | refine jumpW_n ?_ | refine jumpW_x ?_ | refine blockW_g ?_ | refine thenW_n ?_ | refine blockW_n ?_ | refine blockW_x ?_ | refine blockW_y (by decide) ?_ | refine blockW_r ?_ | refine thenW_e (by simp; done) ?_ | refine WO_nil_i ?_ | refine WT_nil_i ?_) | (with_reducible apply W_cond_t; (case h => (simp [outG, sc, sd]; done))) | (with_reducible apply W_cond_f; (case h => (simp [outG, sc, sd]; done))) | ((with_reducible first | apply WO_val_i | apply WT_val_i); (case hw => (simp [outG, sc, sd]; done)); (case he => (simp [outG, sc, sd]; first | done | exact ⟨rfl, rfl⟩ | rfl)); (case hp => (simp [outG, sc, sd]; first | done | rfl))) | ((with_reducible first | apply WO_no_i | apply WT_no_i); (case hw => (simp [outG, sc, sd]; done)); (case hp => (simp [outG, sc, sd]; first | done | rfl))) | ((with_reducible first | apply WO_skip_i | apply WT_skip_i); (case hw => (simp [outG, sc, sd]; done)); (case he => (simp [outG, sc, sd]; first | done | rfl)); (case hp => (simp [outG, sc, sd]; first | done | rfl))) | ((with_reducible first | apply WO_call_i | apply WT_call_i); (case hw => (simp [outG, sc, sd]; done)); (case he => (simp [outG, sc, sd]; first | done | exact ⟨rfl, rfl, rfl⟩ | rfl))))
    refine A.mono (least_ans st s hs.sv (by omega) _) ?_
    rintro s2 h5 ⟨hs2, e5⟩
    have hx5 := hx4.trans e5
    have s2c := hs2.sv.cells
    have s2d := hs2.sv.isCell
    rw [least_idem st k2] at hs2
    refine ⟨_, by simp; first | done | rfl, ?_⟩
    repeat (first | (with_reducible first | refine W_seq_i ?_ | refine W_block_i ?_ | refine W_region_i ?_ | refine W_skip_i ?_ | refine W_label_i ?_ | refine W_ret_i ?_ | refine W_exit_i ?_ | refine W_goto_i ?_ | refine W_scope_go ?_ | refine jumpW_r ?_ | refine jumpW_n ?_ | refine jumpW_x ?_ | refine blockW_g ?_ | refine thenW_n ?_ | refine blockW_n ?_ | refine blockW_x ?_ | refine blockW_y (by decide) ?_ | refine blockW_r ?_ | refine thenW_e (by simp; done) ?_ | refine WO_nil_i ?_ | refine WT_nil_i ?_) | (with_reducible apply W_cond_t; (case h => (simp [sc, sd, s2c, s2d]; done))) | (with_reducible apply W_cond_f; (case h => (simp [sc, sd, s2c, s2d]; done))) | ((with_reducible first | apply WO_val_i | apply WT_val_i); (case hw => (simp [sc, sd, s2c, s2d]; done)); (case he => (simp [sc, sd, s2c, s2d]; first | done | exact ⟨rfl, rfl⟩ | rfl)); (case hp => (simp [sc, sd, s2c, s2d]; first | done | rfl))) | ((with_reducible first | apply WO_no_i | apply WT_no_i); (case hw => (simp [sc, sd, s2c, s2d]; done)); (case hp => (simp [sc, sd, s2c, s2d]; first | done | rfl))) | ((with_reducible first | apply WO_skip_i | apply WT_skip_i); (case hw => (simp [sc, sd, s2c, s2d]; done)); (case he => (simp [sc, sd, s2c, s2d]; first | done | rfl)); (case hp => (simp [sc, sd, s2c, s2d]; first | done | rfl))) | ((with_reducible first | apply WO_call_i | apply WT_call_i); (case hw => (simp [sc, sd, s2c, s2d]; done)); (case he => (simp [sc, sd, s2c, s2d]; first | done | exact ⟨rfl, rfl, rfl⟩ | rfl))))
    refine A.mono (same4_ans st st s2 s hs2.sv hs.sv (by omega) rfl _) ?_
    rintro _ h6 ⟨rfl, e6⟩
    have hx6 := hx5.trans e6
    refine ⟨_, by simp; first | done | rfl, ?_⟩
    repeat (first | (with_reducible first | refine W_seq_i ?_ | refine W_block_i ?_ | refine W_region_i ?_ | refine W_skip_i ?_ | refine W_label_i ?_ | refine W_ret_i ?_ | refine W_exit_i ?_ | refine W_goto_i ?_ | refine W_scope_go ?_ | refine jumpW_r ?_ | refine jumpW_n ?_ | refine jumpW_x ?_ | refine blockW_g ?_ | refine thenW_n ?_ | refine blockW_n ?_ | refine blockW_x ?_ | refine blockW_y (by decide) ?_ | refine blockW_r ?_ | refine thenW_e (by simp; done) ?_ | refine WO_nil_i ?_ | refine WT_nil_i ?_) | (with_reducible apply W_cond_t; (case h => (simp [sc, sd]; done))) | (with_reducible apply W_cond_f; (case h => (simp [sc, sd]; done))) | ((with_reducible first | apply WO_val_i | apply WT_val_i); (case hw => (simp [sc, sd]; done)); (case he => (simp [sc, sd]; first | done | exact ⟨rfl, rfl⟩ | rfl)); (case hp => (simp [sc, sd]; first | done | rfl))) | ((with_reducible first | apply WO_no_i | apply WT_no_i); (case hw => (simp [sc, sd]; done)); (case hp => (simp [sc, sd]; first | done | rfl))) | ((with_reducible first | apply WO_skip_i | apply WT_skip_i); (case hw => (simp [sc, sd]; done)); (case he => (simp [sc, sd]; first | done | rfl)); (case hp => (simp [sc, sd]; first | done | rfl))) | ((with_reducible first | apply WO_call_i | apply WT_call_i); (case hw => (simp [sc, sd]; done)); (case he => (simp [sc, sd]; first | done | exact ⟨rfl, rfl, rfl⟩ | rfl))))
    refine A.mono (ordered_ans st s hs.sv (by omega) k1 _) ?_
    rintro _ h7 ⟨rfl, e7⟩
    have hx7 := hx6.trans e7
    refine ⟨_, by simp; first | done | rfl, ?_⟩
    repeat (first | (with_reducible first | refine W_seq_i ?_ | refine W_block_i ?_ | refine W_region_i ?_ | refine W_skip_i ?_ | refine W_label_i ?_ | refine W_ret_i ?_ | refine W_exit_i ?_ | refine W_goto_i ?_ | refine W_scope_go ?_ | refine jumpW_r ?_ | refine jumpW_n ?_ | refine jumpW_x ?_ | refine blockW_g ?_ | refine thenW_n ?_ | refine blockW_n ?_ | refine blockW_x ?_ | refine blockW_y (by decide) ?_ | refine blockW_r ?_ | refine thenW_e (by simp; done) ?_ | refine WO_nil_i ?_ | refine WT_nil_i ?_) | (with_reducible apply W_cond_t; (case h => (simp [eb, eql4]; done))) | (with_reducible apply W_cond_f; (case h => (simp [eb, eql4]; done))) | ((with_reducible first | apply WO_val_i | apply WT_val_i); (case hw => (simp [eb, eql4]; done)); (case he => (simp [eb, eql4]; first | done | exact ⟨rfl, rfl⟩ | rfl)); (case hp => (simp [eb, eql4]; first | done | rfl))) | ((with_reducible first | apply WO_no_i | apply WT_no_i); (case hw => (simp [eb, eql4]; done)); (case hp => (simp [eb, eql4]; first | done | rfl))) | ((with_reducible first | apply WO_skip_i | apply WT_skip_i); (case hw => (simp [eb, eql4]; done)); (case he => (simp [eb, eql4]; first | done | rfl)); (case hp => (simp [eb, eql4]; first | done | rfl))) | ((with_reducible first | apply WO_call_i | apply WT_call_i); (case hw => (simp [eb, eql4]; done)); (case he => (simp [eb, eql4]; first | done | exact ⟨rfl, rfl, rfl⟩ | rfl))))
    refine A.mono (lives_ans _ (pf _ hx7)) ?_
    rintro _ h8 ⟨rfl, e8⟩
    refine ⟨_, by simp; first | done | rfl, ?_⟩
    repeat (first | (with_reducible first | refine W_seq_i ?_ | refine W_block_i ?_ | refine W_region_i ?_ | refine W_skip_i ?_ | refine W_label_i ?_ | refine W_ret_i ?_ | refine W_exit_i ?_ | refine W_goto_i ?_ | refine W_scope_go ?_ | refine jumpW_r ?_ | refine jumpW_n ?_ | refine jumpW_x ?_ | refine blockW_g ?_ | refine thenW_n ?_ | refine blockW_n ?_ | refine blockW_x ?_ | refine blockW_y (by decide) ?_ | refine blockW_r ?_ | refine thenW_e (by simp; done) ?_ | refine WO_nil_i ?_ | refine WT_nil_i ?_) | (with_reducible apply W_cond_t; (case h => (simp; done))) | (with_reducible apply W_cond_f; (case h => (simp; done))) | ((with_reducible first | apply WO_val_i | apply WT_val_i); (case hw => (simp; done)); (case he => (simp; first | done | exact ⟨rfl, rfl⟩ | rfl)); (case hp => (simp; first | done | rfl))) | ((with_reducible first | apply WO_no_i | apply WT_no_i); (case hw => (simp; done)); (case hp => (simp; first | done | rfl))) | ((with_reducible first | apply WO_skip_i | apply WT_skip_i); (case hw => (simp; done)); (case he => (simp; first | done | rfl)); (case hp => (simp; first | done | rfl))) | ((with_reducible first | apply WO_call_i | apply WT_call_i); (case hw => (simp; done)); (case he => (simp; first | done | exact ⟨rfl, rfl, rfl⟩ | rfl))))
    (first | apply endW_r | apply endW_n); (case h1 => (simp [Try.results5]; first | done | rfl))
    exact ⟨by simp, hx7.trans e8⟩
end Go.Vn
