/- What functions of the program come to, in the value machine (a part of the proof of the claim's statement). No condition. -/
import Derived.Test.YtpodlpemlkkojaaVnQv
set_option linter.unusedSimpArgs false
set_option linter.unusedVariables false
set_option maxRecDepth 20000
namespace Go.Vn
open Go.Proofs

set_option maxHeartbeats 4000000 in
theorem view_pieces_law (l : List Ver) (a : AV) (hv : SV 8 (l.map encV) a) (path : List Lg) (b : AV) (hp : SV 2 (path.map encL) b) (h0 : Hp Fm) (hpol : h0.pol = fun _ => false) :
    A Try.prog TT (.func 3) [a, b] h0 (fun r h' => r = .bool true ∧ HE h0 h') := by
  have pf : ∀ h, HE h0 h → ∀ e, h.pol e = false := fun h he e => by rw [he.pol, hpol]
  apply A_go Try.func3 rfl (by rfl); (case hn => (simp [Try.ntmps3]; rfl))
  repeat (first | (with_reducible first | refine W_seq_i ?_ | refine W_block_i ?_ | refine W_region_i ?_ | refine W_skip_i ?_ | refine W_label_i ?_ | refine W_ret_i ?_ | refine W_exit_i ?_ | refine W_goto_i ?_ | refine W_scope_go ?_ | refine jumpW_r ?_ | refine jumpW_n ?_ | refine jumpW_x ?_ | refine blockW_g ?_ | refine thenW_n ?_ | refine blockW_n ?_ | refine blockW_x ?_ | refine blockW_y (by decide) ?_ | refine blockW_r ?_ | refine thenW_e (by simp; done) ?_ | refine WO_nil_i ?_ | refine WT_nil_i ?_) | (with_reducible apply W_cond_t; (case h => (simp; done))) | (with_reducible apply W_cond_f; (case h => (simp; done))) | ((with_reducible first | apply WO_val_i | apply WT_val_i); (case hw => (simp; done)); (case he => (simp; first | done | exact ⟨rfl, rfl⟩ | rfl)); (case hp => (simp; first | done | rfl))) | ((with_reducible first | apply WO_no_i | apply WT_no_i); (case hw => (simp; done)); (case hp => (simp; first | done | rfl))) | ((with_reducible first | apply WO_skip_i | apply WT_skip_i); (case hw => (simp; done)); (case he => (simp; first | done | rfl)); (case hp => (simp; first | done | rfl))) | ((with_reducible first | apply WO_call_i | apply WT_call_i); (case hw => (simp; done)); (case he => (simp; first | done | exact ⟨rfl, rfl, rfl⟩ | rfl))))
  refine A.mono (lcut_ans l a hv path b hp _ (pf _ (HE.refl _))) ?_
  rintro _ h1 ⟨xs, v, ps, vp, rfl, hxs, hxl, hvp, hpl, e1⟩
  have vc := hxs.sv.cells
  have vd := hxs.sv.isCell
  have pc := hvp.cells
  have pd := hvp.isCell
  refine ⟨_, by simp; first | done | rfl, ?_⟩
  repeat (first | (with_reducible first | refine W_seq_i ?_ | refine W_block_i ?_ | refine W_region_i ?_ | refine W_skip_i ?_ | refine W_label_i ?_ | refine W_ret_i ?_ | refine W_exit_i ?_ | refine W_goto_i ?_ | refine W_scope_go ?_ | refine jumpW_r ?_ | refine jumpW_n ?_ | refine jumpW_x ?_ | refine blockW_g ?_ | refine thenW_n ?_ | refine blockW_n ?_ | refine blockW_x ?_ | refine blockW_y (by decide) ?_ | refine blockW_r ?_ | refine thenW_e (by simp; done) ?_ | refine WO_nil_i ?_ | refine WT_nil_i ?_) | (with_reducible apply W_cond_t; (case h => (simp [vc, vd, pc, pd]; done))) | (with_reducible apply W_cond_f; (case h => (simp [vc, vd, pc, pd]; done))) | ((with_reducible first | apply WO_val_i | apply WT_val_i); (case hw => (simp [vc, vd, pc, pd]; done)); (case he => (simp [vc, vd, pc, pd]; first | done | exact ⟨rfl, rfl⟩ | rfl)); (case hp => (simp [vc, vd, pc, pd]; first | done | rfl))) | ((with_reducible first | apply WO_no_i | apply WT_no_i); (case hw => (simp [vc, vd, pc, pd]; done)); (case hp => (simp [vc, vd, pc, pd]; first | done | rfl))) | ((with_reducible first | apply WO_skip_i | apply WT_skip_i); (case hw => (simp [vc, vd, pc, pd]; done)); (case he => (simp [vc, vd, pc, pd]; first | done | rfl)); (case hp => (simp [vc, vd, pc, pd]; first | done | rfl))) | ((with_reducible first | apply WO_call_i | apply WT_call_i); (case hw => (simp [vc, vd, pc, pd]; done)); (case he => (simp [vc, vd, pc, pd]; first | done | exact ⟨rfl, rfl, rfl⟩ | rfl))))
  refine A.mono (state_ans ps vp hvp (by omega) xs v hxs hxl h1 (pf _ e1)) ?_
  rintro s h2 ⟨hs, e2⟩
  have hx2 := e1.trans e2
  have sc := hs.sv.cells
  have sd := hs.sv.isCell
  obtain ⟨os, hos⟩ : ∃ os, os = orderP ps xs := ⟨_, rfl⟩
  have hol : os.length ≤ 20 := by
    rw [hos]; exact orderP_le ps xs hxl
  obtain ⟨k1, k2, k3⟩ := all_law os
  have k4 := all_len os hol
  rw [← hos] at hs
  obtain ⟨st, hst⟩ : ∃ st, st = leastP (stF os) := ⟨_, rfl⟩
  rw [← hst] at hs k1 k2 k3 k4
  have ls := hs.sv.len Try.underlying26
  rw [List.length_map] at ls
  have ns := hs.sv.nm
  refine ⟨_, by simp; first | done | rfl, ?_⟩
  repeat (first | (with_reducible first | refine W_seq_i ?_ | refine W_block_i ?_ | refine W_region_i ?_ | refine W_skip_i ?_ | refine W_label_i ?_ | refine W_ret_i ?_ | refine W_exit_i ?_ | refine W_goto_i ?_ | refine W_scope_go ?_ | refine jumpW_r ?_ | refine jumpW_n ?_ | refine jumpW_x ?_ | refine blockW_g ?_ | refine thenW_n ?_ | refine blockW_n ?_ | refine blockW_x ?_ | refine blockW_y (by decide) ?_ | refine blockW_r ?_ | refine thenW_e (by simp; done) ?_ | refine WO_nil_i ?_ | refine WT_nil_i ?_) | (with_reducible apply W_cond_t; (case h => (simp [sc, sd]; done))) | (with_reducible apply W_cond_f; (case h => (simp [sc, sd]; done))) | ((with_reducible first | apply WO_val_i | apply WT_val_i); (case hw => (simp [sc, sd]; done)); (case he => (simp [sc, sd]; first | done | exact ⟨rfl, rfl⟩ | rfl)); (case hp => (simp [sc, sd]; first | done | rfl))) | ((with_reducible first | apply WO_no_i | apply WT_no_i); (case hw => (simp [sc, sd]; done)); (case hp => (simp [sc, sd]; first | done | rfl))) | ((with_reducible first | apply WO_skip_i | apply WT_skip_i); (case hw => (simp [sc, sd]; done)); (case he => (simp [sc, sd]; first | done | rfl)); (case hp => (simp [sc, sd]; first | done | rfl))) | ((with_reducible first | apply WO_call_i | apply WT_call_i); (case hw => (simp [sc, sd]; done)); (case he => (simp [sc, sd]; first | done | exact ⟨rfl, rfl, rfl⟩ | rfl))))
  refine W_loop (fun m q => ∃ (t : Fm AV) (h : Hp Fm) (i : Nat), q = ⟨t, 102, h, none⟩ ∧ m = st.length - i ∧ i ≤ st.length ∧ tget t 0 = v ∧ tget t 1 = vp ∧ tget t 5 = s ∧ tget t 6 = .int .i64 i ∧ HE h0 h) st.length
    ⟨_, _, 0, rfl, rfl, by omega, by simp, by simp, by simp, by simp, hx2⟩ ?_
  rintro m q ⟨t, h, i, rfl, rfl, hi, t0, t1, t5, t6, he⟩
  by_cases qi : i < st.length
  case neg =>
    have qn : ¬ (i < st.length) := qi
    repeat (first | (with_reducible first | refine W_seq_i ?_ | refine W_block_i ?_ | refine W_region_i ?_ | refine W_skip_i ?_ | refine W_label_i ?_ | refine W_ret_i ?_ | refine W_exit_i ?_ | refine W_goto_i ?_ | refine W_scope_go ?_ | refine jumpW_r ?_ | refine jumpW_n ?_ | refine jumpW_x ?_ | refine blockW_g ?_ | refine thenW_n ?_ | refine blockW_n ?_ | refine blockW_x ?_ | refine blockW_y (by decide) ?_ | refine blockW_r ?_ | refine thenW_e (by simp; done) ?_ | refine WO_nil_i ?_ | refine WT_nil_i ?_) | (with_reducible apply W_cond_t; (case h => (simp [t0, t1, t5, t6, qi, qn, ls, ns]; done))) | (with_reducible apply W_cond_f; (case h => (simp [t0, t1, t5, t6, qi, qn, ls, ns]; done))) | ((with_reducible first | apply WO_val_i | apply WT_val_i); (case hw => (simp [t0, t1, t5, t6, qi, qn, ls, ns]; done)); (case he => (simp [t0, t1, t5, t6, qi, qn, ls, ns]; first | done | exact ⟨rfl, rfl⟩ | rfl)); (case hp => (simp [t0, t1, t5, t6, qi, qn, ls, ns]; first | done | rfl))) | ((with_reducible first | apply WO_no_i | apply WT_no_i); (case hw => (simp [t0, t1, t5, t6, qi, qn, ls, ns]; done)); (case hp => (simp [t0, t1, t5, t6, qi, qn, ls, ns]; first | done | rfl))) | ((with_reducible first | apply WO_skip_i | apply WT_skip_i); (case hw => (simp [t0, t1, t5, t6, qi, qn, ls, ns]; done)); (case he => (simp [t0, t1, t5, t6, qi, qn, ls, ns]; first | done | rfl)); (case hp => (simp [t0, t1, t5, t6, qi, qn, ls, ns]; first | done | rfl))) | ((with_reducible first | apply WO_call_i | apply WT_call_i); (case hw => (simp [t0, t1, t5, t6, qi, qn, ls, ns]; done)); (case he => (simp [t0, t1, t5, t6, qi, qn, ls, ns]; first | done | exact ⟨rfl, rfl, rfl⟩ | rfl))))
    refine A.mono (lives_ans _ (pf _ he)) ?_
    rintro _ h8 ⟨rfl, e8⟩
    refine ⟨_, by simp; first | done | rfl, ?_⟩
    repeat (first | (with_reducible first | refine W_seq_i ?_ | refine W_block_i ?_ | refine W_region_i ?_ | refine W_skip_i ?_ | refine W_label_i ?_ | refine W_ret_i ?_ | refine W_exit_i ?_ | refine W_goto_i ?_ | refine W_scope_go ?_ | refine jumpW_r ?_ | refine jumpW_n ?_ | refine jumpW_x ?_ | refine blockW_g ?_ | refine thenW_n ?_ | refine blockW_n ?_ | refine blockW_x ?_ | refine blockW_y (by decide) ?_ | refine blockW_r ?_ | refine thenW_e (by simp; done) ?_ | refine WO_nil_i ?_ | refine WT_nil_i ?_) | (with_reducible apply W_cond_t; (case h => (simp; done))) | (with_reducible apply W_cond_f; (case h => (simp; done))) | ((with_reducible first | apply WO_val_i | apply WT_val_i); (case hw => (simp; done)); (case he => (simp; first | done | exact ⟨rfl, rfl⟩ | rfl)); (case hp => (simp; first | done | rfl))) | ((with_reducible first | apply WO_no_i | apply WT_no_i); (case hw => (simp; done)); (case hp => (simp; first | done | rfl))) | ((with_reducible first | apply WO_skip_i | apply WT_skip_i); (case hw => (simp; done)); (case he => (simp; first | done | rfl)); (case hp => (simp; first | done | rfl))) | ((with_reducible first | apply WO_call_i | apply WT_call_i); (case hw => (simp; done)); (case he => (simp; first | done | exact ⟨rfl, rfl, rfl⟩ | rfl))))
    (first | apply endW_r | apply endW_n); (case h1 => (simp [Try.results3]; first | done | rfl))
    exact ⟨rfl, he.trans e8⟩
  have i1 := hs.sv.idx Try.underlying26 z33 (k := .i64) (i := i) (by simp) (by simpa using qi)
  simp only [List.getElem_map, Int.toNat_natCast] at i1
  have w1 : IntKind.i64.wrap ((i : Int) + 1) = ((i + 1 : Nat) : Int) := by rw [wrap64 (by omega) (by omega)]; simp
  obtain ⟨p, hpp⟩ : ∃ p, p = st[i] := ⟨_, rfl⟩
  have hsp : st = st.take i ++ p :: st.drop (i + 1) := by rw [hpp, List.getElem_cons_drop, List.take_append_drop]
  have km : May p.fr p.to := by rw [hpp]; exact (ord_at st 0 k1 i qi).1
  rw [← hpp] at i1
  have g1 : getF os p.fr = some p.val := by
    rw [← k3]; rw [hsp] at k1 ⊢; exact piece_at k1 _ ⟨Int.le_refl _, km.2.1⟩
  have g2 : getF os (p.to - 1) = some p.val := by
    rw [← k3]; rw [hsp] at k1 ⊢; exact piece_at k1 _ ⟨by have := km.2.1; omega, by omega⟩
  have g3 : getF os p.to ≠ some p.val := by
    rw [← k3]; rw [hsp] at k1 k2 ⊢; exact piece_behind k1 k2
  have w2 : IntKind.i64.wrap (p.to - 1) = p.to - 1 := wrap64 (by have := km.1; have := km.2.1; omega) (by have := km.2.2; omega)
  have eb : eqB p.val p.val = true := by rw [eqB_eq]; simp
  have A1 := get_ans ps vp hvp (by omega) xs v hxs hxl p.fr h
  rw [← hos, g1] at A1
  repeat (first | (with_reducible first | refine W_seq_i ?_ | refine W_block_i ?_ | refine W_region_i ?_ | refine W_skip_i ?_ | refine W_label_i ?_ | refine W_ret_i ?_ | refine W_exit_i ?_ | refine W_goto_i ?_ | refine W_scope_go ?_ | refine jumpW_r ?_ | refine jumpW_n ?_ | refine jumpW_x ?_ | refine blockW_g ?_ | refine thenW_n ?_ | refine blockW_n ?_ | refine blockW_x ?_ | refine blockW_y (by decide) ?_ | refine blockW_r ?_ | refine thenW_e (by simp; done) ?_ | refine WO_nil_i ?_ | refine WT_nil_i ?_) | (with_reducible apply W_cond_t; (case h => (simp [t0, t1, t5, t6, qi, ls, ns, i1]; done))) | (with_reducible apply W_cond_f; (case h => (simp [t0, t1, t5, t6, qi, ls, ns, i1]; done))) | ((with_reducible first | apply WO_val_i | apply WT_val_i); (case hw => (simp [t0, t1, t5, t6, qi, ls, ns, i1]; done)); (case he => (simp [t0, t1, t5, t6, qi, ls, ns, i1]; first | done | exact ⟨rfl, rfl⟩ | rfl)); (case hp => (simp [t0, t1, t5, t6, qi, ls, ns, i1]; first | done | rfl))) | ((with_reducible first | apply WO_no_i | apply WT_no_i); (case hw => (simp [t0, t1, t5, t6, qi, ls, ns, i1]; done)); (case hp => (simp [t0, t1, t5, t6, qi, ls, ns, i1]; first | done | rfl))) | ((with_reducible first | apply WO_skip_i | apply WT_skip_i); (case hw => (simp [t0, t1, t5, t6, qi, ls, ns, i1]; done)); (case he => (simp [t0, t1, t5, t6, qi, ls, ns, i1]; first | done | rfl)); (case hp => (simp [t0, t1, t5, t6, qi, ls, ns, i1]; first | done | rfl))) | ((with_reducible first | apply WO_call_i | apply WT_call_i); (case hw => (simp [t0, t1, t5, t6, qi, ls, ns, i1]; done)); (case he => (simp [t0, t1, t5, t6, qi, ls, ns, i1]; first | done | exact ⟨rfl, rfl, rfl⟩ | rfl))))
  refine A.mono A1 ?_
  rintro _ h3 ⟨rfl, e3⟩
  have hx3 := he.trans e3
  have A2 := get_ans ps vp hvp (by omega) xs v hxs hxl (p.to - 1) h3
  rw [← hos, g2] at A2
  refine ⟨_, by simp [outG]; first | done | rfl, ?_⟩
  repeat (first | (with_reducible first | refine W_seq_i ?_ | refine W_block_i ?_ | refine W_region_i ?_ | refine W_skip_i ?_ | refine W_label_i ?_ | refine W_ret_i ?_ | refine W_exit_i ?_ | refine W_goto_i ?_ | refine W_scope_go ?_ | refine jumpW_r ?_ | refine jumpW_n ?_ | refine jumpW_x ?_ | refine blockW_g ?_ | refine thenW_n ?_ | refine blockW_n ?_ | refine blockW_x ?_ | refine blockW_y (by decide) ?_ | refine blockW_r ?_ | refine thenW_e (by simp; done) ?_ | refine WO_nil_i ?_ | refine WT_nil_i ?_) | (with_reducible apply W_cond_t; (case h => (simp [outG, t0, t1, t5, t6, i1, w2]; done))) | (with_reducible apply W_cond_f; (case h => (simp [outG, t0, t1, t5, t6, i1, w2]; done))) | ((with_reducible first | apply WO_val_i | apply WT_val_i); (case hw => (simp [outG, t0, t1, t5, t6, i1, w2]; done)); (case he => (simp [outG, t0, t1, t5, t6, i1, w2]; first | done | exact ⟨rfl, rfl⟩ | rfl)); (case hp => (simp [outG, t0, t1, t5, t6, i1, w2]; first | done | rfl))) | ((with_reducible first | apply WO_no_i | apply WT_no_i); (case hw => (simp [outG, t0, t1, t5, t6, i1, w2]; done)); (case hp => (simp [outG, t0, t1, t5, t6, i1, w2]; first | done | rfl))) | ((with_reducible first | apply WO_skip_i | apply WT_skip_i); (case hw => (simp [outG, t0, t1, t5, t6, i1, w2]; done)); (case he => (simp [outG, t0, t1, t5, t6, i1, w2]; first | done | rfl)); (case hp => (simp [outG, t0, t1, t5, t6, i1, w2]; first | done | rfl))) | ((with_reducible first | apply WO_call_i | apply WT_call_i); (case hw => (simp [outG, t0, t1, t5, t6, i1, w2]; done)); (case he => (simp [outG, t0, t1, t5, t6, i1, w2]; first | done | exact ⟨rfl, rfl, rfl⟩ | rfl))))
  refine A.mono A2 ?_
  rintro _ h4 ⟨rfl, e4⟩
  have hx4 := hx3.trans e4
  have A3 := get_ans ps vp hvp (by omega) xs v hxs hxl p.to h4
  rw [← hos] at A3
  refine ⟨_, by simp [outG]; first | done | rfl, ?_⟩
  repeat (first | (with_reducible first | refine W_seq_i ?_ | refine W_block_i ?_ | refine W_region_i ?_ | refine W_skip_i ?_ | refine W_label_i ?_ | refine W_ret_i ?_ | refine W_exit_i ?_ | refine W_goto_i ?_ | refine W_scope_go ?_ | refine jumpW_r ?_ | refine jumpW_n ?_ | refine jumpW_x ?_ | refine blockW_g ?_ | refine thenW_n ?_ | refine blockW_n ?_ | refine blockW_x ?_ | refine blockW_y (by decide) ?_ | refine blockW_r ?_ | refine thenW_e (by simp; done) ?_ | refine WO_nil_i ?_ | refine WT_nil_i ?_) | (with_reducible apply W_cond_t; (case h => (simp [outG, t0, t1, t5, t6, i1]; done))) | (with_reducible apply W_cond_f; (case h => (simp [outG, t0, t1, t5, t6, i1]; done))) | ((with_reducible first | apply WO_val_i | apply WT_val_i); (case hw => (simp [outG, t0, t1, t5, t6, i1]; done)); (case he => (simp [outG, t0, t1, t5, t6, i1]; first | done | exact ⟨rfl, rfl⟩ | rfl)); (case hp => (simp [outG, t0, t1, t5, t6, i1]; first | done | rfl))) | ((with_reducible first | apply WO_no_i | apply WT_no_i); (case hw => (simp [outG, t0, t1, t5, t6, i1]; done)); (case hp => (simp [outG, t0, t1, t5, t6, i1]; first | done | rfl))) | ((with_reducible first | apply WO_skip_i | apply WT_skip_i); (case hw => (simp [outG, t0, t1, t5, t6, i1]; done)); (case he => (simp [outG, t0, t1, t5, t6, i1]; first | done | rfl)); (case hp => (simp [outG, t0, t1, t5, t6, i1]; first | done | rfl))) | ((with_reducible first | apply WO_call_i | apply WT_call_i); (case hw => (simp [outG, t0, t1, t5, t6, i1]; done)); (case he => (simp [outG, t0, t1, t5, t6, i1]; first | done | exact ⟨rfl, rfl, rfl⟩ | rfl))))
  refine A.mono A3 ?_
  rintro _ h5 ⟨rfl, e5⟩
  have hx5 := hx4.trans e5
  cases hg : getF os p.to with
  | none =>
    refine ⟨_, by simp [outG]; first | done | rfl, ?_⟩
    repeat (first | (with_reducible first | refine W_seq_i ?_ | refine W_block_i ?_ | refine W_region_i ?_ | refine W_skip_i ?_ | refine W_label_i ?_ | refine W_ret_i ?_ | refine W_exit_i ?_ | refine W_goto_i ?_ | refine W_scope_go ?_ | refine jumpW_r ?_ | refine jumpW_n ?_ | refine jumpW_x ?_ | refine blockW_g ?_ | refine thenW_n ?_ | refine blockW_n ?_ | refine blockW_x ?_ | refine blockW_y (by decide) ?_ | refine blockW_r ?_ | refine thenW_e (by simp; done) ?_ | refine WO_nil_i ?_ | refine WT_nil_i ?_) | (with_reducible apply W_cond_t; (case h => (simp [outG, t0, t1, t5, t6, i1, eb, w1]; done))) | (with_reducible apply W_cond_f; (case h => (simp [outG, t0, t1, t5, t6, i1, eb, w1]; done))) | ((with_reducible first | apply WO_val_i | apply WT_val_i); (case hw => (simp [outG, t0, t1, t5, t6, i1, eb, w1]; done)); (case he => (simp [outG, t0, t1, t5, t6, i1, eb, w1]; first | done | exact ⟨rfl, rfl⟩ | rfl)); (case hp => (simp [outG, t0, t1, t5, t6, i1, eb, w1]; first | done | rfl))) | ((with_reducible first | apply WO_no_i | apply WT_no_i); (case hw => (simp [outG, t0, t1, t5, t6, i1, eb, w1]; done)); (case hp => (simp [outG, t0, t1, t5, t6, i1, eb, w1]; first | done | rfl))) | ((with_reducible first | apply WO_skip_i | apply WT_skip_i); (case hw => (simp [outG, t0, t1, t5, t6, i1, eb, w1]; done)); (case he => (simp [outG, t0, t1, t5, t6, i1, eb, w1]; first | done | rfl)); (case hp => (simp [outG, t0, t1, t5, t6, i1, eb, w1]; first | done | rfl))) | ((with_reducible first | apply WO_call_i | apply WT_call_i); (case hw => (simp [outG, t0, t1, t5, t6, i1, eb, w1]; done)); (case he => (simp [outG, t0, t1, t5, t6, i1, eb, w1]; first | done | exact ⟨rfl, rfl, rfl⟩ | rfl))))
    refine ⟨_, ?_, _, _, i + 1, rfl, rfl, by omega, by simp [t0], by simp [t1], by simp [t5], by simp, hx5⟩
    omega
  | some c =>
    have ec : eqB c p.val = false := by
      rw [eqB_iff]; exact decide_eq_false (fun e => g3 (by rw [hg, e]))
    refine ⟨_, by simp [outG]; first | done | rfl, ?_⟩
    repeat (first | (with_reducible first | refine W_seq_i ?_ | refine W_block_i ?_ | refine W_region_i ?_ | refine W_skip_i ?_ | refine W_label_i ?_ | refine W_ret_i ?_ | refine W_exit_i ?_ | refine W_goto_i ?_ | refine W_scope_go ?_ | refine jumpW_r ?_ | refine jumpW_n ?_ | refine jumpW_x ?_ | refine blockW_g ?_ | refine thenW_n ?_ | refine blockW_n ?_ | refine blockW_x ?_ | refine blockW_y (by decide) ?_ | refine blockW_r ?_ | refine thenW_e (by simp; done) ?_ | refine WO_nil_i ?_ | refine WT_nil_i ?_) | (with_reducible apply W_cond_t; (case h => (simp [outG, t0, t1, t5, t6, i1, eb, ec, w1]; done))) | (with_reducible apply W_cond_f; (case h => (simp [outG, t0, t1, t5, t6, i1, eb, ec, w1]; done))) | ((with_reducible first | apply WO_val_i | apply WT_val_i); (case hw => (simp [outG, t0, t1, t5, t6, i1, eb, ec, w1]; done)); (case he => (simp [outG, t0, t1, t5, t6, i1, eb, ec, w1]; first | done | exact ⟨rfl, rfl⟩ | rfl)); (case hp => (simp [outG, t0, t1, t5, t6, i1, eb, ec, w1]; first | done | rfl))) | ((with_reducible first | apply WO_no_i | apply WT_no_i); (case hw => (simp [outG, t0, t1, t5, t6, i1, eb, ec, w1]; done)); (case hp => (simp [outG, t0, t1, t5, t6, i1, eb, ec, w1]; first | done | rfl))) | ((with_reducible first | apply WO_skip_i | apply WT_skip_i); (case hw => (simp [outG, t0, t1, t5, t6, i1, eb, ec, w1]; done)); (case he => (simp [outG, t0, t1, t5, t6, i1, eb, ec, w1]; first | done | rfl)); (case hp => (simp [outG, t0, t1, t5, t6, i1, eb, ec, w1]; first | done | rfl))) | ((with_reducible first | apply WO_call_i | apply WT_call_i); (case hw => (simp [outG, t0, t1, t5, t6, i1, eb, ec, w1]; done)); (case he => (simp [outG, t0, t1, t5, t6, i1, eb, ec, w1]; first | done | exact ⟨rfl, rfl, rfl⟩ | rfl))))
    refine ⟨_, ?_, _, _, i + 1, rfl, rfl, by omega, by simp [t0], by simp [t1], by simp [t5], by simp, hx5⟩
    omega
end Go.Vn
