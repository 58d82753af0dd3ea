/- What functions of the program come to, in the value machine (a part of the proof of the claim's statement). No condition. -/
import Derived.Test.YtdohdbojlannaaaVnM2
import Derived.Test.YtdohdbojlannaaaVnM5
set_option linter.unusedSimpArgs false
set_option linter.unusedVariables false
set_option maxRecDepth 20000
namespace Go.Vn
open Go.Proofs
@[simp] theorem hb34 : hasBody Try.prog 34 = true := by kernel_rfl
@[simp] theorem hb20 : hasBody Try.prog 20 = true := by kernel_rfl

theorem cmpS_lt (a b : List UInt8) : cmpS a b < 0 ↔ ltB a b = true := by
  unfold cmpS; cases ltB a b <;> simp
  split <;> omega
theorem cmpS_z {a b : List UInt8} (h : eqB a b = true) : cmpS a b = 0 := by
  have : a = b := by rw [eqB_eq] at h; exact beq_iff_eq.mp h
  subst this
  have := cmpS_anti a a; omega
theorem cmpS_nz {a b : List UInt8} (h : eqB a b = false) : cmpS a b ≠ 0 := by
  unfold cmpS; rw [h]; cases ltB a b <;> simp
theorem cmpI_lt (a b : Int) : cmpI a b < 0 ↔ a < b := by unfold cmpI; (repeat' split) <;> omega
theorem cmpI_z (a b : Int) : cmpI a b = 0 ↔ a = b := by unfold cmpI; (repeat' split) <;> omega

theorem less_ans (a b : Ver) (h : Hp Fm) : A Try.prog TT (.func 34) [encV a, encV b] h (fun r h' => r = .bool (decide (cmpV a b < 0)) ∧ HE h h') := by
  apply A_go Try.func34 rfl (by rfl); (case hn => (simp [Try.ntmps34]; rfl))
  cases q0 : eqB a.key b.key
  · repeat (first | (with_reducible first | refine W_seq_i ?_ | refine W_block_i ?_ | refine W_region_i ?_ | refine W_skip_i ?_ | refine W_label_i ?_ | refine W_ret_i ?_ | refine W_exit_i ?_ | refine W_goto_i ?_ | refine W_scope_go ?_ | refine jumpW_r ?_ | refine jumpW_n ?_ | refine jumpW_x ?_ | refine blockW_g ?_ | refine thenW_n ?_ | refine blockW_n ?_ | refine blockW_x ?_ | refine blockW_y (by decide) ?_ | refine blockW_r ?_ | refine thenW_e (by simp; done) ?_ | refine WO_nil_i ?_ | refine WT_nil_i ?_) | (with_reducible apply W_cond_t; (case h => (simp [q0]; done))) | (with_reducible apply W_cond_f; (case h => (simp [q0]; done))) | ((with_reducible first | apply WO_val_i | apply WT_val_i); (case hw => (simp [q0]; done)); (case he => (simp [q0]; first | done | exact ⟨rfl, rfl⟩ | rfl)); (case hp => (simp [q0]; first | done | rfl))) | ((with_reducible first | apply WO_no_i | apply WT_no_i); (case hw => (simp [q0]; done)); (case hp => (simp [q0]; first | done | rfl))) | ((with_reducible first | apply WO_skip_i | apply WT_skip_i); (case hw => (simp [q0]; done)); (case he => (simp [q0]; first | done | rfl)); (case hp => (simp [q0]; first | done | rfl))) | ((with_reducible first | apply WO_call_i | apply WT_call_i); (case hw => (simp [q0]; done)); (case he => (simp [q0]; first | done | exact ⟨rfl, rfl, rfl⟩ | rfl))))
    (first | apply endW_r | apply endW_n); (case h1 => (simp [Try.results34]; first | done | rfl))
    refine ⟨?_, ((HE.refl h).new _).new _⟩
    have := cmpS_nz q0
    simp [cmpV, first5, this, cmpS_lt]
  have z0 := cmpS_z q0
  by_cases q1 : a.br = b.br
  case neg =>
    repeat (first | (with_reducible first | refine W_seq_i ?_ | refine W_block_i ?_ | refine W_region_i ?_ | refine W_skip_i ?_ | refine W_label_i ?_ | refine W_ret_i ?_ | refine W_exit_i ?_ | refine W_goto_i ?_ | refine W_scope_go ?_ | refine jumpW_r ?_ | refine jumpW_n ?_ | refine jumpW_x ?_ | refine blockW_g ?_ | refine thenW_n ?_ | refine blockW_n ?_ | refine blockW_x ?_ | refine blockW_y (by decide) ?_ | refine blockW_r ?_ | refine thenW_e (by simp; done) ?_ | refine WO_nil_i ?_ | refine WT_nil_i ?_) | (with_reducible apply W_cond_t; (case h => (simp [q0, q1]; done))) | (with_reducible apply W_cond_f; (case h => (simp [q0, q1]; done))) | ((with_reducible first | apply WO_val_i | apply WT_val_i); (case hw => (simp [q0, q1]; done)); (case he => (simp [q0, q1]; first | done | exact ⟨rfl, rfl⟩ | rfl)); (case hp => (simp [q0, q1]; first | done | rfl))) | ((with_reducible first | apply WO_no_i | apply WT_no_i); (case hw => (simp [q0, q1]; done)); (case hp => (simp [q0, q1]; first | done | rfl))) | ((with_reducible first | apply WO_skip_i | apply WT_skip_i); (case hw => (simp [q0, q1]; done)); (case he => (simp [q0, q1]; first | done | rfl)); (case hp => (simp [q0, q1]; first | done | rfl))) | ((with_reducible first | apply WO_call_i | apply WT_call_i); (case hw => (simp [q0, q1]; done)); (case he => (simp [q0, q1]; first | done | exact ⟨rfl, rfl, rfl⟩ | rfl))))
    (first | apply endW_r | apply endW_n); (case h1 => (simp [Try.results34]; first | done | rfl))
    refine ⟨?_, ((HE.refl h).new _).new _⟩
    simp [cmpV, first5, z0, cmpI_z, q1, cmpI_lt]
  by_cases q2 : a.ep = b.ep
  case neg =>
    repeat (first | (with_reducible first | refine W_seq_i ?_ | refine W_block_i ?_ | refine W_region_i ?_ | refine W_skip_i ?_ | refine W_label_i ?_ | refine W_ret_i ?_ | refine W_exit_i ?_ | refine W_goto_i ?_ | refine W_scope_go ?_ | refine jumpW_r ?_ | refine jumpW_n ?_ | refine jumpW_x ?_ | refine blockW_g ?_ | refine thenW_n ?_ | refine blockW_n ?_ | refine blockW_x ?_ | refine blockW_y (by decide) ?_ | refine blockW_r ?_ | refine thenW_e (by simp; done) ?_ | refine WO_nil_i ?_ | refine WT_nil_i ?_) | (with_reducible apply W_cond_t; (case h => (simp [q0, q1, q2]; done))) | (with_reducible apply W_cond_f; (case h => (simp [q0, q1, q2]; done))) | ((with_reducible first | apply WO_val_i | apply WT_val_i); (case hw => (simp [q0, q1, q2]; done)); (case he => (simp [q0, q1, q2]; first | done | exact ⟨rfl, rfl⟩ | rfl)); (case hp => (simp [q0, q1, q2]; first | done | rfl))) | ((with_reducible first | apply WO_no_i | apply WT_no_i); (case hw => (simp [q0, q1, q2]; done)); (case hp => (simp [q0, q1, q2]; first | done | rfl))) | ((with_reducible first | apply WO_skip_i | apply WT_skip_i); (case hw => (simp [q0, q1, q2]; done)); (case he => (simp [q0, q1, q2]; first | done | rfl)); (case hp => (simp [q0, q1, q2]; first | done | rfl))) | ((with_reducible first | apply WO_call_i | apply WT_call_i); (case hw => (simp [q0, q1, q2]; done)); (case he => (simp [q0, q1, q2]; first | done | exact ⟨rfl, rfl, rfl⟩ | rfl))))
    (first | apply endW_r | apply endW_n); (case h1 => (simp [Try.results34]; first | done | rfl))
    refine ⟨?_, ((HE.refl h).new _).new _⟩
    simp [cmpV, first5, z0, cmpI_z, q1, q2, cmpI_lt]
  by_cases q3 : a.sq = b.sq
  case neg =>
    repeat (first | (with_reducible first | refine W_seq_i ?_ | refine W_block_i ?_ | refine W_region_i ?_ | refine W_skip_i ?_ | refine W_label_i ?_ | refine W_ret_i ?_ | refine W_exit_i ?_ | refine W_goto_i ?_ | refine W_scope_go ?_ | refine jumpW_r ?_ | refine jumpW_n ?_ | refine jumpW_x ?_ | refine blockW_g ?_ | refine thenW_n ?_ | refine blockW_n ?_ | refine blockW_x ?_ | refine blockW_y (by decide) ?_ | refine blockW_r ?_ | refine thenW_e (by simp; done) ?_ | refine WO_nil_i ?_ | refine WT_nil_i ?_) | (with_reducible apply W_cond_t; (case h => (simp [q0, q1, q2, q3]; done))) | (with_reducible apply W_cond_f; (case h => (simp [q0, q1, q2, q3]; done))) | ((with_reducible first | apply WO_val_i | apply WT_val_i); (case hw => (simp [q0, q1, q2, q3]; done)); (case he => (simp [q0, q1, q2, q3]; first | done | exact ⟨rfl, rfl⟩ | rfl)); (case hp => (simp [q0, q1, q2, q3]; first | done | rfl))) | ((with_reducible first | apply WO_no_i | apply WT_no_i); (case hw => (simp [q0, q1, q2, q3]; done)); (case hp => (simp [q0, q1, q2, q3]; first | done | rfl))) | ((with_reducible first | apply WO_skip_i | apply WT_skip_i); (case hw => (simp [q0, q1, q2, q3]; done)); (case he => (simp [q0, q1, q2, q3]; first | done | rfl)); (case hp => (simp [q0, q1, q2, q3]; first | done | rfl))) | ((with_reducible first | apply WO_call_i | apply WT_call_i); (case hw => (simp [q0, q1, q2, q3]; done)); (case he => (simp [q0, q1, q2, q3]; first | done | exact ⟨rfl, rfl, rfl⟩ | rfl))))
    (first | apply endW_r | apply endW_n); (case h1 => (simp [Try.results34]; first | done | rfl))
    refine ⟨?_, ((HE.refl h).new _).new _⟩
    simp [cmpV, first5, z0, cmpI_z, q1, q2, q3, cmpI_lt]
  repeat (first | (with_reducible first | refine W_seq_i ?_ | refine W_block_i ?_ | refine W_region_i ?_ | refine W_skip_i ?_ | refine W_label_i ?_ | refine W_ret_i ?_ | refine W_exit_i ?_ | refine W_goto_i ?_ | refine W_scope_go ?_ | refine jumpW_r ?_ | refine jumpW_n ?_ | refine jumpW_x ?_ | refine blockW_g ?_ | refine thenW_n ?_ | refine blockW_n ?_ | refine blockW_x ?_ | refine blockW_y (by decide) ?_ | refine blockW_r ?_ | refine thenW_e (by simp; done) ?_ | refine WO_nil_i ?_ | refine WT_nil_i ?_) | (with_reducible apply W_cond_t; (case h => (simp [q0, q1, q2, q3]; done))) | (with_reducible apply W_cond_f; (case h => (simp [q0, q1, q2, q3]; done))) | ((with_reducible first | apply WO_val_i | apply WT_val_i); (case hw => (simp [q0, q1, q2, q3]; done)); (case he => (simp [q0, q1, q2, q3]; first | done | exact ⟨rfl, rfl⟩ | rfl)); (case hp => (simp [q0, q1, q2, q3]; first | done | rfl))) | ((with_reducible first | apply WO_no_i | apply WT_no_i); (case hw => (simp [q0, q1, q2, q3]; done)); (case hp => (simp [q0, q1, q2, q3]; first | done | rfl))) | ((with_reducible first | apply WO_skip_i | apply WT_skip_i); (case hw => (simp [q0, q1, q2, q3]; done)); (case he => (simp [q0, q1, q2, q3]; first | done | rfl)); (case hp => (simp [q0, q1, q2, q3]; first | done | rfl))) | ((with_reducible first | apply WO_call_i | apply WT_call_i); (case hw => (simp [q0, q1, q2, q3]; done)); (case he => (simp [q0, q1, q2, q3]; first | done | exact ⟨rfl, rfl, rfl⟩ | rfl))))
  (first | apply endW_r | apply endW_n); (case h1 => (simp [Try.results34]; first | done | rfl))
  refine ⟨?_, ((HE.refl h).new _).new _⟩
  simp [cmpV, first5, z0, cmpI_z, q1, q2, q3, cmpI_lt]
end Go.Vn

set_option maxRecDepth 20000
namespace Go.Vn
open Go.Proofs
theorem gu43 : (Try.prog.stoodInHeld 43 || Try.prog.eqGuardType Try.prog.depth 43) = false := by kernel_rfl
theorem gu39 : (Try.prog.stoodInHeld 39 || Try.prog.eqGuardType Try.prog.depth 39) = false := by kernel_rfl
theorem gu41 : (Try.prog.stoodInHeld 41 || Try.prog.eqGuardType Try.prog.depth 41) = false := by kernel_rfl

theorem eql39 (d : Nat) (a b c x y z : Int) : eqlAV Try.prog (d + 2) 39 (.agg [.int .i64 a, .int .i64 b, .int .i64 c]) (.agg [.int .i64 x, .int .i64 y, .int .i64 z]) = some (decide (a = x) && decide (b = y) && decide (c = z)) := by
  unfold eqlAV
  simp only [Try.underlying39, gu39, List.toList_toArray, List.foldr_cons, List.foldr_nil]
  simp [eqlAV]
  by_cases h1 : a = x <;> by_cases h2 : b = y <;> by_cases h3 : c = z <;> simp [h1, h2, h3]

theorem eql41 (d : Nat) (a b x y : Int) : eqlAV Try.prog (d + 2) 41 (.agg [.int .i64 a, .int .i64 b]) (.agg [.int .i64 x, .int .i64 y]) = some (decide (a = x) && decide (b = y)) := by
  unfold eqlAV
  simp only [Try.underlying41, gu41, List.toList_toArray, List.foldr_cons, List.foldr_nil]
  simp [eqlAV]
  by_cases h1 : a = x <;> by_cases h2 : b = y <;> simp [h1, h2]

theorem eql9 (d : Nat) (a b : List UInt8) : eqlAV Try.prog (d + 1) 9 (.str a) (.str b) = some (eqB a b) := by simp [eqlAV]
theorem eql4 (d : Nat) (a b : Bool) : eqlAV Try.prog (d + 1) 4 (.bool a) (.bool b) = some (a == b) := by simp [eqlAV]

theorem eqB_iff (a b : List UInt8) : eqB a b = decide (a = b) := by rw [eqB_eq]; by_cases h : a = b <;> simp [h]

theorem eql43 (x y : Ver) : eqlAV Try.prog 20 43 (encV x) (encV y) = some (decide (x = y)) := by
  obtain ⟨k1, b1, e1, s1, f1, t1, v1, g1⟩ := x
  obtain ⟨k2, b2, e2, s2, f2, t2, v2, g2⟩ := y
  unfold eqlAV
  simp only [Try.underlying43, gu43, List.toList_toArray, List.foldr_cons, List.foldr_nil]
  simp [eql9, eql4, eql39, eql41, eqB_iff]
  by_cases h1 : k1 = k2 <;> by_cases h2 : b1 = b2 <;> by_cases h3 : e1 = e2 <;> by_cases h4 : s1 = s2 <;> by_cases h5 : f1 = f2 <;> by_cases h6 : t1 = t2 <;> by_cases h7 : v1 = v2 <;> by_cases h8 : g1 = g2 <;> simp [h1, h2, h3, h4, h5, h6, h7, h8]

end Go.Vn

set_option maxRecDepth 20000
namespace Go.Vn
open Go.Proofs
@[simp] theorem hb16 : hasBody Try.prog 16 = true := by kernel_rfl

theorem same_ans (xs ys : List Ver) (v u : AV) (hv : SV 8 (xs.map encV) v) (hu : SV 8 (ys.map encV) u) (hl : xs.length ≤ 1000000) (h0 : Hp Fm) :
    A Try.prog TT (.func 16) [v, u] h0 (fun r h' => r = .bool (decide (xs = ys)) ∧ HE h0 h') := by
  have l1 := hv.len Try.underlying34
  have l2 := hu.len Try.underlying34
  rw [List.length_map] at l1 l2
  have n1 := hv.nm
  have n2 := hu.nm
  apply A_go Try.func16 rfl (by rfl); (case hn => (simp [Try.ntmps16]; rfl))
  by_cases q : xs.length = ys.length
  case neg =>
    have qi : ¬ ((xs.length : Int) = (ys.length : Int)) := by omega
    repeat (first | (with_reducible first | refine W_seq_i ?_ | refine W_block_i ?_ | refine W_region_i ?_ | refine W_skip_i ?_ | refine W_label_i ?_ | refine W_ret_i ?_ | refine W_exit_i ?_ | refine W_goto_i ?_ | refine W_scope_go ?_ | refine jumpW_r ?_ | refine jumpW_n ?_ | refine jumpW_x ?_ | refine blockW_g ?_ | refine thenW_n ?_ | refine blockW_n ?_ | refine blockW_x ?_ | refine blockW_y (by decide) ?_ | refine blockW_r ?_ | refine thenW_e (by simp; done) ?_ | refine WO_nil_i ?_ | refine WT_nil_i ?_) | (with_reducible apply W_cond_t; (case h => (simp [l1, l2, n1, n2, q, qi]; done))) | (with_reducible apply W_cond_f; (case h => (simp [l1, l2, n1, n2, q, qi]; done))) | ((with_reducible first | apply WO_val_i | apply WT_val_i); (case hw => (simp [l1, l2, n1, n2, q, qi]; done)); (case he => (simp [l1, l2, n1, n2, q, qi]; first | done | exact ⟨rfl, rfl⟩ | rfl)); (case hp => (simp [l1, l2, n1, n2, q, qi]; first | done | rfl))) | ((with_reducible first | apply WO_no_i | apply WT_no_i); (case hw => (simp [l1, l2, n1, n2, q, qi]; done)); (case hp => (simp [l1, l2, n1, n2, q, qi]; first | done | rfl))) | ((with_reducible first | apply WO_skip_i | apply WT_skip_i); (case hw => (simp [l1, l2, n1, n2, q, qi]; done)); (case he => (simp [l1, l2, n1, n2, q, qi]; first | done | rfl)); (case hp => (simp [l1, l2, n1, n2, q, qi]; first | done | rfl))) | ((with_reducible first | apply WO_call_i | apply WT_call_i); (case hw => (simp [l1, l2, n1, n2, q, qi]; done)); (case he => (simp [l1, l2, n1, n2, q, qi]; first | done | exact ⟨rfl, rfl, rfl⟩ | rfl))))
    (first | apply endW_r | apply endW_n); (case h1 => (simp [Try.results16]; first | done | rfl))
    refine ⟨?_, HE.refl _⟩
    have : xs ≠ ys := fun e => q (by rw [e])
    simp [this]
  repeat (first | (with_reducible first | refine W_seq_i ?_ | refine W_block_i ?_ | refine W_region_i ?_ | refine W_skip_i ?_ | refine W_label_i ?_ | refine W_ret_i ?_ | refine W_exit_i ?_ | refine W_goto_i ?_ | refine W_scope_go ?_ | refine jumpW_r ?_ | refine jumpW_n ?_ | refine jumpW_x ?_ | refine blockW_g ?_ | refine thenW_n ?_ | refine blockW_n ?_ | refine blockW_x ?_ | refine blockW_y (by decide) ?_ | refine blockW_r ?_ | refine thenW_e (by simp; done) ?_ | refine WO_nil_i ?_ | refine WT_nil_i ?_) | (with_reducible apply W_cond_t; (case h => (simp [l1, l2, n1, n2, q]; done))) | (with_reducible apply W_cond_f; (case h => (simp [l1, l2, n1, n2, q]; done))) | ((with_reducible first | apply WO_val_i | apply WT_val_i); (case hw => (simp [l1, l2, n1, n2, q]; done)); (case he => (simp [l1, l2, n1, n2, q]; first | done | exact ⟨rfl, rfl⟩ | rfl)); (case hp => (simp [l1, l2, n1, n2, q]; first | done | rfl))) | ((with_reducible first | apply WO_no_i | apply WT_no_i); (case hw => (simp [l1, l2, n1, n2, q]; done)); (case hp => (simp [l1, l2, n1, n2, q]; first | done | rfl))) | ((with_reducible first | apply WO_skip_i | apply WT_skip_i); (case hw => (simp [l1, l2, n1, n2, q]; done)); (case he => (simp [l1, l2, n1, n2, q]; first | done | rfl)); (case hp => (simp [l1, l2, n1, n2, q]; first | done | rfl))) | ((with_reducible first | apply WO_call_i | apply WT_call_i); (case hw => (simp [l1, l2, n1, n2, q]; done)); (case he => (simp [l1, l2, n1, n2, q]; first | done | exact ⟨rfl, rfl, rfl⟩ | rfl))))
  refine W_loop (fun m s => ∃ (t : Fm AV) (h : Hp Fm) (i : Nat), s = ⟨t, 26, h, none⟩ ∧ m = xs.length - i ∧ i ≤ xs.length ∧ tget t 0 = v ∧ tget t 1 = u ∧ tget t 5 = .int .i64 i ∧ xs.take i = ys.take i ∧ HE h0 h) xs.length
    ⟨_, _, 0, rfl, rfl, Nat.zero_le _, by simp, by simp, by simp, by simp, HE.refl _⟩ ?_
  rintro m s ⟨t, h, i, rfl, rfl, hi, t0, t1, t5, htk, he⟩
  by_cases qi : i < xs.length
  · have qj : i < ys.length := by omega
    have i1 := hv.idx Try.underlying34 z43 (k := .i64) (i := i) (by simp) (by simpa using qi)
    have i2 := hu.idx Try.underlying34 z43 (k := .i64) (i := i) (by simp) (by simpa using qj)
    simp only [List.getElem_map, Int.toNat_natCast] at i1 i2
    have e43 := eql43 xs[i] ys[i]
    repeat (first | (with_reducible first | refine W_seq_i ?_ | refine W_block_i ?_ | refine W_region_i ?_ | refine W_skip_i ?_ | refine W_label_i ?_ | refine W_ret_i ?_ | refine W_exit_i ?_ | refine W_goto_i ?_ | refine W_scope_go ?_ | refine jumpW_r ?_ | refine jumpW_n ?_ | refine jumpW_x ?_ | refine blockW_g ?_ | refine thenW_n ?_ | refine blockW_n ?_ | refine blockW_x ?_ | refine blockW_y (by decide) ?_ | refine blockW_r ?_ | refine thenW_e (by simp; done) ?_ | refine WO_nil_i ?_ | refine WT_nil_i ?_) | (with_reducible apply W_cond_t; (case h => (simp [t0, t1, t5, qi, qj, l1, l2, n1, n2]; done))) | (with_reducible apply W_cond_f; (case h => (simp [t0, t1, t5, qi, qj, l1, l2, n1, n2]; done))) | ((with_reducible first | apply WO_val_i | apply WT_val_i); (case hw => (simp [t0, t1, t5, qi, qj, l1, l2, n1, n2]; done)); (case he => (simp [t0, t1, t5, qi, qj, l1, l2, n1, n2]; first | done | exact ⟨rfl, rfl⟩ | rfl)); (case hp => (simp [t0, t1, t5, qi, qj, l1, l2, n1, n2]; first | done | rfl))) | ((with_reducible first | apply WO_no_i | apply WT_no_i); (case hw => (simp [t0, t1, t5, qi, qj, l1, l2, n1, n2]; done)); (case hp => (simp [t0, t1, t5, qi, qj, l1, l2, n1, n2]; first | done | rfl))) | ((with_reducible first | apply WO_skip_i | apply WT_skip_i); (case hw => (simp [t0, t1, t5, qi, qj, l1, l2, n1, n2]; done)); (case he => (simp [t0, t1, t5, qi, qj, l1, l2, n1, n2]; first | done | rfl)); (case hp => (simp [t0, t1, t5, qi, qj, l1, l2, n1, n2]; first | done | rfl))) | ((with_reducible first | apply WO_call_i | apply WT_call_i); (case hw => (simp [t0, t1, t5, qi, qj, l1, l2, n1, n2]; done)); (case he => (simp [t0, t1, t5, qi, qj, l1, l2, n1, n2]; first | done | exact ⟨rfl, rfl, rfl⟩ | rfl))))
    (with_reducible refine W_draw_id (pln := true) [0, 1, 2, 3, 4, 5, 6, 7, 8] [(3, (3, [])), (7, (7, []))] (by kernel_rfl) rfl ?_)
    have w1 : IntKind.i64.wrap ((i : Int) + 1) = ((i + 1 : Nat) : Int) := by rw [wrap64 (by omega) (by omega)]; simp
    simp only [encV] at e43 i1 i2
    cases qe : decide (xs[i] = ys[i])
    · rw [qe] at e43
      repeat (first | (with_reducible first | refine W_seq_i ?_ | refine W_block_i ?_ | refine W_region_i ?_ | refine W_skip_i ?_ | refine W_label_i ?_ | refine W_ret_i ?_ | refine W_exit_i ?_ | refine W_goto_i ?_ | refine W_scope_go ?_ | refine jumpW_r ?_ | refine jumpW_n ?_ | refine jumpW_x ?_ | refine blockW_g ?_ | refine thenW_n ?_ | refine blockW_n ?_ | refine blockW_x ?_ | refine blockW_y (by decide) ?_ | refine blockW_r ?_ | refine thenW_e (by simp; done) ?_ | refine WO_nil_i ?_ | refine WT_nil_i ?_) | (with_reducible apply W_cond_t; (case h => (simp [t0, t1, t5, qi, qj, i1, i2, e43, w1]; done))) | (with_reducible apply W_cond_f; (case h => (simp [t0, t1, t5, qi, qj, i1, i2, e43, w1]; done))) | ((with_reducible first | apply WO_val_i | apply WT_val_i); (case hw => (simp [t0, t1, t5, qi, qj, i1, i2, e43, w1]; done)); (case he => (simp [t0, t1, t5, qi, qj, i1, i2, e43, w1]; first | done | exact ⟨rfl, rfl⟩ | rfl)); (case hp => (simp [t0, t1, t5, qi, qj, i1, i2, e43, w1]; first | done | rfl))) | ((with_reducible first | apply WO_no_i | apply WT_no_i); (case hw => (simp [t0, t1, t5, qi, qj, i1, i2, e43, w1]; done)); (case hp => (simp [t0, t1, t5, qi, qj, i1, i2, e43, w1]; first | done | rfl))) | ((with_reducible first | apply WO_skip_i | apply WT_skip_i); (case hw => (simp [t0, t1, t5, qi, qj, i1, i2, e43, w1]; done)); (case he => (simp [t0, t1, t5, qi, qj, i1, i2, e43, w1]; first | done | rfl)); (case hp => (simp [t0, t1, t5, qi, qj, i1, i2, e43, w1]; first | done | rfl))) | ((with_reducible first | apply WO_call_i | apply WT_call_i); (case hw => (simp [t0, t1, t5, qi, qj, i1, i2, e43, w1]; done)); (case he => (simp [t0, t1, t5, qi, qj, i1, i2, e43, w1]; first | done | exact ⟨rfl, rfl, rfl⟩ | rfl))))
      refine ⟨by simp [readSame, beqAV_self, t0]; done, _, by simp; first | done | rfl, ?_⟩
      repeat (first | (with_reducible first | refine W_seq_i ?_ | refine W_block_i ?_ | refine W_region_i ?_ | refine W_skip_i ?_ | refine W_label_i ?_ | refine W_ret_i ?_ | refine W_exit_i ?_ | refine W_goto_i ?_ | refine W_scope_go ?_ | refine jumpW_r ?_ | refine jumpW_n ?_ | refine jumpW_x ?_ | refine blockW_g ?_ | refine thenW_n ?_ | refine blockW_n ?_ | refine blockW_x ?_ | refine blockW_y (by decide) ?_ | refine blockW_r ?_ | refine thenW_e (by simp; done) ?_ | refine WO_nil_i ?_ | refine WT_nil_i ?_) | (with_reducible apply W_cond_t; (case h => (simp [t0, t1, t5, qi, qj, i1, i2, e43, w1]; done))) | (with_reducible apply W_cond_f; (case h => (simp [t0, t1, t5, qi, qj, i1, i2, e43, w1]; done))) | ((with_reducible first | apply WO_val_i | apply WT_val_i); (case hw => (simp [t0, t1, t5, qi, qj, i1, i2, e43, w1]; done)); (case he => (simp [t0, t1, t5, qi, qj, i1, i2, e43, w1]; first | done | exact ⟨rfl, rfl⟩ | rfl)); (case hp => (simp [t0, t1, t5, qi, qj, i1, i2, e43, w1]; first | done | rfl))) | ((with_reducible first | apply WO_no_i | apply WT_no_i); (case hw => (simp [t0, t1, t5, qi, qj, i1, i2, e43, w1]; done)); (case hp => (simp [t0, t1, t5, qi, qj, i1, i2, e43, w1]; first | done | rfl))) | ((with_reducible first | apply WO_skip_i | apply WT_skip_i); (case hw => (simp [t0, t1, t5, qi, qj, i1, i2, e43, w1]; done)); (case he => (simp [t0, t1, t5, qi, qj, i1, i2, e43, w1]; first | done | rfl)); (case hp => (simp [t0, t1, t5, qi, qj, i1, i2, e43, w1]; first | done | rfl))) | ((with_reducible first | apply WO_call_i | apply WT_call_i); (case hw => (simp [t0, t1, t5, qi, qj, i1, i2, e43, w1]; done)); (case he => (simp [t0, t1, t5, qi, qj, i1, i2, e43, w1]; first | done | exact ⟨rfl, rfl, rfl⟩ | rfl))))
      (first | apply endW_r | apply endW_n); (case h1 => (simp [Try.results16]; first | done | rfl))
      have hne : xs ≠ ys := fun e => of_decide_eq_false qe (by subst e; rfl)
      exact ⟨by simp [hne], he.drew⟩
    · rw [qe] at e43
      repeat (first | (with_reducible first | refine W_seq_i ?_ | refine W_block_i ?_ | refine W_region_i ?_ | refine W_skip_i ?_ | refine W_label_i ?_ | refine W_ret_i ?_ | refine W_exit_i ?_ | refine W_goto_i ?_ | refine W_scope_go ?_ | refine jumpW_r ?_ | refine jumpW_n ?_ | refine jumpW_x ?_ | refine blockW_g ?_ | refine thenW_n ?_ | refine blockW_n ?_ | refine blockW_x ?_ | refine blockW_y (by decide) ?_ | refine blockW_r ?_ | refine thenW_e (by simp; done) ?_ | refine WO_nil_i ?_ | refine WT_nil_i ?_) | (with_reducible apply W_cond_t; (case h => (simp [t0, t1, t5, qi, qj, i1, i2, e43, w1]; done))) | (with_reducible apply W_cond_f; (case h => (simp [t0, t1, t5, qi, qj, i1, i2, e43, w1]; done))) | ((with_reducible first | apply WO_val_i | apply WT_val_i); (case hw => (simp [t0, t1, t5, qi, qj, i1, i2, e43, w1]; done)); (case he => (simp [t0, t1, t5, qi, qj, i1, i2, e43, w1]; first | done | exact ⟨rfl, rfl⟩ | rfl)); (case hp => (simp [t0, t1, t5, qi, qj, i1, i2, e43, w1]; first | done | rfl))) | ((with_reducible first | apply WO_no_i | apply WT_no_i); (case hw => (simp [t0, t1, t5, qi, qj, i1, i2, e43, w1]; done)); (case hp => (simp [t0, t1, t5, qi, qj, i1, i2, e43, w1]; first | done | rfl))) | ((with_reducible first | apply WO_skip_i | apply WT_skip_i); (case hw => (simp [t0, t1, t5, qi, qj, i1, i2, e43, w1]; done)); (case he => (simp [t0, t1, t5, qi, qj, i1, i2, e43, w1]; first | done | rfl)); (case hp => (simp [t0, t1, t5, qi, qj, i1, i2, e43, w1]; first | done | rfl))) | ((with_reducible first | apply WO_call_i | apply WT_call_i); (case hw => (simp [t0, t1, t5, qi, qj, i1, i2, e43, w1]; done)); (case he => (simp [t0, t1, t5, qi, qj, i1, i2, e43, w1]; first | done | exact ⟨rfl, rfl, rfl⟩ | rfl))))
      refine ⟨by simp [readSame, beqAV_self, t0]; done, _, by simp; first | done | rfl, ?_⟩
      repeat (first | (with_reducible first | refine W_seq_i ?_ | refine W_block_i ?_ | refine W_region_i ?_ | refine W_skip_i ?_ | refine W_label_i ?_ | refine W_ret_i ?_ | refine W_exit_i ?_ | refine W_goto_i ?_ | refine W_scope_go ?_ | refine jumpW_r ?_ | refine jumpW_n ?_ | refine jumpW_x ?_ | refine blockW_g ?_ | refine thenW_n ?_ | refine blockW_n ?_ | refine blockW_x ?_ | refine blockW_y (by decide) ?_ | refine blockW_r ?_ | refine thenW_e (by simp; done) ?_ | refine WO_nil_i ?_ | refine WT_nil_i ?_) | (with_reducible apply W_cond_t; (case h => (simp [t0, t1, t5, qi, qj, i1, i2, e43, w1]; done))) | (with_reducible apply W_cond_f; (case h => (simp [t0, t1, t5, qi, qj, i1, i2, e43, w1]; done))) | ((with_reducible first | apply WO_val_i | apply WT_val_i); (case hw => (simp [t0, t1, t5, qi, qj, i1, i2, e43, w1]; done)); (case he => (simp [t0, t1, t5, qi, qj, i1, i2, e43, w1]; first | done | exact ⟨rfl, rfl⟩ | rfl)); (case hp => (simp [t0, t1, t5, qi, qj, i1, i2, e43, w1]; first | done | rfl))) | ((with_reducible first | apply WO_no_i | apply WT_no_i); (case hw => (simp [t0, t1, t5, qi, qj, i1, i2, e43, w1]; done)); (case hp => (simp [t0, t1, t5, qi, qj, i1, i2, e43, w1]; first | done | rfl))) | ((with_reducible first | apply WO_skip_i | apply WT_skip_i); (case hw => (simp [t0, t1, t5, qi, qj, i1, i2, e43, w1]; done)); (case he => (simp [t0, t1, t5, qi, qj, i1, i2, e43, w1]; first | done | rfl)); (case hp => (simp [t0, t1, t5, qi, qj, i1, i2, e43, w1]; first | done | rfl))) | ((with_reducible first | apply WO_call_i | apply WT_call_i); (case hw => (simp [t0, t1, t5, qi, qj, i1, i2, e43, w1]; done)); (case he => (simp [t0, t1, t5, qi, qj, i1, i2, e43, w1]; first | done | exact ⟨rfl, rfl, rfl⟩ | rfl))))
      refine ⟨_, ?_, _, _, i + 1, rfl, rfl, by omega, by simp [t0], by simp [t1], by simp, ?_, he.drew⟩
      · omega
      · rw [List.take_succ_eq_append_getElem qi, List.take_succ_eq_append_getElem qj, htk, of_decide_eq_true qe]
  · have hie : i = xs.length := by omega
    have qn : ¬ (i < xs.length) := qi
    repeat (first | (with_reducible first | refine W_seq_i ?_ | refine W_block_i ?_ | refine W_region_i ?_ | refine W_skip_i ?_ | refine W_label_i ?_ | refine W_ret_i ?_ | refine W_exit_i ?_ | refine W_goto_i ?_ | refine W_scope_go ?_ | refine jumpW_r ?_ | refine jumpW_n ?_ | refine jumpW_x ?_ | refine blockW_g ?_ | refine thenW_n ?_ | refine blockW_n ?_ | refine blockW_x ?_ | refine blockW_y (by decide) ?_ | refine blockW_r ?_ | refine thenW_e (by simp; done) ?_ | refine WO_nil_i ?_ | refine WT_nil_i ?_) | (with_reducible apply W_cond_t; (case h => (simp [t0, t1, t5, qi, qn, l1, l2, n1, n2]; done))) | (with_reducible apply W_cond_f; (case h => (simp [t0, t1, t5, qi, qn, l1, l2, n1, n2]; done))) | ((with_reducible first | apply WO_val_i | apply WT_val_i); (case hw => (simp [t0, t1, t5, qi, qn, l1, l2, n1, n2]; done)); (case he => (simp [t0, t1, t5, qi, qn, l1, l2, n1, n2]; first | done | exact ⟨rfl, rfl⟩ | rfl)); (case hp => (simp [t0, t1, t5, qi, qn, l1, l2, n1, n2]; first | done | rfl))) | ((with_reducible first | apply WO_no_i | apply WT_no_i); (case hw => (simp [t0, t1, t5, qi, qn, l1, l2, n1, n2]; done)); (case hp => (simp [t0, t1, t5, qi, qn, l1, l2, n1, n2]; first | done | rfl))) | ((with_reducible first | apply WO_skip_i | apply WT_skip_i); (case hw => (simp [t0, t1, t5, qi, qn, l1, l2, n1, n2]; done)); (case he => (simp [t0, t1, t5, qi, qn, l1, l2, n1, n2]; first | done | rfl)); (case hp => (simp [t0, t1, t5, qi, qn, l1, l2, n1, n2]; first | done | rfl))) | ((with_reducible first | apply WO_call_i | apply WT_call_i); (case hw => (simp [t0, t1, t5, qi, qn, l1, l2, n1, n2]; done)); (case he => (simp [t0, t1, t5, qi, qn, l1, l2, n1, n2]; first | done | exact ⟨rfl, rfl, rfl⟩ | rfl))))
    (first | apply endW_r | apply endW_n); (case h1 => (simp [Try.results16]; first | done | rfl))
    have : xs = ys := by
      rw [hie, List.take_length] at htk
      rw [q, List.take_length] at htk
      exact htk
    exact ⟨by simp [this], he⟩
end Go.Vn

/- The law of putting one thing where it belongs. -/
namespace Go.Vn
theorem sorted_append {E : Type} {c : E → E → Int} : ∀ (l m : List E), Sorted c l → Sorted c m → (∀ a ∈ l, ∀ b ∈ m, c a b ≤ 0) → Sorted c (l ++ m)
  | [], m, _, hm, _ => hm
  | a :: l, m, hl, hm, h => by
    refine ⟨fun b hb => ?_, sorted_append l m hl.2 hm fun x hx => h x (List.mem_cons_of_mem _ hx)⟩
    rcases List.mem_append.mp hb with q | q
    · exact hl.1 b q
    · exact h a (List.mem_cons_self ..) b q
theorem sorted_split {E : Type} {c : E → E → Int} : ∀ (l m : List E), Sorted c (l ++ m) → Sorted c l ∧ Sorted c m ∧ ∀ a ∈ l, ∀ b ∈ m, c a b ≤ 0
  | [], m, h => ⟨trivial, h, fun a ha => by cases ha⟩
  | a :: l, m, h => by
    obtain ⟨h1, h2, h3⟩ := sorted_split l m h.2
    refine ⟨⟨fun b hb => h.1 b (List.mem_append_left _ hb), h1⟩, h2, fun x hx b hb => ?_⟩
    rcases List.mem_cons.mp hx with q | q
    · subst q; exact h.1 b (List.mem_append_right _ hb)
    · exact h3 x q b hb
theorem sorted_last {E : Type} {c : E → E → Int} (k : CmpOk c) {l : List E} (h : Sorted c l) (hn : l ≠ []) : ∀ a ∈ l, c a (l.getLast hn) ≤ 0 := by
  intro a ha
  have e := List.dropLast_concat_getLast hn
  rw [← e] at h ha
  obtain ⟨_, _, h3⟩ := sorted_split _ _ h
  rcases List.mem_append.mp ha with q | q
  · exact h3 a q _ (List.mem_singleton.mpr rfl)
  · rw [List.mem_singleton.mp q]
    have := k.anti (l.getLast hn) (l.getLast hn); omega

/-- before ++ behind is sorted; x belongs between them. -/
theorem put_in {E : Type} {c : E → E → Int} (k : CmpOk c) {l m : List E} {x : E} (h : Sorted c (l ++ m)) (hl : ∀ hn : l ≠ [], ¬ c x (l.getLast hn) < 0) (hm : ∀ b ∈ m, c x b < 0) :
    Sorted c (l ++ [x] ++ m) ∧ ∀ y, alike c y (l ++ [x] ++ m) = alike c y (l ++ m) ++ alike c y [x] := by
  obtain ⟨h1, h2, h3⟩ := sorted_split l m h
  have hlx : ∀ a ∈ l, c a x ≤ 0 := by
    intro a ha
    have hn : l ≠ [] := fun e => by subst e; cases ha
    have q := hl hn
    have := k.anti x (l.getLast hn)
    have := k.anti (l.getLast hn) x
    exact k.tr _ _ _ (sorted_last k h1 hn a ha) (by omega)
  refine ⟨?_, fun y => ?_⟩
  · rw [List.append_assoc]
    refine sorted_append l _ h1 ⟨fun b hb => by have := hm b (by simpa using hb); omega, by simpa using h2⟩ fun a ha b hb => ?_
    rcases List.mem_cons.mp (by simpa using hb : b ∈ x :: m) with q | q
    · subst q; exact hlx a ha
    · exact h3 a ha b q
  · simp only [alike, List.filter_append, List.append_assoc]
    congr 1
    by_cases q : c x y = 0
    · have : List.filter (fun z => decide (c z y = 0)) m = [] := by
        rw [List.filter_eq_nil_iff]
        intro b hb hz
        have hz' : c b y = 0 := of_decide_eq_true hz
        have := hm b hb
        have := k.tz x y b q ((k.zero _ _).mp hz')
        omega
      rw [this]; simp
    · simp [q]
end Go.Vn

set_option maxRecDepth 20000
namespace Go.Vn
open Go.Proofs

theorem SV.drop {P : Program} {t e : TypeId} {sz : Nat} {xs : List AV} {v : AV} (h : SV sz xs v) (hu : P.underlying t = some (.slice e)) (hs : tsize P e = some sz) {k : IntKind} {i : Int} (h0 : 0 ≤ i) (h1 : i ≤ xs.length) :
    ∃ r, sliceAV P t v (some (.int k i)) none none = some r ∧ SV sz (xs.drop i.toNat) r := by
  rcases h with ⟨rfl, rfl⟩ | ⟨g, off, cp, rfl⟩ | ⟨c, rfl, rfl⟩
  · have : i = 0 := by simp at h1; omega
    subst this
    exact ⟨.nils, by simp [sliceAV, hu, hs, obound, bound], .inl ⟨rfl, by simp⟩⟩
  · have hz : (0 : Int) ≤ xs.length := by omega
    refine ⟨.sl g (off + i.toNat) sz (cp - i.toNat) ((xs.drop i.toNat).take (xs.length - i.toNat)), by simp [sliceAV, hu, hs, obound, bound, h0, h1, hz], .inr (.inl ⟨g, off + i.toNat, cp - i.toNat, ?_⟩)⟩
    rw [List.take_of_length_le (by simp)]
  · have : i = 0 := by simp at h1; omega
    subst this
    exact ⟨.esl c, by simp [sliceAV, hu, hs, obound, bound], .inr (.inr ⟨c, rfl, by simp⟩)⟩

theorem sorted_ans (xs : List Ver) (v : AV) (hv : SV 8 (xs.map encV) v) (hl : xs.length ≤ 1000000) (h0 : Hp Fm) (hp0 : h0.pol 43 = false) :
    A Try.prog TT (.func 20) [v] h0 (fun r h' => ∃ out, Sorted cmpV out ∧ (∀ x, alike cmpV x out = alike cmpV x xs) ∧ out.length = xs.length ∧ SV 8 (out.map encV) r ∧ HE h0 h') := by
  have l1 := hv.len Try.underlying34
  rw [List.length_map] at l1
  have n1 := hv.nm
  apply A_go Try.func20 rfl (by rfl); (case hn => (simp [Try.ntmps20]; rfl))
  repeat (first | (with_reducible first | refine W_seq_i ?_ | refine W_block_i ?_ | refine W_region_i ?_ | refine W_skip_i ?_ | refine W_label_i ?_ | refine W_ret_i ?_ | refine W_exit_i ?_ | refine W_goto_i ?_ | refine W_scope_go ?_ | refine jumpW_r ?_ | refine jumpW_n ?_ | refine jumpW_x ?_ | refine blockW_g ?_ | refine thenW_n ?_ | refine blockW_n ?_ | refine blockW_x ?_ | refine blockW_y (by decide) ?_ | refine blockW_r ?_ | refine thenW_e (by simp; done) ?_ | refine WO_nil_i ?_ | refine WT_nil_i ?_) | (with_reducible apply W_cond_t; (case h => (simp; done))) | (with_reducible apply W_cond_f; (case h => (simp; done))) | ((with_reducible first | apply WO_val_i | apply WT_val_i); (case hw => (simp; done)); (case he => (simp; first | done | exact ⟨rfl, rfl⟩ | rfl)); (case hp => (simp; first | done | rfl))) | ((with_reducible first | apply WO_no_i | apply WT_no_i); (case hw => (simp; done)); (case hp => (simp; first | done | rfl))) | ((with_reducible first | apply WO_skip_i | apply WT_skip_i); (case hw => (simp; done)); (case he => (simp; first | done | rfl)); (case hp => (simp; first | done | rfl))) | ((with_reducible first | apply WO_call_i | apply WT_call_i); (case hw => (simp; done)); (case he => (simp; first | done | exact ⟨rfl, rfl, rfl⟩ | rfl))))
  refine W_loop (fun m s => ∃ (t : Fm AV) (h : Hp Fm) (i : Nat) (out : List Ver) (o : AV), s = ⟨t, 49, h, none⟩ ∧ m = xs.length - i ∧ i ≤ xs.length ∧ out.length = i ∧ tget t 0 = v ∧ tget t 3 = o ∧ tget t 4 = .int .i64 i ∧ SV 8 (out.map encV) o ∧ Sorted cmpV out ∧ (∀ x, alike cmpV x out = alike cmpV x (xs.take i)) ∧ HE h0 h) xs.length
    ⟨_, _, 0, [], .nils, rfl, rfl, Nat.zero_le _, rfl, by simp, by simp, by simp, .inl ⟨rfl, rfl⟩, trivial, by simp, HE.refl _⟩ ?_
  rintro m s ⟨t, h, i, out, o, rfl, rfl, hi, hol, t0, t3, t4, ho, hso, hal, he⟩
  have l2 := ho.len Try.underlying34
  rw [List.length_map, hol] at l2
  have n2 := ho.nm
  by_cases qi : i < xs.length
  case neg =>
    have hie : i = xs.length := by omega
    have qn : ¬ (i < xs.length) := qi
    repeat (first | (with_reducible first | refine W_seq_i ?_ | refine W_block_i ?_ | refine W_region_i ?_ | refine W_skip_i ?_ | refine W_label_i ?_ | refine W_ret_i ?_ | refine W_exit_i ?_ | refine W_goto_i ?_ | refine W_scope_go ?_ | refine jumpW_r ?_ | refine jumpW_n ?_ | refine jumpW_x ?_ | refine blockW_g ?_ | refine thenW_n ?_ | refine blockW_n ?_ | refine blockW_x ?_ | refine blockW_y (by decide) ?_ | refine blockW_r ?_ | refine thenW_e (by simp; done) ?_ | refine WO_nil_i ?_ | refine WT_nil_i ?_) | (with_reducible apply W_cond_t; (case h => (simp [t0, t3, t4, qi, qn, l1, l2, n1, n2]; done))) | (with_reducible apply W_cond_f; (case h => (simp [t0, t3, t4, qi, qn, l1, l2, n1, n2]; done))) | ((with_reducible first | apply WO_val_i | apply WT_val_i); (case hw => (simp [t0, t3, t4, qi, qn, l1, l2, n1, n2]; done)); (case he => (simp [t0, t3, t4, qi, qn, l1, l2, n1, n2]; first | done | exact ⟨rfl, rfl⟩ | rfl)); (case hp => (simp [t0, t3, t4, qi, qn, l1, l2, n1, n2]; first | done | rfl))) | ((with_reducible first | apply WO_no_i | apply WT_no_i); (case hw => (simp [t0, t3, t4, qi, qn, l1, l2, n1, n2]; done)); (case hp => (simp [t0, t3, t4, qi, qn, l1, l2, n1, n2]; first | done | rfl))) | ((with_reducible first | apply WO_skip_i | apply WT_skip_i); (case hw => (simp [t0, t3, t4, qi, qn, l1, l2, n1, n2]; done)); (case he => (simp [t0, t3, t4, qi, qn, l1, l2, n1, n2]; first | done | rfl)); (case hp => (simp [t0, t3, t4, qi, qn, l1, l2, n1, n2]; first | done | rfl))) | ((with_reducible first | apply WO_call_i | apply WT_call_i); (case hw => (simp [t0, t3, t4, qi, qn, l1, l2, n1, n2]; done)); (case he => (simp [t0, t3, t4, qi, qn, l1, l2, n1, n2]; first | done | exact ⟨rfl, rfl, rfl⟩ | rfl))))
    (first | apply endW_r | apply endW_n); (case h1 => (simp [Try.results20]; first | done | rfl))
    refine ⟨out, hso, ?_, by omega, by simpa using ho, he⟩
    intro x; rw [hal x, hie, List.take_length]
  have i1 := hv.idx Try.underlying34 z43 (k := .i64) (i := i) (by simp) (by simpa using qi)
  simp only [List.getElem_map, Int.toNat_natCast] at i1
  repeat (first | (with_reducible first | refine W_seq_i ?_ | refine W_block_i ?_ | refine W_region_i ?_ | refine W_skip_i ?_ | refine W_label_i ?_ | refine W_ret_i ?_ | refine W_exit_i ?_ | refine W_goto_i ?_ | refine W_scope_go ?_ | refine jumpW_r ?_ | refine jumpW_n ?_ | refine jumpW_x ?_ | refine blockW_g ?_ | refine thenW_n ?_ | refine blockW_n ?_ | refine blockW_x ?_ | refine blockW_y (by decide) ?_ | refine blockW_r ?_ | refine thenW_e (by simp; done) ?_ | refine WO_nil_i ?_ | refine WT_nil_i ?_) | (with_reducible apply W_cond_t; (case h => (simp [t0, t3, t4, qi, l1, l2, n1, n2]; done))) | (with_reducible apply W_cond_f; (case h => (simp [t0, t3, t4, qi, l1, l2, n1, n2]; done))) | ((with_reducible first | apply WO_val_i | apply WT_val_i); (case hw => (simp [t0, t3, t4, qi, l1, l2, n1, n2]; done)); (case he => (simp [t0, t3, t4, qi, l1, l2, n1, n2]; first | done | exact ⟨rfl, rfl⟩ | rfl)); (case hp => (simp [t0, t3, t4, qi, l1, l2, n1, n2]; first | done | rfl))) | ((with_reducible first | apply WO_no_i | apply WT_no_i); (case hw => (simp [t0, t3, t4, qi, l1, l2, n1, n2]; done)); (case hp => (simp [t0, t3, t4, qi, l1, l2, n1, n2]; first | done | rfl))) | ((with_reducible first | apply WO_skip_i | apply WT_skip_i); (case hw => (simp [t0, t3, t4, qi, l1, l2, n1, n2]; done)); (case he => (simp [t0, t3, t4, qi, l1, l2, n1, n2]; first | done | rfl)); (case hp => (simp [t0, t3, t4, qi, l1, l2, n1, n2]; first | done | rfl))) | ((with_reducible first | apply WO_call_i | apply WT_call_i); (case hw => (simp [t0, t3, t4, qi, l1, l2, n1, n2]; done)); (case he => (simp [t0, t3, t4, qi, l1, l2, n1, n2]; first | done | exact ⟨rfl, rfl, rfl⟩ | rfl))))
  refine W_loop (fun p s => ∃ (t : Fm AV) (h : Hp Fm), s = ⟨t, 49, h, none⟩ ∧ p ≤ i ∧ tget t 0 = v ∧ tget t 3 = o ∧ tget t 4 = .int .i64 i ∧ tget t 5 = .int .i64 p ∧ (∀ b ∈ out.drop p, cmpV xs[i] b < 0) ∧ HE h0 h) i
    ⟨_, _, rfl, Nat.le_refl _, by simp [t0], by simp [t3], by simp [t4], by simp, by simp [List.drop_eq_nil_of_le (show out.length ≤ i by omega)], he⟩ ?_
  clear t0 t3 t4 he t h
  rintro p s ⟨t, h, rfl, hp, t0, t3, t4, t5, hlt, he⟩
  have w1 : IntKind.i64.wrap ((i : Int) + 1) = ((i + 1 : Nat) : Int) := by rw [wrap64 (by omega) (by omega)]; simp
  obtain ⟨r1, s1, v1⟩ := ho.take Try.underlying34 z43 (k := .i64) (i := p) (by omega) (by rw [List.length_map]; omega)
  obtain ⟨r2, s2, v2⟩ := ho.drop Try.underlying34 z43 (k := .i64) (i := p) (by omega) (by rw [List.length_map]; omega)
  rw [Int.toNat_natCast, ← List.map_take] at v1
  rw [Int.toNat_natCast, ← List.map_drop] at v2
  have c1 := v1.cells
  have d1 := v1.isCell
  have c2 := v2.cells
  have d2 := v2.isCell
  have tail (hz : ∀ hn : out.take p ≠ [], ¬ cmpV xs[i] ((out.take p).getLast hn) < 0) :
      Sorted cmpV (out.take p ++ [xs[i]] ++ out.drop p) ∧ (∀ x, alike cmpV x (out.take p ++ [xs[i]] ++ out.drop p) = alike cmpV x (xs.take (i + 1))) ∧ (out.take p ++ [xs[i]] ++ out.drop p).length = i + 1 := by
    obtain ⟨a1, a2⟩ := put_in cmpV_ok (l := out.take p) (m := out.drop p) (x := xs[i]) (by rw [List.take_append_drop]; exact hso) hz hlt
    refine ⟨a1, fun x => ?_, by simp; omega⟩
    rw [a2 x, List.take_append_drop, hal x, List.take_succ_eq_append_getElem qi]
    unfold alike; rw [List.filter_append]
  by_cases qp : 0 < p
  case neg =>
    have qz : ¬ (0 < p) := qp
    have hz : ∀ hn : out.take p ≠ [], ¬ cmpV xs[i] ((out.take p).getLast hn) < 0 := fun hn => absurd (show out.take p = [] by rw [show p = 0 by omega]; rfl) hn
    obtain ⟨k1, k2, k3⟩ := tail hz
    repeat (first | (with_reducible first | refine W_seq_i ?_ | refine W_block_i ?_ | refine W_region_i ?_ | refine W_skip_i ?_ | refine W_label_i ?_ | refine W_ret_i ?_ | refine W_exit_i ?_ | refine W_goto_i ?_ | refine W_scope_go ?_ | refine jumpW_r ?_ | refine jumpW_n ?_ | refine jumpW_x ?_ | refine blockW_g ?_ | refine thenW_n ?_ | refine blockW_n ?_ | refine blockW_x ?_ | refine blockW_y (by decide) ?_ | refine blockW_r ?_ | refine thenW_e (by simp; done) ?_ | refine WO_nil_i ?_ | refine WT_nil_i ?_) | (with_reducible apply W_cond_t; (case h => (simp [t0, t3, t4, t5, qp, qz, l1, l2, n1, n2]; done))) | (with_reducible apply W_cond_f; (case h => (simp [t0, t3, t4, t5, qp, qz, l1, l2, n1, n2]; done))) | ((with_reducible first | apply WO_val_i | apply WT_val_i); (case hw => (simp [t0, t3, t4, t5, qp, qz, l1, l2, n1, n2]; done)); (case he => (simp [t0, t3, t4, t5, qp, qz, l1, l2, n1, n2]; first | done | exact ⟨rfl, rfl⟩ | rfl)); (case hp => (simp [t0, t3, t4, t5, qp, qz, l1, l2, n1, n2]; first | done | rfl))) | ((with_reducible first | apply WO_no_i | apply WT_no_i); (case hw => (simp [t0, t3, t4, t5, qp, qz, l1, l2, n1, n2]; done)); (case hp => (simp [t0, t3, t4, t5, qp, qz, l1, l2, n1, n2]; first | done | rfl))) | ((with_reducible first | apply WO_skip_i | apply WT_skip_i); (case hw => (simp [t0, t3, t4, t5, qp, qz, l1, l2, n1, n2]; done)); (case he => (simp [t0, t3, t4, t5, qp, qz, l1, l2, n1, n2]; first | done | rfl)); (case hp => (simp [t0, t3, t4, t5, qp, qz, l1, l2, n1, n2]; first | done | rfl))) | ((with_reducible first | apply WO_call_i | apply WT_call_i); (case hw => (simp [t0, t3, t4, t5, qp, qz, l1, l2, n1, n2]; done)); (case he => (simp [t0, t3, t4, t5, qp, qz, l1, l2, n1, n2]; first | done | exact ⟨rfl, rfl, rfl⟩ | rfl))))
    (with_reducible refine W_draw_id (pln := true) [0, 1, 2, 3, 4, 5, 6, 7, 8, 9, 10, 11, 12, 13] [(6, (6, [])), (11, (11, []))] (by kernel_rfl) rfl ?_)
    repeat (first | (with_reducible first | refine W_seq_i ?_ | refine W_block_i ?_ | refine W_region_i ?_ | refine W_skip_i ?_ | refine W_label_i ?_ | refine W_ret_i ?_ | refine W_exit_i ?_ | refine W_goto_i ?_ | refine W_scope_go ?_ | refine jumpW_r ?_ | refine jumpW_n ?_ | refine jumpW_x ?_ | refine blockW_g ?_ | refine thenW_n ?_ | refine blockW_n ?_ | refine blockW_x ?_ | refine blockW_y (by decide) ?_ | refine blockW_r ?_ | refine thenW_e (by simp; done) ?_ | refine WO_nil_i ?_ | refine WT_nil_i ?_) | (with_reducible apply W_cond_t; (case h => (simp [t0, t3, t4, t5, qp, qz, l1, l2, n1, n2]; done))) | (with_reducible apply W_cond_f; (case h => (simp [t0, t3, t4, t5, qp, qz, l1, l2, n1, n2]; done))) | ((with_reducible first | apply WO_val_i | apply WT_val_i); (case hw => (simp [t0, t3, t4, t5, qp, qz, l1, l2, n1, n2]; done)); (case he => (simp [t0, t3, t4, t5, qp, qz, l1, l2, n1, n2]; first | done | exact ⟨rfl, rfl⟩ | rfl)); (case hp => (simp [t0, t3, t4, t5, qp, qz, l1, l2, n1, n2]; first | done | rfl))) | ((with_reducible first | apply WO_no_i | apply WT_no_i); (case hw => (simp [t0, t3, t4, t5, qp, qz, l1, l2, n1, n2]; done)); (case hp => (simp [t0, t3, t4, t5, qp, qz, l1, l2, n1, n2]; first | done | rfl))) | ((with_reducible first | apply WO_skip_i | apply WT_skip_i); (case hw => (simp [t0, t3, t4, t5, qp, qz, l1, l2, n1, n2]; done)); (case he => (simp [t0, t3, t4, t5, qp, qz, l1, l2, n1, n2]; first | done | rfl)); (case hp => (simp [t0, t3, t4, t5, qp, qz, l1, l2, n1, n2]; first | done | rfl))) | ((with_reducible first | apply WO_call_i | apply WT_call_i); (case hw => (simp [t0, t3, t4, t5, qp, qz, l1, l2, n1, n2]; done)); (case he => (simp [t0, t3, t4, t5, qp, qz, l1, l2, n1, n2]; first | done | exact ⟨rfl, rfl, rfl⟩ | rfl))))
    refine ⟨by simp [readSame, beqAV_self, t0]; done, _, by simp; first | done | rfl, ?_⟩
    repeat (first | (with_reducible first | refine W_seq_i ?_ | refine W_block_i ?_ | refine W_region_i ?_ | refine W_skip_i ?_ | refine W_label_i ?_ | refine W_ret_i ?_ | refine W_exit_i ?_ | refine W_goto_i ?_ | refine W_scope_go ?_ | refine jumpW_r ?_ | refine jumpW_n ?_ | refine jumpW_x ?_ | refine blockW_g ?_ | refine thenW_n ?_ | refine blockW_n ?_ | refine blockW_x ?_ | refine blockW_y (by decide) ?_ | refine blockW_r ?_ | refine thenW_e (by simp; done) ?_ | refine WO_nil_i ?_ | refine WT_nil_i ?_) | (with_reducible apply W_cond_t; (case h => (simp [t0, t3, t4, t5, qp, qz, l1, l2, n1, n2, s1, c1, d1]; done))) | (with_reducible apply W_cond_f; (case h => (simp [t0, t3, t4, t5, qp, qz, l1, l2, n1, n2, s1, c1, d1]; done))) | ((with_reducible first | apply WO_val_i | apply WT_val_i); (case hw => (simp [t0, t3, t4, t5, qp, qz, l1, l2, n1, n2, s1, c1, d1]; done)); (case he => (simp [t0, t3, t4, t5, qp, qz, l1, l2, n1, n2, s1, c1, d1]; first | done | exact ⟨rfl, rfl⟩ | rfl)); (case hp => (simp [t0, t3, t4, t5, qp, qz, l1, l2, n1, n2, s1, c1, d1]; first | done | rfl))) | ((with_reducible first | apply WO_no_i | apply WT_no_i); (case hw => (simp [t0, t3, t4, t5, qp, qz, l1, l2, n1, n2, s1, c1, d1]; done)); (case hp => (simp [t0, t3, t4, t5, qp, qz, l1, l2, n1, n2, s1, c1, d1]; first | done | rfl))) | ((with_reducible first | apply WO_skip_i | apply WT_skip_i); (case hw => (simp [t0, t3, t4, t5, qp, qz, l1, l2, n1, n2, s1, c1, d1]; done)); (case he => (simp [t0, t3, t4, t5, qp, qz, l1, l2, n1, n2, s1, c1, d1]; first | done | rfl)); (case hp => (simp [t0, t3, t4, t5, qp, qz, l1, l2, n1, n2, s1, c1, d1]; first | done | rfl))) | ((with_reducible first | apply WO_call_i | apply WT_call_i); (case hw => (simp [t0, t3, t4, t5, qp, qz, l1, l2, n1, n2, s1, c1, d1]; done)); (case he => (simp [t0, t3, t4, t5, qp, qz, l1, l2, n1, n2, s1, c1, d1]; first | done | exact ⟨rfl, rfl, rfl⟩ | rfl))))
    with_reducible apply WO_app_i; (case hw => (simp [t0, t3, t4, t5, s1, c1, d1]; done)); (case ho => rfl); (case hb => rfl); (case ha => (simp [t0, t3, t4, t5, s1, c1, d1]; first | done | exact ⟨rfl, rfl⟩ | rfl)); (case h1 => (simp; first | done | rfl)); (case h2 => (simp; first | done | rfl))
    refine app_then (AC.appN (h0 := h0) etl_ver (.inl ⟨rfl, rfl⟩) he.drew hp0 (SV.newEls v1) (by rw [List.length_map, List.length_take]; simp; omega)) ?_
    rintro w2 h2 ⟨ac2, he2, _, _, _⟩
    have e2 := ac2.sv.cells
    have f2 := ac2.sv.isCell
    have p2 : h2.pol 43 = false := by rw [he2.pol]; exact hp0
    refine ⟨_, by simp; first | done | rfl, ?_⟩
    repeat (first | (with_reducible first | refine W_seq_i ?_ | refine W_block_i ?_ | refine W_region_i ?_ | refine W_skip_i ?_ | refine W_label_i ?_ | refine W_ret_i ?_ | refine W_exit_i ?_ | refine W_goto_i ?_ | refine W_scope_go ?_ | refine jumpW_r ?_ | refine jumpW_n ?_ | refine jumpW_x ?_ | refine blockW_g ?_ | refine thenW_n ?_ | refine blockW_n ?_ | refine blockW_x ?_ | refine blockW_y (by decide) ?_ | refine blockW_r ?_ | refine thenW_e (by simp; done) ?_ | refine WO_nil_i ?_ | refine WT_nil_i ?_) | (with_reducible apply W_cond_t; (case h => (simp [t0, t3, t4, t5, i1, e2, f2, newSeq, newSl, p2]; done))) | (with_reducible apply W_cond_f; (case h => (simp [t0, t3, t4, t5, i1, e2, f2, newSeq, newSl, p2]; done))) | ((with_reducible first | apply WO_val_i | apply WT_val_i); (case hw => (simp [t0, t3, t4, t5, i1, e2, f2, newSeq, newSl, p2]; done)); (case he => (simp [t0, t3, t4, t5, i1, e2, f2, newSeq, newSl, p2]; first | done | exact ⟨rfl, rfl⟩ | rfl)); (case hp => (simp [t0, t3, t4, t5, i1, e2, f2, newSeq, newSl, p2]; first | done | rfl))) | ((with_reducible first | apply WO_no_i | apply WT_no_i); (case hw => (simp [t0, t3, t4, t5, i1, e2, f2, newSeq, newSl, p2]; done)); (case hp => (simp [t0, t3, t4, t5, i1, e2, f2, newSeq, newSl, p2]; first | done | rfl))) | ((with_reducible first | apply WO_skip_i | apply WT_skip_i); (case hw => (simp [t0, t3, t4, t5, i1, e2, f2, newSeq, newSl, p2]; done)); (case he => (simp [t0, t3, t4, t5, i1, e2, f2, newSeq, newSl, p2]; first | done | rfl)); (case hp => (simp [t0, t3, t4, t5, i1, e2, f2, newSeq, newSl, p2]; first | done | rfl))) | ((with_reducible first | apply WO_call_i | apply WT_call_i); (case hw => (simp [t0, t3, t4, t5, i1, e2, f2, newSeq, newSl, p2]; done)); (case he => (simp [t0, t3, t4, t5, i1, e2, f2, newSeq, newSl, p2]; first | done | exact ⟨rfl, rfl, rfl⟩ | rfl))))
    with_reducible apply WO_app_i; (case hw => (simp [t0, t3, t4, t5, i1, e2, f2, newSeq, newSl, p2]; done)); (case ho => rfl); (case hb => rfl); (case ha => (simp [t0, t3, t4, t5, i1, e2, f2, newSeq, newSl, p2]; first | done | exact ⟨rfl, rfl⟩ | rfl)); (case h1 => (simp; first | done | rfl)); (case h2 => (simp; first | done | rfl))
    refine app_then (AC.app (h0 := h0) etl_ver (ac2.of ((HE.refl _).newSl 1)) (he2.newSl 1) hp0 (by simp; omega)) ?_
    rintro w3 h3 ⟨ac3, he3, _, _, _⟩
    have e3 := ac3.sv.cells
    have f3 := ac3.sv.isCell
    refine ⟨_, by simp; first | done | rfl, ?_⟩
    repeat (first | (with_reducible first | refine W_seq_i ?_ | refine W_block_i ?_ | refine W_region_i ?_ | refine W_skip_i ?_ | refine W_label_i ?_ | refine W_ret_i ?_ | refine W_exit_i ?_ | refine W_goto_i ?_ | refine W_scope_go ?_ | refine jumpW_r ?_ | refine jumpW_n ?_ | refine jumpW_x ?_ | refine blockW_g ?_ | refine thenW_n ?_ | refine blockW_n ?_ | refine blockW_x ?_ | refine blockW_y (by decide) ?_ | refine blockW_r ?_ | refine thenW_e (by simp; done) ?_ | refine WO_nil_i ?_ | refine WT_nil_i ?_) | (with_reducible apply W_cond_t; (case h => (simp [t0, t3, t4, t5, e3, f3, s2, c2, d2]; done))) | (with_reducible apply W_cond_f; (case h => (simp [t0, t3, t4, t5, e3, f3, s2, c2, d2]; done))) | ((with_reducible first | apply WO_val_i | apply WT_val_i); (case hw => (simp [t0, t3, t4, t5, e3, f3, s2, c2, d2]; done)); (case he => (simp [t0, t3, t4, t5, e3, f3, s2, c2, d2]; first | done | exact ⟨rfl, rfl⟩ | rfl)); (case hp => (simp [t0, t3, t4, t5, e3, f3, s2, c2, d2]; first | done | rfl))) | ((with_reducible first | apply WO_no_i | apply WT_no_i); (case hw => (simp [t0, t3, t4, t5, e3, f3, s2, c2, d2]; done)); (case hp => (simp [t0, t3, t4, t5, e3, f3, s2, c2, d2]; first | done | rfl))) | ((with_reducible first | apply WO_skip_i | apply WT_skip_i); (case hw => (simp [t0, t3, t4, t5, e3, f3, s2, c2, d2]; done)); (case he => (simp [t0, t3, t4, t5, e3, f3, s2, c2, d2]; first | done | rfl)); (case hp => (simp [t0, t3, t4, t5, e3, f3, s2, c2, d2]; first | done | rfl))) | ((with_reducible first | apply WO_call_i | apply WT_call_i); (case hw => (simp [t0, t3, t4, t5, e3, f3, s2, c2, d2]; done)); (case he => (simp [t0, t3, t4, t5, e3, f3, s2, c2, d2]; first | done | exact ⟨rfl, rfl, rfl⟩ | rfl))))
    with_reducible apply WO_app_i; (case hw => (simp [t0, t3, t4, t5, e3, f3, s2, c2, d2]; done)); (case ho => rfl); (case hb => rfl); (case ha => (simp [t0, t3, t4, t5, e3, f3, s2, c2, d2]; first | done | exact ⟨rfl, rfl⟩ | rfl)); (case h1 => (simp; first | done | rfl)); (case h2 => (simp; first | done | rfl))
    refine app_then (AC.appN (h0 := h0) etl_ver ac3 he3 hp0 (SV.newEls v2) (by simp; omega)) ?_
    rintro w4 h4 ⟨ac4, he4, _, _, _⟩
    have e4 := ac4.sv.cells
    have f4 := ac4.sv.isCell
    refine ⟨_, by simp; first | done | rfl, ?_⟩
    repeat (first | (with_reducible first | refine W_seq_i ?_ | refine W_block_i ?_ | refine W_region_i ?_ | refine W_skip_i ?_ | refine W_label_i ?_ | refine W_ret_i ?_ | refine W_exit_i ?_ | refine W_goto_i ?_ | refine W_scope_go ?_ | refine jumpW_r ?_ | refine jumpW_n ?_ | refine jumpW_x ?_ | refine blockW_g ?_ | refine thenW_n ?_ | refine blockW_n ?_ | refine blockW_x ?_ | refine blockW_y (by decide) ?_ | refine blockW_r ?_ | refine thenW_e (by simp; done) ?_ | refine WO_nil_i ?_ | refine WT_nil_i ?_) | (with_reducible apply W_cond_t; (case h => (simp [t0, t3, t4, t5, e4, f4, w1]; done))) | (with_reducible apply W_cond_f; (case h => (simp [t0, t3, t4, t5, e4, f4, w1]; done))) | ((with_reducible first | apply WO_val_i | apply WT_val_i); (case hw => (simp [t0, t3, t4, t5, e4, f4, w1]; done)); (case he => (simp [t0, t3, t4, t5, e4, f4, w1]; first | done | exact ⟨rfl, rfl⟩ | rfl)); (case hp => (simp [t0, t3, t4, t5, e4, f4, w1]; first | done | rfl))) | ((with_reducible first | apply WO_no_i | apply WT_no_i); (case hw => (simp [t0, t3, t4, t5, e4, f4, w1]; done)); (case hp => (simp [t0, t3, t4, t5, e4, f4, w1]; first | done | rfl))) | ((with_reducible first | apply WO_skip_i | apply WT_skip_i); (case hw => (simp [t0, t3, t4, t5, e4, f4, w1]; done)); (case he => (simp [t0, t3, t4, t5, e4, f4, w1]; first | done | rfl)); (case hp => (simp [t0, t3, t4, t5, e4, f4, w1]; first | done | rfl))) | ((with_reducible first | apply WO_call_i | apply WT_call_i); (case hw => (simp [t0, t3, t4, t5, e4, f4, w1]; done)); (case he => (simp [t0, t3, t4, t5, e4, f4, w1]; first | done | exact ⟨rfl, rfl, rfl⟩ | rfl))))
    refine ⟨_, ?_, _, _, i + 1, _, _, rfl, rfl, by omega, k3, by simp [t0], rfl, by simp, ?_, k1, k2, he4⟩
    · omega
    · have := ac4.sv
      simpa using this
  have hop : p - 1 < out.length := by omega
  have i2 := ho.idx Try.underlying34 z43 (k := .i64) (i := (p - 1 : Nat)) (by omega) (by rw [List.length_map]; omega)
  simp only [List.getElem_map, Int.toNat_natCast] at i2
  have w2 : IntKind.i64.wrap ((p : Int) - 1) = ((p - 1 : Nat) : Int) := by rw [wrap64 (by omega) (by omega)]; omega
  have hlast : ∀ hn : out.take p ≠ [], (out.take p).getLast hn = out[p - 1] := by
    intro hn
    rw [List.getLast_eq_getElem]
    simp only [List.length_take, show min p out.length = p by omega, List.getElem_take]
  repeat (first | (with_reducible first | refine W_seq_i ?_ | refine W_block_i ?_ | refine W_region_i ?_ | refine W_skip_i ?_ | refine W_label_i ?_ | refine W_ret_i ?_ | refine W_exit_i ?_ | refine W_goto_i ?_ | refine W_scope_go ?_ | refine jumpW_r ?_ | refine jumpW_n ?_ | refine jumpW_x ?_ | refine blockW_g ?_ | refine thenW_n ?_ | refine blockW_n ?_ | refine blockW_x ?_ | refine blockW_y (by decide) ?_ | refine blockW_r ?_ | refine thenW_e (by simp; done) ?_ | refine WO_nil_i ?_ | refine WT_nil_i ?_) | (with_reducible apply W_cond_t; (case h => (simp [t0, t3, t4, t5, qp, l1, l2, n1, n2]; done))) | (with_reducible apply W_cond_f; (case h => (simp [t0, t3, t4, t5, qp, l1, l2, n1, n2]; done))) | ((with_reducible first | apply WO_val_i | apply WT_val_i); (case hw => (simp [t0, t3, t4, t5, qp, l1, l2, n1, n2]; done)); (case he => (simp [t0, t3, t4, t5, qp, l1, l2, n1, n2]; first | done | exact ⟨rfl, rfl⟩ | rfl)); (case hp => (simp [t0, t3, t4, t5, qp, l1, l2, n1, n2]; first | done | rfl))) | ((with_reducible first | apply WO_no_i | apply WT_no_i); (case hw => (simp [t0, t3, t4, t5, qp, l1, l2, n1, n2]; done)); (case hp => (simp [t0, t3, t4, t5, qp, l1, l2, n1, n2]; first | done | rfl))) | ((with_reducible first | apply WO_skip_i | apply WT_skip_i); (case hw => (simp [t0, t3, t4, t5, qp, l1, l2, n1, n2]; done)); (case he => (simp [t0, t3, t4, t5, qp, l1, l2, n1, n2]; first | done | rfl)); (case hp => (simp [t0, t3, t4, t5, qp, l1, l2, n1, n2]; first | done | rfl))) | ((with_reducible first | apply WO_call_i | apply WT_call_i); (case hw => (simp [t0, t3, t4, t5, qp, l1, l2, n1, n2]; done)); (case he => (simp [t0, t3, t4, t5, qp, l1, l2, n1, n2]; first | done | exact ⟨rfl, rfl, rfl⟩ | rfl))))
  (with_reducible refine W_draw_id (pln := true) [0, 1, 2, 3, 4, 5, 6, 7, 8, 9, 10, 11, 12, 13] [(6, (6, [])), (11, (11, []))] (by kernel_rfl) rfl ?_)
  repeat (first | (with_reducible first | refine W_seq_i ?_ | refine W_block_i ?_ | refine W_region_i ?_ | refine W_skip_i ?_ | refine W_label_i ?_ | refine W_ret_i ?_ | refine W_exit_i ?_ | refine W_goto_i ?_ | refine W_scope_go ?_ | refine jumpW_r ?_ | refine jumpW_n ?_ | refine jumpW_x ?_ | refine blockW_g ?_ | refine thenW_n ?_ | refine blockW_n ?_ | refine blockW_x ?_ | refine blockW_y (by decide) ?_ | refine blockW_r ?_ | refine thenW_e (by simp; done) ?_ | refine WO_nil_i ?_ | refine WT_nil_i ?_) | (with_reducible apply W_cond_t; (case h => (simp [t0, t3, t4, t5, qp, l1, l2, n1, n2, i1, i2, w2]; done))) | (with_reducible apply W_cond_f; (case h => (simp [t0, t3, t4, t5, qp, l1, l2, n1, n2, i1, i2, w2]; done))) | ((with_reducible first | apply WO_val_i | apply WT_val_i); (case hw => (simp [t0, t3, t4, t5, qp, l1, l2, n1, n2, i1, i2, w2]; done)); (case he => (simp [t0, t3, t4, t5, qp, l1, l2, n1, n2, i1, i2, w2]; first | done | exact ⟨rfl, rfl⟩ | rfl)); (case hp => (simp [t0, t3, t4, t5, qp, l1, l2, n1, n2, i1, i2, w2]; first | done | rfl))) | ((with_reducible first | apply WO_no_i | apply WT_no_i); (case hw => (simp [t0, t3, t4, t5, qp, l1, l2, n1, n2, i1, i2, w2]; done)); (case hp => (simp [t0, t3, t4, t5, qp, l1, l2, n1, n2, i1, i2, w2]; first | done | rfl))) | ((with_reducible first | apply WO_skip_i | apply WT_skip_i); (case hw => (simp [t0, t3, t4, t5, qp, l1, l2, n1, n2, i1, i2, w2]; done)); (case he => (simp [t0, t3, t4, t5, qp, l1, l2, n1, n2, i1, i2, w2]; first | done | rfl)); (case hp => (simp [t0, t3, t4, t5, qp, l1, l2, n1, n2, i1, i2, w2]; first | done | rfl))) | ((with_reducible first | apply WO_call_i | apply WT_call_i); (case hw => (simp [t0, t3, t4, t5, qp, l1, l2, n1, n2, i1, i2, w2]; done)); (case he => (simp [t0, t3, t4, t5, qp, l1, l2, n1, n2, i1, i2, w2]; first | done | exact ⟨rfl, rfl, rfl⟩ | rfl))))
  refine A.mono (less_ans xs[i] out[p - 1] _) ?_
  rintro _ hh ⟨rfl, heh⟩
  refine ⟨_, by simp; first | done | rfl, ?_⟩
  by_cases ql : cmpV xs[i] out[p - 1] < 0
  case neg =>
    obtain ⟨k1, k2, k3⟩ := tail (fun hn => by rw [hlast hn]; exact ql)
    repeat (first | (with_reducible first | refine W_seq_i ?_ | refine W_block_i ?_ | refine W_region_i ?_ | refine W_skip_i ?_ | refine W_label_i ?_ | refine W_ret_i ?_ | refine W_exit_i ?_ | refine W_goto_i ?_ | refine W_scope_go ?_ | refine jumpW_r ?_ | refine jumpW_n ?_ | refine jumpW_x ?_ | refine blockW_g ?_ | refine thenW_n ?_ | refine blockW_n ?_ | refine blockW_x ?_ | refine blockW_y (by decide) ?_ | refine blockW_r ?_ | refine thenW_e (by simp; done) ?_ | refine WO_nil_i ?_ | refine WT_nil_i ?_) | (with_reducible apply W_cond_t; (case h => (simp [t0, t3, t4, t5, ql]; done))) | (with_reducible apply W_cond_f; (case h => (simp [t0, t3, t4, t5, ql]; done))) | ((with_reducible first | apply WO_val_i | apply WT_val_i); (case hw => (simp [t0, t3, t4, t5, ql]; done)); (case he => (simp [t0, t3, t4, t5, ql]; first | done | exact ⟨rfl, rfl⟩ | rfl)); (case hp => (simp [t0, t3, t4, t5, ql]; first | done | rfl))) | ((with_reducible first | apply WO_no_i | apply WT_no_i); (case hw => (simp [t0, t3, t4, t5, ql]; done)); (case hp => (simp [t0, t3, t4, t5, ql]; first | done | rfl))) | ((with_reducible first | apply WO_skip_i | apply WT_skip_i); (case hw => (simp [t0, t3, t4, t5, ql]; done)); (case he => (simp [t0, t3, t4, t5, ql]; first | done | rfl)); (case hp => (simp [t0, t3, t4, t5, ql]; first | done | rfl))) | ((with_reducible first | apply WO_call_i | apply WT_call_i); (case hw => (simp [t0, t3, t4, t5, ql]; done)); (case he => (simp [t0, t3, t4, t5, ql]; first | done | exact ⟨rfl, rfl, rfl⟩ | rfl))))
    refine ⟨by simp [readSame, beqAV_self, t0]; done, _, by simp; first | done | rfl, ?_⟩
    repeat (first | (with_reducible first | refine W_seq_i ?_ | refine W_block_i ?_ | refine W_region_i ?_ | refine W_skip_i ?_ | refine W_label_i ?_ | refine W_ret_i ?_ | refine W_exit_i ?_ | refine W_goto_i ?_ | refine W_scope_go ?_ | refine jumpW_r ?_ | refine jumpW_n ?_ | refine jumpW_x ?_ | refine blockW_g ?_ | refine thenW_n ?_ | refine blockW_n ?_ | refine blockW_x ?_ | refine blockW_y (by decide) ?_ | refine blockW_r ?_ | refine thenW_e (by simp; done) ?_ | refine WO_nil_i ?_ | refine WT_nil_i ?_) | (with_reducible apply W_cond_t; (case h => (simp [t0, t3, t4, t5, ql, s1, c1, d1]; done))) | (with_reducible apply W_cond_f; (case h => (simp [t0, t3, t4, t5, ql, s1, c1, d1]; done))) | ((with_reducible first | apply WO_val_i | apply WT_val_i); (case hw => (simp [t0, t3, t4, t5, ql, s1, c1, d1]; done)); (case he => (simp [t0, t3, t4, t5, ql, s1, c1, d1]; first | done | exact ⟨rfl, rfl⟩ | rfl)); (case hp => (simp [t0, t3, t4, t5, ql, s1, c1, d1]; first | done | rfl))) | ((with_reducible first | apply WO_no_i | apply WT_no_i); (case hw => (simp [t0, t3, t4, t5, ql, s1, c1, d1]; done)); (case hp => (simp [t0, t3, t4, t5, ql, s1, c1, d1]; first | done | rfl))) | ((with_reducible first | apply WO_skip_i | apply WT_skip_i); (case hw => (simp [t0, t3, t4, t5, ql, s1, c1, d1]; done)); (case he => (simp [t0, t3, t4, t5, ql, s1, c1, d1]; first | done | rfl)); (case hp => (simp [t0, t3, t4, t5, ql, s1, c1, d1]; first | done | rfl))) | ((with_reducible first | apply WO_call_i | apply WT_call_i); (case hw => (simp [t0, t3, t4, t5, ql, s1, c1, d1]; done)); (case he => (simp [t0, t3, t4, t5, ql, s1, c1, d1]; first | done | exact ⟨rfl, rfl, rfl⟩ | rfl))))
    with_reducible apply WO_app_i; (case hw => (simp [t0, t3, t4, t5, s1, c1, d1]; done)); (case ho => rfl); (case hb => rfl); (case ha => (simp [t0, t3, t4, t5, s1, c1, d1]; first | done | exact ⟨rfl, rfl⟩ | rfl)); (case h1 => (simp; first | done | rfl)); (case h2 => (simp; first | done | rfl))
    refine app_then (AC.appN (h0 := h0) etl_ver (.inl ⟨rfl, rfl⟩) (he.drew.trans heh) hp0 (SV.newEls v1) (by rw [List.length_map, List.length_take]; simp; omega)) ?_
    rintro w2 h2 ⟨ac2, he2, _, _, _⟩
    have e2 := ac2.sv.cells
    have f2 := ac2.sv.isCell
    have p2 : h2.pol 43 = false := by rw [he2.pol]; exact hp0
    refine ⟨_, by simp; first | done | rfl, ?_⟩
    repeat (first | (with_reducible first | refine W_seq_i ?_ | refine W_block_i ?_ | refine W_region_i ?_ | refine W_skip_i ?_ | refine W_label_i ?_ | refine W_ret_i ?_ | refine W_exit_i ?_ | refine W_goto_i ?_ | refine W_scope_go ?_ | refine jumpW_r ?_ | refine jumpW_n ?_ | refine jumpW_x ?_ | refine blockW_g ?_ | refine thenW_n ?_ | refine blockW_n ?_ | refine blockW_x ?_ | refine blockW_y (by decide) ?_ | refine blockW_r ?_ | refine thenW_e (by simp; done) ?_ | refine WO_nil_i ?_ | refine WT_nil_i ?_) | (with_reducible apply W_cond_t; (case h => (simp [t0, t3, t4, t5, i1, e2, f2, newSeq, newSl, p2]; done))) | (with_reducible apply W_cond_f; (case h => (simp [t0, t3, t4, t5, i1, e2, f2, newSeq, newSl, p2]; done))) | ((with_reducible first | apply WO_val_i | apply WT_val_i); (case hw => (simp [t0, t3, t4, t5, i1, e2, f2, newSeq, newSl, p2]; done)); (case he => (simp [t0, t3, t4, t5, i1, e2, f2, newSeq, newSl, p2]; first | done | exact ⟨rfl, rfl⟩ | rfl)); (case hp => (simp [t0, t3, t4, t5, i1, e2, f2, newSeq, newSl, p2]; first | done | rfl))) | ((with_reducible first | apply WO_no_i | apply WT_no_i); (case hw => (simp [t0, t3, t4, t5, i1, e2, f2, newSeq, newSl, p2]; done)); (case hp => (simp [t0, t3, t4, t5, i1, e2, f2, newSeq, newSl, p2]; first | done | rfl))) | ((with_reducible first | apply WO_skip_i | apply WT_skip_i); (case hw => (simp [t0, t3, t4, t5, i1, e2, f2, newSeq, newSl, p2]; done)); (case he => (simp [t0, t3, t4, t5, i1, e2, f2, newSeq, newSl, p2]; first | done | rfl)); (case hp => (simp [t0, t3, t4, t5, i1, e2, f2, newSeq, newSl, p2]; first | done | rfl))) | ((with_reducible first | apply WO_call_i | apply WT_call_i); (case hw => (simp [t0, t3, t4, t5, i1, e2, f2, newSeq, newSl, p2]; done)); (case he => (simp [t0, t3, t4, t5, i1, e2, f2, newSeq, newSl, p2]; first | done | exact ⟨rfl, rfl, rfl⟩ | rfl))))
    with_reducible apply WO_app_i; (case hw => (simp [t0, t3, t4, t5, i1, e2, f2, newSeq, newSl, p2]; done)); (case ho => rfl); (case hb => rfl); (case ha => (simp [t0, t3, t4, t5, i1, e2, f2, newSeq, newSl, p2]; first | done | exact ⟨rfl, rfl⟩ | rfl)); (case h1 => (simp; first | done | rfl)); (case h2 => (simp; first | done | rfl))
    refine app_then (AC.app (h0 := h0) etl_ver (ac2.of ((HE.refl _).newSl 1)) (he2.newSl 1) hp0 (by simp; omega)) ?_
    rintro w3 h3 ⟨ac3, he3, _, _, _⟩
    have e3 := ac3.sv.cells
    have f3 := ac3.sv.isCell
    refine ⟨_, by simp; first | done | rfl, ?_⟩
    repeat (first | (with_reducible first | refine W_seq_i ?_ | refine W_block_i ?_ | refine W_region_i ?_ | refine W_skip_i ?_ | refine W_label_i ?_ | refine W_ret_i ?_ | refine W_exit_i ?_ | refine W_goto_i ?_ | refine W_scope_go ?_ | refine jumpW_r ?_ | refine jumpW_n ?_ | refine jumpW_x ?_ | refine blockW_g ?_ | refine thenW_n ?_ | refine blockW_n ?_ | refine blockW_x ?_ | refine blockW_y (by decide) ?_ | refine blockW_r ?_ | refine thenW_e (by simp; done) ?_ | refine WO_nil_i ?_ | refine WT_nil_i ?_) | (with_reducible apply W_cond_t; (case h => (simp [t0, t3, t4, t5, e3, f3, s2, c2, d2]; done))) | (with_reducible apply W_cond_f; (case h => (simp [t0, t3, t4, t5, e3, f3, s2, c2, d2]; done))) | ((with_reducible first | apply WO_val_i | apply WT_val_i); (case hw => (simp [t0, t3, t4, t5, e3, f3, s2, c2, d2]; done)); (case he => (simp [t0, t3, t4, t5, e3, f3, s2, c2, d2]; first | done | exact ⟨rfl, rfl⟩ | rfl)); (case hp => (simp [t0, t3, t4, t5, e3, f3, s2, c2, d2]; first | done | rfl))) | ((with_reducible first | apply WO_no_i | apply WT_no_i); (case hw => (simp [t0, t3, t4, t5, e3, f3, s2, c2, d2]; done)); (case hp => (simp [t0, t3, t4, t5, e3, f3, s2, c2, d2]; first | done | rfl))) | ((with_reducible first | apply WO_skip_i | apply WT_skip_i); (case hw => (simp [t0, t3, t4, t5, e3, f3, s2, c2, d2]; done)); (case he => (simp [t0, t3, t4, t5, e3, f3, s2, c2, d2]; first | done | rfl)); (case hp => (simp [t0, t3, t4, t5, e3, f3, s2, c2, d2]; first | done | rfl))) | ((with_reducible first | apply WO_call_i | apply WT_call_i); (case hw => (simp [t0, t3, t4, t5, e3, f3, s2, c2, d2]; done)); (case he => (simp [t0, t3, t4, t5, e3, f3, s2, c2, d2]; first | done | exact ⟨rfl, rfl, rfl⟩ | rfl))))
    with_reducible apply WO_app_i; (case hw => (simp [t0, t3, t4, t5, e3, f3, s2, c2, d2]; done)); (case ho => rfl); (case hb => rfl); (case ha => (simp [t0, t3, t4, t5, e3, f3, s2, c2, d2]; first | done | exact ⟨rfl, rfl⟩ | rfl)); (case h1 => (simp; first | done | rfl)); (case h2 => (simp; first | done | rfl))
    refine app_then (AC.appN (h0 := h0) etl_ver ac3 he3 hp0 (SV.newEls v2) (by simp; omega)) ?_
    rintro w4 h4 ⟨ac4, he4, _, _, _⟩
    have e4 := ac4.sv.cells
    have f4 := ac4.sv.isCell
    refine ⟨_, by simp; first | done | rfl, ?_⟩
    repeat (first | (with_reducible first | refine W_seq_i ?_ | refine W_block_i ?_ | refine W_region_i ?_ | refine W_skip_i ?_ | refine W_label_i ?_ | refine W_ret_i ?_ | refine W_exit_i ?_ | refine W_goto_i ?_ | refine W_scope_go ?_ | refine jumpW_r ?_ | refine jumpW_n ?_ | refine jumpW_x ?_ | refine blockW_g ?_ | refine thenW_n ?_ | refine blockW_n ?_ | refine blockW_x ?_ | refine blockW_y (by decide) ?_ | refine blockW_r ?_ | refine thenW_e (by simp; done) ?_ | refine WO_nil_i ?_ | refine WT_nil_i ?_) | (with_reducible apply W_cond_t; (case h => (simp [t0, t3, t4, t5, e4, f4, w1]; done))) | (with_reducible apply W_cond_f; (case h => (simp [t0, t3, t4, t5, e4, f4, w1]; done))) | ((with_reducible first | apply WO_val_i | apply WT_val_i); (case hw => (simp [t0, t3, t4, t5, e4, f4, w1]; done)); (case he => (simp [t0, t3, t4, t5, e4, f4, w1]; first | done | exact ⟨rfl, rfl⟩ | rfl)); (case hp => (simp [t0, t3, t4, t5, e4, f4, w1]; first | done | rfl))) | ((with_reducible first | apply WO_no_i | apply WT_no_i); (case hw => (simp [t0, t3, t4, t5, e4, f4, w1]; done)); (case hp => (simp [t0, t3, t4, t5, e4, f4, w1]; first | done | rfl))) | ((with_reducible first | apply WO_skip_i | apply WT_skip_i); (case hw => (simp [t0, t3, t4, t5, e4, f4, w1]; done)); (case he => (simp [t0, t3, t4, t5, e4, f4, w1]; first | done | rfl)); (case hp => (simp [t0, t3, t4, t5, e4, f4, w1]; first | done | rfl))) | ((with_reducible first | apply WO_call_i | apply WT_call_i); (case hw => (simp [t0, t3, t4, t5, e4, f4, w1]; done)); (case he => (simp [t0, t3, t4, t5, e4, f4, w1]; first | done | exact ⟨rfl, rfl, rfl⟩ | rfl))))
    refine ⟨_, ?_, _, _, i + 1, _, _, rfl, rfl, by omega, k3, by simp [t0], rfl, by simp, ?_, k1, k2, he4⟩
    · omega
    · have := ac4.sv
      simpa using this
  repeat (first | (with_reducible first | refine W_seq_i ?_ | refine W_block_i ?_ | refine W_region_i ?_ | refine W_skip_i ?_ | refine W_label_i ?_ | refine W_ret_i ?_ | refine W_exit_i ?_ | refine W_goto_i ?_ | refine W_scope_go ?_ | refine jumpW_r ?_ | refine jumpW_n ?_ | refine jumpW_x ?_ | refine blockW_g ?_ | refine thenW_n ?_ | refine blockW_n ?_ | refine blockW_x ?_ | refine blockW_y (by decide) ?_ | refine blockW_r ?_ | refine thenW_e (by simp; done) ?_ | refine WO_nil_i ?_ | refine WT_nil_i ?_) | (with_reducible apply W_cond_t; (case h => (simp [t0, t3, t4, t5, ql]; done))) | (with_reducible apply W_cond_f; (case h => (simp [t0, t3, t4, t5, ql]; done))) | ((with_reducible first | apply WO_val_i | apply WT_val_i); (case hw => (simp [t0, t3, t4, t5, ql]; done)); (case he => (simp [t0, t3, t4, t5, ql]; first | done | exact ⟨rfl, rfl⟩ | rfl)); (case hp => (simp [t0, t3, t4, t5, ql]; first | done | rfl))) | ((with_reducible first | apply WO_no_i | apply WT_no_i); (case hw => (simp [t0, t3, t4, t5, ql]; done)); (case hp => (simp [t0, t3, t4, t5, ql]; first | done | rfl))) | ((with_reducible first | apply WO_skip_i | apply WT_skip_i); (case hw => (simp [t0, t3, t4, t5, ql]; done)); (case he => (simp [t0, t3, t4, t5, ql]; first | done | rfl)); (case hp => (simp [t0, t3, t4, t5, ql]; first | done | rfl))) | ((with_reducible first | apply WO_call_i | apply WT_call_i); (case hw => (simp [t0, t3, t4, t5, ql]; done)); (case he => (simp [t0, t3, t4, t5, ql]; first | done | exact ⟨rfl, rfl, rfl⟩ | rfl))))
  refine ⟨by simp [readSame, beqAV_self, t0]; done, _, by simp; first | done | rfl, ?_⟩
  repeat (first | (with_reducible first | refine W_seq_i ?_ | refine W_block_i ?_ | refine W_region_i ?_ | refine W_skip_i ?_ | refine W_label_i ?_ | refine W_ret_i ?_ | refine W_exit_i ?_ | refine W_goto_i ?_ | refine W_scope_go ?_ | refine jumpW_r ?_ | refine jumpW_n ?_ | refine jumpW_x ?_ | refine blockW_g ?_ | refine thenW_n ?_ | refine blockW_n ?_ | refine blockW_x ?_ | refine blockW_y (by decide) ?_ | refine blockW_r ?_ | refine thenW_e (by simp; done) ?_ | refine WO_nil_i ?_ | refine WT_nil_i ?_) | (with_reducible apply W_cond_t; (case h => (simp [t0, t3, t4, t5, ql, w2]; done))) | (with_reducible apply W_cond_f; (case h => (simp [t0, t3, t4, t5, ql, w2]; done))) | ((with_reducible first | apply WO_val_i | apply WT_val_i); (case hw => (simp [t0, t3, t4, t5, ql, w2]; done)); (case he => (simp [t0, t3, t4, t5, ql, w2]; first | done | exact ⟨rfl, rfl⟩ | rfl)); (case hp => (simp [t0, t3, t4, t5, ql, w2]; first | done | rfl))) | ((with_reducible first | apply WO_no_i | apply WT_no_i); (case hw => (simp [t0, t3, t4, t5, ql, w2]; done)); (case hp => (simp [t0, t3, t4, t5, ql, w2]; first | done | rfl))) | ((with_reducible first | apply WO_skip_i | apply WT_skip_i); (case hw => (simp [t0, t3, t4, t5, ql, w2]; done)); (case he => (simp [t0, t3, t4, t5, ql, w2]; first | done | rfl)); (case hp => (simp [t0, t3, t4, t5, ql, w2]; first | done | rfl))) | ((with_reducible first | apply WO_call_i | apply WT_call_i); (case hw => (simp [t0, t3, t4, t5, ql, w2]; done)); (case he => (simp [t0, t3, t4, t5, ql, w2]; first | done | exact ⟨rfl, rfl, rfl⟩ | rfl))))
  refine ⟨p - 1, by omega, _, _, rfl, by omega, by simp [t0], by simp [t3], by simp [t4], by simp, ?_, he.drew.trans heh⟩
  rw [List.drop_eq_getElem_cons hop, show p - 1 + 1 = p by omega]
  intro b hb
  rcases List.mem_cons.mp hb with q | q
  · rw [q]; exact ql
  · exact hlt b q
end Go.Vn
