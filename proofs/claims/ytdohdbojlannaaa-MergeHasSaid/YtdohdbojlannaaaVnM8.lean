/- What functions of the program come to, in the value machine (a part of the proof of the claim's statement). No condition. -/
import Derived.Test.YtdohdbojlannaaaVnM6
import Derived.Test.YtdohdbojlannaaaVnM2
import Derived.Test.YtdohdbojlannaaaVnM5
import Derived.Test.YtdohdbojlannaaaVnM3
set_option linter.unusedSimpArgs false
set_option linter.unusedVariables false
set_option maxRecDepth 20000
namespace Go.Vn
open Go.Proofs
@[simp] theorem hb27 : hasBody Try.prog 27 = true := by kernel_rfl
@[simp] theorem hb14 : hasBody Try.prog 14 = true := by kernel_rfl
@[simp] theorem hb15 : hasBody Try.prog 15 = true := by kernel_rfl

def cutV (a : Ver) : Ver := { a with key := a.key.take 110, val := a.val.take 210 }

theorem take_str {i : Nat} (s : List UInt8) (h : i < s.length) : sliceAV Try.prog 9 (.str s) none (some (.int .i64 (i : Int))) none = some (.str (s.take i)) := by
  have h1 : (i : Int) ≤ s.length := by omega
  simp [sliceAV, Try.underlying9, obound, bound, h1]

@[simp] theorem len_str (s : List UInt8) : lenAV Try.prog 9 (.str s) = some (.int .i64 s.length) := by simp [lenAV, Try.underlying9]

theorem cut_ans (a : Ver) (h0 : Hp Fm) : A Try.prog TT (.func 27) [encV a] h0 (fun r h' => r = encV (cutV a) ∧ HE h0 h') := by
  have n1 : h0.no ≠ h0.no + 1 := by omega
  have n2 : h0.no + 1 ≠ h0.no := by omega
  by_cases q1 : 110 < a.key.length
  · have j1 : (110 : Int) < a.key.length := by omega
    have s1 : sliceAV Try.prog 9 (.str a.key) none (some (.int .i64 110)) none = some (.str (a.key.take 110)) := take_str a.key q1
    by_cases q2 : 210 < a.val.length
    · have j2 : (210 : Int) < a.val.length := by omega
      have s2 : sliceAV Try.prog 9 (.str a.val) none (some (.int .i64 210)) none = some (.str (a.val.take 210)) := take_str a.val q2
      apply A_go Try.func27 rfl (by rfl); (case hn => (simp [Try.ntmps27]; rfl))
      repeat (first | (with_reducible first | refine W_seq_i ?_ | refine W_block_i ?_ | refine W_region_i ?_ | refine W_skip_i ?_ | refine W_label_i ?_ | refine W_ret_i ?_ | refine W_exit_i ?_ | refine W_goto_i ?_ | refine W_scope_go ?_ | refine jumpW_r ?_ | refine jumpW_n ?_ | refine jumpW_x ?_ | refine blockW_g ?_ | refine thenW_n ?_ | refine blockW_n ?_ | refine blockW_x ?_ | refine blockW_y (by decide) ?_ | refine blockW_r ?_ | refine thenW_e (by simp; done) ?_ | refine WO_nil_i ?_ | refine WT_nil_i ?_) | (with_reducible apply W_cond_t; (case h => (simp [q1, j1, s1, q2, j2, s2, n1, n2]; done))) | (with_reducible apply W_cond_f; (case h => (simp [q1, j1, s1, q2, j2, s2, n1, n2]; done))) | ((with_reducible first | apply WO_val_i | apply WT_val_i); (case hw => (simp [q1, j1, s1, q2, j2, s2, n1, n2]; done)); (case he => (simp [q1, j1, s1, q2, j2, s2, n1, n2]; first | done | exact ⟨rfl, rfl⟩ | rfl)); (case hp => (simp [q1, j1, s1, q2, j2, s2, n1, n2]; first | done | rfl))) | ((with_reducible first | apply WO_no_i | apply WT_no_i); (case hw => (simp [q1, j1, s1, q2, j2, s2, n1, n2]; done)); (case hp => (simp [q1, j1, s1, q2, j2, s2, n1, n2]; first | done | rfl))) | ((with_reducible first | apply WO_skip_i | apply WT_skip_i); (case hw => (simp [q1, j1, s1, q2, j2, s2, n1, n2]; done)); (case he => (simp [q1, j1, s1, q2, j2, s2, n1, n2]; first | done | rfl)); (case hp => (simp [q1, j1, s1, q2, j2, s2, n1, n2]; first | done | rfl))) | ((with_reducible first | apply WO_call_i | apply WT_call_i); (case hw => (simp [q1, j1, s1, q2, j2, s2, n1, n2]; done)); (case he => (simp [q1, j1, s1, q2, j2, s2, n1, n2]; first | done | exact ⟨rfl, rfl, rfl⟩ | rfl))))
      (first | apply endW_r | apply endW_n); (case h1 => (simp [Try.results27]; first | done | rfl))
      refine ⟨by simp [cutV], ?_⟩
      exact ⟨by show h0.no ≤ h0.no + 1 + 1; omega, Nat.le_refl _, rfl, fun q hq => by simp [Nat.ne_of_lt hq, Nat.ne_of_lt (Nat.lt_succ_of_lt hq)], fun _ _ => rfl⟩
    · have j2 : ¬ (210 : Int) < a.val.length := by omega
      have s2 : a.val.take 210 = a.val := List.take_of_length_le (by omega)
      apply A_go Try.func27 rfl (by rfl); (case hn => (simp [Try.ntmps27]; rfl))
      repeat (first | (with_reducible first | refine W_seq_i ?_ | refine W_block_i ?_ | refine W_region_i ?_ | refine W_skip_i ?_ | refine W_label_i ?_ | refine W_ret_i ?_ | refine W_exit_i ?_ | refine W_goto_i ?_ | refine W_scope_go ?_ | refine jumpW_r ?_ | refine jumpW_n ?_ | refine jumpW_x ?_ | refine blockW_g ?_ | refine thenW_n ?_ | refine blockW_n ?_ | refine blockW_x ?_ | refine blockW_y (by decide) ?_ | refine blockW_r ?_ | refine thenW_e (by simp; done) ?_ | refine WO_nil_i ?_ | refine WT_nil_i ?_) | (with_reducible apply W_cond_t; (case h => (simp [q1, j1, s1, q2, j2, n1, n2]; done))) | (with_reducible apply W_cond_f; (case h => (simp [q1, j1, s1, q2, j2, n1, n2]; done))) | ((with_reducible first | apply WO_val_i | apply WT_val_i); (case hw => (simp [q1, j1, s1, q2, j2, n1, n2]; done)); (case he => (simp [q1, j1, s1, q2, j2, n1, n2]; first | done | exact ⟨rfl, rfl⟩ | rfl)); (case hp => (simp [q1, j1, s1, q2, j2, n1, n2]; first | done | rfl))) | ((with_reducible first | apply WO_no_i | apply WT_no_i); (case hw => (simp [q1, j1, s1, q2, j2, n1, n2]; done)); (case hp => (simp [q1, j1, s1, q2, j2, n1, n2]; first | done | rfl))) | ((with_reducible first | apply WO_skip_i | apply WT_skip_i); (case hw => (simp [q1, j1, s1, q2, j2, n1, n2]; done)); (case he => (simp [q1, j1, s1, q2, j2, n1, n2]; first | done | rfl)); (case hp => (simp [q1, j1, s1, q2, j2, n1, n2]; first | done | rfl))) | ((with_reducible first | apply WO_call_i | apply WT_call_i); (case hw => (simp [q1, j1, s1, q2, j2, n1, n2]; done)); (case he => (simp [q1, j1, s1, q2, j2, n1, n2]; first | done | exact ⟨rfl, rfl, rfl⟩ | rfl))))
      (first | apply endW_r | apply endW_n); (case h1 => (simp [Try.results27]; first | done | rfl))
      refine ⟨by simp [cutV, s2], ?_⟩
      exact ⟨by show h0.no ≤ h0.no + 1 + 1; omega, Nat.le_refl _, rfl, fun q hq => by simp [Nat.ne_of_lt hq, Nat.ne_of_lt (Nat.lt_succ_of_lt hq)], fun _ _ => rfl⟩
  · have j1 : ¬ (110 : Int) < a.key.length := by omega
    have s1 : a.key.take 110 = a.key := List.take_of_length_le (by omega)
    by_cases q2 : 210 < a.val.length
    · have j2 : (210 : Int) < a.val.length := by omega
      have s2 : sliceAV Try.prog 9 (.str a.val) none (some (.int .i64 210)) none = some (.str (a.val.take 210)) := take_str a.val q2
      apply A_go Try.func27 rfl (by rfl); (case hn => (simp [Try.ntmps27]; rfl))
      repeat (first | (with_reducible first | refine W_seq_i ?_ | refine W_block_i ?_ | refine W_region_i ?_ | refine W_skip_i ?_ | refine W_label_i ?_ | refine W_ret_i ?_ | refine W_exit_i ?_ | refine W_goto_i ?_ | refine W_scope_go ?_ | refine jumpW_r ?_ | refine jumpW_n ?_ | refine jumpW_x ?_ | refine blockW_g ?_ | refine thenW_n ?_ | refine blockW_n ?_ | refine blockW_x ?_ | refine blockW_y (by decide) ?_ | refine blockW_r ?_ | refine thenW_e (by simp; done) ?_ | refine WO_nil_i ?_ | refine WT_nil_i ?_) | (with_reducible apply W_cond_t; (case h => (simp [q1, j1, q2, j2, s2, n1, n2]; done))) | (with_reducible apply W_cond_f; (case h => (simp [q1, j1, q2, j2, s2, n1, n2]; done))) | ((with_reducible first | apply WO_val_i | apply WT_val_i); (case hw => (simp [q1, j1, q2, j2, s2, n1, n2]; done)); (case he => (simp [q1, j1, q2, j2, s2, n1, n2]; first | done | exact ⟨rfl, rfl⟩ | rfl)); (case hp => (simp [q1, j1, q2, j2, s2, n1, n2]; first | done | rfl))) | ((with_reducible first | apply WO_no_i | apply WT_no_i); (case hw => (simp [q1, j1, q2, j2, s2, n1, n2]; done)); (case hp => (simp [q1, j1, q2, j2, s2, n1, n2]; first | done | rfl))) | ((with_reducible first | apply WO_skip_i | apply WT_skip_i); (case hw => (simp [q1, j1, q2, j2, s2, n1, n2]; done)); (case he => (simp [q1, j1, q2, j2, s2, n1, n2]; first | done | rfl)); (case hp => (simp [q1, j1, q2, j2, s2, n1, n2]; first | done | rfl))) | ((with_reducible first | apply WO_call_i | apply WT_call_i); (case hw => (simp [q1, j1, q2, j2, s2, n1, n2]; done)); (case he => (simp [q1, j1, q2, j2, s2, n1, n2]; first | done | exact ⟨rfl, rfl, rfl⟩ | rfl))))
      (first | apply endW_r | apply endW_n); (case h1 => (simp [Try.results27]; first | done | rfl))
      refine ⟨by simp [cutV, s1], ?_⟩
      exact ⟨by show h0.no ≤ h0.no + 1 + 1; omega, Nat.le_refl _, rfl, fun q hq => by simp [Nat.ne_of_lt hq, Nat.ne_of_lt (Nat.lt_succ_of_lt hq)], fun _ _ => rfl⟩
    · have j2 : ¬ (210 : Int) < a.val.length := by omega
      have s2 : a.val.take 210 = a.val := List.take_of_length_le (by omega)
      apply A_go Try.func27 rfl (by rfl); (case hn => (simp [Try.ntmps27]; rfl))
      repeat (first | (with_reducible first | refine W_seq_i ?_ | refine W_block_i ?_ | refine W_region_i ?_ | refine W_skip_i ?_ | refine W_label_i ?_ | refine W_ret_i ?_ | refine W_exit_i ?_ | refine W_goto_i ?_ | refine W_scope_go ?_ | refine jumpW_r ?_ | refine jumpW_n ?_ | refine jumpW_x ?_ | refine blockW_g ?_ | refine thenW_n ?_ | refine blockW_n ?_ | refine blockW_x ?_ | refine blockW_y (by decide) ?_ | refine blockW_r ?_ | refine thenW_e (by simp; done) ?_ | refine WO_nil_i ?_ | refine WT_nil_i ?_) | (with_reducible apply W_cond_t; (case h => (simp [q1, j1, q2, j2, n1, n2]; done))) | (with_reducible apply W_cond_f; (case h => (simp [q1, j1, q2, j2, n1, n2]; done))) | ((with_reducible first | apply WO_val_i | apply WT_val_i); (case hw => (simp [q1, j1, q2, j2, n1, n2]; done)); (case he => (simp [q1, j1, q2, j2, n1, n2]; first | done | exact ⟨rfl, rfl⟩ | rfl)); (case hp => (simp [q1, j1, q2, j2, n1, n2]; first | done | rfl))) | ((with_reducible first | apply WO_no_i | apply WT_no_i); (case hw => (simp [q1, j1, q2, j2, n1, n2]; done)); (case hp => (simp [q1, j1, q2, j2, n1, n2]; first | done | rfl))) | ((with_reducible first | apply WO_skip_i | apply WT_skip_i); (case hw => (simp [q1, j1, q2, j2, n1, n2]; done)); (case he => (simp [q1, j1, q2, j2, n1, n2]; first | done | rfl)); (case hp => (simp [q1, j1, q2, j2, n1, n2]; first | done | rfl))) | ((with_reducible first | apply WO_call_i | apply WT_call_i); (case hw => (simp [q1, j1, q2, j2, n1, n2]; done)); (case he => (simp [q1, j1, q2, j2, n1, n2]; first | done | exact ⟨rfl, rfl, rfl⟩ | rfl))))
      (first | apply endW_r | apply endW_n); (case h1 => (simp [Try.results27]; first | done | rfl))
      refine ⟨by simp [cutV, s1, s2], ?_⟩
      exact ⟨by show h0.no ≤ h0.no + 1 + 1; omega, Nat.le_refl _, rfl, fun q hq => by simp [Nat.ne_of_lt hq, Nat.ne_of_lt (Nat.lt_succ_of_lt hq)], fun _ _ => rfl⟩
end Go.Vn

set_option maxRecDepth 20000
namespace Go.Vn
open Go.Proofs

theorem et32 : ElT Try.prog 32 34 1 24 false .nils := ⟨Try.underlying32, z34, b34, a34, t34, rfl, rfl, (fun h => by first | rfl | cases h), by omega, by omega⟩

theorem AC.snoc {P : Program} {t e by_ : Nat} {z x : AV} (et : ElT P t e 1 by_ false z) {h0 h h1 : Hp Fm} {acc : List AV} {v : AV} {g' o' c' : Nat}
    (k : AC h0 h 1 acc v) (hx : HE h h1) (he : HE h0 h1) (hp : h0.pol e = false) (hl : (acc.length + 1) * by_ ≤ 2 ^ 40) :
    ∃ r h', appendAV P h1 t t v (.sl g' o' 1 c' [x]) = some (r, h') ∧ (AC h0 h' 1 (acc ++ [x]) r ∧ HE h0 h' ∧ h'.obj = h1.obj ∧ h'.no = h1.no ∧ h1.ng ≤ h'.ng) := AC.app et (k.of hx) he hp hl

set_option maxHeartbeats 1000000 in
theorem lists_ans (ls : List (AV × List Ver)) (v : AV) (hv : SV 1 (ls.map Prod.fst) v) (hls : ∀ q ∈ ls, SV 8 (q.2.map encV) q.1) (h0 : Hp Fm) (hpol : ∀ e, h0.pol e = false) :
    A Try.prog TT (.func 14) [v] h0 (fun r h' => ∃ out : List (AV × List Ver), SV 1 (out.map Prod.fst) r ∧ (∀ q ∈ out, SV 8 (q.2.map encV) q.1 ∧ Sorted cmpV q.2 ∧ q.2.length ≤ 12) ∧ out.length ≤ 5 ∧ HE h0 h') := by
  have l1 := hv.len Try.underlying32
  rw [List.length_map] at l1
  have n1 := hv.nm
  apply A_go Try.func14 rfl (by rfl); (case hn => (simp [Try.ntmps14]; rfl))
  repeat (first | (with_reducible first | refine W_seq_i ?_ | refine W_block_i ?_ | refine W_region_i ?_ | refine W_skip_i ?_ | refine W_label_i ?_ | refine W_ret_i ?_ | refine W_exit_i ?_ | refine W_goto_i ?_ | refine W_scope_go ?_ | refine jumpW_r ?_ | refine jumpW_n ?_ | refine jumpW_x ?_ | refine blockW_g ?_ | refine thenW_n ?_ | refine blockW_n ?_ | refine blockW_x ?_ | refine blockW_y (by decide) ?_ | refine blockW_r ?_ | refine thenW_e (by simp; done) ?_ | refine WO_nil_i ?_ | refine WT_nil_i ?_) | (with_reducible apply W_cond_t; (case h => (simp; done))) | (with_reducible apply W_cond_f; (case h => (simp; done))) | ((with_reducible first | apply WO_val_i | apply WT_val_i); (case hw => (simp; done)); (case he => (simp; first | done | exact ⟨rfl, rfl⟩ | rfl)); (case hp => (simp; first | done | rfl))) | ((with_reducible first | apply WO_no_i | apply WT_no_i); (case hw => (simp; done)); (case hp => (simp; first | done | rfl))) | ((with_reducible first | apply WO_skip_i | apply WT_skip_i); (case hw => (simp; done)); (case he => (simp; first | done | rfl)); (case hp => (simp; first | done | rfl))) | ((with_reducible first | apply WO_call_i | apply WT_call_i); (case hw => (simp; done)); (case he => (simp; first | done | exact ⟨rfl, rfl, rfl⟩ | rfl))))
  refine W_loop (fun m s => ∃ (t : Fm AV) (h : Hp Fm) (i : Nat) (out : List (AV × List Ver)) (o : AV), s = ⟨t, 47, h, none⟩ ∧ m = 5 - i ∧ i ≤ 5 ∧ i ≤ ls.length ∧ tget t 0 = v ∧ tget t 3 = o ∧ tget t 4 = .int .i64 i ∧ AC h0 h 1 (out.map Prod.fst) o ∧ (∀ q ∈ out, SV 8 (q.2.map encV) q.1 ∧ Sorted cmpV q.2 ∧ q.2.length ≤ 12) ∧ out.length = i ∧ HE h0 h) 5
    ⟨_, _, 0, [], .nils, rfl, rfl, by omega, Nat.zero_le _, by simp, by simp, by simp, .inl ⟨rfl, rfl⟩, by simp, rfl, HE.refl _⟩ ?_
  rintro m s ⟨t, h, i, out, o, rfl, rfl, hi5, hi, t0, t3, t4, ho, hout, hol, he⟩
  have oc := ho.sv.cells
  have od := ho.sv.isCell
  by_cases qi : i < ls.length
  case neg =>
    have qn : ¬ (i < ls.length) := qi
    repeat (first | (with_reducible first | refine W_seq_i ?_ | refine W_block_i ?_ | refine W_region_i ?_ | refine W_skip_i ?_ | refine W_label_i ?_ | refine W_ret_i ?_ | refine W_exit_i ?_ | refine W_goto_i ?_ | refine W_scope_go ?_ | refine jumpW_r ?_ | refine jumpW_n ?_ | refine jumpW_x ?_ | refine blockW_g ?_ | refine thenW_n ?_ | refine blockW_n ?_ | refine blockW_x ?_ | refine blockW_y (by decide) ?_ | refine blockW_r ?_ | refine thenW_e (by simp; done) ?_ | refine WO_nil_i ?_ | refine WT_nil_i ?_) | (with_reducible apply W_cond_t; (case h => (simp [t0, t3, t4, qi, qn, l1, n1, oc, od]; done))) | (with_reducible apply W_cond_f; (case h => (simp [t0, t3, t4, qi, qn, l1, n1, oc, od]; done))) | ((with_reducible first | apply WO_val_i | apply WT_val_i); (case hw => (simp [t0, t3, t4, qi, qn, l1, n1, oc, od]; done)); (case he => (simp [t0, t3, t4, qi, qn, l1, n1, oc, od]; first | done | exact ⟨rfl, rfl⟩ | rfl)); (case hp => (simp [t0, t3, t4, qi, qn, l1, n1, oc, od]; first | done | rfl))) | ((with_reducible first | apply WO_no_i | apply WT_no_i); (case hw => (simp [t0, t3, t4, qi, qn, l1, n1, oc, od]; done)); (case hp => (simp [t0, t3, t4, qi, qn, l1, n1, oc, od]; first | done | rfl))) | ((with_reducible first | apply WO_skip_i | apply WT_skip_i); (case hw => (simp [t0, t3, t4, qi, qn, l1, n1, oc, od]; done)); (case he => (simp [t0, t3, t4, qi, qn, l1, n1, oc, od]; first | done | rfl)); (case hp => (simp [t0, t3, t4, qi, qn, l1, n1, oc, od]; first | done | rfl))) | ((with_reducible first | apply WO_call_i | apply WT_call_i); (case hw => (simp [t0, t3, t4, qi, qn, l1, n1, oc, od]; done)); (case he => (simp [t0, t3, t4, qi, qn, l1, n1, oc, od]; first | done | exact ⟨rfl, rfl, rfl⟩ | rfl))))
    (first | apply endW_r | apply endW_n); (case h1 => (simp [Try.results14]; first | done | rfl))
    exact ⟨out, by simpa using ho.sv, hout, by omega, he⟩
  by_cases qf : i < 5
  case neg =>
    have qj : ¬ ((i : Int) < 5) := by omega
    repeat (first | (with_reducible first | refine W_seq_i ?_ | refine W_block_i ?_ | refine W_region_i ?_ | refine W_skip_i ?_ | refine W_label_i ?_ | refine W_ret_i ?_ | refine W_exit_i ?_ | refine W_goto_i ?_ | refine W_scope_go ?_ | refine jumpW_r ?_ | refine jumpW_n ?_ | refine jumpW_x ?_ | refine blockW_g ?_ | refine thenW_n ?_ | refine blockW_n ?_ | refine blockW_x ?_ | refine blockW_y (by decide) ?_ | refine blockW_r ?_ | refine thenW_e (by simp; done) ?_ | refine WO_nil_i ?_ | refine WT_nil_i ?_) | (with_reducible apply W_cond_t; (case h => (simp [t0, t3, t4, qi, qf, qj, l1, n1, oc, od]; done))) | (with_reducible apply W_cond_f; (case h => (simp [t0, t3, t4, qi, qf, qj, l1, n1, oc, od]; done))) | ((with_reducible first | apply WO_val_i | apply WT_val_i); (case hw => (simp [t0, t3, t4, qi, qf, qj, l1, n1, oc, od]; done)); (case he => (simp [t0, t3, t4, qi, qf, qj, l1, n1, oc, od]; first | done | exact ⟨rfl, rfl⟩ | rfl)); (case hp => (simp [t0, t3, t4, qi, qf, qj, l1, n1, oc, od]; first | done | rfl))) | ((with_reducible first | apply WO_no_i | apply WT_no_i); (case hw => (simp [t0, t3, t4, qi, qf, qj, l1, n1, oc, od]; done)); (case hp => (simp [t0, t3, t4, qi, qf, qj, l1, n1, oc, od]; first | done | rfl))) | ((with_reducible first | apply WO_skip_i | apply WT_skip_i); (case hw => (simp [t0, t3, t4, qi, qf, qj, l1, n1, oc, od]; done)); (case he => (simp [t0, t3, t4, qi, qf, qj, l1, n1, oc, od]; first | done | rfl)); (case hp => (simp [t0, t3, t4, qi, qf, qj, l1, n1, oc, od]; first | done | rfl))) | ((with_reducible first | apply WO_call_i | apply WT_call_i); (case hw => (simp [t0, t3, t4, qi, qf, qj, l1, n1, oc, od]; done)); (case he => (simp [t0, t3, t4, qi, qf, qj, l1, n1, oc, od]; first | done | exact ⟨rfl, rfl, rfl⟩ | rfl))))
    (first | apply endW_r | apply endW_n); (case h1 => (simp [Try.results14]; first | done | rfl))
    exact ⟨out, by simpa using ho.sv, hout, by omega, he⟩
  have qj : (i : Int) < 5 := by omega
  have w3 : IntKind.i64.wrap ((i : Int) + 1) = ((i + 1 : Nat) : Int) := by rw [wrap64 (by omega) (by omega)]; simp
  have i1 := hv.idx Try.underlying32 z34 (k := .i64) (i := i) (by simp) (by simpa using qi)
  simp only [List.getElem_map, Int.toNat_natCast] at i1
  have hw := hls ls[i] (List.getElem_mem qi)
  obtain ⟨pq, hpq⟩ : ∃ pq, pq = ls[i] := ⟨_, rfl⟩
  rw [← hpq] at hw i1
  obtain ⟨w, own⟩ := pq
  simp only at hw i1
  have l2 := hw.len Try.underlying34
  rw [List.length_map] at l2
  have n2 := hw.nm
  have c2 := hw.cells
  have d2 := hw.isCell
  obtain ⟨own2, w2, hw2, hl2, hcut⟩ : ∃ (own2 : List Ver) (w2 : AV), SV 8 (own2.map encV) w2 ∧ own2.length ≤ 12 ∧ ((12 < own.length ∧ sliceAV Try.prog 34 w none (some (.int .i64 12)) none = some w2) ∨ (¬ 12 < own.length ∧ w2 = w)) := by
    by_cases q : 12 < own.length
    · obtain ⟨r, s1, v1⟩ := hw.take Try.underlying34 z43 (k := .i64) (i := 12) (by omega) (by rw [List.length_map]; omega)
      exact ⟨own.take 12, r, by rw [List.map_take]; exact v1, by simp; omega, .inl ⟨q, s1⟩⟩
    · exact ⟨own, w, hw, by omega, .inr ⟨q, rfl⟩⟩
  have l3 := hw2.len Try.underlying34
  rw [List.length_map] at l3
  have n3 := hw2.nm
  have c3 := hw2.cells
  have d3 := hw2.isCell
  rcases hcut with ⟨q, s1⟩ | ⟨q, rfl⟩
  · have qx : (12 : Int) < own.length := by omega
    obtain ⟨hb, rfl⟩ : ∃ hb, hb = h := ⟨_, rfl⟩
    repeat (first | (with_reducible first | refine W_seq_i ?_ | refine W_block_i ?_ | refine W_region_i ?_ | refine W_skip_i ?_ | refine W_label_i ?_ | refine W_ret_i ?_ | refine W_exit_i ?_ | refine W_goto_i ?_ | refine W_scope_go ?_ | refine jumpW_r ?_ | refine jumpW_n ?_ | refine jumpW_x ?_ | refine blockW_g ?_ | refine thenW_n ?_ | refine blockW_n ?_ | refine blockW_x ?_ | refine blockW_y (by decide) ?_ | refine blockW_r ?_ | refine thenW_e (by simp; done) ?_ | refine WO_nil_i ?_ | refine WT_nil_i ?_) | (with_reducible apply W_cond_t; (case h => (simp [t0, t3, t4, qi, qj, qf, l1, n1, oc, od, i1, c2, d2, l2, n2, q, qx, s1, c3, d3]; done))) | (with_reducible apply W_cond_f; (case h => (simp [t0, t3, t4, qi, qj, qf, l1, n1, oc, od, i1, c2, d2, l2, n2, q, qx, s1, c3, d3]; done))) | ((with_reducible first | apply WO_val_i | apply WT_val_i); (case hw => (simp [t0, t3, t4, qi, qj, qf, l1, n1, oc, od, i1, c2, d2, l2, n2, q, qx, s1, c3, d3]; done)); (case he => (simp [t0, t3, t4, qi, qj, qf, l1, n1, oc, od, i1, c2, d2, l2, n2, q, qx, s1, c3, d3]; first | done | exact ⟨rfl, rfl⟩ | rfl)); (case hp => (simp [t0, t3, t4, qi, qj, qf, l1, n1, oc, od, i1, c2, d2, l2, n2, q, qx, s1, c3, d3]; first | done | rfl))) | ((with_reducible first | apply WO_no_i | apply WT_no_i); (case hw => (simp [t0, t3, t4, qi, qj, qf, l1, n1, oc, od, i1, c2, d2, l2, n2, q, qx, s1, c3, d3]; done)); (case hp => (simp [t0, t3, t4, qi, qj, qf, l1, n1, oc, od, i1, c2, d2, l2, n2, q, qx, s1, c3, d3]; first | done | rfl))) | ((with_reducible first | apply WO_skip_i | apply WT_skip_i); (case hw => (simp [t0, t3, t4, qi, qj, qf, l1, n1, oc, od, i1, c2, d2, l2, n2, q, qx, s1, c3, d3]; done)); (case he => (simp [t0, t3, t4, qi, qj, qf, l1, n1, oc, od, i1, c2, d2, l2, n2, q, qx, s1, c3, d3]; first | done | rfl)); (case hp => (simp [t0, t3, t4, qi, qj, qf, l1, n1, oc, od, i1, c2, d2, l2, n2, q, qx, s1, c3, d3]; first | done | rfl))) | ((with_reducible first | apply WO_call_i | apply WT_call_i); (case hw => (simp [t0, t3, t4, qi, qj, qf, l1, n1, oc, od, i1, c2, d2, l2, n2, q, qx, s1, c3, d3]; done)); (case he => (simp [t0, t3, t4, qi, qj, qf, l1, n1, oc, od, i1, c2, d2, l2, n2, q, qx, s1, c3, d3]; first | done | exact ⟨rfl, rfl, rfl⟩ | rfl))))
    refine W_loop (fun m s => ∃ (t : Fm AV) (h : Hp Fm) (k : Nat) (few : List Ver) (u : AV), s = ⟨t, 47, h, none⟩ ∧ m = own2.length - k ∧ k ≤ own2.length ∧ tget t 0 = v ∧ tget t 3 = o ∧ tget t 4 = .int .i64 i ∧ tget t 5 = w2 ∧ tget t 6 = u ∧ tget t 7 = .int .i64 k ∧ AC hb h 8 (few.map encV) u ∧ few.length = k ∧ HE hb h) own2.length
      ⟨_, _, 0, [], .nils, rfl, rfl, Nat.zero_le _, by simp [t0], by simp [t3], by simp [t4], by simp, by simp, by simp, .inl ⟨rfl, rfl⟩, rfl, HE.refl _⟩ ?_
    clear t0 t3 t4 t
    rintro m s ⟨t, h, k, few, u, rfl, rfl, hk, t0, t3, t4, t5, t6, t7, hu, hfl, hq⟩
    have uc := hu.sv.cells
    have ud := hu.sv.isCell
    by_cases qk : k < own2.length
    · have i2 := hw2.idx Try.underlying34 z43 (k := .i64) (i := k) (by simp) (by simpa using qk)
      simp only [List.getElem_map, Int.toNat_natCast] at i2
      have w4 : IntKind.i64.wrap ((k : Int) + 1) = ((k + 1 : Nat) : Int) := by rw [wrap64 (by omega) (by omega)]; simp
      repeat (first | (with_reducible first | refine W_seq_i ?_ | refine W_block_i ?_ | refine W_region_i ?_ | refine W_skip_i ?_ | refine W_label_i ?_ | refine W_ret_i ?_ | refine W_exit_i ?_ | refine W_goto_i ?_ | refine W_scope_go ?_ | refine jumpW_r ?_ | refine jumpW_n ?_ | refine jumpW_x ?_ | refine blockW_g ?_ | refine thenW_n ?_ | refine blockW_n ?_ | refine blockW_x ?_ | refine blockW_y (by decide) ?_ | refine blockW_r ?_ | refine thenW_e (by simp; done) ?_ | refine WO_nil_i ?_ | refine WT_nil_i ?_) | (with_reducible apply W_cond_t; (case h => (simp [t0, t3, t4, t5, t6, t7, qk, l3, n3, i2, uc, ud]; done))) | (with_reducible apply W_cond_f; (case h => (simp [t0, t3, t4, t5, t6, t7, qk, l3, n3, i2, uc, ud]; done))) | ((with_reducible first | apply WO_val_i | apply WT_val_i); (case hw => (simp [t0, t3, t4, t5, t6, t7, qk, l3, n3, i2, uc, ud]; done)); (case he => (simp [t0, t3, t4, t5, t6, t7, qk, l3, n3, i2, uc, ud]; first | done | exact ⟨rfl, rfl⟩ | rfl)); (case hp => (simp [t0, t3, t4, t5, t6, t7, qk, l3, n3, i2, uc, ud]; first | done | rfl))) | ((with_reducible first | apply WO_no_i | apply WT_no_i); (case hw => (simp [t0, t3, t4, t5, t6, t7, qk, l3, n3, i2, uc, ud]; done)); (case hp => (simp [t0, t3, t4, t5, t6, t7, qk, l3, n3, i2, uc, ud]; first | done | rfl))) | ((with_reducible first | apply WO_skip_i | apply WT_skip_i); (case hw => (simp [t0, t3, t4, t5, t6, t7, qk, l3, n3, i2, uc, ud]; done)); (case he => (simp [t0, t3, t4, t5, t6, t7, qk, l3, n3, i2, uc, ud]; first | done | rfl)); (case hp => (simp [t0, t3, t4, t5, t6, t7, qk, l3, n3, i2, uc, ud]; first | done | rfl))) | ((with_reducible first | apply WO_call_i | apply WT_call_i); (case hw => (simp [t0, t3, t4, t5, t6, t7, qk, l3, n3, i2, uc, ud]; done)); (case he => (simp [t0, t3, t4, t5, t6, t7, qk, l3, n3, i2, uc, ud]; first | done | exact ⟨rfl, rfl, rfl⟩ | rfl))))
      refine A.mono (cut_ans own2[k] _) ?_
      rintro _ hh ⟨rfl, heh⟩
      have hph : hh.pol 43 = false := by rw [heh.pol, hq.pol, he.pol]; exact hpol 43
      refine ⟨_, by simp; first | done | rfl, ?_⟩
      repeat (first | (with_reducible first | refine W_seq_i ?_ | refine W_block_i ?_ | refine W_region_i ?_ | refine W_skip_i ?_ | refine W_label_i ?_ | refine W_ret_i ?_ | refine W_exit_i ?_ | refine W_goto_i ?_ | refine W_scope_go ?_ | refine jumpW_r ?_ | refine jumpW_n ?_ | refine jumpW_x ?_ | refine blockW_g ?_ | refine thenW_n ?_ | refine blockW_n ?_ | refine blockW_x ?_ | refine blockW_y (by decide) ?_ | refine blockW_r ?_ | refine thenW_e (by simp; done) ?_ | refine WO_nil_i ?_ | refine WT_nil_i ?_) | (with_reducible apply W_cond_t; (case h => (simp [t0, t3, t4, t5, t6, t7, newSeq, newSl, hph]; done))) | (with_reducible apply W_cond_f; (case h => (simp [t0, t3, t4, t5, t6, t7, newSeq, newSl, hph]; done))) | ((with_reducible first | apply WO_val_i | apply WT_val_i); (case hw => (simp [t0, t3, t4, t5, t6, t7, newSeq, newSl, hph]; done)); (case he => (simp [t0, t3, t4, t5, t6, t7, newSeq, newSl, hph]; first | done | exact ⟨rfl, rfl⟩ | rfl)); (case hp => (simp [t0, t3, t4, t5, t6, t7, newSeq, newSl, hph]; first | done | rfl))) | ((with_reducible first | apply WO_no_i | apply WT_no_i); (case hw => (simp [t0, t3, t4, t5, t6, t7, newSeq, newSl, hph]; done)); (case hp => (simp [t0, t3, t4, t5, t6, t7, newSeq, newSl, hph]; first | done | rfl))) | ((with_reducible first | apply WO_skip_i | apply WT_skip_i); (case hw => (simp [t0, t3, t4, t5, t6, t7, newSeq, newSl, hph]; done)); (case he => (simp [t0, t3, t4, t5, t6, t7, newSeq, newSl, hph]; first | done | rfl)); (case hp => (simp [t0, t3, t4, t5, t6, t7, newSeq, newSl, hph]; first | done | rfl))) | ((with_reducible first | apply WO_call_i | apply WT_call_i); (case hw => (simp [t0, t3, t4, t5, t6, t7, newSeq, newSl, hph]; done)); (case he => (simp [t0, t3, t4, t5, t6, t7, newSeq, newSl, hph]; first | done | exact ⟨rfl, rfl, rfl⟩ | rfl))))
      with_reducible apply WO_app_i; (case hw => (simp [t0, t3, t4, t5, t6, t7, newSeq, newSl, hph]; done)); (case ho => rfl); (case hb => rfl); (case ha => (simp [t0, t3, t4, t5, t6, t7, newSeq, newSl, hph]; first | done | exact ⟨rfl, rfl⟩ | rfl)); (case h1 => (simp; first | done | rfl)); (case h2 => (simp; first | done | rfl))
      refine app_then (AC.app (h0 := hb) etl_ver (hu.of (heh.newSl 1)) ((hq.trans heh).newSl 1) (by rw [he.pol]; exact hpol 43) (by simp; omega)) ?_
      rintro x4 h4 ⟨ac4, he4, ho4, hn4, hg4⟩
      have e4 := ac4.sv.cells
      have f4 := ac4.sv.isCell
      refine ⟨_, by simp; first | done | rfl, ?_⟩
      repeat (first | (with_reducible first | refine W_seq_i ?_ | refine W_block_i ?_ | refine W_region_i ?_ | refine W_skip_i ?_ | refine W_label_i ?_ | refine W_ret_i ?_ | refine W_exit_i ?_ | refine W_goto_i ?_ | refine W_scope_go ?_ | refine jumpW_r ?_ | refine jumpW_n ?_ | refine jumpW_x ?_ | refine blockW_g ?_ | refine thenW_n ?_ | refine blockW_n ?_ | refine blockW_x ?_ | refine blockW_y (by decide) ?_ | refine blockW_r ?_ | refine thenW_e (by simp; done) ?_ | refine WO_nil_i ?_ | refine WT_nil_i ?_) | (with_reducible apply W_cond_t; (case h => (simp [t0, t3, t4, t5, t6, t7, e4, f4, w4]; done))) | (with_reducible apply W_cond_f; (case h => (simp [t0, t3, t4, t5, t6, t7, e4, f4, w4]; done))) | ((with_reducible first | apply WO_val_i | apply WT_val_i); (case hw => (simp [t0, t3, t4, t5, t6, t7, e4, f4, w4]; done)); (case he => (simp [t0, t3, t4, t5, t6, t7, e4, f4, w4]; first | done | exact ⟨rfl, rfl⟩ | rfl)); (case hp => (simp [t0, t3, t4, t5, t6, t7, e4, f4, w4]; first | done | rfl))) | ((with_reducible first | apply WO_no_i | apply WT_no_i); (case hw => (simp [t0, t3, t4, t5, t6, t7, e4, f4, w4]; done)); (case hp => (simp [t0, t3, t4, t5, t6, t7, e4, f4, w4]; first | done | rfl))) | ((with_reducible first | apply WO_skip_i | apply WT_skip_i); (case hw => (simp [t0, t3, t4, t5, t6, t7, e4, f4, w4]; done)); (case he => (simp [t0, t3, t4, t5, t6, t7, e4, f4, w4]; first | done | rfl)); (case hp => (simp [t0, t3, t4, t5, t6, t7, e4, f4, w4]; first | done | rfl))) | ((with_reducible first | apply WO_call_i | apply WT_call_i); (case hw => (simp [t0, t3, t4, t5, t6, t7, e4, f4, w4]; done)); (case he => (simp [t0, t3, t4, t5, t6, t7, e4, f4, w4]; first | done | exact ⟨rfl, rfl, rfl⟩ | rfl))))
      refine ⟨_, ?_, _, _, k + 1, few ++ [cutV own2[k]], _, rfl, rfl, by omega, by simp [t0], by simp [t3], by simp [t4], by simp [t5], rfl, by simp, ?_, by simp; omega, he4⟩
      · omega
      · simpa using ac4
    · have hke : k = own2.length := by omega
      have qn : ¬ (k < own2.length) := qk
      repeat (first | (with_reducible first | refine W_seq_i ?_ | refine W_block_i ?_ | refine W_region_i ?_ | refine W_skip_i ?_ | refine W_label_i ?_ | refine W_ret_i ?_ | refine W_exit_i ?_ | refine W_goto_i ?_ | refine W_scope_go ?_ | refine jumpW_r ?_ | refine jumpW_n ?_ | refine jumpW_x ?_ | refine blockW_g ?_ | refine thenW_n ?_ | refine blockW_n ?_ | refine blockW_x ?_ | refine blockW_y (by decide) ?_ | refine blockW_r ?_ | refine thenW_e (by simp; done) ?_ | refine WO_nil_i ?_ | refine WT_nil_i ?_) | (with_reducible apply W_cond_t; (case h => (simp [t0, t3, t4, t5, t6, t7, qk, qn, l3, n3, uc, ud]; done))) | (with_reducible apply W_cond_f; (case h => (simp [t0, t3, t4, t5, t6, t7, qk, qn, l3, n3, uc, ud]; done))) | ((with_reducible first | apply WO_val_i | apply WT_val_i); (case hw => (simp [t0, t3, t4, t5, t6, t7, qk, qn, l3, n3, uc, ud]; done)); (case he => (simp [t0, t3, t4, t5, t6, t7, qk, qn, l3, n3, uc, ud]; first | done | exact ⟨rfl, rfl⟩ | rfl)); (case hp => (simp [t0, t3, t4, t5, t6, t7, qk, qn, l3, n3, uc, ud]; first | done | rfl))) | ((with_reducible first | apply WO_no_i | apply WT_no_i); (case hw => (simp [t0, t3, t4, t5, t6, t7, qk, qn, l3, n3, uc, ud]; done)); (case hp => (simp [t0, t3, t4, t5, t6, t7, qk, qn, l3, n3, uc, ud]; first | done | rfl))) | ((with_reducible first | apply WO_skip_i | apply WT_skip_i); (case hw => (simp [t0, t3, t4, t5, t6, t7, qk, qn, l3, n3, uc, ud]; done)); (case he => (simp [t0, t3, t4, t5, t6, t7, qk, qn, l3, n3, uc, ud]; first | done | rfl)); (case hp => (simp [t0, t3, t4, t5, t6, t7, qk, qn, l3, n3, uc, ud]; first | done | rfl))) | ((with_reducible first | apply WO_call_i | apply WT_call_i); (case hw => (simp [t0, t3, t4, t5, t6, t7, qk, qn, l3, n3, uc, ud]; done)); (case he => (simp [t0, t3, t4, t5, t6, t7, qk, qn, l3, n3, uc, ud]; first | done | exact ⟨rfl, rfl, rfl⟩ | rfl))))
      refine A.mono (sorted_ans few u hu.sv (by omega) _ (by rw [hq.pol, he.pol]; exact hpol 43)) ?_
      rintro sr hh ⟨srt, hs1, _, hs3, hs4, heh'⟩
      have heh := hq.trans heh'
      have sc := hs4.cells
      have sd := hs4.isCell
      have hph : hh.pol 34 = false := by rw [heh.pol, he.pol]; exact hpol 34
      refine ⟨_, by simp; first | done | rfl, ?_⟩
      repeat (first | (with_reducible first | refine W_seq_i ?_ | refine W_block_i ?_ | refine W_region_i ?_ | refine W_skip_i ?_ | refine W_label_i ?_ | refine W_ret_i ?_ | refine W_exit_i ?_ | refine W_goto_i ?_ | refine W_scope_go ?_ | refine jumpW_r ?_ | refine jumpW_n ?_ | refine jumpW_x ?_ | refine blockW_g ?_ | refine thenW_n ?_ | refine blockW_n ?_ | refine blockW_x ?_ | refine blockW_y (by decide) ?_ | refine blockW_r ?_ | refine thenW_e (by simp; done) ?_ | refine WO_nil_i ?_ | refine WT_nil_i ?_) | (with_reducible apply W_cond_t; (case h => (simp [t0, t3, t4, t5, t6, t7, newSeq, newSl, hph, sc, sd]; done))) | (with_reducible apply W_cond_f; (case h => (simp [t0, t3, t4, t5, t6, t7, newSeq, newSl, hph, sc, sd]; done))) | ((with_reducible first | apply WO_val_i | apply WT_val_i); (case hw => (simp [t0, t3, t4, t5, t6, t7, newSeq, newSl, hph, sc, sd]; done)); (case he => (simp [t0, t3, t4, t5, t6, t7, newSeq, newSl, hph, sc, sd]; first | done | exact ⟨rfl, rfl⟩ | rfl)); (case hp => (simp [t0, t3, t4, t5, t6, t7, newSeq, newSl, hph, sc, sd]; first | done | rfl))) | ((with_reducible first | apply WO_no_i | apply WT_no_i); (case hw => (simp [t0, t3, t4, t5, t6, t7, newSeq, newSl, hph, sc, sd]; done)); (case hp => (simp [t0, t3, t4, t5, t6, t7, newSeq, newSl, hph, sc, sd]; first | done | rfl))) | ((with_reducible first | apply WO_skip_i | apply WT_skip_i); (case hw => (simp [t0, t3, t4, t5, t6, t7, newSeq, newSl, hph, sc, sd]; done)); (case he => (simp [t0, t3, t4, t5, t6, t7, newSeq, newSl, hph, sc, sd]; first | done | rfl)); (case hp => (simp [t0, t3, t4, t5, t6, t7, newSeq, newSl, hph, sc, sd]; first | done | rfl))) | ((with_reducible first | apply WO_call_i | apply WT_call_i); (case hw => (simp [t0, t3, t4, t5, t6, t7, newSeq, newSl, hph, sc, sd]; done)); (case he => (simp [t0, t3, t4, t5, t6, t7, newSeq, newSl, hph, sc, sd]; first | done | exact ⟨rfl, rfl, rfl⟩ | rfl))))
      with_reducible apply WO_app_i; (case hw => (simp [t0, t3, t4, t5, t6, t7, newSeq, newSl, hph, sc, sd]; done)); (case ho => rfl); (case hb => rfl); (case ha => (simp [t0, t3, t4, t5, t6, t7, newSeq, newSl, hph, sc, sd]; first | done | exact ⟨rfl, rfl⟩ | rfl)); (case h1 => (simp; first | done | rfl)); (case h2 => (simp; first | done | rfl))
      refine app_then (AC.app (h0 := h0) et32 (ho.of (heh.newSl 1)) ((he.trans heh).newSl 1) (hpol 34) (by simp; omega)) ?_
      rintro x4 h4 ⟨ac4, he4, _, _, _⟩
      have e4 := ac4.sv.cells
      have f4 := ac4.sv.isCell
      refine ⟨_, by simp; first | done | rfl, ?_⟩
      repeat (first | (with_reducible first | refine W_seq_i ?_ | refine W_block_i ?_ | refine W_region_i ?_ | refine W_skip_i ?_ | refine W_label_i ?_ | refine W_ret_i ?_ | refine W_exit_i ?_ | refine W_goto_i ?_ | refine W_scope_go ?_ | refine jumpW_r ?_ | refine jumpW_n ?_ | refine jumpW_x ?_ | refine blockW_g ?_ | refine thenW_n ?_ | refine blockW_n ?_ | refine blockW_x ?_ | refine blockW_y (by decide) ?_ | refine blockW_r ?_ | refine thenW_e (by simp; done) ?_ | refine WO_nil_i ?_ | refine WT_nil_i ?_) | (with_reducible apply W_cond_t; (case h => (simp [t0, t3, t4, t5, t6, t7, e4, f4, w3]; done))) | (with_reducible apply W_cond_f; (case h => (simp [t0, t3, t4, t5, t6, t7, e4, f4, w3]; done))) | ((with_reducible first | apply WO_val_i | apply WT_val_i); (case hw => (simp [t0, t3, t4, t5, t6, t7, e4, f4, w3]; done)); (case he => (simp [t0, t3, t4, t5, t6, t7, e4, f4, w3]; first | done | exact ⟨rfl, rfl⟩ | rfl)); (case hp => (simp [t0, t3, t4, t5, t6, t7, e4, f4, w3]; first | done | rfl))) | ((with_reducible first | apply WO_no_i | apply WT_no_i); (case hw => (simp [t0, t3, t4, t5, t6, t7, e4, f4, w3]; done)); (case hp => (simp [t0, t3, t4, t5, t6, t7, e4, f4, w3]; first | done | rfl))) | ((with_reducible first | apply WO_skip_i | apply WT_skip_i); (case hw => (simp [t0, t3, t4, t5, t6, t7, e4, f4, w3]; done)); (case he => (simp [t0, t3, t4, t5, t6, t7, e4, f4, w3]; first | done | rfl)); (case hp => (simp [t0, t3, t4, t5, t6, t7, e4, f4, w3]; first | done | rfl))) | ((with_reducible first | apply WO_call_i | apply WT_call_i); (case hw => (simp [t0, t3, t4, t5, t6, t7, e4, f4, w3]; done)); (case he => (simp [t0, t3, t4, t5, t6, t7, e4, f4, w3]; first | done | exact ⟨rfl, rfl, rfl⟩ | rfl))))
      refine ⟨_, ?_, _, _, i + 1, out ++ [(sr, srt)], _, rfl, rfl, by omega, by omega, by simp [t0], rfl, by simp, ?_, ?_, by simp [hol], he4⟩
      · omega
      · simpa using ac4
      · intro q hq'
        rcases List.mem_append.mp hq' with e | e
        · exact hout q e
        · rw [List.mem_singleton.mp e]; exact ⟨hs4, hs1, by show srt.length ≤ 12; omega⟩
  · have qx : ¬ (12 : Int) < own.length := by omega
    obtain ⟨hb, rfl⟩ : ∃ hb, hb = h := ⟨_, rfl⟩
    repeat (first | (with_reducible first | refine W_seq_i ?_ | refine W_block_i ?_ | refine W_region_i ?_ | refine W_skip_i ?_ | refine W_label_i ?_ | refine W_ret_i ?_ | refine W_exit_i ?_ | refine W_goto_i ?_ | refine W_scope_go ?_ | refine jumpW_r ?_ | refine jumpW_n ?_ | refine jumpW_x ?_ | refine blockW_g ?_ | refine thenW_n ?_ | refine blockW_n ?_ | refine blockW_x ?_ | refine blockW_y (by decide) ?_ | refine blockW_r ?_ | refine thenW_e (by simp; done) ?_ | refine WO_nil_i ?_ | refine WT_nil_i ?_) | (with_reducible apply W_cond_t; (case h => (simp [t0, t3, t4, qi, qj, qf, l1, n1, oc, od, i1, c2, d2, l2, n2, q, qx, c3, d3]; done))) | (with_reducible apply W_cond_f; (case h => (simp [t0, t3, t4, qi, qj, qf, l1, n1, oc, od, i1, c2, d2, l2, n2, q, qx, c3, d3]; done))) | ((with_reducible first | apply WO_val_i | apply WT_val_i); (case hw => (simp [t0, t3, t4, qi, qj, qf, l1, n1, oc, od, i1, c2, d2, l2, n2, q, qx, c3, d3]; done)); (case he => (simp [t0, t3, t4, qi, qj, qf, l1, n1, oc, od, i1, c2, d2, l2, n2, q, qx, c3, d3]; first | done | exact ⟨rfl, rfl⟩ | rfl)); (case hp => (simp [t0, t3, t4, qi, qj, qf, l1, n1, oc, od, i1, c2, d2, l2, n2, q, qx, c3, d3]; first | done | rfl))) | ((with_reducible first | apply WO_no_i | apply WT_no_i); (case hw => (simp [t0, t3, t4, qi, qj, qf, l1, n1, oc, od, i1, c2, d2, l2, n2, q, qx, c3, d3]; done)); (case hp => (simp [t0, t3, t4, qi, qj, qf, l1, n1, oc, od, i1, c2, d2, l2, n2, q, qx, c3, d3]; first | done | rfl))) | ((with_reducible first | apply WO_skip_i | apply WT_skip_i); (case hw => (simp [t0, t3, t4, qi, qj, qf, l1, n1, oc, od, i1, c2, d2, l2, n2, q, qx, c3, d3]; done)); (case he => (simp [t0, t3, t4, qi, qj, qf, l1, n1, oc, od, i1, c2, d2, l2, n2, q, qx, c3, d3]; first | done | rfl)); (case hp => (simp [t0, t3, t4, qi, qj, qf, l1, n1, oc, od, i1, c2, d2, l2, n2, q, qx, c3, d3]; first | done | rfl))) | ((with_reducible first | apply WO_call_i | apply WT_call_i); (case hw => (simp [t0, t3, t4, qi, qj, qf, l1, n1, oc, od, i1, c2, d2, l2, n2, q, qx, c3, d3]; done)); (case he => (simp [t0, t3, t4, qi, qj, qf, l1, n1, oc, od, i1, c2, d2, l2, n2, q, qx, c3, d3]; first | done | exact ⟨rfl, rfl, rfl⟩ | rfl))))
    refine W_loop (fun m s => ∃ (t : Fm AV) (h : Hp Fm) (k : Nat) (few : List Ver) (u : AV), s = ⟨t, 47, h, none⟩ ∧ m = own2.length - k ∧ k ≤ own2.length ∧ tget t 0 = v ∧ tget t 3 = o ∧ tget t 4 = .int .i64 i ∧ tget t 5 = w2 ∧ tget t 6 = u ∧ tget t 7 = .int .i64 k ∧ AC hb h 8 (few.map encV) u ∧ few.length = k ∧ HE hb h) own2.length
      ⟨_, _, 0, [], .nils, rfl, rfl, Nat.zero_le _, by simp [t0], by simp [t3], by simp [t4], by simp, by simp, by simp, .inl ⟨rfl, rfl⟩, rfl, HE.refl _⟩ ?_
    clear t0 t3 t4 t
    rintro m s ⟨t, h, k, few, u, rfl, rfl, hk, t0, t3, t4, t5, t6, t7, hu, hfl, hq⟩
    have uc := hu.sv.cells
    have ud := hu.sv.isCell
    by_cases qk : k < own2.length
    · have i2 := hw2.idx Try.underlying34 z43 (k := .i64) (i := k) (by simp) (by simpa using qk)
      simp only [List.getElem_map, Int.toNat_natCast] at i2
      have w4 : IntKind.i64.wrap ((k : Int) + 1) = ((k + 1 : Nat) : Int) := by rw [wrap64 (by omega) (by omega)]; simp
      repeat (first | (with_reducible first | refine W_seq_i ?_ | refine W_block_i ?_ | refine W_region_i ?_ | refine W_skip_i ?_ | refine W_label_i ?_ | refine W_ret_i ?_ | refine W_exit_i ?_ | refine W_goto_i ?_ | refine W_scope_go ?_ | refine jumpW_r ?_ | refine jumpW_n ?_ | refine jumpW_x ?_ | refine blockW_g ?_ | refine thenW_n ?_ | refine blockW_n ?_ | refine blockW_x ?_ | refine blockW_y (by decide) ?_ | refine blockW_r ?_ | refine thenW_e (by simp; done) ?_ | refine WO_nil_i ?_ | refine WT_nil_i ?_) | (with_reducible apply W_cond_t; (case h => (simp [t0, t3, t4, t5, t6, t7, qk, l3, n3, i2, uc, ud]; done))) | (with_reducible apply W_cond_f; (case h => (simp [t0, t3, t4, t5, t6, t7, qk, l3, n3, i2, uc, ud]; done))) | ((with_reducible first | apply WO_val_i | apply WT_val_i); (case hw => (simp [t0, t3, t4, t5, t6, t7, qk, l3, n3, i2, uc, ud]; done)); (case he => (simp [t0, t3, t4, t5, t6, t7, qk, l3, n3, i2, uc, ud]; first | done | exact ⟨rfl, rfl⟩ | rfl)); (case hp => (simp [t0, t3, t4, t5, t6, t7, qk, l3, n3, i2, uc, ud]; first | done | rfl))) | ((with_reducible first | apply WO_no_i | apply WT_no_i); (case hw => (simp [t0, t3, t4, t5, t6, t7, qk, l3, n3, i2, uc, ud]; done)); (case hp => (simp [t0, t3, t4, t5, t6, t7, qk, l3, n3, i2, uc, ud]; first | done | rfl))) | ((with_reducible first | apply WO_skip_i | apply WT_skip_i); (case hw => (simp [t0, t3, t4, t5, t6, t7, qk, l3, n3, i2, uc, ud]; done)); (case he => (simp [t0, t3, t4, t5, t6, t7, qk, l3, n3, i2, uc, ud]; first | done | rfl)); (case hp => (simp [t0, t3, t4, t5, t6, t7, qk, l3, n3, i2, uc, ud]; first | done | rfl))) | ((with_reducible first | apply WO_call_i | apply WT_call_i); (case hw => (simp [t0, t3, t4, t5, t6, t7, qk, l3, n3, i2, uc, ud]; done)); (case he => (simp [t0, t3, t4, t5, t6, t7, qk, l3, n3, i2, uc, ud]; first | done | exact ⟨rfl, rfl, rfl⟩ | rfl))))
      refine A.mono (cut_ans own2[k] _) ?_
      rintro _ hh ⟨rfl, heh⟩
      have hph : hh.pol 43 = false := by rw [heh.pol, hq.pol, he.pol]; exact hpol 43
      refine ⟨_, by simp; first | done | rfl, ?_⟩
      repeat (first | (with_reducible first | refine W_seq_i ?_ | refine W_block_i ?_ | refine W_region_i ?_ | refine W_skip_i ?_ | refine W_label_i ?_ | refine W_ret_i ?_ | refine W_exit_i ?_ | refine W_goto_i ?_ | refine W_scope_go ?_ | refine jumpW_r ?_ | refine jumpW_n ?_ | refine jumpW_x ?_ | refine blockW_g ?_ | refine thenW_n ?_ | refine blockW_n ?_ | refine blockW_x ?_ | refine blockW_y (by decide) ?_ | refine blockW_r ?_ | refine thenW_e (by simp; done) ?_ | refine WO_nil_i ?_ | refine WT_nil_i ?_) | (with_reducible apply W_cond_t; (case h => (simp [t0, t3, t4, t5, t6, t7, newSeq, newSl, hph]; done))) | (with_reducible apply W_cond_f; (case h => (simp [t0, t3, t4, t5, t6, t7, newSeq, newSl, hph]; done))) | ((with_reducible first | apply WO_val_i | apply WT_val_i); (case hw => (simp [t0, t3, t4, t5, t6, t7, newSeq, newSl, hph]; done)); (case he => (simp [t0, t3, t4, t5, t6, t7, newSeq, newSl, hph]; first | done | exact ⟨rfl, rfl⟩ | rfl)); (case hp => (simp [t0, t3, t4, t5, t6, t7, newSeq, newSl, hph]; first | done | rfl))) | ((with_reducible first | apply WO_no_i | apply WT_no_i); (case hw => (simp [t0, t3, t4, t5, t6, t7, newSeq, newSl, hph]; done)); (case hp => (simp [t0, t3, t4, t5, t6, t7, newSeq, newSl, hph]; first | done | rfl))) | ((with_reducible first | apply WO_skip_i | apply WT_skip_i); (case hw => (simp [t0, t3, t4, t5, t6, t7, newSeq, newSl, hph]; done)); (case he => (simp [t0, t3, t4, t5, t6, t7, newSeq, newSl, hph]; first | done | rfl)); (case hp => (simp [t0, t3, t4, t5, t6, t7, newSeq, newSl, hph]; first | done | rfl))) | ((with_reducible first | apply WO_call_i | apply WT_call_i); (case hw => (simp [t0, t3, t4, t5, t6, t7, newSeq, newSl, hph]; done)); (case he => (simp [t0, t3, t4, t5, t6, t7, newSeq, newSl, hph]; first | done | exact ⟨rfl, rfl, rfl⟩ | rfl))))
      with_reducible apply WO_app_i; (case hw => (simp [t0, t3, t4, t5, t6, t7, newSeq, newSl, hph]; done)); (case ho => rfl); (case hb => rfl); (case ha => (simp [t0, t3, t4, t5, t6, t7, newSeq, newSl, hph]; first | done | exact ⟨rfl, rfl⟩ | rfl)); (case h1 => (simp; first | done | rfl)); (case h2 => (simp; first | done | rfl))
      refine app_then (AC.app (h0 := hb) etl_ver (hu.of (heh.newSl 1)) ((hq.trans heh).newSl 1) (by rw [he.pol]; exact hpol 43) (by simp; omega)) ?_
      rintro x4 h4 ⟨ac4, he4, ho4, hn4, hg4⟩
      have e4 := ac4.sv.cells
      have f4 := ac4.sv.isCell
      refine ⟨_, by simp; first | done | rfl, ?_⟩
      repeat (first | (with_reducible first | refine W_seq_i ?_ | refine W_block_i ?_ | refine W_region_i ?_ | refine W_skip_i ?_ | refine W_label_i ?_ | refine W_ret_i ?_ | refine W_exit_i ?_ | refine W_goto_i ?_ | refine W_scope_go ?_ | refine jumpW_r ?_ | refine jumpW_n ?_ | refine jumpW_x ?_ | refine blockW_g ?_ | refine thenW_n ?_ | refine blockW_n ?_ | refine blockW_x ?_ | refine blockW_y (by decide) ?_ | refine blockW_r ?_ | refine thenW_e (by simp; done) ?_ | refine WO_nil_i ?_ | refine WT_nil_i ?_) | (with_reducible apply W_cond_t; (case h => (simp [t0, t3, t4, t5, t6, t7, e4, f4, w4]; done))) | (with_reducible apply W_cond_f; (case h => (simp [t0, t3, t4, t5, t6, t7, e4, f4, w4]; done))) | ((with_reducible first | apply WO_val_i | apply WT_val_i); (case hw => (simp [t0, t3, t4, t5, t6, t7, e4, f4, w4]; done)); (case he => (simp [t0, t3, t4, t5, t6, t7, e4, f4, w4]; first | done | exact ⟨rfl, rfl⟩ | rfl)); (case hp => (simp [t0, t3, t4, t5, t6, t7, e4, f4, w4]; first | done | rfl))) | ((with_reducible first | apply WO_no_i | apply WT_no_i); (case hw => (simp [t0, t3, t4, t5, t6, t7, e4, f4, w4]; done)); (case hp => (simp [t0, t3, t4, t5, t6, t7, e4, f4, w4]; first | done | rfl))) | ((with_reducible first | apply WO_skip_i | apply WT_skip_i); (case hw => (simp [t0, t3, t4, t5, t6, t7, e4, f4, w4]; done)); (case he => (simp [t0, t3, t4, t5, t6, t7, e4, f4, w4]; first | done | rfl)); (case hp => (simp [t0, t3, t4, t5, t6, t7, e4, f4, w4]; first | done | rfl))) | ((with_reducible first | apply WO_call_i | apply WT_call_i); (case hw => (simp [t0, t3, t4, t5, t6, t7, e4, f4, w4]; done)); (case he => (simp [t0, t3, t4, t5, t6, t7, e4, f4, w4]; first | done | exact ⟨rfl, rfl, rfl⟩ | rfl))))
      refine ⟨_, ?_, _, _, k + 1, few ++ [cutV own2[k]], _, rfl, rfl, by omega, by simp [t0], by simp [t3], by simp [t4], by simp [t5], rfl, by simp, ?_, by simp; omega, he4⟩
      · omega
      · simpa using ac4
    · have hke : k = own2.length := by omega
      have qn : ¬ (k < own2.length) := qk
      repeat (first | (with_reducible first | refine W_seq_i ?_ | refine W_block_i ?_ | refine W_region_i ?_ | refine W_skip_i ?_ | refine W_label_i ?_ | refine W_ret_i ?_ | refine W_exit_i ?_ | refine W_goto_i ?_ | refine W_scope_go ?_ | refine jumpW_r ?_ | refine jumpW_n ?_ | refine jumpW_x ?_ | refine blockW_g ?_ | refine thenW_n ?_ | refine blockW_n ?_ | refine blockW_x ?_ | refine blockW_y (by decide) ?_ | refine blockW_r ?_ | refine thenW_e (by simp; done) ?_ | refine WO_nil_i ?_ | refine WT_nil_i ?_) | (with_reducible apply W_cond_t; (case h => (simp [t0, t3, t4, t5, t6, t7, qk, qn, l3, n3, uc, ud]; done))) | (with_reducible apply W_cond_f; (case h => (simp [t0, t3, t4, t5, t6, t7, qk, qn, l3, n3, uc, ud]; done))) | ((with_reducible first | apply WO_val_i | apply WT_val_i); (case hw => (simp [t0, t3, t4, t5, t6, t7, qk, qn, l3, n3, uc, ud]; done)); (case he => (simp [t0, t3, t4, t5, t6, t7, qk, qn, l3, n3, uc, ud]; first | done | exact ⟨rfl, rfl⟩ | rfl)); (case hp => (simp [t0, t3, t4, t5, t6, t7, qk, qn, l3, n3, uc, ud]; first | done | rfl))) | ((with_reducible first | apply WO_no_i | apply WT_no_i); (case hw => (simp [t0, t3, t4, t5, t6, t7, qk, qn, l3, n3, uc, ud]; done)); (case hp => (simp [t0, t3, t4, t5, t6, t7, qk, qn, l3, n3, uc, ud]; first | done | rfl))) | ((with_reducible first | apply WO_skip_i | apply WT_skip_i); (case hw => (simp [t0, t3, t4, t5, t6, t7, qk, qn, l3, n3, uc, ud]; done)); (case he => (simp [t0, t3, t4, t5, t6, t7, qk, qn, l3, n3, uc, ud]; first | done | rfl)); (case hp => (simp [t0, t3, t4, t5, t6, t7, qk, qn, l3, n3, uc, ud]; first | done | rfl))) | ((with_reducible first | apply WO_call_i | apply WT_call_i); (case hw => (simp [t0, t3, t4, t5, t6, t7, qk, qn, l3, n3, uc, ud]; done)); (case he => (simp [t0, t3, t4, t5, t6, t7, qk, qn, l3, n3, uc, ud]; first | done | exact ⟨rfl, rfl, rfl⟩ | rfl))))
      refine A.mono (sorted_ans few u hu.sv (by omega) _ (by rw [hq.pol, he.pol]; exact hpol 43)) ?_
      rintro sr hh ⟨srt, hs1, _, hs3, hs4, heh'⟩
      have heh := hq.trans heh'
      have sc := hs4.cells
      have sd := hs4.isCell
      have hph : hh.pol 34 = false := by rw [heh.pol, he.pol]; exact hpol 34
      refine ⟨_, by simp; first | done | rfl, ?_⟩
      repeat (first | (with_reducible first | refine W_seq_i ?_ | refine W_block_i ?_ | refine W_region_i ?_ | refine W_skip_i ?_ | refine W_label_i ?_ | refine W_ret_i ?_ | refine W_exit_i ?_ | refine W_goto_i ?_ | refine W_scope_go ?_ | refine jumpW_r ?_ | refine jumpW_n ?_ | refine jumpW_x ?_ | refine blockW_g ?_ | refine thenW_n ?_ | refine blockW_n ?_ | refine blockW_x ?_ | refine blockW_y (by decide) ?_ | refine blockW_r ?_ | refine thenW_e (by simp; done) ?_ | refine WO_nil_i ?_ | refine WT_nil_i ?_) | (with_reducible apply W_cond_t; (case h => (simp [t0, t3, t4, t5, t6, t7, newSeq, newSl, hph, sc, sd]; done))) | (with_reducible apply W_cond_f; (case h => (simp [t0, t3, t4, t5, t6, t7, newSeq, newSl, hph, sc, sd]; done))) | ((with_reducible first | apply WO_val_i | apply WT_val_i); (case hw => (simp [t0, t3, t4, t5, t6, t7, newSeq, newSl, hph, sc, sd]; done)); (case he => (simp [t0, t3, t4, t5, t6, t7, newSeq, newSl, hph, sc, sd]; first | done | exact ⟨rfl, rfl⟩ | rfl)); (case hp => (simp [t0, t3, t4, t5, t6, t7, newSeq, newSl, hph, sc, sd]; first | done | rfl))) | ((with_reducible first | apply WO_no_i | apply WT_no_i); (case hw => (simp [t0, t3, t4, t5, t6, t7, newSeq, newSl, hph, sc, sd]; done)); (case hp => (simp [t0, t3, t4, t5, t6, t7, newSeq, newSl, hph, sc, sd]; first | done | rfl))) | ((with_reducible first | apply WO_skip_i | apply WT_skip_i); (case hw => (simp [t0, t3, t4, t5, t6, t7, newSeq, newSl, hph, sc, sd]; done)); (case he => (simp [t0, t3, t4, t5, t6, t7, newSeq, newSl, hph, sc, sd]; first | done | rfl)); (case hp => (simp [t0, t3, t4, t5, t6, t7, newSeq, newSl, hph, sc, sd]; first | done | rfl))) | ((with_reducible first | apply WO_call_i | apply WT_call_i); (case hw => (simp [t0, t3, t4, t5, t6, t7, newSeq, newSl, hph, sc, sd]; done)); (case he => (simp [t0, t3, t4, t5, t6, t7, newSeq, newSl, hph, sc, sd]; first | done | exact ⟨rfl, rfl, rfl⟩ | rfl))))
      with_reducible apply WO_app_i; (case hw => (simp [t0, t3, t4, t5, t6, t7, newSeq, newSl, hph, sc, sd]; done)); (case ho => rfl); (case hb => rfl); (case ha => (simp [t0, t3, t4, t5, t6, t7, newSeq, newSl, hph, sc, sd]; first | done | exact ⟨rfl, rfl⟩ | rfl)); (case h1 => (simp; first | done | rfl)); (case h2 => (simp; first | done | rfl))
      refine app_then (AC.app (h0 := h0) et32 (ho.of (heh.newSl 1)) ((he.trans heh).newSl 1) (hpol 34) (by simp; omega)) ?_
      rintro x4 h4 ⟨ac4, he4, _, _, _⟩
      have e4 := ac4.sv.cells
      have f4 := ac4.sv.isCell
      refine ⟨_, by simp; first | done | rfl, ?_⟩
      repeat (first | (with_reducible first | refine W_seq_i ?_ | refine W_block_i ?_ | refine W_region_i ?_ | refine W_skip_i ?_ | refine W_label_i ?_ | refine W_ret_i ?_ | refine W_exit_i ?_ | refine W_goto_i ?_ | refine W_scope_go ?_ | refine jumpW_r ?_ | refine jumpW_n ?_ | refine jumpW_x ?_ | refine blockW_g ?_ | refine thenW_n ?_ | refine blockW_n ?_ | refine blockW_x ?_ | refine blockW_y (by decide) ?_ | refine blockW_r ?_ | refine thenW_e (by simp; done) ?_ | refine WO_nil_i ?_ | refine WT_nil_i ?_) | (with_reducible apply W_cond_t; (case h => (simp [t0, t3, t4, t5, t6, t7, e4, f4, w3]; done))) | (with_reducible apply W_cond_f; (case h => (simp [t0, t3, t4, t5, t6, t7, e4, f4, w3]; done))) | ((with_reducible first | apply WO_val_i | apply WT_val_i); (case hw => (simp [t0, t3, t4, t5, t6, t7, e4, f4, w3]; done)); (case he => (simp [t0, t3, t4, t5, t6, t7, e4, f4, w3]; first | done | exact ⟨rfl, rfl⟩ | rfl)); (case hp => (simp [t0, t3, t4, t5, t6, t7, e4, f4, w3]; first | done | rfl))) | ((with_reducible first | apply WO_no_i | apply WT_no_i); (case hw => (simp [t0, t3, t4, t5, t6, t7, e4, f4, w3]; done)); (case hp => (simp [t0, t3, t4, t5, t6, t7, e4, f4, w3]; first | done | rfl))) | ((with_reducible first | apply WO_skip_i | apply WT_skip_i); (case hw => (simp [t0, t3, t4, t5, t6, t7, e4, f4, w3]; done)); (case he => (simp [t0, t3, t4, t5, t6, t7, e4, f4, w3]; first | done | rfl)); (case hp => (simp [t0, t3, t4, t5, t6, t7, e4, f4, w3]; first | done | rfl))) | ((with_reducible first | apply WO_call_i | apply WT_call_i); (case hw => (simp [t0, t3, t4, t5, t6, t7, e4, f4, w3]; done)); (case he => (simp [t0, t3, t4, t5, t6, t7, e4, f4, w3]; first | done | exact ⟨rfl, rfl, rfl⟩ | rfl))))
      refine ⟨_, ?_, _, _, i + 1, out ++ [(sr, srt)], _, rfl, rfl, by omega, by omega, by simp [t0], rfl, by simp, ?_, ?_, by simp [hol], he4⟩
      · omega
      · simpa using ac4
      · intro q hq'
        rcases List.mem_append.mp hq' with e | e
        · exact hout q e
        · rw [List.mem_singleton.mp e]; exact ⟨hs4, hs1, by show srt.length ≤ 12; omega⟩
end Go.Vn

set_option maxRecDepth 20000
namespace Go.Vn
open Go.Proofs

theorem flat_le {E : Type} (ls : List (AV × List E)) (n : Nat) (h : ∀ q ∈ ls, q.2.length ≤ n) : (ls.flatMap Prod.snd).length ≤ ls.length * n := by
  induction ls with
  | nil => simp
  | cons a l ih =>
    have h1 := ih fun q hq => h q (List.mem_cons_of_mem _ hq)
    have h2 := h a (List.mem_cons_self ..)
    rw [List.flatMap_cons, List.length_append, List.length_cons, Nat.add_mul]; omega

theorem versions_ref (ls : List (AV × List Ver)) (v : AV) (hv : SV 1 (ls.map Prod.fst) v) (hls : ∀ q ∈ ls, SV 8 (q.2.map encV) q.1) (hlen : ls.length ≤ 1000) (hsum : (ls.flatMap Prod.snd).length ≤ 1000000) (h0 : Hp Fm) (hpol : h0.pol 43 = false) :
    A Try.prog TT (.func 15) [v] h0 (fun r h' => ∃ out, Sorted cmpV out ∧ (∀ x, alike cmpV x out = alike cmpV x (ls.flatMap Prod.snd)) ∧ out.length = (ls.flatMap Prod.snd).length ∧ SV 8 (out.map encV) r ∧ HE h0 h') := by
  have l1 := hv.len Try.underlying32
  rw [List.length_map] at l1
  have n1 := hv.nm
  apply A_go Try.func15 rfl (by rfl); (case hn => (simp [Try.ntmps15]; rfl))
  repeat (first | (with_reducible first | refine W_seq_i ?_ | refine W_block_i ?_ | refine W_region_i ?_ | refine W_skip_i ?_ | refine W_label_i ?_ | refine W_ret_i ?_ | refine W_exit_i ?_ | refine W_goto_i ?_ | refine W_scope_go ?_ | refine jumpW_r ?_ | refine jumpW_n ?_ | refine jumpW_x ?_ | refine blockW_g ?_ | refine thenW_n ?_ | refine blockW_n ?_ | refine blockW_x ?_ | refine blockW_y (by decide) ?_ | refine blockW_r ?_ | refine thenW_e (by simp; done) ?_ | refine WO_nil_i ?_ | refine WT_nil_i ?_) | (with_reducible apply W_cond_t; (case h => (simp; done))) | (with_reducible apply W_cond_f; (case h => (simp; done))) | ((with_reducible first | apply WO_val_i | apply WT_val_i); (case hw => (simp; done)); (case he => (simp; first | done | exact ⟨rfl, rfl⟩ | rfl)); (case hp => (simp; first | done | rfl))) | ((with_reducible first | apply WO_no_i | apply WT_no_i); (case hw => (simp; done)); (case hp => (simp; first | done | rfl))) | ((with_reducible first | apply WO_skip_i | apply WT_skip_i); (case hw => (simp; done)); (case he => (simp; first | done | rfl)); (case hp => (simp; first | done | rfl))) | ((with_reducible first | apply WO_call_i | apply WT_call_i); (case hw => (simp; done)); (case he => (simp; first | done | exact ⟨rfl, rfl, rfl⟩ | rfl))))
  refine W_loop (fun m s => ∃ (t : Fm AV) (h : Hp Fm) (i : Nat) (o : AV), s = ⟨t, 19, h, none⟩ ∧ m = ls.length - i ∧ i ≤ ls.length ∧ tget t 0 = v ∧ tget t 3 = o ∧ tget t 4 = .int .i64 i ∧ AC h0 h 8 (((ls.take i).flatMap Prod.snd).map encV) o ∧ HE h0 h) ls.length
    ⟨_, _, 0, .nils, rfl, rfl, by omega, by simp, by simp, by simp, .inl ⟨rfl, by simp⟩, HE.refl _⟩ ?_
  rintro m s ⟨t, h, i, o, rfl, rfl, hi, t0, t3, t4, ho, he⟩
  have oc := ho.sv.cells
  have od := ho.sv.isCell
  by_cases qi : i < ls.length
  case neg =>
    have hie : i = ls.length := by omega
    have qn : ¬ (i < ls.length) := qi
    repeat (first | (with_reducible first | refine W_seq_i ?_ | refine W_block_i ?_ | refine W_region_i ?_ | refine W_skip_i ?_ | refine W_label_i ?_ | refine W_ret_i ?_ | refine W_exit_i ?_ | refine W_goto_i ?_ | refine W_scope_go ?_ | refine jumpW_r ?_ | refine jumpW_n ?_ | refine jumpW_x ?_ | refine blockW_g ?_ | refine thenW_n ?_ | refine blockW_n ?_ | refine blockW_x ?_ | refine blockW_y (by decide) ?_ | refine blockW_r ?_ | refine thenW_e (by simp; done) ?_ | refine WO_nil_i ?_ | refine WT_nil_i ?_) | (with_reducible apply W_cond_t; (case h => (simp [t0, t3, t4, qi, qn, l1, n1, oc, od]; done))) | (with_reducible apply W_cond_f; (case h => (simp [t0, t3, t4, qi, qn, l1, n1, oc, od]; done))) | ((with_reducible first | apply WO_val_i | apply WT_val_i); (case hw => (simp [t0, t3, t4, qi, qn, l1, n1, oc, od]; done)); (case he => (simp [t0, t3, t4, qi, qn, l1, n1, oc, od]; first | done | exact ⟨rfl, rfl⟩ | rfl)); (case hp => (simp [t0, t3, t4, qi, qn, l1, n1, oc, od]; first | done | rfl))) | ((with_reducible first | apply WO_no_i | apply WT_no_i); (case hw => (simp [t0, t3, t4, qi, qn, l1, n1, oc, od]; done)); (case hp => (simp [t0, t3, t4, qi, qn, l1, n1, oc, od]; first | done | rfl))) | ((with_reducible first | apply WO_skip_i | apply WT_skip_i); (case hw => (simp [t0, t3, t4, qi, qn, l1, n1, oc, od]; done)); (case he => (simp [t0, t3, t4, qi, qn, l1, n1, oc, od]; first | done | rfl)); (case hp => (simp [t0, t3, t4, qi, qn, l1, n1, oc, od]; first | done | rfl))) | ((with_reducible first | apply WO_call_i | apply WT_call_i); (case hw => (simp [t0, t3, t4, qi, qn, l1, n1, oc, od]; done)); (case he => (simp [t0, t3, t4, qi, qn, l1, n1, oc, od]; first | done | exact ⟨rfl, rfl, rfl⟩ | rfl))))
    subst hie
    have hs := ho.sv
    rw [List.take_length] at hs
    refine A.mono (sorted_ans _ o hs (by omega) _ (by rw [he.pol]; exact hpol)) ?_
    rintro r hh ⟨out, k1, k2, k3, k4, k5⟩
    have rc := k4.cells
    have rd := k4.isCell
    refine ⟨_, by simp; first | done | rfl, ?_⟩
    repeat (first | (with_reducible first | refine W_seq_i ?_ | refine W_block_i ?_ | refine W_region_i ?_ | refine W_skip_i ?_ | refine W_label_i ?_ | refine W_ret_i ?_ | refine W_exit_i ?_ | refine W_goto_i ?_ | refine W_scope_go ?_ | refine jumpW_r ?_ | refine jumpW_n ?_ | refine jumpW_x ?_ | refine blockW_g ?_ | refine thenW_n ?_ | refine blockW_n ?_ | refine blockW_x ?_ | refine blockW_y (by decide) ?_ | refine blockW_r ?_ | refine thenW_e (by simp; done) ?_ | refine WO_nil_i ?_ | refine WT_nil_i ?_) | (with_reducible apply W_cond_t; (case h => (simp [rc, rd]; done))) | (with_reducible apply W_cond_f; (case h => (simp [rc, rd]; done))) | ((with_reducible first | apply WO_val_i | apply WT_val_i); (case hw => (simp [rc, rd]; done)); (case he => (simp [rc, rd]; first | done | exact ⟨rfl, rfl⟩ | rfl)); (case hp => (simp [rc, rd]; first | done | rfl))) | ((with_reducible first | apply WO_no_i | apply WT_no_i); (case hw => (simp [rc, rd]; done)); (case hp => (simp [rc, rd]; first | done | rfl))) | ((with_reducible first | apply WO_skip_i | apply WT_skip_i); (case hw => (simp [rc, rd]; done)); (case he => (simp [rc, rd]; first | done | rfl)); (case hp => (simp [rc, rd]; first | done | rfl))) | ((with_reducible first | apply WO_call_i | apply WT_call_i); (case hw => (simp [rc, rd]; done)); (case he => (simp [rc, rd]; first | done | exact ⟨rfl, rfl, rfl⟩ | rfl))))
    (first | apply endW_r | apply endW_n); (case h1 => (simp [Try.results15]; first | done | rfl))
    exact ⟨out, k1, k2, k3, by simpa using k4, he.trans k5⟩
  have w3 : IntKind.i64.wrap ((i : Int) + 1) = ((i + 1 : Nat) : Int) := by rw [wrap64 (by omega) (by omega)]; simp
  have i1 := hv.idx Try.underlying32 z34 (k := .i64) (i := i) (by simp) (by simpa using qi)
  simp only [List.getElem_map, Int.toNat_natCast] at i1
  have hw := hls ls[i] (List.getElem_mem qi)
  have htk : (ls.take (i + 1)).flatMap Prod.snd = (ls.take i).flatMap Prod.snd ++ ls[i].2 := by
    rw [List.take_succ_eq_append_getElem qi, List.flatMap_append]; simp
  have hle : ((ls.take (i + 1)).flatMap Prod.snd).length ≤ 1000000 := by
    have e : ls.flatMap Prod.snd = (ls.take (i + 1)).flatMap Prod.snd ++ (ls.drop (i + 1)).flatMap Prod.snd := by rw [← List.flatMap_append, List.take_append_drop]
    rw [e, List.length_append] at hsum; omega
  rw [htk] at hle
  obtain ⟨prev, hprev⟩ : ∃ prev, prev = (ls.take i).flatMap Prod.snd := ⟨_, rfl⟩
  rw [← hprev] at hle htk ho
  obtain ⟨pq, hpq⟩ : ∃ pq, pq = ls[i] := ⟨_, rfl⟩
  rw [← hpq] at hw i1 hle htk
  obtain ⟨w, own⟩ := pq
  simp only at hw i1 hle htk
  rw [List.length_append] at hle
  have c2 := hw.cells
  have d2 := hw.isCell
  repeat (first | (with_reducible first | refine W_seq_i ?_ | refine W_block_i ?_ | refine W_region_i ?_ | refine W_skip_i ?_ | refine W_label_i ?_ | refine W_ret_i ?_ | refine W_exit_i ?_ | refine W_goto_i ?_ | refine W_scope_go ?_ | refine jumpW_r ?_ | refine jumpW_n ?_ | refine jumpW_x ?_ | refine blockW_g ?_ | refine thenW_n ?_ | refine blockW_n ?_ | refine blockW_x ?_ | refine blockW_y (by decide) ?_ | refine blockW_r ?_ | refine thenW_e (by simp; done) ?_ | refine WO_nil_i ?_ | refine WT_nil_i ?_) | (with_reducible apply W_cond_t; (case h => (simp [t0, t3, t4, qi, l1, n1, oc, od, i1, c2, d2]; done))) | (with_reducible apply W_cond_f; (case h => (simp [t0, t3, t4, qi, l1, n1, oc, od, i1, c2, d2]; done))) | ((with_reducible first | apply WO_val_i | apply WT_val_i); (case hw => (simp [t0, t3, t4, qi, l1, n1, oc, od, i1, c2, d2]; done)); (case he => (simp [t0, t3, t4, qi, l1, n1, oc, od, i1, c2, d2]; first | done | exact ⟨rfl, rfl⟩ | rfl)); (case hp => (simp [t0, t3, t4, qi, l1, n1, oc, od, i1, c2, d2]; first | done | rfl))) | ((with_reducible first | apply WO_no_i | apply WT_no_i); (case hw => (simp [t0, t3, t4, qi, l1, n1, oc, od, i1, c2, d2]; done)); (case hp => (simp [t0, t3, t4, qi, l1, n1, oc, od, i1, c2, d2]; first | done | rfl))) | ((with_reducible first | apply WO_skip_i | apply WT_skip_i); (case hw => (simp [t0, t3, t4, qi, l1, n1, oc, od, i1, c2, d2]; done)); (case he => (simp [t0, t3, t4, qi, l1, n1, oc, od, i1, c2, d2]; first | done | rfl)); (case hp => (simp [t0, t3, t4, qi, l1, n1, oc, od, i1, c2, d2]; first | done | rfl))) | ((with_reducible first | apply WO_call_i | apply WT_call_i); (case hw => (simp [t0, t3, t4, qi, l1, n1, oc, od, i1, c2, d2]; done)); (case he => (simp [t0, t3, t4, qi, l1, n1, oc, od, i1, c2, d2]; first | done | exact ⟨rfl, rfl, rfl⟩ | rfl))))
  with_reducible apply WO_app_i; (case hw => (simp [t0, t3, t4, qi, l1, n1, oc, od, i1, c2, d2]; done)); (case ho => rfl); (case hb => rfl); (case ha => (simp [t0, t3, t4, qi, l1, n1, oc, od, i1, c2, d2]; first | done | exact ⟨rfl, rfl⟩ | rfl)); (case h1 => (simp; first | done | rfl)); (case h2 => (simp; first | done | rfl))
  refine app_then (AC.appN (h0 := h0) etl_ver ho he hpol (SV.newEls hw) (by simp; omega)) ?_
  rintro x4 h4 ⟨ac4, he4, _, _, _⟩
  have e4 := ac4.sv.cells
  have f4 := ac4.sv.isCell
  refine ⟨_, by simp; first | done | rfl, ?_⟩
  repeat (first | (with_reducible first | refine W_seq_i ?_ | refine W_block_i ?_ | refine W_region_i ?_ | refine W_skip_i ?_ | refine W_label_i ?_ | refine W_ret_i ?_ | refine W_exit_i ?_ | refine W_goto_i ?_ | refine W_scope_go ?_ | refine jumpW_r ?_ | refine jumpW_n ?_ | refine jumpW_x ?_ | refine blockW_g ?_ | refine thenW_n ?_ | refine blockW_n ?_ | refine blockW_x ?_ | refine blockW_y (by decide) ?_ | refine blockW_r ?_ | refine thenW_e (by simp; done) ?_ | refine WO_nil_i ?_ | refine WT_nil_i ?_) | (with_reducible apply W_cond_t; (case h => (simp [t0, t3, t4, e4, f4, w3]; done))) | (with_reducible apply W_cond_f; (case h => (simp [t0, t3, t4, e4, f4, w3]; done))) | ((with_reducible first | apply WO_val_i | apply WT_val_i); (case hw => (simp [t0, t3, t4, e4, f4, w3]; done)); (case he => (simp [t0, t3, t4, e4, f4, w3]; first | done | exact ⟨rfl, rfl⟩ | rfl)); (case hp => (simp [t0, t3, t4, e4, f4, w3]; first | done | rfl))) | ((with_reducible first | apply WO_no_i | apply WT_no_i); (case hw => (simp [t0, t3, t4, e4, f4, w3]; done)); (case hp => (simp [t0, t3, t4, e4, f4, w3]; first | done | rfl))) | ((with_reducible first | apply WO_skip_i | apply WT_skip_i); (case hw => (simp [t0, t3, t4, e4, f4, w3]; done)); (case he => (simp [t0, t3, t4, e4, f4, w3]; first | done | rfl)); (case hp => (simp [t0, t3, t4, e4, f4, w3]; first | done | rfl))) | ((with_reducible first | apply WO_call_i | apply WT_call_i); (case hw => (simp [t0, t3, t4, e4, f4, w3]; done)); (case he => (simp [t0, t3, t4, e4, f4, w3]; first | done | exact ⟨rfl, rfl, rfl⟩ | rfl))))
  refine ⟨_, ?_, _, _, i + 1, _, rfl, rfl, by omega, by simp [t0], rfl, by simp, ?_, he4⟩
  · omega
  · rw [htk, List.map_append]; simpa using ac4
end Go.Vn

set_option maxRecDepth 20000
namespace Go.Vn
open Go.Proofs
@[simp] theorem hb7 : hasBody Try.prog 7 = true := by kernel_rfl
@[simp] theorem hb17 : hasBody Try.prog 17 = true := by kernel_rfl

theorem left_cons {E : Type} (x : Hd E) (L : List (Hd E)) : left (x :: L) = x.xs.length + left L := by simp [left]
theorem left_hds {E : Type} : ∀ (ls : List (AV × List E)) (i : Nat), left (hds i ls) = (ls.flatMap Prod.snd).length
  | [], i => by simp [hds, left]
  | p :: r, i => by
    simp only [hds, List.flatMap_cons, List.length_append]
    by_cases q : p.2 = []
    · rw [if_pos q, List.nil_append, left_hds r (i + 1), q]; simp
    · rw [if_neg q, List.singleton_append, left_cons, left_hds r (i + 1)]

/-- What All answers: sorted, and of all of the lists the things alike, in the lists' row. -/
theorem all_ans (ls : List (AV × List Ver)) (v : AV) (hv : SV 1 (ls.map Prod.fst) v) (hls : ∀ q ∈ ls, SV 8 (q.2.map encV) q.1) (hso : ∀ q ∈ ls, Sorted cmpV q.2) (hlen : ls.length ≤ 1000) (hsum : (ls.flatMap Prod.snd).length ≤ 1000000) (h0 : Hp Fm) (hp0 : h0.pol 43 = false) :
    A Try.prog TT (.func 17) [.fn (.func 18) [] [], v] h0 (fun r h' => ∃ out, Sorted cmpV out ∧ (∀ x, alike cmpV x out = alike cmpV x (ls.flatMap Prod.snd)) ∧ out.length = (ls.flatMap Prod.snd).length ∧ SV 8 (out.map encV) r ∧ HE h0 h') := by
  refine A.mono (all_ver ord_ver (lessH_ord cmpV_ok) v ls hv hls hlen (by rw [left_hds]; exact hsum) h0 hp0) ?_
  rintro r h' ⟨out, k1, k2, k3⟩
  obtain ⟨t1, t2⟩ := told cmpV_ok hso k1
  have hl := k1.left
  rw [left_hds] at hl
  exact ⟨out, t1, t2, by have : left ([] : List (Hd Ver)) = 0 := rfl; omega, k2, k3⟩

theorem all_same (ls : List (AV × List Ver)) (own : List Ver) (v : AV) (hv : SV 1 (ls.map Prod.fst) v) (hls : ∀ q ∈ ls, SV 8 (q.2.map encV) q.1) (hso : ∀ q ∈ ls, Sorted cmpV q.2) (hown : Sorted cmpV own) (hfl : ls.flatMap Prod.snd = own) (hlen : ls.length ≤ 1000) (hsum : own.length ≤ 1000000) (h0 : Hp Fm) (hp0 : h0.pol 43 = false) :
    A Try.prog TT (.func 17) [.fn (.func 18) [] [], v] h0 (fun r h' => SV 8 (own.map encV) r ∧ HE h0 h') := by
  refine A.mono (all_ans ls v hv hls hso hlen (by rw [hfl]; exact hsum) h0 hp0) ?_
  rintro r h' ⟨out, k1, k2, _, k3, k4⟩
  have : out = own := sorted_unique cmpV_ok _ _ k1 hown (fun x => by rw [k2 x, hfl])
  subst this
  exact ⟨k3, k4⟩
end Go.Vn
