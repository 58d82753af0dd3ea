/- What functions of the program come to, in the value machine (a part of the proof of the claim's statement). No condition. -/
import Derived.Test.YtlcodjmjchiemaaVmTo
set_option linter.unusedSimpArgs false
set_option linter.unusedVariables false
namespace Go.Vm
open Go.Proofs

theorem common1_ans (p : Int × Int) (c d : Int) (o : Nat) (h : Hp Fm) (ho : o < h.no) (hr : Mp.get h.obj o = some (.row [.int .i64 c, .int .i64 d])) :
    A Try.prog 25 [leg p, .ptr o 0] h (fun r h' => r = .bool (decide (p.1 = c)) ∧ HE h h') := by
  have hne : o ≠ h.no := by omega
  apply A_go Try.func25 rfl; (case hn => (simp [Try.ntmps25]; rfl))
  repeat (first | with_reducible refine W_seq_i ?_ | with_reducible refine W_block_i ?_ | with_reducible refine W_region_i ?_ | with_reducible refine W_skip_i ?_ | with_reducible refine W_label_i ?_ | with_reducible refine W_ret_i ?_ | with_reducible refine W_exit_i ?_ | with_reducible refine W_goto_i ?_ | with_reducible refine W_scope_go ?_ | with_reducible refine jumpW_r ?_ | with_reducible refine jumpW_n ?_ | with_reducible refine jumpW_x ?_ | with_reducible refine blockW_g ?_ | with_reducible refine thenW_n ?_ | with_reducible refine blockW_n ?_ | with_reducible refine blockW_x ?_ | with_reducible refine blockW_y (by decide) ?_ | with_reducible refine blockW_r ?_ | with_reducible refine thenW_e (by simp; done) ?_ | with_reducible refine WO_nil_i ?_ | with_reducible refine WT_nil_i ?_ | (with_reducible apply W_cond_t; (case h => (simp [hr, hne]; done))) | (with_reducible apply W_cond_f; (case h => (simp [hr, hne]; done))) | (with_reducible apply WO_val_i; (case hw => (simp [hr, hne]; done)); (case he => (simp [hr, hne]; first | done | exact ⟨rfl, rfl⟩ | rfl)); (case hp => (simp [hr, hne]; first | done | rfl))) | (with_reducible apply WO_no_i; (case hw => (simp [hr, hne]; done)); (case hp => (simp [hr, hne]; first | done | rfl))) | (with_reducible apply WO_skip_i; (case hw => (simp [hr, hne]; done)); (case he => (simp [hr, hne]; first | done | rfl)); (case hp => (simp [hr, hne]; first | done | rfl))) | (with_reducible apply WO_call_i; (case hw => (simp [hr, hne]; done)); (case he => (simp [hr, hne]; first | done | exact ⟨rfl, rfl, rfl⟩ | rfl))) | (with_reducible apply WT_val_i; (case hw => (simp [hr, hne]; done)); (case he => (simp [hr, hne]; first | done | exact ⟨rfl, rfl⟩ | rfl)); (case hp => (simp [hr, hne]; first | done | rfl))) | (with_reducible apply WT_no_i; (case hw => (simp [hr, hne]; done)); (case hp => (simp [hr, hne]; first | done | rfl))) | (with_reducible apply WT_skip_i; (case hw => (simp [hr, hne]; done)); (case he => (simp [hr, hne]; first | done | rfl)); (case hp => (simp [hr, hne]; first | done | rfl))) | (with_reducible apply WT_call_i; (case hw => (simp [hr, hne]; done)); (case he => (simp [hr, hne]; first | done | exact ⟨rfl, rfl, rfl⟩ | rfl))))
  apply endW_r; (case h1 => (simp [Try.results25]; first | done | rfl))
  exact ⟨rfl, (HE.refl h).new _⟩

def CommonR (P Q : List (Int × Int)) (c : Int) : Prop :=
  (∃ (i : Nat) (hi : i < P.length), c = P[i].1 ∧ (∃ w ∈ Q, w.1 = c) ∧ ∀ (j : Nat) (hj : j < P.length), j < i → ∀ w ∈ Q, w.1 ≠ P[j].1) ∨ (c = -1 ∧ ∀ p ∈ P, ∀ w ∈ Q, w.1 ≠ p.1)

theorem common_ans (l : List Br) (hl : l.length ≤ 100) (v : AV) (hv : SV 4 (l.map Br.enc) v) (a b : Int) (h : Hp Fm) :
    A Try.prog 18 [v, .int .i64 a, .int .i64 b] h (fun r h' => ∃ c, r = .int .i64 c ∧ CommonR (pathL l a 0) (pathL l b 0) c ∧ HE h h') := by
  apply A_go Try.func18 rfl; (case hn => (simp [Try.ntmps18]; rfl))
  repeat (first | with_reducible refine W_seq_i ?_ | with_reducible refine W_block_i ?_ | with_reducible refine W_region_i ?_ | with_reducible refine W_skip_i ?_ | with_reducible refine W_label_i ?_ | with_reducible refine W_ret_i ?_ | with_reducible refine W_exit_i ?_ | with_reducible refine W_goto_i ?_ | with_reducible refine W_scope_go ?_ | with_reducible refine jumpW_r ?_ | with_reducible refine jumpW_n ?_ | with_reducible refine jumpW_x ?_ | with_reducible refine blockW_g ?_ | with_reducible refine thenW_n ?_ | with_reducible refine blockW_n ?_ | with_reducible refine blockW_x ?_ | with_reducible refine blockW_y (by decide) ?_ | with_reducible refine blockW_r ?_ | with_reducible refine thenW_e (by simp; done) ?_ | with_reducible refine WO_nil_i ?_ | with_reducible refine WT_nil_i ?_ | (with_reducible apply W_cond_t; (case h => (simp; done))) | (with_reducible apply W_cond_f; (case h => (simp; done))) | (with_reducible apply WO_val_i; (case hw => (simp; done)); (case he => (simp; first | done | exact ⟨rfl, rfl⟩ | rfl)); (case hp => (simp; first | done | rfl))) | (with_reducible apply WO_no_i; (case hw => (simp; done)); (case hp => (simp; first | done | rfl))) | (with_reducible apply WO_skip_i; (case hw => (simp; done)); (case he => (simp; first | done | rfl)); (case hp => (simp; first | done | rfl))) | (with_reducible apply WO_call_i; (case hw => (simp; done)); (case he => (simp; first | done | exact ⟨rfl, rfl, rfl⟩ | rfl))) | (with_reducible apply WT_val_i; (case hw => (simp; done)); (case he => (simp; first | done | exact ⟨rfl, rfl⟩ | rfl)); (case hp => (simp; first | done | rfl))) | (with_reducible apply WT_no_i; (case hw => (simp; done)); (case hp => (simp; first | done | rfl))) | (with_reducible apply WT_skip_i; (case hw => (simp; done)); (case he => (simp; first | done | rfl)); (case hp => (simp; first | done | rfl))) | (with_reducible apply WT_call_i; (case hw => (simp; done)); (case he => (simp; first | done | exact ⟨rfl, rfl, rfl⟩ | rfl))))
  refine A.mono (path_ans l hl v hv b 0 _) ?_
  rintro q h1 ⟨hq, he1⟩
  refine ⟨_, by simp; rfl, ?_⟩
  repeat (first | with_reducible refine W_seq_i ?_ | with_reducible refine W_block_i ?_ | with_reducible refine W_region_i ?_ | with_reducible refine W_skip_i ?_ | with_reducible refine W_label_i ?_ | with_reducible refine W_ret_i ?_ | with_reducible refine W_exit_i ?_ | with_reducible refine W_goto_i ?_ | with_reducible refine W_scope_go ?_ | with_reducible refine jumpW_r ?_ | with_reducible refine jumpW_n ?_ | with_reducible refine jumpW_x ?_ | with_reducible refine blockW_g ?_ | with_reducible refine thenW_n ?_ | with_reducible refine blockW_n ?_ | with_reducible refine blockW_x ?_ | with_reducible refine blockW_y (by decide) ?_ | with_reducible refine blockW_r ?_ | with_reducible refine thenW_e (by simp; done) ?_ | with_reducible refine WO_nil_i ?_ | with_reducible refine WT_nil_i ?_ | (with_reducible apply W_cond_t; (case h => (simp; done))) | (with_reducible apply W_cond_f; (case h => (simp; done))) | (with_reducible apply WO_val_i; (case hw => (simp; done)); (case he => (simp; first | done | exact ⟨rfl, rfl⟩ | rfl)); (case hp => (simp; first | done | rfl))) | (with_reducible apply WO_no_i; (case hw => (simp; done)); (case hp => (simp; first | done | rfl))) | (with_reducible apply WO_skip_i; (case hw => (simp; done)); (case he => (simp; first | done | rfl)); (case hp => (simp; first | done | rfl))) | (with_reducible apply WO_call_i; (case hw => (simp; done)); (case he => (simp; first | done | exact ⟨rfl, rfl, rfl⟩ | rfl))) | (with_reducible apply WT_val_i; (case hw => (simp; done)); (case he => (simp; first | done | exact ⟨rfl, rfl⟩ | rfl)); (case hp => (simp; first | done | rfl))) | (with_reducible apply WT_no_i; (case hw => (simp; done)); (case hp => (simp; first | done | rfl))) | (with_reducible apply WT_skip_i; (case hw => (simp; done)); (case he => (simp; first | done | rfl)); (case hp => (simp; first | done | rfl))) | (with_reducible apply WT_call_i; (case hw => (simp; done)); (case he => (simp; first | done | exact ⟨rfl, rfl, rfl⟩ | rfl))))
  refine A.mono (path_ans l hl v hv a 0 _) ?_
  rintro p h2 ⟨hp, he2⟩
  refine ⟨_, by simp; rfl, ?_⟩
  have hPl := pathL_len l a 0
  have hQl := pathL_len l b 0
  generalize pathL l a 0 = P at hp hPl
  generalize pathL l b 0 = Q at hq hQl
  have hpn := hp.len (P := Try.prog) Try.underlying24
  have heA := he1.trans he2
  repeat (first | with_reducible refine W_seq_i ?_ | with_reducible refine W_block_i ?_ | with_reducible refine W_region_i ?_ | with_reducible refine W_skip_i ?_ | with_reducible refine W_label_i ?_ | with_reducible refine W_ret_i ?_ | with_reducible refine W_exit_i ?_ | with_reducible refine W_goto_i ?_ | with_reducible refine W_scope_go ?_ | with_reducible refine jumpW_r ?_ | with_reducible refine jumpW_n ?_ | with_reducible refine jumpW_x ?_ | with_reducible refine blockW_g ?_ | with_reducible refine thenW_n ?_ | with_reducible refine blockW_n ?_ | with_reducible refine blockW_x ?_ | with_reducible refine blockW_y (by decide) ?_ | with_reducible refine blockW_r ?_ | with_reducible refine thenW_e (by simp; done) ?_ | with_reducible refine WO_nil_i ?_ | with_reducible refine WT_nil_i ?_ | (with_reducible apply W_cond_t; (case h => (simp [hpn]; done))) | (with_reducible apply W_cond_f; (case h => (simp [hpn]; done))) | (with_reducible apply WO_val_i; (case hw => (simp [hpn]; done)); (case he => (simp [hpn]; first | done | exact ⟨rfl, rfl⟩ | rfl)); (case hp => (simp [hpn]; first | done | rfl))) | (with_reducible apply WO_no_i; (case hw => (simp [hpn]; done)); (case hp => (simp [hpn]; first | done | rfl))) | (with_reducible apply WO_skip_i; (case hw => (simp [hpn]; done)); (case he => (simp [hpn]; first | done | rfl)); (case hp => (simp [hpn]; first | done | rfl))) | (with_reducible apply WO_call_i; (case hw => (simp [hpn]; done)); (case he => (simp [hpn]; first | done | exact ⟨rfl, rfl, rfl⟩ | rfl))) | (with_reducible apply WT_val_i; (case hw => (simp [hpn]; done)); (case he => (simp [hpn]; first | done | exact ⟨rfl, rfl⟩ | rfl)); (case hp => (simp [hpn]; first | done | rfl))) | (with_reducible apply WT_no_i; (case hw => (simp [hpn]; done)); (case hp => (simp [hpn]; first | done | rfl))) | (with_reducible apply WT_skip_i; (case hw => (simp [hpn]; done)); (case he => (simp [hpn]; first | done | rfl)); (case hp => (simp [hpn]; first | done | rfl))) | (with_reducible apply WT_call_i; (case hw => (simp [hpn]; done)); (case he => (simp [hpn]; first | done | exact ⟨rfl, rfl, rfl⟩ | rfl))))
  refine W_loop (fun n s => ∃ t h3, ∃ i : Nat, s = ⟨t, 27, h3⟩ ∧ HE h h3 ∧ i ≤ P.length ∧ n = P.length - i ∧ (∀ (j : Nat) (hj : j < P.length), j < i → ∀ w ∈ Q, w.1 ≠ P[j].1) ∧ tget t 7 = q ∧ tget t 15 = p ∧ tget t 16 = .int .i64 P.length ∧ tget t 17 = .int .i64 i) _ ⟨_, _, 0, rfl, heA, by simp, rfl, by simp, by simp, by simp, by simp, by simp⟩ ?_
  rintro n s ⟨t, h3, i, rfl, he, hi, hn, hno, t7, t15, t16, t17⟩
  by_cases hc : i < P.length
  · have hc' : (i : Int) < P.length := by omega
    have hw : IntKind.i64.wrap ((i : Int) + 1) = ((i + 1 : Nat) : Int) := (wrap64 (by omega) (by omega)).trans (by omega)
    have hix := hp.idx (P := Try.prog) Try.underlying24 z28 (k := .i64) (i := i) (by simp) (by simpa using hc)
    rw [List.getElem_map] at hix
    simp only [Int.toNat_natCast] at hix
    have hxi : ∃ x, x = P[i] := ⟨_, rfl⟩
    obtain ⟨x, hx⟩ := hxi
    rw [← hx] at hix
    obtain ⟨x1, x2⟩ := x
    have heM := (((HE.refl h3).new (.row [.int .i64 0, .int .i64 0])).set (Nat.le_refl _) (.row [.int .i64 x1, .int .i64 x2]))
    repeat (first | with_reducible refine W_seq_i ?_ | with_reducible refine W_block_i ?_ | with_reducible refine W_region_i ?_ | with_reducible refine W_skip_i ?_ | with_reducible refine W_label_i ?_ | with_reducible refine W_ret_i ?_ | with_reducible refine W_exit_i ?_ | with_reducible refine W_goto_i ?_ | with_reducible refine W_scope_go ?_ | with_reducible refine jumpW_r ?_ | with_reducible refine jumpW_n ?_ | with_reducible refine jumpW_x ?_ | with_reducible refine blockW_g ?_ | with_reducible refine thenW_n ?_ | with_reducible refine blockW_n ?_ | with_reducible refine blockW_x ?_ | with_reducible refine blockW_y (by decide) ?_ | with_reducible refine blockW_r ?_ | with_reducible refine thenW_e (by simp; done) ?_ | with_reducible refine WO_nil_i ?_ | with_reducible refine WT_nil_i ?_ | (with_reducible apply W_cond_t; (case h => (simp [hc, hc', t7, t15, t16, t17, hix]; done))) | (with_reducible apply W_cond_f; (case h => (simp [hc, hc', t7, t15, t16, t17, hix]; done))) | (with_reducible apply WO_val_i; (case hw => (simp [hc, hc', t7, t15, t16, t17, hix]; done)); (case he => (simp [hc, hc', t7, t15, t16, t17, hix]; first | done | exact ⟨rfl, rfl⟩ | rfl)); (case hp => (simp [hc, hc', t7, t15, t16, t17, hix]; first | done | rfl))) | (with_reducible apply WO_no_i; (case hw => (simp [hc, hc', t7, t15, t16, t17, hix]; done)); (case hp => (simp [hc, hc', t7, t15, t16, t17, hix]; first | done | rfl))) | (with_reducible apply WO_skip_i; (case hw => (simp [hc, hc', t7, t15, t16, t17, hix]; done)); (case he => (simp [hc, hc', t7, t15, t16, t17, hix]; first | done | rfl)); (case hp => (simp [hc, hc', t7, t15, t16, t17, hix]; first | done | rfl))) | (with_reducible apply WO_call_i; (case hw => (simp [hc, hc', t7, t15, t16, t17, hix]; done)); (case he => (simp [hc, hc', t7, t15, t16, t17, hix]; first | done | exact ⟨rfl, rfl, rfl⟩ | rfl))) | (with_reducible apply WT_val_i; (case hw => (simp [hc, hc', t7, t15, t16, t17, hix]; done)); (case he => (simp [hc, hc', t7, t15, t16, t17, hix]; first | done | exact ⟨rfl, rfl⟩ | rfl)); (case hp => (simp [hc, hc', t7, t15, t16, t17, hix]; first | done | rfl))) | (with_reducible apply WT_no_i; (case hw => (simp [hc, hc', t7, t15, t16, t17, hix]; done)); (case hp => (simp [hc, hc', t7, t15, t16, t17, hix]; first | done | rfl))) | (with_reducible apply WT_skip_i; (case hw => (simp [hc, hc', t7, t15, t16, t17, hix]; done)); (case he => (simp [hc, hc', t7, t15, t16, t17, hix]; first | done | rfl)); (case hp => (simp [hc, hc', t7, t15, t16, t17, hix]; first | done | rfl))) | (with_reducible apply WT_call_i; (case hw => (simp [hc, hc', t7, t15, t16, t17, hix]; done)); (case he => (simp [hc, hc', t7, t15, t16, t17, hix]; first | done | exact ⟨rfl, rfl, rfl⟩ | rfl))))
    refine A.mono (contains_ans Q (by omega) q hq 25 _ hb25 (fun w => decide (w.1 = x1)) _ ?_) ?_
    · intro w hw h4 he4
      exact common1_ans w x1 x2 _ h4 (Nat.lt_of_lt_of_le (Nat.lt_succ_self _) he4.no) (he4.get (by simp; first | done | rfl) (Nat.lt_succ_self _))
    rintro _ h4 ⟨rfl, he4⟩
    have hg4 : Mp.get h4.obj h3.no = some (.row [.int .i64 x1, .int .i64 x2]) := he4.get (by simp; first | done | rfl) (Nat.lt_succ_self _)
    refine ⟨_, by simp; rfl, ?_⟩
    cases hz : Q.any (fun w => decide (w.1 = x1))
    · repeat (first | with_reducible refine W_seq_i ?_ | with_reducible refine W_block_i ?_ | with_reducible refine W_region_i ?_ | with_reducible refine W_skip_i ?_ | with_reducible refine W_label_i ?_ | with_reducible refine W_ret_i ?_ | with_reducible refine W_exit_i ?_ | with_reducible refine W_goto_i ?_ | with_reducible refine W_scope_go ?_ | with_reducible refine jumpW_r ?_ | with_reducible refine jumpW_n ?_ | with_reducible refine jumpW_x ?_ | with_reducible refine blockW_g ?_ | with_reducible refine thenW_n ?_ | with_reducible refine blockW_n ?_ | with_reducible refine blockW_x ?_ | with_reducible refine blockW_y (by decide) ?_ | with_reducible refine blockW_r ?_ | with_reducible refine thenW_e (by simp; done) ?_ | with_reducible refine WO_nil_i ?_ | with_reducible refine WT_nil_i ?_ | (with_reducible apply W_cond_t; (case h => (simp [hc, hc', t7, t15, t16, t17, hw]; done))) | (with_reducible apply W_cond_f; (case h => (simp [hc, hc', t7, t15, t16, t17, hw]; done))) | (with_reducible apply WO_val_i; (case hw => (simp [hc, hc', t7, t15, t16, t17, hw]; done)); (case he => (simp [hc, hc', t7, t15, t16, t17, hw]; first | done | exact ⟨rfl, rfl⟩ | rfl)); (case hp => (simp [hc, hc', t7, t15, t16, t17, hw]; first | done | rfl))) | (with_reducible apply WO_no_i; (case hw => (simp [hc, hc', t7, t15, t16, t17, hw]; done)); (case hp => (simp [hc, hc', t7, t15, t16, t17, hw]; first | done | rfl))) | (with_reducible apply WO_skip_i; (case hw => (simp [hc, hc', t7, t15, t16, t17, hw]; done)); (case he => (simp [hc, hc', t7, t15, t16, t17, hw]; first | done | rfl)); (case hp => (simp [hc, hc', t7, t15, t16, t17, hw]; first | done | rfl))) | (with_reducible apply WO_call_i; (case hw => (simp [hc, hc', t7, t15, t16, t17, hw]; done)); (case he => (simp [hc, hc', t7, t15, t16, t17, hw]; first | done | exact ⟨rfl, rfl, rfl⟩ | rfl))) | (with_reducible apply WT_val_i; (case hw => (simp [hc, hc', t7, t15, t16, t17, hw]; done)); (case he => (simp [hc, hc', t7, t15, t16, t17, hw]; first | done | exact ⟨rfl, rfl⟩ | rfl)); (case hp => (simp [hc, hc', t7, t15, t16, t17, hw]; first | done | rfl))) | (with_reducible apply WT_no_i; (case hw => (simp [hc, hc', t7, t15, t16, t17, hw]; done)); (case hp => (simp [hc, hc', t7, t15, t16, t17, hw]; first | done | rfl))) | (with_reducible apply WT_skip_i; (case hw => (simp [hc, hc', t7, t15, t16, t17, hw]; done)); (case he => (simp [hc, hc', t7, t15, t16, t17, hw]; first | done | rfl)); (case hp => (simp [hc, hc', t7, t15, t16, t17, hw]; first | done | rfl))) | (with_reducible apply WT_call_i; (case hw => (simp [hc, hc', t7, t15, t16, t17, hw]; done)); (case he => (simp [hc, hc', t7, t15, t16, t17, hw]; first | done | exact ⟨rfl, rfl, rfl⟩ | rfl))))
      refine ⟨_, ?_, _, h4, i + 1, rfl, he.trans (heM.trans he4), hc, rfl, ?_, ?_, ?_, ?_, ?_⟩
      · omega
      · intro j hj hji w hw'
        by_cases hji' : j < i
        · exact hno j hj hji' w hw'
        · have : j = i := by omega
          subst this
          rw [← hx]
          have := List.any_eq_false.mp hz w hw'
          simpa using this
      all_goals simp [t7, t15, t16, t17]
    · repeat (first | with_reducible refine W_seq_i ?_ | with_reducible refine W_block_i ?_ | with_reducible refine W_region_i ?_ | with_reducible refine W_skip_i ?_ | with_reducible refine W_label_i ?_ | with_reducible refine W_ret_i ?_ | with_reducible refine W_exit_i ?_ | with_reducible refine W_goto_i ?_ | with_reducible refine W_scope_go ?_ | with_reducible refine jumpW_r ?_ | with_reducible refine jumpW_n ?_ | with_reducible refine jumpW_x ?_ | with_reducible refine blockW_g ?_ | with_reducible refine thenW_n ?_ | with_reducible refine blockW_n ?_ | with_reducible refine blockW_x ?_ | with_reducible refine blockW_y (by decide) ?_ | with_reducible refine blockW_r ?_ | with_reducible refine thenW_e (by simp; done) ?_ | with_reducible refine WO_nil_i ?_ | with_reducible refine WT_nil_i ?_ | (with_reducible apply W_cond_t; (case h => (simp [hc, hc', t7, t15, t16, t17, hg4]; done))) | (with_reducible apply W_cond_f; (case h => (simp [hc, hc', t7, t15, t16, t17, hg4]; done))) | (with_reducible apply WO_val_i; (case hw => (simp [hc, hc', t7, t15, t16, t17, hg4]; done)); (case he => (simp [hc, hc', t7, t15, t16, t17, hg4]; first | done | exact ⟨rfl, rfl⟩ | rfl)); (case hp => (simp [hc, hc', t7, t15, t16, t17, hg4]; first | done | rfl))) | (with_reducible apply WO_no_i; (case hw => (simp [hc, hc', t7, t15, t16, t17, hg4]; done)); (case hp => (simp [hc, hc', t7, t15, t16, t17, hg4]; first | done | rfl))) | (with_reducible apply WO_skip_i; (case hw => (simp [hc, hc', t7, t15, t16, t17, hg4]; done)); (case he => (simp [hc, hc', t7, t15, t16, t17, hg4]; first | done | rfl)); (case hp => (simp [hc, hc', t7, t15, t16, t17, hg4]; first | done | rfl))) | (with_reducible apply WO_call_i; (case hw => (simp [hc, hc', t7, t15, t16, t17, hg4]; done)); (case he => (simp [hc, hc', t7, t15, t16, t17, hg4]; first | done | exact ⟨rfl, rfl, rfl⟩ | rfl))) | (with_reducible apply WT_val_i; (case hw => (simp [hc, hc', t7, t15, t16, t17, hg4]; done)); (case he => (simp [hc, hc', t7, t15, t16, t17, hg4]; first | done | exact ⟨rfl, rfl⟩ | rfl)); (case hp => (simp [hc, hc', t7, t15, t16, t17, hg4]; first | done | rfl))) | (with_reducible apply WT_no_i; (case hw => (simp [hc, hc', t7, t15, t16, t17, hg4]; done)); (case hp => (simp [hc, hc', t7, t15, t16, t17, hg4]; first | done | rfl))) | (with_reducible apply WT_skip_i; (case hw => (simp [hc, hc', t7, t15, t16, t17, hg4]; done)); (case he => (simp [hc, hc', t7, t15, t16, t17, hg4]; first | done | rfl)); (case hp => (simp [hc, hc', t7, t15, t16, t17, hg4]; first | done | rfl))) | (with_reducible apply WT_call_i; (case hw => (simp [hc, hc', t7, t15, t16, t17, hg4]; done)); (case he => (simp [hc, hc', t7, t15, t16, t17, hg4]; first | done | exact ⟨rfl, rfl, rfl⟩ | rfl))))
      apply endW_r; (case h1 => (simp [Try.results18]; first | done | rfl))
      refine ⟨x1, rfl, .inl ⟨i, hc, by rw [← hx], ?_, hno⟩, he.trans (heM.trans he4)⟩
      obtain ⟨w, hw1, hw2⟩ := List.any_eq_true.mp hz
      exact ⟨w, hw1, by simpa using hw2⟩
  · have hc' : ¬ (i : Int) < P.length := by omega
    repeat (first | with_reducible refine W_seq_i ?_ | with_reducible refine W_block_i ?_ | with_reducible refine W_region_i ?_ | with_reducible refine W_skip_i ?_ | with_reducible refine W_label_i ?_ | with_reducible refine W_ret_i ?_ | with_reducible refine W_exit_i ?_ | with_reducible refine W_goto_i ?_ | with_reducible refine W_scope_go ?_ | with_reducible refine jumpW_r ?_ | with_reducible refine jumpW_n ?_ | with_reducible refine jumpW_x ?_ | with_reducible refine blockW_g ?_ | with_reducible refine thenW_n ?_ | with_reducible refine blockW_n ?_ | with_reducible refine blockW_x ?_ | with_reducible refine blockW_y (by decide) ?_ | with_reducible refine blockW_r ?_ | with_reducible refine thenW_e (by simp; done) ?_ | with_reducible refine WO_nil_i ?_ | with_reducible refine WT_nil_i ?_ | (with_reducible apply W_cond_t; (case h => (simp [hc, hc', t7, t15, t16, t17]; done))) | (with_reducible apply W_cond_f; (case h => (simp [hc, hc', t7, t15, t16, t17]; done))) | (with_reducible apply WO_val_i; (case hw => (simp [hc, hc', t7, t15, t16, t17]; done)); (case he => (simp [hc, hc', t7, t15, t16, t17]; first | done | exact ⟨rfl, rfl⟩ | rfl)); (case hp => (simp [hc, hc', t7, t15, t16, t17]; first | done | rfl))) | (with_reducible apply WO_no_i; (case hw => (simp [hc, hc', t7, t15, t16, t17]; done)); (case hp => (simp [hc, hc', t7, t15, t16, t17]; first | done | rfl))) | (with_reducible apply WO_skip_i; (case hw => (simp [hc, hc', t7, t15, t16, t17]; done)); (case he => (simp [hc, hc', t7, t15, t16, t17]; first | done | rfl)); (case hp => (simp [hc, hc', t7, t15, t16, t17]; first | done | rfl))) | (with_reducible apply WO_call_i; (case hw => (simp [hc, hc', t7, t15, t16, t17]; done)); (case he => (simp [hc, hc', t7, t15, t16, t17]; first | done | exact ⟨rfl, rfl, rfl⟩ | rfl))) | (with_reducible apply WT_val_i; (case hw => (simp [hc, hc', t7, t15, t16, t17]; done)); (case he => (simp [hc, hc', t7, t15, t16, t17]; first | done | exact ⟨rfl, rfl⟩ | rfl)); (case hp => (simp [hc, hc', t7, t15, t16, t17]; first | done | rfl))) | (with_reducible apply WT_no_i; (case hw => (simp [hc, hc', t7, t15, t16, t17]; done)); (case hp => (simp [hc, hc', t7, t15, t16, t17]; first | done | rfl))) | (with_reducible apply WT_skip_i; (case hw => (simp [hc, hc', t7, t15, t16, t17]; done)); (case he => (simp [hc, hc', t7, t15, t16, t17]; first | done | rfl)); (case hp => (simp [hc, hc', t7, t15, t16, t17]; first | done | rfl))) | (with_reducible apply WT_call_i; (case hw => (simp [hc, hc', t7, t15, t16, t17]; done)); (case he => (simp [hc, hc', t7, t15, t16, t17]; first | done | exact ⟨rfl, rfl, rfl⟩ | rfl))))
    apply endW_r; (case h1 => (simp [Try.results18]; first | done | rfl))
    refine ⟨-1, rfl, .inr ⟨rfl, ?_⟩, he⟩
    intro x hx
    obtain ⟨j, hj, rfl⟩ := List.mem_iff_getElem.mp hx
    exact hno j hj (by omega)

theorem ways_down {l : List Br} (hm : MayP l) : ∀ (n : Nat) (b e : Int), 0 ≤ b → b < l.length → (ways l n b e).Pairwise (fun p q => q.1 < p.1)
  | 0, _, _, _, _ => List.Pairwise.nil
  | n + 1, b, e, h0, h1 => by
    have hbl : b.toNat < l.length := by omega
    have hpar := hm.parent hbl
    simp only [ways, List.getElem?_eq_getElem hbl]
    split
    · rename_i q
      refine List.Pairwise.cons (fun p hp => ?_) (ways_down hm n _ _ q (by omega))
      have := ways_le hm n _ _ q (by omega) p hp
      simp only
      omega
    · exact List.Pairwise.cons (fun p hp => by simp at hp) List.Pairwise.nil
theorem ways_root {l : List Br} (hm : MayP l) : ∀ (n : Nat) (b e : Int), 0 ≤ b → b < l.length → b < n → ∃ p, (ways l n b e).getLast? = some p ∧ p.1 = 0
  | 0, b, _, h0, _, h => by omega
  | n + 1, b, e, h0, h1, h => by
    have hbl : b.toNat < l.length := by omega
    have hpar := hm.parent hbl
    have hok := (okAt_iff _ _).mp (hm.1 b.toNat hbl)
    simp only [ways, List.getElem?_eq_getElem hbl]
    split
    · rename_i q
      obtain ⟨p, hp1, hp2⟩ := ways_root hm n l[b.toNat].parent (min e l[b.toNat].fork) q (by omega) (by omega)
      exact ⟨p, by rw [List.getLast?_cons, hp1]; rfl, hp2⟩
    · rename_i q
      refine ⟨(b, e), rfl, ?_⟩
      by_cases hb : 0 < b.toNat
      · exact (q (hok.2.2 hb).1).elim
      · show b = 0; omega

theorem common_sym {P Q : List (Int × Int)} (hP : P.Pairwise (fun p q => q.1 < p.1)) (hQ : Q.Pairwise (fun p q => q.1 < p.1)) {c d : Int} (h : CommonR P Q c) (k : CommonR Q P d) : c = d := by
  have le : ∀ {P Q : List (Int × Int)} {c d : Int}, P.Pairwise (fun p q => q.1 < p.1) → CommonR P Q c → (∃ w ∈ P, w.1 = d) → (∃ w ∈ Q, w.1 = d) → d ≤ c := by
    intro P Q c d hP h hd1 hd2
    obtain ⟨w, hw, rfl⟩ := hd1
    obtain ⟨u, hu, hu2⟩ := hd2
    rcases h with ⟨i, hi, rfl, _, hno⟩ | ⟨_, hno⟩
    · obtain ⟨j, hj, rfl⟩ := List.mem_iff_getElem.mp hw
      by_cases hji : j < i
      · exact (hno j hj hji u hu hu2).elim
      · by_cases e : i = j
        · subst e; exact Int.le_refl _
        · have := List.pairwise_iff_getElem.mp hP i j hi hj (by omega)
          omega
    · exact (hno w hw u hu hu2).elim
  have mem : ∀ {P Q : List (Int × Int)} {c : Int}, CommonR P Q c → (∃ p ∈ P, ∃ w ∈ Q, w.1 = p.1) → (∃ w ∈ P, w.1 = c) ∧ ∃ w ∈ Q, w.1 = c := by
    intro P Q c h hex
    rcases h with ⟨i, hi, rfl, hq, _⟩ | ⟨_, hno⟩
    · exact ⟨⟨_, List.getElem_mem hi, rfl⟩, hq⟩
    · obtain ⟨p, hp, w, hw, e⟩ := hex
      exact (hno p hp w hw e).elim
  by_cases hex : ∃ p ∈ P, ∃ w ∈ Q, w.1 = p.1
  · have hex2 : ∃ p ∈ Q, ∃ w ∈ P, w.1 = p.1 := by obtain ⟨p, hp, w, hw, e⟩ := hex; exact ⟨w, hw, p, hp, e.symm⟩
    have m1 := mem h hex
    have m2 := mem k hex2
    have := le hP h m2.2 m2.1
    have := le hQ k m1.2 m1.1
    omega
  · rcases h with ⟨i, hi, rfl, ⟨w, hw, e⟩, _⟩ | ⟨rfl, _⟩
    · exact (hex ⟨_, List.getElem_mem hi, w, hw, e⟩).elim
    · rcases k with ⟨i, hi, rfl, ⟨w, hw, e⟩, _⟩ | ⟨rfl, _⟩
      · exact (hex ⟨w, hw, _, List.getElem_mem hi, e.symm⟩).elim
      · rfl
end Go.Vm
