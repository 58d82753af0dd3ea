/- What functions of the program come to, in the value machine (a part of the proof of the claim's statement). No condition. -/
import Derived.Test.YtpodlpemlkkojaaVnGb
set_option linter.unusedSimpArgs false
set_option linter.unusedVariables false
set_option maxRecDepth 20000
namespace Go.Vn
open Go.Proofs

theorem cmpI_zero {a b : Int} (h : cmpI a b = 0) : a = b := by
  unfold cmpI at h; (repeat' split at h) <;> omega
theorem firstI_sees {l : List Lg} {b e : Int} (h : ¬ firstI (sees b e) l < 0) : ∃ i, ∃ hi : i < l.length, firstI (sees b e) l = i ∧ l[i].b = b := by
  unfold firstI at h ⊢
  cases q : l.findIdx? (sees b e) with
  | none => rw [q] at h; exact (h (by decide)).elim
  | some i =>
    obtain ⟨hi, hp, _⟩ := List.findIdx?_eq_some_iff_getElem.mp q
    simp [sees] at hp
    exact ⟨i, hi, rfl, hp.1⟩
theorem cmpO_ne {ps : List Lg} {a b : Ver} (hk : a.key = b.key) (ha : unseen ps a = false) (hb : unseen ps b = false) (h : cmpV a b < 0) : cmpO ps a b ≠ 0 := by
  intro hz
  have key : ∀ x y z w : Int, orI [x, y, z, w] = 0 → x = 0 ∧ y = 0 ∧ z = 0 ∧ w = 0 := by
    intro x y z w hh
    simp only [orI] at hh
    by_cases h1 : x = 0 <;> by_cases h2 : y = 0 <;> by_cases h3 : z = 0 <;> by_cases h4 : w = 0 <;> simp_all
  obtain ⟨h1, h2, h3, h4⟩ := key _ _ _ _ hz
  have h1 := cmpI_zero h1
  have h2 := cmpI_zero h2
  have h3 := cmpI_zero h3
  have h4 := cmpI_zero h4
  have ua : ¬ legV ps a < 0 := of_decide_eq_false ha
  have ub : ¬ legV ps b < 0 := of_decide_eq_false hb
  obtain ⟨i, hi, ei, hbi⟩ := firstI_sees ua
  obtain ⟨j, hj, ej, hbj⟩ := firstI_sees ub
  have hij : i = j := by
    have e1 : legV ps a = (i : Int) := ei
    have e2 : legV ps b = (j : Int) := ej
    omega
  subst hij
  have hbr : a.br = b.br := by rw [← hbi, ← hbj]
  have hs : cmpS b.key b.key = 0 := by have := cmpS_anti b.key b.key; omega
  have hi0 : ∀ x : Int, cmpI x x = 0 := fun x => by unfold cmpI; simp
  have : cmpV a b = 0 := by
    unfold cmpV
    rw [hk, hbr, h2, h3, h4, hs, hi0, hi0, hi0, hi0]; rfl
  omega

theorem order_back {ps : List Lg} {own : List Ver} (hs : Strict own) (hk : ∀ a ∈ own, ∀ b ∈ own, a.key = b.key) : orderP ps own.reverse = orderP ps own := by
  have hsp := (sort_all (cmpO_ok ps) (own.reverse.filter fun a => !unseen ps a)).choose_spec
  refine orderP_is hsp.1 (fun x => ?_)
  refine (show alike (cmpO ps) x (orderP ps own.reverse) = _ from hsp.2 x).trans ?_
  have hF : (own.filter fun a => !unseen ps a).Pairwise fun a b => cmpO ps a b ≠ 0 := by
    rw [List.pairwise_filter]
    refine List.Pairwise.imp_of_mem ?_ hs
    intro a b ha hb h1 h2 h3
    exact cmpO_ne (hk a ha b hb) (by simpa using h2) (by simpa using h3) h1
  have hone : (alike (cmpO ps) x (own.filter fun a => !unseen ps a)).length ≤ 1 := by
    have hP : (alike (cmpO ps) x (own.filter fun a => !unseen ps a)).Pairwise fun a b => cmpO ps a b ≠ 0 := hF.sublist (List.filter_sublist ..)
    have hall : ∀ a ∈ alike (cmpO ps) x (own.filter fun a => !unseen ps a), cmpO ps a x = 0 := by
      intro a ha
      unfold alike at ha
      exact of_decide_eq_true (List.mem_filter.mp ha).2
    match hm : alike (cmpO ps) x (own.filter fun a => !unseen ps a) with
    | [] => simp
    | [a] => simp
    | a :: b :: r =>
      rw [hm] at hP hall
      have hab : cmpO ps a b ≠ 0 := (List.pairwise_cons.mp hP).1 b (List.mem_cons_self ..)
      have h1 := hall a (List.mem_cons_self ..)
      have h2 := hall b (List.mem_cons_of_mem _ (List.mem_cons_self ..))
      exact (hab ((cmpO_ok ps).tz a x b h1 (((cmpO_ok ps).zero b x).mp h2))).elim
  have hrev : alike (cmpO ps) x (own.reverse.filter fun a => !unseen ps a) = (alike (cmpO ps) x (own.filter fun a => !unseen ps a)).reverse := by
    unfold alike; rw [List.filter_reverse, List.filter_reverse]
  rw [hrev]
  match hm : alike (cmpO ps) x (own.filter fun a => !unseen ps a) with
  | [] => rfl
  | [a] => rfl
  | a :: b :: r => rw [hm] at hone; simp at hone

set_option maxHeartbeats 8000000 in
theorem view_row_law (l : List Ver) (a : AV) (hv : SV 8 (l.map encV) a) (hl : l.length ≤ 2000000) (path : List Lg) (b : AV) (hp : SV 2 (path.map encL) b) (tm : Int) (h0 : Hp Fm) (hpol : h0.pol = fun _ => false) :
    A Try.prog TT (.func 4) [a, b, .int .i64 tm] h0 (fun r h' => r = .bool true ∧ HE h0 h') := by
  have pf : ∀ h, HE h0 h → ∀ e, h.pol e = false := fun h he e => by rw [he.pol, hpol]
  have pp : ∀ e, h0.pol e = false := pf h0 (HE.refl _)
  have l1 := hv.len Try.underlying22
  rw [List.length_map] at l1
  have n1 := hv.nm
  have l2 := hp.len Try.underlying23
  rw [List.length_map] at l2
  have n2 := hp.nm
  obtain ⟨ps, vp, hvp, hpl, hcut⟩ : ∃ (ps : List Lg) (vp : AV), SV 2 (ps.map encL) vp ∧ ps.length ≤ 5 ∧ ((5 < path.length ∧ sliceAV Try.prog 23 b none (some (.int .i64 5)) none = some vp) ∨ (¬ 5 < path.length ∧ vp = b)) := by
    by_cases q : 5 < path.length
    · obtain ⟨r, s1, v1⟩ := hp.take Try.underlying23 z59 (k := .i64) (i := 5) (by omega) (by rw [List.length_map]; omega)
      exact ⟨path.take 5, r, by rw [List.map_take]; exact v1, by simp; omega, .inl ⟨q, s1⟩⟩
    · exact ⟨path, b, hp, by omega, .inr ⟨q, rfl⟩⟩
  have c3 := hvp.cells
  have d3 := hvp.isCell
  rcases hcut with ⟨q, s1⟩ | ⟨q, rfl⟩
  case' inl =>
    have qx : (5 : Int) < path.length := by omega
    apply A_go Try.func4 rfl (by rfl); (case hn => (simp [Try.ntmps4]; rfl))
    repeat (first | (with_reducible first | refine W_seq_i ?_ | refine W_block_i ?_ | refine W_region_i ?_ | refine W_skip_i ?_ | refine W_label_i ?_ | refine W_ret_i ?_ | refine W_exit_i ?_ | refine W_goto_i ?_ | refine W_scope_go ?_ | refine jumpW_r ?_ | refine jumpW_n ?_ | refine jumpW_x ?_ | refine blockW_g ?_ | refine thenW_n ?_ | refine blockW_n ?_ | refine blockW_x ?_ | refine blockW_y (by decide) ?_ | refine blockW_r ?_ | refine thenW_e (by simp; done) ?_ | refine WO_nil_i ?_ | refine WT_nil_i ?_) | (with_reducible apply W_cond_t; (case h => (simp [l2, n2, q, qx, s1, c3, d3]; done))) | (with_reducible apply W_cond_f; (case h => (simp [l2, n2, q, qx, s1, c3, d3]; done))) | ((with_reducible first | apply WO_val_i | apply WT_val_i); (case hw => (simp [l2, n2, q, qx, s1, c3, d3]; done)); (case he => (simp [l2, n2, q, qx, s1, c3, d3]; first | done | exact ⟨rfl, rfl⟩ | rfl)); (case hp => (simp [l2, n2, q, qx, s1, c3, d3]; first | done | rfl))) | ((with_reducible first | apply WO_no_i | apply WT_no_i); (case hw => (simp [l2, n2, q, qx, s1, c3, d3]; done)); (case hp => (simp [l2, n2, q, qx, s1, c3, d3]; first | done | rfl))) | ((with_reducible first | apply WO_skip_i | apply WT_skip_i); (case hw => (simp [l2, n2, q, qx, s1, c3, d3]; done)); (case he => (simp [l2, n2, q, qx, s1, c3, d3]; first | done | rfl)); (case hp => (simp [l2, n2, q, qx, s1, c3, d3]; first | done | rfl))) | ((with_reducible first | apply WO_call_i | apply WT_call_i); (case hw => (simp [l2, n2, q, qx, s1, c3, d3]; done)); (case he => (simp [l2, n2, q, qx, s1, c3, d3]; first | done | exact ⟨rfl, rfl, rfl⟩ | rfl))))
  case' inr =>
    have qx : ¬ (5 : Int) < path.length := by omega
    apply A_go Try.func4 rfl (by rfl); (case hn => (simp [Try.ntmps4]; rfl))
    repeat (first | (with_reducible first | refine W_seq_i ?_ | refine W_block_i ?_ | refine W_region_i ?_ | refine W_skip_i ?_ | refine W_label_i ?_ | refine W_ret_i ?_ | refine W_exit_i ?_ | refine W_goto_i ?_ | refine W_scope_go ?_ | refine jumpW_r ?_ | refine jumpW_n ?_ | refine jumpW_x ?_ | refine blockW_g ?_ | refine thenW_n ?_ | refine blockW_n ?_ | refine blockW_x ?_ | refine blockW_y (by decide) ?_ | refine blockW_r ?_ | refine thenW_e (by simp; done) ?_ | refine WO_nil_i ?_ | refine WT_nil_i ?_) | (with_reducible apply W_cond_t; (case h => (simp [l2, n2, q, qx, c3, d3]; done))) | (with_reducible apply W_cond_f; (case h => (simp [l2, n2, q, qx, c3, d3]; done))) | ((with_reducible first | apply WO_val_i | apply WT_val_i); (case hw => (simp [l2, n2, q, qx, c3, d3]; done)); (case he => (simp [l2, n2, q, qx, c3, d3]; first | done | exact ⟨rfl, rfl⟩ | rfl)); (case hp => (simp [l2, n2, q, qx, c3, d3]; first | done | rfl))) | ((with_reducible first | apply WO_no_i | apply WT_no_i); (case hw => (simp [l2, n2, q, qx, c3, d3]; done)); (case hp => (simp [l2, n2, q, qx, c3, d3]; first | done | rfl))) | ((with_reducible first | apply WO_skip_i | apply WT_skip_i); (case hw => (simp [l2, n2, q, qx, c3, d3]; done)); (case he => (simp [l2, n2, q, qx, c3, d3]; first | done | rfl)); (case hp => (simp [l2, n2, q, qx, c3, d3]; first | done | rfl))) | ((with_reducible first | apply WO_call_i | apply WT_call_i); (case hw => (simp [l2, n2, q, qx, c3, d3]; done)); (case he => (simp [l2, n2, q, qx, c3, d3]; first | done | exact ⟨rfl, rfl, rfl⟩ | rfl))))
  all_goals
    refine W_loop (fun m s => ∃ (t : Fm AV) (h : Hp Fm) (i : Nat) (one : List Ver) (u : AV), s = ⟨t, 94, h, none⟩ ∧ m = l.length - i ∧ i ≤ l.length ∧ tget t 0 = a ∧ tget t 1 = vp ∧ tget t 2 = .int .i64 tm ∧ tget t 7 = u ∧ tget t 8 = .int .i64 i ∧ AC h0 h 8 (one.map encV) u ∧ one.length ≤ i ∧ (∀ x ∈ one, ∃ h0 : 0 < l.length, x.key = l[0].key) ∧ HE h0 h) l.length
      ⟨_, _, 0, [], .nils, rfl, rfl, by omega, by simp, by simp, by simp, by simp, by simp, .inl ⟨rfl, rfl⟩, by simp, by simp, HE.refl _⟩ ?_
    rintro m s ⟨t, h, i, one, u, rfl, rfl, hi, t0, t1, t2, t7, t8, hu, hol, hall, he⟩
    have uc := hu.sv.cells
    have ud := hu.sv.isCell
    by_cases qi : i < l.length
    · have i1 := hv.idx Try.underlying22 z39 (k := .i64) (i := i) (by simp) (by simpa using qi)
      have i0 := hv.idx Try.underlying22 z39 (k := .i64) (i := 0) (by omega) (by rw [List.length_map]; simp; omega)
      simp only [List.getElem_map, Int.toNat_natCast] at i1 i0
      have w1 : IntKind.i64.wrap ((i : Int) + 1) = ((i + 1 : Nat) : Int) := by rw [wrap64 (by omega) (by omega)]; simp
      have hpos : 0 < l.length := by omega
      obtain ⟨x, hx⟩ : ∃ x, x = l[i] := ⟨_, rfl⟩
      obtain ⟨y, hy⟩ : ∃ y, y = l[(0 : Int).toNat]'(by simp; omega) := ⟨_, rfl⟩
      have hy0 : y = l[0] := hy
      rw [← hx] at i1
      rw [← hy] at i0
      have p1 : h.pol 39 = false := by rw [he.pol]; exact pp _
      repeat (first | (with_reducible first | refine W_seq_i ?_ | refine W_block_i ?_ | refine W_region_i ?_ | refine W_skip_i ?_ | refine W_label_i ?_ | refine W_ret_i ?_ | refine W_exit_i ?_ | refine W_goto_i ?_ | refine W_scope_go ?_ | refine jumpW_r ?_ | refine jumpW_n ?_ | refine jumpW_x ?_ | refine blockW_g ?_ | refine thenW_n ?_ | refine blockW_n ?_ | refine blockW_x ?_ | refine blockW_y (by decide) ?_ | refine blockW_r ?_ | refine thenW_e (by simp; done) ?_ | refine WO_nil_i ?_ | refine WT_nil_i ?_) | (with_reducible apply W_cond_t; (case h => (simp [t0, t1, t2, t7, t8, qi, l1, n1]; done))) | (with_reducible apply W_cond_f; (case h => (simp [t0, t1, t2, t7, t8, qi, l1, n1]; done))) | ((with_reducible first | apply WO_val_i | apply WT_val_i); (case hw => (simp [t0, t1, t2, t7, t8, qi, l1, n1]; done)); (case he => (simp [t0, t1, t2, t7, t8, qi, l1, n1]; first | done | exact ⟨rfl, rfl⟩ | rfl)); (case hp => (simp [t0, t1, t2, t7, t8, qi, l1, n1]; first | done | rfl))) | ((with_reducible first | apply WO_no_i | apply WT_no_i); (case hw => (simp [t0, t1, t2, t7, t8, qi, l1, n1]; done)); (case hp => (simp [t0, t1, t2, t7, t8, qi, l1, n1]; first | done | rfl))) | ((with_reducible first | apply WO_skip_i | apply WT_skip_i); (case hw => (simp [t0, t1, t2, t7, t8, qi, l1, n1]; done)); (case he => (simp [t0, t1, t2, t7, t8, qi, l1, n1]; first | done | rfl)); (case hp => (simp [t0, t1, t2, t7, t8, qi, l1, n1]; first | done | rfl))) | ((with_reducible first | apply WO_call_i | apply WT_call_i); (case hw => (simp [t0, t1, t2, t7, t8, qi, l1, n1]; done)); (case he => (simp [t0, t1, t2, t7, t8, qi, l1, n1]; first | done | exact ⟨rfl, rfl, rfl⟩ | rfl))))
      (with_reducible refine W_draw_id (pln := true) [0, 1, 2, 3, 4, 5, 6, 7, 8, 9] [(4, (4, [])), (8, (8, []))] (by kernel_rfl) rfl ?_)
      cases qk : eqB x.key y.key
      · repeat (first | (with_reducible first | refine W_seq_i ?_ | refine W_block_i ?_ | refine W_region_i ?_ | refine W_skip_i ?_ | refine W_label_i ?_ | refine W_ret_i ?_ | refine W_exit_i ?_ | refine W_goto_i ?_ | refine W_scope_go ?_ | refine jumpW_r ?_ | refine jumpW_n ?_ | refine jumpW_x ?_ | refine blockW_g ?_ | refine thenW_n ?_ | refine blockW_n ?_ | refine blockW_x ?_ | refine blockW_y (by decide) ?_ | refine blockW_r ?_ | refine thenW_e (by simp; done) ?_ | refine WO_nil_i ?_ | refine WT_nil_i ?_) | (with_reducible apply W_cond_t; (case h => (simp [t0, t1, t2, t7, t8, i0, i1, qk]; done))) | (with_reducible apply W_cond_f; (case h => (simp [t0, t1, t2, t7, t8, i0, i1, qk]; done))) | ((with_reducible first | apply WO_val_i | apply WT_val_i); (case hw => (simp [t0, t1, t2, t7, t8, i0, i1, qk]; done)); (case he => (simp [t0, t1, t2, t7, t8, i0, i1, qk]; first | done | exact ⟨rfl, rfl⟩ | rfl)); (case hp => (simp [t0, t1, t2, t7, t8, i0, i1, qk]; first | done | rfl))) | ((with_reducible first | apply WO_no_i | apply WT_no_i); (case hw => (simp [t0, t1, t2, t7, t8, i0, i1, qk]; done)); (case hp => (simp [t0, t1, t2, t7, t8, i0, i1, qk]; first | done | rfl))) | ((with_reducible first | apply WO_skip_i | apply WT_skip_i); (case hw => (simp [t0, t1, t2, t7, t8, i0, i1, qk]; done)); (case he => (simp [t0, t1, t2, t7, t8, i0, i1, qk]; first | done | rfl)); (case hp => (simp [t0, t1, t2, t7, t8, i0, i1, qk]; first | done | rfl))) | ((with_reducible first | apply WO_call_i | apply WT_call_i); (case hw => (simp [t0, t1, t2, t7, t8, i0, i1, qk]; done)); (case he => (simp [t0, t1, t2, t7, t8, i0, i1, qk]; first | done | exact ⟨rfl, rfl, rfl⟩ | rfl))))
        refine ⟨by simp [readSame, beqAV_self, t0]; done, _, by simp; first | done | rfl, ?_⟩
        repeat (first | (with_reducible first | refine W_seq_i ?_ | refine W_block_i ?_ | refine W_region_i ?_ | refine W_skip_i ?_ | refine W_label_i ?_ | refine W_ret_i ?_ | refine W_exit_i ?_ | refine W_goto_i ?_ | refine W_scope_go ?_ | refine jumpW_r ?_ | refine jumpW_n ?_ | refine jumpW_x ?_ | refine blockW_g ?_ | refine thenW_n ?_ | refine blockW_n ?_ | refine blockW_x ?_ | refine blockW_y (by decide) ?_ | refine blockW_r ?_ | refine thenW_e (by simp; done) ?_ | refine WO_nil_i ?_ | refine WT_nil_i ?_) | (with_reducible apply W_cond_t; (case h => (simp [t0, t1, t2, t7, t8, w1]; done))) | (with_reducible apply W_cond_f; (case h => (simp [t0, t1, t2, t7, t8, w1]; done))) | ((with_reducible first | apply WO_val_i | apply WT_val_i); (case hw => (simp [t0, t1, t2, t7, t8, w1]; done)); (case he => (simp [t0, t1, t2, t7, t8, w1]; first | done | exact ⟨rfl, rfl⟩ | rfl)); (case hp => (simp [t0, t1, t2, t7, t8, w1]; first | done | rfl))) | ((with_reducible first | apply WO_no_i | apply WT_no_i); (case hw => (simp [t0, t1, t2, t7, t8, w1]; done)); (case hp => (simp [t0, t1, t2, t7, t8, w1]; first | done | rfl))) | ((with_reducible first | apply WO_skip_i | apply WT_skip_i); (case hw => (simp [t0, t1, t2, t7, t8, w1]; done)); (case he => (simp [t0, t1, t2, t7, t8, w1]; first | done | rfl)); (case hp => (simp [t0, t1, t2, t7, t8, w1]; first | done | rfl))) | ((with_reducible first | apply WO_call_i | apply WT_call_i); (case hw => (simp [t0, t1, t2, t7, t8, w1]; done)); (case he => (simp [t0, t1, t2, t7, t8, w1]; first | done | exact ⟨rfl, rfl, rfl⟩ | rfl))))
        refine ⟨_, ?_, _, _, i + 1, one, u, rfl, rfl, by omega, by simp [t0], by simp [t1], by simp [t2], by simp [t7], by simp, hu.of (HE.refl h).drew, by omega, hall, he.drew⟩
        omega
      · have hxk : x.key = l[0].key := by
          rw [eqB_iff] at qk; rw [← hy0]; exact of_decide_eq_true qk
        repeat (first | (with_reducible first | refine W_seq_i ?_ | refine W_block_i ?_ | refine W_region_i ?_ | refine W_skip_i ?_ | refine W_label_i ?_ | refine W_ret_i ?_ | refine W_exit_i ?_ | refine W_goto_i ?_ | refine W_scope_go ?_ | refine jumpW_r ?_ | refine jumpW_n ?_ | refine jumpW_x ?_ | refine blockW_g ?_ | refine thenW_n ?_ | refine blockW_n ?_ | refine blockW_x ?_ | refine blockW_y (by decide) ?_ | refine blockW_r ?_ | refine thenW_e (by simp; done) ?_ | refine WO_nil_i ?_ | refine WT_nil_i ?_) | (with_reducible apply W_cond_t; (case h => (simp [t0, t1, t2, t7, t8, i0, i1, qk]; done))) | (with_reducible apply W_cond_f; (case h => (simp [t0, t1, t2, t7, t8, i0, i1, qk]; done))) | ((with_reducible first | apply WO_val_i | apply WT_val_i); (case hw => (simp [t0, t1, t2, t7, t8, i0, i1, qk]; done)); (case he => (simp [t0, t1, t2, t7, t8, i0, i1, qk]; first | done | exact ⟨rfl, rfl⟩ | rfl)); (case hp => (simp [t0, t1, t2, t7, t8, i0, i1, qk]; first | done | rfl))) | ((with_reducible first | apply WO_no_i | apply WT_no_i); (case hw => (simp [t0, t1, t2, t7, t8, i0, i1, qk]; done)); (case hp => (simp [t0, t1, t2, t7, t8, i0, i1, qk]; first | done | rfl))) | ((with_reducible first | apply WO_skip_i | apply WT_skip_i); (case hw => (simp [t0, t1, t2, t7, t8, i0, i1, qk]; done)); (case he => (simp [t0, t1, t2, t7, t8, i0, i1, qk]; first | done | rfl)); (case hp => (simp [t0, t1, t2, t7, t8, i0, i1, qk]; first | done | rfl))) | ((with_reducible first | apply WO_call_i | apply WT_call_i); (case hw => (simp [t0, t1, t2, t7, t8, i0, i1, qk]; done)); (case he => (simp [t0, t1, t2, t7, t8, i0, i1, qk]; first | done | exact ⟨rfl, rfl, rfl⟩ | rfl))))
        refine ⟨by simp [readSame, beqAV_self, t0]; done, _, by simp; first | done | rfl, ?_⟩
        repeat (first | (with_reducible first | refine W_seq_i ?_ | refine W_block_i ?_ | refine W_region_i ?_ | refine W_skip_i ?_ | refine W_label_i ?_ | refine W_ret_i ?_ | refine W_exit_i ?_ | refine W_goto_i ?_ | refine W_scope_go ?_ | refine jumpW_r ?_ | refine jumpW_n ?_ | refine jumpW_x ?_ | refine blockW_g ?_ | refine thenW_n ?_ | refine blockW_n ?_ | refine blockW_x ?_ | refine blockW_y (by decide) ?_ | refine blockW_r ?_ | refine thenW_e (by simp; done) ?_ | refine WO_nil_i ?_ | refine WT_nil_i ?_) | (with_reducible apply W_cond_t; (case h => (simp [t0, t1, t2, t7, t8, i1, newSeq, newSl, p1, uc, ud]; done))) | (with_reducible apply W_cond_f; (case h => (simp [t0, t1, t2, t7, t8, i1, newSeq, newSl, p1, uc, ud]; done))) | ((with_reducible first | apply WO_val_i | apply WT_val_i); (case hw => (simp [t0, t1, t2, t7, t8, i1, newSeq, newSl, p1, uc, ud]; done)); (case he => (simp [t0, t1, t2, t7, t8, i1, newSeq, newSl, p1, uc, ud]; first | done | exact ⟨rfl, rfl⟩ | rfl)); (case hp => (simp [t0, t1, t2, t7, t8, i1, newSeq, newSl, p1, uc, ud]; first | done | rfl))) | ((with_reducible first | apply WO_no_i | apply WT_no_i); (case hw => (simp [t0, t1, t2, t7, t8, i1, newSeq, newSl, p1, uc, ud]; done)); (case hp => (simp [t0, t1, t2, t7, t8, i1, newSeq, newSl, p1, uc, ud]; first | done | rfl))) | ((with_reducible first | apply WO_skip_i | apply WT_skip_i); (case hw => (simp [t0, t1, t2, t7, t8, i1, newSeq, newSl, p1, uc, ud]; done)); (case he => (simp [t0, t1, t2, t7, t8, i1, newSeq, newSl, p1, uc, ud]; first | done | rfl)); (case hp => (simp [t0, t1, t2, t7, t8, i1, newSeq, newSl, p1, uc, ud]; first | done | rfl))) | ((with_reducible first | apply WO_call_i | apply WT_call_i); (case hw => (simp [t0, t1, t2, t7, t8, i1, newSeq, newSl, p1, uc, ud]; done)); (case he => (simp [t0, t1, t2, t7, t8, i1, newSeq, newSl, p1, uc, ud]; first | done | exact ⟨rfl, rfl, rfl⟩ | rfl))))
        with_reducible apply WO_app_i; (case hw => (simp [t0, t1, t2, t7, t8, i1, newSeq, newSl, p1, uc, ud]; done)); (case ho => rfl); (case hb => rfl); (case ha => (simp [t0, t1, t2, t7, t8, i1, newSeq, newSl, p1, uc, ud]; first | done | exact ⟨rfl, rfl⟩ | rfl)); (case h1 => (simp; first | done | rfl)); (case h2 => (simp; first | done | rfl))
        refine app_then (AC.app (h0 := h0) etv (hu.of ((HE.refl h).drew.newSl 1)) (he.drew.newSl 1) (pp _) (by simp; omega)) ?_
        rintro x4 h4 ⟨ac4, he4, _, _, _⟩
        have e5 := ac4.sv.cells
        have f5 := ac4.sv.isCell
        refine ⟨_, by simp; first | done | rfl, ?_⟩
        repeat (first | (with_reducible first | refine W_seq_i ?_ | refine W_block_i ?_ | refine W_region_i ?_ | refine W_skip_i ?_ | refine W_label_i ?_ | refine W_ret_i ?_ | refine W_exit_i ?_ | refine W_goto_i ?_ | refine W_scope_go ?_ | refine jumpW_r ?_ | refine jumpW_n ?_ | refine jumpW_x ?_ | refine blockW_g ?_ | refine thenW_n ?_ | refine blockW_n ?_ | refine blockW_x ?_ | refine blockW_y (by decide) ?_ | refine blockW_r ?_ | refine thenW_e (by simp; done) ?_ | refine WO_nil_i ?_ | refine WT_nil_i ?_) | (with_reducible apply W_cond_t; (case h => (simp [t0, t1, t2, t7, t8, e5, f5, w1]; done))) | (with_reducible apply W_cond_f; (case h => (simp [t0, t1, t2, t7, t8, e5, f5, w1]; done))) | ((with_reducible first | apply WO_val_i | apply WT_val_i); (case hw => (simp [t0, t1, t2, t7, t8, e5, f5, w1]; done)); (case he => (simp [t0, t1, t2, t7, t8, e5, f5, w1]; first | done | exact ⟨rfl, rfl⟩ | rfl)); (case hp => (simp [t0, t1, t2, t7, t8, e5, f5, w1]; first | done | rfl))) | ((with_reducible first | apply WO_no_i | apply WT_no_i); (case hw => (simp [t0, t1, t2, t7, t8, e5, f5, w1]; done)); (case hp => (simp [t0, t1, t2, t7, t8, e5, f5, w1]; first | done | rfl))) | ((with_reducible first | apply WO_skip_i | apply WT_skip_i); (case hw => (simp [t0, t1, t2, t7, t8, e5, f5, w1]; done)); (case he => (simp [t0, t1, t2, t7, t8, e5, f5, w1]; first | done | rfl)); (case hp => (simp [t0, t1, t2, t7, t8, e5, f5, w1]; first | done | rfl))) | ((with_reducible first | apply WO_call_i | apply WT_call_i); (case hw => (simp [t0, t1, t2, t7, t8, e5, f5, w1]; done)); (case he => (simp [t0, t1, t2, t7, t8, e5, f5, w1]; first | done | exact ⟨rfl, rfl, rfl⟩ | rfl))))
        refine ⟨_, ?_, _, _, i + 1, one ++ [x], _, rfl, rfl, by omega, by simp [t0], by simp [t1], by simp [t2], rfl, by simp, ?_, by simp; omega, ?_, he4⟩
        · omega
        · simpa using ac4
        · intro z hz
          rcases List.mem_append.mp hz with q | q
          · exact hall z q
          · rw [List.mem_singleton.mp q]; exact ⟨hpos, hxk⟩
    repeat (first | (with_reducible first | refine W_seq_i ?_ | refine W_block_i ?_ | refine W_region_i ?_ | refine W_skip_i ?_ | refine W_label_i ?_ | refine W_ret_i ?_ | refine W_exit_i ?_ | refine W_goto_i ?_ | refine W_scope_go ?_ | refine jumpW_r ?_ | refine jumpW_n ?_ | refine jumpW_x ?_ | refine blockW_g ?_ | refine thenW_n ?_ | refine blockW_n ?_ | refine blockW_x ?_ | refine blockW_y (by decide) ?_ | refine blockW_r ?_ | refine thenW_e (by simp; done) ?_ | refine WO_nil_i ?_ | refine WT_nil_i ?_) | (with_reducible apply W_cond_t; (case h => (simp [t0, t1, t2, t7, t8, qi, l1, n1, uc, ud]; done))) | (with_reducible apply W_cond_f; (case h => (simp [t0, t1, t2, t7, t8, qi, l1, n1, uc, ud]; done))) | ((with_reducible first | apply WO_val_i | apply WT_val_i); (case hw => (simp [t0, t1, t2, t7, t8, qi, l1, n1, uc, ud]; done)); (case he => (simp [t0, t1, t2, t7, t8, qi, l1, n1, uc, ud]; first | done | exact ⟨rfl, rfl⟩ | rfl)); (case hp => (simp [t0, t1, t2, t7, t8, qi, l1, n1, uc, ud]; first | done | rfl))) | ((with_reducible first | apply WO_no_i | apply WT_no_i); (case hw => (simp [t0, t1, t2, t7, t8, qi, l1, n1, uc, ud]; done)); (case hp => (simp [t0, t1, t2, t7, t8, qi, l1, n1, uc, ud]; first | done | rfl))) | ((with_reducible first | apply WO_skip_i | apply WT_skip_i); (case hw => (simp [t0, t1, t2, t7, t8, qi, l1, n1, uc, ud]; done)); (case he => (simp [t0, t1, t2, t7, t8, qi, l1, n1, uc, ud]; first | done | rfl)); (case hp => (simp [t0, t1, t2, t7, t8, qi, l1, n1, uc, ud]; first | done | rfl))) | ((with_reducible first | apply WO_call_i | apply WT_call_i); (case hw => (simp [t0, t1, t2, t7, t8, qi, l1, n1, uc, ud]; done)); (case he => (simp [t0, t1, t2, t7, t8, qi, l1, n1, uc, ud]; first | done | exact ⟨rfl, rfl, rfl⟩ | rfl))))
    refine A.mono (block_ans one u hu.sv (by omega) _ (pf _ he)) ?_
    rintro w h2 ⟨own, hw, hwl, hst, hom, e2⟩
    have hx2 := he.trans e2
    have hkey : ∀ a ∈ own, ∀ b ∈ own, a.key = b.key := by
      intro x hx y hy
      obtain ⟨x', hx', rfl⟩ := hom x hx
      obtain ⟨y', hy', rfl⟩ := hom y hy
      obtain ⟨_, k1⟩ := hall x' hx'
      obtain ⟨_, k2⟩ := hall y' hy'
      show x'.key.take 110 = y'.key.take 110
      rw [k1, k2]
    have wc := hw.sv.cells
    have wd := hw.sv.isCell
    have lw := hw.sv.len Try.underlying22
    rw [List.length_map] at lw
    have nw := hw.sv.nm
    obtain ⟨zz, hzz⟩ : ∃ zz : Int, zz = (own.length : Int) - 1 := ⟨_, rfl⟩
    have w0 : IntKind.i64.wrap ((own.length : Int) - 1) = zz := by rw [wrap64 (by omega) (by omega)]; omega
    refine ⟨_, by simp; first | done | rfl, ?_⟩
    repeat (first | (with_reducible first | refine W_seq_i ?_ | refine W_block_i ?_ | refine W_region_i ?_ | refine W_skip_i ?_ | refine W_label_i ?_ | refine W_ret_i ?_ | refine W_exit_i ?_ | refine W_goto_i ?_ | refine W_scope_go ?_ | refine jumpW_r ?_ | refine jumpW_n ?_ | refine jumpW_x ?_ | refine blockW_g ?_ | refine thenW_n ?_ | refine blockW_n ?_ | refine blockW_x ?_ | refine blockW_y (by decide) ?_ | refine blockW_r ?_ | refine thenW_e (by simp; done) ?_ | refine WO_nil_i ?_ | refine WT_nil_i ?_) | (with_reducible apply W_cond_t; (case h => (simp [t0, t1, t2, wc, wd, lw, nw, w0]; done))) | (with_reducible apply W_cond_f; (case h => (simp [t0, t1, t2, wc, wd, lw, nw, w0]; done))) | ((with_reducible first | apply WO_val_i | apply WT_val_i); (case hw => (simp [t0, t1, t2, wc, wd, lw, nw, w0]; done)); (case he => (simp [t0, t1, t2, wc, wd, lw, nw, w0]; first | done | exact ⟨rfl, rfl⟩ | rfl)); (case hp => (simp [t0, t1, t2, wc, wd, lw, nw, w0]; first | done | rfl))) | ((with_reducible first | apply WO_no_i | apply WT_no_i); (case hw => (simp [t0, t1, t2, wc, wd, lw, nw, w0]; done)); (case hp => (simp [t0, t1, t2, wc, wd, lw, nw, w0]; first | done | rfl))) | ((with_reducible first | apply WO_skip_i | apply WT_skip_i); (case hw => (simp [t0, t1, t2, wc, wd, lw, nw, w0]; done)); (case he => (simp [t0, t1, t2, wc, wd, lw, nw, w0]; first | done | rfl)); (case hp => (simp [t0, t1, t2, wc, wd, lw, nw, w0]; first | done | rfl))) | ((with_reducible first | apply WO_call_i | apply WT_call_i); (case hw => (simp [t0, t1, t2, wc, wd, lw, nw, w0]; done)); (case he => (simp [t0, t1, t2, wc, wd, lw, nw, w0]; first | done | exact ⟨rfl, rfl, rfl⟩ | rfl))))
    refine W_loop (fun m s => ∃ (t : Fm AV) (h : Hp Fm) (back : List Ver) (bk : AV) (z : Int), s = ⟨t, 94, h, none⟩ ∧ z = (m : Int) - 1 ∧ m ≤ own.length ∧ tget t 1 = vp ∧ tget t 2 = .int .i64 tm ∧ tget t 9 = w ∧ tget t 10 = bk ∧ tget t 11 = .int .i64 z ∧ AC h0 h 8 (back.map encV) bk ∧ back = (own.drop m).reverse ∧ HE h0 h) own.length
      ⟨_, _, [], .nils, zz, rfl, hzz, Nat.le_refl _, by simp [t1], by simp [t2], by simp, by simp, by simp, .inl ⟨rfl, rfl⟩, by simp, hx2⟩ ?_
    clear t0 t1 t2 t7 t8 t w0 hzz zz
    rintro m s ⟨t, h3, back, bk, z, rfl, hz, hm, t1, t2, t9, t10, t11, hbk, hbe, he3⟩
    have bc := hbk.sv.cells
    have bd := hbk.sv.isCell
    by_cases q0 : 0 < m
    · have qz : 0 ≤ z := by omega
      obtain ⟨k, hk⟩ : ∃ k, k = m - 1 := ⟨_, rfl⟩
      have hzk : z = (k : Int) := by omega
      have hmk : m = k + 1 := by omega
      subst hzk
      have i1 := hw.sv.idx Try.underlying22 z39 (k := .i64) (i := (k : Nat)) (by omega) (by rw [List.length_map, Int.toNat_natCast]; omega)
      simp only [List.getElem_map, Int.toNat_natCast] at i1
      obtain ⟨y, hy⟩ : ∃ y : Int, y = (k : Int) - 1 := ⟨_, rfl⟩
      have w1 : IntKind.i64.wrap ((k : Int) - 1) = y := by rw [wrap64 (by omega) (by omega)]; omega
      have p3 : h3.pol 39 = false := by rw [he3.pol]; exact pp _
      have hbl : back.length ≤ 12 := by rw [hbe]; simp; omega
      repeat (first | (with_reducible first | refine W_seq_i ?_ | refine W_block_i ?_ | refine W_region_i ?_ | refine W_skip_i ?_ | refine W_label_i ?_ | refine W_ret_i ?_ | refine W_exit_i ?_ | refine W_goto_i ?_ | refine W_scope_go ?_ | refine jumpW_r ?_ | refine jumpW_n ?_ | refine jumpW_x ?_ | refine blockW_g ?_ | refine thenW_n ?_ | refine blockW_n ?_ | refine blockW_x ?_ | refine blockW_y (by decide) ?_ | refine blockW_r ?_ | refine thenW_e (by simp; done) ?_ | refine WO_nil_i ?_ | refine WT_nil_i ?_) | (with_reducible apply W_cond_t; (case h => (simp [t1, t2, t9, t10, t11, qz, i1, newSeq, newSl, p3, bc, bd]; done))) | (with_reducible apply W_cond_f; (case h => (simp [t1, t2, t9, t10, t11, qz, i1, newSeq, newSl, p3, bc, bd]; done))) | ((with_reducible first | apply WO_val_i | apply WT_val_i); (case hw => (simp [t1, t2, t9, t10, t11, qz, i1, newSeq, newSl, p3, bc, bd]; done)); (case he => (simp [t1, t2, t9, t10, t11, qz, i1, newSeq, newSl, p3, bc, bd]; first | done | exact ⟨rfl, rfl⟩ | rfl)); (case hp => (simp [t1, t2, t9, t10, t11, qz, i1, newSeq, newSl, p3, bc, bd]; first | done | rfl))) | ((with_reducible first | apply WO_no_i | apply WT_no_i); (case hw => (simp [t1, t2, t9, t10, t11, qz, i1, newSeq, newSl, p3, bc, bd]; done)); (case hp => (simp [t1, t2, t9, t10, t11, qz, i1, newSeq, newSl, p3, bc, bd]; first | done | rfl))) | ((with_reducible first | apply WO_skip_i | apply WT_skip_i); (case hw => (simp [t1, t2, t9, t10, t11, qz, i1, newSeq, newSl, p3, bc, bd]; done)); (case he => (simp [t1, t2, t9, t10, t11, qz, i1, newSeq, newSl, p3, bc, bd]; first | done | rfl)); (case hp => (simp [t1, t2, t9, t10, t11, qz, i1, newSeq, newSl, p3, bc, bd]; first | done | rfl))) | ((with_reducible first | apply WO_call_i | apply WT_call_i); (case hw => (simp [t1, t2, t9, t10, t11, qz, i1, newSeq, newSl, p3, bc, bd]; done)); (case he => (simp [t1, t2, t9, t10, t11, qz, i1, newSeq, newSl, p3, bc, bd]; first | done | exact ⟨rfl, rfl, rfl⟩ | rfl))))
      with_reducible apply WO_app_i; (case hw => (simp [t1, t2, t9, t10, t11, qz, i1, newSeq, newSl, p3, bc, bd]; done)); (case ho => rfl); (case hb => rfl); (case ha => (simp [t1, t2, t9, t10, t11, qz, i1, newSeq, newSl, p3, bc, bd]; first | done | exact ⟨rfl, rfl⟩ | rfl)); (case h1 => (simp; first | done | rfl)); (case h2 => (simp; first | done | rfl))
      refine app_then (AC.app (h0 := h0) etv (hbk.of ((HE.refl h3).newSl 1)) (he3.newSl 1) (pp _) (by simp; omega)) ?_
      rintro x4 h4 ⟨ac4, he4, _, _, _⟩
      have e5 := ac4.sv.cells
      have f5 := ac4.sv.isCell
      refine ⟨_, by simp; first | done | rfl, ?_⟩
      repeat (first | (with_reducible first | refine W_seq_i ?_ | refine W_block_i ?_ | refine W_region_i ?_ | refine W_skip_i ?_ | refine W_label_i ?_ | refine W_ret_i ?_ | refine W_exit_i ?_ | refine W_goto_i ?_ | refine W_scope_go ?_ | refine jumpW_r ?_ | refine jumpW_n ?_ | refine jumpW_x ?_ | refine blockW_g ?_ | refine thenW_n ?_ | refine blockW_n ?_ | refine blockW_x ?_ | refine blockW_y (by decide) ?_ | refine blockW_r ?_ | refine thenW_e (by simp; done) ?_ | refine WO_nil_i ?_ | refine WT_nil_i ?_) | (with_reducible apply W_cond_t; (case h => (simp [t1, t2, t9, t10, t11, e5, f5, w1]; done))) | (with_reducible apply W_cond_f; (case h => (simp [t1, t2, t9, t10, t11, e5, f5, w1]; done))) | ((with_reducible first | apply WO_val_i | apply WT_val_i); (case hw => (simp [t1, t2, t9, t10, t11, e5, f5, w1]; done)); (case he => (simp [t1, t2, t9, t10, t11, e5, f5, w1]; first | done | exact ⟨rfl, rfl⟩ | rfl)); (case hp => (simp [t1, t2, t9, t10, t11, e5, f5, w1]; first | done | rfl))) | ((with_reducible first | apply WO_no_i | apply WT_no_i); (case hw => (simp [t1, t2, t9, t10, t11, e5, f5, w1]; done)); (case hp => (simp [t1, t2, t9, t10, t11, e5, f5, w1]; first | done | rfl))) | ((with_reducible first | apply WO_skip_i | apply WT_skip_i); (case hw => (simp [t1, t2, t9, t10, t11, e5, f5, w1]; done)); (case he => (simp [t1, t2, t9, t10, t11, e5, f5, w1]; first | done | rfl)); (case hp => (simp [t1, t2, t9, t10, t11, e5, f5, w1]; first | done | rfl))) | ((with_reducible first | apply WO_call_i | apply WT_call_i); (case hw => (simp [t1, t2, t9, t10, t11, e5, f5, w1]; done)); (case he => (simp [t1, t2, t9, t10, t11, e5, f5, w1]; first | done | exact ⟨rfl, rfl, rfl⟩ | rfl))))
      refine ⟨k, by omega, _, _, back ++ [own[k]'(by omega)], _, y, rfl, hy, by omega, by simp [t1], by simp [t2], by simp [t9], rfl, by simp, ?_, ?_, he4⟩
      · simpa using ac4
      · have e : own.drop m = own.drop (k + 1) := congrArg (fun j => own.drop j) hmk
        have e2 : own.drop k = own[k]'(by omega) :: own.drop (k + 1) := List.drop_eq_getElem_cons (by omega)
        rw [hbe, e, e2, List.reverse_cons]
    have qz : ¬ (0 ≤ z) := by omega
    have hbr : back = own.reverse := by rw [hbe, show m = 0 by omega]; rfl
    subst hbr
    have A1 := get_ans ps vp hvp (by omega) own w hw (by omega) tm h3
    repeat (first | (with_reducible first | refine W_seq_i ?_ | refine W_block_i ?_ | refine W_region_i ?_ | refine W_skip_i ?_ | refine W_label_i ?_ | refine W_ret_i ?_ | refine W_exit_i ?_ | refine W_goto_i ?_ | refine W_scope_go ?_ | refine jumpW_r ?_ | refine jumpW_n ?_ | refine jumpW_x ?_ | refine blockW_g ?_ | refine thenW_n ?_ | refine blockW_n ?_ | refine blockW_x ?_ | refine blockW_y (by decide) ?_ | refine blockW_r ?_ | refine thenW_e (by simp; done) ?_ | refine WO_nil_i ?_ | refine WT_nil_i ?_) | (with_reducible apply W_cond_t; (case h => (simp [t1, t2, t9, t10, t11, qz, wc, wd]; done))) | (with_reducible apply W_cond_f; (case h => (simp [t1, t2, t9, t10, t11, qz, wc, wd]; done))) | ((with_reducible first | apply WO_val_i | apply WT_val_i); (case hw => (simp [t1, t2, t9, t10, t11, qz, wc, wd]; done)); (case he => (simp [t1, t2, t9, t10, t11, qz, wc, wd]; first | done | exact ⟨rfl, rfl⟩ | rfl)); (case hp => (simp [t1, t2, t9, t10, t11, qz, wc, wd]; first | done | rfl))) | ((with_reducible first | apply WO_no_i | apply WT_no_i); (case hw => (simp [t1, t2, t9, t10, t11, qz, wc, wd]; done)); (case hp => (simp [t1, t2, t9, t10, t11, qz, wc, wd]; first | done | rfl))) | ((with_reducible first | apply WO_skip_i | apply WT_skip_i); (case hw => (simp [t1, t2, t9, t10, t11, qz, wc, wd]; done)); (case he => (simp [t1, t2, t9, t10, t11, qz, wc, wd]; first | done | rfl)); (case hp => (simp [t1, t2, t9, t10, t11, qz, wc, wd]; first | done | rfl))) | ((with_reducible first | apply WO_call_i | apply WT_call_i); (case hw => (simp [t1, t2, t9, t10, t11, qz, wc, wd]; done)); (case he => (simp [t1, t2, t9, t10, t11, qz, wc, wd]; first | done | exact ⟨rfl, rfl, rfl⟩ | rfl))))
    refine A.mono A1 ?_
    rintro _ h5 ⟨rfl, e5⟩
    have hx5 := he3.trans e5
    have A2 := get_ans ps vp hvp (by omega) own.reverse bk hbk.sl (by simp; omega) tm h5
    rw [order_back hst hkey] at A2
    refine ⟨_, by simp; first | done | rfl, ?_⟩
    cases hg : getF (orderP ps own) tm with
    | none =>
      rw [hg] at A2
      have eb : eqB ([] : List UInt8) ([] : List UInt8) = true := by rw [eqB_eq]; simp
      repeat (first | (with_reducible first | refine W_seq_i ?_ | refine W_block_i ?_ | refine W_region_i ?_ | refine W_skip_i ?_ | refine W_label_i ?_ | refine W_ret_i ?_ | refine W_exit_i ?_ | refine W_goto_i ?_ | refine W_scope_go ?_ | refine jumpW_r ?_ | refine jumpW_n ?_ | refine jumpW_x ?_ | refine blockW_g ?_ | refine thenW_n ?_ | refine blockW_n ?_ | refine blockW_x ?_ | refine blockW_y (by decide) ?_ | refine blockW_r ?_ | refine thenW_e (by simp; done) ?_ | refine WO_nil_i ?_ | refine WT_nil_i ?_) | (with_reducible apply W_cond_t; (case h => (simp [outG, t1, t2, t9, t10, bc, bd]; done))) | (with_reducible apply W_cond_f; (case h => (simp [outG, t1, t2, t9, t10, bc, bd]; done))) | ((with_reducible first | apply WO_val_i | apply WT_val_i); (case hw => (simp [outG, t1, t2, t9, t10, bc, bd]; done)); (case he => (simp [outG, t1, t2, t9, t10, bc, bd]; first | done | exact ⟨rfl, rfl⟩ | rfl)); (case hp => (simp [outG, t1, t2, t9, t10, bc, bd]; first | done | rfl))) | ((with_reducible first | apply WO_no_i | apply WT_no_i); (case hw => (simp [outG, t1, t2, t9, t10, bc, bd]; done)); (case hp => (simp [outG, t1, t2, t9, t10, bc, bd]; first | done | rfl))) | ((with_reducible first | apply WO_skip_i | apply WT_skip_i); (case hw => (simp [outG, t1, t2, t9, t10, bc, bd]; done)); (case he => (simp [outG, t1, t2, t9, t10, bc, bd]; first | done | rfl)); (case hp => (simp [outG, t1, t2, t9, t10, bc, bd]; first | done | rfl))) | ((with_reducible first | apply WO_call_i | apply WT_call_i); (case hw => (simp [outG, t1, t2, t9, t10, bc, bd]; done)); (case he => (simp [outG, t1, t2, t9, t10, bc, bd]; first | done | exact ⟨rfl, rfl, rfl⟩ | rfl))))
      refine A.mono A2 ?_
      rintro _ h6 ⟨rfl, e6⟩
      have hx6 := hx5.trans e6
      refine ⟨_, by simp [outG]; first | done | rfl, ?_⟩
      repeat (first | (with_reducible first | refine W_seq_i ?_ | refine W_block_i ?_ | refine W_region_i ?_ | refine W_skip_i ?_ | refine W_label_i ?_ | refine W_ret_i ?_ | refine W_exit_i ?_ | refine W_goto_i ?_ | refine W_scope_go ?_ | refine jumpW_r ?_ | refine jumpW_n ?_ | refine jumpW_x ?_ | refine blockW_g ?_ | refine thenW_n ?_ | refine blockW_n ?_ | refine blockW_x ?_ | refine blockW_y (by decide) ?_ | refine blockW_r ?_ | refine thenW_e (by simp; done) ?_ | refine WO_nil_i ?_ | refine WT_nil_i ?_) | (with_reducible apply W_cond_t; (case h => (simp [outG, t1, t2, t9, t10, wc, wd]; done))) | (with_reducible apply W_cond_f; (case h => (simp [outG, t1, t2, t9, t10, wc, wd]; done))) | ((with_reducible first | apply WO_val_i | apply WT_val_i); (case hw => (simp [outG, t1, t2, t9, t10, wc, wd]; done)); (case he => (simp [outG, t1, t2, t9, t10, wc, wd]; first | done | exact ⟨rfl, rfl⟩ | rfl)); (case hp => (simp [outG, t1, t2, t9, t10, wc, wd]; first | done | rfl))) | ((with_reducible first | apply WO_no_i | apply WT_no_i); (case hw => (simp [outG, t1, t2, t9, t10, wc, wd]; done)); (case hp => (simp [outG, t1, t2, t9, t10, wc, wd]; first | done | rfl))) | ((with_reducible first | apply WO_skip_i | apply WT_skip_i); (case hw => (simp [outG, t1, t2, t9, t10, wc, wd]; done)); (case he => (simp [outG, t1, t2, t9, t10, wc, wd]; first | done | rfl)); (case hp => (simp [outG, t1, t2, t9, t10, wc, wd]; first | done | rfl))) | ((with_reducible first | apply WO_call_i | apply WT_call_i); (case hw => (simp [outG, t1, t2, t9, t10, wc, wd]; done)); (case he => (simp [outG, t1, t2, t9, t10, wc, wd]; first | done | exact ⟨rfl, rfl, rfl⟩ | rfl))))
      refine A.mono (order_ans ps vp hvp (by omega) own w hw (by omega) _) ?_
      rintro o1 h7 ⟨ho1, hol1, e7⟩
      have hx7 := hx6.trans e7
      refine ⟨_, by simp; first | done | rfl, ?_⟩
      repeat (first | (with_reducible first | refine W_seq_i ?_ | refine W_block_i ?_ | refine W_region_i ?_ | refine W_skip_i ?_ | refine W_label_i ?_ | refine W_ret_i ?_ | refine W_exit_i ?_ | refine W_goto_i ?_ | refine W_scope_go ?_ | refine jumpW_r ?_ | refine jumpW_n ?_ | refine jumpW_x ?_ | refine blockW_g ?_ | refine thenW_n ?_ | refine blockW_n ?_ | refine blockW_x ?_ | refine blockW_y (by decide) ?_ | refine blockW_r ?_ | refine thenW_e (by simp; done) ?_ | refine WO_nil_i ?_ | refine WT_nil_i ?_) | (with_reducible apply W_cond_t; (case h => (simp [t1, t2, t9, t10, bc, bd]; done))) | (with_reducible apply W_cond_f; (case h => (simp [t1, t2, t9, t10, bc, bd]; done))) | ((with_reducible first | apply WO_val_i | apply WT_val_i); (case hw => (simp [t1, t2, t9, t10, bc, bd]; done)); (case he => (simp [t1, t2, t9, t10, bc, bd]; first | done | exact ⟨rfl, rfl⟩ | rfl)); (case hp => (simp [t1, t2, t9, t10, bc, bd]; first | done | rfl))) | ((with_reducible first | apply WO_no_i | apply WT_no_i); (case hw => (simp [t1, t2, t9, t10, bc, bd]; done)); (case hp => (simp [t1, t2, t9, t10, bc, bd]; first | done | rfl))) | ((with_reducible first | apply WO_skip_i | apply WT_skip_i); (case hw => (simp [t1, t2, t9, t10, bc, bd]; done)); (case he => (simp [t1, t2, t9, t10, bc, bd]; first | done | rfl)); (case hp => (simp [t1, t2, t9, t10, bc, bd]; first | done | rfl))) | ((with_reducible first | apply WO_call_i | apply WT_call_i); (case hw => (simp [t1, t2, t9, t10, bc, bd]; done)); (case he => (simp [t1, t2, t9, t10, bc, bd]; first | done | exact ⟨rfl, rfl, rfl⟩ | rfl))))
      have A3 := order_ans ps vp hvp (by omega) own.reverse bk hbk.sl (by simp; omega) h7
      rw [order_back hst hkey] at A3
      refine A.mono A3 ?_
      rintro o2 h8 ⟨ho2, _, e8⟩
      have hx8 := hx7.trans e8
      refine ⟨_, by simp; first | done | rfl, ?_⟩
      repeat (first | (with_reducible first | refine W_seq_i ?_ | refine W_block_i ?_ | refine W_region_i ?_ | refine W_skip_i ?_ | refine W_label_i ?_ | refine W_ret_i ?_ | refine W_exit_i ?_ | refine W_goto_i ?_ | refine W_scope_go ?_ | refine jumpW_r ?_ | refine jumpW_n ?_ | refine jumpW_x ?_ | refine blockW_g ?_ | refine thenW_n ?_ | refine blockW_n ?_ | refine blockW_x ?_ | refine blockW_y (by decide) ?_ | refine blockW_r ?_ | refine thenW_e (by simp; done) ?_ | refine WO_nil_i ?_ | refine WT_nil_i ?_) | (with_reducible apply W_cond_t; (case h => (simp; done))) | (with_reducible apply W_cond_f; (case h => (simp; done))) | ((with_reducible first | apply WO_val_i | apply WT_val_i); (case hw => (simp; done)); (case he => (simp; first | done | exact ⟨rfl, rfl⟩ | rfl)); (case hp => (simp; first | done | rfl))) | ((with_reducible first | apply WO_no_i | apply WT_no_i); (case hw => (simp; done)); (case hp => (simp; first | done | rfl))) | ((with_reducible first | apply WO_skip_i | apply WT_skip_i); (case hw => (simp; done)); (case he => (simp; first | done | rfl)); (case hp => (simp; first | done | rfl))) | ((with_reducible first | apply WO_call_i | apply WT_call_i); (case hw => (simp; done)); (case he => (simp; first | done | exact ⟨rfl, rfl, rfl⟩ | rfl))))
      refine A.mono (same_ans _ _ o1 o2 ho1.sv ho2.sv (by omega) _) ?_
      rintro _ h9 ⟨rfl, e9⟩
      have hx9 := hx8.trans e9
      refine ⟨_, by simp; first | done | rfl, ?_⟩
      repeat (first | (with_reducible first | refine W_seq_i ?_ | refine W_block_i ?_ | refine W_region_i ?_ | refine W_skip_i ?_ | refine W_label_i ?_ | refine W_ret_i ?_ | refine W_exit_i ?_ | refine W_goto_i ?_ | refine W_scope_go ?_ | refine jumpW_r ?_ | refine jumpW_n ?_ | refine jumpW_x ?_ | refine blockW_g ?_ | refine thenW_n ?_ | refine blockW_n ?_ | refine blockW_x ?_ | refine blockW_y (by decide) ?_ | refine blockW_r ?_ | refine thenW_e (by simp; done) ?_ | refine WO_nil_i ?_ | refine WT_nil_i ?_) | (with_reducible apply W_cond_t; (case h => (simp [eb, eql4x]; done))) | (with_reducible apply W_cond_f; (case h => (simp [eb, eql4x]; done))) | ((with_reducible first | apply WO_val_i | apply WT_val_i); (case hw => (simp [eb, eql4x]; done)); (case he => (simp [eb, eql4x]; first | done | exact ⟨rfl, rfl⟩ | rfl)); (case hp => (simp [eb, eql4x]; first | done | rfl))) | ((with_reducible first | apply WO_no_i | apply WT_no_i); (case hw => (simp [eb, eql4x]; done)); (case hp => (simp [eb, eql4x]; first | done | rfl))) | ((with_reducible first | apply WO_skip_i | apply WT_skip_i); (case hw => (simp [eb, eql4x]; done)); (case he => (simp [eb, eql4x]; first | done | rfl)); (case hp => (simp [eb, eql4x]; first | done | rfl))) | ((with_reducible first | apply WO_call_i | apply WT_call_i); (case hw => (simp [eb, eql4x]; done)); (case he => (simp [eb, eql4x]; first | done | exact ⟨rfl, rfl, rfl⟩ | rfl))))
      refine A.mono (lives_ans _ (pf _ hx9)) ?_
      rintro _ h10 ⟨rfl, e10⟩
      refine ⟨_, by simp; first | done | rfl, ?_⟩
      repeat (first | (with_reducible first | refine W_seq_i ?_ | refine W_block_i ?_ | refine W_region_i ?_ | refine W_skip_i ?_ | refine W_label_i ?_ | refine W_ret_i ?_ | refine W_exit_i ?_ | refine W_goto_i ?_ | refine W_scope_go ?_ | refine jumpW_r ?_ | refine jumpW_n ?_ | refine jumpW_x ?_ | refine blockW_g ?_ | refine thenW_n ?_ | refine blockW_n ?_ | refine blockW_x ?_ | refine blockW_y (by decide) ?_ | refine blockW_r ?_ | refine thenW_e (by simp; done) ?_ | refine WO_nil_i ?_ | refine WT_nil_i ?_) | (with_reducible apply W_cond_t; (case h => (simp; done))) | (with_reducible apply W_cond_f; (case h => (simp; done))) | ((with_reducible first | apply WO_val_i | apply WT_val_i); (case hw => (simp; done)); (case he => (simp; first | done | exact ⟨rfl, rfl⟩ | rfl)); (case hp => (simp; first | done | rfl))) | ((with_reducible first | apply WO_no_i | apply WT_no_i); (case hw => (simp; done)); (case hp => (simp; first | done | rfl))) | ((with_reducible first | apply WO_skip_i | apply WT_skip_i); (case hw => (simp; done)); (case he => (simp; first | done | rfl)); (case hp => (simp; first | done | rfl))) | ((with_reducible first | apply WO_call_i | apply WT_call_i); (case hw => (simp; done)); (case he => (simp; first | done | exact ⟨rfl, rfl, rfl⟩ | rfl))))
      (first | apply endW_r | apply endW_n); (case h1 => (simp [Try.results4]; first | done | rfl))
      exact ⟨by simp, hx9.trans e10⟩
    | some val =>
      rw [hg] at A2
      have eb : eqB val val = true := by rw [eqB_eq]; simp
      repeat (first | (with_reducible first | refine W_seq_i ?_ | refine W_block_i ?_ | refine W_region_i ?_ | refine W_skip_i ?_ | refine W_label_i ?_ | refine W_ret_i ?_ | refine W_exit_i ?_ | refine W_goto_i ?_ | refine W_scope_go ?_ | refine jumpW_r ?_ | refine jumpW_n ?_ | refine jumpW_x ?_ | refine blockW_g ?_ | refine thenW_n ?_ | refine blockW_n ?_ | refine blockW_x ?_ | refine blockW_y (by decide) ?_ | refine blockW_r ?_ | refine thenW_e (by simp; done) ?_ | refine WO_nil_i ?_ | refine WT_nil_i ?_) | (with_reducible apply W_cond_t; (case h => (simp [outG, t1, t2, t9, t10, bc, bd]; done))) | (with_reducible apply W_cond_f; (case h => (simp [outG, t1, t2, t9, t10, bc, bd]; done))) | ((with_reducible first | apply WO_val_i | apply WT_val_i); (case hw => (simp [outG, t1, t2, t9, t10, bc, bd]; done)); (case he => (simp [outG, t1, t2, t9, t10, bc, bd]; first | done | exact ⟨rfl, rfl⟩ | rfl)); (case hp => (simp [outG, t1, t2, t9, t10, bc, bd]; first | done | rfl))) | ((with_reducible first | apply WO_no_i | apply WT_no_i); (case hw => (simp [outG, t1, t2, t9, t10, bc, bd]; done)); (case hp => (simp [outG, t1, t2, t9, t10, bc, bd]; first | done | rfl))) | ((with_reducible first | apply WO_skip_i | apply WT_skip_i); (case hw => (simp [outG, t1, t2, t9, t10, bc, bd]; done)); (case he => (simp [outG, t1, t2, t9, t10, bc, bd]; first | done | rfl)); (case hp => (simp [outG, t1, t2, t9, t10, bc, bd]; first | done | rfl))) | ((with_reducible first | apply WO_call_i | apply WT_call_i); (case hw => (simp [outG, t1, t2, t9, t10, bc, bd]; done)); (case he => (simp [outG, t1, t2, t9, t10, bc, bd]; first | done | exact ⟨rfl, rfl, rfl⟩ | rfl))))
      refine A.mono A2 ?_
      rintro _ h6 ⟨rfl, e6⟩
      have hx6 := hx5.trans e6
      refine ⟨_, by simp [outG]; first | done | rfl, ?_⟩
      repeat (first | (with_reducible first | refine W_seq_i ?_ | refine W_block_i ?_ | refine W_region_i ?_ | refine W_skip_i ?_ | refine W_label_i ?_ | refine W_ret_i ?_ | refine W_exit_i ?_ | refine W_goto_i ?_ | refine W_scope_go ?_ | refine jumpW_r ?_ | refine jumpW_n ?_ | refine jumpW_x ?_ | refine blockW_g ?_ | refine thenW_n ?_ | refine blockW_n ?_ | refine blockW_x ?_ | refine blockW_y (by decide) ?_ | refine blockW_r ?_ | refine thenW_e (by simp; done) ?_ | refine WO_nil_i ?_ | refine WT_nil_i ?_) | (with_reducible apply W_cond_t; (case h => (simp [outG, t1, t2, t9, t10, wc, wd]; done))) | (with_reducible apply W_cond_f; (case h => (simp [outG, t1, t2, t9, t10, wc, wd]; done))) | ((with_reducible first | apply WO_val_i | apply WT_val_i); (case hw => (simp [outG, t1, t2, t9, t10, wc, wd]; done)); (case he => (simp [outG, t1, t2, t9, t10, wc, wd]; first | done | exact ⟨rfl, rfl⟩ | rfl)); (case hp => (simp [outG, t1, t2, t9, t10, wc, wd]; first | done | rfl))) | ((with_reducible first | apply WO_no_i | apply WT_no_i); (case hw => (simp [outG, t1, t2, t9, t10, wc, wd]; done)); (case hp => (simp [outG, t1, t2, t9, t10, wc, wd]; first | done | rfl))) | ((with_reducible first | apply WO_skip_i | apply WT_skip_i); (case hw => (simp [outG, t1, t2, t9, t10, wc, wd]; done)); (case he => (simp [outG, t1, t2, t9, t10, wc, wd]; first | done | rfl)); (case hp => (simp [outG, t1, t2, t9, t10, wc, wd]; first | done | rfl))) | ((with_reducible first | apply WO_call_i | apply WT_call_i); (case hw => (simp [outG, t1, t2, t9, t10, wc, wd]; done)); (case he => (simp [outG, t1, t2, t9, t10, wc, wd]; first | done | exact ⟨rfl, rfl, rfl⟩ | rfl))))
      refine A.mono (order_ans ps vp hvp (by omega) own w hw (by omega) _) ?_
      rintro o1 h7 ⟨ho1, hol1, e7⟩
      have hx7 := hx6.trans e7
      refine ⟨_, by simp; first | done | rfl, ?_⟩
      repeat (first | (with_reducible first | refine W_seq_i ?_ | refine W_block_i ?_ | refine W_region_i ?_ | refine W_skip_i ?_ | refine W_label_i ?_ | refine W_ret_i ?_ | refine W_exit_i ?_ | refine W_goto_i ?_ | refine W_scope_go ?_ | refine jumpW_r ?_ | refine jumpW_n ?_ | refine jumpW_x ?_ | refine blockW_g ?_ | refine thenW_n ?_ | refine blockW_n ?_ | refine blockW_x ?_ | refine blockW_y (by decide) ?_ | refine blockW_r ?_ | refine thenW_e (by simp; done) ?_ | refine WO_nil_i ?_ | refine WT_nil_i ?_) | (with_reducible apply W_cond_t; (case h => (simp [t1, t2, t9, t10, bc, bd]; done))) | (with_reducible apply W_cond_f; (case h => (simp [t1, t2, t9, t10, bc, bd]; done))) | ((with_reducible first | apply WO_val_i | apply WT_val_i); (case hw => (simp [t1, t2, t9, t10, bc, bd]; done)); (case he => (simp [t1, t2, t9, t10, bc, bd]; first | done | exact ⟨rfl, rfl⟩ | rfl)); (case hp => (simp [t1, t2, t9, t10, bc, bd]; first | done | rfl))) | ((with_reducible first | apply WO_no_i | apply WT_no_i); (case hw => (simp [t1, t2, t9, t10, bc, bd]; done)); (case hp => (simp [t1, t2, t9, t10, bc, bd]; first | done | rfl))) | ((with_reducible first | apply WO_skip_i | apply WT_skip_i); (case hw => (simp [t1, t2, t9, t10, bc, bd]; done)); (case he => (simp [t1, t2, t9, t10, bc, bd]; first | done | rfl)); (case hp => (simp [t1, t2, t9, t10, bc, bd]; first | done | rfl))) | ((with_reducible first | apply WO_call_i | apply WT_call_i); (case hw => (simp [t1, t2, t9, t10, bc, bd]; done)); (case he => (simp [t1, t2, t9, t10, bc, bd]; first | done | exact ⟨rfl, rfl, rfl⟩ | rfl))))
      have A3 := order_ans ps vp hvp (by omega) own.reverse bk hbk.sl (by simp; omega) h7
      rw [order_back hst hkey] at A3
      refine A.mono A3 ?_
      rintro o2 h8 ⟨ho2, _, e8⟩
      have hx8 := hx7.trans e8
      refine ⟨_, by simp; first | done | rfl, ?_⟩
      repeat (first | (with_reducible first | refine W_seq_i ?_ | refine W_block_i ?_ | refine W_region_i ?_ | refine W_skip_i ?_ | refine W_label_i ?_ | refine W_ret_i ?_ | refine W_exit_i ?_ | refine W_goto_i ?_ | refine W_scope_go ?_ | refine jumpW_r ?_ | refine jumpW_n ?_ | refine jumpW_x ?_ | refine blockW_g ?_ | refine thenW_n ?_ | refine blockW_n ?_ | refine blockW_x ?_ | refine blockW_y (by decide) ?_ | refine blockW_r ?_ | refine thenW_e (by simp; done) ?_ | refine WO_nil_i ?_ | refine WT_nil_i ?_) | (with_reducible apply W_cond_t; (case h => (simp; done))) | (with_reducible apply W_cond_f; (case h => (simp; done))) | ((with_reducible first | apply WO_val_i | apply WT_val_i); (case hw => (simp; done)); (case he => (simp; first | done | exact ⟨rfl, rfl⟩ | rfl)); (case hp => (simp; first | done | rfl))) | ((with_reducible first | apply WO_no_i | apply WT_no_i); (case hw => (simp; done)); (case hp => (simp; first | done | rfl))) | ((with_reducible first | apply WO_skip_i | apply WT_skip_i); (case hw => (simp; done)); (case he => (simp; first | done | rfl)); (case hp => (simp; first | done | rfl))) | ((with_reducible first | apply WO_call_i | apply WT_call_i); (case hw => (simp; done)); (case he => (simp; first | done | exact ⟨rfl, rfl, rfl⟩ | rfl))))
      refine A.mono (same_ans _ _ o1 o2 ho1.sv ho2.sv (by omega) _) ?_
      rintro _ h9 ⟨rfl, e9⟩
      have hx9 := hx8.trans e9
      refine ⟨_, by simp; first | done | rfl, ?_⟩
      repeat (first | (with_reducible first | refine W_seq_i ?_ | refine W_block_i ?_ | refine W_region_i ?_ | refine W_skip_i ?_ | refine W_label_i ?_ | refine W_ret_i ?_ | refine W_exit_i ?_ | refine W_goto_i ?_ | refine W_scope_go ?_ | refine jumpW_r ?_ | refine jumpW_n ?_ | refine jumpW_x ?_ | refine blockW_g ?_ | refine thenW_n ?_ | refine blockW_n ?_ | refine blockW_x ?_ | refine blockW_y (by decide) ?_ | refine blockW_r ?_ | refine thenW_e (by simp; done) ?_ | refine WO_nil_i ?_ | refine WT_nil_i ?_) | (with_reducible apply W_cond_t; (case h => (simp [eb, eql4x]; done))) | (with_reducible apply W_cond_f; (case h => (simp [eb, eql4x]; done))) | ((with_reducible first | apply WO_val_i | apply WT_val_i); (case hw => (simp [eb, eql4x]; done)); (case he => (simp [eb, eql4x]; first | done | exact ⟨rfl, rfl⟩ | rfl)); (case hp => (simp [eb, eql4x]; first | done | rfl))) | ((with_reducible first | apply WO_no_i | apply WT_no_i); (case hw => (simp [eb, eql4x]; done)); (case hp => (simp [eb, eql4x]; first | done | rfl))) | ((with_reducible first | apply WO_skip_i | apply WT_skip_i); (case hw => (simp [eb, eql4x]; done)); (case he => (simp [eb, eql4x]; first | done | rfl)); (case hp => (simp [eb, eql4x]; first | done | rfl))) | ((with_reducible first | apply WO_call_i | apply WT_call_i); (case hw => (simp [eb, eql4x]; done)); (case he => (simp [eb, eql4x]; first | done | exact ⟨rfl, rfl, rfl⟩ | rfl))))
      refine A.mono (lives_ans _ (pf _ hx9)) ?_
      rintro _ h10 ⟨rfl, e10⟩
      refine ⟨_, by simp; first | done | rfl, ?_⟩
      repeat (first | (with_reducible first | refine W_seq_i ?_ | refine W_block_i ?_ | refine W_region_i ?_ | refine W_skip_i ?_ | refine W_label_i ?_ | refine W_ret_i ?_ | refine W_exit_i ?_ | refine W_goto_i ?_ | refine W_scope_go ?_ | refine jumpW_r ?_ | refine jumpW_n ?_ | refine jumpW_x ?_ | refine blockW_g ?_ | refine thenW_n ?_ | refine blockW_n ?_ | refine blockW_x ?_ | refine blockW_y (by decide) ?_ | refine blockW_r ?_ | refine thenW_e (by simp; done) ?_ | refine WO_nil_i ?_ | refine WT_nil_i ?_) | (with_reducible apply W_cond_t; (case h => (simp; done))) | (with_reducible apply W_cond_f; (case h => (simp; done))) | ((with_reducible first | apply WO_val_i | apply WT_val_i); (case hw => (simp; done)); (case he => (simp; first | done | exact ⟨rfl, rfl⟩ | rfl)); (case hp => (simp; first | done | rfl))) | ((with_reducible first | apply WO_no_i | apply WT_no_i); (case hw => (simp; done)); (case hp => (simp; first | done | rfl))) | ((with_reducible first | apply WO_skip_i | apply WT_skip_i); (case hw => (simp; done)); (case he => (simp; first | done | rfl)); (case hp => (simp; first | done | rfl))) | ((with_reducible first | apply WO_call_i | apply WT_call_i); (case hw => (simp; done)); (case he => (simp; first | done | exact ⟨rfl, rfl, rfl⟩ | rfl))))
      (first | apply endW_r | apply endW_n); (case h1 => (simp [Try.results4]; first | done | rfl))
      exact ⟨by simp, hx9.trans e10⟩
end Go.Vn
