/- What functions of the program come to, in the value machine (a part of the proof of the claim's statement). No condition. -/
import Derived.Test.YtplcehpejjfjoaaGreatVnK3
set_option linter.unusedSimpArgs false
set_option linter.unusedVariables false
set_option maxRecDepth 20000
namespace Go.Vn
open Go.Proofs

theorem keyS_len (s : Bs) : (keyS s).length ≤ 100000 := by
  have h : (s.take 60).length ≤ 60 := by rw [List.length_take]; omega
  unfold keyS keyU
  split
  · rw [List.length_drop]; omega
  · have := esc_len ((s.take 60).take 3)
    have h3 : ((s.take 60).take 3).length ≤ 3 := by rw [List.length_take]; omega
    simp only [keyZ, zeroB, List.length_cons, List.length_append, List.length_nil]; omega


set_option maxHeartbeats 8000000 in
theorem occown_law (l : List Cl) (v : AV) (hv : SV 8 (l.map encC) v) (hr : ∀ c ∈ l, ClR c) (ks : Bs) (tm : Int) (htm : -9223372036854775808 ≤ tm ∧ tm ≤ 9223372036854775807) (hz : Hp Fm) :
    A Tryz.prog TT (.func 4) [v, .str ks, .int .i64 tm] hz (fun r _ => r = .bool true ∧ True) := by
  have vc := hv.cells
  have vi := hv.isCell
  have vn := hv.nm
  have vl := hv.len Tryz.underlying22
  rw [List.length_map] at vl
  obtain ⟨K, hK⟩ : ∃ K, K = keyS ks := ⟨_, rfl⟩
  have hKl : K.length ≤ 100000 := by rw [hK]; exact keyS_len ks
  obtain ⟨h0, hh0⟩ : ∃ h0 : Hp Fm, h0 = { hz with pol := (· == 93) } := ⟨_, rfl⟩
  have hp : h0.pol 93 = true := by rw [hh0]; rfl
  have hp2 : h0.pol 84 = false := by rw [hh0]; rfl
  have hp3 : h0.pol 187 = false := by rw [hh0]; rfl
  have hp4 : h0.pol 101 = false := by rw [hh0]; rfl
  have hp5 : ∀ z, z = 3 ∨ z = 33 ∨ z = 49 → h0.pol z = false := fun z hz => by
    rw [hh0]
    rcases hz with rfl | rfl | rfl <;> rfl
  apply A_goT Tryz.func4 rfl (by rfl); (case hn => (simp [Tryz.ntmps4]; rfl))
  repeat(first|with_reducible first|refine vmR ?_|refine vmV rfl ?_|refine vmW rfl ?_|refine vmL ?_|refine blockW_y (by decide) ?_|((with_reducible first|apply vmO|apply vmT|apply vmC);case a=>simp;with_reducible first|exact .v|exact .c|exact .t|exact .f))
  rw [← hh0]
  refine A.mono (obegin2_ans h0 hp) ?_
  rintro _ h1 ⟨g, e, pm, bs, hM, rfl, k0, me, mp⟩
  refine ⟨_, by simp; first | done | rfl, ?_⟩
  repeat(first|with_reducible first|refine vmR ?_|refine vmV rfl ?_|refine vmW rfl ?_|refine vmL ?_|refine blockW_y (by decide) ?_|((with_reducible first|apply vmO|apply vmT|apply vmC);case a=>simp [eqlAV];with_reducible first|exact .v|exact .c|exact .t|exact .f))
  refine A.mono (begin_ans hM h1 g pm 1 0 [] .nils [] k0 0 (by simp) (by rw [mp]; exact hp2)) ?_
  rintro _ h2 (⟨b1, _⟩ | ⟨_, rfl, p1, m1, lv1, lg1, _, _, k2, _⟩)
  · simp [cntG] at b1
  refine ⟨_, by simp; first | done | rfl, ?_⟩
  have own0 : Own (newTr p1 m1 0) K [] 0 := ⟨rfl, rfl, rfl, rfl, by simp [newTr], by simp [newTr], fun k ps h => by simp [newTr, lookF] at h, by simp, fun t => rfl, fun t s h => by simp [Wof, newTr, lookF, atP_nil] at h⟩
  have k2' : EngH hM h2 g pm 1 0 [newTr p1 m1 0] lv1 lg1 := k2
  clear k2
  repeat(first|with_reducible first|refine vmR ?_|refine vmV rfl ?_|refine vmW rfl ?_|refine vmL ?_|refine blockW_y (by decide) ?_|((with_reducible first|apply vmO|apply vmT|apply vmC);case a=>simp;with_reducible first|exact .v|exact .c|exact .t|exact .f))
  refine W.mono (R := fun e s => e = .exit 0 ∧ ∃ (t : Fm AV) (h : Hp Fm) (x : Tr) (P : List Pc) (u : AV), s = ⟨t, 169, h, none⟩ ∧ tget t 1 = .str ks ∧ tget t 2 = .int .i64 tm ∧ tget t 7 = .ptr g 0 ∧ tget t 10 = .int .i64 1 ∧ tget t 12 = u ∧ SV 3 (P.map encP) u ∧ EngH hM h g pm 1 0 [x] lv1 lg1 ∧ Own x K P 20) ?_ ?_
  · refine W_loop (fun z s => ∃ (t : Fm AV) (h : Hp Fm) (i : Nat) (x : Tr) (P : List Pc) (u : AV), s = ⟨t, 169, h, none⟩ ∧ z = 20 - i ∧ i ≤ l.length ∧ i ≤ 20 ∧ tget t 0 = v ∧ tget t 1 = .str ks ∧ tget t 2 = .int .i64 tm ∧ tget t 7 = .ptr g 0 ∧ tget t 10 = .int .i64 1 ∧ tget t 12 = u ∧ tget t 13 = .int .i64 i ∧ SV 3 (P.map encP) u ∧ EngH hM h g pm 1 0 [x] lv1 lg1 ∧ Own x K P i) 20
      ⟨_, _, 0, _, [], .nils, rfl, rfl, by omega, by omega, by simp, by simp, by simp, by simp, by simp, by simp, by simp, .inl ⟨rfl, rfl⟩, k2', own0⟩ ?_
    rintro _ _ ⟨t, h, i, x, P, u, rfl, rfl, hi, hi20, t0, t1, t2, t7, t10, t12, t13, su, k, ow⟩
    have uc := su.cells
    have ui := su.isCell
    have fin20 : ∀ n, n ≤ 20 → Own x K P n → Own x K P 20 := fun n hn o => by
      obtain ⟨d, hd⟩ : ∃ d, 20 = n + d := ⟨20 - n, by omega⟩
      rw [hd]
      clear hd
      induction d with
      | zero => exact o
      | succ d ih => exact ih.up
    by_cases q : i < l.length
    case neg =>
      have q' : ¬ ((i : Int) < l.length) := by omega
      repeat(first|with_reducible first|refine vmR ?_|refine vmV rfl ?_|refine vmW rfl ?_|refine vmL ?_|refine blockW_y (by decide) ?_|((with_reducible first|apply vmO|apply vmT|apply vmC);case a=>simp [t0, t13, vl, vn, vc, vi, q, q'];with_reducible first|exact .v|exact .c|exact .t|exact .f))
      exact ⟨rfl, _, _, x, P, u, rfl, by simp [t1], by simp [t2], by simp [t7], by simp [t10], by simp [t12], su, k, fin20 i hi20 ow⟩
    have q' : (i : Int) < l.length := by omega
    by_cases q20 : i < 20
    case neg =>
      have q20' : ¬ ((i : Int) < 20) := by omega
      repeat(first|with_reducible first|refine vmR ?_|refine vmV rfl ?_|refine vmW rfl ?_|refine vmL ?_|refine blockW_y (by decide) ?_|((with_reducible first|apply vmO|apply vmT|apply vmC);case a=>simp [t0, t13, vl, vn, vc, vi, q, q', q20, q20'];with_reducible first|exact .v|exact .c|exact .t|exact .f))
      exact ⟨rfl, _, _, x, P, u, rfl, by simp [t1], by simp [t2], by simp [t7], by simp [t10], by simp [t12], su, k, fin20 i hi20 ow⟩
    have q20' : (i : Int) < 20 := by omega
    obtain ⟨c, hc⟩ : ∃ c, c = l[i] := ⟨_, rfl⟩
    have ixc := hv.idx (k := .i64) (i := (i : Int)) Tryz.underlying22 z35 (by omega) (by rw [List.length_map]; omega)
    replace ixc : indexAddrAV Tryz.prog 22 v (.int .i64 (i : Int)) = some (.el (.agg [.int .i64 c.k, .int .i64 c.id, .int .i64 c.t, .str c.key, .str c.to, .int .i64 c.f, .int .i64 c.u, .str c.v]) 0) := by rw [ixc]; simp [hc]
    obtain ⟨ip, hip⟩ : ∃ ip, ip = i + 1 := ⟨_, rfl⟩
    have wip : IntKind.i64.wrap ((i : Int) + 1) = (ip : Int) := by rw [wrap64 (by omega) (by omega)]; omega
    have pw : 2 ^ i ≤ 2 ^ 20 := Nat.pow_le_pow_right (by omega) hi20
    have pw20 : (2 : Nat) ^ 20 = 1048576 := by decide
    have hpl : P.length ≤ 4000000 := by have := ow.plen; omega
    obtain ⟨V, hV⟩ : ∃ V, V = c.v.take 200 := ⟨_, rfl⟩
    have hVl : V.length ≤ 200 := by rw [hV, List.length_take]; omega
    obtain ⟨kc, hkc⟩ : ∃ kc, kc = keyS c.key := ⟨_, rfl⟩
    have hkl : kc.length ≤ 100000 := by rw [hkc]; exact keyS_len c.key
    have hops : ∀ y ∈ [x], 0 ≤ y.ops := fun y hy => by rw [List.mem_singleton.mp hy]; exact ow.o0
    have hps : ∀ y ∈ [x], ∀ ps, lookF kc y.wr = some ps → ps.length ≤ 4000000 := fun y hy ps h => by
      rw [List.mem_singleton.mp hy] at h
      have := ow.len kc ps h; omega
    have hop40 : x.ops < 40 := by have := ow.o1; omega
    by_cases qv : 200 < c.v.length
    · have qv' : (200 : Int) < c.v.length := by omega
      have sl := sl_hi c.v 200 (by omega)
      rw [← hV] at sl
      have e200 : ((200 : Nat) : Int) = 200 := rfl
      rw [e200] at sl
      repeat(first|with_reducible first|refine vmR ?_|refine vmV rfl ?_|refine vmW rfl ?_|refine vmL ?_|refine blockW_y (by decide) ?_|((with_reducible first|apply vmO|apply vmT|apply vmC);case a=>simp [t0, t13, vl, vn, vc, vi, q, q', q20, q20', ixc, qv, qv', sl];with_reducible first|exact .v|exact .c|exact .t|exact .f))
      refine A.mono (okey18_ans c.key h) ?_
      rintro _ h3 ⟨rfl, e3⟩
      rw [← hkc]
      refine ⟨_, by simp; first | done | rfl, ?_⟩
      repeat(first|with_reducible first|refine vmR ?_|refine vmV rfl ?_|refine vmW rfl ?_|refine vmL ?_|refine blockW_y (by decide) ?_|((with_reducible first|apply vmO|apply vmT|apply vmC);case a=>simp [t1];with_reducible first|exact .v|exact .c|exact .t|exact .f))
      refine A.mono (okey18_ans ks h3) ?_
      rintro _ h4 ⟨rfl, e4⟩
      rw [← hK]
      refine ⟨_, by simp; first | done | rfl, ?_⟩
      have k4 := k.of (e3.trans e4)
      by_cases q4 : c.k = 4
      case pos =>
        by_cases qs : kc = K
        case pos =>
          have es : eqB kc K = true := by rw [eqB_dec]; simp [qs]
          repeat(first|with_reducible first|refine vmR ?_|refine vmV rfl ?_|refine vmW rfl ?_|refine vmL ?_|refine blockW_y (by decide) ?_|((with_reducible first|apply vmO|apply vmT|apply vmC);case a=>simp [t0, t13, ixc, q4, es];with_reducible first|exact .v|exact .c|exact .t|exact .f))
          (with_reducible refine W_draw_id (pln := true) [0, 1, 2, 3, 4, 5, 6, 7, 8, 9, 10, 11, 12, 13, 14] [(6, (6, [])), (12, (12, [0]))] (by kernel_rfl) rfl ?_)
          repeat(first|with_reducible first|refine vmR ?_|refine vmV rfl ?_|refine vmW rfl ?_|refine vmL ?_|refine blockW_y (by decide) ?_|((with_reducible first|apply vmO|apply vmT|apply vmC);case a=>simp [t0, t7, t10, t13, ixc, vc, vi];with_reducible first|exact .v|exact .c|exact .t|exact .f))
          refine A.mono (okey18_ans c.key _) ?_
          rintro _ h5 ⟨rfl, e5⟩
          rw [← hkc]
          refine ⟨_, by simp; first | done | rfl, ?_⟩
          have k5 := k4.of (((HE.refl h4).drew).trans e5)
          repeat(first|with_reducible first|refine vmR ?_|refine vmV rfl ?_|refine vmW rfl ?_|refine vmL ?_|refine blockW_y (by decide) ?_|((with_reducible first|apply vmO|apply vmT|apply vmC);case a=>simp [t0, t7, t10, t13, ixc, vc, vi];with_reducible first|exact .v|exact .c|exact .t|exact .f))
          refine A.mono (gone_ans hM h5 g pm 1 0 [x] lv1 lg1 k5 1 (by omega) (by simp) kc hkl c.f c.u hops hps) ?_
          rintro r6 h6 ⟨h6', e6, hw⟩
          rcases own_wr (k5.of e6) ow.st hop40 hw with ⟨okf, rfl, k6⟩ | ⟨okt, rfl, k6⟩
          all_goals
            refine ⟨_, by simp; first | done | rfl, ?_⟩
            repeat(first|with_reducible first|refine vmR ?_|refine vmV rfl ?_|refine vmW rfl ?_|refine vmL ?_|refine blockW_y (by decide) ?_|((with_reducible first|apply vmO|apply vmT|apply vmC);case a=>simp;with_reducible first|exact .v|exact .c|exact .t|exact .f))
            refine ⟨by simp [readSame, beqAV_self, t0, t7, t10, t13, ixc, vc, vi]; done, _, by simp; first | done | rfl, ?_⟩
          · repeat(first|with_reducible first|refine vmR ?_|refine vmV rfl ?_|refine vmW rfl ?_|refine vmL ?_|refine blockW_y (by decide) ?_|((with_reducible first|apply vmO|apply vmT|apply vmC);case a=>simp [t0, t13, wip, es];with_reducible first|exact .v|exact .c|exact .t|exact .f))
            exact ⟨20 - ip, by omega, _, _, ip, x, P, u, rfl, rfl, by omega, by omega, by simp [t0], by simp [t1], by simp [t2], by simp [t7], by simp [t10], by simp [t12], by simp, su, k6, by rw [hip]; exact ow.up⟩
          · repeat(first|with_reducible first|refine vmR ?_|refine vmV rfl ?_|refine vmW rfl ?_|refine vmL ?_|refine blockW_y (by decide) ?_|((with_reducible first|apply vmO|apply vmT|apply vmC);case a=>simp [t0, t12, t13, ixc, es, uc, ui, vc, vi];with_reducible first|exact .v|exact .c|exact .t|exact .f))
            refine A.mono (without4_ans P u su hpl c.f c.u (okW_may okt) h6 (fun z hz => by rw [k6.he.pol, mp]; exact hp5 z hz)) ?_
            rintro u7 h7 ⟨su7, e7⟩
            have uc7 := su7.cells
            have ui7 := su7.isCell
            have k6 := k6.of e7
            refine ⟨_, by simp; first | done | rfl, ?_⟩
            repeat(first|with_reducible first|refine vmR ?_|refine vmV rfl ?_|refine vmW rfl ?_|refine vmL ?_|refine blockW_y (by decide) ?_|((with_reducible first|apply vmO|apply vmT|apply vmC);case a=>simp [t13, wip, uc7, ui7];with_reducible first|exact .v|exact .c|exact .t|exact .f))
            have t12 : True := trivial
            exact ⟨20 - ip, by omega, _, _, ip, _, _, u7, rfl, rfl, by omega, by omega, by simp [t0], by simp [t1], by simp [t2], by simp [t7], by simp [t10], by simp [t12], by simp, su7, k6, by rw [hip]; exact (ow.put kc ⟨c.f, c.u, [45]⟩ _ (by have := withoutP_len P c.f c.u; omega) (fun _ t => by rw [without_at]; rfl) (fun z => absurd qs z) (.inr rfl))⟩
        case neg =>
          have es : eqB kc K = false := by rw [eqB_dec]; simp [qs]
          repeat(first|with_reducible first|refine vmR ?_|refine vmV rfl ?_|refine vmW rfl ?_|refine vmL ?_|refine blockW_y (by decide) ?_|((with_reducible first|apply vmO|apply vmT|apply vmC);case a=>simp [t0, t13, ixc, q4, es];with_reducible first|exact .v|exact .c|exact .t|exact .f))
          (with_reducible refine W_draw_id (pln := true) [0, 1, 2, 3, 4, 5, 6, 7, 8, 9, 10, 11, 12, 13, 14] [(6, (6, [])), (12, (12, [0]))] (by kernel_rfl) rfl ?_)
          repeat(first|with_reducible first|refine vmR ?_|refine vmV rfl ?_|refine vmW rfl ?_|refine vmL ?_|refine blockW_y (by decide) ?_|((with_reducible first|apply vmO|apply vmT|apply vmC);case a=>simp [t0, t7, t10, t13, ixc, vc, vi];with_reducible first|exact .v|exact .c|exact .t|exact .f))
          refine A.mono (okey18_ans c.key _) ?_
          rintro _ h5 ⟨rfl, e5⟩
          rw [← hkc]
          refine ⟨_, by simp; first | done | rfl, ?_⟩
          have k5 := k4.of (((HE.refl h4).drew).trans e5)
          repeat(first|with_reducible first|refine vmR ?_|refine vmV rfl ?_|refine vmW rfl ?_|refine vmL ?_|refine blockW_y (by decide) ?_|((with_reducible first|apply vmO|apply vmT|apply vmC);case a=>simp [t0, t7, t10, t13, ixc, vc, vi];with_reducible first|exact .v|exact .c|exact .t|exact .f))
          refine A.mono (gone_ans hM h5 g pm 1 0 [x] lv1 lg1 k5 1 (by omega) (by simp) kc hkl c.f c.u hops hps) ?_
          rintro r6 h6 ⟨h6', e6, hw⟩
          rcases own_wr (k5.of e6) ow.st hop40 hw with ⟨okf, rfl, k6⟩ | ⟨okt, rfl, k6⟩
          all_goals
            refine ⟨_, by simp; first | done | rfl, ?_⟩
            repeat(first|with_reducible first|refine vmR ?_|refine vmV rfl ?_|refine vmW rfl ?_|refine vmL ?_|refine blockW_y (by decide) ?_|((with_reducible first|apply vmO|apply vmT|apply vmC);case a=>simp;with_reducible first|exact .v|exact .c|exact .t|exact .f))
            refine ⟨by simp [readSame, beqAV_self, t0, t7, t10, t13, ixc, vc, vi]; done, _, by simp; first | done | rfl, ?_⟩
          · repeat(first|with_reducible first|refine vmR ?_|refine vmV rfl ?_|refine vmW rfl ?_|refine vmL ?_|refine blockW_y (by decide) ?_|((with_reducible first|apply vmO|apply vmT|apply vmC);case a=>simp [t0, t13, wip, es];with_reducible first|exact .v|exact .c|exact .t|exact .f))
            exact ⟨20 - ip, by omega, _, _, ip, x, P, u, rfl, rfl, by omega, by omega, by simp [t0], by simp [t1], by simp [t2], by simp [t7], by simp [t10], by simp [t12], by simp, su, k6, by rw [hip]; exact ow.up⟩
          · repeat(first|with_reducible first|refine vmR ?_|refine vmV rfl ?_|refine vmW rfl ?_|refine vmL ?_|refine blockW_y (by decide) ?_|((with_reducible first|apply vmO|apply vmT|apply vmC);case a=>simp [t0, t13, wip, es];with_reducible first|exact .v|exact .c|exact .t|exact .f))
            exact ⟨20 - ip, by omega, _, _, ip, _, _, u, rfl, rfl, by omega, by omega, by simp [t0], by simp [t1], by simp [t2], by simp [t7], by simp [t10], by simp [t12], by simp, su, k6, by rw [hip]; exact (ow.put kc ⟨c.f, c.u, [45]⟩ P (by omega) (fun z => absurd z qs) (fun _ => rfl) (.inr rfl))⟩
      case neg =>
        by_cases qs : kc = K
        case pos =>
          have es : eqB kc K = true := by rw [eqB_dec]; simp [qs]
          repeat(first|with_reducible first|refine vmR ?_|refine vmV rfl ?_|refine vmW rfl ?_|refine vmL ?_|refine blockW_y (by decide) ?_|((with_reducible first|apply vmO|apply vmT|apply vmC);case a=>simp [t0, t13, ixc, q4, es];with_reducible first|exact .v|exact .c|exact .t|exact .f))
          (with_reducible refine W_draw_id (pln := true) [0, 1, 2, 3, 4, 5, 6, 7, 8, 9, 10, 11, 12, 13, 14, 15] [(6, (6, [])), (12, (12, [0]))] (by kernel_rfl) rfl ?_)
          repeat(first|with_reducible first|refine vmR ?_|refine vmV rfl ?_|refine vmW rfl ?_|refine vmL ?_|refine blockW_y (by decide) ?_|((with_reducible first|apply vmO|apply vmT|apply vmC);case a=>simp [t0, t7, t10, t13, ixc, vc, vi];with_reducible first|exact .v|exact .c|exact .t|exact .f))
          refine A.mono (okey18_ans c.key _) ?_
          rintro _ h5 ⟨rfl, e5⟩
          rw [← hkc]
          refine ⟨_, by simp; first | done | rfl, ?_⟩
          have k5 := k4.of (((HE.refl h4).drew).trans e5)
          repeat(first|with_reducible first|refine vmR ?_|refine vmV rfl ?_|refine vmW rfl ?_|refine vmL ?_|refine blockW_y (by decide) ?_|((with_reducible first|apply vmO|apply vmT|apply vmC);case a=>simp [t0, t7, t10, t13, ixc, vc, vi];with_reducible first|exact .v|exact .c|exact .t|exact .f))
          refine A.mono (put_ans hM h5 g pm 1 0 [x] lv1 lg1 k5 1 (by omega) (by simp) kc hkl c.f c.u V (by omega) hops hps) ?_
          rintro r6 h6 ⟨h6', e6, hw⟩
          rcases own_wr (k5.of e6) ow.st hop40 hw with ⟨okf, rfl, k6⟩ | ⟨okt, rfl, k6⟩
          all_goals
            refine ⟨_, by simp; first | done | rfl, ?_⟩
            repeat(first|with_reducible first|refine vmR ?_|refine vmV rfl ?_|refine vmW rfl ?_|refine vmL ?_|refine blockW_y (by decide) ?_|((with_reducible first|apply vmO|apply vmT|apply vmC);case a=>simp;with_reducible first|exact .v|exact .c|exact .t|exact .f))
            refine ⟨by simp [readSame, beqAV_self, t0, t7, t10, t13, ixc, vc, vi]; done, _, by simp; first | done | rfl, ?_⟩
          · repeat(first|with_reducible first|refine vmR ?_|refine vmV rfl ?_|refine vmW rfl ?_|refine vmL ?_|refine blockW_y (by decide) ?_|((with_reducible first|apply vmO|apply vmT|apply vmC);case a=>simp [t0, t13, wip, es];with_reducible first|exact .v|exact .c|exact .t|exact .f))
            exact ⟨20 - ip, by omega, _, _, ip, x, P, u, rfl, rfl, by omega, by omega, by simp [t0], by simp [t1], by simp [t2], by simp [t7], by simp [t10], by simp [t12], by simp, su, k6, by rw [hip]; exact ow.up⟩
          · repeat(first|with_reducible first|refine vmR ?_|refine vmV rfl ?_|refine vmW rfl ?_|refine vmL ?_|refine blockW_y (by decide) ?_|((with_reducible first|apply vmO|apply vmT|apply vmC);case a=>simp [t0, t12, t13, ixc, es, uc, ui, vc, vi];with_reducible first|exact .v|exact .c|exact .t|exact .f))
            refine A.mono (over4_ans P u su hpl ⟨c.f, c.u, V⟩ (show May c.f c.u from okW_may (p := ⟨c.f, c.u, 43 :: V⟩) okt) h6 (fun z hz => by rw [k6.he.pol, mp]; exact hp5 z hz)) ?_
            rintro u7 h7 ⟨su7, e7⟩
            have uc7 := su7.cells
            have ui7 := su7.isCell
            have k6 := k6.of e7
            refine ⟨_, by simp; first | done | rfl, ?_⟩
            repeat(first|with_reducible first|refine vmR ?_|refine vmV rfl ?_|refine vmW rfl ?_|refine vmL ?_|refine blockW_y (by decide) ?_|((with_reducible first|apply vmO|apply vmT|apply vmC);case a=>simp [t13, wip, uc7, ui7];with_reducible first|exact .v|exact .c|exact .t|exact .f))
            have t12 : True := trivial
            exact ⟨20 - ip, by omega, _, _, ip, _, _, u7, rfl, rfl, by omega, by omega, by simp [t0], by simp [t1], by simp [t2], by simp [t7], by simp [t10], by simp [t12], by simp, su7, k6, by rw [hip]; exact (ow.put kc ⟨c.f, c.u, 43 :: V⟩ _ (overP_len P ⟨c.f, c.u, V⟩) (fun _ t => by rw [over_at]; rfl) (fun z => absurd qs z) (.inl rfl))⟩
        case neg =>
          have es : eqB kc K = false := by rw [eqB_dec]; simp [qs]
          repeat(first|with_reducible first|refine vmR ?_|refine vmV rfl ?_|refine vmW rfl ?_|refine vmL ?_|refine blockW_y (by decide) ?_|((with_reducible first|apply vmO|apply vmT|apply vmC);case a=>simp [t0, t13, ixc, q4, es];with_reducible first|exact .v|exact .c|exact .t|exact .f))
          (with_reducible refine W_draw_id (pln := true) [0, 1, 2, 3, 4, 5, 6, 7, 8, 9, 10, 11, 12, 13, 14, 15] [(6, (6, [])), (12, (12, [0]))] (by kernel_rfl) rfl ?_)
          repeat(first|with_reducible first|refine vmR ?_|refine vmV rfl ?_|refine vmW rfl ?_|refine vmL ?_|refine blockW_y (by decide) ?_|((with_reducible first|apply vmO|apply vmT|apply vmC);case a=>simp [t0, t7, t10, t13, ixc, vc, vi];with_reducible first|exact .v|exact .c|exact .t|exact .f))
          refine A.mono (okey18_ans c.key _) ?_
          rintro _ h5 ⟨rfl, e5⟩
          rw [← hkc]
          refine ⟨_, by simp; first | done | rfl, ?_⟩
          have k5 := k4.of (((HE.refl h4).drew).trans e5)
          repeat(first|with_reducible first|refine vmR ?_|refine vmV rfl ?_|refine vmW rfl ?_|refine vmL ?_|refine blockW_y (by decide) ?_|((with_reducible first|apply vmO|apply vmT|apply vmC);case a=>simp [t0, t7, t10, t13, ixc, vc, vi];with_reducible first|exact .v|exact .c|exact .t|exact .f))
          refine A.mono (put_ans hM h5 g pm 1 0 [x] lv1 lg1 k5 1 (by omega) (by simp) kc hkl c.f c.u V (by omega) hops hps) ?_
          rintro r6 h6 ⟨h6', e6, hw⟩
          rcases own_wr (k5.of e6) ow.st hop40 hw with ⟨okf, rfl, k6⟩ | ⟨okt, rfl, k6⟩
          all_goals
            refine ⟨_, by simp; first | done | rfl, ?_⟩
            repeat(first|with_reducible first|refine vmR ?_|refine vmV rfl ?_|refine vmW rfl ?_|refine vmL ?_|refine blockW_y (by decide) ?_|((with_reducible first|apply vmO|apply vmT|apply vmC);case a=>simp;with_reducible first|exact .v|exact .c|exact .t|exact .f))
            refine ⟨by simp [readSame, beqAV_self, t0, t7, t10, t13, ixc, vc, vi]; done, _, by simp; first | done | rfl, ?_⟩
          · repeat(first|with_reducible first|refine vmR ?_|refine vmV rfl ?_|refine vmW rfl ?_|refine vmL ?_|refine blockW_y (by decide) ?_|((with_reducible first|apply vmO|apply vmT|apply vmC);case a=>simp [t0, t13, wip, es];with_reducible first|exact .v|exact .c|exact .t|exact .f))
            exact ⟨20 - ip, by omega, _, _, ip, x, P, u, rfl, rfl, by omega, by omega, by simp [t0], by simp [t1], by simp [t2], by simp [t7], by simp [t10], by simp [t12], by simp, su, k6, by rw [hip]; exact ow.up⟩
          · repeat(first|with_reducible first|refine vmR ?_|refine vmV rfl ?_|refine vmW rfl ?_|refine vmL ?_|refine blockW_y (by decide) ?_|((with_reducible first|apply vmO|apply vmT|apply vmC);case a=>simp [t0, t13, wip, es];with_reducible first|exact .v|exact .c|exact .t|exact .f))
            exact ⟨20 - ip, by omega, _, _, ip, _, _, u, rfl, rfl, by omega, by omega, by simp [t0], by simp [t1], by simp [t2], by simp [t7], by simp [t10], by simp [t12], by simp, su, k6, by rw [hip]; exact (ow.put kc ⟨c.f, c.u, 43 :: V⟩ P (by omega) (fun z => absurd z qs) (fun _ => rfl) (.inl rfl))⟩
    · have qv' : ¬ (200 : Int) < c.v.length := by omega
      have ev : V = c.v := by rw [hV]; exact List.take_of_length_le (by omega)
      rw [← ev] at ixc
      have qvn : ¬ (200 : Int) < V.length := by omega
      have qvm : ¬ 200 < V.length := by omega
      repeat(first|with_reducible first|refine vmR ?_|refine vmV rfl ?_|refine vmW rfl ?_|refine vmL ?_|refine blockW_y (by decide) ?_|((with_reducible first|apply vmO|apply vmT|apply vmC);case a=>simp [t0, t13, vl, vn, vc, vi, q, q', q20, q20', ixc, qvn, qvm];with_reducible first|exact .v|exact .c|exact .t|exact .f))
      refine A.mono (okey18_ans c.key h) ?_
      rintro _ h3 ⟨rfl, e3⟩
      rw [← hkc]
      refine ⟨_, by simp; first | done | rfl, ?_⟩
      repeat(first|with_reducible first|refine vmR ?_|refine vmV rfl ?_|refine vmW rfl ?_|refine vmL ?_|refine blockW_y (by decide) ?_|((with_reducible first|apply vmO|apply vmT|apply vmC);case a=>simp [t1];with_reducible first|exact .v|exact .c|exact .t|exact .f))
      refine A.mono (okey18_ans ks h3) ?_
      rintro _ h4 ⟨rfl, e4⟩
      rw [← hK]
      refine ⟨_, by simp; first | done | rfl, ?_⟩
      have k4 := k.of (e3.trans e4)
      by_cases q4 : c.k = 4
      case pos =>
        by_cases qs : kc = K
        case pos =>
          have es : eqB kc K = true := by rw [eqB_dec]; simp [qs]
          repeat(first|with_reducible first|refine vmR ?_|refine vmV rfl ?_|refine vmW rfl ?_|refine vmL ?_|refine blockW_y (by decide) ?_|((with_reducible first|apply vmO|apply vmT|apply vmC);case a=>simp [t0, t13, ixc, q4, es];with_reducible first|exact .v|exact .c|exact .t|exact .f))
          (with_reducible refine W_draw_id (pln := true) [0, 1, 2, 3, 4, 5, 6, 7, 8, 9, 10, 11, 12, 13, 14] [(6, (6, [])), (12, (12, [0]))] (by kernel_rfl) rfl ?_)
          repeat(first|with_reducible first|refine vmR ?_|refine vmV rfl ?_|refine vmW rfl ?_|refine vmL ?_|refine blockW_y (by decide) ?_|((with_reducible first|apply vmO|apply vmT|apply vmC);case a=>simp [t0, t7, t10, t13, ixc, vc, vi];with_reducible first|exact .v|exact .c|exact .t|exact .f))
          refine A.mono (okey18_ans c.key _) ?_
          rintro _ h5 ⟨rfl, e5⟩
          rw [← hkc]
          refine ⟨_, by simp; first | done | rfl, ?_⟩
          have k5 := k4.of (((HE.refl h4).drew).trans e5)
          repeat(first|with_reducible first|refine vmR ?_|refine vmV rfl ?_|refine vmW rfl ?_|refine vmL ?_|refine blockW_y (by decide) ?_|((with_reducible first|apply vmO|apply vmT|apply vmC);case a=>simp [t0, t7, t10, t13, ixc, vc, vi];with_reducible first|exact .v|exact .c|exact .t|exact .f))
          refine A.mono (gone_ans hM h5 g pm 1 0 [x] lv1 lg1 k5 1 (by omega) (by simp) kc hkl c.f c.u hops hps) ?_
          rintro r6 h6 ⟨h6', e6, hw⟩
          rcases own_wr (k5.of e6) ow.st hop40 hw with ⟨okf, rfl, k6⟩ | ⟨okt, rfl, k6⟩
          all_goals
            refine ⟨_, by simp; first | done | rfl, ?_⟩
            repeat(first|with_reducible first|refine vmR ?_|refine vmV rfl ?_|refine vmW rfl ?_|refine vmL ?_|refine blockW_y (by decide) ?_|((with_reducible first|apply vmO|apply vmT|apply vmC);case a=>simp;with_reducible first|exact .v|exact .c|exact .t|exact .f))
            refine ⟨by simp [readSame, beqAV_self, t0, t7, t10, t13, ixc, vc, vi]; done, _, by simp; first | done | rfl, ?_⟩
          · repeat(first|with_reducible first|refine vmR ?_|refine vmV rfl ?_|refine vmW rfl ?_|refine vmL ?_|refine blockW_y (by decide) ?_|((with_reducible first|apply vmO|apply vmT|apply vmC);case a=>simp [t0, t13, wip, es];with_reducible first|exact .v|exact .c|exact .t|exact .f))
            exact ⟨20 - ip, by omega, _, _, ip, x, P, u, rfl, rfl, by omega, by omega, by simp [t0], by simp [t1], by simp [t2], by simp [t7], by simp [t10], by simp [t12], by simp, su, k6, by rw [hip]; exact ow.up⟩
          · repeat(first|with_reducible first|refine vmR ?_|refine vmV rfl ?_|refine vmW rfl ?_|refine vmL ?_|refine blockW_y (by decide) ?_|((with_reducible first|apply vmO|apply vmT|apply vmC);case a=>simp [t0, t12, t13, ixc, es, uc, ui, vc, vi];with_reducible first|exact .v|exact .c|exact .t|exact .f))
            refine A.mono (without4_ans P u su hpl c.f c.u (okW_may okt) h6 (fun z hz => by rw [k6.he.pol, mp]; exact hp5 z hz)) ?_
            rintro u7 h7 ⟨su7, e7⟩
            have uc7 := su7.cells
            have ui7 := su7.isCell
            have k6 := k6.of e7
            refine ⟨_, by simp; first | done | rfl, ?_⟩
            repeat(first|with_reducible first|refine vmR ?_|refine vmV rfl ?_|refine vmW rfl ?_|refine vmL ?_|refine blockW_y (by decide) ?_|((with_reducible first|apply vmO|apply vmT|apply vmC);case a=>simp [t13, wip, uc7, ui7];with_reducible first|exact .v|exact .c|exact .t|exact .f))
            have t12 : True := trivial
            exact ⟨20 - ip, by omega, _, _, ip, _, _, u7, rfl, rfl, by omega, by omega, by simp [t0], by simp [t1], by simp [t2], by simp [t7], by simp [t10], by simp [t12], by simp, su7, k6, by rw [hip]; exact (ow.put kc ⟨c.f, c.u, [45]⟩ _ (by have := withoutP_len P c.f c.u; omega) (fun _ t => by rw [without_at]; rfl) (fun z => absurd qs z) (.inr rfl))⟩
        case neg =>
          have es : eqB kc K = false := by rw [eqB_dec]; simp [qs]
          repeat(first|with_reducible first|refine vmR ?_|refine vmV rfl ?_|refine vmW rfl ?_|refine vmL ?_|refine blockW_y (by decide) ?_|((with_reducible first|apply vmO|apply vmT|apply vmC);case a=>simp [t0, t13, ixc, q4, es];with_reducible first|exact .v|exact .c|exact .t|exact .f))
          (with_reducible refine W_draw_id (pln := true) [0, 1, 2, 3, 4, 5, 6, 7, 8, 9, 10, 11, 12, 13, 14] [(6, (6, [])), (12, (12, [0]))] (by kernel_rfl) rfl ?_)
          repeat(first|with_reducible first|refine vmR ?_|refine vmV rfl ?_|refine vmW rfl ?_|refine vmL ?_|refine blockW_y (by decide) ?_|((with_reducible first|apply vmO|apply vmT|apply vmC);case a=>simp [t0, t7, t10, t13, ixc, vc, vi];with_reducible first|exact .v|exact .c|exact .t|exact .f))
          refine A.mono (okey18_ans c.key _) ?_
          rintro _ h5 ⟨rfl, e5⟩
          rw [← hkc]
          refine ⟨_, by simp; first | done | rfl, ?_⟩
          have k5 := k4.of (((HE.refl h4).drew).trans e5)
          repeat(first|with_reducible first|refine vmR ?_|refine vmV rfl ?_|refine vmW rfl ?_|refine vmL ?_|refine blockW_y (by decide) ?_|((with_reducible first|apply vmO|apply vmT|apply vmC);case a=>simp [t0, t7, t10, t13, ixc, vc, vi];with_reducible first|exact .v|exact .c|exact .t|exact .f))
          refine A.mono (gone_ans hM h5 g pm 1 0 [x] lv1 lg1 k5 1 (by omega) (by simp) kc hkl c.f c.u hops hps) ?_
          rintro r6 h6 ⟨h6', e6, hw⟩
          rcases own_wr (k5.of e6) ow.st hop40 hw with ⟨okf, rfl, k6⟩ | ⟨okt, rfl, k6⟩
          all_goals
            refine ⟨_, by simp; first | done | rfl, ?_⟩
            repeat(first|with_reducible first|refine vmR ?_|refine vmV rfl ?_|refine vmW rfl ?_|refine vmL ?_|refine blockW_y (by decide) ?_|((with_reducible first|apply vmO|apply vmT|apply vmC);case a=>simp;with_reducible first|exact .v|exact .c|exact .t|exact .f))
            refine ⟨by simp [readSame, beqAV_self, t0, t7, t10, t13, ixc, vc, vi]; done, _, by simp; first | done | rfl, ?_⟩
          · repeat(first|with_reducible first|refine vmR ?_|refine vmV rfl ?_|refine vmW rfl ?_|refine vmL ?_|refine blockW_y (by decide) ?_|((with_reducible first|apply vmO|apply vmT|apply vmC);case a=>simp [t0, t13, wip, es];with_reducible first|exact .v|exact .c|exact .t|exact .f))
            exact ⟨20 - ip, by omega, _, _, ip, x, P, u, rfl, rfl, by omega, by omega, by simp [t0], by simp [t1], by simp [t2], by simp [t7], by simp [t10], by simp [t12], by simp, su, k6, by rw [hip]; exact ow.up⟩
          · repeat(first|with_reducible first|refine vmR ?_|refine vmV rfl ?_|refine vmW rfl ?_|refine vmL ?_|refine blockW_y (by decide) ?_|((with_reducible first|apply vmO|apply vmT|apply vmC);case a=>simp [t0, t13, wip, es];with_reducible first|exact .v|exact .c|exact .t|exact .f))
            exact ⟨20 - ip, by omega, _, _, ip, _, _, u, rfl, rfl, by omega, by omega, by simp [t0], by simp [t1], by simp [t2], by simp [t7], by simp [t10], by simp [t12], by simp, su, k6, by rw [hip]; exact (ow.put kc ⟨c.f, c.u, [45]⟩ P (by omega) (fun z => absurd z qs) (fun _ => rfl) (.inr rfl))⟩
      case neg =>
        by_cases qs : kc = K
        case pos =>
          have es : eqB kc K = true := by rw [eqB_dec]; simp [qs]
          repeat(first|with_reducible first|refine vmR ?_|refine vmV rfl ?_|refine vmW rfl ?_|refine vmL ?_|refine blockW_y (by decide) ?_|((with_reducible first|apply vmO|apply vmT|apply vmC);case a=>simp [t0, t13, ixc, q4, es];with_reducible first|exact .v|exact .c|exact .t|exact .f))
          (with_reducible refine W_draw_id (pln := true) [0, 1, 2, 3, 4, 5, 6, 7, 8, 9, 10, 11, 12, 13, 14, 15] [(6, (6, [])), (12, (12, [0]))] (by kernel_rfl) rfl ?_)
          repeat(first|with_reducible first|refine vmR ?_|refine vmV rfl ?_|refine vmW rfl ?_|refine vmL ?_|refine blockW_y (by decide) ?_|((with_reducible first|apply vmO|apply vmT|apply vmC);case a=>simp [t0, t7, t10, t13, ixc, vc, vi];with_reducible first|exact .v|exact .c|exact .t|exact .f))
          refine A.mono (okey18_ans c.key _) ?_
          rintro _ h5 ⟨rfl, e5⟩
          rw [← hkc]
          refine ⟨_, by simp; first | done | rfl, ?_⟩
          have k5 := k4.of (((HE.refl h4).drew).trans e5)
          repeat(first|with_reducible first|refine vmR ?_|refine vmV rfl ?_|refine vmW rfl ?_|refine vmL ?_|refine blockW_y (by decide) ?_|((with_reducible first|apply vmO|apply vmT|apply vmC);case a=>simp [t0, t7, t10, t13, ixc, vc, vi];with_reducible first|exact .v|exact .c|exact .t|exact .f))
          refine A.mono (put_ans hM h5 g pm 1 0 [x] lv1 lg1 k5 1 (by omega) (by simp) kc hkl c.f c.u V (by omega) hops hps) ?_
          rintro r6 h6 ⟨h6', e6, hw⟩
          rcases own_wr (k5.of e6) ow.st hop40 hw with ⟨okf, rfl, k6⟩ | ⟨okt, rfl, k6⟩
          all_goals
            refine ⟨_, by simp; first | done | rfl, ?_⟩
            repeat(first|with_reducible first|refine vmR ?_|refine vmV rfl ?_|refine vmW rfl ?_|refine vmL ?_|refine blockW_y (by decide) ?_|((with_reducible first|apply vmO|apply vmT|apply vmC);case a=>simp;with_reducible first|exact .v|exact .c|exact .t|exact .f))
            refine ⟨by simp [readSame, beqAV_self, t0, t7, t10, t13, ixc, vc, vi]; done, _, by simp; first | done | rfl, ?_⟩
          · repeat(first|with_reducible first|refine vmR ?_|refine vmV rfl ?_|refine vmW rfl ?_|refine vmL ?_|refine blockW_y (by decide) ?_|((with_reducible first|apply vmO|apply vmT|apply vmC);case a=>simp [t0, t13, wip, es];with_reducible first|exact .v|exact .c|exact .t|exact .f))
            exact ⟨20 - ip, by omega, _, _, ip, x, P, u, rfl, rfl, by omega, by omega, by simp [t0], by simp [t1], by simp [t2], by simp [t7], by simp [t10], by simp [t12], by simp, su, k6, by rw [hip]; exact ow.up⟩
          · repeat(first|with_reducible first|refine vmR ?_|refine vmV rfl ?_|refine vmW rfl ?_|refine vmL ?_|refine blockW_y (by decide) ?_|((with_reducible first|apply vmO|apply vmT|apply vmC);case a=>simp [t0, t12, t13, ixc, es, uc, ui, vc, vi];with_reducible first|exact .v|exact .c|exact .t|exact .f))
            refine A.mono (over4_ans P u su hpl ⟨c.f, c.u, V⟩ (show May c.f c.u from okW_may (p := ⟨c.f, c.u, 43 :: V⟩) okt) h6 (fun z hz => by rw [k6.he.pol, mp]; exact hp5 z hz)) ?_
            rintro u7 h7 ⟨su7, e7⟩
            have uc7 := su7.cells
            have ui7 := su7.isCell
            have k6 := k6.of e7
            refine ⟨_, by simp; first | done | rfl, ?_⟩
            repeat(first|with_reducible first|refine vmR ?_|refine vmV rfl ?_|refine vmW rfl ?_|refine vmL ?_|refine blockW_y (by decide) ?_|((with_reducible first|apply vmO|apply vmT|apply vmC);case a=>simp [t13, wip, uc7, ui7];with_reducible first|exact .v|exact .c|exact .t|exact .f))
            have t12 : True := trivial
            exact ⟨20 - ip, by omega, _, _, ip, _, _, u7, rfl, rfl, by omega, by omega, by simp [t0], by simp [t1], by simp [t2], by simp [t7], by simp [t10], by simp [t12], by simp, su7, k6, by rw [hip]; exact (ow.put kc ⟨c.f, c.u, 43 :: V⟩ _ (overP_len P ⟨c.f, c.u, V⟩) (fun _ t => by rw [over_at]; rfl) (fun z => absurd qs z) (.inl rfl))⟩
        case neg =>
          have es : eqB kc K = false := by rw [eqB_dec]; simp [qs]
          repeat(first|with_reducible first|refine vmR ?_|refine vmV rfl ?_|refine vmW rfl ?_|refine vmL ?_|refine blockW_y (by decide) ?_|((with_reducible first|apply vmO|apply vmT|apply vmC);case a=>simp [t0, t13, ixc, q4, es];with_reducible first|exact .v|exact .c|exact .t|exact .f))
          (with_reducible refine W_draw_id (pln := true) [0, 1, 2, 3, 4, 5, 6, 7, 8, 9, 10, 11, 12, 13, 14, 15] [(6, (6, [])), (12, (12, [0]))] (by kernel_rfl) rfl ?_)
          repeat(first|with_reducible first|refine vmR ?_|refine vmV rfl ?_|refine vmW rfl ?_|refine vmL ?_|refine blockW_y (by decide) ?_|((with_reducible first|apply vmO|apply vmT|apply vmC);case a=>simp [t0, t7, t10, t13, ixc, vc, vi];with_reducible first|exact .v|exact .c|exact .t|exact .f))
          refine A.mono (okey18_ans c.key _) ?_
          rintro _ h5 ⟨rfl, e5⟩
          rw [← hkc]
          refine ⟨_, by simp; first | done | rfl, ?_⟩
          have k5 := k4.of (((HE.refl h4).drew).trans e5)
          repeat(first|with_reducible first|refine vmR ?_|refine vmV rfl ?_|refine vmW rfl ?_|refine vmL ?_|refine blockW_y (by decide) ?_|((with_reducible first|apply vmO|apply vmT|apply vmC);case a=>simp [t0, t7, t10, t13, ixc, vc, vi];with_reducible first|exact .v|exact .c|exact .t|exact .f))
          refine A.mono (put_ans hM h5 g pm 1 0 [x] lv1 lg1 k5 1 (by omega) (by simp) kc hkl c.f c.u V (by omega) hops hps) ?_
          rintro r6 h6 ⟨h6', e6, hw⟩
          rcases own_wr (k5.of e6) ow.st hop40 hw with ⟨okf, rfl, k6⟩ | ⟨okt, rfl, k6⟩
          all_goals
            refine ⟨_, by simp; first | done | rfl, ?_⟩
            repeat(first|with_reducible first|refine vmR ?_|refine vmV rfl ?_|refine vmW rfl ?_|refine vmL ?_|refine blockW_y (by decide) ?_|((with_reducible first|apply vmO|apply vmT|apply vmC);case a=>simp;with_reducible first|exact .v|exact .c|exact .t|exact .f))
            refine ⟨by simp [readSame, beqAV_self, t0, t7, t10, t13, ixc, vc, vi]; done, _, by simp; first | done | rfl, ?_⟩
          · repeat(first|with_reducible first|refine vmR ?_|refine vmV rfl ?_|refine vmW rfl ?_|refine vmL ?_|refine blockW_y (by decide) ?_|((with_reducible first|apply vmO|apply vmT|apply vmC);case a=>simp [t0, t13, wip, es];with_reducible first|exact .v|exact .c|exact .t|exact .f))
            exact ⟨20 - ip, by omega, _, _, ip, x, P, u, rfl, rfl, by omega, by omega, by simp [t0], by simp [t1], by simp [t2], by simp [t7], by simp [t10], by simp [t12], by simp, su, k6, by rw [hip]; exact ow.up⟩
          · repeat(first|with_reducible first|refine vmR ?_|refine vmV rfl ?_|refine vmW rfl ?_|refine vmL ?_|refine blockW_y (by decide) ?_|((with_reducible first|apply vmO|apply vmT|apply vmC);case a=>simp [t0, t13, wip, es];with_reducible first|exact .v|exact .c|exact .t|exact .f))
            exact ⟨20 - ip, by omega, _, _, ip, _, _, u, rfl, rfl, by omega, by omega, by simp [t0], by simp [t1], by simp [t2], by simp [t7], by simp [t10], by simp [t12], by simp, su, k6, by rw [hip]; exact (ow.put kc ⟨c.f, c.u, 43 :: V⟩ P (by omega) (fun z => absurd z qs) (fun _ => rfl) (.inl rfl))⟩
  rintro e s ⟨rfl, t, h, x, P, u, rfl, t1, t2, t7, t10, t12, su, k, ow⟩
  have uc := su.cells
  have ui := su.isCell
  have pw20 : (2 : Nat) ^ 20 = 1048576 := by decide
  have hpl : P.length ≤ 4000000 := by have := ow.plen; omega
  repeat(first|with_reducible first|refine vmR ?_|refine vmV rfl ?_|refine vmW rfl ?_|refine vmL ?_|refine blockW_y (by decide) ?_|((with_reducible first|apply vmO|apply vmT|apply vmC);case a=>simp [t1, t2, t7, t10];with_reducible first|exact .v|exact .c|exact .t|exact .f))
  refine A.mono (okey18_ans ks h) ?_
  rintro _ h3 ⟨rfl, e3⟩
  rw [← hK]
  refine ⟨_, by simp; first | done | rfl, ?_⟩
  have k3 := k.of e3
  have wl : (Wof x K).length ≤ 16000000 := by
    unfold Wof
    cases hk : lookF K x.wr with
    | none => simp
    | some ps => have := ow.len K ps hk; simp only [Option.getD_some]; omega
  repeat(first|with_reducible first|refine vmR ?_|refine vmV rfl ?_|refine vmW rfl ?_|refine vmL ?_|refine blockW_y (by decide) ?_|((with_reducible first|apply vmO|apply vmT|apply vmC);case a=>simp [t2, t7, t10];with_reducible first|exact .v|exact .c|exact .t|exact .f))
  refine A.mono (get0_ans hM h3 g pm h0.no bs me 1 0 [x] lv1 lg1 k3 0 (by simp) (by simp) K hKl tm (by rw [mp]; exact hp3) (by rw [mp]; exact hp4) x rfl ow.st ⟨ow.o0, by have := ow.o1; omega⟩ ow.br ow.rd ow.rg (Wof x K) rfl wl (fun s hs => by
    rcases ow.tag tm s hs with z | z
    · cases s with
      | nil => simp at z
      | cons a b => simp
    · rw [z]; simp)) ?_
  rintro _ h4 ⟨hres, p4⟩
  have p40 : h4.pol = h0.pol := by rw [p4, k3.he.pol, mp]
  have e00 : eqB ([] : List UInt8) [] = true := by rw [eqB_dec]; rfl
  rcases hres with ⟨_, rfl⟩ | ⟨_, rfl⟩
  · simp only [outT]
    refine ⟨_, by simp; first | done | rfl, ?_⟩
    repeat(first|with_reducible first|refine vmR ?_|refine vmV rfl ?_|refine vmW rfl ?_|refine vmL ?_|refine blockW_y (by decide) ?_|((with_reducible first|apply vmO|apply vmT|apply vmC);case a=>simp [e00];with_reducible first|exact .v|exact .c|exact .t|exact .f))
    refine A.mono (lives_ans h4 (by rw [p40]; exact hp) (by rw [p40]; exact hp2)) ?_
    rintro _ h5 rfl
    refine ⟨_, by simp; first | done | rfl, ?_⟩
    repeat(first|with_reducible first|refine vmR ?_|refine vmV rfl ?_|refine vmW rfl ?_|refine vmL ?_|refine blockW_y (by decide) ?_|((with_reducible first|apply vmO|apply vmT|apply vmC);case a=>simp;with_reducible first|exact .v|exact .c|exact .t|exact .f))
    (first | apply endW_r | apply endW_n); (case h1 => (simp [Tryz.results4]; first | done | rfl))
    exact ⟨rfl, trivial⟩
  · have rel := ow.rel tm
    have tag := ow.tag tm
    cases hat : atP (Wof x K) tm with
    | none =>
      rw [hat] at rel
      simp only [stripO] at rel
      simp only [outT]
      refine ⟨_, by simp; first | done | rfl, ?_⟩
      repeat(first|with_reducible first|refine vmR ?_|refine vmV rfl ?_|refine vmW rfl ?_|refine vmL ?_|refine blockW_y (by decide) ?_|((with_reducible first|apply vmO|apply vmT|apply vmC);case a=>simp [t2, t12, uc, ui];with_reducible first|exact .v|exact .c|exact .t|exact .f))
      refine A.mono (at4_ans P u su (by omega) tm h4) ?_
      rintro _ h5 ⟨rfl, e5⟩
      rw [← rel]
      simp only [outG]
      refine ⟨_, by simp; first | done | rfl, ?_⟩
      repeat(first|with_reducible first|refine vmR ?_|refine vmV rfl ?_|refine vmW rfl ?_|refine vmL ?_|refine blockW_y (by decide) ?_|((with_reducible first|apply vmO|apply vmT|apply vmC);case a=>simp [eqlBO, e00];with_reducible first|exact .v|exact .c|exact .t|exact .f))
      refine A.mono (lives_ans h5 (by rw [e5.pol, p40]; exact hp) (by rw [e5.pol, p40]; exact hp2)) ?_
      rintro _ h6 rfl
      refine ⟨_, by simp; first | done | rfl, ?_⟩
      repeat(first|with_reducible first|refine vmR ?_|refine vmV rfl ?_|refine vmW rfl ?_|refine vmL ?_|refine blockW_y (by decide) ?_|((with_reducible first|apply vmO|apply vmT|apply vmC);case a=>simp;with_reducible first|exact .v|exact .c|exact .t|exact .f))
      (first | apply endW_r | apply endW_n); (case h1 => (simp [Tryz.results4]; first | done | rfl))
      exact ⟨rfl, trivial⟩
    | some s =>
      rw [hat] at rel
      have tg := tag s hat
      simp only [outT]
      refine ⟨_, by simp; first | done | rfl, ?_⟩
      repeat(first|with_reducible first|refine vmR ?_|refine vmV rfl ?_|refine vmW rfl ?_|refine vmL ?_|refine blockW_y (by decide) ?_|((with_reducible first|apply vmO|apply vmT|apply vmC);case a=>simp [t2, t12, uc, ui];with_reducible first|exact .v|exact .c|exact .t|exact .f))
      refine A.mono (at4_ans P u su (by omega) tm h4) ?_
      rintro _ h5 ⟨rfl, e5⟩
      by_cases q43 : s.take 1 = [43]
      · simp only [stripO, if_pos q43] at rel
        rw [← rel]
        simp only [outG]
        have es1 : eqB s.tail s.tail = true := by rw [eqB_dec]; simp
        rw [List.drop_one]
        refine ⟨_, by simp; first | done | rfl, ?_⟩
        repeat(first|with_reducible first|refine vmR ?_|refine vmV rfl ?_|refine vmW rfl ?_|refine vmL ?_|refine blockW_y (by decide) ?_|((with_reducible first|apply vmO|apply vmT|apply vmC);case a=>simp [eqlBO, q43, es1];with_reducible first|exact .v|exact .c|exact .t|exact .f))
        refine A.mono (lives_ans h5 (by rw [e5.pol, p40]; exact hp) (by rw [e5.pol, p40]; exact hp2)) ?_
        rintro _ h6 rfl
        refine ⟨_, by simp; first | done | rfl, ?_⟩
        repeat(first|with_reducible first|refine vmR ?_|refine vmV rfl ?_|refine vmW rfl ?_|refine vmL ?_|refine blockW_y (by decide) ?_|((with_reducible first|apply vmO|apply vmT|apply vmC);case a=>simp;with_reducible first|exact .v|exact .c|exact .t|exact .f))
        (first | apply endW_r | apply endW_n); (case h1 => (simp [Tryz.results4]; first | done | rfl))
        exact ⟨rfl, trivial⟩
      · simp only [stripO, if_neg q43] at rel
        rw [← rel]
        simp only [outG]
        have : s = [45] := by
          rcases tg with z | z
          · exact absurd z q43
          · exact z
        subst this
        refine ⟨_, by simp; first | done | rfl, ?_⟩
        repeat(first|with_reducible first|refine vmR ?_|refine vmV rfl ?_|refine vmW rfl ?_|refine vmL ?_|refine blockW_y (by decide) ?_|((with_reducible first|apply vmO|apply vmT|apply vmC);case a=>simp [eqlBO, e00];with_reducible first|exact .v|exact .c|exact .t|exact .f))
        refine A.mono (lives_ans h5 (by rw [e5.pol, p40]; exact hp) (by rw [e5.pol, p40]; exact hp2)) ?_
        rintro _ h6 rfl
        refine ⟨_, by simp; first | done | rfl, ?_⟩
        repeat(first|with_reducible first|refine vmR ?_|refine vmV rfl ?_|refine vmW rfl ?_|refine vmL ?_|refine blockW_y (by decide) ?_|((with_reducible first|apply vmO|apply vmT|apply vmC);case a=>simp;with_reducible first|exact .v|exact .c|exact .t|exact .f))
        (first | apply endW_r | apply endW_n); (case h1 => (simp [Tryz.results4]; first | done | rfl))
        exact ⟨rfl, trivial⟩
end Go.Vn

set_option maxRecDepth 20000
namespace Go.Vn
open Go.Proofs Go.ChangeShapes Go.WideShapes Go.ChangeAt Go.RowKit
theorem el_str {x : AV} (h : DeepEl Tryz.prog 9 x) : ∃ s : List UInt8, x = .str s ∧ s.length ≤ 9223372036854775807 := by
  obtain ⟨s, h1, h2⟩ := deep_str Tryz.underlying9 a9 h
  exact ⟨s, h1, Nat.le_trans h2 (by decide)⟩
end Go.Vn
