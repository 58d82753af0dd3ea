/- What functions of the program come to, in the value machine (a part of the proof of the claim's statement). No condition. -/
import Derived.Test.YtpneooihcofbbaaVnG7
set_option linter.unusedSimpArgs false
set_option linter.unusedVariables false
set_option maxRecDepth 20000
namespace Go.Vn
open Go.Proofs

def D1k (b : Tx) : Dk := ⟨[([97], (b, 0), 0)], 1, 1000, -1, false⟩
theorem D1k_new : (Dk.create ⟨[], 0, 1000, -1, false⟩ [97]).2 = D1k [] := rfl
theorem D1k_app (b c : Tx) (h : b.length + c.length ≤ 1000) : (D1k b).append [97] c = (0, D1k (b ++ c)) := by
  have q : ¬ ((1000 : Int) - (b.length : Int) < c.length) := by omega
  simp [D1k, Dk.append, Dk.deed, appE, has, lookF, used, q, Dk.tick, Dk.app, Dk.put, setF, clkF]
theorem D1k_read (b : Tx) (i n : Nat) : readR [97] i n (D1k b) = ((b.drop i).take n, 0) := by
  have q : ¬ ((i : Int) < 0 ∨ (n : Int) < 0) := by omega
  simp [readR, D1k, lookF, q]
theorem D1k_wf (b : Tx) (h : b.length ≤ 1000) : (D1k b).wf :=
  ⟨by intro f hf; simp [D1k] at hf; subst hf; simp, by simp [D1k, used]; omega, by simp [D1k], by simp [D1k], by simp [D1k]⟩

theorem eqB_rf (s : Tx) : eqB s s = true := by rw [eqB_dec]; simp

set_option maxHeartbeats 2000000 in
theorem diskparts_law (data : Tx) (hn : data.length ≤ 9223372036854775807) (at0 : Int) (ha : -9223372036854775808 ≤ at0 ∧ at0 ≤ 9223372036854775807) (h0 : Hp Fm) (hg : 0 < h0.ng) (hp : ∀ t, h0.pol t = false) : A Try.prog TT (.func 4) [.str data, .int .i64 at0] h0 (fun r h' => r = .bool true ∧ HE h0 h') := by
  obtain ⟨s, hs⟩ : ∃ s, s = data.take 30 := ⟨_, rfl⟩
  have hsl : s.length ≤ 30 := by rw [hs, List.length_take]; omega
  apply A_go Try.func4 rfl (by rfl); (case hn => (simp [Try.ntmps4]; rfl))
  repeat (first|with_reducible refine vmR ?_|with_reducible refine vmV rfl ?_|with_reducible refine vmW rfl ?_|with_reducible refine blockW_y (by decide) ?_|with_reducible refine vmL ?_|((with_reducible first|apply vmO|apply vmT);(case a=>simp;with_reducible first|exact .v|exact .c))|((with_reducible apply vmC);(case e=>simp;with_reducible first|exact .t|exact .f)))
  refine A.mono (new_ans 1000 h0 (by omega)) ?_
  rintro _ h1 ⟨p, m, rfl, d1, e1, pn, mn⟩
  have w1 := wf_new 1000 (by omega)
  refine ⟨_, by simp; first | done | rfl, ?_⟩
  repeat (first|with_reducible refine vmR ?_|with_reducible refine vmV rfl ?_|with_reducible refine vmW rfl ?_|with_reducible refine blockW_y (by decide) ?_|with_reducible refine vmL ?_|((with_reducible first|apply vmO|apply vmT);(case a=>simp [eqlAV];with_reducible first|exact .v|exact .c))|((with_reducible apply vmC);(case e=>simp [eqlAV];with_reducible first|exact .t|exact .f)))
  refine A.mono (few_ans data hn h1) ?_
  rintro _ hh ⟨rfl, ehh⟩
  rw [ehh, ← hs]
  clear ehh hh
  refine ⟨_, by simp; first | done | rfl, ?_⟩
  repeat (first|with_reducible refine vmR ?_|with_reducible refine vmV rfl ?_|with_reducible refine vmW rfl ?_|with_reducible refine blockW_y (by decide) ?_|with_reducible refine vmL ?_|((with_reducible first|apply vmO|apply vmT);(case a=>simp;with_reducible first|exact .v|exact .c))|((with_reducible apply vmC);(case e=>simp;with_reducible first|exact .t|exact .f)))
  -- the place
  obtain ⟨at1, hat1⟩ : ∃ at1 : Nat, at1 = (if at0 < 0 then (-(at0 + 1)).toNat else at0.toNat) := ⟨_, rfl⟩
  refine W.mono (R := fun e st => e = .normal ∧ ∃ (t : Fm AV), st = ⟨t, 95, h1, none⟩ ∧ tget t 0 = .str s ∧ tget t 1 = .int .i64 at1 ∧ tget t 5 = .ptr p 0) ?_ ?_
  · by_cases q : at0 < 0
    · have u1 : IntKind.i64.wrap (at0 + 1) = at0 + 1 := wrap64 (by omega) (by omega)
      have u2 : IntKind.i64.wrap (0 - (at0 + 1)) = (at1 : Int) := by rw [wrap64 (by omega) (by omega), hat1, if_pos q]; omega
      have u2' : IntKind.i64.wrap (-(at0 + 1)) = (at1 : Int) := by rw [← u2]; congr 1; omega
      have u2'' : IntKind.i64.wrap (-1 + -at0) = (at1 : Int) := by rw [← u2]; congr 1; omega
      repeat (first|with_reducible refine vmR ?_|with_reducible refine vmV rfl ?_|with_reducible refine vmW rfl ?_|with_reducible refine blockW_y (by decide) ?_|with_reducible refine vmL ?_|((with_reducible first|apply vmO|apply vmT);(case a=>simp [q, u1, u2, u2', u2''];with_reducible first|exact .v|exact .c))|((with_reducible apply vmC);(case e=>simp [q, u1, u2, u2', u2''];with_reducible first|exact .t|exact .f)))
      exact ⟨rfl, _, rfl, by simp, by simp, by simp⟩
    · have u2 : at0 = (at1 : Int) := by rw [hat1, if_neg q]; omega
      repeat (first|with_reducible refine vmR ?_|with_reducible refine vmV rfl ?_|with_reducible refine vmW rfl ?_|with_reducible refine blockW_y (by decide) ?_|with_reducible refine vmL ?_|((with_reducible first|apply vmO|apply vmT);(case a=>simp [q];with_reducible first|exact .v|exact .c))|((with_reducible apply vmC);(case e=>simp [q];with_reducible first|exact .t|exact .f)))
      exact ⟨rfl, _, rfl, by simp, by simp [← u2], by simp⟩
  rintro e st ⟨rfl, t, rfl, t0, t1, t5⟩
  obtain ⟨n1, hn1⟩ : ∃ n1, n1 = s.length + 1 := ⟨_, rfl⟩
  have v1 : IntKind.i64.wrap ((s.length : Int) + 1) = (n1 : Int) := by rw [wrap64 (by omega) (by omega)]; omega
  obtain ⟨k, hk⟩ : ∃ k, k = at1 % n1 := ⟨_, rfl⟩
  have hmod : Int.tmod (at1 : Int) (n1 : Int) = (k : Int) := by rw [Int.tmod_eq_emod_of_nonneg (by omega), hk]; simp
  have nz : ¬ ((n1 : Int) = 0) := by omega
  have nz2 : ¬ (n1 = 0) := by omega
  have kl : k ≤ s.length := by have := Nat.mod_lt at1 (show 0 < n1 by omega); omega
  repeat (first|with_reducible refine vmR ?_|with_reducible refine vmV rfl ?_|with_reducible refine vmW rfl ?_|with_reducible refine blockW_y (by decide) ?_|with_reducible refine vmL ?_|((with_reducible first|apply vmO|apply vmT);(case a=>simp [t0, t1, t5, v1, hmod, nz, nz2];with_reducible first|exact .v|exact .c))|((with_reducible apply vmC);(case e=>simp [t0, t1, t5, v1, hmod, nz, nz2];with_reducible first|exact .t|exact .f)))
  refine A.mono (createW [97] (by simp) p m _ w1 h1 d1) ?_
  rintro _ h2 ⟨_, d2, e2⟩
  rw [D1k_new] at d2
  have x2 : HE h0 h2 := e1.x2 e2 (fun q hq => by rcases hq with rfl | rfl <;> assumption) (fun _ z => z.elim)
  refine ⟨_, by simp; first | done | rfl, ?_⟩
  have sl1 : sliceAV Try.prog 9 (.str s) none (some (.int .i64 (k : Int))) none = some (.str (s.take k)) := by
    have : (k : Int) ≤ s.length := by omega
    simp [sliceAV, obound, bound, this, kl]
  have sl2 : sliceAV Try.prog 9 (.str s) (some (.int .i64 (k : Int))) none none = some (.str (s.drop k)) := by
    have : (k : Int) ≤ s.length := by omega
    simp [sliceAV, obound, bound, this, kl, List.take_of_length_le]
  have lt : (s.take k).length ≤ 30 := by rw [List.length_take]; omega
  have ld : (s.drop k).length ≤ 30 := by rw [List.length_drop]; omega
  have etd := List.take_append_drop k s
  obtain ⟨b1, hb1⟩ : ∃ b1, b1 = s.take k := ⟨_, rfl⟩
  obtain ⟨b2, hb2⟩ : ∃ b2, b2 = s.drop k := ⟨_, rfl⟩
  rw [← hb1] at sl1 lt
  rw [← hb2] at sl2 ld
  rw [← hb1, ← hb2] at etd
  have c2 := conv_b h2 b1 (by omega)
  repeat (first|with_reducible refine vmR ?_|with_reducible refine vmV rfl ?_|with_reducible refine vmW rfl ?_|with_reducible refine blockW_y (by decide) ?_|with_reducible refine vmL ?_|((with_reducible first|apply vmO|apply vmT);(case a=>simp [t0, t1, t5, sl1, c2];with_reducible first|exact .v|exact .c))|((with_reducible apply vmC);(case e=>simp [t0, t1, t5, sl1, c2];with_reducible first|exact .t|exact .f)))
  have y2 : HE h2 { h2.drew with len := Mp.set h2.len h2.ng (b1.map byteAV).length, ng := h2.ng + 1 } := ((HE.refl h2).drew).newSl _
  simp only [List.length_map] at y2
  refine A.mono (appendW [97] b1 _ (by omega) p m _ (D1k_wf [] (by simp)) _ (d2.he y2) (BV.sv (.inr (.inl ⟨_, _, _, rfl⟩))) (fun q hq => by obtain ⟨_, _, _, _, _, e⟩ := hq; cases e) (by show h2.pol _ = false; rw [x2.pol]; exact hp _)) ?_
  rintro _ h3 ⟨rfl, d3, e3⟩
  rw [D1k_app [] b1 (by simp; omega)] at d3 ⊢
  rw [List.nil_append] at d3
  have x3 : HE h0 h3 := (x2.trans y2).x2 e3 (fun q hq => by rcases hq with rfl | rfl <;> assumption) (fun _ z => z.elim)
  refine ⟨_, by simp; first | done | rfl, ?_⟩
  have c3 := conv_b h3 b2 (by omega)
  repeat (first|with_reducible refine vmR ?_|with_reducible refine vmV rfl ?_|with_reducible refine vmW rfl ?_|with_reducible refine blockW_y (by decide) ?_|with_reducible refine vmL ?_|((with_reducible first|apply vmO|apply vmT);(case a=>simp [t0, t1, t5, sl2, c3];with_reducible first|exact .v|exact .c))|((with_reducible apply vmC);(case e=>simp [t0, t1, t5, sl2, c3];with_reducible first|exact .t|exact .f)))
  have y3 : HE h3 { h3.drew with len := Mp.set h3.len h3.ng (b2.map byteAV).length, ng := h3.ng + 1 } := ((HE.refl h3).drew).newSl _
  simp only [List.length_map] at y3
  refine A.mono (appendW [97] b2 _ (by omega) p m _ (D1k_wf b1 (by omega)) _ (d3.he y3) (BV.sv (.inr (.inl ⟨_, _, _, rfl⟩))) (fun q hq => by obtain ⟨_, _, _, _, _, e⟩ := hq; cases e) (by show h3.pol _ = false; rw [x3.pol]; exact hp _)) ?_
  rintro _ h4 ⟨rfl, d4, e4⟩
  rw [D1k_app b1 b2 (by omega)] at d4 ⊢
  rw [etd] at d4
  have x4 : HE h0 h4 := (x3.trans y3).x2 e4 (fun q hq => by rcases hq with rfl | rfl <;> assumption) (fun _ z => z.elim)
  have w4 := D1k_wf s (by omega)
  refine ⟨_, by simp; first | done | rfl, ?_⟩
  repeat (first|with_reducible refine vmR ?_|with_reducible refine vmV rfl ?_|with_reducible refine vmW rfl ?_|with_reducible refine blockW_y (by decide) ?_|with_reducible refine vmL ?_|((with_reducible first|apply vmO|apply vmT);(case a=>simp [t0, t1, t5];with_reducible first|exact .v|exact .c))|((with_reducible apply vmC);(case e=>simp [t0, t1, t5];with_reducible first|exact .t|exact .f)))
  refine A.mono (readW [97] 0 k p m _ w4 h4 d4) ?_
  rintro _ h5 ⟨b5, rfl, k5, e5⟩
  have r5 := D1k_read s 0 k
  simp only [Int.natCast_zero, List.drop_zero] at r5
  rw [r5, ← hb1] at k5 ⊢
  simp only [NB, show h4.pol 5 = false by rw [x4.pol]; exact hp _, Bool.false_eq_true, if_false] at k5
  have x5 := x4.trans e5
  have bc5 := k5.cells
  have bi5 := k5.isCell
  refine ⟨_, by simp; first | done | rfl, ?_⟩
  repeat (first|with_reducible refine vmR ?_|with_reducible refine vmV rfl ?_|with_reducible refine vmW rfl ?_|with_reducible refine blockW_y (by decide) ?_|with_reducible refine vmL ?_|((with_reducible first|apply vmO|apply vmT);(case a=>simp [t0, t1, t5, bc5, bi5];with_reducible first|exact .v|exact .c))|((with_reducible apply vmC);(case e=>simp [t0, t1, t5, bc5, bi5];with_reducible first|exact .t|exact .f)))
  refine A.mono (readW [97] k 1000 p m _ w4 h5 (d4.he e5)) ?_
  rintro _ h6 ⟨b6, rfl, k6, e6⟩
  have r6 := D1k_read s k 1000
  rw [show ((1000 : Nat) : Int) = 1000 from rfl] at r6
  rw [r6, ← hb2, List.take_of_length_le (by omega)] at k6 ⊢
  simp only [NB, show h5.pol 5 = false by rw [x5.pol]; exact hp _, Bool.false_eq_true, if_false] at k6
  have x6 := x5.trans e6
  have bc6 := k6.cells
  have bi6 := k6.isCell
  refine ⟨_, by simp; first | done | rfl, ?_⟩
  repeat (first|with_reducible refine vmR ?_|with_reducible refine vmV rfl ?_|with_reducible refine vmW rfl ?_|with_reducible refine blockW_y (by decide) ?_|with_reducible refine vmL ?_|((with_reducible first|apply vmO|apply vmT);(case a=>simp [t0, t1, t5, bc6, bi6];with_reducible first|exact .v|exact .c))|((with_reducible apply vmC);(case e=>simp [t0, t1, t5, bc6, bi6];with_reducible first|exact .t|exact .f)))
  refine A.mono (readW [97] 0 1000 p m _ w4 h6 ((d4.he e5).he e6)) ?_
  rintro _ h7 ⟨b7, rfl, k7, e7⟩
  have r7 := D1k_read s 0 1000
  rw [show ((1000 : Nat) : Int) = 1000 from rfl, show ((0 : Nat) : Int) = 0 from rfl, List.drop_zero, List.take_of_length_le (by omega)] at r7
  rw [r7] at k7 ⊢
  simp only [NB, show h6.pol 5 = false by rw [x6.pol]; exact hp _, Bool.false_eq_true, if_false] at k7
  have x7 := x6.trans e7
  have bc7 := k7.cells
  have bi7 := k7.isCell
  have g7 : 0 < h7.ng := by have := x7.ng; omega
  refine ⟨_, by simp; first | done | rfl, ?_⟩
  have cv5 := fun h => conv_txt h k5
  have cv6 := fun h => conv_txt h k6
  have cv7 := fun h => conv_txt h k7
  have q1 := eqB_rf s
  have q2 := eqB_rf b1
  have q3 := eqB_rf b2
  repeat (first|with_reducible refine vmR ?_|with_reducible refine vmV rfl ?_|with_reducible refine vmW rfl ?_|with_reducible refine blockW_y (by decide) ?_|with_reducible refine vmL ?_|((with_reducible first|apply vmO|apply vmT);(case a=>simp [t0, t1, t5, bc7, bi7];with_reducible first|exact .v|exact .c))|((with_reducible apply vmC);(case e=>simp [t0, t1, t5, bc7, bi7];with_reducible first|exact .t|exact .f)))
  (with_reducible refine W_draw_id (pln := true) [0, 1, 2, 3, 4, 5, 6, 7, 8, 9, 10, 11, 12, 13, 14, 15, 16, 17, 18, 19, 20, 21, 22, 23, 24, 25, 26, 27, 28, 29, 30, 31, 32, 33, 34, 35] [(12, (12, [])), (20, (20, [])), (28, (28, []))] (by kernel_rfl) rfl ?_)
  repeat (first|with_reducible refine vmR ?_|with_reducible refine vmV rfl ?_|with_reducible refine vmW rfl ?_|with_reducible refine blockW_y (by decide) ?_|with_reducible refine vmL ?_|((with_reducible first|apply vmO|apply vmT);(case a=>simp [t0, t1, t5, bc7, bi7, cv5, cv6, cv7, sl1, sl2, q1, q2, q3];with_reducible first|exact .v|exact .c))|((with_reducible apply vmC);(case e=>simp [t0, t1, t5, bc7, bi7, cv5, cv6, cv7, sl1, sl2, q1, q2, q3];with_reducible first|exact .t|exact .f)))
  have y7 := (HE.refl h7).drew
  refine A.mono (lives_ans h7.drew g7) ?_
  rintro _ h8 ⟨rfl, e8⟩
  refine ⟨_, by simp; first | done | rfl, ?_⟩
  repeat (first|with_reducible refine vmR ?_|with_reducible refine vmV rfl ?_|with_reducible refine vmW rfl ?_|with_reducible refine blockW_y (by decide) ?_|with_reducible refine vmL ?_|((with_reducible first|apply vmO|apply vmT);(case a=>simp;with_reducible first|exact .v|exact .c))|((with_reducible apply vmC);(case e=>simp;with_reducible first|exact .t|exact .f)))
  refine ⟨by simp [readSame, beqAV_self, t0, t1, t5, cv5, cv6, cv7, sl1, sl2]; done, _, by simp; first | done | rfl, ?_⟩
  repeat (first|with_reducible refine vmR ?_|with_reducible refine vmV rfl ?_|with_reducible refine vmW rfl ?_|with_reducible refine blockW_y (by decide) ?_|with_reducible refine vmL ?_|((with_reducible first|apply vmO|apply vmT);(case a=>simp;with_reducible first|exact .v|exact .c))|((with_reducible apply vmC);(case e=>simp;with_reducible first|exact .t|exact .f)))
  (first | apply endW_r | apply endW_n); (case h1 => (simp [Try.results4]; first | done | rfl))
  exact ⟨rfl, (x7.trans y7).trans e8⟩
end Go.Vn
