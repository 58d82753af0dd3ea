/- What functions of the program come to, in the value machine (a part of the proof of the claim's statement). No condition. -/
import Derived.Test.YtpneooihcofbbaaVnG7
import Derived.Test.YtpneooihcofbbaaVnG1
set_option linter.unusedSimpArgs false
set_option linter.unusedVariables false
set_option maxRecDepth 20000
namespace Go.Vn
open Go.Proofs

def D1k (b : Tx) : Dk := ⟨[([97], (b, 0), 0)], 1, 1000, -1, false⟩
theorem D1k_new : (Dk.create ⟨[], 0, 1000, -1, false⟩ [97]).2 = D1k [] := rfl
theorem D1k_app (b c : Tx) (h : b.length + c.length ≤ 1000) : (D1k b).append [97] c = (0, D1k (b ++ c)) := by
  have q : ¬ ((1000 : Int) - (b.length : Int) < c.length) := by omega
  simp [D1k, Dk.append, Dk.deed, appE, has, lookF, used, q, Dk.tick, Dk.app, Dk.put, setF, clkF]
theorem D1k_read (b : Tx) (i n : Nat) : readR [97] i n (D1k b) = ((b.drop i).take n, 0) := by
  have q : ¬ ((i : Int) < 0 ∨ (n : Int) < 0) := by omega
  simp [readR, D1k, lookF, q]
theorem D1k_wf (b : Tx) (h : b.length ≤ 1000) : (D1k b).wf :=
  ⟨by intro f hf; simp [D1k] at hf; subst hf; simp, by simp [D1k, used]; omega, by simp [D1k], by simp [D1k], by simp [D1k]⟩

theorem eqB_rf (s : Tx) : eqB s s = true := by rw [eqB_dec]; simp

set_option maxHeartbeats 2000000 in
theorem diskparts_law (data : Tx) (hn : data.length ≤ 9223372036854775807) (at0 : Int) (ha : -9223372036854775808 ≤ at0 ∧ at0 ≤ 9223372036854775807) (h0 : Hp Fm) (hg : 0 < h0.ng) (hp : ∀ t, h0.pol t = false) : A Try.prog TT (.func 4) [.str data, .int .i64 at0] h0 (fun r h' => r = .bool true ∧ HE h0 h') := by
  obtain ⟨s, hs⟩ : ∃ s, s = data.take 30 := ⟨_, rfl⟩
  have hsl : s.length ≤ 30 := by rw [hs, List.length_take]; omega
  apply A_go Try.func4 rfl (by rfl); (case hn => (simp [Try.ntmps4]; rfl))
  repeat (first|with_reducible refine vmR ?_|with_reducible refine vmV rfl ?_|with_reducible refine vmW rfl ?_|with_reducible refine blockW_y (by decide) ?_|with_reducible refine vmL ?_|((with_reducible first|apply vmO|apply vmT);(case a=>simp;with_reducible first|exact .v|exact .c))|((with_reducible apply vmC);(case e=>simp;with_reducible first|exact .t|exact .f)))
  refine A.mono (new_ans 1000 h0 (by omega)) ?_
  rintro _ h1 ⟨p, m, rfl, d1, e1, pn, mn⟩
  have w1 := wf_new 1000 (by omega)
  refine ⟨_, by simp; first | done | rfl, ?_⟩
  repeat (first|with_reducible refine vmR ?_|with_reducible refine vmV rfl ?_|with_reducible refine vmW rfl ?_|with_reducible refine blockW_y (by decide) ?_|with_reducible refine vmL ?_|((with_reducible first|apply vmO|apply vmT);(case a=>simp [eqlAV];with_reducible first|exact .v|exact .c))|((with_reducible apply vmC);(case e=>simp [eqlAV];with_reducible first|exact .t|exact .f)))
  refine A.mono (few_ans data hn h1) ?_
  rintro _ hh ⟨rfl, ehh⟩
  rw [ehh, ← hs]
  clear ehh hh
  refine ⟨_, by simp; first | done | rfl, ?_⟩
  repeat (first|with_reducible refine vmR ?_|with_reducible refine vmV rfl ?_|with_reducible refine vmW rfl ?_|with_reducible refine blockW_y (by decide) ?_|with_reducible refine vmL ?_|((with_reducible first|apply vmO|apply vmT);(case a=>simp;with_reducible first|exact .v|exact .c))|((with_reducible apply vmC);(case e=>simp;with_reducible first|exact .t|exact .f)))
  -- the place
  obtain ⟨at1, hat1⟩ : ∃ at1 : Nat, at1 = (if at0 < 0 then (-(at0 + 1)).toNat else at0.toNat) := ⟨_, rfl⟩
  refine W.mono (R := fun e st => e = .normal ∧ ∃ (t : Fm AV), st = ⟨t, 95, h1, none⟩ ∧ tget t 0 = .str s ∧ tget t 1 = .int .i64 at1 ∧ tget t 5 = .ptr p 0) ?_ ?_
  · by_cases q : at0 < 0
    · have u1 : IntKind.i64.wrap (at0 + 1) = at0 + 1 := wrap64 (by omega) (by omega)
      have u2 : IntKind.i64.wrap (0 - (at0 + 1)) = (at1 : Int) := by rw [wrap64 (by omega) (by omega), hat1, if_pos q]; omega
      have u2' : IntKind.i64.wrap (-(at0 + 1)) = (at1 : Int) := by rw [← u2]; congr 1; omega
      have u2'' : IntKind.i64.wrap (-1 + -at0) = (at1 : Int) := by rw [← u2]; congr 1; omega
      repeat (first|with_reducible refine vmR ?_|with_reducible refine vmV rfl ?_|with_reducible refine vmW rfl ?_|with_reducible refine blockW_y (by decide) ?_|with_reducible refine vmL ?_|((with_reducible first|apply vmO|apply vmT);(case a=>simp [q, u1, u2, u2', u2''];with_reducible first|exact .v|exact .c))|((with_reducible apply vmC);(case e=>simp [q, u1, u2, u2', u2''];with_reducible first|exact .t|exact .f)))
      exact ⟨rfl, _, rfl, by simp, by simp, by simp⟩
    · have u2 : at0 = (at1 : Int) := by rw [hat1, if_neg q]; omega
      repeat (first|with_reducible refine vmR ?_|with_reducible refine vmV rfl ?_|with_reducible refine vmW rfl ?_|with_reducible refine blockW_y (by decide) ?_|with_reducible refine vmL ?_|((with_reducible first|apply vmO|apply vmT);(case a=>simp [q];with_reducible first|exact .v|exact .c))|((with_reducible apply vmC);(case e=>simp [q];with_reducible first|exact .t|exact .f)))
      exact ⟨rfl, _, rfl, by simp, by simp [← u2], by simp⟩
  rintro e st ⟨rfl, t, rfl, t0, t1, t5⟩
  obtain ⟨n1, hn1⟩ : ∃ n1, n1 = s.length + 1 := ⟨_, rfl⟩
  have v1 : IntKind.i64.wrap ((s.length : Int) + 1) = (n1 : Int) := by rw [wrap64 (by omega) (by omega)]; omega
  obtain ⟨k, hk⟩ : ∃ k, k = at1 % n1 := ⟨_, rfl⟩
  have hmod : Int.tmod (at1 : Int) (n1 : Int) = (k : Int) := by rw [Int.tmod_eq_emod_of_nonneg (by omega), hk]; simp
  have nz : ¬ ((n1 : Int) = 0) := by omega
  have nz2 : ¬ (n1 = 0) := by omega
  have kl : k ≤ s.length := by have := Nat.mod_lt at1 (show 0 < n1 by omega); omega
  repeat (first|with_reducible refine vmR ?_|with_reducible refine vmV rfl ?_|with_reducible refine vmW rfl ?_|with_reducible refine blockW_y (by decide) ?_|with_reducible refine vmL ?_|((with_reducible first|apply vmO|apply vmT);(case a=>simp [t0, t1, t5, v1, hmod, nz, nz2];with_reducible first|exact .v|exact .c))|((with_reducible apply vmC);(case e=>simp [t0, t1, t5, v1, hmod, nz, nz2];with_reducible first|exact .t|exact .f)))
  refine A.mono (createW [97] (by simp) p m _ w1 h1 d1) ?_
  rintro _ h2 ⟨_, d2, e2⟩
  rw [D1k_new] at d2
  have x2 : HE h0 h2 := e1.x2 e2 (fun q hq => by rcases hq with rfl | rfl <;> assumption) (fun _ z => z.elim)
  refine ⟨_, by simp; first | done | rfl, ?_⟩
  have sl1 : sliceAV Try.prog 9 (.str s) none (some (.int .i64 (k : Int))) none = some (.str (s.take k)) := by
    have : (k : Int) ≤ s.length := by omega
    simp [sliceAV, obound, bound, this, kl]
  have sl2 : sliceAV Try.prog 9 (.str s) (some (.int .i64 (k : Int))) none none = some (.str (s.drop k)) := by
    have : (k : Int) ≤ s.length := by omega
    simp [sliceAV, obound, bound, this, kl, List.take_of_length_le]
  have lt : (s.take k).length ≤ 30 := by rw [List.length_take]; omega
  have ld : (s.drop k).length ≤ 30 := by rw [List.length_drop]; omega
  have etd := List.take_append_drop k s
  obtain ⟨b1, hb1⟩ : ∃ b1, b1 = s.take k := ⟨_, rfl⟩
  obtain ⟨b2, hb2⟩ : ∃ b2, b2 = s.drop k := ⟨_, rfl⟩
  rw [← hb1] at sl1 lt
  rw [← hb2] at sl2 ld
  rw [← hb1, ← hb2] at etd
  have c2 := conv_b h2 b1 (by omega)
  repeat (first|with_reducible refine vmR ?_|with_reducible refine vmV rfl ?_|with_reducible refine vmW rfl ?_|with_reducible refine blockW_y (by decide) ?_|with_reducible refine vmL ?_|((with_reducible first|apply vmO|apply vmT);(case a=>simp [t0, t1, t5, sl1, c2];with_reducible first|exact .v|exact .c))|((with_reducible apply vmC);(case e=>simp [t0, t1, t5, sl1, c2];with_reducible first|exact .t|exact .f)))
  have y2 : HE h2 { h2.drew with len := Mp.set h2.len h2.ng (b1.map byteAV).length, ng := h2.ng + 1 } := ((HE.refl h2).drew).newSl _
  simp only [List.length_map] at y2
  refine A.mono (appendW [97] b1 _ (by omega) p m _ (D1k_wf [] (by simp)) _ (d2.he y2) (BV.sv (.inr (.inl ⟨_, _, _, rfl⟩))) (fun q hq => by obtain ⟨_, _, _, _, _, e⟩ := hq; cases e) (by show h2.pol _ = false; rw [x2.pol]; exact hp _)) ?_
  rintro _ h3 ⟨rfl, d3, e3⟩
  rw [D1k_app [] b1 (by simp; omega)] at d3 ⊢
  rw [List.nil_append] at d3
  have x3 : HE h0 h3 := (x2.trans y2).x2 e3 (fun q hq => by rcases hq with rfl | rfl <;> assumption) (fun _ z => z.elim)
  refine ⟨_, by simp; first | done | rfl, ?_⟩
  have c3 := conv_b h3 b2 (by omega)
  repeat (first|with_reducible refine vmR ?_|with_reducible refine vmV rfl ?_|with_reducible refine vmW rfl ?_|with_reducible refine blockW_y (by decide) ?_|with_reducible refine vmL ?_|((with_reducible first|apply vmO|apply vmT);(case a=>simp [t0, t1, t5, sl2, c3];with_reducible first|exact .v|exact .c))|((with_reducible apply vmC);(case e=>simp [t0, t1, t5, sl2, c3];with_reducible first|exact .t|exact .f)))
  have y3 : HE h3 { h3.drew with len := Mp.set h3.len h3.ng (b2.map byteAV).length, ng := h3.ng + 1 } := ((HE.refl h3).drew).newSl _
  simp only [List.length_map] at y3
  refine A.mono (appendW [97] b2 _ (by omega) p m _ (D1k_wf b1 (by omega)) _ (d3.he y3) (BV.sv (.inr (.inl ⟨_, _, _, rfl⟩))) (fun q hq => by obtain ⟨_, _, _, _, _, e⟩ := hq; cases e) (by show h3.pol _ = false; rw [x3.pol]; exact hp _)) ?_
  rintro _ h4 ⟨rfl, d4, e4⟩
  rw [D1k_app b1 b2 (by omega)] at d4 ⊢
  rw [etd] at d4
  have x4 : HE h0 h4 := (x3.trans y3).x2 e4 (fun q hq => by rcases hq with rfl | rfl <;> assumption) (fun _ z => z.elim)
  have w4 := D1k_wf s (by omega)
  refine ⟨_, by simp; first | done | rfl, ?_⟩
  repeat (first|with_reducible refine vmR ?_|with_reducible refine vmV rfl ?_|with_reducible refine vmW rfl ?_|with_reducible refine blockW_y (by decide) ?_|with_reducible refine vmL ?_|((with_reducible first|apply vmO|apply vmT);(case a=>simp [t0, t1, t5];with_reducible first|exact .v|exact .c))|((with_reducible apply vmC);(case e=>simp [t0, t1, t5];with_reducible first|exact .t|exact .f)))
  refine A.mono (readW [97] 0 k p m _ w4 h4 d4) ?_
  rintro _ h5 ⟨b5, rfl, k5, e5⟩
  have r5 := D1k_read s 0 k
  simp only [Int.natCast_zero, List.drop_zero] at r5
  rw [r5, ← hb1] at k5 ⊢
  simp only [NB, show h4.pol 5 = false by rw [x4.pol]; exact hp _, Bool.false_eq_true, if_false] at k5
  have x5 := x4.trans e5
  have bc5 := k5.cells
  have bi5 := k5.isCell
  refine ⟨_, by simp; first | done | rfl, ?_⟩
  repeat (first|with_reducible refine vmR ?_|with_reducible refine vmV rfl ?_|with_reducible refine vmW rfl ?_|with_reducible refine blockW_y (by decide) ?_|with_reducible refine vmL ?_|((with_reducible first|apply vmO|apply vmT);(case a=>simp [t0, t1, t5, bc5, bi5];with_reducible first|exact .v|exact .c))|((with_reducible apply vmC);(case e=>simp [t0, t1, t5, bc5, bi5];with_reducible first|exact .t|exact .f)))
  refine A.mono (readW [97] k 1000 p m _ w4 h5 (d4.he e5)) ?_
  rintro _ h6 ⟨b6, rfl, k6, e6⟩
  have r6 := D1k_read s k 1000
  rw [show ((1000 : Nat) : Int) = 1000 from rfl] at r6
  rw [r6, ← hb2, List.take_of_length_le (by omega)] at k6 ⊢
  simp only [NB, show h5.pol 5 = false by rw [x5.pol]; exact hp _, Bool.false_eq_true, if_false] at k6
  have x6 := x5.trans e6
  have bc6 := k6.cells
  have bi6 := k6.isCell
  refine ⟨_, by simp; first | done | rfl, ?_⟩
  repeat (first|with_reducible refine vmR ?_|with_reducible refine vmV rfl ?_|with_reducible refine vmW rfl ?_|with_reducible refine blockW_y (by decide) ?_|with_reducible refine vmL ?_|((with_reducible first|apply vmO|apply vmT);(case a=>simp [t0, t1, t5, bc6, bi6];with_reducible first|exact .v|exact .c))|((with_reducible apply vmC);(case e=>simp [t0, t1, t5, bc6, bi6];with_reducible first|exact .t|exact .f)))
  refine A.mono (readW [97] 0 1000 p m _ w4 h6 ((d4.he e5).he e6)) ?_
  rintro _ h7 ⟨b7, rfl, k7, e7⟩
  have r7 := D1k_read s 0 1000
  rw [show ((1000 : Nat) : Int) = 1000 from rfl, show ((0 : Nat) : Int) = 0 from rfl, List.drop_zero, List.take_of_length_le (by omega)] at r7
  rw [r7] at k7 ⊢
  simp only [NB, show h6.pol 5 = false by rw [x6.pol]; exact hp _, Bool.false_eq_true, if_false] at k7
  have x7 := x6.trans e7
  have bc7 := k7.cells
  have bi7 := k7.isCell
  have g7 : 0 < h7.ng := by have := x7.ng; omega
  refine ⟨_, by simp; first | done | rfl, ?_⟩
  have cv5 := fun h => conv_txt h k5
  have cv6 := fun h => conv_txt h k6
  have cv7 := fun h => conv_txt h k7
  have q1 := eqB_rf s
  have q2 := eqB_rf b1
  have q3 := eqB_rf b2
  repeat (first|with_reducible refine vmR ?_|with_reducible refine vmV rfl ?_|with_reducible refine vmW rfl ?_|with_reducible refine blockW_y (by decide) ?_|with_reducible refine vmL ?_|((with_reducible first|apply vmO|apply vmT);(case a=>simp [t0, t1, t5, bc7, bi7];with_reducible first|exact .v|exact .c))|((with_reducible apply vmC);(case e=>simp [t0, t1, t5, bc7, bi7];with_reducible first|exact .t|exact .f)))
  (with_reducible refine W_draw_id (pln := true) [0, 1, 2, 3, 4, 5, 6, 7, 8, 9, 10, 11, 12, 13, 14, 15, 16, 17, 18, 19, 20, 21, 22, 23, 24, 25, 26, 27, 28, 29, 30, 31, 32, 33, 34, 35] [(12, (12, [])), (20, (20, [])), (28, (28, []))] (by kernel_rfl) rfl ?_)
  repeat (first|with_reducible refine vmR ?_|with_reducible refine vmV rfl ?_|with_reducible refine vmW rfl ?_|with_reducible refine blockW_y (by decide) ?_|with_reducible refine vmL ?_|((with_reducible first|apply vmO|apply vmT);(case a=>simp [t0, t1, t5, bc7, bi7, cv5, cv6, cv7, sl1, sl2, q1, q2, q3];with_reducible first|exact .v|exact .c))|((with_reducible apply vmC);(case e=>simp [t0, t1, t5, bc7, bi7, cv5, cv6, cv7, sl1, sl2, q1, q2, q3];with_reducible first|exact .t|exact .f)))
  have y7 := (HE.refl h7).drew
  refine A.mono (lives_ans h7.drew g7) ?_
  rintro _ h8 ⟨rfl, e8⟩
  refine ⟨_, by simp; first | done | rfl, ?_⟩
  repeat (first|with_reducible refine vmR ?_|with_reducible refine vmV rfl ?_|with_reducible refine vmW rfl ?_|with_reducible refine blockW_y (by decide) ?_|with_reducible refine vmL ?_|((with_reducible first|apply vmO|apply vmT);(case a=>simp;with_reducible first|exact .v|exact .c))|((with_reducible apply vmC);(case e=>simp;with_reducible first|exact .t|exact .f)))
  refine ⟨by simp [readSame, beqAV_self, t0, t1, t5, cv5, cv6, cv7, sl1, sl2]; done, _, by simp; first | done | rfl, ?_⟩
  repeat (first|with_reducible refine vmR ?_|with_reducible refine vmV rfl ?_|with_reducible refine vmW rfl ?_|with_reducible refine blockW_y (by decide) ?_|with_reducible refine vmL ?_|((with_reducible first|apply vmO|apply vmT);(case a=>simp;with_reducible first|exact .v|exact .c))|((with_reducible apply vmC);(case e=>simp;with_reducible first|exact .t|exact .f)))
  (first | apply endW_r | apply endW_n); (case h1 => (simp [Try.results4]; first | done | rfl))
  exact ⟨rfl, (x7.trans y7).trans e8⟩
end Go.Vn

set_option maxRecDepth 20000
namespace Go.Vn
open Go.Proofs

theorem encB : EncOk byteAV 1 false := ⟨fun _ => .inr ⟨rfl, rfl, rfl, rfl⟩, fun _ => rfl, by omega⟩
theorem getB1 {l : List UInt8} {J : List AV} {i : Nat} (h : i < l.length) : partAV false 1 (clsE byteAV l ++ J) i = some (byteAV (gt l i)) := by have := getS encB (J := J) h; rwa [Nat.mul_one] at this
theorem setB1 {l : List UInt8} {J : List AV} {i : Nat} (x : UInt8) (h : i < l.length) : splice (clsE byteAV l ++ J) i [byteAV x] = clsE byteAV (l.set i x) ++ J := by have := setS encB (J := J) x h; rwa [Nat.mul_one] at this
theorem lenB1 {l : List UInt8} {J : List AV} {i : Nat} (h : i < l.length) : i + 1 ≤ (clsE byteAV l).length + J.length := by have := lenS encB (J := J) h; rwa [Nat.mul_one] at this
theorem flat_byte (l : List UInt8) : (l.map byteAV).flatMap AV.cells = clsE byteAV l := by
  induction l with
  | nil => rfl
  | cons a l ih => simp [clsE] at ih ⊢; exact ih
theorem DKs.hx {h h' : Hp Fm} {p m : Nat} {D : Dk} {S G : Nat → Prop} (k : DKs h p m D) (he : HX S G h h') (h1 : ¬ S p) (h2 : ¬ S m) : DKs h' p m D := by
  obtain ⟨es, e1, e2⟩ := k.map
  exact ⟨(he.obj p k.pn h1).trans k.row, ⟨es, (he.obj m k.mn h2).trans e1, e2⟩, Nat.lt_of_lt_of_le k.pn he.no, Nat.lt_of_lt_of_le k.mn he.no, k.born⟩
theorem add1 (b : UInt8) : IntKind.u8.wrap ((b.toNat : Int) + 1) = (((b + 1).toNat : Nat) : Int) := by
  have h : (b + 1).toNat = (b.toNat + 1) % 256 := by rw [UInt8.toNat_add]; rfl
  rw [h]
  simp only [IntKind.wrap, IntKind.signed, IntKind.bits]
  simp

theorem app_str (h : Hp Fm) (s x : AV) : appendAV Try.prog h 22 9 s x = appendAV Try.prog h 22 22 s x := by
  unfold appendAV
  simp [Try.underlying22, Try.underlying9, isIntD]


set_option maxHeartbeats 2000000 in
theorem diskowns_law (data : Tx) (v : AV) (hv : SV 1 (data.map byteAV) v) (hn : data.length ≤ 9223372036854775807) (h0 : Hp Fm) (hg : 0 < h0.ng) : A Try.prog TT (.func 3) [v] h0 (fun r h' => r = .bool true ∧ HE h0 h') := by
  obtain ⟨s, hs⟩ : ∃ s, s = data.take 30 := ⟨_, rfl⟩
  have hsl : s.length ≤ 30 := by rw [hs, List.length_take]; omega
  obtain ⟨hb, hhb⟩ : ∃ hb : Hp Fm, hb = { h0 with pol := (· == 5) } := ⟨_, rfl⟩
  have f0 : ∀ h' : Hp Fm, HE hb h' → HE h0 { h' with pol := h0.pol } := fun h' k => ⟨by have := k.no; rw [hhb] at this; exact this, by have := k.ng; rw [hhb] at this; exact this, rfl, by have := k.obj; rw [hhb] at this; exact this, by have := k.len; rw [hhb] at this; exact this⟩
  have gb : 0 < hb.ng := by rw [hhb]; exact hg
  have pb1 : hb.pol 5 = true := by rw [hhb]; rfl
  have pb2 : hb.pol 22 = false := by rw [hhb]; rfl
  have vc := hv.cells
  have vi := hv.isCell
  have cv := fun h => conv_txt h hv
  apply A_goT Try.func3 rfl (by rfl); (case hn => (simp [Try.ntmps3]; rfl))
  repeat (first|with_reducible refine vmR ?_|with_reducible refine vmV rfl ?_|with_reducible refine vmW rfl ?_|with_reducible refine blockW_y (by decide) ?_|with_reducible refine vmL ?_|((with_reducible first|apply vmO|apply vmT);(case a=>simp;with_reducible first|exact .v|exact .c))|((with_reducible apply vmC);(case e=>simp;with_reducible first|exact .t|exact .f)))
  rw [← hhb]
  refine A.mono (new_ans 1000 hb (by omega)) ?_
  rintro _ h1 ⟨p, m, rfl, d1, e1, pn, mn⟩
  have w1 := wf_new 1000 (by omega)
  refine ⟨_, by simp; first | done | rfl, ?_⟩
  repeat (first|with_reducible refine vmR ?_|with_reducible refine vmV rfl ?_|with_reducible refine vmW rfl ?_|with_reducible refine blockW_y (by decide) ?_|with_reducible refine vmL ?_|((with_reducible first|apply vmO|apply vmT);(case a=>simp [eqlAV, vc, vi, cv];with_reducible first|exact .v|exact .c))|((with_reducible apply vmC);(case e=>simp [eqlAV, vc, vi, cv];with_reducible first|exact .t|exact .f)))
  refine A.mono (few_ans data hn h1) ?_
  rintro _ hh ⟨rfl, ehh⟩
  rw [ehh, ← hs]
  clear ehh hh
  refine ⟨_, by simp; first | done | rfl, ?_⟩
  repeat (first|with_reducible refine vmR ?_|with_reducible refine vmV rfl ?_|with_reducible refine vmW rfl ?_|with_reducible refine blockW_y (by decide) ?_|with_reducible refine vmL ?_|((with_reducible first|apply vmO|apply vmT);(case a=>simp;with_reducible first|exact .v|exact .c))|((with_reducible apply vmC);(case e=>simp;with_reducible first|exact .t|exact .f)))
  have pp := d1.pn
  have mm := d1.mn
  have nE : Vn.newEls h1 1 false (.str s) = some (s.map byteAV) := by simp [newEls]
  have p1 : h1.pol 5 = true := by rw [e1.pol]; exact pb1
  have rs0 : RS h1.no h1 1 false (([] : List UInt8).map byteAV) .nils := .inl ⟨rfl, rfl⟩
  with_reducible apply WO_app_i; (case hw => (simp; done)); (case ho => rfl); (case hb => rfl); (case ha => (simp; first | done | exact ⟨rfl, rfl⟩ | rfl)); (case h1 => (simp; first | done | rfl)); (case h2 => (simp; first | done | rfl))
  rw [app_str]
  refine app_then (RS.appN etB rs0 (Nat.le_refl _) p1 nE (fitBs []) (fitBs s) (by simp; omega)) ?_
  rintro own h2 ⟨r2, x2, p2, q2⟩
  replace x2 : HX (isRow .nils) (fun _ => False) h1 h2 := x2
  rw [← List.map_append, List.nil_append] at r2
  have e2 : HE h1 h2 := ⟨x2.no, x2.ng, x2.pol, fun o ho => x2.obj o ho (by rintro ⟨_, _, _, _, _, e⟩; cases e), fun g hg => x2.len g hg (fun z => z)⟩
  have oc := r2.cells
  have oi := r2.isCell
  have cv2 := conv_txtR h2 r2
  refine ⟨_, by simp; first | done | rfl, ?_⟩
  repeat (first|with_reducible refine vmR ?_|with_reducible refine vmV rfl ?_|with_reducible refine vmW rfl ?_|with_reducible refine blockW_y (by decide) ?_|with_reducible refine vmL ?_|((with_reducible first|apply vmO|apply vmT);(case a=>simp [oc, oi, cv2];with_reducible first|exact .v|exact .c))|((with_reducible apply vmC);(case e=>simp [oc, oi, cv2];with_reducible first|exact .t|exact .f)))
  have d2 := d1.he e2
  refine A.mono (createW [97] (by simp) p m _ w1 h2 d2) ?_
  rintro _ h3 ⟨_, d3, e3⟩
  rw [D1k_new] at d3
  have r3 := r2.of e3 (fun q hq => by have := r2.rows q hq; omega)
  have y3 : HE hb h3 := (e1.trans e2).x2 e3 (fun q hq => by rcases hq with rfl | rfl <;> assumption) (fun _ z => z.elim)
  refine ⟨_, by simp; first | done | rfl, ?_⟩
  repeat (first|with_reducible refine vmR ?_|with_reducible refine vmV rfl ?_|with_reducible refine vmW rfl ?_|with_reducible refine blockW_y (by decide) ?_|with_reducible refine vmL ?_|((with_reducible first|apply vmO|apply vmT);(case a=>simp;with_reducible first|exact .v|exact .c))|((with_reducible apply vmC);(case e=>simp;with_reducible first|exact .t|exact .f)))
  refine A.mono (appendW [97] s own (by omega) p m _ (D1k_wf [] (by simp)) h3 d3 r3.bv (fun q hq => by have := r3.rows q hq; omega) (by rw [y3.pol]; exact pb2)) ?_
  rintro _ h4 ⟨_, d4, e4⟩
  rw [D1k_app [] s (by simp; omega), List.nil_append] at d4
  have r4 := r3.of e4 (fun q hq => by have := r3.rows q hq; omega)
  have y4 : HE hb h4 := y3.x2 e4 (fun q hq => by rcases hq with rfl | rfl <;> assumption) (fun _ z => z.elim)
  refine ⟨_, by simp; first | done | rfl, ?_⟩
  repeat (first|with_reducible refine vmR ?_|with_reducible refine vmV rfl ?_|with_reducible refine vmW rfl ?_|with_reducible refine blockW_y (by decide) ?_|with_reducible refine vmL ?_|((with_reducible first|apply vmO|apply vmT);(case a=>simp;with_reducible first|exact .v|exact .c))|((with_reducible apply vmC);(case e=>simp;with_reducible first|exact .t|exact .f)))
  clear oc oi cv2
  have hno := e1.no
  refine W.mono (R := fun e zs => e = .exit 0 ∧ ∃ (t : Fm AV) (h : Hp Fm), zs = ⟨t, 75, h, none⟩ ∧ tget t 3 = .ptr p 0 ∧ tget t 5 = .str s ∧ HX (fun z => hb.no ≤ z ∧ z ≠ p ∧ z ≠ m) (fun _ => False) h4 h) ?_ ?_
  · rcases id r4 with ⟨rfl, en⟩ | ⟨o, cap, rfl, hlo, ⟨J, j1, j2⟩, jc, jo⟩
    · refine W_loop_i ?_
      repeat (first|with_reducible refine vmR ?_|with_reducible refine vmV rfl ?_|with_reducible refine vmW rfl ?_|with_reducible refine blockW_y (by decide) ?_|with_reducible refine vmL ?_|((with_reducible first|apply vmO|apply vmT);(case a=>simp;with_reducible first|exact .v|exact .c))|((with_reducible apply vmC);(case e=>simp;with_reducible first|exact .t|exact .f)))
      exact ⟨rfl, _, _, rfl, by simp, by simp, HX.refl _ _ _⟩
    · rw [flat_byte] at j1
      rw [List.length_map] at jc j2
      obtain ⟨n, hn⟩ : ∃ n, n = (s.map byteAV).length := ⟨_, rfl⟩
      rw [← hn] at ⊢
      rw [List.length_map] at hn
      have op : o ≠ p := by omega
      have om : o ≠ m := by omega
      refine W_loop (fun mm zs => ∃ (t : Fm AV) (h : Hp Fm) (i : Nat) (l : List UInt8), zs = ⟨t, 75, h, none⟩ ∧ mm = n - i ∧ i ≤ n ∧ l.length = n ∧ tget t 4 = .rs o 0 1 false n cap ∧ tget t 6 = .int .i64 i ∧ tget t 3 = .ptr p 0 ∧ tget t 5 = .str s ∧ Mp.get h.obj o = some (.row (clsE byteAV l ++ J)) ∧ HX (fun z => hb.no ≤ z ∧ z ≠ p ∧ z ≠ m) (fun _ => False) h4 h) n
        ⟨_, _, 0, s, rfl, rfl, by omega, hn.symm, by simp, by simp, by simp, by simp, j1, HX.refl _ _ _⟩ ?_
      rintro mm zs ⟨t, h, i, l, rfl, rfl, hi, hl, u4, u6, u3, u5, jr, hx⟩
      by_cases q : i < n
      case neg =>
        have q' : ¬ (i : Int) < n := by omega
        repeat (first|with_reducible refine vmR ?_|with_reducible refine vmV rfl ?_|with_reducible refine vmW rfl ?_|with_reducible refine blockW_y (by decide) ?_|with_reducible refine vmL ?_|((with_reducible first|apply vmO|apply vmT);(case a=>simp [u4, u6, q, q'];with_reducible first|exact .v|exact .c))|((with_reducible apply vmC);(case e=>simp [u4, u6, q, q'];with_reducible first|exact .t|exact .f)))
        exact ⟨rfl, _, _, rfl, by simp [u3], by simp [u5], hx⟩
      have q' : (i : Int) < n := by omega
      have w1 : IntKind.i64.wrap ((i : Int) + 1) = ((i + 1 : Nat) : Int) := by rw [wrap64 (by omega) (by omega)]; simp
      have ix : indexAddrAV Try.prog 22 (.rs o 0 1 false n cap) (.int .i64 (i : Int)) = some (.ptr o i) := by
        rw [index_rs Try.underlying22 z5 (by omega) (by omega), Int.toNat_natCast, Nat.mul_one]
      have g1 := getB1 (J := J) (l := l) (i := i) (by omega)
      have i1 := lenB1 (J := J) (l := l) (i := i) (by omega)
      obtain ⟨nb, hnb⟩ : ∃ nb : UInt8, nb = gt l i + 1 := ⟨_, rfl⟩
      have st1 := setB1 (J := J) (l := l) (i := i) nb (by omega)
      have ad : IntKind.u8.wrap (((gt l i).toNat : Int) + 1) = ((nb.toNat : Nat) : Int) := by rw [hnb]; exact add1 _
      simp only [byteAV] at g1 st1
      skip
      repeat (first|with_reducible refine vmR ?_|with_reducible refine vmV rfl ?_|with_reducible refine vmW rfl ?_|with_reducible refine blockW_y (by decide) ?_|with_reducible refine vmL ?_|((with_reducible first|apply vmO|apply vmT);(case a=>simp [u4, u6, q, q', ix, jr, g1, i1, ad, st1, w1];with_reducible first|exact .v|exact .c))|((with_reducible apply vmC);(case e=>simp [u4, u6, q, q', ix, jr, g1, i1, ad, st1, w1];with_reducible first|exact .t|exact .f)))
      refine ⟨n - (i + 1), by omega, _, _, i + 1, l.set i nb, rfl, rfl, by omega, by simpa using hl, by simp [u4], by simp, by simp [u3], by simp [u5], by simp, ?_⟩
      exact hx.set (o := o) (fun _ => by omega) _
  rintro e zs ⟨rfl, t, h5, rfl, t3, t5, x5⟩
  have y5 : HE hb h5 := y4.x2 x5 (fun q hq => hq.1) (fun _ z => z.elim)
  have d5 := d4.hx x5 (fun z => z.2.1 rfl) (fun z => z.2.2 rfl)
  have w5 := D1k_wf s (by omega)
  repeat (first|with_reducible refine vmR ?_|with_reducible refine vmV rfl ?_|with_reducible refine vmW rfl ?_|with_reducible refine blockW_y (by decide) ?_|with_reducible refine vmL ?_|((with_reducible first|apply vmO|apply vmT);(case a=>simp [t3, t5];with_reducible first|exact .v|exact .c))|((with_reducible apply vmC);(case e=>simp [t3, t5];with_reducible first|exact .t|exact .f)))
  refine A.mono (readW [97] 0 1000 p m _ w5 h5 d5) ?_
  rintro _ h6 ⟨b6, rfl, k6, e6⟩
  have r0 := D1k_read s 0 1000
  rw [show ((1000 : Nat) : Int) = 1000 from rfl, show ((0 : Nat) : Int) = 0 from rfl, List.drop_zero, List.take_of_length_le (by omega)] at r0
  rw [r0] at k6 ⊢
  simp only [NB, show h5.pol 5 = true by rw [y5.pol]; exact pb1, if_true] at k6
  have y6 := y5.trans e6
  have d6 := d5.he e6
  have bc6 := k6.cells
  have bi6 := k6.isCell
  have cv6 := conv_txtR h6 k6
  refine ⟨_, by simp; first | done | rfl, ?_⟩
  repeat (first|with_reducible refine vmR ?_|with_reducible refine vmV rfl ?_|with_reducible refine vmW rfl ?_|with_reducible refine blockW_y (by decide) ?_|with_reducible refine vmL ?_|((with_reducible first|apply vmO|apply vmT);(case a=>simp [t3, t5, bc6, bi6, cv6];with_reducible first|exact .v|exact .c))|((with_reducible apply vmC);(case e=>simp [t3, t5, bc6, bi6, cv6];with_reducible first|exact .t|exact .f)))
  have hno5 := y5.no
  have pp5 := d5.pn
  have mm5 := d5.mn
  clear bc6 bi6 cv6
  refine W.mono (R := fun e zs => e = .exit 2 ∧ ∃ (t : Fm AV) (h : Hp Fm), zs = ⟨t, 75, h, none⟩ ∧ tget t 3 = .ptr p 0 ∧ tget t 5 = .str s ∧ tget t 9 = .str s ∧ HX (fun z => hb.no ≤ z ∧ z ≠ p ∧ z ≠ m) (fun _ => False) h6 h) ?_ ?_
  · rcases id k6 with ⟨rfl, en⟩ | ⟨o, cap, rfl, hlo, ⟨J, j1, j2⟩, jc, jo⟩
    · refine W_loop_i ?_
      repeat (first|with_reducible refine vmR ?_|with_reducible refine vmV rfl ?_|with_reducible refine vmW rfl ?_|with_reducible refine blockW_y (by decide) ?_|with_reducible refine vmL ?_|((with_reducible first|apply vmO|apply vmT);(case a=>simp;with_reducible first|exact .v|exact .c))|((with_reducible apply vmC);(case e=>simp;with_reducible first|exact .t|exact .f)))
      exact ⟨rfl, _, _, rfl, by simp [t3], by simp [t5], by simp, HX.refl _ _ _⟩
    · rw [flat_byte] at j1
      rw [List.length_map] at jc j2
      obtain ⟨n, hn⟩ : ∃ n, n = (s.map byteAV).length := ⟨_, rfl⟩
      rw [← hn] at ⊢
      rw [List.length_map] at hn
      have op : o ≠ p := by omega
      have om : o ≠ m := by omega
      refine W_loop (fun mm zs => ∃ (t : Fm AV) (h : Hp Fm) (i : Nat) (l : List UInt8), zs = ⟨t, 75, h, none⟩ ∧ mm = n - i ∧ i ≤ n ∧ l.length = n ∧ tget t 7 = .rs o 0 1 false n cap ∧ tget t 10 = .int .i64 i ∧ tget t 3 = .ptr p 0 ∧ tget t 5 = .str s ∧ tget t 9 = .str s ∧ Mp.get h.obj o = some (.row (clsE byteAV l ++ J)) ∧ HX (fun z => hb.no ≤ z ∧ z ≠ p ∧ z ≠ m) (fun _ => False) h6 h) n
        ⟨_, _, 0, s, rfl, rfl, by omega, hn.symm, by simp, by simp, by simp [t3], by simp [t5], by simp, j1, HX.refl _ _ _⟩ ?_
      rintro mm zs ⟨t, h, i, l, rfl, rfl, hi, hl, u4, u6, u3, u5, u9, jr, hx⟩
      by_cases q : i < n
      case neg =>
        have q' : ¬ (i : Int) < n := by omega
        repeat (first|with_reducible refine vmR ?_|with_reducible refine vmV rfl ?_|with_reducible refine vmW rfl ?_|with_reducible refine blockW_y (by decide) ?_|with_reducible refine vmL ?_|((with_reducible first|apply vmO|apply vmT);(case a=>simp [u4, u6, q, q'];with_reducible first|exact .v|exact .c))|((with_reducible apply vmC);(case e=>simp [u4, u6, q, q'];with_reducible first|exact .t|exact .f)))
        exact ⟨rfl, _, _, rfl, by simp [u3], by simp [u5], by simp [u9], hx⟩
      have q' : (i : Int) < n := by omega
      have w1 : IntKind.i64.wrap ((i : Int) + 1) = ((i + 1 : Nat) : Int) := by rw [wrap64 (by omega) (by omega)]; simp
      have ix : indexAddrAV Try.prog 22 (.rs o 0 1 false n cap) (.int .i64 (i : Int)) = some (.ptr o i) := by
        rw [index_rs Try.underlying22 z5 (by omega) (by omega), Int.toNat_natCast, Nat.mul_one]
      have g1 := getB1 (J := J) (l := l) (i := i) (by omega)
      have i1 := lenB1 (J := J) (l := l) (i := i) (by omega)
      obtain ⟨nb, hnb⟩ : ∃ nb : UInt8, nb = 9 := ⟨_, rfl⟩
      have st1 := setB1 (J := J) (l := l) (i := i) nb (by omega)
      have ad : ((nb.toNat : Nat) : Int) = 9 := by rw [hnb]; rfl
      simp only [byteAV] at g1 st1
      rw [ad] at st1
      repeat (first|with_reducible refine vmR ?_|with_reducible refine vmV rfl ?_|with_reducible refine vmW rfl ?_|with_reducible refine blockW_y (by decide) ?_|with_reducible refine vmL ?_|((with_reducible first|apply vmO|apply vmT);(case a=>simp [u4, u6, q, q', ix, jr, g1, i1, ad, st1, w1];with_reducible first|exact .v|exact .c))|((with_reducible apply vmC);(case e=>simp [u4, u6, q, q', ix, jr, g1, i1, ad, st1, w1];with_reducible first|exact .t|exact .f)))
      refine ⟨n - (i + 1), by omega, _, _, i + 1, l.set i nb, rfl, rfl, by omega, by simpa using hl, by simp [u4], by simp, by simp [u3], by simp [u5], by simp [u9], by simp, ?_⟩
      exact hx.set (o := o) (fun _ => by omega) _
  clear t3 t5
  rintro e zs ⟨rfl, t, h7, rfl, t3, t5, t9, x7⟩
  have y7 : HE hb h7 := y6.x2 x7 (fun q hq => hq.1) (fun _ z => z.elim)
  have d7 := d6.hx x7 (fun z => z.2.1 rfl) (fun z => z.2.2 rfl)
  repeat (first|with_reducible refine vmR ?_|with_reducible refine vmV rfl ?_|with_reducible refine vmW rfl ?_|with_reducible refine blockW_y (by decide) ?_|with_reducible refine vmL ?_|((with_reducible first|apply vmO|apply vmT);(case a=>simp [t3, t5, t9];with_reducible first|exact .v|exact .c))|((with_reducible apply vmC);(case e=>simp [t3, t5, t9];with_reducible first|exact .t|exact .f)))
  refine A.mono (readW [97] 0 1000 p m _ w5 h7 d7) ?_
  rintro _ h8 ⟨b8, rfl, k8, e8⟩
  rw [r0] at k8 ⊢
  simp only [NB, show h7.pol 5 = true by rw [y7.pol]; exact pb1, if_true] at k8
  have y8 := y7.trans e8
  have bc8 := k8.cells
  have bi8 := k8.isCell
  have cv8 := conv_txtR h8 k8
  have q1 := eqB_rf s
  refine ⟨_, by simp; first | done | rfl, ?_⟩
  repeat (first|with_reducible refine vmR ?_|with_reducible refine vmV rfl ?_|with_reducible refine vmW rfl ?_|with_reducible refine blockW_y (by decide) ?_|with_reducible refine vmL ?_|((with_reducible first|apply vmO|apply vmT);(case a=>simp [t3, t5, t9, bc8, bi8, cv8, q1];with_reducible first|exact .v|exact .c))|((with_reducible apply vmC);(case e=>simp [t3, t5, t9, bc8, bi8, cv8, q1];with_reducible first|exact .t|exact .f)))
  refine A.mono (lives_ans h8 (by have := y8.ng; omega)) ?_
  rintro _ h9 ⟨rfl, e9⟩
  refine ⟨_, by simp; first | done | rfl, ?_⟩
  repeat (first|with_reducible refine vmR ?_|with_reducible refine vmV rfl ?_|with_reducible refine vmW rfl ?_|with_reducible refine blockW_y (by decide) ?_|with_reducible refine vmL ?_|((with_reducible first|apply vmO|apply vmT);(case a=>simp;with_reducible first|exact .v|exact .c))|((with_reducible apply vmC);(case e=>simp;with_reducible first|exact .t|exact .f)))
  (first | apply endW_r | apply endW_n); (case h1 => (simp [Try.results3]; first | done | rfl))
  exact ⟨rfl, f0 _ (y8.trans e9)⟩
end Go.Vn

set_option maxRecDepth 20000
namespace Go.Vn
open Go.Proofs

/-- A file of the reference. -/
structure RF where
  n : Tx
  b : Tx
  s : Nat
instance : Inhabited RF := ⟨⟨[], [], 0⟩⟩
def encF (f : RF) : AV := .agg [.str f.n, .str f.b, .int .i64 (f.s : Nat)]
theorem encF_ok : EncOk encF 3 true := ⟨fun f => .inl ⟨rfl, _, rfl, rfl⟩, fun f => rfl, by omega⟩
theorem fitF (l : List RF) : ∀ e ∈ l.map encF, Fit true 3 e := fun e he => by obtain ⟨x, _, rfl⟩ := List.mem_map.mp he; exact encF_ok.fit x
theorem etF : ElT Try.prog 57 77 3 40 true (.agg [.str [], .str [], .int .i64 0]) := ⟨Try.underlying57, z77, b77, a77, t77, rfl, rfl, (fun h => by cases h), by omega, by omega⟩
theorem flatF (l : List RF) : (l.map encF).flatMap AV.cells = clsE encF l := by
  induction l with
  | nil => rfl
  | cons a l ih => simp [clsE] at ih ⊢; exact ih
section
variable {l : List RF} {J : List AV} {i : Nat}
theorem getF (h : i < l.length) : partAV true 3 (clsE encF l ++ J) (i * 3) = some (.agg [.str (gt l i).n, .str (gt l i).b, .int .i64 ((gt l i).s : Nat)]) := getS encF_ok h
theorem lenF3 (h : i < l.length) : i * 3 + 3 ≤ (clsE encF l).length + J.length := lenS encF_ok h
theorem lenF1 (h : i < l.length) : i * 3 + 1 + 1 ≤ (clsE encF l).length + J.length := by have := lenS encF_ok (J := J) h; omega
theorem lenF2 (h : i < l.length) : i * 3 + 2 + 1 ≤ (clsE encF l).length + J.length := by have := lenS encF_ok (J := J) h; omega
theorem splitF (h : i < l.length) : clsE encF l ++ J = clsE encF (l.take i) ++ ([.str (gt l i).n, .str (gt l i).b, .int .i64 ((gt l i).s : Nat)] ++ (clsE encF (l.drop (i + 1)) ++ J)) := by
  rw [cls_split l h]; simp [encF]
theorem lenT (h : i < l.length) : (clsE encF (l.take i)).length = i * 3 := by rw [cls_len encF_ok, List.length_take]; omega
theorem getF0 (h : i < l.length) : partAV false 1 (clsE encF l ++ J) (i * 3) = some (.str (gt l i).n) := by
  rw [splitF h, ← lenT h]; simp [partAV]
theorem getF1 (h : i < l.length) : partAV false 1 (clsE encF l ++ J) (i * 3 + 1) = some (.str (gt l i).b) := by
  rw [splitF h, ← lenT h]; simp [partAV]
theorem getF2 (h : i < l.length) : partAV false 1 (clsE encF l ++ J) (i * 3 + 2) = some (.int .i64 ((gt l i).s : Nat)) := by
  rw [splitF h, ← lenT h]; simp [partAV]
theorem setF3 (x : RF) (h : i < l.length) : splice (clsE encF l ++ J) (i * 3) [.str x.n, .str x.b, .int .i64 (x.s : Nat)] = clsE encF (l.set i x) ++ J := setS encF_ok (J := J) x h
theorem setsF (x : RF) (h : i < l.length) : clsE encF (l.set i x) ++ J = clsE encF (l.take i) ++ ([.str x.n, .str x.b, .int .i64 (x.s : Nat)] ++ (clsE encF (l.drop (i + 1)) ++ J)) := by
  rw [List.set_eq_take_append_cons_drop, if_pos h]; simp [clsE, encF]
theorem spl (A X Y : List AV) (k : Nat) (v : AV) : splice (A ++ (X ++ Y)) (A.length + k) [v] = A ++ splice (X ++ Y) k [v] := by
  unfold splice
  rw [List.take_length_add_append, List.drop_append]
  simp [List.drop_eq_nil_of_le, Nat.add_assoc]
theorem setF1 (b : Tx) (h : i < l.length) : splice (clsE encF l ++ J) (i * 3 + 1) [.str b] = clsE encF (l.set i { gt l i with b := b }) ++ J := by
  rw [setsF _ h, splitF h, ← lenT h, spl]; simp [splice]
theorem setF2 (s : Nat) (h : i < l.length) : splice (clsE encF l ++ J) (i * 3 + 2) [.int .i64 (s : Nat)] = clsE encF (l.set i { gt l i with s := s }) ++ J := by
  rw [setsF _ h, splitF h, ← lenT h, spl]; simp [splice]
end

/-- The reference's disk. -/
structure RKs (h : Hp Fm) (r lo : Nat) (fs : List RF) (Max Left : Int) (Down : Bool) (fv : AV) : Prop where
  row : Mp.get h.obj r = some (.row [fv, .int .i64 Max, .int .i64 Left, .bool Down])
  rs : RS lo h 3 true (fs.map encF) fv
  rn : r < lo
  ln : lo ≤ h.no
  pol : h.pol 77 = true
structure RWf (fs : List RF) (Max : Int) : Prop where
  many : fs.length ≤ 400
  ok : ∀ f ∈ fs, f.s ≤ f.b.length ∧ f.b.length ≤ 33554432
  max : Max ≤ 16777216
def RD (h : Hp Fm) (r lo : Nat) : Prop := ∃ fs Max Left Down fv, RKs h r lo fs Max Left Down fv ∧ RWf fs Max
/-- The heap goes on, but for the reference's disk. -/
abbrev RX (r lo : Nat) (h h' : Hp Fm) : Prop := HX (fun o => o = r ∨ lo ≤ o) (fun _ => False) h h'

section
variable {h h' : Hp Fm} {r lo : Nat} {fs : List RF} {Max Left : Int} {Down : Bool} {fv : AV}
theorem RKs.hx {S G : Nat → Prop} (k : RKs h r lo fs Max Left Down fv) (x : HX S G h h') (h1 : ¬ S r) (h2 : ∀ q, isRow fv q → ¬ S q) : RKs h' r lo fs Max Left Down fv :=
  ⟨(x.obj r (Nat.lt_of_lt_of_le k.rn k.ln) h1).trans k.row, k.rs.of x h2, k.rn, Nat.le_trans k.ln x.no, by rw [x.pol]; exact k.pol⟩
theorem RKs.he (k : RKs h r lo fs Max Left Down fv) (x : HE h h') : RKs h' r lo fs Max Left Down fv := k.hx (x.x (fun _ => False) (fun _ => False)) (fun z => z) (fun _ _ z => z)
/-- The disk's row is written. -/
theorem RKs.set (k : RKs h r lo fs Max Left Down fv) {fs' : List RF} {fv' : AV} (M L : Int) (D : Bool) (k' : RS lo h 3 true (fs'.map encF) fv') : RKs { h with obj := Mp.set h.obj r (.row [fv', .int .i64 M, .int .i64 L, .bool D]) } r lo fs' M L D fv' :=
  ⟨by simp, k'.of ((HX.refl (fun o => o = r) (fun _ => False) h).set (fun _ => rfl) _) (fun q hq e => by have := k'.rows q hq; have := k.rn; omega), k.rn, k.ln, k.pol⟩
theorem RKs.len (k : RKs h r lo fs Max Left Down fv) : lenAV Try.prog 57 fv = some (.int .i64 fs.length) := by
  rcases k.rs with ⟨rfl, e⟩ | ⟨o, cap, rfl, _⟩
  · have : fs = [] := by simpa using e
    subst this; simp [lenAV]
  · simp [lenAV]
theorem RKs.nm (k : RKs h r lo fs Max Left Down fv) : ∀ o, fv ≠ .mp o := by
  intro o; rcases k.rs with ⟨rfl, _⟩ | ⟨_, _, rfl, _⟩ <;> simp
/-- A place in it. -/
theorem RKs.at_ (k : RKs h r lo fs Max Left Down fv) {i : Nat} (hi : i < fs.length) : ∃ o cap J, fv = .rs o 0 3 true fs.length cap ∧ lo ≤ o ∧ o < h.no ∧ Mp.get h.obj o = some (.row (clsE encF fs ++ J)) ∧ J.length = (cap - fs.length) * 3 ∧ fs.length ≤ cap := by
  rcases k.rs with ⟨_, e⟩ | ⟨o, cap, e, hlo, ⟨J, j1, j2⟩, jc, jo⟩
  · have : fs = [] := by simpa using e
    subst this; simp at hi
  · rw [flatF] at j1
    rw [List.length_map] at e j2 jc
    exact ⟨o, cap, J, e, hlo, jo, j1, j2, jc⟩
theorem ixF {o n cap i : Nat} (hi : i < n) : indexAddrAV Try.prog 57 (.rs o 0 3 true n cap) (.int .i64 (i : Int)) = some (.ptr o (i * 3)) := by
  rw [index_rs Try.underlying57 z77 (by omega) (by omega), Int.toNat_natCast]
end

theorem rnew_ans (q : Int) (hq : 0 ≤ q ∧ q ≤ 16777216) (h0 : Hp Fm) (hp : h0.pol 77 = true) : A Try.prog TT (.func 16) [.int .i64 q] h0 (fun res h' => res = .ptr h0.no 0 ∧ (∀ lo, lo = h0.no + 1 → RD h' h0.no lo) ∧ HE h0 h' ∧ h'.no = h0.no + 1) := by
  have g1 : ¬ q < 0 := by omega
  have g2 : ¬ 16777216 < q := by omega
  apply A_go Try.func16 rfl (by rfl); (case hn => (simp [Try.ntmps16]; rfl))
  repeat (first|with_reducible refine vmR ?_|with_reducible refine vmV rfl ?_|with_reducible refine vmW rfl ?_|with_reducible refine blockW_y (by decide) ?_|with_reducible refine vmL ?_|((with_reducible first|apply vmO|apply vmT);(case a=>simp [g1, g2];with_reducible first|exact .v|exact .c))|((with_reducible apply vmC);(case e=>simp [g1, g2];with_reducible first|exact .t|exact .f)))
  (first | apply endW_r | apply endW_n); (case h1 => (simp [Try.results16]; first | done | rfl))
  refine ⟨rfl, fun lo e => ⟨[], q, -1, false, .nils, ⟨by simp, .inl ⟨rfl, rfl⟩, by omega, by simp [e], hp⟩, ⟨by simp, (fun f hf => by cases hf), hq.2⟩⟩, (HE.refl h0).new _, rfl⟩

theorem rat_ans (k : Tx) (h0 : Hp Fm) (r lo : Nat) (fs : List RF) (Max Left : Int) (Down : Bool) (fv : AV) (d : RKs h0 r lo fs Max Left Down fv) (hl : fs.length ≤ 1000) :
    A Try.prog TT (.func 46) [.ptr r 0, .str k] h0 (fun res h' => (res = .int .i64 (-1) ∨ ∃ i : Nat, i < fs.length ∧ res = .int .i64 i) ∧ h' = h0) := by
  have hr := d.row
  have dl := d.len
  have dn := d.nm
  apply A_go Try.func46 rfl (by rfl); (case hn => (simp [Try.ntmps46]; rfl))
  repeat (first|with_reducible refine vmR ?_|with_reducible refine vmV rfl ?_|with_reducible refine vmW rfl ?_|with_reducible refine blockW_y (by decide) ?_|with_reducible refine vmL ?_|((with_reducible first|apply vmO|apply vmT);(case a=>simp;with_reducible first|exact .v|exact .c))|((with_reducible apply vmC);(case e=>simp;with_reducible first|exact .t|exact .f)))
  refine W_loop (fun mm st => ∃ (t : Fm AV) (i : Nat), st = ⟨t, 26, h0, none⟩ ∧ mm = fs.length - i ∧ i ≤ fs.length ∧ tget t 0 = .ptr r 0 ∧ tget t 1 = .str k ∧ tget t 5 = .int .i64 i) fs.length ⟨_, 0, rfl, rfl, by omega, by simp, by simp, by simp⟩ ?_
  rintro _ _ ⟨t, i, rfl, rfl, hi, t0, t1, t5⟩
  by_cases q : i < fs.length
  case neg =>
    have q' : ¬ (i : Int) < fs.length := by omega
    repeat (first|with_reducible refine vmR ?_|with_reducible refine vmV rfl ?_|with_reducible refine vmW rfl ?_|with_reducible refine blockW_y (by decide) ?_|with_reducible refine vmL ?_|((with_reducible first|apply vmO|apply vmT);(case a=>simp [t0, t1, t5, hr, dl, dn, q, q'];with_reducible first|exact .v|exact .c))|((with_reducible apply vmC);(case e=>simp [t0, t1, t5, hr, dl, dn, q, q'];with_reducible first|exact .t|exact .f)))
    (first | apply endW_r | apply endW_n); (case h1 => (simp [Try.results46]; first | done | rfl))
    exact ⟨.inl rfl, rfl⟩
  have q' : (i : Int) < fs.length := by omega
  obtain ⟨o, cap, J, rfl, hlo, ho, gr, _, _⟩ := d.at_ q
  have ix := ixF (o := o) (cap := cap) q
  have g0 := getF0 (J := J) q
  have w1 : IntKind.i64.wrap ((i : Int) + 1) = ((i + 1 : Nat) : Int) := by rw [wrap64 (by omega) (by omega)]; simp
  cases qe : eqB (gt fs i).n k with
  | true =>
    repeat (first|with_reducible refine vmR ?_|with_reducible refine vmV rfl ?_|with_reducible refine vmW rfl ?_|with_reducible refine blockW_y (by decide) ?_|with_reducible refine vmL ?_|((with_reducible first|apply vmO|apply vmT);(case a=>simp [t0, t1, t5, hr, dl, dn, q, q', ix, gr, g0, qe];with_reducible first|exact .v|exact .c))|((with_reducible apply vmC);(case e=>simp [t0, t1, t5, hr, dl, dn, q, q', ix, gr, g0, qe];with_reducible first|exact .t|exact .f)))
    (first | apply endW_r | apply endW_n); (case h1 => (simp [Try.results46]; first | done | rfl))
    exact ⟨.inr ⟨i, q, rfl⟩, rfl⟩
  | false =>
    repeat (first|with_reducible refine vmR ?_|with_reducible refine vmV rfl ?_|with_reducible refine vmW rfl ?_|with_reducible refine blockW_y (by decide) ?_|with_reducible refine vmL ?_|((with_reducible first|apply vmO|apply vmT);(case a=>simp [t0, t1, t5, hr, dl, dn, q, q', ix, gr, g0, qe, w1];with_reducible first|exact .v|exact .c))|((with_reducible apply vmC);(case e=>simp [t0, t1, t5, hr, dl, dn, q, q', ix, gr, g0, qe, w1];with_reducible first|exact .t|exact .f)))
    exact ⟨fs.length - (i + 1), by omega, _, i + 1, rfl, rfl, by omega, by simp [t0], by simp [t1], by simp⟩

theorem rused_ans (h0 : Hp Fm) (r lo : Nat) (fs : List RF) (Max Left : Int) (Down : Bool) (fv : AV) (d : RKs h0 r lo fs Max Left Down fv) (hl : fs.length ≤ 1000) :
    A Try.prog TT (.func 49) [.ptr r 0] h0 (fun res h' => (∃ u : Int, res = .int .i64 u) ∧ h' = h0) := by
  have hr := d.row
  have dl := d.len
  have dn := d.nm
  apply A_go Try.func49 rfl (by rfl); (case hn => (simp [Try.ntmps49]; rfl))
  repeat (first|with_reducible refine vmR ?_|with_reducible refine vmV rfl ?_|with_reducible refine vmW rfl ?_|with_reducible refine blockW_y (by decide) ?_|with_reducible refine vmL ?_|((with_reducible first|apply vmO|apply vmT);(case a=>simp;with_reducible first|exact .v|exact .c))|((with_reducible apply vmC);(case e=>simp;with_reducible first|exact .t|exact .f)))
  refine W_loop (fun mm st => ∃ (t : Fm AV) (i : Nat) (u : Int), st = ⟨t, 26, h0, none⟩ ∧ mm = fs.length - i ∧ i ≤ fs.length ∧ tget t 0 = .ptr r 0 ∧ tget t 4 = .int .i64 i ∧ tget t 3 = .int .i64 u) fs.length ⟨_, 0, 0, rfl, rfl, by omega, by simp, by simp, by simp⟩ ?_
  rintro _ _ ⟨t, i, u, rfl, rfl, hi, t0, t4, t3⟩
  by_cases q : i < fs.length
  case neg =>
    have q' : ¬ (i : Int) < fs.length := by omega
    repeat (first|with_reducible refine vmR ?_|with_reducible refine vmV rfl ?_|with_reducible refine vmW rfl ?_|with_reducible refine blockW_y (by decide) ?_|with_reducible refine vmL ?_|((with_reducible first|apply vmO|apply vmT);(case a=>simp [t0, t3, t4, hr, dl, dn, q, q'];with_reducible first|exact .v|exact .c))|((with_reducible apply vmC);(case e=>simp [t0, t3, t4, hr, dl, dn, q, q'];with_reducible first|exact .t|exact .f)))
    (first | apply endW_r | apply endW_n); (case h1 => (simp [Try.results49]; first | done | rfl))
    exact ⟨⟨u, rfl⟩, rfl⟩
  have q' : (i : Int) < fs.length := by omega
  obtain ⟨o, cap, J, rfl, hlo, ho, gr, _, _⟩ := d.at_ q
  have ix := ixF (o := o) (cap := cap) q
  have g1 := getF1 (J := J) q
  have w1 : IntKind.i64.wrap ((i : Int) + 1) = ((i + 1 : Nat) : Int) := by rw [wrap64 (by omega) (by omega)]; simp
  repeat (first|with_reducible refine vmR ?_|with_reducible refine vmV rfl ?_|with_reducible refine vmW rfl ?_|with_reducible refine blockW_y (by decide) ?_|with_reducible refine vmL ?_|((with_reducible first|apply vmO|apply vmT);(case a=>simp [t0, t3, t4, hr, dl, dn, q, q', ix, gr, g1, w1];with_reducible first|exact .v|exact .c))|((with_reducible apply vmC);(case e=>simp [t0, t3, t4, hr, dl, dn, q, q', ix, gr, g1, w1];with_reducible first|exact .t|exact .f)))
  exact ⟨fs.length - (i + 1), by omega, _, i + 1, _, rfl, rfl, by omega, by simp [t0], by simp, by simp; rfl⟩

theorem rmay_ans (e : Int) (h0 : Hp Fm) (r lo : Nat) (fs : List RF) (Max Left : Int) (Down : Bool) (fv : AV) (d : RKs h0 r lo fs Max Left Down fv) :
    A Try.prog TT (.func 47) [.ptr r 0, .int .i64 e] h0 (fun res h' => ∃ e' : Int, res = .int .i64 e' ∧ ((Down = true ∧ e' = 7) ∨ (Down = false ∧ e ≠ 0 ∧ e' = e) ∨ (Down = false ∧ e = 0 ∧ (e' = 7 ∨ e' = 0))) ∧ (∃ Left' Down', RKs h' r lo fs Max Left' Down' fv) ∧ HX (fun o => o = r) (fun _ => False) h0 h') := by
  have hr := d.row
  have x1 : ∀ (c c' : AObj Fm), HX (fun o => o = r) (fun _ => False) h0 { h0 with obj := Mp.set (Mp.set h0.obj r c) r c' } := fun c c' => ((HX.refl (fun o => o = r) (fun _ => False) h0).set (fun _ => rfl) _).set (fun _ => rfl) _
  cases q1 : Down with
  | true =>
    rw [q1] at hr
    apply A_go Try.func47 rfl (by rfl); (case hn => (simp [Try.ntmps47]; rfl))
    repeat (first|with_reducible refine vmR ?_|with_reducible refine vmV rfl ?_|with_reducible refine vmW rfl ?_|with_reducible refine blockW_y (by decide) ?_|with_reducible refine vmL ?_|((with_reducible first|apply vmO|apply vmT);(case a=>simp [hr];with_reducible first|exact .v|exact .c))|((with_reducible apply vmC);(case e=>simp [hr];with_reducible first|exact .t|exact .f)))
    (first | apply endW_r | apply endW_n); (case h1 => (simp [Try.results47]; first | done | rfl))
    exact ⟨7, rfl, .inl ⟨rfl, rfl⟩, ⟨Left, true, by rw [← q1]; exact d⟩, HX.refl _ _ _⟩
  | false =>
    rw [q1] at hr
    by_cases q2 : e = 0
    case neg =>
      apply A_go Try.func47 rfl (by rfl); (case hn => (simp [Try.ntmps47]; rfl))
      repeat (first|with_reducible refine vmR ?_|with_reducible refine vmV rfl ?_|with_reducible refine vmW rfl ?_|with_reducible refine blockW_y (by decide) ?_|with_reducible refine vmL ?_|((with_reducible first|apply vmO|apply vmT);(case a=>simp [hr, q2];with_reducible first|exact .v|exact .c))|((with_reducible apply vmC);(case e=>simp [hr, q2];with_reducible first|exact .t|exact .f)))
      (first | apply endW_r | apply endW_n); (case h1 => (simp [Try.results47]; first | done | rfl))
      exact ⟨e, rfl, .inr (.inl ⟨rfl, q2, rfl⟩), ⟨Left, false, by rw [← q1]; exact d⟩, HX.refl _ _ _⟩
    by_cases q3 : Left = 0
    · subst q3
      apply A_go Try.func47 rfl (by rfl); (case hn => (simp [Try.ntmps47]; rfl))
      repeat (first|with_reducible refine vmR ?_|with_reducible refine vmV rfl ?_|with_reducible refine vmW rfl ?_|with_reducible refine blockW_y (by decide) ?_|with_reducible refine vmL ?_|((with_reducible first|apply vmO|apply vmT);(case a=>simp [hr, q2];with_reducible first|exact .v|exact .c))|((with_reducible apply vmC);(case e=>simp [hr, q2];with_reducible first|exact .t|exact .f)))
      (first | apply endW_r | apply endW_n); (case h1 => (simp [Try.results47]; first | done | rfl))
      refine ⟨7, rfl, .inr (.inr ⟨rfl, q2, .inl rfl⟩), ⟨-1, true, ?_⟩, x1 _ _⟩
      exact (d.set Max 0 true d.rs).set Max (-1) true ((d.set Max 0 true d.rs).rs)
    · by_cases q4 : 0 < Left
      · apply A_go Try.func47 rfl (by rfl); (case hn => (simp [Try.ntmps47]; rfl))
        repeat (first|with_reducible refine vmR ?_|with_reducible refine vmV rfl ?_|with_reducible refine vmW rfl ?_|with_reducible refine blockW_y (by decide) ?_|with_reducible refine vmL ?_|((with_reducible first|apply vmO|apply vmT);(case a=>simp [hr, q2, q3, q4];with_reducible first|exact .v|exact .c))|((with_reducible apply vmC);(case e=>simp [hr, q2, q3, q4];with_reducible first|exact .t|exact .f)))
        (first | apply endW_r | apply endW_n); (case h1 => (simp [Try.results47]; first | done | rfl))
        exact ⟨0, rfl, .inr (.inr ⟨rfl, q2, .inr rfl⟩), ⟨_, false, d.set Max _ false d.rs⟩, (HX.refl (fun o => o = r) (fun _ => False) h0).set (fun _ => rfl) _⟩
      · apply A_go Try.func47 rfl (by rfl); (case hn => (simp [Try.ntmps47]; rfl))
        repeat (first|with_reducible refine vmR ?_|with_reducible refine vmV rfl ?_|with_reducible refine vmW rfl ?_|with_reducible refine blockW_y (by decide) ?_|with_reducible refine vmL ?_|((with_reducible first|apply vmO|apply vmT);(case a=>simp [hr, q2, q3, q4];with_reducible first|exact .v|exact .c))|((with_reducible apply vmC);(case e=>simp [hr, q2, q3, q4];with_reducible first|exact .t|exact .f)))
        (first | apply endW_r | apply endW_n); (case h1 => (simp [Try.results47]; first | done | rfl))
        exact ⟨0, rfl, .inr (.inr ⟨rfl, q2, .inr rfl⟩), ⟨Left, false, by rw [← q1]; exact d⟩, HX.refl _ _ _⟩
end Go.Vn

set_option maxRecDepth 20000
namespace Go.Vn
open Go.Proofs

theorem rsE_sub {h : Hp Fm} {o : Nat} {J : List AV} {fs : List RF} (gr : Mp.get h.obj o = some (.row (clsE encF fs ++ J))) {a n : Nat} (h1 : a + n ≤ fs.length) : rsEls h o (a * 3) 3 true n = some (((fs.drop a).take n).map encF) := by
  have hl := cls_len encF_ok fs
  have e1 : fs = fs.take a ++ (((fs.drop a).take n) ++ (fs.drop a).drop n) := by rw [List.take_append_drop, List.take_append_drop]
  have hc : ∀ x y : List RF, clsE encF (x ++ y) = clsE encF x ++ clsE encF y := fun x y => by simp [clsE]
  have e2 : (clsE encF fs ++ J).drop (a * 3) = (((fs.drop a).take n).map encF).flatMap AV.cells ++ (clsE encF ((fs.drop a).drop n) ++ J) := by
    conv => lhs; rw [e1]
    have hla : (clsE encF (fs.take a)).length = a * 3 := by rw [cls_len encF_ok, List.length_take]; omega
    rw [hc, hc, List.append_assoc, ← hla, List.drop_left, flatF, List.append_assoc]
  have hn : (((fs.drop a).take n).map encF).length = n := by rw [List.length_map, List.length_take, List.length_drop]; omega
  simp only [rsEls, gr]
  rw [if_pos ⟨by omega, (fun z => by cases z), by rw [List.length_append, hl]; omega⟩, e2]
  have := chunk_fit (ag := true) (sz := 3) _ (clsE encF ((fs.drop a).drop n) ++ J) (fitF ((fs.drop a).take n))
  rw [hn] at this
  rw [this]

/-- What is cut out of it. -/
theorem RKs.cut {h : Hp Fm} {r lo : Nat} {fs : List RF} {Max Left : Int} {Down : Bool} {fv : AV} (k : RKs h r lo fs Max Left Down fv) {i : Nat} (hi : i < fs.length) :
    ∃ v1 v2, sliceAV Try.prog 57 fv none (some (.int .i64 (i : Int))) none = some v1 ∧ sliceAV Try.prog 57 fv (some (.int .i64 ((i + 1 : Nat) : Int))) none none = some v2 ∧
      (∀ h' : Hp Fm, (∀ q, isRow fv q → Mp.get h'.obj q = Mp.get h.obj q) → newEls h' 3 true v1 = some ((fs.take i).map encF) ∧ newEls h' 3 true v2 = some ((fs.drop (i + 1)).map encF)) ∧ v1.cells = [v1] ∧ v1.isCell = true ∧ v2.cells = [v2] ∧ v2.isCell = true := by
  obtain ⟨o, cap, J, rfl, hlo, ho, gr, jl, jc⟩ := k.at_ hi
  have hcap : cap ≠ 0 := by omega
  refine ⟨.rs o 0 3 true i cap, .rs o (if cap = i + 1 then 0 else (i + 1) * 3) 3 true (fs.length - (i + 1)) (cap - (i + 1)), ?_, ?_, ?_, rfl, rfl, rfl, rfl⟩
  · have : (i : Int) ≤ fs.length := by omega
    have h2 : (i : Int) ≤ cap := by omega
    have h3 : i ≤ cap := by omega
    simp [sliceAV, Try.underlying57, z77, obound, bound, this, hcap, h2, h3]
  · have h1 : ((i + 1 : Nat) : Int) ≤ fs.length := by omega
    have h2 : i + 1 ≤ fs.length := by omega
    have h4 : (0 : Int) ≤ ((i + 1 : Nat) : Int) := by omega
    have h5 : fs.length ≤ cap := jc
    simp only [sliceAV, Try.underlying57, z77, obound, bound, Option.isSome_none, Option.isNone_none, Bool.false_and, bne_self_eq_false, Bool.or_self, Bool.false_eq_true, if_false, Option.bind_some, h1, h4, and_self, if_true, Int.toNat_natCast, Nat.zero_add]
    
  · intro h' hh
    have gr' := (hh o ⟨_, _, _, _, _, rfl⟩).trans gr
    constructor
    · have := rsE_sub gr' (a := 0) (n := i) (by omega)
      simp only [Nat.zero_mul, List.drop_zero] at this
      simp only [newEls, and_self, if_true, this]
    · have := rsE_sub gr' (a := i + 1) (n := fs.length - (i + 1)) (by omega)
      rw [List.take_of_length_le (by rw [List.length_drop]; omega)] at this
      simp only [newEls, and_self, if_true]
      split
      · rename_i e
        have hz : fs.length - (i + 1) = 0 := by omega
        rw [hz, List.drop_eq_nil_of_le (by omega)]
        simp [rsEls, gr', chunkAV]
      · exact this

theorem rcut_ans (i : Nat) (h0 : Hp Fm) (r lo : Nat) (fs : List RF) (Max Left : Int) (Down : Bool) (fv : AV) (d : RKs h0 r lo fs Max Left Down fv) (hl : fs.length ≤ 1000) (hi : i < fs.length) :
    A Try.prog TT (.func 50) [.ptr r 0, .int .i64 i] h0 (fun _ h' => (∃ fv', RKs h' r lo (fs.take i ++ fs.drop (i + 1)) Max Left Down fv' ∧ ∀ q, isRow fv' q → h0.no ≤ q) ∧ HX (fun o => o = r) (fun _ => False) h0 h') := by
  have hr := d.row
  obtain ⟨v1, v2, s1, s2, en, c1, i1, c2, i2⟩ := d.cut hi
  obtain ⟨ip, hip⟩ : ∃ ip, ip = i + 1 := ⟨_, rfl⟩
  rw [← hip] at s2
  have w1 : IntKind.i64.wrap ((i : Int) + 1) = (ip : Int) := by rw [wrap64 (by omega) (by omega)]; omega
  obtain ⟨E1, E2⟩ := en h0 (fun _ _ => rfl)
  have rs0 : RS h0.no h0 3 true (([] : List RF).map encF) .nils := .inl ⟨rfl, rfl⟩
  have rn := d.rn
  have ln := d.ln
  apply A_go Try.func50 rfl (by rfl); (case hn => (simp [Try.ntmps50]; rfl))
  repeat (first|with_reducible refine vmR ?_|with_reducible refine vmV rfl ?_|with_reducible refine vmW rfl ?_|with_reducible refine blockW_y (by decide) ?_|with_reducible refine vmL ?_|((with_reducible first|apply vmO|apply vmT);(case a=>simp [hr, s1];with_reducible first|exact .v|exact .c))|((with_reducible apply vmC);(case e=>simp [hr, s1];with_reducible first|exact .t|exact .f)))
  with_reducible apply WO_app_i; (case hw => (simp; done)); (case ho => rfl); (case hb => rfl); (case ha => (simp; first | done | exact ⟨rfl, rfl⟩ | rfl)); (case h1 => (simp; first | done | rfl)); (case h2 => (simp; first | done | rfl))
  refine app_then (RS.appN etF rs0 (Nat.le_refl _) d.pol E1 (fitF []) (fitF _) (by simp; omega)) ?_
  rintro u h1 ⟨r1, x1, p1, q1⟩
  replace x1 : HX (isRow .nils) (fun _ => False) h0 h1 := x1
  rw [← List.map_append, List.nil_append] at r1
  have e1 : HE h0 h1 := ⟨x1.no, x1.ng, x1.pol, fun o ho => x1.obj o ho (by rintro ⟨_, _, _, _, _, e⟩; cases e), fun g hg => x1.len g hg (fun z => z)⟩
  have d1 := d.he e1
  have hr1 := d1.row
  have uc := r1.cells
  have ui := r1.isCell
  have frow : ∀ q, isRow fv q → q < h0.no := fun q hq => by
    rcases d.rs with ⟨rfl, _⟩ | ⟨o, cap, rfl, _, k⟩
    · obtain ⟨_, _, _, _, _, e⟩ := hq; cases e
    · obtain ⟨_, _, _, _, _, e⟩ := hq; cases e; exact k.on
  obtain ⟨_, E2'⟩ := en h1 (fun q hq => e1.obj q (frow q hq))
  refine ⟨_, by simp; first | done | rfl, ?_⟩
  have hno := e1.no
  repeat (first|with_reducible refine vmR ?_|with_reducible refine vmV rfl ?_|with_reducible refine vmW rfl ?_|with_reducible refine blockW_y (by decide) ?_|with_reducible refine vmL ?_|((with_reducible first|apply vmO|apply vmT);(case a=>simp [hr1, uc, ui, s2, w1];with_reducible first|exact .v|exact .c))|((with_reducible apply vmC);(case e=>simp [hr1, uc, ui, s2, w1];with_reducible first|exact .t|exact .f)))
  with_reducible apply WO_app_i; (case hw => (simp; done)); (case ho => rfl); (case hb => rfl); (case ha => (simp; first | done | exact ⟨rfl, rfl⟩ | rfl)); (case h1 => (simp; first | done | rfl)); (case h2 => (simp; first | done | rfl))
  refine app_then (RS.appN etF r1 hno d1.pol E2' (fitF _) (fitF _) (by simp; omega)) ?_
  rintro u2 h2 ⟨r2, x2, p2, q2⟩
  replace x2 : HX (isRow u) (fun _ => False) h1 h2 := x2
  rw [← List.map_append] at r2
  have d2 := d1.hx x2 (fun hq => by have := r1.rows _ hq; omega) (fun q hq hq2 => by have := r1.rows _ hq2; have := frow q hq; omega)
  have hr2 := d2.row
  have uc2 := r2.cells
  have ui2 := r2.isCell
  have r2' : RS lo h2 3 true ((fs.take i ++ fs.drop (i + 1)).map encF) u2 := by
    rcases r2 with k | ⟨o, cap, a1, a2, a3⟩
    · exact .inl k
    · exact .inr ⟨o, cap, a1, by omega, a3⟩
  refine ⟨_, by simp; first | done | rfl, ?_⟩
  repeat (first|with_reducible refine vmR ?_|with_reducible refine vmV rfl ?_|with_reducible refine vmW rfl ?_|with_reducible refine blockW_y (by decide) ?_|with_reducible refine vmL ?_|((with_reducible first|apply vmO|apply vmT);(case a=>simp [hr2, uc2, ui2];with_reducible first|exact .v|exact .c))|((with_reducible apply vmC);(case e=>simp [hr2, uc2, ui2];with_reducible first|exact .t|exact .f)))
  (first | apply endW_r | apply endW_n); (case h1 => (simp [Try.results50]; first | done | rfl))
  refine ⟨⟨u2, d2.set Max Left Down r2', fun q hq => r2.rows q hq⟩, ?_⟩
  have e2 := e1.x2 x2 (fun q hq => r1.rows q hq) (fun _ z => z.elim)
  exact (e2.x (fun o => o = r) (fun _ => False)).set (fun _ => rfl) _

end Go.Vn

set_option maxRecDepth 20000
namespace Go.Vn
open Go.Proofs


/-- What is put together by 'put', on its way. -/
structure PutI (h0 : Hp Fm) (r lo : Nat) (fs : List RF) (Max Left : Int) (Down : Bool) (fv : AV) (f : RF) (h : Hp Fm) (out : AV) (acc : List RF) : Prop where
  d : RKs h r lo fs Max Left Down fv
  rs : RS (h0.no + 1) h 3 true (acc.map encF) out
  e : HE h0 h
  no : h0.no < h.no
  bx : Mp.get h.obj h0.no = some (.row [.str f.n, .str f.b, .int .i64 (f.s : Nat)])
  sub : ∀ x ∈ acc, x ∈ fs ∨ x = f

set_option maxHeartbeats 2000000 in
theorem rput_ans (f : RF) (h0 : Hp Fm) (r lo : Nat) (fs : List RF) (Max Left : Int) (Down : Bool) (fv : AV) (d : RKs h0 r lo fs Max Left Down fv) (hl : fs.length ≤ 1000) :
    A Try.prog TT (.func 48) [.ptr r 0, encF f] h0 (fun _ h' => (∃ fv' fs', RKs h' r lo fs' Max Left Down fv' ∧ fs'.length ≤ fs.length + 1 ∧ ∀ x ∈ fs', x ∈ fs ∨ x = f) ∧ HX (fun o => o = r) (fun _ => False) h0 h') := by
  have rn := d.rn
  have ln := d.ln
  have frow : ∀ q, isRow fv q → q < h0.no := fun q hq => by
    rcases d.rs with ⟨rfl, _⟩ | ⟨o, cap, rfl, _, k⟩
    · obtain ⟨_, _, _, _, _, e⟩ := hq; cases e
    · obtain ⟨_, _, _, _, _, e⟩ := hq; cases e; exact k.on
  obtain ⟨hs, hhs⟩ : ∃ hs : Hp Fm, hs = { h0 with obj := Mp.set h0.obj h0.no (.row [.str f.n, .str f.b, .int .i64 (f.s : Nat)]), no := h0.no + 1 } := ⟨_, rfl⟩
  have es : HE h0 hs := by rw [hhs]; exact (HE.refl h0).new _
  have I0 : PutI h0 r lo fs Max Left Down fv f hs .nils [] := ⟨d.he es, .inl ⟨rfl, rfl⟩, es, by rw [hhs]; simp, by rw [hhs]; simp, fun x hx => by cases hx⟩
  apply A_go Try.func48 rfl (by rfl); (case hn => (simp [Try.ntmps48]; rfl))
  repeat (first|with_reducible refine vmR ?_|with_reducible refine vmV rfl ?_|with_reducible refine vmW rfl ?_|with_reducible refine blockW_y (by decide) ?_|with_reducible refine vmL ?_|((with_reducible first|apply vmO|apply vmT);(case a=>simp [encF];with_reducible first|exact .v|exact .c))|((with_reducible apply vmC);(case e=>simp [encF];with_reducible first|exact .t|exact .f)))
  rw [← hhs]
  refine W_loop (fun mm st => ∃ (t : Fm AV) (h : Hp Fm) (i : Nat) (out : AV) (acc : List RF) (dn : Bool), st = ⟨t, 66, h, none⟩ ∧ mm = fs.length - i ∧ i ≤ fs.length ∧ tget t 0 = .ptr r 0 ∧ tget t 6 = .int .i64 i ∧ tget t 3 = .ptr h0.no 0 ∧ tget t 4 = out ∧ tget t 5 = .bool dn ∧ acc.length ≤ i + (if dn then 1 else 0) ∧ PutI h0 r lo fs Max Left Down fv f h out acc) fs.length
    ⟨_, _, 0, .nils, [], false, rfl, rfl, by omega, by simp, by simp, by simp, by simp, by simp, by simp, I0⟩ ?_
  rintro _ _ ⟨t, h, i, out, acc, dn, rfl, rfl, hi, t0, t6, t3, t4, t5, hacc, K⟩
  have hr := K.d.row
  have dl := K.d.len
  have dm := K.d.nm
  have oc := K.rs.cells
  have oi := K.rs.isCell
  by_cases q : i < fs.length
  case neg =>
    have q' : ¬ (i : Int) < fs.length := by omega
    have hp := K.d.pol
    have bx := K.bx
    have hno := K.no
    cases dn with
    | true =>
      simp only [if_true] at hacc
      repeat (first|with_reducible refine vmR ?_|with_reducible refine vmV rfl ?_|with_reducible refine vmW rfl ?_|with_reducible refine blockW_y (by decide) ?_|with_reducible refine vmL ?_|((with_reducible first|apply vmO|apply vmT);(case a=>simp [t0, t6, t3, t4, t5, dl, dm, hr, q, q', oc, oi];with_reducible first|exact .v|exact .c))|((with_reducible apply vmC);(case e=>simp [t0, t6, t3, t4, t5, dl, dm, hr, q, q', oc, oi];with_reducible first|exact .t|exact .f)))
      (first | apply endW_r | apply endW_n); (case h1 => (simp [Try.results48]; first | done | rfl))
      have k' : RS lo h 3 true (acc.map encF) out := by
        rcases K.rs with k | ⟨o, cap, a1, a2, a3⟩
        · exact .inl k
        · exact .inr ⟨o, cap, a1, by omega, a3⟩
      exact ⟨⟨out, acc, K.d.set Max Left Down k', by omega, K.sub⟩, (K.e.x (fun o => o = r) (fun _ => False)).set (fun _ => rfl) _⟩
    | false =>
      simp only [Bool.false_eq_true, if_false] at hacc
      have R1 := K.rs
      have D1 := K.d
      have E1 := K.e
      repeat (first|with_reducible refine vmR ?_|with_reducible refine vmV rfl ?_|with_reducible refine vmW rfl ?_|with_reducible refine blockW_y (by decide) ?_|with_reducible refine vmL ?_|((with_reducible first|apply vmO|apply vmT);(case a=>simp [t0, t6, t3, t4, t5, dl, dm, hr, q, q', oc, oi, bx, newSeq, newRs, hp];with_reducible first|exact .v|exact .c))|((with_reducible apply vmC);(case e=>simp [t0, t6, t3, t4, t5, dl, dm, hr, q, q', oc, oi, bx, newSeq, newRs, hp];with_reducible first|exact .t|exact .f)))
      obtain ⟨hB, hhB⟩ : ∃ hB : Hp Fm, hB = { h with obj := Mp.set h.obj h.no (.row [.str f.n, .str f.b, .int .i64 (f.s : Nat)]), no := h.no + 1 } := ⟨_, rfl⟩
      have eB : HE h hB := by rw [hhB]; exact (HE.refl h).new _
      have nB : Vn.newEls hB 3 true (.rs h.no 0 3 true 1 1) = some ([f].map encF) := by
        simp [newEls, rsEls, hhB, chunkAV, encF]
      have dB := D1.he eB
      have rB := R1.he eB
      have nbl : h0.no + 1 ≤ hB.no := by have := eB.no; omega
      rw [← hhB]
      with_reducible apply WO_app_i; (case hw => (simp; done)); (case ho => rfl); (case hb => rfl); (case ha => (simp; first | done | exact ⟨rfl, rfl⟩ | rfl)); (case h1 => (simp; first | done | rfl)); (case h2 => (simp; first | done | rfl))
      refine app_then (RS.appN etF rB nbl dB.pol nB (fitF _) (fitF _) (by simp; omega)) ?_
      rintro u h2 ⟨r2, x2, _, _⟩
      replace x2 : HX (isRow out) (fun _ => False) hB h2 := x2
      rw [← List.map_append] at r2
      have d2 := dB.hx x2 (fun hq => by have := rB.rows _ hq; omega) (fun q hq hq2 => by have := rB.rows _ hq2; have := frow q hq; omega)
      have e2 := (E1.trans eB).x2 x2 (fun q hq => by have := rB.rows q hq; omega) (fun _ z => z.elim)
      have bx2 : Mp.get h2.obj h0.no = some (.row [.str f.n, .str f.b, .int .i64 (f.s : Nat)]) := (x2.obj _ (by have := eB.no; have := E1.no; omega) (fun hq => by have := rB.rows _ hq; omega)).trans ((eB.obj _ (by omega)).trans bx)
      have uc := r2.cells
      have ui := r2.isCell
      refine ⟨_, by simp; first | done | rfl, ?_⟩
      clear hhB nB dB nbl
      have hr2 := d2.row
      repeat (first|with_reducible refine vmR ?_|with_reducible refine vmV rfl ?_|with_reducible refine vmW rfl ?_|with_reducible refine blockW_y (by decide) ?_|with_reducible refine vmL ?_|((with_reducible first|apply vmO|apply vmT);(case a=>simp [t0, hr2, uc, ui];with_reducible first|exact .v|exact .c))|((with_reducible apply vmC);(case e=>simp [t0, hr2, uc, ui];with_reducible first|exact .t|exact .f)))
      (first | apply endW_r | apply endW_n); (case h1 => (simp [Try.results48]; first | done | rfl))
      have k' : RS lo h2 3 true ((acc ++ [f]).map encF) u := by
        rcases r2 with k | ⟨o, cap, a1, a2, a3⟩
        · exact .inl k
        · exact .inr ⟨o, cap, a1, by omega, a3⟩
      refine ⟨⟨u, acc ++ [f], d2.set Max Left Down k', by simp; omega, fun x hx => ?_⟩, (e2.x (fun o => o = r) (fun _ => False)).set (fun _ => rfl) _⟩
      rcases List.mem_append.mp hx with hx | hx
      · exact K.sub x hx
      · exact .inr (List.mem_singleton.mp hx)
  have q' : (i : Int) < fs.length := by omega
  obtain ⟨ip, hip⟩ : ∃ ip, ip = i + 1 := ⟨_, rfl⟩
  have w1 : IntKind.i64.wrap ((i : Int) + 1) = (ip : Int) := by rw [wrap64 (by omega) (by omega)]; omega
  obtain ⟨o, cap, J, hfv, hlo, ho, gr, _, _⟩ := K.d.at_ q
  have ix := ixF (o := o) (cap := cap) q
  have g0 := getF0 (J := J) q
  rw [hfv] at hr dl dm
  repeat (first|with_reducible refine vmR ?_|with_reducible refine vmV rfl ?_|with_reducible refine vmW rfl ?_|with_reducible refine blockW_y (by decide) ?_|with_reducible refine vmL ?_|((with_reducible first|apply vmO|apply vmT);(case a=>simp [t0, t6, dl, dm, hr, q, q'];with_reducible first|exact .v|exact .c))|((with_reducible apply vmC);(case e=>simp [t0, t6, dl, dm, hr, q, q'];with_reducible first|exact .t|exact .f)))
  have bx := K.bx
  have hno := K.no
  have nr : h0.no ≠ r := by omega
  have kd := K.d.he (HE.refl h).drew
  refine W.mono (R := fun e st => e = .normal ∧ ∃ (t : Fm AV) (q : Bool), st = ⟨t, 66, h.drew, none⟩ ∧ tget t 0 = .ptr r 0 ∧ tget t 6 = .int .i64 i ∧ tget t 3 = .ptr h0.no 0 ∧ tget t 4 = out ∧ tget t 5 = .bool dn ∧ tget t 30 = .bool q ∧ (q = true → dn = false)) ?_ ?_
  · cases dn with
    | true =>
      (with_reducible refine W_draw_id (pln := true) [0, 1, 2, 3, 4, 5, 6, 7, 8, 9, 10, 11, 12, 13, 14] [(6, (6, [])), (10, (10, [])), (12, (12, []))] (by kernel_rfl) rfl ?_)
      repeat (first|with_reducible refine vmR ?_|with_reducible refine vmV rfl ?_|with_reducible refine vmW rfl ?_|with_reducible refine blockW_y (by decide) ?_|with_reducible refine vmL ?_|((with_reducible first|apply vmO|apply vmT);(case a=>simp [t5];with_reducible first|exact .v|exact .c))|((with_reducible apply vmC);(case e=>simp [t5];with_reducible first|exact .t|exact .f)))
      refine ⟨by simp [readSame, beqAV_self, t5]; done, _, by simp; first | done | rfl, ?_⟩
      exact ⟨rfl, _, false, rfl, by simp [t0], by simp [t6], by simp [t3], by simp [t4], by simp [t5], by simp, fun z => by cases z⟩
    | false =>
      (with_reducible refine W_draw_id (pln := true) [0, 1, 2, 3, 4, 5, 6, 7, 8, 9, 10, 11, 12, 13, 14] [(6, (6, [])), (10, (10, [])), (12, (12, []))] (by kernel_rfl) rfl ?_)
      repeat (first|with_reducible refine vmR ?_|with_reducible refine vmV rfl ?_|with_reducible refine vmW rfl ?_|with_reducible refine blockW_y (by decide) ?_|with_reducible refine vmL ?_|((with_reducible first|apply vmO|apply vmT);(case a=>simp [t0, t6, t3, t5, hr, gr, ix, g0, bx];with_reducible first|exact .v|exact .c))|((with_reducible apply vmC);(case e=>simp [t0, t6, t3, t5, hr, gr, ix, g0, bx];with_reducible first|exact .t|exact .f)))
      refine ⟨by simp [readSame, beqAV_self, t0, t6, t3, t5, hr, gr, bx]; done, _, by simp; first | done | rfl, ?_⟩
      exact ⟨rfl, _, (!ltB (gt fs i).n f.n), rfl, by simp [t0], by simp [t6], by simp [t3], by simp [t4], by simp [t5], by simp, fun _ => rfl⟩
  clear t0 t6 t3 t4 t5
  rintro e st ⟨rfl, t, q2, rfl, t0, t6, t3, t4, t5, t30, hdn⟩
  refine thenW_n ?_
  have Kd : PutI h0 r lo fs Max Left Down fv f h.drew out acc := ⟨kd, K.rs.he (HE.refl h).drew, K.e.trans (HE.refl h).drew, hno, bx, K.sub⟩
  obtain ⟨hh, ehh⟩ : ∃ hh, hh = h.drew := ⟨_, rfl⟩
  rw [← ehh] at Kd ⊢
  clear K kd bx hno gr ehh ho hr
  refine W.mono (R := fun e st => e = .normal ∧ ∃ (t : Fm AV) (h : Hp Fm) (out : AV) (acc : List RF) (dn : Bool), st = ⟨t, 66, h, none⟩ ∧ tget t 0 = .ptr r 0 ∧ tget t 6 = .int .i64 i ∧ tget t 3 = .ptr h0.no 0 ∧ tget t 4 = out ∧ tget t 5 = .bool dn ∧ acc.length ≤ i + (if dn then 1 else 0) ∧ PutI h0 r lo fs Max Left Down fv f h out acc) ?_ ?_
  · cases q2 with
    | false =>
      repeat (first|with_reducible refine vmR ?_|with_reducible refine vmV rfl ?_|with_reducible refine vmW rfl ?_|with_reducible refine blockW_y (by decide) ?_|with_reducible refine vmL ?_|((with_reducible first|apply vmO|apply vmT);(case a=>simp [t30];with_reducible first|exact .v|exact .c))|((with_reducible apply vmC);(case e=>simp [t30];with_reducible first|exact .t|exact .f)))
      exact ⟨rfl, _, _, out, acc, dn, rfl, by simp [t0], by simp [t6], by simp [t3], by simp [t4], by simp [t5], hacc, Kd⟩
    | true =>
      have hd0 := hdn rfl
      rw [hd0] at hacc
      simp only [Bool.false_eq_true, if_false] at hacc
      have R1 := Kd.rs
      have D1 := Kd.d
      have E1 := Kd.e
      have hp := Kd.d.pol
      have bx := Kd.bx
      have hno := Kd.no
      repeat (first|with_reducible refine vmR ?_|with_reducible refine vmV rfl ?_|with_reducible refine vmW rfl ?_|with_reducible refine blockW_y (by decide) ?_|with_reducible refine vmL ?_|((with_reducible first|apply vmO|apply vmT);(case a=>simp [t30, t3, t4, oc, oi, bx, newSeq, newRs, hp];with_reducible first|exact .v|exact .c))|((with_reducible apply vmC);(case e=>simp [t30, t3, t4, oc, oi, bx, newSeq, newRs, hp];with_reducible first|exact .t|exact .f)))
      obtain ⟨hB, hhB⟩ : ∃ hB : Hp Fm, hB = { hh with obj := Mp.set hh.obj hh.no (.row [.str f.n, .str f.b, .int .i64 (f.s : Nat)]), no := hh.no + 1 } := ⟨_, rfl⟩
      have eB : HE hh hB := by rw [hhB]; exact (HE.refl hh).new _
      have nB : Vn.newEls hB 3 true (.rs hh.no 0 3 true 1 1) = some ([f].map encF) := by
        simp [newEls, rsEls, hhB, chunkAV, encF]
      have dB := D1.he eB
      have rB := R1.he eB
      have nbl : h0.no + 1 ≤ hB.no := by have := eB.no; omega
      rw [← hhB]
      with_reducible apply WO_app_i; (case hw => (simp; done)); (case ho => rfl); (case hb => rfl); (case ha => (simp; first | done | exact ⟨rfl, rfl⟩ | rfl)); (case h1 => (simp; first | done | rfl)); (case h2 => (simp; first | done | rfl))
      refine app_then (RS.appN etF rB nbl dB.pol nB (fitF _) (fitF _) (by simp; omega)) ?_
      rintro u h2 ⟨r2, x2, _, _⟩
      replace x2 : HX (isRow out) (fun _ => False) hB h2 := x2
      rw [← List.map_append] at r2
      have d2 := dB.hx x2 (fun hq => by have := rB.rows _ hq; omega) (fun q hq hq2 => by have := rB.rows _ hq2; have := frow q hq; omega)
      have e2 := (E1.trans eB).x2 x2 (fun q hq => by have := rB.rows q hq; omega) (fun _ z => z.elim)
      have bx2 : Mp.get h2.obj h0.no = some (.row [.str f.n, .str f.b, .int .i64 (f.s : Nat)]) := (x2.obj _ (by have := eB.no; have := E1.no; omega) (fun hq => by have := rB.rows _ hq; omega)).trans ((eB.obj _ (by omega)).trans bx)
      have uc := r2.cells
      have ui := r2.isCell
      refine ⟨_, by simp; first | done | rfl, ?_⟩
      clear hhB nB dB nbl
      repeat (first|with_reducible refine vmR ?_|with_reducible refine vmV rfl ?_|with_reducible refine vmW rfl ?_|with_reducible refine blockW_y (by decide) ?_|with_reducible refine vmL ?_|((with_reducible first|apply vmO|apply vmT);(case a=>simp [uc, ui];with_reducible first|exact .v|exact .c))|((with_reducible apply vmC);(case e=>simp [uc, ui];with_reducible first|exact .t|exact .f)))
      refine ⟨rfl, _, _, u, acc ++ [f], true, rfl, by simp [t0], by simp [t6], by simp [t3], by simp, by simp, by simp; omega, ⟨d2, r2, e2, by have := e2.no; have := x2.no; have := eB.no; omega, bx2, fun x hx => ?_⟩⟩
      rcases List.mem_append.mp hx with hx | hx
      · exact Kd.sub x hx
      · exact .inr (List.mem_singleton.mp hx)
  clear t0 t6 t3 t4 t5 t30 Kd oc oi hacc hdn
  rintro e st ⟨rfl, t, h, out, acc, dn, rfl, t0, t6, t3, t4, t5, hacc, K⟩
  have hdl : (if dn = true then 1 else 0) ≤ 1 := by split <;> omega
  obtain ⟨o2, cap2, J2, hfv2, hlo2, ho2, gr2, _, _⟩ := K.d.at_ q
  rw [hfv] at hfv2
  injection hfv2 with e1 _ _ _ _ e2
  subst e1; subst e2
  have hr := K.d.row
  rw [hfv] at hr
  have bx := K.bx
  have hno := K.no
  have oc := K.rs.cells
  have oi := K.rs.isCell
  have g0' := getF0 (J := J2) q
  have gF := getF (J := J2) q
  have kd : PutI h0 r lo fs Max Left Down fv f h.drew out acc := ⟨K.d.he (HE.refl h).drew, K.rs.he (HE.refl h).drew, K.e.trans (HE.refl h).drew, hno, bx, K.sub⟩
  repeat (first|with_reducible refine vmR ?_|with_reducible refine vmV rfl ?_|with_reducible refine vmW rfl ?_|with_reducible refine blockW_y (by decide) ?_|with_reducible refine vmL ?_|((with_reducible first|apply vmO|apply vmT);(case a=>simp;with_reducible first|exact .v|exact .c))|((with_reducible apply vmC);(case e=>simp;with_reducible first|exact .t|exact .f)))
  (with_reducible refine W_draw_id (pln := true) [0, 1, 2, 3, 4, 5, 6, 7, 8, 9, 10] [(3, (3, [])), (7, (7, [])), (9, (9, []))] (by kernel_rfl) rfl ?_)
  repeat (first|with_reducible refine vmR ?_|with_reducible refine vmV rfl ?_|with_reducible refine vmW rfl ?_|with_reducible refine blockW_y (by decide) ?_|with_reducible refine vmL ?_|((with_reducible first|apply vmO|apply vmT);(case a=>simp [t0, t6, t3, hr, gr2, ix, g0', bx];with_reducible first|exact .v|exact .c))|((with_reducible apply vmC);(case e=>simp [t0, t6, t3, hr, gr2, ix, g0', bx];with_reducible first|exact .t|exact .f)))
  refine ⟨by simp [readSame, beqAV_self, t0, t6, t3, hr, gr2, bx]; done, _, by simp; first | done | rfl, ?_⟩
  cases qe : eqB (gt fs i).n f.n with
  | true =>
    repeat (first|with_reducible refine vmR ?_|with_reducible refine vmV rfl ?_|with_reducible refine vmW rfl ?_|with_reducible refine blockW_y (by decide) ?_|with_reducible refine vmL ?_|((with_reducible first|apply vmO|apply vmT);(case a=>simp [t6, qe, w1];with_reducible first|exact .v|exact .c))|((with_reducible apply vmC);(case e=>simp [t6, qe, w1];with_reducible first|exact .t|exact .f)))
    exact ⟨fs.length - ip, by omega, _, _, ip, out, acc, dn, rfl, rfl, by omega, by simp [t0], by simp, by simp [t3], by simp [t4], by simp [t5], by omega, kd⟩
  | false =>
    obtain ⟨hh, ehh⟩ : ∃ hh, hh = h.drew := ⟨_, rfl⟩
    have hrh : Mp.get hh.obj r = some (.row [.rs o 0 3 true fs.length cap, .int .i64 Max, .int .i64 Left, .bool Down]) := by rw [ehh]; exact hr
    have grh : Mp.get hh.obj o = some (.row (clsE encF fs ++ J2)) := by rw [ehh]; exact gr2
    rw [← ehh] at kd
    rw [← ehh]
    have R1 := kd.rs
    have D1 := kd.d
    have E1 := kd.e
    have hp := kd.d.pol
    have bxh := kd.bx
    have hnoh := kd.no
    repeat (first|with_reducible refine vmR ?_|with_reducible refine vmV rfl ?_|with_reducible refine vmW rfl ?_|with_reducible refine blockW_y (by decide) ?_|with_reducible refine vmL ?_|((with_reducible first|apply vmO|apply vmT);(case a=>simp [qe, t0, t6, t4, hrh, grh, ix, gF, oc, oi, newSeq, newRs, hp];with_reducible first|exact .v|exact .c))|((with_reducible apply vmC);(case e=>simp [qe, t0, t6, t4, hrh, grh, ix, gF, oc, oi, newSeq, newRs, hp];with_reducible first|exact .t|exact .f)))
    obtain ⟨g, hg⟩ : ∃ g, g = gt fs i := ⟨_, rfl⟩
    rw [← hg]
    obtain ⟨hB, hhB⟩ : ∃ hB : Hp Fm, hB = { hh with obj := Mp.set hh.obj hh.no (.row [.str g.n, .str g.b, .int .i64 (g.s : Nat)]), no := hh.no + 1 } := ⟨_, rfl⟩
    have eB : HE hh hB := by rw [hhB]; exact (HE.refl hh).new _
    have nB : Vn.newEls hB 3 true (.rs hh.no 0 3 true 1 1) = some ([g].map encF) := by
      simp [newEls, rsEls, hhB, chunkAV, encF]
    have dB := D1.he eB
    have rB := R1.he eB
    have nbl : h0.no + 1 ≤ hB.no := by have := eB.no; omega
    rw [← hhB]
    with_reducible apply WO_app_i; (case hw => (simp; done)); (case ho => rfl); (case hb => rfl); (case ha => (simp; first | done | exact ⟨rfl, rfl⟩ | rfl)); (case h1 => (simp; first | done | rfl)); (case h2 => (simp; first | done | rfl))
    refine app_then (RS.appN etF rB nbl dB.pol nB (fitF _) (fitF _) (by simp; omega)) ?_
    rintro u h2 ⟨r2, x2, _, _⟩
    replace x2 : HX (isRow out) (fun _ => False) hB h2 := x2
    rw [← List.map_append] at r2
    have d2 := dB.hx x2 (fun hq => by have := rB.rows _ hq; omega) (fun q hq hq2 => by have := rB.rows _ hq2; have := frow q hq; omega)
    have e2 := (E1.trans eB).x2 x2 (fun q hq => by have := rB.rows q hq; omega) (fun _ z => z.elim)
    have bx2 : Mp.get h2.obj h0.no = some (.row [.str f.n, .str f.b, .int .i64 (f.s : Nat)]) := (x2.obj _ (by have := eB.no; have := E1.no; omega) (fun hq => by have := rB.rows _ hq; omega)).trans ((eB.obj _ (by omega)).trans bxh)
    have uc := r2.cells
    have ui := r2.isCell
    refine ⟨_, by simp; first | done | rfl, ?_⟩
    clear hhB nB dB nbl
    repeat (first|with_reducible refine vmR ?_|with_reducible refine vmV rfl ?_|with_reducible refine vmW rfl ?_|with_reducible refine blockW_y (by decide) ?_|with_reducible refine vmL ?_|((with_reducible first|apply vmO|apply vmT);(case a=>simp [uc, ui, t6, w1];with_reducible first|exact .v|exact .c))|((with_reducible apply vmC);(case e=>simp [uc, ui, t6, w1];with_reducible first|exact .t|exact .f)))
    refine ⟨fs.length - ip, by omega, _, _, ip, u, acc ++ [g], dn, rfl, rfl, by omega, by simp [t0], by simp, by simp [t3], by simp, by simp [t5], by simp; omega, ⟨d2, r2, e2, by have := x2.no; have := eB.no; omega, bx2, fun x hx => ?_⟩⟩
    rcases List.mem_append.mp hx with hx | hx
    · exact kd.sub x hx
    · rw [List.mem_singleton.mp hx, hg, gt_eq q]; exact .inl (List.getElem_mem q)
end Go.Vn

set_option maxRecDepth 20000
namespace Go.Vn
open Go.Proofs

theorem RX.of {r lo : Nat} {h h' : Hp Fm} (x : HX (fun o => o = r) (fun _ => False) h h') : RX r lo h h' := x.mono (fun _ _ z => .inl z) (fun _ _ z => z)

set_option maxHeartbeats 1000000 in
theorem rcreate_ans (k : Tx) (hk : k.length ≤ 1000) (h0 : Hp Fm) (r lo : Nat) (fs : List RF) (Max Left : Int) (Down : Bool) (fv : AV) (d : RKs h0 r lo fs Max Left Down fv) (w : RWf fs Max) :
    A Try.prog TT (.func 32) [.ptr r 0, .str k] h0 (fun res h' => (∃ e, res = .int .i64 e) ∧ RD h' r lo ∧ RX r lo h0 h') := by
  have hr := d.row
  have dl := d.len
  have dn := d.nm
  have hmany := w.many
  apply A_go Try.func32 rfl (by rfl); (case hn => (simp [Try.ntmps32]; rfl))
  repeat (first|with_reducible refine vmR ?_|with_reducible refine vmV rfl ?_|with_reducible refine vmW rfl ?_|with_reducible refine blockW_y (by decide) ?_|with_reducible refine vmL ?_|((with_reducible first|apply vmO|apply vmT);(case a=>simp;with_reducible first|exact .v|exact .c))|((with_reducible apply vmC);(case e=>simp;with_reducible first|exact .t|exact .f)))
  refine A.mono (rnamed_ans k (by omega) h0) ?_
  rintro _ hh ⟨rfl, ehh⟩
  rw [ehh]
  clear ehh hh
  refine ⟨_, by simp; first | done | rfl, ?_⟩
  cases q1 : namedP k with
  | false =>
    repeat (first|with_reducible refine vmR ?_|with_reducible refine vmV rfl ?_|with_reducible refine vmW rfl ?_|with_reducible refine blockW_y (by decide) ?_|with_reducible refine vmL ?_|((with_reducible first|apply vmO|apply vmT);(case a=>simp;with_reducible first|exact .v|exact .c))|((with_reducible apply vmC);(case e=>simp;with_reducible first|exact .t|exact .f)))
    refine A.mono (rmay_ans 1 _ r lo fs Max Left Down fv d) ?_
    rintro _ hm ⟨e', rfl, hc, ⟨L2, D2, dm⟩, xm⟩
    refine ⟨_, by simp; first | done | rfl, ?_⟩
    have ne : e' ≠ 0 := by rcases hc with ⟨_, rfl⟩ | ⟨_, _, rfl⟩ | ⟨_, z, _⟩ <;> omega
    repeat (first|with_reducible refine vmR ?_|with_reducible refine vmV rfl ?_|with_reducible refine vmW rfl ?_|with_reducible refine blockW_y (by decide) ?_|with_reducible refine vmL ?_|((with_reducible first|apply vmO|apply vmT);(case a=>simp [ne];with_reducible first|exact .v|exact .c))|((with_reducible apply vmC);(case e=>simp [ne];with_reducible first|exact .t|exact .f)))
    (first | apply endW_r | apply endW_n); (case h1 => (simp [Try.results32]; first | done | rfl))
    exact ⟨⟨e', rfl⟩, ⟨fs, Max, L2, D2, fv, dm, w⟩, RX.of xm⟩
  | true =>
    repeat (first|with_reducible refine vmR ?_|with_reducible refine vmV rfl ?_|with_reducible refine vmW rfl ?_|with_reducible refine blockW_y (by decide) ?_|with_reducible refine vmL ?_|((with_reducible first|apply vmO|apply vmT);(case a=>simp;with_reducible first|exact .v|exact .c))|((with_reducible apply vmC);(case e=>simp;with_reducible first|exact .t|exact .f)))
    refine A.mono (rat_ans k h0 r lo fs Max Left Down fv d (by omega)) ?_
    rintro _ hh ⟨hat, ehh⟩
    rw [ehh]
    clear ehh hh
    refine ⟨_, by simp; first | done | rfl, ?_⟩
    rcases hat with rfl | ⟨i, hi, rfl⟩
    · by_cases q2 : 400 ≤ fs.length
      · have q2' : (400 : Int) ≤ fs.length := by omega
        repeat (first|with_reducible refine vmR ?_|with_reducible refine vmV rfl ?_|with_reducible refine vmW rfl ?_|with_reducible refine blockW_y (by decide) ?_|with_reducible refine vmL ?_|((with_reducible first|apply vmO|apply vmT);(case a=>simp [hr, dl, dn, q2, q2'];with_reducible first|exact .v|exact .c))|((with_reducible apply vmC);(case e=>simp [hr, dl, dn, q2, q2'];with_reducible first|exact .t|exact .f)))
        refine A.mono (rmay_ans 6 _ r lo fs Max Left Down fv d) ?_
        rintro _ hm ⟨e', rfl, hc, ⟨L2, D2, dm⟩, xm⟩
        refine ⟨_, by simp; first | done | rfl, ?_⟩
        have ne : e' ≠ 0 := by rcases hc with ⟨_, rfl⟩ | ⟨_, _, rfl⟩ | ⟨_, z, _⟩ <;> omega
        repeat (first|with_reducible refine vmR ?_|with_reducible refine vmV rfl ?_|with_reducible refine vmW rfl ?_|with_reducible refine blockW_y (by decide) ?_|with_reducible refine vmL ?_|((with_reducible first|apply vmO|apply vmT);(case a=>simp [ne];with_reducible first|exact .v|exact .c))|((with_reducible apply vmC);(case e=>simp [ne];with_reducible first|exact .t|exact .f)))
        (first | apply endW_r | apply endW_n); (case h1 => (simp [Try.results32]; first | done | rfl))
        exact ⟨⟨e', rfl⟩, ⟨fs, Max, L2, D2, fv, dm, w⟩, RX.of xm⟩
      · have q2' : ¬ (400 : Int) ≤ fs.length := by omega
        repeat (first|with_reducible refine vmR ?_|with_reducible refine vmV rfl ?_|with_reducible refine vmW rfl ?_|with_reducible refine blockW_y (by decide) ?_|with_reducible refine vmL ?_|((with_reducible first|apply vmO|apply vmT);(case a=>simp [hr, dl, dn, q2, q2'];with_reducible first|exact .v|exact .c))|((with_reducible apply vmC);(case e=>simp [hr, dl, dn, q2, q2'];with_reducible first|exact .t|exact .f)))
        refine A.mono (rmay_ans 0 _ r lo fs Max Left Down fv d) ?_
        rintro _ hm ⟨e', rfl, hc, ⟨L2, D2, dm⟩, xm⟩
        refine ⟨_, by simp; first | done | rfl, ?_⟩
        by_cases ne : e' = 0
        · repeat (first|with_reducible refine vmR ?_|with_reducible refine vmV rfl ?_|with_reducible refine vmW rfl ?_|with_reducible refine blockW_y (by decide) ?_|with_reducible refine vmL ?_|((with_reducible first|apply vmO|apply vmT);(case a=>simp [ne];with_reducible first|exact .v|exact .c))|((with_reducible apply vmC);(case e=>simp [ne];with_reducible first|exact .t|exact .f)))
          refine A.mono (rput_ans ⟨k, [], 0⟩ hm r lo fs Max L2 D2 fv dm (by omega)) ?_
          rintro _ h3 ⟨⟨fv3, fs3, d3, l3, s3⟩, x3⟩
          refine ⟨_, by simp; first | done | rfl, ?_⟩
          repeat (first|with_reducible refine vmR ?_|with_reducible refine vmV rfl ?_|with_reducible refine vmW rfl ?_|with_reducible refine blockW_y (by decide) ?_|with_reducible refine vmL ?_|((with_reducible first|apply vmO|apply vmT);(case a=>simp;with_reducible first|exact .v|exact .c))|((with_reducible apply vmC);(case e=>simp;with_reducible first|exact .t|exact .f)))
          (first | apply endW_r | apply endW_n); (case h1 => (simp [Try.results32]; first | done | rfl))
          refine ⟨⟨_, rfl⟩, ⟨fs3, Max, L2, D2, fv3, d3, ⟨by omega, fun f hf => ?_, w.max⟩⟩, RX.of (xm.trans (x3.mono (fun _ _ z => z) (fun _ _ z => z)))⟩
          rcases s3 f hf with h | rfl
          · exact w.ok f h
          · simp
        · repeat (first|with_reducible refine vmR ?_|with_reducible refine vmV rfl ?_|with_reducible refine vmW rfl ?_|with_reducible refine blockW_y (by decide) ?_|with_reducible refine vmL ?_|((with_reducible first|apply vmO|apply vmT);(case a=>simp [ne];with_reducible first|exact .v|exact .c))|((with_reducible apply vmC);(case e=>simp [ne];with_reducible first|exact .t|exact .f)))
          (first | apply endW_r | apply endW_n); (case h1 => (simp [Try.results32]; first | done | rfl))
          exact ⟨⟨e', rfl⟩, ⟨fs, Max, L2, D2, fv, dm, w⟩, RX.of xm⟩
    · have ni : (0 : Int) ≤ i := by omega
      repeat (first|with_reducible refine vmR ?_|with_reducible refine vmV rfl ?_|with_reducible refine vmW rfl ?_|with_reducible refine blockW_y (by decide) ?_|with_reducible refine vmL ?_|((with_reducible first|apply vmO|apply vmT);(case a=>simp [ni];with_reducible first|exact .v|exact .c))|((with_reducible apply vmC);(case e=>simp [ni];with_reducible first|exact .t|exact .f)))
      refine A.mono (rmay_ans 9 _ r lo fs Max Left Down fv d) ?_
      rintro _ hm ⟨e', rfl, hc, ⟨L2, D2, dm⟩, xm⟩
      refine ⟨_, by simp; first | done | rfl, ?_⟩
      have ne : e' ≠ 0 := by rcases hc with ⟨_, rfl⟩ | ⟨_, _, rfl⟩ | ⟨_, z, _⟩ <;> omega
      repeat (first|with_reducible refine vmR ?_|with_reducible refine vmV rfl ?_|with_reducible refine vmW rfl ?_|with_reducible refine blockW_y (by decide) ?_|with_reducible refine vmL ?_|((with_reducible first|apply vmO|apply vmT);(case a=>simp [ne];with_reducible first|exact .v|exact .c))|((with_reducible apply vmC);(case e=>simp [ne];with_reducible first|exact .t|exact .f)))
      (first | apply endW_r | apply endW_n); (case h1 => (simp [Try.results32]; first | done | rfl))
      exact ⟨⟨e', rfl⟩, ⟨fs, Max, L2, D2, fv, dm, w⟩, RX.of xm⟩

def usedR (fs : List RF) : Nat := (fs.map fun f => f.b.length).sum
theorem usedR_le {fs : List RF} (h : ∀ f ∈ fs, f.b.length ≤ 33554432) : usedR fs ≤ fs.length * 33554432 := by
  induction fs with
  | nil => simp [usedR]
  | cons f fs ih =>
    have := ih fun g hg => h g (List.mem_cons_of_mem _ hg)
    have h2 := h f (by simp)
    simp only [usedR, List.map_cons, List.sum_cons, List.length_cons, Nat.add_mul] at this ⊢
    omega
theorem usedR_mem {fs : List RF} {f : RF} (h : f ∈ fs) : f.b.length ≤ usedR fs := by
  induction fs with
  | nil => cases h
  | cons g fs ih =>
    rcases List.mem_cons.mp h with rfl | h
    · simp [usedR]
    · have := ih h; simp only [usedR, List.map_cons, List.sum_cons] at this ⊢; omega
theorem usedR_app (a b : List RF) : usedR (a ++ b) = usedR a + usedR b := by simp only [usedR, List.map_append, List.sum_append]
theorem usedR_take {fs : List RF} {i : Nat} (h : i < fs.length) : usedR (fs.take (i + 1)) = usedR (fs.take i) + (gt fs i).b.length := by
  rw [List.take_succ_eq_append_getElem h, gt_eq h, usedR_app]; simp [usedR]
theorem usedR_mono {fs : List RF} (i : Nat) : usedR (fs.take i) ≤ usedR fs := by
  have : usedR fs = usedR (fs.take i) + usedR (fs.drop i) := by
    rw [← usedR_app, List.take_append_drop]
  omega

theorem rused2_ans (h0 : Hp Fm) (r lo : Nat) (fs : List RF) (Max Left : Int) (Down : Bool) (fv : AV) (d : RKs h0 r lo fs Max Left Down fv) (w : RWf fs Max) :
    A Try.prog TT (.func 49) [.ptr r 0] h0 (fun res h' => res = .int .i64 (usedR fs : Nat) ∧ h' = h0) := by
  have hr := d.row
  have dl := d.len
  have dn := d.nm
  have hmany := w.many
  have hle := usedR_le fun f hf => (w.ok f hf).2
  apply A_go Try.func49 rfl (by rfl); (case hn => (simp [Try.ntmps49]; rfl))
  repeat (first|with_reducible refine vmR ?_|with_reducible refine vmV rfl ?_|with_reducible refine vmW rfl ?_|with_reducible refine blockW_y (by decide) ?_|with_reducible refine vmL ?_|((with_reducible first|apply vmO|apply vmT);(case a=>simp;with_reducible first|exact .v|exact .c))|((with_reducible apply vmC);(case e=>simp;with_reducible first|exact .t|exact .f)))
  refine W_loop (fun mm st => ∃ (t : Fm AV) (i : Nat), st = ⟨t, 26, h0, none⟩ ∧ mm = fs.length - i ∧ i ≤ fs.length ∧ tget t 0 = .ptr r 0 ∧ tget t 4 = .int .i64 i ∧ tget t 3 = .int .i64 (usedR (fs.take i) : Nat)) fs.length ⟨_, 0, rfl, rfl, by omega, by simp, by simp, by simp [usedR]⟩ ?_
  rintro _ _ ⟨t, i, rfl, rfl, hi, t0, t4, t3⟩
  by_cases q : i < fs.length
  case neg =>
    have q' : ¬ (i : Int) < fs.length := by omega
    rw [List.take_of_length_le (by omega)] at t3
    repeat (first|with_reducible refine vmR ?_|with_reducible refine vmV rfl ?_|with_reducible refine vmW rfl ?_|with_reducible refine blockW_y (by decide) ?_|with_reducible refine vmL ?_|((with_reducible first|apply vmO|apply vmT);(case a=>simp [t0, t3, t4, hr, dl, dn, q, q'];with_reducible first|exact .v|exact .c))|((with_reducible apply vmC);(case e=>simp [t0, t3, t4, hr, dl, dn, q, q'];with_reducible first|exact .t|exact .f)))
    (first | apply endW_r | apply endW_n); (case h1 => (simp [Try.results49]; first | done | rfl))
    exact ⟨rfl, rfl⟩
  have q' : (i : Int) < fs.length := by omega
  obtain ⟨o, cap, J, rfl, hlo, ho, gr, _, _⟩ := d.at_ q
  have ix := ixF (o := o) (cap := cap) q
  have g1 := getF1 (J := J) q
  obtain ⟨ip, hip⟩ : ∃ ip, ip = i + 1 := ⟨_, rfl⟩
  have w1 : IntKind.i64.wrap ((i : Int) + 1) = (ip : Int) := by rw [wrap64 (by omega) (by omega)]; omega
  have ut := usedR_take q
  rw [← hip] at ut
  have um := usedR_mono (fs := fs) ip
  have w2 : IntKind.i64.wrap ((usedR (fs.take i) : Int) + ((gt fs i).b.length : Int)) = (usedR (fs.take ip) : Nat) := by rw [wrap64 (by omega) (by omega), ut]; omega
  repeat (first|with_reducible refine vmR ?_|with_reducible refine vmV rfl ?_|with_reducible refine vmW rfl ?_|with_reducible refine blockW_y (by decide) ?_|with_reducible refine vmL ?_|((with_reducible first|apply vmO|apply vmT);(case a=>simp [t0, t3, t4, hr, dl, dn, q, q', ix, gr, g1, w1, w2];with_reducible first|exact .v|exact .c))|((with_reducible apply vmC);(case e=>simp [t0, t3, t4, hr, dl, dn, q, q', ix, gr, g1, w1, w2];with_reducible first|exact .t|exact .f)))
  exact ⟨fs.length - ip, by omega, _, ip, rfl, rfl, by omega, by simp [t0], by simp, by simp⟩

set_option maxHeartbeats 1000000 in
theorem rappend_ans (k b : Tx) (hb : b.length ≤ 1000) (h0 : Hp Fm) (r lo : Nat) (fs : List RF) (Max Left : Int) (Down : Bool) (fv : AV) (d : RKs h0 r lo fs Max Left Down fv) (w : RWf fs Max) :
    A Try.prog TT (.func 33) [.ptr r 0, .str k, .str b] h0 (fun res h' => (∃ e, res = .int .i64 e) ∧ RD h' r lo ∧ RX r lo h0 h') := by
  have hr := d.row
  have hmany := w.many
  have hle := usedR_le fun f hf => (w.ok f hf).2
  have hmx := w.max
  apply A_go Try.func33 rfl (by rfl); (case hn => (simp [Try.ntmps33]; rfl))
  repeat (first|with_reducible refine vmR ?_|with_reducible refine vmV rfl ?_|with_reducible refine vmW rfl ?_|with_reducible refine blockW_y (by decide) ?_|with_reducible refine vmL ?_|((with_reducible first|apply vmO|apply vmT);(case a=>simp;with_reducible first|exact .v|exact .c))|((with_reducible apply vmC);(case e=>simp;with_reducible first|exact .t|exact .f)))
  refine A.mono (rat_ans k h0 r lo fs Max Left Down fv d (by omega)) ?_
  rintro _ hh ⟨hat, ehh⟩
  rw [ehh]
  clear ehh hh
  refine ⟨_, by simp; first | done | rfl, ?_⟩
  rcases hat with rfl | ⟨i, hi, rfl⟩
  · repeat (first|with_reducible refine vmR ?_|with_reducible refine vmV rfl ?_|with_reducible refine vmW rfl ?_|with_reducible refine blockW_y (by decide) ?_|with_reducible refine vmL ?_|((with_reducible first|apply vmO|apply vmT);(case a=>simp [hr];with_reducible first|exact .v|exact .c))|((with_reducible apply vmC);(case e=>simp [hr];with_reducible first|exact .t|exact .f)))
    refine A.mono (rmay_ans 8 h0 r lo fs Max Left Down fv d) ?_
    rintro _ hm ⟨e', rfl, hc, ⟨L2, D2, dm⟩, xm⟩
    refine ⟨_, by simp; first | done | rfl, ?_⟩
    rcases hc with ⟨z, rfl⟩ | ⟨z, _, rfl⟩ | ⟨_, z, _⟩
    · subst z
      repeat (first|with_reducible refine vmR ?_|with_reducible refine vmV rfl ?_|with_reducible refine vmW rfl ?_|with_reducible refine blockW_y (by decide) ?_|with_reducible refine vmL ?_|((with_reducible first|apply vmO|apply vmT);(case a=>simp;with_reducible first|exact .v|exact .c))|((with_reducible apply vmC);(case e=>simp;with_reducible first|exact .t|exact .f)))
      (first | apply endW_r | apply endW_n); (case h1 => (simp [Try.results33]; first | done | rfl))
      exact ⟨⟨_, rfl⟩, ⟨fs, Max, L2, D2, fv, dm, w⟩, RX.of xm⟩
    · repeat (first|with_reducible refine vmR ?_|with_reducible refine vmV rfl ?_|with_reducible refine vmW rfl ?_|with_reducible refine blockW_y (by decide) ?_|with_reducible refine vmL ?_|((with_reducible first|apply vmO|apply vmT);(case a=>simp;with_reducible first|exact .v|exact .c))|((with_reducible apply vmC);(case e=>simp;with_reducible first|exact .t|exact .f)))
      (first | apply endW_r | apply endW_n); (case h1 => (simp [Try.results33]; first | done | rfl))
      exact ⟨⟨_, rfl⟩, ⟨fs, Max, L2, D2, fv, dm, w⟩, RX.of xm⟩
    · omega
  have ni : ¬ (i : Int) < 0 := by omega
  repeat (first|with_reducible refine vmR ?_|with_reducible refine vmV rfl ?_|with_reducible refine vmW rfl ?_|with_reducible refine blockW_y (by decide) ?_|with_reducible refine vmL ?_|((with_reducible first|apply vmO|apply vmT);(case a=>simp [ni];with_reducible first|exact .v|exact .c))|((with_reducible apply vmC);(case e=>simp [ni];with_reducible first|exact .t|exact .f)))
  (with_reducible refine W_draw_id (pln := true) [0, 1, 2, 3, 4, 5, 6, 7, 8, 9] [(8, (8, [0]))] (by kernel_rfl) rfl ?_)
  repeat (first|with_reducible refine vmR ?_|with_reducible refine vmV rfl ?_|with_reducible refine vmW rfl ?_|with_reducible refine blockW_y (by decide) ?_|with_reducible refine vmL ?_|((with_reducible first|apply vmO|apply vmT);(case a=>simp;with_reducible first|exact .v|exact .c))|((with_reducible apply vmC);(case e=>simp;with_reducible first|exact .t|exact .f)))
  have dd := d.he (HE.refl h0).drew
  refine A.mono (rused2_ans h0.drew r lo fs Max Left Down fv dd w) ?_
  rintro _ hh ⟨rfl, ehh⟩
  rw [ehh]
  clear ehh hh
  refine ⟨_, by simp; first | done | rfl, ?_⟩
  obtain ⟨u, hu⟩ : ∃ u, u = usedR fs := ⟨_, rfl⟩
  rw [← hu] at hle ⊢
  have w1 : IntKind.i64.wrap ((u : Int) + (b.length : Int)) = (u : Int) + b.length := wrap64 (by omega) (by omega)
  by_cases q : Max < (u : Int) + b.length
  · repeat (first|with_reducible refine vmR ?_|with_reducible refine vmV rfl ?_|with_reducible refine vmW rfl ?_|with_reducible refine blockW_y (by decide) ?_|with_reducible refine vmL ?_|((with_reducible first|apply vmO|apply vmT);(case a=>simp [hr, w1, q];with_reducible first|exact .v|exact .c))|((with_reducible apply vmC);(case e=>simp [hr, w1, q];with_reducible first|exact .t|exact .f)))
    refine ⟨by simp [readSame, beqAV_self, hr]; done, _, by simp; first | done | rfl, ?_⟩
    repeat (first|with_reducible refine vmR ?_|with_reducible refine vmV rfl ?_|with_reducible refine vmW rfl ?_|with_reducible refine blockW_y (by decide) ?_|with_reducible refine vmL ?_|((with_reducible first|apply vmO|apply vmT);(case a=>simp [hr];with_reducible first|exact .v|exact .c))|((with_reducible apply vmC);(case e=>simp [hr];with_reducible first|exact .t|exact .f)))
    refine A.mono (rmay_ans 6 h0.drew r lo fs Max Left Down fv dd) ?_
    rintro _ hm ⟨e', rfl, hc, ⟨L2, D2, dm⟩, xm⟩
    have xm' : HX (fun o => o = r) (fun _ => False) h0 hm := ((HE.refl h0).drew.x (fun o => o = r) (fun _ => False)).trans xm
    refine ⟨_, by simp; first | done | rfl, ?_⟩
    rcases hc with ⟨z, rfl⟩ | ⟨z, _, rfl⟩ | ⟨_, z, _⟩
    · subst z
      repeat (first|with_reducible refine vmR ?_|with_reducible refine vmV rfl ?_|with_reducible refine vmW rfl ?_|with_reducible refine blockW_y (by decide) ?_|with_reducible refine vmL ?_|((with_reducible first|apply vmO|apply vmT);(case a=>simp;with_reducible first|exact .v|exact .c))|((with_reducible apply vmC);(case e=>simp;with_reducible first|exact .t|exact .f)))
      (first | apply endW_r | apply endW_n); (case h1 => (simp [Try.results33]; first | done | rfl))
      exact ⟨⟨_, rfl⟩, ⟨fs, Max, L2, D2, fv, dm, w⟩, RX.of xm'⟩
    · repeat (first|with_reducible refine vmR ?_|with_reducible refine vmV rfl ?_|with_reducible refine vmW rfl ?_|with_reducible refine blockW_y (by decide) ?_|with_reducible refine vmL ?_|((with_reducible first|apply vmO|apply vmT);(case a=>simp;with_reducible first|exact .v|exact .c))|((with_reducible apply vmC);(case e=>simp;with_reducible first|exact .t|exact .f)))
      (first | apply endW_r | apply endW_n); (case h1 => (simp [Try.results33]; first | done | rfl))
      exact ⟨⟨_, rfl⟩, ⟨fs, Max, L2, D2, fv, dm, w⟩, RX.of xm'⟩
    · omega
  · repeat (first|with_reducible refine vmR ?_|with_reducible refine vmV rfl ?_|with_reducible refine vmW rfl ?_|with_reducible refine blockW_y (by decide) ?_|with_reducible refine vmL ?_|((with_reducible first|apply vmO|apply vmT);(case a=>simp [hr, w1, q];with_reducible first|exact .v|exact .c))|((with_reducible apply vmC);(case e=>simp [hr, w1, q];with_reducible first|exact .t|exact .f)))
    refine ⟨by simp [readSame, beqAV_self, hr]; done, _, by simp; first | done | rfl, ?_⟩
    repeat (first|with_reducible refine vmR ?_|with_reducible refine vmV rfl ?_|with_reducible refine vmW rfl ?_|with_reducible refine blockW_y (by decide) ?_|with_reducible refine vmL ?_|((with_reducible first|apply vmO|apply vmT);(case a=>simp [hr];with_reducible first|exact .v|exact .c))|((with_reducible apply vmC);(case e=>simp [hr];with_reducible first|exact .t|exact .f)))
    refine A.mono (rmay_ans 0 h0.drew r lo fs Max Left Down fv dd) ?_
    rintro _ hm ⟨e', rfl, hc, ⟨L2, D2, dm⟩, xm0⟩
    have xm : HX (fun o => o = r) (fun _ => False) h0 hm := ((HE.refl h0).drew.x (fun o => o = r) (fun _ => False)).trans xm0
    refine ⟨_, by simp; first | done | rfl, ?_⟩
    have t0f : True := trivial
    rcases hc with ⟨z, rfl⟩ | ⟨z, z2, _⟩ | ⟨z, _, rfl | rfl⟩
    · subst z
      repeat (first|with_reducible refine vmR ?_|with_reducible refine vmV rfl ?_|with_reducible refine vmW rfl ?_|with_reducible refine blockW_y (by decide) ?_|with_reducible refine vmL ?_|((with_reducible first|apply vmO|apply vmT);(case a=>simp;with_reducible first|exact .v|exact .c))|((with_reducible apply vmC);(case e=>simp;with_reducible first|exact .t|exact .f)))
      (first | apply endW_r | apply endW_n); (case h1 => (simp [Try.results33]; first | done | rfl))
      exact ⟨⟨_, rfl⟩, ⟨fs, Max, L2, D2, fv, dm, w⟩, RX.of xm⟩
    · omega
    · subst z
      -- what is appended is put down
      have dmi := dm
      obtain ⟨o, cap, J, hfv, hlo, ho, gr, jl, jc⟩ := dmi.at_ hi
      have ix := ixF (o := o) (cap := cap) hi
      have g1 := getF1 (J := J) hi
      have l1 := lenF1 (J := J) hi
      have st1 := setF1 (J := J) ((gt fs i).b ++ b) hi
      have hrm := dm.row
      rw [hfv] at hrm
      have hro : o ≠ r := by have := d.rn; omega
      have hmem : gt fs i ∈ fs := by rw [gt_eq hi]; exact List.getElem_mem hi
      have hub := usedR_mem hmem
      have hcat : (gt fs i).b.length + b.length ≤ 2 ^ 46 := by omega
      repeat (first|with_reducible refine vmR ?_|with_reducible refine vmV rfl ?_|with_reducible refine vmW rfl ?_|with_reducible refine blockW_y (by decide) ?_|with_reducible refine vmL ?_|((with_reducible first|apply vmO|apply vmT);(case a=>simp;with_reducible first|exact .v|exact .c))|((with_reducible apply vmC);(case e=>simp;with_reducible first|exact .t|exact .f)))
      (with_reducible refine W_draw_id (pln := true) [0, 1, 2, 3, 4, 5, 6, 7, 8, 9, 10, 11, 12, 13, 14, 15, 16, 17] [(3, (3, [])), (8, (8, [])), (12, (12, []))] (by kernel_rfl) rfl ?_)
      repeat (first|with_reducible refine vmR ?_|with_reducible refine vmV rfl ?_|with_reducible refine vmW rfl ?_|with_reducible refine blockW_y (by decide) ?_|with_reducible refine vmL ?_|((with_reducible first|apply vmO|apply vmT);(case a=>simp [t0f, hrm, gr, ix, g1, l1, hcat, st1];with_reducible first|exact .v|exact .c))|((with_reducible apply vmC);(case e=>simp [t0f, hrm, gr, ix, g1, l1, hcat, st1];with_reducible first|exact .t|exact .f)))
      refine ⟨by simp [readSame, beqAV_self, hrm, gr]; done, _, by simp; first | done | rfl, ?_⟩
      repeat (first|with_reducible refine vmR ?_|with_reducible refine vmV rfl ?_|with_reducible refine vmW rfl ?_|with_reducible refine blockW_y (by decide) ?_|with_reducible refine vmL ?_|((with_reducible first|apply vmO|apply vmT);(case a=>simp;with_reducible first|exact .v|exact .c))|((with_reducible apply vmC);(case e=>simp;with_reducible first|exact .t|exact .f)))
      (first | apply endW_r | apply endW_n); (case h1 => (simp [Try.results33]; first | done | rfl))
      have k' : RS lo { hm.drew with obj := Mp.set hm.drew.obj o (.row (clsE encF (fs.set i { gt fs i with b := (gt fs i).b ++ b }) ++ J)) } 3 true ((fs.set i { gt fs i with b := (gt fs i).b ++ b }).map encF) fv := by
        rw [hfv]
        exact .inr ⟨o, cap, by simp, hlo, ⟨J, by rw [flatF]; simp, by simpa using jl⟩, by simpa using jc, ho⟩
      refine ⟨⟨_, rfl⟩, ⟨_, Max, L2, D2, fv, ⟨by simp [Ne.symm hro, hrm, hfv], k', dm.rn, dm.ln, dm.pol⟩, ⟨by simpa using w.many, fun f hf => ?_, w.max⟩⟩, ?_⟩
      · rcases List.mem_or_eq_of_mem_set hf with h | rfl
        · exact w.ok f h
        · have := w.ok _ hmem; simp only [List.length_append]; omega
      · exact ((RX.of xm).drew).set (o := o) (fun _ => .inr hlo) _
    · subst z
      -- what is appended is put down
      have dmi := dm
      obtain ⟨o, cap, J, hfv, hlo, ho, gr, jl, jc⟩ := dmi.at_ hi
      have ix := ixF (o := o) (cap := cap) hi
      have g1 := getF1 (J := J) hi
      have l1 := lenF1 (J := J) hi
      have st1 := setF1 (J := J) ((gt fs i).b ++ b) hi
      have hrm := dm.row
      rw [hfv] at hrm
      have hro : o ≠ r := by have := d.rn; omega
      have hmem : gt fs i ∈ fs := by rw [gt_eq hi]; exact List.getElem_mem hi
      have hub := usedR_mem hmem
      have hcat : (gt fs i).b.length + b.length ≤ 2 ^ 46 := by omega
      repeat (first|with_reducible refine vmR ?_|with_reducible refine vmV rfl ?_|with_reducible refine vmW rfl ?_|with_reducible refine blockW_y (by decide) ?_|with_reducible refine vmL ?_|((with_reducible first|apply vmO|apply vmT);(case a=>simp;with_reducible first|exact .v|exact .c))|((with_reducible apply vmC);(case e=>simp;with_reducible first|exact .t|exact .f)))
      (with_reducible refine W_draw_id (pln := true) [0, 1, 2, 3, 4, 5, 6, 7, 8, 9, 10, 11, 12, 13, 14, 15, 16, 17] [(3, (3, [])), (8, (8, [])), (12, (12, []))] (by kernel_rfl) rfl ?_)
      repeat (first|with_reducible refine vmR ?_|with_reducible refine vmV rfl ?_|with_reducible refine vmW rfl ?_|with_reducible refine blockW_y (by decide) ?_|with_reducible refine vmL ?_|((with_reducible first|apply vmO|apply vmT);(case a=>simp [t0f, hrm, gr, ix, g1, l1, hcat, st1];with_reducible first|exact .v|exact .c))|((with_reducible apply vmC);(case e=>simp [t0f, hrm, gr, ix, g1, l1, hcat, st1];with_reducible first|exact .t|exact .f)))
      refine ⟨by simp [readSame, beqAV_self, hrm, gr]; done, _, by simp; first | done | rfl, ?_⟩
      repeat (first|with_reducible refine vmR ?_|with_reducible refine vmV rfl ?_|with_reducible refine vmW rfl ?_|with_reducible refine blockW_y (by decide) ?_|with_reducible refine vmL ?_|((with_reducible first|apply vmO|apply vmT);(case a=>simp;with_reducible first|exact .v|exact .c))|((with_reducible apply vmC);(case e=>simp;with_reducible first|exact .t|exact .f)))
      (first | apply endW_r | apply endW_n); (case h1 => (simp [Try.results33]; first | done | rfl))
      have k' : RS lo { hm.drew with obj := Mp.set hm.drew.obj o (.row (clsE encF (fs.set i { gt fs i with b := (gt fs i).b ++ b }) ++ J)) } 3 true ((fs.set i { gt fs i with b := (gt fs i).b ++ b }).map encF) fv := by
        rw [hfv]
        exact .inr ⟨o, cap, by simp, hlo, ⟨J, by rw [flatF]; simp, by simpa using jl⟩, by simpa using jc, ho⟩
      refine ⟨⟨_, rfl⟩, ⟨_, Max, L2, D2, fv, ⟨by simp [Ne.symm hro, hrm, hfv], k', dm.rn, dm.ln, dm.pol⟩, ⟨by simpa using w.many, fun f hf => ?_, w.max⟩⟩, ?_⟩
      · rcases List.mem_or_eq_of_mem_set hf with h | rfl
        · exact w.ok f h
        · have := w.ok _ hmem; simp only [List.length_append]; omega
      · exact ((RX.of xm).drew).set (o := o) (fun _ => .inr hlo) _
end Go.Vn
