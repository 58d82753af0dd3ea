/- What functions of the program come to, in the value machine (a part of the proof of the claim's statement). No condition. -/
import Derived.Test.YtpodlpemlkkojaaVnG7
set_option linter.unusedSimpArgs false
set_option linter.unusedVariables false
set_option maxRecDepth 20000
namespace Go.Vn
open Go.Proofs

theorem take_str {i : Nat} (s : List UInt8) (h : i < s.length) : sliceAV Try.prog 9 (.str s) none (some (.int .i64 (i : Int))) none = some (.str (s.take i)) := by
  have h1 : (i : Int) ≤ s.length := by omega
  simp [sliceAV, Try.underlying9, obound, bound, h1]

@[simp] theorem lenStr9 (s : List UInt8) : lenAV Try.prog 9 (.str s) = some (.int .i64 s.length) := by simp [lenAV, Try.underlying9]

def cutV (a : Ver) : Ver := { a with key := a.key.take 110, val := a.val.take 210 }

theorem cut_ans (a : Ver) (h0 : Hp Fm) : A Try.prog TT (.func 21) [encV a] h0 (fun r h' => r = encV (cutV a) ∧ HE h0 h') := by
  have n1 : h0.no ≠ h0.no + 1 := by omega
  have n2 : h0.no + 1 ≠ h0.no := by omega
  by_cases q1 : 110 < a.key.length
  · have j1 : (110 : Int) < a.key.length := by omega
    have s1 : sliceAV Try.prog 9 (.str a.key) none (some (.int .i64 110)) none = some (.str (a.key.take 110)) := take_str a.key q1
    by_cases q2 : 210 < a.val.length
    · have j2 : (210 : Int) < a.val.length := by omega
      have s2 : sliceAV Try.prog 9 (.str a.val) none (some (.int .i64 210)) none = some (.str (a.val.take 210)) := take_str a.val q2
      apply A_go Try.func21 rfl (by rfl); (case hn => (simp [Try.ntmps21]; rfl))
      repeat(first|with_reducible first|refine vmR ?_|refine vmV rfl ?_|refine vmW rfl ?_|refine vmL ?_|refine blockW_y (by decide) ?_|((with_reducible first|apply vmO|apply vmT|apply vmC);case a=>simp [q1, j1, s1, q2, j2, s2, n1, n2];with_reducible first|exact .v|exact .c|exact .t|exact .f))
      (first | apply endW_r | apply endW_n); (case h1 => (simp [Try.results21]; first | done | rfl))
      refine ⟨by simp [cutV], ?_⟩
      exact ⟨by show h0.no ≤ h0.no + 1 + 1; omega, Nat.le_refl _, rfl, fun q hq => by simp [Nat.ne_of_lt hq, Nat.ne_of_lt (Nat.lt_succ_of_lt hq)], fun _ _ => rfl⟩
    · have j2 : ¬ (210 : Int) < a.val.length := by omega
      have s2 : a.val.take 210 = a.val := List.take_of_length_le (by omega)
      apply A_go Try.func21 rfl (by rfl); (case hn => (simp [Try.ntmps21]; rfl))
      repeat(first|with_reducible first|refine vmR ?_|refine vmV rfl ?_|refine vmW rfl ?_|refine vmL ?_|refine blockW_y (by decide) ?_|((with_reducible first|apply vmO|apply vmT|apply vmC);case a=>simp [q1, j1, s1, q2, j2, n1, n2];with_reducible first|exact .v|exact .c|exact .t|exact .f))
      (first | apply endW_r | apply endW_n); (case h1 => (simp [Try.results21]; first | done | rfl))
      refine ⟨by simp [cutV, s2], ?_⟩
      exact ⟨by show h0.no ≤ h0.no + 1 + 1; omega, Nat.le_refl _, rfl, fun q hq => by simp [Nat.ne_of_lt hq, Nat.ne_of_lt (Nat.lt_succ_of_lt hq)], fun _ _ => rfl⟩
  · have j1 : ¬ (110 : Int) < a.key.length := by omega
    have s1 : a.key.take 110 = a.key := List.take_of_length_le (by omega)
    by_cases q2 : 210 < a.val.length
    · have j2 : (210 : Int) < a.val.length := by omega
      have s2 : sliceAV Try.prog 9 (.str a.val) none (some (.int .i64 210)) none = some (.str (a.val.take 210)) := take_str a.val q2
      apply A_go Try.func21 rfl (by rfl); (case hn => (simp [Try.ntmps21]; rfl))
      repeat(first|with_reducible first|refine vmR ?_|refine vmV rfl ?_|refine vmW rfl ?_|refine vmL ?_|refine blockW_y (by decide) ?_|((with_reducible first|apply vmO|apply vmT|apply vmC);case a=>simp [q1, j1, q2, j2, s2, n1, n2];with_reducible first|exact .v|exact .c|exact .t|exact .f))
      (first | apply endW_r | apply endW_n); (case h1 => (simp [Try.results21]; first | done | rfl))
      refine ⟨by simp [cutV, s1], ?_⟩
      exact ⟨by show h0.no ≤ h0.no + 1 + 1; omega, Nat.le_refl _, rfl, fun q hq => by simp [Nat.ne_of_lt hq, Nat.ne_of_lt (Nat.lt_succ_of_lt hq)], fun _ _ => rfl⟩
    · have j2 : ¬ (210 : Int) < a.val.length := by omega
      have s2 : a.val.take 210 = a.val := List.take_of_length_le (by omega)
      apply A_go Try.func21 rfl (by rfl); (case hn => (simp [Try.ntmps21]; rfl))
      repeat(first|with_reducible first|refine vmR ?_|refine vmV rfl ?_|refine vmW rfl ?_|refine vmL ?_|refine blockW_y (by decide) ?_|((with_reducible first|apply vmO|apply vmT|apply vmC);case a=>simp [q1, j1, q2, j2, n1, n2];with_reducible first|exact .v|exact .c|exact .t|exact .f))
      (first | apply endW_r | apply endW_n); (case h1 => (simp [Try.results21]; first | done | rfl))
      refine ⟨by simp [cutV, s1, s2], ?_⟩
      exact ⟨by show h0.no ≤ h0.no + 1 + 1; omega, Nat.le_refl _, rfl, fun q hq => by simp [Nat.ne_of_lt hq, Nat.ne_of_lt (Nat.lt_succ_of_lt hq)], fun _ _ => rfl⟩

theorem last_ans (path : List Lg) (vp : AV) (hvp : SV 2 (path.map encL) vp) (hl : path.length ≤ 1000000) (xs : List Ver) (v : AV) (hv : SL 8 (xs.map encV) v) (hxl : xs.length ≤ 20) (hne : 0 < (orderP path xs).length) (h0 : Hp Fm) :
    A Try.prog TT (.func 26) [v, vp] h0 (fun r h' => r = .agg [.int .i64 ((orderP path xs)[(orderP path xs).length - 1]'(by omega)).br, .int .i64 ((orderP path xs)[(orderP path xs).length - 1]'(by omega)).ep, .int .i64 ((orderP path xs)[(orderP path xs).length - 1]'(by omega)).sq] ∧ HE h0 h') := by
  apply A_go Try.func26 rfl (by rfl); (case hn => (simp [Try.ntmps26]; rfl))
  repeat(first|with_reducible first|refine vmR ?_|refine vmV rfl ?_|refine vmW rfl ?_|refine vmL ?_|refine blockW_y (by decide) ?_|((with_reducible first|apply vmO|apply vmT|apply vmC);case a=>simp;with_reducible first|exact .v|exact .c|exact .t|exact .f))
  refine A.mono (order_ans path vp hvp hl xs v hv hxl _) ?_
  rintro w h1 ⟨hw, hol, he1⟩
  obtain ⟨os, hos⟩ : ∃ os, os = orderP path xs := ⟨_, rfl⟩
  simp only [← hos] at hw hol hne ⊢
  have g4 : Mp.get h1.obj h0.no = some (.row [.int .i64 0, .int .i64 0, .int .i64 0]) := by rw [he1.obj _ (by show h0.no < h0.no + 1; omega)]; simp
  have lw := hw.sv.len Try.underlying22
  rw [List.length_map] at lw
  have nw := hw.sv.nm
  have wc := hw.sv.cells
  have wd := hw.sv.isCell
  obtain ⟨k, hk⟩ : ∃ k, k = os.length - 1 := ⟨_, rfl⟩
  have w1 : IntKind.i64.wrap ((os.length : Int) - 1) = (k : Int) := by rw [wrap64 (by omega) (by omega)]; omega
  have i1 := hw.sv.idx Try.underlying22 z39 (k := .i64) (i := (k : Nat)) (by omega) (by rw [List.length_map, Int.toNat_natCast]; omega)
  simp only [List.getElem_map, Int.toNat_natCast] at i1
  simp only [← hk]
  refine ⟨_, by simp; first | done | rfl, ?_⟩
  repeat(first|with_reducible first|refine vmR ?_|refine vmV rfl ?_|refine vmW rfl ?_|refine vmL ?_|refine blockW_y (by decide) ?_|((with_reducible first|apply vmO|apply vmT|apply vmC);case a=>simp [lw, nw, wc, wd, hne, w1, i1, g4];with_reducible first|exact .v|exact .c|exact .t|exact .f))
  (first | apply endW_r | apply endW_n); (case h1 => (simp [Try.results26, g4]; first | done | rfl))
  exact ⟨by simp, (((HE.refl h0).new _).trans he1).set (Nat.le_refl _) _⟩

theorem lcut_ans (l : List Ver) (a : AV) (hv : SV 8 (l.map encV) a) (path : List Lg) (b : AV) (hp : SV 2 (path.map encL) b) (h0 : Hp Fm) (hpol : ∀ e, h0.pol e = false) :
    A Try.prog TT (.func 7) [a, b] h0 (fun r h' => ∃ (xs : List Ver) (v : AV) (ps : List Lg) (vp : AV), r = .tup [v, vp] ∧ SL 8 (xs.map encV) v ∧ xs.length ≤ 20 ∧ SV 2 (ps.map encL) vp ∧ ps.length ≤ 5 ∧ HE h0 h') := by
  have l1 := hv.len Try.underlying22
  rw [List.length_map] at l1
  have n1 := hv.nm
  have l2 := hp.len Try.underlying23
  rw [List.length_map] at l2
  have n2 := hp.nm
  have bc := hp.cells
  have bd := hp.isCell
  obtain ⟨ps, vp, hvp, hpl, hcut⟩ : ∃ (ps : List Lg) (vp : AV), SV 2 (ps.map encL) vp ∧ ps.length ≤ 5 ∧ ((5 < path.length ∧ sliceAV Try.prog 23 b none (some (.int .i64 5)) none = some vp) ∨ (¬ 5 < path.length ∧ vp = b)) := by
    by_cases q : 5 < path.length
    · obtain ⟨r, s1, v1⟩ := hp.take Try.underlying23 z59 (k := .i64) (i := 5) (by omega) (by rw [List.length_map]; omega)
      exact ⟨path.take 5, r, by rw [List.map_take]; exact v1, by simp; omega, .inl ⟨q, s1⟩⟩
    · exact ⟨path, b, hp, by omega, .inr ⟨q, rfl⟩⟩
  have c3 := hvp.cells
  have d3 := hvp.isCell
  apply A_go Try.func7 rfl (by rfl); (case hn => (simp [Try.ntmps7]; rfl))
  repeat(first|with_reducible first|refine vmR ?_|refine vmV rfl ?_|refine vmW rfl ?_|refine vmL ?_|refine blockW_y (by decide) ?_|((with_reducible first|apply vmO|apply vmT|apply vmC);case a=>simp;with_reducible first|exact .v|exact .c|exact .t|exact .f))
  refine W_loop (fun m s => ∃ (t : Fm AV) (h : Hp Fm) (i : Nat) (xs : List Ver) (u : AV), s = ⟨t, 33, h, none⟩ ∧ m = 20 - i ∧ i ≤ 20 ∧ i ≤ l.length ∧ tget t 0 = a ∧ tget t 1 = b ∧ tget t 6 = u ∧ tget t 7 = .int .i64 i ∧ AC h0 h 8 (xs.map encV) u ∧ xs.length = i ∧ HE h0 h) 20
    ⟨_, _, 0, [], .nils, rfl, rfl, by omega, Nat.zero_le _, by simp, by simp, by simp, by simp, .inl ⟨rfl, rfl⟩, rfl, HE.refl _⟩ ?_
  rintro m s ⟨t, h, i, xs, u, rfl, rfl, hi20, hi, t0, t1, t6, t7, hu, hxl, he⟩
  have uc := hu.sv.cells
  have ud := hu.sv.isCell
  by_cases qi : i < l.length ∧ i < 20
  · obtain ⟨q1, q2⟩ := qi
    have qj : (i : Int) < 20 := by omega
    have i1 := hv.idx Try.underlying22 z39 (k := .i64) (i := i) (by simp) (by simpa using q1)
    simp only [List.getElem_map, Int.toNat_natCast] at i1
    have w1 : IntKind.i64.wrap ((i : Int) + 1) = ((i + 1 : Nat) : Int) := by rw [wrap64 (by omega) (by omega)]; simp
    repeat(first|with_reducible first|refine vmR ?_|refine vmV rfl ?_|refine vmW rfl ?_|refine vmL ?_|refine blockW_y (by decide) ?_|((with_reducible first|apply vmO|apply vmT|apply vmC);case a=>simp [t0, t1, t6, t7, q1, q2, qj, l1, n1, i1, uc, ud];with_reducible first|exact .v|exact .c|exact .t|exact .f))
    refine A.mono (cut_ans l[i] _) ?_
    rintro _ hh ⟨rfl, heh⟩
    have hph : hh.pol 39 = false := by rw [heh.pol, he.pol]; exact hpol _
    refine ⟨_, by simp; first | done | rfl, ?_⟩
    repeat(first|with_reducible first|refine vmR ?_|refine vmV rfl ?_|refine vmW rfl ?_|refine vmL ?_|refine blockW_y (by decide) ?_|((with_reducible first|apply vmO|apply vmT|apply vmC);case a=>simp [t0, t1, t6, t7, newSeq, newSl, hph, uc, ud];with_reducible first|exact .v|exact .c|exact .t|exact .f))
    with_reducible apply WO_app_i; (case hw => (simp [t0, t1, t6, t7, newSeq, newSl, hph, uc, ud]; done)); (case ho => rfl); (case hb => rfl); (case ha => (simp [t0, t1, t6, t7, newSeq, newSl, hph, uc, ud]; first | done | exact ⟨rfl, rfl⟩ | rfl)); (case h1 => (simp; first | done | rfl)); (case h2 => (simp; first | done | rfl))
    refine app_then (AC.app (h0 := h0) etv (hu.of (heh.newSl 1)) ((he.trans heh).newSl 1) (hpol _) (by simp; omega)) ?_
    rintro x4 h4 ⟨ac4, he4, _, _, _⟩
    have e4 := ac4.sv.cells
    have f4 := ac4.sv.isCell
    refine ⟨_, by simp; first | done | rfl, ?_⟩
    repeat(first|with_reducible first|refine vmR ?_|refine vmV rfl ?_|refine vmW rfl ?_|refine vmL ?_|refine blockW_y (by decide) ?_|((with_reducible first|apply vmO|apply vmT|apply vmC);case a=>simp [t0, t1, t6, t7, e4, f4, w1];with_reducible first|exact .v|exact .c|exact .t|exact .f))
    refine ⟨_, ?_, _, _, i + 1, xs ++ [cutV l[i]], _, rfl, rfl, by omega, by omega, by simp [t0], by simp [t1], rfl, by simp, ?_, by simp [hxl], he4⟩
    · omega
    · simpa using ac4
  · have hend : i = l.length ∨ i = 20 := by omega
    rcases hcut with ⟨q, s1⟩ | ⟨q, rfl⟩
    · have qx : (5 : Int) < path.length := by omega
      by_cases q1 : i < l.length
      · have q2 : ¬ ((i : Int) < 20) := by omega
        have q3 : ¬ (i < 20) := by omega
        repeat(first|with_reducible first|refine vmR ?_|refine vmV rfl ?_|refine vmW rfl ?_|refine vmL ?_|refine blockW_y (by decide) ?_|((with_reducible first|apply vmO|apply vmT|apply vmC);case a=>simp [t0, t1, t6, t7, q1, q2, q3, l1, n1, l2, n2, q, qx, s1, uc, ud, bc, bd, c3, d3];with_reducible first|exact .v|exact .c|exact .t|exact .f))
        (first | apply endW_r | apply endW_n); (case h1 => (simp [Try.results7]; first | done | rfl))
        exact ⟨xs, u, ps, _, by simp [t1, t6], hu.sl, by omega, hvp, hpl, he⟩
      · repeat(first|with_reducible first|refine vmR ?_|refine vmV rfl ?_|refine vmW rfl ?_|refine vmL ?_|refine blockW_y (by decide) ?_|((with_reducible first|apply vmO|apply vmT|apply vmC);case a=>simp [t0, t1, t6, t7, q1, l1, n1, l2, n2, q, qx, s1, uc, ud, bc, bd, c3, d3];with_reducible first|exact .v|exact .c|exact .t|exact .f))
        (first | apply endW_r | apply endW_n); (case h1 => (simp [Try.results7]; first | done | rfl))
        exact ⟨xs, u, ps, _, by simp [t1, t6], hu.sl, by omega, hvp, hpl, he⟩
    · have qx : ¬ (5 : Int) < path.length := by omega
      by_cases q1 : i < l.length
      · have q2 : ¬ ((i : Int) < 20) := by omega
        have q3 : ¬ (i < 20) := by omega
        repeat(first|with_reducible first|refine vmR ?_|refine vmV rfl ?_|refine vmW rfl ?_|refine vmL ?_|refine blockW_y (by decide) ?_|((with_reducible first|apply vmO|apply vmT|apply vmC);case a=>simp [t0, t1, t6, t7, q1, q2, q3, l1, n1, l2, n2, q, qx, uc, ud, bc, bd, c3, d3];with_reducible first|exact .v|exact .c|exact .t|exact .f))
        (first | apply endW_r | apply endW_n); (case h1 => (simp [Try.results7]; first | done | rfl))
        exact ⟨xs, u, ps, _, by simp [t1, t6], hu.sl, by omega, hvp, hpl, he⟩
      · repeat(first|with_reducible first|refine vmR ?_|refine vmV rfl ?_|refine vmW rfl ?_|refine vmL ?_|refine blockW_y (by decide) ?_|((with_reducible first|apply vmO|apply vmT|apply vmC);case a=>simp [t0, t1, t6, t7, q1, l1, n1, l2, n2, q, qx, uc, ud, bc, bd, c3, d3];with_reducible first|exact .v|exact .c|exact .t|exact .f))
        (first | apply endW_r | apply endW_n); (case h1 => (simp [Try.results7]; first | done | rfl))
        exact ⟨xs, u, ps, _, by simp [t1, t6], hu.sl, by omega, hvp, hpl, he⟩
end Go.Vn

set_option maxRecDepth 20000
namespace Go.Vn
open Go.Proofs

def lv1 : Ver := ⟨[], 0, 1, 1, 0, 9, [120], false⟩
def lv2 : Ver := ⟨[], 0, 2, 1, 3, 5, [], true⟩
def lpa : List Lg := [⟨0, 2⟩]
theorem lord : orderP lpa [lv1, lv2] = [lv1, lv2] := by
  refine (orderP_is (ys := [lv1, lv2]) ?_ (fun x => ?_)).symm
  · refine ⟨?_, ?_, trivial⟩
    · intro b hb; rw [List.mem_singleton.mp hb]; decide
    · intro b hb; cases hb
  · rfl
theorem lget : getF [lv1, lv2] 6 = some [120] := by decide
theorem lst : leastP (stF [lv1, lv2]) = [⟨0, 3, [120]⟩, ⟨5, 9, [120]⟩] := by decide

theorem lives_ans (h0 : Hp Fm) (hpol : ∀ e, h0.pol e = false) : A Try.prog TT (.func 10) [] h0 (fun r h' => r = .bool true ∧ HE h0 h') := by
  have p1 := hpol 39
  have p2 := hpol 59
  apply A_go Try.func10 rfl (by rfl); (case hn => (simp [Try.ntmps10]; rfl))
  repeat(first|with_reducible first|refine vmR ?_|refine vmV rfl ?_|refine vmW rfl ?_|refine vmL ?_|refine blockW_y (by decide) ?_|((with_reducible first|apply vmO|apply vmT|apply vmC);case a=>simp [newSeq, newSl, p1, p2];with_reducible first|exact .v|exact .c|exact .t|exact .f))
  obtain ⟨hs, hhs⟩ : ∃ hs : Hp Fm, hs = { h0 with len := Mp.set (Mp.set h0.len h0.ng 2) (h0.ng + 1) 1, ng := h0.ng + 1 + 1 } := ⟨_, rfl⟩
  have e0 : HE h0 hs := by rw [hhs]; exact ((HE.refl h0).newSl 2).newSl 1
  rw [← hhs]
  have sp : SV 2 (lpa.map encL) (.sl (h0.ng + 1) 0 2 1 [encL ⟨0, 2⟩]) := .inr (.inl ⟨_, _, _, rfl⟩)
  have sl : SL 8 ([lv1, lv2].map encV) (.sl h0.ng 0 8 2 [encV lv1, encV lv2]) := .inr ⟨_, _, _, rfl⟩
  have A1 := get_ans lpa _ sp (by decide) [lv1, lv2] _ sl (by decide) 6 hs
  rw [lord, lget] at A1
  refine A.mono A1 ?_
  rintro _ h1 ⟨rfl, e1⟩
  refine ⟨_, by simp [outG]; first | done | rfl, ?_⟩
  repeat(first|with_reducible first|refine vmR ?_|refine vmV rfl ?_|refine vmW rfl ?_|refine vmL ?_|refine blockW_y (by decide) ?_|((with_reducible first|apply vmO|apply vmT|apply vmC);case a=>simp [outG];with_reducible first|exact .v|exact .c|exact .t|exact .f))
  have A2 := state_ans lpa _ sp (by decide) [lv1, lv2] _ sl (by decide) h1 (fun e => by rw [e1.pol, e0.pol]; exact hpol e)
  rw [lord, lst] at A2
  refine A.mono A2 ?_
  rintro w h2 ⟨hw, e2⟩
  have lw := hw.sv.len Try.underlying26
  have nw := hw.sv.nm
  simp at lw
  have eb : eqB [120] [120] = true := by decide
  have A3 := last_ans lpa _ sp (by decide) [lv1, lv2] _ sl (by decide) (by rw [lord]; decide) h2
  simp only [lord] at A3
  refine ⟨_, by simp; first | done | rfl, ?_⟩
  repeat(first|with_reducible first|refine vmR ?_|refine vmV rfl ?_|refine vmW rfl ?_|refine vmL ?_|refine blockW_y (by decide) ?_|((with_reducible first|apply vmO|apply vmT|apply vmC);case a=>simp [lw, nw, eb];with_reducible first|exact .v|exact .c|exact .t|exact .f))
  refine A.mono A3 ?_
  rintro _ h3 ⟨rfl, e3⟩
  refine ⟨_, by simp; first | done | rfl, ?_⟩
  have et := eqlT 18 0 2 1 0 2 1
  simp only [Nat.reduceAdd] at et
  repeat(first|with_reducible first|refine vmR ?_|refine vmV rfl ?_|refine vmW rfl ?_|refine vmL ?_|refine blockW_y (by decide) ?_|((with_reducible first|apply vmO|apply vmT|apply vmC);case a=>simp [lv2, et];with_reducible first|exact .v|exact .c|exact .t|exact .f))
  (first | apply endW_r | apply endW_n); (case h1 => (simp [Try.results10]; first | done | rfl))
  exact ⟨by simp, ((e0.trans e1).trans e2).trans e3⟩
end Go.Vn
