/- What functions of the program come to, in the value machine (a part of the proof of the claim's statement). No condition. -/
import Derived.Test.YtihkcenkpkepiaaGreatVnJ1
set_option linter.unusedSimpArgs false
set_option linter.unusedVariables false
set_option maxRecDepth 20000
namespace Go.Vn
open Go.Proofs

theorem sl_c {v : AV} {b : List UInt8} (k : SV 1 (b.map byteAV) v) (i j : Nat) (hi : i ≤ j) (hj : j ≤ b.length) : ∃ r, sliceAV Tryz.prog 22 v (some (.int .i64 (i : Int))) (some (.int .i64 (j : Int))) none = some r ∧ SV 1 (((b.drop i).take (j - i)).map byteAV) r := by
  by_cases h0 : 0 < b.length
  · exact sl_b k i j hi hj h0
  · have hb : b = [] := List.length_eq_zero_iff.mp (by omega)
    subst hb
    have ej : j = 0 := by simpa using hj
    have ei : i = 0 := by omega
    subst ej ei
    rcases k with ⟨rfl, e⟩ | ⟨g, off, cp, rfl⟩ | ⟨c, rfl, e⟩
    · exact ⟨.nils, by simp [sliceAV, Tryz.underlying22, obound, bound], .inl ⟨rfl, by simp⟩⟩
    · exact ⟨.sl g off 1 cp [], by simp [sliceAV, Tryz.underlying22, obound, bound], .inr (.inl ⟨g, off, cp, by simp⟩)⟩
    · exact ⟨.esl c, by simp [sliceAV, Tryz.underlying22, obound, bound], .inr (.inr ⟨c, rfl, by simp⟩)⟩

theorem r2rest_ans (q : Nat) (b0 : List UInt8) (bv : AV) (sv : SV 1 (b0.map byteAV) bv) (hl : b0.length ≤ 16777216) (s : RdS) (h0 : Hp Fm) (k : Rd2 h0 q b0 bv s) :
    A Tryz.prog TT (.func 88) [.ptr q 0] h0 (fun r h' => r = .int .i64 (restOf s) ∧ HE h0 h') := by
  have c1 := sv.cells
  have i1 := sv.isCell
  have n1 := sv.nm
  have l1 := sv.len Tryz.underlying22
  rw [List.length_map] at l1
  obtain ⟨i, hi, k⟩ := k
  cases s with
  | error e =>
    obtain ⟨g, ne⟩ := k
    apply A_go Tryz.func88 rfl (by rfl); (case hn => (simp [Tryz.ntmps88]; rfl))
    repeat(first|with_reducible first|refine vmR ?_|refine vmV rfl ?_|refine vmW rfl ?_|refine vmL ?_|refine blockW_y (by decide) ?_|((with_reducible first|apply vmO|apply vmT|apply vmC);case a=>simp [g, ne];with_reducible first|exact .v|exact .c|exact .t|exact .f))
    (first | apply endW_r | apply endW_n); (case h1 => (simp [Tryz.results88]; first | done | rfl))
    exact ⟨rfl, HE.refl h0⟩
  | ok cur =>
    obtain ⟨g, hcur⟩ := k
    have cl : cur.length = b0.length - i := by rw [hcur, List.length_drop]
    obtain ⟨d, hd⟩ : ∃ d, d = b0.length - i := ⟨_, rfl⟩
    have w1 : IntKind.i64.wrap ((b0.length : Int) - (i : Int)) = (d : Int) := by rw [wrap64 (by omega) (by omega)]; omega
    apply A_go Tryz.func88 rfl (by rfl); (case hn => (simp [Tryz.ntmps88]; rfl))
    repeat(first|with_reducible first|refine vmR ?_|refine vmV rfl ?_|refine vmW rfl ?_|refine vmL ?_|refine blockW_y (by decide) ?_|((with_reducible first|apply vmO|apply vmT|apply vmC);case a=>simp [g];with_reducible first|exact .v|exact .c|exact .t|exact .f))
    (with_reducible refine W_draw_id (pln := true) [0, 1, 2, 3, 4, 5, 6, 7, 8, 9, 10] [(3, (3, [])), (8, (8, []))] (by kernel_rfl) rfl ?_)
    repeat(first|with_reducible first|refine vmR ?_|refine vmV rfl ?_|refine vmW rfl ?_|refine vmL ?_|refine blockW_y (by decide) ?_|((with_reducible first|apply vmO|apply vmT|apply vmC);case a=>simp [g, c1, i1, n1, l1, w1];with_reducible first|exact .v|exact .c|exact .t|exact .f))
    refine ⟨by simp [readSame, beqAV_self, g]; done, _, by simp; first | done | rfl, ?_⟩
    repeat(first|with_reducible first|refine vmR ?_|refine vmV rfl ?_|refine vmW rfl ?_|refine vmL ?_|refine blockW_y (by decide) ?_|((with_reducible first|apply vmO|apply vmT|apply vmC);case a=>simp;with_reducible first|exact .v|exact .c|exact .t|exact .f))
    (first | apply endW_r | apply endW_n); (case h1 => (simp [Tryz.results88]; first | done | rfl))
    exact ⟨by simp [restOf, cl, hd], (HE.refl h0).drew⟩

set_option maxHeartbeats 2000000 in
theorem r2text_ans (q most : Nat) (hm : most ≤ 1000000) (b0 : List UInt8) (bv : AV) (sv : SV 1 (b0.map byteAV) bv) (hl : b0.length ≤ 16777216) (s : RdS) (h0 : Hp Fm) (k : Rd2 h0 q b0 bv s) (qn : q < h0.no) (hp : ∀ z, h0.pol z = false) :
    A Tryz.prog TT (.func 100) [.ptr q 0, .int .i64 most] h0 (fun r h' => r = .str (textX most s).1 ∧ Rd2 h' q b0 bv (textX most s).2 ∧ HX (fun o => o = q) (fun _ => False) h0 h') := by
  have c1 := sv.cells
  have i1 := sv.isCell
  have n1 := sv.nm
  have l1 := sv.len Tryz.underlying22
  rw [List.length_map] at l1
  unfold textX
  have nl := numX_lt s
  apply A_go Tryz.func100 rfl (by rfl); (case hn => (simp [Tryz.ntmps100]; rfl))
  repeat(first|with_reducible first|refine vmR ?_|refine vmV rfl ?_|refine vmW rfl ?_|refine vmL ?_|refine blockW_y (by decide) ?_|((with_reducible first|apply vmO|apply vmT|apply vmC);case a=>simp;with_reducible first|exact .v|exact .c|exact .t|exact .f))
  refine A.mono (r2num_ans q b0 bv sv hl s h0 k qn hp) ?_
  rintro _ h1 ⟨rfl, k1, x1⟩
  obtain ⟨n, hnn⟩ : ∃ n, n = (numX s).1 := ⟨_, rfl⟩
  rw [← hnn] at nl ⊢
  obtain ⟨i, hi, k1⟩ := k1
  cases hs : (numX s).2 with
  | error e =>
    rw [hs] at k1
    obtain ⟨g, ne⟩ := k1
    refine ⟨_, by simp; first | done | rfl, ?_⟩
    repeat(first|with_reducible first|refine vmR ?_|refine vmV rfl ?_|refine vmW rfl ?_|refine vmL ?_|refine blockW_y (by decide) ?_|((with_reducible first|apply vmO|apply vmT|apply vmC);case a=>simp [g, ne];with_reducible first|exact .v|exact .c|exact .t|exact .f))
    (first | apply endW_r | apply endW_n); (case h1 => (simp [Tryz.results100]; first | done | rfl))
    exact ⟨by simp, ⟨i, hi, g, ne⟩, x1⟩
  | ok cur =>
    rw [hs] at k1
    obtain ⟨g, hcur⟩ := k1
    have cl : cur.length = b0.length - i := by rw [hcur, List.length_drop]
    refine ⟨_, by simp; first | done | rfl, ?_⟩
    simp only
    by_cases q1 : most < n
    · have q1' : (most : Int) < n := by omega
      rw [if_pos q1]
      repeat(first|with_reducible first|refine vmR ?_|refine vmV rfl ?_|refine vmW rfl ?_|refine vmL ?_|refine blockW_y (by decide) ?_|((with_reducible first|apply vmO|apply vmT|apply vmC);case a=>simp [g, q1, q1'];with_reducible first|exact .v|exact .c|exact .t|exact .f))
      refine A.mono (r2fail_ans q bv i 5 h1 g) ?_
      rintro r h2 ⟨g2, x2⟩
      refine ⟨_, by simp; first | done | rfl, ?_⟩
      repeat(first|with_reducible first|refine vmR ?_|refine vmV rfl ?_|refine vmW rfl ?_|refine vmL ?_|refine blockW_y (by decide) ?_|((with_reducible first|apply vmO|apply vmT|apply vmC);case a=>simp;with_reducible first|exact .v|exact .c|exact .t|exact .f))
      (first | apply endW_r | apply endW_n); (case h1 => (simp [Tryz.results100]; first | done | rfl))
      exact ⟨by simp, ⟨i, hi, g2, by decide⟩, x1.trans x2⟩
    have q1' : ¬ (most : Int) < n := by omega
    rw [if_neg q1]
    obtain ⟨d, hd⟩ : ∃ d, d = b0.length - i := ⟨_, rfl⟩
    have w1 : IntKind.i64.wrap ((b0.length : Int) - (i : Int)) = (d : Int) := by rw [wrap64 (by omega) (by omega)]; omega
    by_cases q2 : d < n
    · have q2' : (d : Int) < n := by omega
      rw [if_pos (by omega)]
      repeat(first|with_reducible first|refine vmR ?_|refine vmV rfl ?_|refine vmW rfl ?_|refine vmL ?_|refine blockW_y (by decide) ?_|((with_reducible first|apply vmO|apply vmT|apply vmC);case a=>simp [g, q1, q1'];with_reducible first|exact .v|exact .c|exact .t|exact .f))
      (with_reducible refine W_draw_id (pln := true) [0, 1, 2, 3, 4, 5, 6, 7, 8, 9, 10, 11] [(4, (4, [])), (9, (9, []))] (by kernel_rfl) rfl ?_)
      repeat(first|with_reducible first|refine vmR ?_|refine vmV rfl ?_|refine vmW rfl ?_|refine vmL ?_|refine blockW_y (by decide) ?_|((with_reducible first|apply vmO|apply vmT|apply vmC);case a=>simp [g, c1, i1, n1, l1, w1, q2, q2'];with_reducible first|exact .v|exact .c|exact .t|exact .f))
      refine ⟨by simp [readSame, beqAV_self, g]; done, _, by simp; first | done | rfl, ?_⟩
      repeat(first|with_reducible first|refine vmR ?_|refine vmV rfl ?_|refine vmW rfl ?_|refine vmL ?_|refine blockW_y (by decide) ?_|((with_reducible first|apply vmO|apply vmT|apply vmC);case a=>simp;with_reducible first|exact .v|exact .c|exact .t|exact .f))
      refine A.mono (r2fail_ans q bv i 3 h1.drew g) ?_
      rintro r h2 ⟨g2, x2⟩
      refine ⟨_, by simp; first | done | rfl, ?_⟩
      repeat(first|with_reducible first|refine vmR ?_|refine vmV rfl ?_|refine vmW rfl ?_|refine vmL ?_|refine blockW_y (by decide) ?_|((with_reducible first|apply vmO|apply vmT|apply vmC);case a=>simp;with_reducible first|exact .v|exact .c|exact .t|exact .f))
      (first | apply endW_r | apply endW_n); (case h1 => (simp [Tryz.results100]; first | done | rfl))
      exact ⟨by simp, ⟨i, hi, g2, by decide⟩, x1.drew.trans x2⟩
    have q2' : ¬ (d : Int) < n := by omega
    rw [if_neg (by omega)]
    obtain ⟨j, hj⟩ : ∃ j, j = i + n := ⟨_, rfl⟩
    have wj : IntKind.i64.wrap ((i : Int) + (n : Int)) = (j : Int) := by rw [wrap64 (by omega) (by omega)]; omega
    obtain ⟨r1, s1, sv1⟩ := sl_c sv i j (by omega) (by omega)
    rw [show j - i = n by omega, ← hcur] at sv1
    have d1 := sv1.cells
    have j1 := sv1.isCell
    have cv := fun h => conv_txt h sv1
    repeat(first|with_reducible first|refine vmR ?_|refine vmV rfl ?_|refine vmW rfl ?_|refine vmL ?_|refine blockW_y (by decide) ?_|((with_reducible first|apply vmO|apply vmT|apply vmC);case a=>simp [g, q1, q1'];with_reducible first|exact .v|exact .c|exact .t|exact .f))
    (with_reducible refine W_draw_id (pln := true) [0, 1, 2, 3, 4, 5, 6, 7, 8, 9, 10, 11] [(4, (4, [])), (9, (9, []))] (by kernel_rfl) rfl ?_)
    repeat(first|with_reducible first|refine vmR ?_|refine vmV rfl ?_|refine vmW rfl ?_|refine vmL ?_|refine blockW_y (by decide) ?_|((with_reducible first|apply vmO|apply vmT|apply vmC);case a=>simp [g, c1, i1, n1, l1, w1, q2, q2'];with_reducible first|exact .v|exact .c|exact .t|exact .f))
    refine ⟨by simp [readSame, beqAV_self, g]; done, _, by simp; first | done | rfl, ?_⟩
    repeat(first|with_reducible first|refine vmR ?_|refine vmV rfl ?_|refine vmW rfl ?_|refine vmL ?_|refine blockW_y (by decide) ?_|((with_reducible first|apply vmO|apply vmT|apply vmC);case a=>simp;with_reducible first|exact .v|exact .c|exact .t|exact .f))
    (with_reducible refine W_draw_id (pln := true) [0, 1, 2, 3, 4, 5, 6, 7, 8, 9, 10, 11, 12, 13, 14, 15, 16] [(3, (3, [])), (7, (7, [])), (11, (11, [])), (15, (15, []))] (by kernel_rfl) rfl ?_)
    repeat(first|with_reducible first|refine vmR ?_|refine vmV rfl ?_|refine vmW rfl ?_|refine vmL ?_|refine blockW_y (by decide) ?_|((with_reducible first|apply vmO|apply vmT|apply vmC);case a=>simp [g, c1, i1, wj, s1, d1, j1, cv];with_reducible first|exact .v|exact .c|exact .t|exact .f))
    refine ⟨by simp [readSame, beqAV_self, g, wj, cv]; done, _, by simp; first | done | rfl, ?_⟩
    repeat(first|with_reducible first|refine vmR ?_|refine vmV rfl ?_|refine vmW rfl ?_|refine vmL ?_|refine blockW_y (by decide) ?_|((with_reducible first|apply vmO|apply vmT|apply vmC);case a=>simp [g, wj];with_reducible first|exact .v|exact .c|exact .t|exact .f))
    (first | apply endW_r | apply endW_n); (case h1 => (simp [Tryz.results100]; first | done | rfl))
    refine ⟨by simp, ⟨j, by omega, by simp, ?_⟩, (x1.drew.drew).set (fun _ => rfl) _⟩
    rw [hcur, List.drop_drop, hj]

def nums : Nat → RdS → List Nat × RdS
  | 0, s => ([], s)
  | k + 1, s => ((nums k s).1 ++ [(numX (nums k s).2).1], (numX (nums k s).2).2)
theorem nums_len : ∀ (k : Nat) (s : RdS), (nums k s).1.length = k
  | 0, _ => rfl
  | k + 1, s => by simp [nums, nums_len k s]
theorem etI : ElT Tryz.prog 118 3 1 8 false (.int .i64 0) := ⟨Tryz.underlying118, z3, b3, a3, t3, rfl, rfl, fun _ => rfl, by omega, by omega⟩
def natAV (n : Nat) : AV := .int .i64 n

theorem AC.appNX {P : Program} {t e sz by_ : Nat} {ag : Bool} {z : AV} (et : ElT P t e sz by_ ag z) {S : Nat → Prop} {h0 h : Hp Fm} {acc new : List AV} {v x : AV}
    (k : AC h0 h sz acc v) (he : HX S (fun _ => False) h0 h) (hp : h0.pol e = false) (hx : newEls h sz ag x = some new) (hl : (acc.length + new.length) * by_ ≤ 2 ^ 40) :
    ∃ r h', appendAV P h t t v x = some (r, h') ∧ (AC h0 h' sz (acc ++ new) r ∧ HX S (fun _ => False) h0 h' ∧ h'.obj = h.obj ∧ h'.no = h.no) := by
  have hB : HE { h with ng := h0.ng } h := ⟨Nat.le_refl _, he.ng, rfl, fun _ _ => rfl, fun _ _ => rfl⟩
  obtain ⟨r, h', e1, a, x', ho, hn, hg⟩ := AC.appN et (h0 := { h with ng := h0.ng }) k hB (by show h.pol e = false; rw [he.pol]; exact hp) hx hl
  exact ⟨r, h', e1, a, ⟨by rw [hn]; exact he.no, Nat.le_trans he.ng hg, x'.pol.trans he.pol, fun o ho' hs => by rw [ho]; exact he.obj o ho' hs, fun g hg' hs => (x'.len g hg').trans (he.len g hg' hs)⟩, ho, hn⟩

set_option maxHeartbeats 8000000 in
theorem take6_ans (q : Nat) (b0 : List UInt8) (bv : AV) (sv : SV 1 (b0.map byteAV) bv) (hl : b0.length ≤ 16777216) (s : RdS) (h0 : Hp Fm) (k : Rd2 h0 q b0 bv s) (hn : q < h0.no) (hp : ∀ z, h0.pol z = false) :
    A Tryz.prog TT (.func 87) [.ptr q 0] h0 (fun r h' => VerR (verX s).1 r ∧ Rd2 h' q b0 bv (verX s).2 ∧ HX (fun o => o = q) (fun _ => False) h0 h') := by
  have qn0 : q ≠ h0.no := by omega
  obtain ⟨hz, hhz⟩ : ∃ hz : Hp Fm, hz = { h0 with obj := Mp.set h0.obj h0.no (.row (vrow [] 0 0 0 0 0 [] false)), no := h0.no + 1 } := ⟨_, rfl⟩
  have xz : HX (fun o => o = q) (fun _ => False) h0 hz := by rw [hhz]; exact (HX.refl (fun o => o = q) (fun _ => False) h0).new _
  have gz : Mp.get hz.obj h0.no = some (.row (vrow [] 0 0 0 0 0 [] false)) := by rw [hhz]; simp
  have kz : Rd2 hz q b0 bv s := k.of (by rw [hhz]; simp [qn0])
  have nz : q < hz.no := by rw [hhz]; show q < h0.no + 1; omega
  have nz0 : h0.no < hz.no := by rw [hhz]; show h0.no < h0.no + 1; omega
  simp only [vrow] at hhz gz
  apply A_go Tryz.func87 rfl (by rfl); (case hn => (simp [Tryz.ntmps87]; rfl))
  repeat(first|with_reducible first|refine vmR ?_|refine vmV rfl ?_|refine vmW rfl ?_|refine vmL ?_|refine blockW_y (by decide) ?_|((with_reducible first|apply vmO|apply vmT|apply vmC);case a=>simp;with_reducible first|exact .v|exact .c|exact .t|exact .f))
  rw [← hhz]
  clear hhz
  refine W.mono (R := fun e st => e = .exit 0 ∧ ∃ (t : Fm AV) (h : Hp Fm) (u : AV), st = ⟨t, 71, h, none⟩ ∧ tget t 0 = .ptr q 0 ∧ tget t 2 = .ptr h0.no 0 ∧ tget t 4 = u ∧ SV 1 ((nums 6 s).1.map natAV) u ∧ Rd2 h q b0 bv (nums 6 s).2 ∧ HX (fun o => o = q) (fun _ => False) h0 h ∧ Mp.get h.obj h0.no = some (.row [.str [], .int .i64 0, .int .i64 0, .int .i64 0, .int .i64 0, .int .i64 0, .str [], .bool false]) ∧ h0.no < h.no ∧ q < h.no) ?_ ?_
  · refine W_loop (fun m st => ∃ (t : Fm AV) (h : Hp Fm) (j : Nat) (u : AV), st = ⟨t, 71, h, none⟩ ∧ m = 6 - j ∧ j ≤ 6 ∧ tget t 0 = .ptr q 0 ∧ tget t 2 = .ptr h0.no 0 ∧ tget t 4 = u ∧ tget t 5 = .int .i64 j ∧ AC h0 h 1 ((nums j s).1.map natAV) u ∧ Rd2 h q b0 bv (nums j s).2 ∧ HX (fun o => o = q) (fun _ => False) h0 h ∧ Mp.get h.obj h0.no = some (.row [.str [], .int .i64 0, .int .i64 0, .int .i64 0, .int .i64 0, .int .i64 0, .str [], .bool false]) ∧ h0.no < h.no ∧ q < h.no) 6
      ⟨_, _, 0, .nils, rfl, rfl, by omega, by simp, by simp, by simp, by simp, .inl ⟨rfl, rfl⟩, kz, xz, gz, nz0, nz⟩ ?_
    rintro m st ⟨t, h, j, u, rfl, rfl, hj, t0, t2, t4, t5, hu, kj, x, gz, nz0, nz⟩
    have uc := hu.sv.cells
    have ui := hu.sv.isCell
    by_cases qj : j < 6
    case neg =>
      have ej : j = 6 := by omega
      subst ej
      repeat(first|with_reducible first|refine vmR ?_|refine vmV rfl ?_|refine vmW rfl ?_|refine vmL ?_|refine blockW_y (by decide) ?_|((with_reducible first|apply vmO|apply vmT|apply vmC);case a=>simp [t5];with_reducible first|exact .v|exact .c|exact .t|exact .f))
      exact ⟨rfl, _, _, u, rfl, by simp [t0], by simp [t2], by simp [t4], hu.sv, kj, x, gz, nz0, nz⟩
    have qj' : (j : Int) < 6 := by omega
    have wj : IntKind.i64.wrap ((j : Int) + 1) = ((j + 1 : Nat) : Int) := by rw [wrap64 (by omega) (by omega)]; omega
    have pj : ∀ z, h.pol z = false := fun z => by rw [x.pol]; exact hp z
    have nl := nums_len j s
    repeat(first|with_reducible first|refine vmR ?_|refine vmV rfl ?_|refine vmW rfl ?_|refine vmL ?_|refine blockW_y (by decide) ?_|((with_reducible first|apply vmO|apply vmT|apply vmC);case a=>simp [t0, t4, t5, qj, qj', uc, ui];with_reducible first|exact .v|exact .c|exact .t|exact .f))
    refine A.mono (r2num_ans q b0 bv sv hl (nums j s).2 h kj nz pj) ?_
    rintro _ h2 ⟨rfl, k2, x2⟩
    obtain ⟨n, hnn⟩ : ∃ n, n = (numX (nums j s).2).1 := ⟨_, rfl⟩
    have x02 := x.trans x2
    have p2 : ∀ z, h2.pol z = false := fun z => by rw [x02.pol]; exact hp z
    have gz2 := (x2.obj _ nz0 (Ne.symm qn0)).trans gz
    have hu2 := AC.ofX hu x2
    rw [← hnn]
    refine ⟨_, by simp; first | done | rfl, ?_⟩
    repeat(first|with_reducible first|refine vmR ?_|refine vmV rfl ?_|refine vmW rfl ?_|refine vmL ?_|refine blockW_y (by decide) ?_|((with_reducible first|apply vmO|apply vmT|apply vmC);case a=>simp [uc, ui, newSeq, newSl, p2];with_reducible first|exact .v|exact .c|exact .t|exact .f))
    with_reducible apply WO_app_i; (case hw => (simp [uc, ui, newSeq, newSl, p2]; done)); (case ho => rfl); (case hb => rfl); (case ha => (simp [uc, ui, newSeq, newSl, p2]; first | done | exact ⟨rfl, rfl⟩ | rfl)); (case h1 => (simp; first | done | rfl)); (case h2 => (simp; first | done | rfl))
    have en1 := (HE.refl h2).newSl 1
    refine app_then (AC.appNX (S := fun o => o = q) etI (hu2.of en1) (x02.trans (en1.x _ _)) (hp _) (new := [.int .i64 n]) (SV.newEls (.inr (.inl ⟨_, _, _, rfl⟩))) (by simp; omega)) ?_
    rintro x4 h4 ⟨ac4, hx4, ho4, hn4⟩
    have e4 := ac4.sv.cells
    have f4 := ac4.sv.isCell
    have n2 := Nat.lt_of_lt_of_le nz x2.no
    refine ⟨_, by simp; first | done | rfl, ?_⟩
    repeat(first|with_reducible first|refine vmR ?_|refine vmV rfl ?_|refine vmW rfl ?_|refine vmL ?_|refine blockW_y (by decide) ?_|((with_reducible first|apply vmO|apply vmT|apply vmC);case a=>simp [t5, e4, f4, wj];with_reducible first|exact .v|exact .c|exact .t|exact .f))
    refine ⟨6 - (j + 1), by omega, _, h4, j + 1, x4, rfl, rfl, by omega, by simp [t0], by simp [t2], by simp, by simp, ?_, k2.of (by rw [ho4]), hx4, by rw [ho4]; exact gz2, ?_, ?_⟩
    · have : (nums (j + 1) s).1.map natAV = (nums j s).1.map natAV ++ [.int .i64 n] := by simp [nums, natAV, hnn]
      rw [this]; exact ac4
    · rw [hn4]; exact Nat.lt_of_lt_of_le nz0 x2.no
    · rw [hn4]; exact n2
  rintro _ _ ⟨rfl, t, h, u, rfl, t0, t2, t4, su, k6, x6, g6z, zn6, n6⟩
  obtain ⟨a, ha⟩ : ∃ a, a = numX s := ⟨_, rfl⟩
  obtain ⟨b, hb⟩ : ∃ b, b = numX a.2 := ⟨_, rfl⟩
  obtain ⟨c, hc⟩ : ∃ c, c = numX b.2 := ⟨_, rfl⟩
  obtain ⟨d, hd⟩ : ∃ d, d = numX c.2 := ⟨_, rfl⟩
  obtain ⟨e, he⟩ : ∃ e, e = numX d.2 := ⟨_, rfl⟩
  obtain ⟨g, hg⟩ : ∃ g, g = numX e.2 := ⟨_, rfl⟩
  obtain ⟨kk, hk⟩ : ∃ k, k = textX 100 g.2 := ⟨_, rfl⟩
  obtain ⟨w, hw⟩ : ∃ w, w = textX 200 kk.2 := ⟨_, rfl⟩
  have ev : verV s = (⟨kk.1, a.1, b.1, c.1, d.1, (d.1 : Int) + e.1, w.1, decide (g.1 = 1)⟩, g.1, w.2) := by
    unfold verV; simp only [← ha, ← hb, ← hc, ← hd, ← he, ← hg, ← hk, ← hw]
  unfold verX
  rw [ev]
  have en : nums 6 s = ([a.1, b.1, c.1, d.1, e.1, g.1], g.2) := by
    simp only [nums, ← ha, ← hb, ← hc, ← hd, ← he, ← hg, List.nil_append, List.cons_append]
  rw [en] at su k6
  simp only [List.map_cons, List.map_nil, natAV] at su
  have ld := numX_lt c.2
  have le := numX_lt d.2
  have lk := textX_len 100 g.2
  rw [← hd] at ld
  rw [← he] at le
  rw [← hk] at lk
  have c4 := su.cells
  have i4 := su.isCell
  have ix0 := su.idx (k := .i64) (i := 0) Tryz.underlying118 z3 (by omega) (by simp)
  have ix1 := su.idx (k := .i64) (i := 1) Tryz.underlying118 z3 (by omega) (by simp)
  have ix2 := su.idx (k := .i64) (i := 2) Tryz.underlying118 z3 (by omega) (by simp)
  have ix3 := su.idx (k := .i64) (i := 3) Tryz.underlying118 z3 (by omega) (by simp)
  have ix4 := su.idx (k := .i64) (i := 4) Tryz.underlying118 z3 (by omega) (by simp)
  have ix5 := su.idx (k := .i64) (i := 5) Tryz.underlying118 z3 (by omega) (by simp)
  replace ix0 : indexAddrAV Tryz.prog 118 u (.int .i64 0) = some (.el (.int .i64 a.1) 0) := ix0
  replace ix1 : indexAddrAV Tryz.prog 118 u (.int .i64 1) = some (.el (.int .i64 b.1) 0) := ix1
  replace ix2 : indexAddrAV Tryz.prog 118 u (.int .i64 2) = some (.el (.int .i64 c.1) 0) := ix2
  replace ix3 : indexAddrAV Tryz.prog 118 u (.int .i64 3) = some (.el (.int .i64 d.1) 0) := ix3
  replace ix4 : indexAddrAV Tryz.prog 118 u (.int .i64 4) = some (.el (.int .i64 e.1) 0) := ix4
  replace ix5 : indexAddrAV Tryz.prog 118 u (.int .i64 5) = some (.el (.int .i64 g.1) 0) := ix5
  obtain ⟨tt, htt⟩ : ∃ tt : Int, tt = (d.1 : Int) + (e.1 : Int) := ⟨_, rfl⟩
  have wt : IntKind.i64.wrap ((d.1 : Int) + (e.1 : Int)) = tt := by rw [htt]; exact wrap64 (by omega) (by omega)
  rw [← htt]
  obtain ⟨gb, hgb⟩ : ∃ gb, gb = decide (g.1 = 1) := ⟨_, rfl⟩
  have hgb' : decide ((g.1 : Int) = 1) = gb := by rw [hgb]; congr 1; simp; omega
  rw [← hgb]
  obtain ⟨p, hpp⟩ : ∃ p, p = h.no := ⟨_, rfl⟩
  have pq : p ≠ q := by omega
  have p0 : p ≠ h0.no := by omega
  repeat(first|with_reducible first|refine vmR ?_|refine vmV rfl ?_|refine vmW rfl ?_|refine vmL ?_|refine blockW_y (by decide) ?_|((with_reducible first|apply vmO|apply vmT|apply vmC);case a=>simp;with_reducible first|exact .v|exact .c|exact .t|exact .f))
  (with_reducible refine W_draw_id (pln := true) [0, 1, 2, 3, 4, 5, 6, 7, 8, 9, 10, 11, 12, 13, 14, 15, 16, 17, 18, 19, 20, 21, 22, 23, 24, 25, 26, 27] [(2, (2, [27])), (5, (5, [27])), (8, (8, [27])), (12, (12, [27])), (15, (15, [27])), (18, (18, [27])), (23, (23, [27]))] (by kernel_rfl) rfl ?_)
  repeat(first|with_reducible first|refine vmR ?_|refine vmV rfl ?_|refine vmW rfl ?_|refine vmL ?_|refine blockW_y (by decide) ?_|((with_reducible first|apply vmO|apply vmT|apply vmC);case a=>simp [t4, c4, i4, ix0, ix1, ix2, ix3, ix4, ix5, wt, hgb'];with_reducible first|exact .v|exact .c|exact .t|exact .f))
  refine ⟨by simp [readSame, beqAV_self, t4, c4, i4, ix0, ix1, ix2, ix3, ix4, ix5]; done, _, by simp; first | done | rfl, ?_⟩
  rw [← hpp]
  obtain ⟨h8, hh8⟩ : ∃ h8 : Hp Fm, h8 = { h with obj := Mp.set (Mp.set h.obj p (.row [.str [], .int .i64 0, .int .i64 0, .int .i64 0, .int .i64 0, .int .i64 0, .str [], .bool false])) p (.row [.str [], .int .i64 a.1, .int .i64 b.1, .int .i64 c.1, .int .i64 d.1, .int .i64 tt, .str [], .bool gb]), no := p + 1, drawn := h.drew.drawn } := ⟨_, rfl⟩
  have x8 : HX (fun o => o = q) (fun _ => False) h0 h8 := by
    have hno := x6.no
    rw [hh8, hpp]; exact (x6.drew.new _).set (fun z => by omega) _
  have g8 : Mp.get h8.obj p = some (.row [.str [], .int .i64 a.1, .int .i64 b.1, .int .i64 c.1, .int .i64 d.1, .int .i64 tt, .str [], .bool gb]) := by rw [hh8]; simp
  have g8z : Mp.get h8.obj h0.no = some (.row [.str [], .int .i64 0, .int .i64 0, .int .i64 0, .int .i64 0, .int .i64 0, .str [], .bool false]) := by rw [hh8]; simp [Ne.symm p0]; exact g6z
  have k8 : Rd2 h8 q b0 bv g.2 := k6.of (by rw [hh8]; simp [Ne.symm pq])
  have n8 : q < h8.no := by rw [hh8]; show q < p + 1; omega
  have pn8 : p < h8.no := by rw [hh8]; show p < p + 1; omega
  have zn8 : h0.no < h8.no := by rw [hh8]; show h0.no < p + 1; omega
  have p8 : ∀ z, h8.pol z = false := fun z => by rw [x8.pol]; exact hp z
  rw [← hh8]
  clear hh8
  have V7 := r2text_ans q 100 (by omega) b0 bv sv hl g.2 h8 k8 n8 p8
  rw [← hk] at V7
  repeat(first|with_reducible first|refine vmR ?_|refine vmV rfl ?_|refine vmW rfl ?_|refine vmL ?_|refine blockW_y (by decide) ?_|((with_reducible first|apply vmO|apply vmT|apply vmC);case a=>simp [t0];with_reducible first|exact .v|exact .c|exact .t|exact .f))
  refine A.mono V7 ?_
  rintro _ h11 ⟨rfl, k11, x11⟩
  have g11 := (x11.obj _ pn8 pq).trans g8
  have g11z := (x11.obj _ zn8 (Ne.symm qn0)).trans g8z
  have n11 := Nat.lt_of_lt_of_le n8 x11.no
  have pn11 := Nat.lt_of_lt_of_le pn8 x11.no
  have zn11 := Nat.lt_of_lt_of_le zn8 x11.no
  have x011 := x8.trans x11
  refine ⟨_, by simp; first | done | rfl, ?_⟩
  repeat(first|with_reducible first|refine vmR ?_|refine vmV rfl ?_|refine vmW rfl ?_|refine vmL ?_|refine blockW_y (by decide) ?_|((with_reducible first|apply vmO|apply vmT|apply vmC);case a=>simp [g11, t0];with_reducible first|exact .v|exact .c|exact .t|exact .f))
  obtain ⟨h9, hh9⟩ : ∃ h9 : Hp Fm, h9 = { h11 with obj := Mp.set h11.obj p (.row [.str kk.1, .int .i64 a.1, .int .i64 b.1, .int .i64 c.1, .int .i64 d.1, .int .i64 tt, .str [], .bool gb]) } := ⟨_, rfl⟩
  have x9 : HX (fun o => o = q) (fun _ => False) h0 h9 := by rw [hh9]; exact x011.set (fun z => by have := x6.no; omega) _
  have g9 : Mp.get h9.obj p = some (.row [.str kk.1, .int .i64 a.1, .int .i64 b.1, .int .i64 c.1, .int .i64 d.1, .int .i64 tt, .str [], .bool gb]) := by rw [hh9]; simp
  have g9z : Mp.get h9.obj h0.no = some (.row [.str [], .int .i64 0, .int .i64 0, .int .i64 0, .int .i64 0, .int .i64 0, .str [], .bool false]) := by rw [hh9]; simp [Ne.symm p0]; exact g11z
  have k9 : Rd2 h9 q b0 bv kk.2 := k11.of (by rw [hh9]; simp [Ne.symm pq])
  have n9 : q < h9.no := by rw [hh9]; exact n11
  have pn9 : p < h9.no := by rw [hh9]; exact pn11
  have zn9 : h0.no < h9.no := by rw [hh9]; exact zn11
  have p9 : ∀ z, h9.pol z = false := fun z => by rw [x9.pol]; exact hp z
  rw [← hh9]
  clear hh9
  have V8 := r2text_ans q 200 (by omega) b0 bv sv hl kk.2 h9 k9 n9 p9
  rw [← hw] at V8
  refine A.mono V8 ?_
  rintro _ h12 ⟨rfl, k12, x12⟩
  have g12 := (x12.obj _ pn9 pq).trans g9
  have g12z := (x12.obj _ zn9 (Ne.symm qn0)).trans g9z
  have n12 := Nat.lt_of_lt_of_le n9 x12.no
  have pn12 := Nat.lt_of_lt_of_le pn9 x12.no
  have zn12 := Nat.lt_of_lt_of_le zn9 x12.no
  have x012 := x9.trans x12
  obtain ⟨h13, hh13⟩ : ∃ h13 : Hp Fm, h13 = { h12 with obj := Mp.set h12.obj p (.row [.str kk.1, .int .i64 a.1, .int .i64 b.1, .int .i64 c.1, .int .i64 d.1, .int .i64 tt, .str w.1, .bool gb]) } := ⟨_, rfl⟩
  have x13 : HX (fun o => o = q) (fun _ => False) h0 h13 := by rw [hh13]; exact x012.set (fun z => by have := x6.no; omega) _
  have g13 : Mp.get h13.obj p = some (.row [.str kk.1, .int .i64 a.1, .int .i64 b.1, .int .i64 c.1, .int .i64 d.1, .int .i64 tt, .str w.1, .bool gb]) := by rw [hh13]; simp
  have g13z : Mp.get h13.obj h0.no = some (.row [.str [], .int .i64 0, .int .i64 0, .int .i64 0, .int .i64 0, .int .i64 0, .str [], .bool false]) := by rw [hh13]; simp [Ne.symm p0]; exact g12z
  have k13 : Rd2 h13 q b0 bv w.2 := k12.of (by rw [hh13]; simp [Ne.symm pq])
  have n13 : q < h13.no := by rw [hh13]; exact n12
  have pn13 : p < h13.no := by rw [hh13]; exact pn12
  have zn13 : h0.no < h13.no := by rw [hh13]; exact zn12
  have p13 : ∀ z, h13.pol z = false := fun z => by rw [x13.pol]; exact hp z
  have mk13 : ∀ (gq : AV) (i x : Int), Mp.get h13.obj q = some (.row [gq, .int .i64 i, .int .i64 x]) → Mp.get h12.obj q = some (.row [gq, .int .i64 i, .int .i64 x]) := by
    intro gq i x z
    rw [hh13] at z
    simpa [Ne.symm pq] using z
  obtain ⟨ws, hws⟩ : ∃ ws, ws = w.2 := ⟨_, rfl⟩
  rw [← hws] at k13 ⊢
  refine ⟨_, by simp; first | done | rfl, ?_⟩
  obtain ⟨i, hi, k13'⟩ := id k13
  cases ws with
  | error x =>
    obtain ⟨gq, nx⟩ := k13'
    have gq12 := mk13 _ _ _ gq
    repeat(first|with_reducible first|refine vmR ?_|refine vmV rfl ?_|refine vmW rfl ?_|refine vmL ?_|refine blockW_y (by decide) ?_|((with_reducible first|apply vmO|apply vmT|apply vmC);case a=>simp [g12, t0, gq12, nx, Ne.symm pq, pq];with_reducible first|exact .v|exact .c|exact .t|exact .f))
    (with_reducible refine W_draw_id (pln := true) [0, 1, 2, 3, 4, 5, 6] [(4, (4, [6]))] (by kernel_rfl) rfl ?_)
    have gzz : Mp.get h12.obj h0.no = some (.row [.str [], .int .i64 0, .int .i64 0, .int .i64 0, .int .i64 0, .int .i64 0, .str [], .bool false]) := g12z
    repeat(first|with_reducible first|refine vmR ?_|refine vmV rfl ?_|refine vmW rfl ?_|refine vmL ?_|refine blockW_y (by decide) ?_|((with_reducible first|apply vmO|apply vmT|apply vmC);case a=>simp [t0, t2, gq12, Ne.symm pq, pq, gzz, p0, Ne.symm p0];with_reducible first|exact .v|exact .c|exact .t|exact .f))
    refine ⟨by simp [readSame, beqAV_self, t0, t2, gq12, Ne.symm pq, pq, p0, Ne.symm p0, qn0, Ne.symm qn0]; done, _, by simp; first | done | rfl, ?_⟩
    repeat(first|with_reducible first|refine vmR ?_|refine vmV rfl ?_|refine vmW rfl ?_|refine vmL ?_|refine blockW_y (by decide) ?_|((with_reducible first|apply vmO|apply vmT|apply vmC);case a=>simp;with_reducible first|exact .v|exact .c|exact .t|exact .f))
    (first | apply endW_r | apply endW_n); (case h1 => (simp [Tryz.results87, t2, p0, Ne.symm p0]; first | done | rfl))
    refine ⟨⟨by simp [zeroV], nx⟩, k13.of (by simp [Ne.symm p0, qn0, Ne.symm pq]; rw [gq12, gq]), ?_⟩
    exact ((x012.set (o := p) (fun z => by have := x6.no; omega) _).drew).set (o := h0.no) (fun z => by omega) _
  | ok r =>
    obtain ⟨gq, hr⟩ := k13'
    have gq12 := mk13 _ _ _ gq
    have RM := may6_ans ⟨kk.1, a.1, b.1, c.1, d.1, tt, w.1, gb⟩ h13 (by simp only; omega) p13
    obtain ⟨m, hm⟩ : ∃ m, m = VMay ⟨kk.1, a.1, b.1, c.1, d.1, tt, w.1, gb⟩ := ⟨_, rfl⟩
    rw [← hm] at RM
    simp only
    rw [← hm]
    repeat(first|with_reducible first|refine vmR ?_|refine vmV rfl ?_|refine vmW rfl ?_|refine vmL ?_|refine blockW_y (by decide) ?_|((with_reducible first|apply vmO|apply vmT|apply vmC);case a=>simp [g12, t0, gq12, Ne.symm pq, pq];with_reducible first|exact .v|exact .c|exact .t|exact .f))
    rw [← hh13]
    refine A.mono RM ?_
    rintro _ h14 ⟨rfl, e14⟩
    have g14z := (e14.obj _ zn13).trans g13z
    have g14 := (e14.obj _ pn13).trans g13
    have k14 := k13.of (e14.obj _ n13)
    have x14 := x13.trans (e14.x _ _)
    refine ⟨_, by simp; first | done | rfl, ?_⟩
    cases m with
    | false =>
      rw [if_pos (.inr rfl)]
      repeat(first|with_reducible first|refine vmR ?_|refine vmV rfl ?_|refine vmW rfl ?_|refine vmL ?_|refine blockW_y (by decide) ?_|((with_reducible first|apply vmO|apply vmT|apply vmC);case a=>simp [t2, g14z];with_reducible first|exact .v|exact .c|exact .t|exact .f))
      (first | apply endW_r | apply endW_n); (case h1 => (simp [Tryz.results87, t2]; first | done | rfl))
      exact ⟨⟨by simp [zeroV], by decide⟩, k14.of (by simp [qn0]), x14.set (fun z => by omega) _⟩
    | true =>
      by_cases qg : 1 < g.1
      · have qg' : (1 : Int) < g.1 := by omega
        rw [if_pos (.inl qg)]
        repeat(first|with_reducible first|refine vmR ?_|refine vmV rfl ?_|refine vmW rfl ?_|refine vmL ?_|refine blockW_y (by decide) ?_|((with_reducible first|apply vmO|apply vmT|apply vmC);case a=>simp [t2, t4, c4, i4, ix5, qg, qg', g14z];with_reducible first|exact .v|exact .c|exact .t|exact .f))
        (first | apply endW_r | apply endW_n); (case h1 => (simp [Tryz.results87, t2]; first | done | rfl))
        exact ⟨⟨by simp [zeroV], by decide⟩, k14.of (by simp [qn0]), x14.set (fun z => by omega) _⟩
      · have qg' : ¬ (1 : Int) < g.1 := by omega
        rw [if_neg (by simp [qg])]
        repeat(first|with_reducible first|refine vmR ?_|refine vmV rfl ?_|refine vmW rfl ?_|refine vmL ?_|refine blockW_y (by decide) ?_|((with_reducible first|apply vmO|apply vmT|apply vmC);case a=>simp [t2, t4, c4, i4, ix5, qg, qg', g14z, g14];with_reducible first|exact .v|exact .c|exact .t|exact .f))
        (first | apply endW_r | apply endW_n); (case h1 => (simp [Tryz.results87, t2]; first | done | rfl))
        exact ⟨by simp [VerR], k14.of (by simp [qn0]), x14.set (fun z => by omega) _⟩
end Go.Vn

set_option maxRecDepth 20000
namespace Go.Vn
open Go.Proofs

set_option maxHeartbeats 4000000 in
theorem all6_ans (b : List UInt8) (v : AV) (h0 : Hp Fm) (k : SV 1 (b.map byteAV) v) (hl : b.length ≤ 16777216) (hp : ∀ z, h0.pol z = false) :
    A Tryz.prog TT (.func 67) [v] h0 (fun r h' => AllR (allX b) r ∧ HE h0 h') := by
  have c1 := k.cells
  have i1 := k.isCell
  obtain ⟨q, hq⟩ : ∃ q, q = h0.no := ⟨_, rfl⟩
  obtain ⟨h1, hh1⟩ : ∃ h1 : Hp Fm, h1 = { h0 with obj := Mp.set h0.obj q (.row [v, .int .i64 0, .int .i64 0]), no := q + 1 } := ⟨_, rfl⟩
  have e1 : HE h0 h1 := by rw [hh1, hq]; exact (HE.refl h0).new _
  have q0 : h0.no ≤ q := by omega
  have qn : q < h1.no := by rw [hh1]; show q < q + 1; omega
  have k1 : Rd2 h1 q b v (.ok b) := ⟨0, by omega, by rw [hh1]; simp, by simp⟩
  apply A_go Tryz.func67 rfl (by rfl); (case hn => (simp [Tryz.ntmps67]; rfl))
  repeat(first|with_reducible first|refine vmR ?_|refine vmV rfl ?_|refine vmW rfl ?_|refine vmL ?_|refine blockW_y (by decide) ?_|((with_reducible first|apply vmO|apply vmT|apply vmC);case a=>simp [c1, i1];with_reducible first|exact .v|exact .c|exact .t|exact .f))
  rw [← hq, ← hh1]
  clear hh1
  refine A.mono (r2num_ans q b v k hl _ h1 k1 qn (fun z => by rw [e1.pol]; exact hp z)) ?_
  rintro _ h2 ⟨rfl, k2, x2⟩
  have qn2 := Nat.lt_of_lt_of_le qn x2.no
  have e2 : HE h0 h2 := e1.x2 x2 (fun o ho => by rw [ho]; exact q0) (fun _ z => z.elim)
  refine ⟨_, by simp; first | done | rfl, ?_⟩
  unfold allX
  cases hn : numP b with
  | error e =>
    have hx : numX (.ok b) = (0, .error e) := by unfold numX; simp only [hn]
    rw [hx] at k2 ⊢
    obtain ⟨i, hi, g2, ne⟩ := k2
    repeat(first|with_reducible first|refine vmR ?_|refine vmV rfl ?_|refine vmW rfl ?_|refine vmL ?_|refine blockW_y (by decide) ?_|((with_reducible first|apply vmO|apply vmT|apply vmC);case a=>simp [g2, ne];with_reducible first|exact .v|exact .c|exact .t|exact .f))
    (with_reducible refine W_draw_id (pln := true) [0, 1, 2, 3, 4, 5] [(3, (3, []))] (by kernel_rfl) rfl ?_)
    repeat(first|with_reducible first|refine vmR ?_|refine vmV rfl ?_|refine vmW rfl ?_|refine vmL ?_|refine blockW_y (by decide) ?_|((with_reducible first|apply vmO|apply vmT|apply vmC);case a=>simp [g2];with_reducible first|exact .v|exact .c|exact .t|exact .f))
    refine ⟨by simp [readSame, beqAV_self, g2]; done, _, by simp; first | done | rfl, ?_⟩
    repeat(first|with_reducible first|refine vmR ?_|refine vmV rfl ?_|refine vmW rfl ?_|refine vmL ?_|refine blockW_y (by decide) ?_|((with_reducible first|apply vmO|apply vmT|apply vmC);case a=>simp;with_reducible first|exact .v|exact .c|exact .t|exact .f))
    (first | apply endW_r | apply endW_n); (case h1 => (simp [Tryz.results67]; first | done | rfl))
    exact ⟨⟨by simp, ne⟩, e2.drew⟩
  | ok p =>
    obtain ⟨n, r0⟩ := p
    have hx : numX (.ok b) = (n, .ok r0) := by unfold numX; simp only [hn]
    rw [hx] at k2 ⊢
    have nl := numP_len hn
    obtain ⟨i, hi, g2, hr0⟩ := id k2
    simp only
    repeat(first|with_reducible first|refine vmR ?_|refine vmV rfl ?_|refine vmW rfl ?_|refine vmL ?_|refine blockW_y (by decide) ?_|((with_reducible first|apply vmO|apply vmT|apply vmC);case a=>simp [g2];with_reducible first|exact .v|exact .c|exact .t|exact .f))
    refine W_loop (fun m s => ∃ (t : Fm AV) (h : Hp Fm) (done : List Ver) (cur : List UInt8) (u : AV), s = ⟨t, 45, h, none⟩ ∧ m = cur.length ∧ done.length + cur.length ≤ b.length ∧ done.length ≤ n ∧ cmbA done (allL (n - done.length) cur) = allL n r0 ∧ tget t 4 = .ptr q 0 ∧ tget t 5 = .int .i64 n ∧ tget t 6 = u ∧ tget t 7 = .int .i64 done.length ∧ Rd2 h q b v (.ok cur) ∧ q < h.no ∧ AC h0 h 8 (done.map encV) u ∧ HE h0 h) r0.length
      ⟨_, _, [], r0, .nils, rfl, rfl, by simp; omega, by simp, cmbA_nil _, by simp, by simp, by simp, by simp, k2, qn2, .inl ⟨rfl, rfl⟩, e2⟩ ?_
    clear k2 x2 qn2 e2 k1 qn e1 g2 hr0 hi
    rintro m s ⟨t, h, done, cur, u, rfl, rfl, hdl, hdn, hfin, t4, t5, t6, t7, kr, qn, hu, he⟩
    have uc := hu.sv.cells
    have ui := hu.sv.isCell
    have hph : ∀ z, h.pol z = false := fun z => by rw [he.pol]; exact hp z
    by_cases qd : done.length < n
    case neg =>
      have qd' : ¬ (done.length : Int) < n := by omega
      have ez : n - done.length = 0 := by omega
      rw [ez, allL] at hfin
      repeat(first|with_reducible first|refine vmR ?_|refine vmV rfl ?_|refine vmW rfl ?_|refine vmL ?_|refine blockW_y (by decide) ?_|((with_reducible first|apply vmO|apply vmT|apply vmC);case a=>simp [t4, t5, t6, t7, qd, qd'];with_reducible first|exact .v|exact .c|exact .t|exact .f))
      refine A.mono (r2rest_ans q b v k hl _ h kr) ?_
      rintro _ h3 ⟨rfl, e3⟩
      simp only [restOf]
      refine ⟨_, by simp; first | done | rfl, ?_⟩
      by_cases qr : cur.length = 0
      · have qr' : ¬ 0 < cur.length := by omega
        have qr2 : ¬ (0 : Int) < cur.length := by omega
        rw [if_pos qr] at hfin
        repeat(first|with_reducible first|refine vmR ?_|refine vmV rfl ?_|refine vmW rfl ?_|refine vmL ?_|refine blockW_y (by decide) ?_|((with_reducible first|apply vmO|apply vmT|apply vmC);case a=>simp [t6, uc, ui, qr', qr2];with_reducible first|exact .v|exact .c|exact .t|exact .f))
        (first | apply endW_r | apply endW_n); (case h1 => (simp [Tryz.results67]; first | done | rfl))
        rw [← hfin]
        exact ⟨⟨u, by simp, by simpa [cmbA] using hu.sv⟩, he.trans e3⟩
      · have qr' : 0 < cur.length := by omega
        have qr2 : (0 : Int) < cur.length := by omega
        rw [if_neg qr] at hfin
        repeat(first|with_reducible first|refine vmR ?_|refine vmV rfl ?_|refine vmW rfl ?_|refine vmL ?_|refine blockW_y (by decide) ?_|((with_reducible first|apply vmO|apply vmT|apply vmC);case a=>simp [t6, uc, ui, qr', qr2];with_reducible first|exact .v|exact .c|exact .t|exact .f))
        (first | apply endW_r | apply endW_n); (case h1 => (simp [Tryz.results67]; first | done | rfl))
        rw [← hfin]
        exact ⟨⟨by simp, by decide⟩, he.trans e3⟩
    have qd' : (done.length : Int) < n := by omega
    obtain ⟨n', hn'⟩ : ∃ n', n - done.length = n' + 1 := ⟨n - done.length - 1, by omega⟩
    rw [hn'] at hfin
    have wd : IntKind.i64.wrap ((done.length : Int) + 1) = ((done.length + 1 : Nat) : Int) := by rw [wrap64 (by omega) (by omega)]; omega
    repeat(first|with_reducible first|refine vmR ?_|refine vmV rfl ?_|refine vmW rfl ?_|refine vmL ?_|refine blockW_y (by decide) ?_|((with_reducible first|apply vmO|apply vmT|apply vmC);case a=>simp [t4, t5, t6, t7, qd, qd'];with_reducible first|exact .v|exact .c|exact .t|exact .f))
    refine A.mono (take6_ans q b v k hl _ h kr qn hph) ?_
    rintro r h3 ⟨hr, k3, x3⟩
    have qn3 := Nat.lt_of_lt_of_le qn x3.no
    have e3 : HE h0 h3 := he.x2 x3 (fun o ho => by rw [ho]; exact q0) (fun _ z => z.elim)
    have p3 : ∀ z, h3.pol z = false := fun z => by rw [e3.pol]; exact hp z
    cases hv : verX (.ok cur) with
    | mk x s =>
      rw [hv] at hr k3
      cases x with
      | error e =>
        obtain ⟨rfl, ne⟩ := hr
        rw [allL_er hv] at hfin
        refine ⟨_, by simp; first | done | rfl, ?_⟩
        repeat(first|with_reducible first|refine vmR ?_|refine vmV rfl ?_|refine vmW rfl ?_|refine vmL ?_|refine blockW_y (by decide) ?_|((with_reducible first|apply vmO|apply vmT|apply vmC);case a=>simp [zeroV, ne];with_reducible first|exact .v|exact .c|exact .t|exact .f))
        (first | apply endW_r | apply endW_n); (case h1 => (simp [Tryz.results67]; first | done | rfl))
        rw [← hfin]
        exact ⟨⟨by simp, ne⟩, (e3.new _).set e3.no _⟩
      | ok w =>
        obtain ⟨rr, rfl, hlen, hmay, htiny⟩ := verX_ok hv
        replace hr : r = .tup [encV w, .int .i64 0] := hr
        rw [hr]
        rw [allL_ok hv] at hfin
        obtain ⟨key, br, ep, sq, fr, to, val, gone⟩ := w
        have qh : q ≠ h3.no := by omega
        have e4 := ((HE.refl h3).new (.row [.str [], .int .i64 0, .int .i64 0, .int .i64 0, .int .i64 0, .int .i64 0, .str [], .bool false])).set (Nat.le_refl _) (.row [.str key, .int .i64 br, .int .i64 ep, .int .i64 sq, .int .i64 fr, .int .i64 to, .str val, .bool gone])
        have hu3 := AC.ofX hu x3
        refine ⟨_, by simp; first | done | rfl, ?_⟩
        repeat(first|with_reducible first|refine vmR ?_|refine vmV rfl ?_|refine vmW rfl ?_|refine vmL ?_|refine blockW_y (by decide) ?_|((with_reducible first|apply vmO|apply vmT|apply vmC);case a=>simp [t6, uc, ui, newSeq, newSl, p3];with_reducible first|exact .v|exact .c|exact .t|exact .f))
        with_reducible apply WO_app_i; (case hw => (simp [t6, uc, ui, newSeq, newSl, p3]; done)); (case ho => rfl); (case hb => rfl); (case ha => (simp [t6, uc, ui, newSeq, newSl, p3]; first | done | exact ⟨rfl, rfl⟩ | rfl)); (case h1 => (simp; first | done | rfl)); (case h2 => (simp; first | done | rfl))
        refine app_then (AC.app (h0 := h0) etV (hu3.of (e4.newSl 1)) (e3.trans (e4.newSl 1)) (hp _) (by simp; omega)) ?_
        rintro x5 h5 ⟨ac5, he5, ho5, hn5, _⟩
        have e5 := ac5.sv.cells
        have f5 := ac5.sv.isCell
        have k5 : Rd2 h5 q b v (.ok rr) := k3.of (by rw [ho5]; simp [qh])
        have qn5 : q < h5.no := by rw [hn5]; show q < h3.no + 1; omega
        refine ⟨_, by simp; first | done | rfl, ?_⟩
        repeat(first|with_reducible first|refine vmR ?_|refine vmV rfl ?_|refine vmW rfl ?_|refine vmL ?_|refine blockW_y (by decide) ?_|((with_reducible first|apply vmO|apply vmT|apply vmC);case a=>simp [e5, f5, t7, wd];with_reducible first|exact .v|exact .c|exact .t|exact .f))
        refine ⟨rr.length, by omega, _, h5, done ++ [⟨key, br, ep, sq, fr, to, val, gone⟩], rr, x5, rfl, rfl, by simp; omega, by simp; omega, ?_, by simp [t4], by simp [t5], by simp, by simp, k5, qn5, ?_, he5⟩
        · rw [← hfin]
          congr 2
          rw [List.length_append, List.length_singleton]; omega
        · rw [List.map_append]; exact ac5

set_option maxHeartbeats 1000000 in
theorem number3_ans (b : List UInt8) (v : AV) (h0 : Hp Fm) (k : SV 1 (b.map byteAV) v) (h4 : 4 ≤ b.length) :
    A Tryz.prog TT (.func 85) [v] h0 (fun r h' => r = .int .i64 (num4 b) ∧ HE h0 h') := by
  have c1 := k.cells
  have i1 := k.isCell
  obtain ⟨x0, x1, x2, x3, tl, rfl⟩ : ∃ x0 x1 x2 x3 tl, b = x0 :: x1 :: x2 :: x3 :: tl := by
    match b, h4 with
    | x0 :: x1 :: x2 :: x3 :: tl, _ => exact ⟨x0, x1, x2, x3, tl, rfl⟩
  have ix0 := k.idx (k := .i64) (i := 0) Tryz.underlying22 z5 (by omega) (by simp)
  have ix1 := k.idx (k := .i64) (i := 1) Tryz.underlying22 z5 (by omega) (by simp)
  have ix2 := k.idx (k := .i64) (i := 2) Tryz.underlying22 z5 (by omega) (by simp)
  have ix3 := k.idx (k := .i64) (i := 3) Tryz.underlying22 z5 (by omega) (by simp)
  have l0 := x0.toNat_lt
  have l1 := x1.toNat_lt
  have l2 := x2.toNat_lt
  have l3 := x3.toNat_lt
  have en : num4 (x0 :: x1 :: x2 :: x3 :: tl) = x0.toNat + 256 * x1.toNat + 65536 * x2.toNat + 16777216 * x3.toNat := rfl
  rw [en]
  replace ix0 : indexAddrAV Tryz.prog 22 v (.int .i64 0) = some (.el (.int .u8 (x0.toNat : Int)) 0) := by rw [ix0]; simp [byteAV]
  replace ix1 : indexAddrAV Tryz.prog 22 v (.int .i64 1) = some (.el (.int .u8 (x1.toNat : Int)) 0) := by rw [ix1]; simp [byteAV]
  replace ix2 : indexAddrAV Tryz.prog 22 v (.int .i64 2) = some (.el (.int .u8 (x2.toNat : Int)) 0) := by rw [ix2]; simp [byteAV]
  replace ix3 : indexAddrAV Tryz.prog 22 v (.int .i64 3) = some (.el (.int .u8 (x3.toNat : Int)) 0) := by rw [ix3]; simp [byteAV]
  generalize x0.toNat = y0 at *
  generalize x1.toNat = y1 at *
  generalize x2.toNat = y2 at *
  generalize x3.toNat = y3 at *
  obtain ⟨n1, hn1⟩ : ∃ n1, n1 = 256 * y1 := ⟨_, rfl⟩
  obtain ⟨n2, hn2⟩ : ∃ n2, n2 = 65536 * y2 := ⟨_, rfl⟩
  obtain ⟨n3, hn3⟩ : ∃ n3, n3 = 16777216 * y3 := ⟨_, rfl⟩
  obtain ⟨s1, hs1⟩ : ∃ s1, s1 = y0 + n1 := ⟨_, rfl⟩
  obtain ⟨s2, hs2⟩ : ∃ s2, s2 = s1 + n2 := ⟨_, rfl⟩
  obtain ⟨s3, hs3⟩ : ∃ s3, s3 = s2 + n3 := ⟨_, rfl⟩
  have w0 : IntKind.i64.wrap (y0 : Int) = (y0 : Int) := wrap64 (by omega) (by omega)
  have w1 : IntKind.i64.wrap (y1 : Int) = (y1 : Int) := wrap64 (by omega) (by omega)
  have w2 : IntKind.i64.wrap (y2 : Int) = (y2 : Int) := wrap64 (by omega) (by omega)
  have w3 : IntKind.i64.wrap (y3 : Int) = (y3 : Int) := wrap64 (by omega) (by omega)
  have f1 : IntKind.i64.wrap (256 * (y1 : Int)) = (n1 : Int) := by rw [wrap64 (by omega) (by omega)]; omega
  have f2 : IntKind.i64.wrap (65536 * (y2 : Int)) = (n2 : Int) := by rw [wrap64 (by omega) (by omega)]; omega
  have f3 : IntKind.i64.wrap (16777216 * (y3 : Int)) = (n3 : Int) := by rw [wrap64 (by omega) (by omega)]; omega
  have o1 : IntKind.i64.wrap ((y0 : Int) + (n1 : Int)) = (s1 : Int) := by rw [wrap64 (by omega) (by omega)]; omega
  have o2 : IntKind.i64.wrap ((s1 : Int) + (n2 : Int)) = (s2 : Int) := by rw [wrap64 (by omega) (by omega)]; omega
  have o3 : IntKind.i64.wrap ((s2 : Int) + (n3 : Int)) = (s3 : Int) := by rw [wrap64 (by omega) (by omega)]; omega
  apply A_go Tryz.func85 rfl (by rfl); (case hn => (simp [Tryz.ntmps85]; rfl))
  repeat(first|with_reducible first|refine vmR ?_|refine vmV rfl ?_|refine vmW rfl ?_|refine vmL ?_|refine blockW_y (by decide) ?_|((with_reducible first|apply vmO|apply vmT|apply vmC);case a=>simp;with_reducible first|exact .v|exact .c|exact .t|exact .f))
  (with_reducible refine W_draw_id (pln := true) [0, 1, 2, 3, 4, 5, 6, 7, 8, 9, 10, 11, 12, 13, 14, 15, 16, 17, 18, 19, 20, 21, 22] [(2, (2, [])), (6, (6, [])), (12, (12, [])), (18, (18, []))] (by kernel_rfl) rfl ?_)
  repeat(first|with_reducible first|refine vmR ?_|refine vmV rfl ?_|refine vmW rfl ?_|refine vmL ?_|refine blockW_y (by decide) ?_|((with_reducible first|apply vmO|apply vmT|apply vmC);case a=>simp [c1, i1, ix0, ix1, ix2, ix3, w0, w1, w2, w3, f1, f2, f3, o1, o2, o3];with_reducible first|exact .v|exact .c|exact .t|exact .f))
  refine ⟨by simp [readSame, beqAV_self, c1, i1, ix0, ix1, ix2, ix3]; done, _, by simp; first | done | rfl, ?_⟩
  repeat(first|with_reducible first|refine vmR ?_|refine vmV rfl ?_|refine vmW rfl ?_|refine vmL ?_|refine blockW_y (by decide) ?_|((with_reducible first|apply vmO|apply vmT|apply vmC);case a=>simp;with_reducible first|exact .v|exact .c|exact .t|exact .f))
  (first | apply endW_r | apply endW_n); (case h1 => (simp [Tryz.results85]; first | done | rfl))
  refine ⟨?_, (HE.refl h0).drew⟩
  congr 1; omega

theorem num4_take (b : List UInt8) (h : 4 ≤ b.length) : num4 (b.take 4) = num4 b := by
  match b, h with
  | x0 :: x1 :: x2 :: x3 :: tl, _ => rfl

set_option maxHeartbeats 2000000 in
theorem first3_ans (b : List UInt8) (v : AV) (h0 : Hp Fm) (k : SV 1 (b.map byteAV) v) (hl : b.length ≤ 16777216) :
    A Tryz.prog TT (.func 65) [v] h0 (fun r h' => (match oneP b with
      | none => ∃ y e : Int, r = .tup [.nils, .int .i64 y, .int .i64 e] ∧ e ≠ 0
      | some (own, _) => ∃ u, r = .tup [u, .int .i64 ((8 + own.length : Nat) : Int), .int .i64 0] ∧ SV 1 (own.map byteAV) u) ∧ HE h0 h') := by
  have c1 := k.cells
  have i1 := k.isCell
  have n1 := k.nm
  have l1 := k.len Tryz.underlying22
  rw [List.length_map] at l1
  by_cases q8 : b.length < 8
  · have q8' : (b.length : Int) < 8 := by omega
    have ho : oneP b = none := by unfold oneP; rw [if_pos (.inl q8)]
    rw [ho]
    apply A_go Tryz.func65 rfl (by rfl); (case hn => (simp [Tryz.ntmps65]; rfl))
    repeat(first|with_reducible first|refine vmR ?_|refine vmV rfl ?_|refine vmW rfl ?_|refine vmL ?_|refine blockW_y (by decide) ?_|((with_reducible first|apply vmO|apply vmT|apply vmC);case a=>simp [c1, i1, n1, l1, q8, q8'];with_reducible first|exact .v|exact .c|exact .t|exact .f))
    (first | apply endW_r | apply endW_n); (case h1 => (simp [Tryz.results65]; first | done | rfl))
    exact ⟨⟨0, 3, by simp, by decide⟩, HE.refl h0⟩
  have q8' : ¬ (b.length : Int) < 8 := by omega
  obtain ⟨n, hn⟩ : ∃ n, n = num4 b := ⟨_, rfl⟩
  have hn4 := num4_lt b
  rw [← hn] at hn4
  obtain ⟨n8, hn8⟩ : ∃ n8, n8 = 8 + n := ⟨_, rfl⟩
  have w2 : IntKind.i64.wrap (8 + (n : Int)) = (n8 : Int) := by rw [wrap64 (by omega) (by omega)]; omega
  have nb := fun h => number3_ans b v h k (by omega)
  rw [← hn] at nb
  apply A_go Tryz.func65 rfl (by rfl); (case hn => (simp [Tryz.ntmps65]; rfl))
  repeat(first|with_reducible first|refine vmR ?_|refine vmV rfl ?_|refine vmW rfl ?_|refine vmL ?_|refine blockW_y (by decide) ?_|((with_reducible first|apply vmO|apply vmT|apply vmC);case a=>simp [c1, i1, n1, l1, q8, q8'];with_reducible first|exact .v|exact .c|exact .t|exact .f))
  refine A.mono (nb h0) ?_
  rintro _ h1 ⟨rfl, e1⟩
  refine ⟨_, by simp; first | done | rfl, ?_⟩
  by_cases qn : b.length < n8
  · have qn' : (b.length : Int) < n8 := by omega
    have ho : oneP b = none := by unfold oneP; rw [← hn, if_pos (.inr (by omega))]
    rw [ho]
    repeat(first|with_reducible first|refine vmR ?_|refine vmV rfl ?_|refine vmW rfl ?_|refine vmL ?_|refine blockW_y (by decide) ?_|((with_reducible first|apply vmO|apply vmT|apply vmC);case a=>simp [w2, qn, qn'];with_reducible first|exact .v|exact .c|exact .t|exact .f))
    (first | apply endW_r | apply endW_n); (case h1 => (simp [Tryz.results65]; first | done | rfl))
    exact ⟨⟨0, 3, by simp, by decide⟩, e1⟩
  have qn' : ¬ (b.length : Int) < n8 := by omega
  obtain ⟨r1, hr1, sr1⟩ := sl_b k 8 n8 (by omega) (by omega) (by omega)
  rw [show n8 - 8 = n by omega] at sr1
  obtain ⟨r2, hr2, sr2⟩ := sl_b k 4 8 (by omega) (by omega) (by omega)
  rw [show 8 - 4 = 4 from rfl] at sr2
  replace hr1 : sliceAV Tryz.prog 22 v (some (.int .i64 8)) (some (.int .i64 (n8 : Int))) none = some r1 := hr1
  replace hr2 : sliceAV Tryz.prog 22 v (some (.int .i64 4)) (some (.int .i64 8)) none = some r2 := hr2
  have d1 := sr1.cells
  have j1 := sr1.isCell
  have d2 := sr2.cells
  have j2 := sr2.isCell
  obtain ⟨own, hown⟩ : ∃ own, own = (b.drop 8).take n := ⟨_, rfl⟩
  have ownl : own.length = n := by rw [hown, List.length_take, List.length_drop]; omega
  obtain ⟨m, hm⟩ : ∃ m, m = num4 (b.drop 4) := ⟨_, rfl⟩
  have n44 : num4 ((b.drop 4).take 4) = m := by rw [hm]; exact num4_take _ (by rw [List.length_drop]; omega)
  have ho : oneP b = if crcSum own = m then some (own, b.drop n8) else none := by
    unfold oneP; rw [← hn, if_neg (by omega), ← hown, ← hm, hn8]
  rw [← hown] at sr1
  repeat(first|with_reducible first|refine vmR ?_|refine vmV rfl ?_|refine vmW rfl ?_|refine vmL ?_|refine blockW_y (by decide) ?_|((with_reducible first|apply vmO|apply vmT|apply vmC);case a=>simp [w2, qn, qn', c1, i1];with_reducible first|exact .v|exact .c|exact .t|exact .f))
  refine A.mono (nb h1) ?_
  rintro _ h2 ⟨rfl, e2⟩
  refine ⟨_, by simp; first | done | rfl, ?_⟩
  repeat(first|with_reducible first|refine vmR ?_|refine vmV rfl ?_|refine vmW rfl ?_|refine vmL ?_|refine blockW_y (by decide) ?_|((with_reducible first|apply vmO|apply vmT|apply vmC);case a=>simp [w2, c1, i1, hr1, d1, j1];with_reducible first|exact .v|exact .c|exact .t|exact .f))
  (with_reducible refine W_draw_id (pln := true) [0, 1, 2, 3, 4, 5] [] (by kernel_rfl) rfl ?_)
  repeat(first|with_reducible first|refine vmR ?_|refine vmV rfl ?_|refine vmW rfl ?_|refine vmL ?_|refine blockW_y (by decide) ?_|((with_reducible first|apply vmO|apply vmT|apply vmC);case a=>simp [d1, j1];with_reducible first|exact .v|exact .c|exact .t|exact .f))
  refine A.mono (sum3_ans own r1 h2.drew sr1 (by omega)) ?_
  rintro _ h3 ⟨rfl, e3⟩
  refine ⟨_, by simp; first | done | rfl, ?_⟩
  repeat(first|with_reducible first|refine vmR ?_|refine vmV rfl ?_|refine vmW rfl ?_|refine vmL ?_|refine blockW_y (by decide) ?_|((with_reducible first|apply vmO|apply vmT|apply vmC);case a=>simp [c1, i1, hr2, d2, j2];with_reducible first|exact .v|exact .c|exact .t|exact .f))
  refine A.mono (number3_ans ((b.drop 4).take 4) r2 h3 sr2 (by rw [List.length_take, List.length_drop]; omega)) ?_
  rw [n44]
  rintro _ h4 ⟨rfl, e4⟩
  have e04 := ((e1.trans e2).drew.trans e3).trans e4
  refine ⟨_, by simp; first | done | rfl, ?_⟩
  by_cases qs : crcSum own = m
  case neg =>
    have qs' : ¬ (crcSum own : Int) = (m : Int) := by omega
    rw [ho, if_neg qs]
    repeat(first|with_reducible first|refine vmR ?_|refine vmV rfl ?_|refine vmW rfl ?_|refine vmL ?_|refine blockW_y (by decide) ?_|((with_reducible first|apply vmO|apply vmT|apply vmC);case a=>simp [qs, qs'];with_reducible first|exact .v|exact .c|exact .t|exact .f))
    refine ⟨by simp [readSame, beqAV_self, c1, i1, hr1, hr2]; done, _, by simp; first | done | rfl, ?_⟩
    repeat(first|with_reducible first|refine vmR ?_|refine vmV rfl ?_|refine vmW rfl ?_|refine vmL ?_|refine blockW_y (by decide) ?_|((with_reducible first|apply vmO|apply vmT|apply vmC);case a=>simp [w2];with_reducible first|exact .v|exact .c|exact .t|exact .f))
    (first | apply endW_r | apply endW_n); (case h1 => (simp [Tryz.results65]; first | done | rfl))
    exact ⟨⟨n8, 4, by simp, by decide⟩, e04⟩
  have qs' : (crcSum own : Int) = (m : Int) := by omega
  rw [ho, if_pos qs]
  repeat(first|with_reducible first|refine vmR ?_|refine vmV rfl ?_|refine vmW rfl ?_|refine vmL ?_|refine blockW_y (by decide) ?_|((with_reducible first|apply vmO|apply vmT|apply vmC);case a=>simp [qs, qs'];with_reducible first|exact .v|exact .c|exact .t|exact .f))
  refine ⟨by simp [readSame, beqAV_self, c1, i1, hr1, hr2]; done, _, by simp; first | done | rfl, ?_⟩
  repeat(first|with_reducible first|refine vmR ?_|refine vmV rfl ?_|refine vmW rfl ?_|refine vmL ?_|refine blockW_y (by decide) ?_|((with_reducible first|apply vmO|apply vmT|apply vmC);case a=>simp [w2, d1, j1];with_reducible first|exact .v|exact .c|exact .t|exact .f))
  (first | apply endW_r | apply endW_n); (case h1 => (simp [Tryz.results65]; first | done | rfl))
  exact ⟨⟨r1, by simp [ownl, hn8], sr1⟩, e04⟩

set_option maxHeartbeats 2000000 in
theorem frames3_ans (b : List UInt8) (v : AV) (h0 : Hp Fm) (k : SV 1 (b.map byteAV) v) (hl : b.length ≤ 16777216) (hp : ∀ z, h0.pol z = false) :
    A Tryz.prog TT (.func 30) [v] h0 (fun r h' => ∃ ws w, r = .tup [w, .int .i64 (lenFr (framesP b))] ∧ SV 1 ws w ∧ F2 (framesP b) ws ∧ HE h0 h') := by
  have c1 := k.cells
  have i1 := k.isCell
  apply A_go Tryz.func30 rfl (by rfl); (case hn => (simp [Tryz.ntmps30]; rfl))
  repeat(first|with_reducible first|refine vmR ?_|refine vmV rfl ?_|refine vmW rfl ?_|refine vmL ?_|refine blockW_y (by decide) ?_|((with_reducible first|apply vmO|apply vmT|apply vmC);case a=>simp;with_reducible first|exact .v|exact .c|exact .t|exact .f))
  refine W_loop (fun m s => ∃ (t : Fm AV) (h : Hp Fm) (done : List (List UInt8)) (i : Nat) (u : AV) (ws : List AV), s = ⟨t, 28, h, none⟩ ∧ m = b.length - i ∧ i ≤ b.length ∧ done ++ framesP (b.drop i) = framesP b ∧ lenFr done = i ∧ tget t 0 = v ∧ tget t 4 = u ∧ tget t 5 = .int .i64 i ∧ AC h0 h 1 ws u ∧ F2 done ws ∧ HE h0 h) b.length
    ⟨_, _, [], 0, .nils, [], rfl, rfl, by omega, rfl, rfl, by simp, by simp, by simp, .inl ⟨rfl, rfl⟩, trivial, HE.refl h0⟩ ?_
  rintro m s ⟨t, h, done, i, u, ws, rfl, rfl, hi, hfr, hln, t0, t4, t5, hu, f2, he⟩
  have uc := hu.sv.cells
  have ui := hu.sv.isCell
  obtain ⟨rd, sd, svd⟩ := k.drop Tryz.underlying22 z5 (k := .i64) (i := (i : Int)) (by omega) (by rw [List.length_map]; omega)
  rw [Int.toNat_natCast, ← List.map_drop] at svd
  have cd := svd.cells
  have id := svd.isCell
  have cdl : (b.drop i).length = b.length - i := List.length_drop
  repeat(first|with_reducible first|refine vmR ?_|refine vmV rfl ?_|refine vmW rfl ?_|refine vmL ?_|refine blockW_y (by decide) ?_|((with_reducible first|apply vmO|apply vmT|apply vmC);case a=>simp [t0, t5, c1, i1, sd, cd, id];with_reducible first|exact .v|exact .c|exact .t|exact .f))
  refine A.mono (first3_ans (b.drop i) rd h svd (by omega)) ?_
  rintro r h1 ⟨hr, e1⟩
  have he1 := he.trans e1
  have p1 : ∀ z, h1.pol z = false := fun z => by rw [he1.pol]; exact hp z
  cases ho : oneP (b.drop i) with
  | none =>
    rw [ho] at hr
    obtain ⟨y, e, rfl, ne⟩ := hr
    rw [framesP_none ho, List.append_nil] at hfr
    refine ⟨_, by simp; first | done | rfl, ?_⟩
    repeat(first|with_reducible first|refine vmR ?_|refine vmV rfl ?_|refine vmW rfl ?_|refine vmL ?_|refine blockW_y (by decide) ?_|((with_reducible first|apply vmO|apply vmT|apply vmC);case a=>simp [t4, t5, ne, uc, ui];with_reducible first|exact .v|exact .c|exact .t|exact .f))
    (first | apply endW_r | apply endW_n); (case h1 => (simp [Tryz.results30]; first | done | rfl))
    exact ⟨ws, u, by rw [← hfr, hln], hu.sv, by rw [← hfr]; exact f2, he1⟩
  | some w =>
    obtain ⟨own, rest⟩ := w
    rw [ho] at hr
    obtain ⟨x, rfl, sx⟩ := hr
    rw [framesP_some ho] at hfr
    have ol := oneP_len ho
    have orr : rest = b.drop (i + (8 + own.length)) := by
      have : rest = (b.drop i).drop (8 + num4 (b.drop i)) ∧ own.length = num4 (b.drop i) := by
        have hoo := ho
        unfold oneP at hoo
        split at hoo
        · cases hoo
        · rename_i q
          split at hoo
          · cases hoo
            exact ⟨rfl, by rw [List.length_take, List.length_drop]; omega⟩
          · cases hoo
      rw [this.1, this.2, List.drop_drop]
    have xc := sx.cells
    have xi := sx.isCell
    obtain ⟨n8, hn8⟩ : ∃ n8, n8 = 8 + own.length := ⟨_, rfl⟩
    rw [← hn8] at orr ⊢
    obtain ⟨j, hj⟩ : ∃ j, j = i + n8 := ⟨_, rfl⟩
    have wj : IntKind.i64.wrap ((i : Int) + (n8 : Int)) = (j : Int) := by rw [wrap64 (by omega) (by omega)]; omega
    have fl := f2.len
    have fc := lenFr_count done
    refine ⟨_, by simp; first | done | rfl, ?_⟩
    repeat(first|with_reducible first|refine vmR ?_|refine vmV rfl ?_|refine vmW rfl ?_|refine vmL ?_|refine blockW_y (by decide) ?_|((with_reducible first|apply vmO|apply vmT|apply vmC);case a=>simp [t4, xc, xi, uc, ui, newSeq, newSl, p1];with_reducible first|exact .v|exact .c|exact .t|exact .f))
    with_reducible apply WO_app_i; (case hw => (simp [t4, xc, xi, uc, ui, newSeq, newSl, p1]; done)); (case ho => rfl); (case hb => rfl); (case ha => (simp [t4, xc, xi, uc, ui, newSeq, newSl, p1]; first | done | exact ⟨rfl, rfl⟩ | rfl)); (case h1 => (simp; first | done | rfl)); (case h2 => (simp; first | done | rfl))
    refine app_then (AC.app (h0 := h0) etBs (hu.of (e1.newSl 1)) (he1.newSl 1) (hp _) (by omega)) ?_
    rintro x4 h4 ⟨ac4, he4, _, _, _⟩
    have e4 := ac4.sv.cells
    have f4 := ac4.sv.isCell
    refine ⟨_, by simp; first | done | rfl, ?_⟩
    repeat(first|with_reducible first|refine vmR ?_|refine vmV rfl ?_|refine vmW rfl ?_|refine vmL ?_|refine blockW_y (by decide) ?_|((with_reducible first|apply vmO|apply vmT|apply vmC);case a=>simp [t5, e4, f4, wj];with_reducible first|exact .v|exact .c|exact .t|exact .f))
    refine ⟨b.length - j, by omega, _, h4, done ++ [own], j, x4, ws ++ [x], rfl, rfl, by omega, ?_, by rw [lenFr_app]; omega, by simp [t0], by simp, by simp, ac4, f2.app sx, he4⟩
    rw [List.append_assoc, hj, ← orr]; exact hfr

set_option maxHeartbeats 2000000 in
theorem read15_ans (b : List UInt8) (v : AV) (h0 : Hp Fm) (k : SV 1 (b.map byteAV) v) (hl : b.length ≤ 200000) (hp : ∀ z, h0.pol z = false) :
    A Tryz.prog TT (.func 31) [v] h0 (fun r h' => ReadGR (readP b) r ∧ HE h0 h') := by
  have c1 := k.cells
  have i1 := k.isCell
  have n1 := k.nm
  obtain ⟨q, hq⟩ : ∃ q, q = h0.no + 1 := ⟨_, rfl⟩
  obtain ⟨h1, hh1⟩ : ∃ h1 : Hp Fm, h1 = { h0 with obj := Mp.set (Mp.set h0.obj h0.no (.row [.int .i64 0, .nils])) q (.row [v, .int .i64 0, .int .i64 0]), no := q + 1 } := ⟨_, rfl⟩
  have e1 : HE h0 h1 := by rw [hh1, hq]; exact ((HE.refl h0).new _).new _
  have q0 : h0.no ≤ q := by omega
  have qz : h0.no ≠ q := by omega
  have gz : Mp.get h1.obj h0.no = some (.row [.int .i64 0, .nils]) := by rw [hh1]; simp [qz]
  have qn : q < h1.no := by rw [hh1]; show q < q + 1; omega
  have k1 : Rd2 h1 q b v (.ok b) := ⟨0, by omega, by rw [hh1]; simp, by simp⟩
  apply A_go Tryz.func31 rfl (by rfl); (case hn => (simp [Tryz.ntmps31]; rfl))
  repeat(first|with_reducible first|refine vmR ?_|refine vmV rfl ?_|refine vmW rfl ?_|refine vmL ?_|refine blockW_y (by decide) ?_|((with_reducible first|apply vmO|apply vmT|apply vmC);case a=>simp [c1, i1];with_reducible first|exact .v|exact .c|exact .t|exact .f))
  rw [← hq, ← hh1]
  clear hh1
  refine A.mono (r2num_ans q b v k (by omega) _ h1 k1 qn (fun z => by rw [e1.pol]; exact hp z)) ?_
  rintro _ h2 ⟨rfl, k2, x2⟩
  have qn2 := Nat.lt_of_lt_of_le qn x2.no
  have e2 : HE h0 h2 := e1.x2 x2 (fun o ho => by rw [ho]; exact q0) (fun _ z => z.elim)
  have gz2 := (x2.obj _ (by omega) (by omega)).trans gz
  have pq : q ≠ h2.no := by omega
  have pz0 : h0.no ≠ h2.no := by omega
  obtain ⟨n, hn⟩ : ∃ n, n = (numX (.ok b)).1 := ⟨_, rfl⟩
  obtain ⟨s, hs⟩ : ∃ s, s = (numX (.ok b)).2 := ⟨_, rfl⟩
  rw [← hn]
  rw [← hs] at k2
  obtain ⟨h3, hh3⟩ : ∃ h3 : Hp Fm, h3 = { h2 with obj := Mp.set (Mp.set h2.obj h2.no (.row [.int .i64 0, .nils])) h2.no (.row [.int .i64 n, .nils]), no := h2.no + 1 } := ⟨_, rfl⟩
  have e3 : HE h0 h3 := by rw [hh3]; exact (e2.new _).set e2.no _
  have g3 : Mp.get h3.obj h2.no = some (.row [.int .i64 n, .nils]) := by rw [hh3]; simp
  have gz3 : Mp.get h3.obj h0.no = some (.row [.int .i64 0, .nils]) := by rw [hh3]; simp [pz0]; exact gz2
  have k3 : Rd2 h3 q b v s := k2.of (by rw [hh3]; simp [pq])
  have mk3 : ∀ (gq : AV) (i x : Int), Mp.get h3.obj q = some (.row [gq, .int .i64 i, .int .i64 x]) → Mp.get h2.obj q = some (.row [gq, .int .i64 i, .int .i64 x]) := by
    intro gq i x z
    rw [hh3] at z
    simpa [pq] using z
  have pn3 : h2.no < h3.no := by rw [hh3]; show h2.no < h2.no + 1; omega
  have zn3 : h0.no < h3.no := by omega
  have ph : h0.no ≤ h2.no := by omega
  refine ⟨_, by simp; first | done | rfl, ?_⟩
  cases hnp : numP b with
  | error e =>
    have hx : numX (.ok b) = (0, .error e) := by unfold numX; simp only [hnp]
    rw [hx] at hs
    rw [hs] at k3
    obtain ⟨i, hi, g, ne⟩ := k3
    have g' := mk3 _ _ _ g
    have pq' := Ne.symm pq
    have pz' := Ne.symm pz0
    repeat(first|with_reducible first|refine vmR ?_|refine vmV rfl ?_|refine vmW rfl ?_|refine vmL ?_|refine blockW_y (by decide) ?_|((with_reducible first|apply vmO|apply vmT|apply vmC);case a=>simp [g', ne, gz2, pq, pq', pz0, pz'];with_reducible first|exact .v|exact .c|exact .t|exact .f))
    (first | apply endW_r | apply endW_n); (case h1 => (simp [Tryz.results31, pz0, pz']; first | done | rfl))
    rw [readP_no hnp]
    exact ⟨⟨n, .nils, [], by simp, .inl ⟨rfl, rfl⟩⟩, ((e2.new _).set e2.no _).set (Nat.le_refl _) _⟩
  | ok pr =>
    obtain ⟨m, rb⟩ := pr
    have hx : numX (.ok b) = (m, .ok rb) := by unfold numX; simp only [hnp]
    rw [hx] at hs hn
    have hnm : n = m := hn
    rw [hs] at k3
    obtain ⟨i, hi, g, hrb⟩ := k3
    have g' := mk3 _ _ _ g
    have pq' := Ne.symm pq
    have pz' := Ne.symm pz0
    obtain ⟨rv, hrv, srv⟩ := k.drop Tryz.underlying22 z5 (k := .i64) (i := (i : Int)) (by omega) (by rw [List.length_map]; omega)
    rw [Int.toNat_natCast, ← List.map_drop, ← hrb] at srv
    have rc := srv.cells
    have ri := srv.isCell
    have rbl : rb.length ≤ b.length := by rw [hrb, List.length_drop]; omega
    repeat(first|with_reducible first|refine vmR ?_|refine vmV rfl ?_|refine vmW rfl ?_|refine vmL ?_|refine blockW_y (by decide) ?_|((with_reducible first|apply vmO|apply vmT|apply vmC);case a=>simp [g', pq, pq', c1, i1, hrv, rc, ri];with_reducible first|exact .v|exact .c|exact .t|exact .f))
    rw [← hh3]
    refine A.mono (all6_ans rb rv h3 srv (by omega) (fun z => by rw [e3.pol]; exact hp z)) ?_
    rintro r h4 ⟨hr, e4⟩
    have g4 := (e4.obj _ pn3).trans g3
    have gz4 := (e4.obj _ zn3).trans gz3
    have pn4 := Nat.lt_of_lt_of_le pn3 e4.no
    have zn4 := Nat.lt_of_lt_of_le zn3 e4.no
    have e04 := e3.trans e4
    cases ha : allX rb with
    | error e =>
      rw [ha] at hr
      obtain ⟨rfl, ne⟩ := hr
      rw [readP_er hnp ha]
      refine ⟨_, by simp; first | done | rfl, ?_⟩
      have su0 : SV 8 ((([] : List Ver)).map encV) .nils := (.inl ⟨rfl, rfl⟩)
      have uc0 := su0.cells
      have ui0 := su0.isCell
      repeat(first|with_reducible first|refine vmR ?_|refine vmV rfl ?_|refine vmW rfl ?_|refine vmL ?_|refine blockW_y (by decide) ?_|((with_reducible first|apply vmO|apply vmT|apply vmC);case a=>simp [g4, uc0, ui0];with_reducible first|exact .v|exact .c|exact .t|exact .f))
      obtain ⟨h5, hh5⟩ : ∃ h5 : Hp Fm, h5 = { h4 with obj := Mp.set h4.obj h2.no (.row [.int .i64 n, .nils]) } := ⟨_, rfl⟩
      rw [← hh5]
      have e5 : HE h0 h5 := by rw [hh5]; exact e04.set (o := h2.no) e2.no _
      have g5 : Mp.get h5.obj h2.no = some (.row [.int .i64 n, .nils]) := by rw [hh5]; simp
      have gz5 : Mp.get h5.obj h0.no = some (.row [.int .i64 0, .nils]) := by rw [hh5]; simp [pz0]; exact gz4
      have pn5 : h2.no < h5.no := by rw [hh5]; exact pn4
      have zn5 : h0.no < h5.no := by rw [hh5]; exact zn4
      clear hh5
      refine A.mono (may15_ans n (([] : List Ver)) .nils h5 su0 (by simp) (by simp) (fun z => by rw [e5.pol]; exact hp z)) ?_
      rintro _ h6 ⟨rfl, e6⟩
      have g6 := (e6.obj _ pn5).trans g5
      have gz6 := (e6.obj _ zn5).trans gz5
      cases hm : GMay n ([] : List Ver)
      all_goals
        refine ⟨_, by simp; first | done | rfl, ?_⟩
        repeat(first|with_reducible first|refine vmR ?_|refine vmV rfl ?_|refine vmW rfl ?_|refine vmL ?_|refine blockW_y (by decide) ?_|((with_reducible first|apply vmO|apply vmT|apply vmC);case a=>simp [g6, gz6, ne, pz0, pz'];with_reducible first|exact .v|exact .c|exact .t|exact .f))
        (first | apply endW_r | apply endW_n); (case h1 => (simp [Tryz.results31, pz0, pz']; first | done | rfl))
        exact ⟨⟨n, .nils, [], by simp, .inl ⟨rfl, rfl⟩⟩, (e5.trans e6).set (Nat.le_refl _) _⟩
    | ok vs =>
      rw [ha] at hr
      obtain ⟨u, rfl, su⟩ := hr
      have uc := su.cells
      have ui := su.isCell
      obtain ⟨hvl, hva⟩ := allX_all ha
      rw [readP_can hnp ha, ← hnm]
      refine ⟨_, by simp; first | done | rfl, ?_⟩
      have su0 : SV 8 ((vs).map encV) u := su
      have uc0 := su0.cells
      have ui0 := su0.isCell
      repeat(first|with_reducible first|refine vmR ?_|refine vmV rfl ?_|refine vmW rfl ?_|refine vmL ?_|refine blockW_y (by decide) ?_|((with_reducible first|apply vmO|apply vmT|apply vmC);case a=>simp [g4, uc0, ui0];with_reducible first|exact .v|exact .c|exact .t|exact .f))
      obtain ⟨h5, hh5⟩ : ∃ h5 : Hp Fm, h5 = { h4 with obj := Mp.set h4.obj h2.no (.row [.int .i64 n, u]) } := ⟨_, rfl⟩
      rw [← hh5]
      have e5 : HE h0 h5 := by rw [hh5]; exact e04.set (o := h2.no) e2.no _
      have g5 : Mp.get h5.obj h2.no = some (.row [.int .i64 n, u]) := by rw [hh5]; simp
      have gz5 : Mp.get h5.obj h0.no = some (.row [.int .i64 0, .nils]) := by rw [hh5]; simp [pz0]; exact gz4
      have pn5 : h2.no < h5.no := by rw [hh5]; exact pn4
      have zn5 : h0.no < h5.no := by rw [hh5]; exact zn4
      clear hh5
      refine A.mono (may15_ans n (vs) u h5 su0 (by omega) (fun v hv => by have := (hva v hv).2.1; omega) (fun z => by rw [e5.pol]; exact hp z)) ?_
      rintro _ h6 ⟨rfl, e6⟩
      have g6 := (e6.obj _ pn5).trans g5
      have gz6 := (e6.obj _ zn5).trans gz5
      cases hm : GMay n vs with
      | false =>
        rw [if_neg (by simp)]
        refine ⟨_, by simp; first | done | rfl, ?_⟩
        repeat(first|with_reducible first|refine vmR ?_|refine vmV rfl ?_|refine vmW rfl ?_|refine vmL ?_|refine blockW_y (by decide) ?_|((with_reducible first|apply vmO|apply vmT|apply vmC);case a=>simp [g6, gz6, uc, ui, pz0, pz'];with_reducible first|exact .v|exact .c|exact .t|exact .f))
        (first | apply endW_r | apply endW_n); (case h1 => (simp [Tryz.results31, pz0, pz']; first | done | rfl))
        exact ⟨⟨n, u, vs, by simp, su⟩, (e5.trans e6).set (Nat.le_refl _) _⟩
      | true =>
        rw [if_pos rfl]
        refine ⟨_, by simp; first | done | rfl, ?_⟩
        repeat(first|with_reducible first|refine vmR ?_|refine vmV rfl ?_|refine vmW rfl ?_|refine vmL ?_|refine blockW_y (by decide) ?_|((with_reducible first|apply vmO|apply vmT|apply vmC);case a=>simp [g6, gz6, uc, ui, pz0, pz'];with_reducible first|exact .v|exact .c|exact .t|exact .f))
        (first | apply endW_r | apply endW_n); (case h1 => (simp [Tryz.results31, pz0, pz']; first | done | rfl))
        exact ⟨⟨u, by simp, su⟩, (e5.trans e6).set (Nat.le_refl _) _⟩

set_option maxHeartbeats 4000000 in
theorem groups15_ans (b : List UInt8) (v : AV) (h0 : Hp Fm) (k : SV 1 (b.map byteAV) v) (hl : b.length ≤ 200000) (hp : ∀ z, h0.pol z = false) :
    A Tryz.prog TT (.func 8) [v] h0 (fun r h' => ∃ ws, SV 2 ws r ∧ GF (grP 0 (framesP b)).1 ws ∧ HE h0 h') := by
  have c1 := k.cells
  have i1 := k.isCell
  apply A_go Tryz.func8 rfl (by rfl); (case hn => (simp [Tryz.ntmps8]; rfl))
  repeat(first|with_reducible first|refine vmR ?_|refine vmV rfl ?_|refine vmW rfl ?_|refine vmL ?_|refine blockW_y (by decide) ?_|((with_reducible first|apply vmO|apply vmT|apply vmC);case a=>simp [c1, i1];with_reducible first|exact .v|exact .c|exact .t|exact .f))
  refine A.mono (frames3_ans b v h0 k (by omega) hp) ?_
  rintro _ h2 ⟨fv, w2, rfl, sw, f2, e2⟩
  have wc := sw.cells
  have wi := sw.isCell
  have wn := sw.nm
  have wl := sw.len Tryz.underlying58
  have fl := f2.len
  have lgl := framesP_len b
  have lgc := lenFr_count (framesP b)
  obtain ⟨fr, hfr⟩ : ∃ fr, fr = framesP b := ⟨_, rfl⟩
  have fe : ∀ f ∈ fr, f.length + 8 ≤ b.length := fun f hf => frame_each (by rw [← hfr]; exact hf)
  rw [← hfr] at f2 fl lgl lgc ⊢
  rw [fl] at wl
  refine ⟨_, by simp; first | done | rfl, ?_⟩
  repeat(first|with_reducible first|refine vmR ?_|refine vmV rfl ?_|refine vmW rfl ?_|refine vmL ?_|refine blockW_y (by decide) ?_|((with_reducible first|apply vmO|apply vmT|apply vmC);case a=>simp [wc, wi, wn, wl];with_reducible first|exact .v|exact .c|exact .t|exact .f))
  refine W_loop (fun mm s => ∃ (t : Fm AV) (h : Hp Fm) (i : Nat) (done : List (Int × List Ver)) (last : Int) (gv : AV) (ws : List AV), s = ⟨t, 45, h, none⟩ ∧ mm = fr.length - i ∧ i ≤ fr.length ∧ done.length ≤ i ∧ last = lastE 0 done ∧ (grP 0 fr).1 = done ++ (grP last (fr.drop i)).1 ∧ tget t 3 = gv ∧ tget t 4 = w2 ∧ tget t 6 = .int .i64 last ∧ tget t 7 = .int .i64 i ∧ AC h0 h 2 ws gv ∧ GF done ws ∧ HE h0 h) fr.length
    ⟨_, _, 0, [], 0, .nils, [], rfl, rfl, by omega, by simp, rfl, by simp, by simp, by simp, by simp, by simp, .inl ⟨rfl, rfl⟩, trivial, e2⟩ ?_
  rintro mm s ⟨t, h, i, done, last, gv, ws, rfl, rfl, hi, hdi, hla, hgr, t3, t4, t6, t7, hu, gf, he⟩
  have uc := hu.sv.cells
  have ui := hu.sv.isCell
  have hph : ∀ z, h.pol z = false := fun z => by rw [he.pol]; exact hp z
  by_cases qi : i < fr.length
  case neg =>
    have qi' : ¬ (i : Int) < fr.length := by omega
    have ed : fr.drop i = [] := List.drop_eq_nil_iff.mpr (by omega)
    rw [ed, grP] at hgr
    simp only [List.append_nil] at hgr
    repeat(first|with_reducible first|refine vmR ?_|refine vmV rfl ?_|refine vmW rfl ?_|refine vmL ?_|refine blockW_y (by decide) ?_|((with_reducible first|apply vmO|apply vmT|apply vmC);case a=>simp [t3, t4, t7, wn, wl, wc, wi, qi, qi', uc, ui];with_reducible first|exact .v|exact .c|exact .t|exact .f))
    (first | apply endW_r | apply endW_n); (case h1 => (simp [Tryz.results8]; first | done | rfl))
    rw [hgr]
    exact ⟨ws, hu.sv, gf, he⟩
  have qi' : (i : Int) < fr.length := by omega
  have hfv : i < fv.length := by omega
  obtain ⟨f, hf⟩ : ∃ f, f = fr[i] := ⟨_, rfl⟩
  have ed : fr.drop i = f :: fr.drop (i + 1) := by rw [hf]; exact List.drop_eq_getElem_cons qi
  have svf : SV 1 (f.map byteAV) fv[i] := by rw [hf]; exact f2.at i qi hfv
  have flen := fe f (by rw [hf]; exact List.getElem_mem qi)
  have ix := sw.idx (k := .i64) (i := (i : Int)) Tryz.underlying58 z22 (by omega) (by simpa using hfv)
  obtain ⟨fa, hfa⟩ : ∃ fa, fa = fv[i] := ⟨_, rfl⟩
  simp only [Int.toNat_natCast, ← hfa] at ix
  rw [← hfa] at svf
  rw [ed] at hgr
  have fc := svf.cells
  have fi := svf.isCell
  have wi1 : IntKind.i64.wrap ((i : Int) + 1) = ((i + 1 : Nat) : Int) := by rw [wrap64 (by omega) (by omega)]; simp
  repeat(first|with_reducible first|refine vmR ?_|refine vmV rfl ?_|refine vmW rfl ?_|refine vmL ?_|refine blockW_y (by decide) ?_|((with_reducible first|apply vmO|apply vmT|apply vmC);case a=>simp [t3, t4, t7, wn, wl, wc, wi, qi, qi', ix, fc, fi];with_reducible first|exact .v|exact .c|exact .t|exact .f))
  refine A.mono (read15_ans f fa h svf (by omega) hph) ?_
  rintro r h3 ⟨hr3, e3⟩
  have e03 := he.trans e3
  have hu3 := hu.of e3
  have p3 : ∀ z, h3.pol z = false := fun z => by rw [e03.pol]; exact hp z
  cases hrp : readP f with
  | none =>
    rw [hrp] at hr3
    obtain ⟨n0, u, vs, rfl, su⟩ := hr3
    have c3 := su.cells
    have i3 := su.isCell
    rw [grP_none hrp] at hgr
    simp only [List.append_nil] at hgr
    refine ⟨_, by simp; first | done | rfl, ?_⟩
    repeat(first|with_reducible first|refine vmR ?_|refine vmV rfl ?_|refine vmW rfl ?_|refine vmL ?_|refine blockW_y (by decide) ?_|((with_reducible first|apply vmO|apply vmT|apply vmC);case a=>simp [t3, c3, i3, uc, ui];with_reducible first|exact .v|exact .c|exact .t|exact .f))
    (first | apply endW_r | apply endW_n); (case h1 => (simp [Tryz.results8]; first | done | rfl))
    rw [hgr]
    exact ⟨ws, hu.sv, gf, (e03.new _).set e03.no _⟩
  | some pr =>
    obtain ⟨ep, vs⟩ := pr
    rw [hrp] at hr3
    obtain ⟨u, rfl, su⟩ := hr3
    have c3 := su.cells
    have i3 := su.isCell
    refine ⟨_, by simp; first | done | rfl, ?_⟩
    by_cases qe : ep ≤ last
    · rw [grP_old hrp qe] at hgr
      simp only [List.append_nil] at hgr
      repeat(first|with_reducible first|refine vmR ?_|refine vmV rfl ?_|refine vmW rfl ?_|refine vmL ?_|refine blockW_y (by decide) ?_|((with_reducible first|apply vmO|apply vmT|apply vmC);case a=>simp [t3, t6, c3, i3, uc, ui, qe];with_reducible first|exact .v|exact .c|exact .t|exact .f))
      (first | apply endW_r | apply endW_n); (case h1 => (simp [Tryz.results8]; first | done | rfl))
      rw [hgr]
      exact ⟨ws, hu.sv, gf, (e03.new _).set e03.no _⟩
    · rw [grP_new hrp qe] at hgr
      simp only at hgr
      have e4 := ((HE.refl h3).new (.row [.int .i64 0, .nils])).set (Nat.le_refl _) (.row [.int .i64 ep, u])
      have en1 := e4.newSl 1
      repeat(first|with_reducible first|refine vmR ?_|refine vmV rfl ?_|refine vmW rfl ?_|refine vmL ?_|refine blockW_y (by decide) ?_|((with_reducible first|apply vmO|apply vmT|apply vmC);case a=>simp [t3, t6, c3, i3, uc, ui, qe, newSeq, newSl, p3];with_reducible first|exact .v|exact .c|exact .t|exact .f))
      with_reducible apply WO_app_i; (case hw => (simp [t3, t6, c3, i3, uc, ui, qe, newSeq, newSl, p3]; done)); (case ho => rfl); (case hb => rfl); (case ha => (simp [t3, t6, c3, i3, uc, ui, qe, newSeq, newSl, p3]; first | done | exact ⟨rfl, rfl⟩ | rfl)); (case h1 => (simp; first | done | rfl)); (case h2 => (simp; first | done | rfl))
      refine app_then (AC.app (h0 := h0) etG (hu3.of en1) (e03.trans en1) (hp _) (by have := gf.len; simp; omega)) ?_
      rintro x5 h5 ⟨ac5, he5, ho5, hn5, _⟩
      have e5 := ac5.sv.cells
      have f5 := ac5.sv.isCell
      have g5 : Mp.get h5.obj h3.no = some (.row [.int .i64 ep, u]) := by rw [ho5]; simp
      refine ⟨_, by simp; first | done | rfl, ?_⟩
      repeat(first|with_reducible first|refine vmR ?_|refine vmV rfl ?_|refine vmW rfl ?_|refine vmL ?_|refine blockW_y (by decide) ?_|((with_reducible first|apply vmO|apply vmT|apply vmC);case a=>simp [e5, f5, g5, t7, wi1];with_reducible first|exact .v|exact .c|exact .t|exact .f))
      refine ⟨fr.length - (i + 1), by omega, _, h5, i + 1, done ++ [(ep, vs)], ep, x5, _, rfl, rfl, by omega, by simp; omega, by rw [lastE_app], ?_, by simp, by simp [t4], by simp, by simp, ac5, gf.app su, he5⟩
      rw [hgr, List.append_assoc, List.singleton_append]
end Go.Vn
