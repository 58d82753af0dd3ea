/- What functions of the program come to, in the value machine (a part of the proof of the claim's statement). No condition. -/
import Derived.Test.YtnbflhcbhicgmaaGreatVnI1
set_option linter.unusedSimpArgs false
set_option linter.unusedVariables false
set_option maxRecDepth 20000
namespace Go.Vn
open Go.Proofs

theorem numX_lt (s : RdS) : (numX s).1 < 4611686018427387904 := by
  cases s with
  | error e => simp [numX]
  | ok b =>
    cases h : numP b with
    | error e =>
      have : numX (.ok b) = (0, .error e) := by unfold numX; simp only [h]
      rw [this]; simp
    | ok p =>
      obtain ⟨n, l⟩ := p
      have : numX (.ok b) = (n, .ok l) := by unfold numX; simp only [h]
      rw [this]; exact (numP_len h).2
theorem textX_len (most : Nat) (s : RdS) : (textX most s).1.length ≤ most := by
  unfold textX
  cases (numX s).2 with
  | error e => simp
  | ok b =>
    simp only
    split
    · simp
    · split
      · simp
      · rw [List.length_take]; omega

def errOf : RdS → Int
  | .ok _ => 0
  | .error e => e
def restOf : RdS → Int
  | .ok b => b.length
  | .error _ => 0
theorem rerr_ans (q : Nat) (s : RdS) (h0 : Hp Fm) (k : RdR h0 q s) : A Tryz.prog TT (.func 70) [.ptr q 0] h0 (fun r h' => r = .int .i64 (errOf s) ∧ h' = h0) := by
  cases s with
  | error e =>
    have g := k.1
    apply A_go Tryz.func70 rfl (by rfl); (case hn => (simp [Tryz.ntmps70]; rfl))
    repeat(first|with_reducible first|refine vmR ?_|refine vmV rfl ?_|refine vmW rfl ?_|refine vmL ?_|refine blockW_y (by decide) ?_|((with_reducible first|apply vmO|apply vmT|apply vmC);case a=>simp [g];with_reducible first|exact .v|exact .c|exact .t|exact .f))
    (first | apply endW_r | apply endW_n); (case h1 => (simp [Tryz.results70]; first | done | rfl))
    exact ⟨rfl, rfl⟩
  | ok b =>
    obtain ⟨_, bv, g, _⟩ := k
    apply A_go Tryz.func70 rfl (by rfl); (case hn => (simp [Tryz.ntmps70]; rfl))
    repeat(first|with_reducible first|refine vmR ?_|refine vmV rfl ?_|refine vmW rfl ?_|refine vmL ?_|refine blockW_y (by decide) ?_|((with_reducible first|apply vmO|apply vmT|apply vmC);case a=>simp [g];with_reducible first|exact .v|exact .c|exact .t|exact .f))
    (first | apply endW_r | apply endW_n); (case h1 => (simp [Tryz.results70]; first | done | rfl))
    exact ⟨rfl, rfl⟩
theorem rrest_ans (q : Nat) (s : RdS) (h0 : Hp Fm) (k : RdR h0 q s) : A Tryz.prog TT (.func 69) [.ptr q 0] h0 (fun r h' => r = .int .i64 (restOf s) ∧ h' = h0) := by
  cases s with
  | error e =>
    have g := k.1
    apply A_go Tryz.func69 rfl (by rfl); (case hn => (simp [Tryz.ntmps69]; rfl))
    repeat(first|with_reducible first|refine vmR ?_|refine vmV rfl ?_|refine vmW rfl ?_|refine vmL ?_|refine blockW_y (by decide) ?_|((with_reducible first|apply vmO|apply vmT|apply vmC);case a=>simp [g];with_reducible first|exact .v|exact .c|exact .t|exact .f))
    (first | apply endW_r | apply endW_n); (case h1 => (simp [Tryz.results69]; first | done | rfl))
    exact ⟨rfl, rfl⟩
  | ok b =>
    obtain ⟨_, bv, g, sv⟩ := k
    have c1 := sv.cells
    have i1 := sv.isCell
    have n1 := sv.nm
    have l1 := sv.len Tryz.underlying58
    rw [List.length_map] at l1
    apply A_go Tryz.func69 rfl (by rfl); (case hn => (simp [Tryz.ntmps69]; rfl))
    repeat(first|with_reducible first|refine vmR ?_|refine vmV rfl ?_|refine vmW rfl ?_|refine vmL ?_|refine blockW_y (by decide) ?_|((with_reducible first|apply vmO|apply vmT|apply vmC);case a=>simp [g, c1, i1, n1, l1];with_reducible first|exact .v|exact .c|exact .t|exact .f))
    (first | apply endW_r | apply endW_n); (case h1 => (simp [Tryz.results69]; first | done | rfl))
    exact ⟨rfl, rfl⟩

theorem vread_ans (b : List UInt8) (v : AV) (h0 : Hp Fm) (k : SV 1 (b.map byteAV) v) (hl : b.length ≤ 16777216) (hp : h0.pol 5 = false) :
    A Tryz.prog TT (.func 66) [v] h0 (fun r h' => ∃ q, r = .ptr q 0 ∧ RdR h' q (.ok b) ∧ h0.no ≤ q ∧ q < h'.no ∧ HE h0 h') := by
  have c1 := k.cells
  have i1 := k.isCell
  apply A_go Tryz.func66 rfl (by rfl); (case hn => (simp [Tryz.ntmps66]; rfl))
  repeat(first|with_reducible first|refine vmR ?_|refine vmV rfl ?_|refine vmW rfl ?_|refine vmL ?_|refine blockW_y (by decide) ?_|((with_reducible first|apply vmO|apply vmT|apply vmC);case a=>simp [c1, i1];with_reducible first|exact .v|exact .c|exact .t|exact .f))
  refine A.mono (clonea_ans b v h0 k (by omega) hp) ?_
  rintro u h1 ⟨a1, e1⟩
  have uc := a1.sv.cells
  have ui := a1.sv.isCell
  refine ⟨_, by simp; first | done | rfl, ?_⟩
  repeat(first|with_reducible first|refine vmR ?_|refine vmV rfl ?_|refine vmW rfl ?_|refine vmL ?_|refine blockW_y (by decide) ?_|((with_reducible first|apply vmO|apply vmT|apply vmC);case a=>simp [uc, ui];with_reducible first|exact .v|exact .c|exact .t|exact .f))
  (first | apply endW_r | apply endW_n); (case h1 => (simp [Tryz.results66]; first | done | rfl))
  exact ⟨h1.no, rfl, ⟨hl, u, by simp, a1.sv⟩, e1.no, by show h1.no < h1.no + 1; omega, e1.new _⟩

set_option maxHeartbeats 2000000 in
theorem rtext_ans (q most : Nat) (hm : most ≤ 1000000) (s : RdS) (h0 : Hp Fm) (k : RdR h0 q s) (hn : q < h0.no) :
    A Tryz.prog TT (.func 96) [.ptr q 0, .int .i64 most] h0 (fun r h' => r = .str (textX most s).1 ∧ RdR h' q (textX most s).2 ∧ HX (fun o => o = q) (fun _ => False) h0 h') := by
  unfold textX
  have nl := numX_lt s
  apply A_go Tryz.func96 rfl (by rfl); (case hn => (simp [Tryz.ntmps96]; rfl))
  repeat(first|with_reducible first|refine vmR ?_|refine vmV rfl ?_|refine vmW rfl ?_|refine vmL ?_|refine blockW_y (by decide) ?_|((with_reducible first|apply vmO|apply vmT|apply vmC);case a=>simp;with_reducible first|exact .v|exact .c|exact .t|exact .f))
  refine A.mono (vnum_ans q s h0 k hn) ?_
  rintro _ h1 ⟨rfl, k1, x1⟩
  have n1 := Nat.lt_of_lt_of_le hn x1.no
  obtain ⟨n, hnn⟩ : ∃ n, n = (numX s).1 := ⟨_, rfl⟩
  rw [← hnn] at nl ⊢
  cases hs : (numX s).2 with
  | error e =>
    rw [hs] at k1
    obtain ⟨g, ne⟩ := k1
    refine ⟨_, by simp; first | done | rfl, ?_⟩
    repeat(first|with_reducible first|refine vmR ?_|refine vmV rfl ?_|refine vmW rfl ?_|refine vmL ?_|refine blockW_y (by decide) ?_|((with_reducible first|apply vmO|apply vmT|apply vmC);case a=>simp [g, ne];with_reducible first|exact .v|exact .c|exact .t|exact .f))
    (first | apply endW_r | apply endW_n); (case h1 => (simp [Tryz.results96]; first | done | rfl))
    exact ⟨by simp, ⟨g, ne⟩, x1⟩
  | ok b =>
    rw [hs] at k1
    obtain ⟨hl, bv, g, sv⟩ := k1
    have c1 := sv.cells
    have i1 := sv.isCell
    have m1 := sv.nm
    have l1 := sv.len Tryz.underlying58
    rw [List.length_map] at l1
    refine ⟨_, by simp; first | done | rfl, ?_⟩
    simp only
    by_cases q1 : most < n
    · have q1' : (most : Int) < n := by omega
      rw [if_pos q1]
      repeat(first|with_reducible first|refine vmR ?_|refine vmV rfl ?_|refine vmW rfl ?_|refine vmL ?_|refine blockW_y (by decide) ?_|((with_reducible first|apply vmO|apply vmT|apply vmC);case a=>simp [g, q1, q1'];with_reducible first|exact .v|exact .c|exact .t|exact .f))
      refine A.mono (fail_ans q bv 5 h1 g n1) ?_
      rintro r h2 ⟨g2, x2⟩
      refine ⟨_, by simp; first | done | rfl, ?_⟩
      repeat(first|with_reducible first|refine vmR ?_|refine vmV rfl ?_|refine vmW rfl ?_|refine vmL ?_|refine blockW_y (by decide) ?_|((with_reducible first|apply vmO|apply vmT|apply vmC);case a=>simp;with_reducible first|exact .v|exact .c|exact .t|exact .f))
      (first | apply endW_r | apply endW_n); (case h1 => (simp [Tryz.results96]; first | done | rfl))
      exact ⟨by simp, ⟨g2, by decide⟩, x1.trans x2⟩
    have q1' : ¬ (most : Int) < n := by omega
    rw [if_neg q1]
    by_cases q2 : b.length < n
    · have q2' : (b.length : Int) < n := by omega
      rw [if_pos q2]
      repeat(first|with_reducible first|refine vmR ?_|refine vmV rfl ?_|refine vmW rfl ?_|refine vmL ?_|refine blockW_y (by decide) ?_|((with_reducible first|apply vmO|apply vmT|apply vmC);case a=>simp [g, q1, q1', c1, i1, m1, l1, q2, q2'];with_reducible first|exact .v|exact .c|exact .t|exact .f))
      refine A.mono (fail_ans q bv 3 h1 g n1) ?_
      rintro r h2 ⟨g2, x2⟩
      refine ⟨_, by simp; first | done | rfl, ?_⟩
      repeat(first|with_reducible first|refine vmR ?_|refine vmV rfl ?_|refine vmW rfl ?_|refine vmL ?_|refine blockW_y (by decide) ?_|((with_reducible first|apply vmO|apply vmT|apply vmC);case a=>simp;with_reducible first|exact .v|exact .c|exact .t|exact .f))
      (first | apply endW_r | apply endW_n); (case h1 => (simp [Tryz.results96]; first | done | rfl))
      exact ⟨by simp, ⟨g2, by decide⟩, x1.trans x2⟩
    have q2' : ¬ (b.length : Int) < n := by omega
    rw [if_neg q2]
    obtain ⟨r1, s1, sv1⟩ := sv.take Tryz.underlying58 z5 (k := .i64) (i := (n : Int)) (by omega) (by rw [List.length_map]; omega)
    rw [Int.toNat_natCast, ← List.map_take] at sv1
    obtain ⟨r2, s2, sv2⟩ := sv.drop Tryz.underlying58 z5 (k := .i64) (i := (n : Int)) (by omega) (by rw [List.length_map]; omega)
    rw [Int.toNat_natCast, ← List.map_drop] at sv2
    have d1 := sv1.cells
    have j1 := sv1.isCell
    have d2 := sv2.cells
    have j2 := sv2.isCell
    have cv := fun h => conv_txt h sv1
    repeat(first|with_reducible first|refine vmR ?_|refine vmV rfl ?_|refine vmW rfl ?_|refine vmL ?_|refine blockW_y (by decide) ?_|((with_reducible first|apply vmO|apply vmT|apply vmC);case a=>simp [g, q1, q1', c1, i1, m1, l1, q2, q2', s1, s2, d1, j1, d2, j2, cv];with_reducible first|exact .v|exact .c|exact .t|exact .f))
    (first | apply endW_r | apply endW_n); (case h1 => (simp [Tryz.results96]; first | done | rfl))
    refine ⟨by simp, ⟨by rw [List.length_drop]; omega, r2, by simp, sv2⟩, ?_⟩
    exact (x1.trans (HX.refl (fun o => o = q) (fun _ => False) h1)).set (fun _ => rfl) _

def zeroV : Ver := ⟨[], 0, 0, 0, 0, 0, [], false⟩
def verV (s : RdS) : Ver × Nat × RdS :=
  let a := numX s
  let b := numX a.2
  let c := numX b.2
  let d := numX c.2
  let e := numX d.2
  let g := numX e.2
  let k := textX 100 g.2
  let w := textX 200 k.2
  (⟨k.1, a.1, b.1, c.1, d.1, (d.1 : Int) + e.1, w.1, decide (g.1 = 1)⟩, g.1, w.2)
def verX (s : RdS) : Except Int Ver × RdS := match (verV s).2.2 with
  | .error e => (.error e, .error e)
  | .ok r => if 1 < (verV s).2.1 ∨ VMay (verV s).1 = false then (.error 2, .ok r) else (.ok (verV s).1, .ok r)
def VerR (x : Except Int Ver) (r : AV) : Prop := match x with
  | .ok v => r = .tup [encV v, .int .i64 0]
  | .error e => r = .tup [encV zeroV, .int .i64 e] ∧ e ≠ 0
def vrow (k : List UInt8) (a b c d e : Int) (w : List UInt8) (g : Bool) : List AV := [.str k, .int .i64 a, .int .i64 b, .int .i64 c, .int .i64 d, .int .i64 e, .str w, .bool g]

set_option maxHeartbeats 4000000 in
theorem rread_ans (q : Nat) (s : RdS) (h0 : Hp Fm) (k : RdR h0 q s) (hn : q < h0.no) (hp : ∀ z, h0.pol z = false) :
    A Tryz.prog TT (.func 86) [.ptr q 0] h0 (fun r h' => VerR (verX s).1 r ∧ RdR h' q (verX s).2 ∧ HX (fun o => o = q) (fun _ => False) h0 h') := by
  obtain ⟨a, ha⟩ : ∃ a, a = numX s := ⟨_, rfl⟩
  obtain ⟨b, hb⟩ : ∃ b, b = numX a.2 := ⟨_, rfl⟩
  obtain ⟨c, hc⟩ : ∃ c, c = numX b.2 := ⟨_, rfl⟩
  obtain ⟨d, hd⟩ : ∃ d, d = numX c.2 := ⟨_, rfl⟩
  obtain ⟨e, he⟩ : ∃ e, e = numX d.2 := ⟨_, rfl⟩
  obtain ⟨g, hg⟩ : ∃ g, g = numX e.2 := ⟨_, rfl⟩
  obtain ⟨kk, hk⟩ : ∃ k, k = textX 100 g.2 := ⟨_, rfl⟩
  obtain ⟨w, hw⟩ : ∃ w, w = textX 200 kk.2 := ⟨_, rfl⟩
  have ev : verV s = (⟨kk.1, a.1, b.1, c.1, d.1, (d.1 : Int) + e.1, w.1, decide (g.1 = 1)⟩, g.1, w.2) := by
    unfold verV; simp only [← ha, ← hb, ← hc, ← hd, ← he, ← hg, ← hk, ← hw]
  unfold verX
  rw [ev]
  have ld := numX_lt c.2
  have le := numX_lt d.2
  have lk := textX_len 100 g.2
  rw [← hd] at ld
  rw [← he] at le
  rw [← hk] at lk
  have qn0 : q ≠ h0.no := by omega
  obtain ⟨hz, hhz⟩ : ∃ hz : Hp Fm, hz = { h0 with obj := Mp.set h0.obj h0.no (.row (vrow [] 0 0 0 0 0 [] false)), no := h0.no + 1 } := ⟨_, rfl⟩
  have xz : HX (fun o => o = q) (fun _ => False) h0 hz := by rw [hhz]; exact (HX.refl (fun o => o = q) (fun _ => False) h0).new _
  have gz : Mp.get hz.obj h0.no = some (.row (vrow [] 0 0 0 0 0 [] false)) := by rw [hhz]; simp
  have kz : RdR hz q s := k.of (by rw [hhz]; simp [qn0])
  have nz : q < hz.no := by rw [hhz]; show q < h0.no + 1; omega
  have nz0 : h0.no < hz.no := by rw [hhz]; show h0.no < h0.no + 1; omega
  simp only [vrow] at hhz gz
  apply A_go Tryz.func86 rfl (by rfl); (case hn => (simp [Tryz.ntmps86]; rfl))
  repeat(first|with_reducible first|refine vmR ?_|refine vmV rfl ?_|refine vmW rfl ?_|refine vmL ?_|refine blockW_y (by decide) ?_|((with_reducible first|apply vmO|apply vmT|apply vmC);case a=>simp;with_reducible first|exact .v|exact .c|exact .t|exact .f))
  rw [← hhz]
  have V1 := vnum_ans q s hz kz nz
  rw [← ha] at V1
  refine A.mono V1 ?_
  rintro _ h1 ⟨rfl, k1, x1⟩
  have n1 := Nat.lt_of_lt_of_le nz x1.no
  have V2 := vnum_ans q a.2 h1 k1 n1
  rw [← hb] at V2
  refine ⟨_, by simp; first | done | rfl, ?_⟩
  repeat(first|with_reducible first|refine vmR ?_|refine vmV rfl ?_|refine vmW rfl ?_|refine vmL ?_|refine blockW_y (by decide) ?_|((with_reducible first|apply vmO|apply vmT|apply vmC);case a=>simp;with_reducible first|exact .v|exact .c|exact .t|exact .f))
  refine A.mono V2 ?_
  rintro _ h2 ⟨rfl, k2, x2⟩
  have n2 := Nat.lt_of_lt_of_le n1 x2.no
  have V3 := vnum_ans q b.2 h2 k2 n2
  rw [← hc] at V3
  refine ⟨_, by simp; first | done | rfl, ?_⟩
  repeat(first|with_reducible first|refine vmR ?_|refine vmV rfl ?_|refine vmW rfl ?_|refine vmL ?_|refine blockW_y (by decide) ?_|((with_reducible first|apply vmO|apply vmT|apply vmC);case a=>simp;with_reducible first|exact .v|exact .c|exact .t|exact .f))
  refine A.mono V3 ?_
  rintro _ h3 ⟨rfl, k3, x3⟩
  have n3 := Nat.lt_of_lt_of_le n2 x3.no
  have x03 := ((xz.trans x1).trans x2).trans x3
  have g3 : Mp.get h3.obj h0.no = some (.row (vrow [] 0 0 0 0 0 [] false)) := by
    have x := (x1.trans x2).trans x3
    exact (x.obj _ nz0 (Ne.symm qn0)).trans gz
  have nz3 : h0.no < h3.no := Nat.lt_of_lt_of_le nz0 (((x1.trans x2).trans x3).no)
  obtain ⟨p, hpp⟩ : ∃ p, p = h3.no := ⟨_, rfl⟩
  have pq : p ≠ q := by omega
  have p0 : p ≠ h0.no := by omega
  refine ⟨_, by simp; first | done | rfl, ?_⟩
  repeat(first|with_reducible first|refine vmR ?_|refine vmV rfl ?_|refine vmW rfl ?_|refine vmL ?_|refine blockW_y (by decide) ?_|((with_reducible first|apply vmO|apply vmT|apply vmC);case a=>simp;with_reducible first|exact .v|exact .c|exact .t|exact .f))
  rw [← hpp]
  obtain ⟨h4, hh4⟩ : ∃ h4 : Hp Fm, h4 = { h3 with obj := Mp.set (Mp.set h3.obj p (.row [.str [], .int .i64 0, .int .i64 0, .int .i64 0, .int .i64 0, .int .i64 0, .str [], .bool false])) p (.row [.str [], .int .i64 a.1, .int .i64 b.1, .int .i64 c.1, .int .i64 0, .int .i64 0, .str [], .bool false]), no := p + 1 } := ⟨_, rfl⟩
  have x4 : HX (fun o => o = q) (fun _ => False) h0 h4 := by
    rw [hh4, hpp]; exact (x03.new _).set (fun z => by omega) _
  have g4 : Mp.get h4.obj p = some (.row [.str [], .int .i64 a.1, .int .i64 b.1, .int .i64 c.1, .int .i64 0, .int .i64 0, .str [], .bool false]) := by rw [hh4]; simp
  have g4z : Mp.get h4.obj h0.no = some (.row (vrow [] 0 0 0 0 0 [] false)) := by rw [hh4]; simp [Ne.symm p0]; exact g3
  have k4 : RdR h4 q c.2 := k3.of (by rw [hh4]; simp [Ne.symm pq])
  have n4 : q < h4.no := by rw [hh4]; show q < p + 1; omega
  have pn4 : p < h4.no := by rw [hh4]; show p < p + 1; omega
  have zn4 : h0.no < h4.no := by rw [hh4]; show h0.no < p + 1; omega
  rw [← hh4]
  clear hh4
  have V4 := vnum_ans q c.2 h4 k4 n4
  rw [← hd] at V4
  refine A.mono V4 ?_
  rintro _ h5 ⟨rfl, k5, x5⟩
  have g5 := (x5.obj _ pn4 pq).trans g4
  have n5 := Nat.lt_of_lt_of_le n4 x5.no
  have pn5 := Nat.lt_of_lt_of_le pn4 x5.no
  have zn5 := Nat.lt_of_lt_of_le zn4 x5.no
  have g5z := (x5.obj _ zn4 (Ne.symm qn0)).trans g4z
  refine ⟨_, by simp; first | done | rfl, ?_⟩
  repeat(first|with_reducible first|refine vmR ?_|refine vmV rfl ?_|refine vmW rfl ?_|refine vmL ?_|refine blockW_y (by decide) ?_|((with_reducible first|apply vmO|apply vmT|apply vmC);case a=>simp [g5];with_reducible first|exact .v|exact .c|exact .t|exact .f))
  obtain ⟨h6, hh6⟩ : ∃ h6 : Hp Fm, h6 = { h5 with obj := Mp.set h5.obj p (.row [.str [], .int .i64 a.1, .int .i64 b.1, .int .i64 c.1, .int .i64 d.1, .int .i64 0, .str [], .bool false]) } := ⟨_, rfl⟩
  rw [← hh6]
  have x6 : HX (fun o => o = q) (fun _ => False) h0 h6 := by rw [hh6]; exact (x4.trans (x5.mono (fun _ _ z => z) (fun _ _ z => z))).set (fun z => by omega) _
  have g6 : Mp.get h6.obj p = some (.row [.str [], .int .i64 a.1, .int .i64 b.1, .int .i64 c.1, .int .i64 d.1, .int .i64 0, .str [], .bool false]) := by rw [hh6]; simp
  have g6z : Mp.get h6.obj h0.no = some (.row (vrow [] 0 0 0 0 0 [] false)) := by rw [hh6]; simp [Ne.symm p0]; exact g5z
  have k6 : RdR h6.drew q d.2 := k5.of (by rw [hh6]; simp [Ne.symm pq])
  have n6 : q < h6.drew.no := by rw [hh6]; exact n5
  have pn6 : p < h6.drew.no := by rw [hh6]; exact pn5
  have zn6 : h0.no < h6.drew.no := by rw [hh6]; exact zn5
  clear hh6
  have V5 := vnum_ans q d.2 h6.drew k6 n6
  rw [← he] at V5
  obtain ⟨tt, htt⟩ : ∃ tt : Int, tt = (d.1 : Int) + (e.1 : Int) := ⟨_, rfl⟩
  have wt : IntKind.i64.wrap ((d.1 : Int) + (e.1 : Int)) = tt := by rw [htt]; exact wrap64 (by omega) (by omega)
  rw [← htt]
  (with_reducible refine W_draw_id (pln := true) [0, 1, 2, 3, 4, 5, 6, 7, 8] [(2, (2, [5]))] (by kernel_rfl) rfl ?_)
  repeat(first|with_reducible first|refine vmR ?_|refine vmV rfl ?_|refine vmW rfl ?_|refine vmL ?_|refine blockW_y (by decide) ?_|((with_reducible first|apply vmO|apply vmT|apply vmC);case a=>simp [g6];with_reducible first|exact .v|exact .c|exact .t|exact .f))
  refine A.mono V5 ?_
  rintro _ h7 ⟨rfl, k7, x7⟩
  have g7 := (x7.obj _ pn6 pq).trans g6
  have g7z := (x7.obj _ zn6 (Ne.symm qn0)).trans g6z
  have n7 := Nat.lt_of_lt_of_le n6 x7.no
  have pn7 := Nat.lt_of_lt_of_le pn6 x7.no
  have zn7 := Nat.lt_of_lt_of_le zn6 x7.no
  refine ⟨_, by simp; first | done | rfl, ?_⟩
  repeat(first|with_reducible first|refine vmR ?_|refine vmV rfl ?_|refine vmW rfl ?_|refine vmL ?_|refine blockW_y (by decide) ?_|((with_reducible first|apply vmO|apply vmT|apply vmC);case a=>simp [wt, g7];with_reducible first|exact .v|exact .c|exact .t|exact .f))
  refine ⟨by simp [readSame, beqAV_self, g6, g7]; done, _, by simp; first | done | rfl, ?_⟩
  obtain ⟨h8, hh8⟩ : ∃ h8 : Hp Fm, h8 = { h7 with obj := Mp.set h7.obj p (.row [.str [], .int .i64 a.1, .int .i64 b.1, .int .i64 c.1, .int .i64 d.1, .int .i64 tt, .str [], .bool false]) } := ⟨_, rfl⟩
  rw [← hh8]
  have x8 : HX (fun o => o = q) (fun _ => False) h0 h8 := by rw [hh8]; exact (x6.drew.trans (x7.mono (fun _ _ z => z) (fun _ _ z => z))).set (fun z => by omega) _
  have g8 : Mp.get h8.obj p = some (.row [.str [], .int .i64 a.1, .int .i64 b.1, .int .i64 c.1, .int .i64 d.1, .int .i64 tt, .str [], .bool false]) := by rw [hh8]; simp
  have g8z : Mp.get h8.obj h0.no = some (.row (vrow [] 0 0 0 0 0 [] false)) := by rw [hh8]; simp [Ne.symm p0]; exact g7z
  have k8 : RdR h8 q e.2 := k7.of (by rw [hh8]; simp [Ne.symm pq])
  have n8 : q < h8.no := by rw [hh8]; exact n7
  have pn8 : p < h8.no := by rw [hh8]; exact pn7
  have zn8 : h0.no < h8.no := by rw [hh8]; exact zn7
  clear hh8
  have V6 := vnum_ans q e.2 h8 k8 n8
  rw [← hg] at V6
  repeat(first|with_reducible first|refine vmR ?_|refine vmV rfl ?_|refine vmW rfl ?_|refine vmL ?_|refine blockW_y (by decide) ?_|((with_reducible first|apply vmO|apply vmT|apply vmC);case a=>simp;with_reducible first|exact .v|exact .c|exact .t|exact .f))
  refine A.mono V6 ?_
  rintro _ h9 ⟨rfl, k9, x9⟩
  have g9 := (x9.obj _ pn8 pq).trans g8
  have g9z := (x9.obj _ zn8 (Ne.symm qn0)).trans g8z
  have n9 := Nat.lt_of_lt_of_le n8 x9.no
  have pn9 := Nat.lt_of_lt_of_le pn8 x9.no
  have zn9 := Nat.lt_of_lt_of_le zn8 x9.no
  obtain ⟨gb, hgb⟩ : ∃ gb, gb = decide (g.1 = 1) := ⟨_, rfl⟩
  have hgb' : decide ((g.1 : Int) = 1) = gb := by rw [hgb]; congr 1; simp; omega
  rw [← hgb]
  refine ⟨_, by simp; first | done | rfl, ?_⟩
  repeat(first|with_reducible first|refine vmR ?_|refine vmV rfl ?_|refine vmW rfl ?_|refine vmL ?_|refine blockW_y (by decide) ?_|((with_reducible first|apply vmO|apply vmT|apply vmC);case a=>simp [g9, hgb'];with_reducible first|exact .v|exact .c|exact .t|exact .f))
  obtain ⟨h10, hh10⟩ : ∃ h10 : Hp Fm, h10 = { h9 with obj := Mp.set h9.obj p (.row [.str [], .int .i64 a.1, .int .i64 b.1, .int .i64 c.1, .int .i64 d.1, .int .i64 tt, .str [], .bool gb]) } := ⟨_, rfl⟩
  rw [← hh10]
  have x10 : HX (fun o => o = q) (fun _ => False) h0 h10 := by rw [hh10]; exact (x8.trans (x9.mono (fun _ _ z => z) (fun _ _ z => z))).set (fun z => by omega) _
  have g10 : Mp.get h10.obj p = some (.row [.str [], .int .i64 a.1, .int .i64 b.1, .int .i64 c.1, .int .i64 d.1, .int .i64 tt, .str [], .bool gb]) := by rw [hh10]; simp
  have g10z : Mp.get h10.obj h0.no = some (.row (vrow [] 0 0 0 0 0 [] false)) := by rw [hh10]; simp [Ne.symm p0]; exact g9z
  have k10 : RdR h10 q g.2 := k9.of (by rw [hh10]; simp [Ne.symm pq])
  have n10 : q < h10.no := by rw [hh10]; exact n9
  have pn10 : p < h10.no := by rw [hh10]; exact pn9
  have zn10 : h0.no < h10.no := by rw [hh10]; exact zn9
  clear hh10
  have V7 := rtext_ans q 100 (by omega) g.2 h10 k10 n10
  rw [← hk] at V7
  refine A.mono V7 ?_
  rintro _ h11 ⟨rfl, k11, x11⟩
  have g11 := (x11.obj _ pn10 pq).trans g10
  have g11z := (x11.obj _ zn10 (Ne.symm qn0)).trans g10z
  have n11 := Nat.lt_of_lt_of_le n10 x11.no
  have pn11 := Nat.lt_of_lt_of_le pn10 x11.no
  have zn11 := Nat.lt_of_lt_of_le zn10 x11.no
  have V8 := rtext_ans q 200 (by omega) kk.2 h11 k11 n11
  rw [← hw] at V8
  refine ⟨_, by simp; first | done | rfl, ?_⟩
  repeat(first|with_reducible first|refine vmR ?_|refine vmV rfl ?_|refine vmW rfl ?_|refine vmL ?_|refine blockW_y (by decide) ?_|((with_reducible first|apply vmO|apply vmT|apply vmC);case a=>simp;with_reducible first|exact .v|exact .c|exact .t|exact .f))
  refine A.mono V8 ?_
  rintro _ h12 ⟨rfl, k12, x12⟩
  have g12 := (x12.obj _ pn11 pq).trans g11
  have g12z := (x12.obj _ zn11 (Ne.symm qn0)).trans g11z
  have n12 := Nat.lt_of_lt_of_le n11 x12.no
  have pn12 := Nat.lt_of_lt_of_le pn11 x12.no
  have zn12 := Nat.lt_of_lt_of_le zn11 x12.no
  have x012 := (x10.trans (x11.mono (fun _ _ z => z) (fun _ _ z => z))).trans (x12.mono (fun _ _ z => z) (fun _ _ z => z))
  refine ⟨_, by simp; first | done | rfl, ?_⟩
  repeat(first|with_reducible first|refine vmR ?_|refine vmV rfl ?_|refine vmW rfl ?_|refine vmL ?_|refine blockW_y (by decide) ?_|((with_reducible first|apply vmO|apply vmT|apply vmC);case a=>simp [g12];with_reducible first|exact .v|exact .c|exact .t|exact .f))
  obtain ⟨h13, hh13⟩ : ∃ h13 : Hp Fm, h13 = { h12 with obj := Mp.set (Mp.set h12.obj p (.row [.str kk.1, .int .i64 a.1, .int .i64 b.1, .int .i64 c.1, .int .i64 d.1, .int .i64 tt, .str [], .bool gb])) p (.row [.str kk.1, .int .i64 a.1, .int .i64 b.1, .int .i64 c.1, .int .i64 d.1, .int .i64 tt, .str w.1, .bool gb]) } := ⟨_, rfl⟩
  rw [← hh13]
  have x13 : HX (fun o => o = q) (fun _ => False) h0 h13 := by rw [hh13]; exact (x012.set (o := p) (fun z => by omega) _).set (o := p) (fun z => by omega) _
  have g13 : Mp.get h13.obj p = some (.row [.str kk.1, .int .i64 a.1, .int .i64 b.1, .int .i64 c.1, .int .i64 d.1, .int .i64 tt, .str w.1, .bool gb]) := by rw [hh13]; simp
  have g13z : Mp.get h13.obj h0.no = some (.row [.str [], .int .i64 0, .int .i64 0, .int .i64 0, .int .i64 0, .int .i64 0, .str [], .bool false]) := by rw [hh13]; simp [Ne.symm p0]; exact g12z
  have k13 : RdR h13 q w.2 := k12.of (by rw [hh13]; simp [Ne.symm pq])
  have n13 : q < h13.no := by rw [hh13]; exact n12
  have pn13 : p < h13.no := by rw [hh13]; exact pn12
  have zn13 : h0.no < h13.no := by rw [hh13]; exact zn12
  have p13 : ∀ z, h13.pol z = false := fun z => by rw [x13.pol]; exact hp z
  clear hh13
  refine A.mono (rerr_ans q w.2 h13 k13) ?_
  rintro _ _ ⟨rfl, eh⟩
  rw [eh]
  clear eh
  obtain ⟨ws, hws⟩ : ∃ ws, ws = w.2 := ⟨_, rfl⟩
  rw [← hws] at k13 ⊢
  cases ws with
  | error x =>
    have nx := k13.2
    simp only [errOf]
    refine ⟨_, by simp; first | done | rfl, ?_⟩
    repeat(first|with_reducible first|refine vmR ?_|refine vmV rfl ?_|refine vmW rfl ?_|refine vmL ?_|refine blockW_y (by decide) ?_|((with_reducible first|apply vmO|apply vmT|apply vmC);case a=>simp [nx];with_reducible first|exact .v|exact .c|exact .t|exact .f))
    refine A.mono (rerr_ans q (.error x) h13 k13) ?_
    rintro _ _ ⟨rfl, eh⟩
    rw [eh]
    clear eh
    simp only [errOf]
    refine ⟨_, by simp; first | done | rfl, ?_⟩
    repeat(first|with_reducible first|refine vmR ?_|refine vmV rfl ?_|refine vmW rfl ?_|refine vmL ?_|refine blockW_y (by decide) ?_|((with_reducible first|apply vmO|apply vmT|apply vmC);case a=>simp [g13z];with_reducible first|exact .v|exact .c|exact .t|exact .f))
    (first | apply endW_r | apply endW_n); (case h1 => (simp [Tryz.results86]; first | done | rfl))
    exact ⟨⟨by simp [zeroV], nx⟩, k13.of (by simp [Ne.symm p0, qn0]), x13.set (fun z => by omega) _⟩
  | ok r =>
    simp only [errOf]
    refine ⟨_, by simp; first | done | rfl, ?_⟩
    by_cases qg : 1 < g.1
    · have qg' : (1 : Int) < g.1 := by omega
      rw [if_pos (.inl qg)]
      repeat(first|with_reducible first|refine vmR ?_|refine vmV rfl ?_|refine vmW rfl ?_|refine vmL ?_|refine blockW_y (by decide) ?_|((with_reducible first|apply vmO|apply vmT|apply vmC);case a=>simp [qg, qg', g13z];with_reducible first|exact .v|exact .c|exact .t|exact .f))
      (first | apply endW_r | apply endW_n); (case h1 => (simp [Tryz.results86]; first | done | rfl))
      exact ⟨⟨by simp [zeroV], by decide⟩, k13.of (by simp [Ne.symm p0, qn0]), x13.set (fun z => by omega) _⟩
    have qg' : ¬ (1 : Int) < g.1 := by omega
    have RM := rmay_ans ⟨kk.1, a.1, b.1, c.1, d.1, tt, w.1, gb⟩ h13 (by simp only; omega) p13
    cases hm : VMay ⟨kk.1, a.1, b.1, c.1, d.1, tt, w.1, gb⟩ with
    | false =>
      rw [if_pos (.inr rfl)]
      rw [hm] at RM
      repeat(first|with_reducible first|refine vmR ?_|refine vmV rfl ?_|refine vmW rfl ?_|refine vmL ?_|refine blockW_y (by decide) ?_|((with_reducible first|apply vmO|apply vmT|apply vmC);case a=>simp [qg, qg', g13];with_reducible first|exact .v|exact .c|exact .t|exact .f))
      refine A.mono RM ?_
      rintro _ h14 ⟨rfl, e14⟩
      have g14z := (e14.obj _ zn13).trans g13z
      refine ⟨_, by simp; first | done | rfl, ?_⟩
      repeat(first|with_reducible first|refine vmR ?_|refine vmV rfl ?_|refine vmW rfl ?_|refine vmL ?_|refine blockW_y (by decide) ?_|((with_reducible first|apply vmO|apply vmT|apply vmC);case a=>simp [g14z];with_reducible first|exact .v|exact .c|exact .t|exact .f))
      (first | apply endW_r | apply endW_n); (case h1 => (simp [Tryz.results86]; first | done | rfl))
      exact ⟨⟨by simp [zeroV], by decide⟩, k13.of (by simp [qn0]; exact e14.obj _ n13), (x13.trans (e14.x _ _)).set (fun z => by omega) _⟩
    | true =>
      rw [if_neg (by simp [qg])]
      rw [hm] at RM
      repeat(first|with_reducible first|refine vmR ?_|refine vmV rfl ?_|refine vmW rfl ?_|refine vmL ?_|refine blockW_y (by decide) ?_|((with_reducible first|apply vmO|apply vmT|apply vmC);case a=>simp [qg, qg', g13];with_reducible first|exact .v|exact .c|exact .t|exact .f))
      refine A.mono RM ?_
      rintro _ h14 ⟨rfl, e14⟩
      have g14z := (e14.obj _ zn13).trans g13z
      have g14 := (e14.obj _ pn13).trans g13
      refine ⟨_, by simp; first | done | rfl, ?_⟩
      repeat(first|with_reducible first|refine vmR ?_|refine vmV rfl ?_|refine vmW rfl ?_|refine vmL ?_|refine blockW_y (by decide) ?_|((with_reducible first|apply vmO|apply vmT|apply vmC);case a=>simp [g14z, g14];with_reducible first|exact .v|exact .c|exact .t|exact .f))
      (first | apply endW_r | apply endW_n); (case h1 => (simp [Tryz.results86]; first | done | rfl))
      exact ⟨by simp [VerR], k13.of (by simp [qn0]; exact e14.obj _ n13), (x13.trans (e14.x _ _)).set (fun z => by omega) _⟩
end Go.Vn

set_option maxRecDepth 20000
namespace Go.Vn
open Go.Proofs

theorem numX_step {s : RdS} {r : List UInt8} (h : (numX s).2 = .ok r) : ∃ b, s = .ok b ∧ r.length < b.length := by
  cases s with
  | error e => simp [numX] at h
  | ok b =>
    cases hn : numP b with
    | error e =>
      have : numX (.ok b) = (0, .error e) := by unfold numX; simp only [hn]
      rw [this] at h; cases h
    | ok p =>
      obtain ⟨n, l⟩ := p
      have : numX (.ok b) = (n, .ok l) := by unfold numX; simp only [hn]
      rw [this] at h; cases h
      exact ⟨b, rfl, (numP_len hn).1⟩
theorem textX_step {m : Nat} {s : RdS} {r : List UInt8} (h : (textX m s).2 = .ok r) : ∃ b, s = .ok b ∧ r.length < b.length := by
  unfold textX at h
  cases hn : (numX s).2 with
  | error e => rw [hn] at h; cases h
  | ok b =>
    obtain ⟨b0, e0, h0⟩ := numX_step hn
    rw [hn] at h
    simp only at h
    split at h
    · cases h
    · split at h
      · cases h
      · cases h
        exact ⟨b0, e0, by rw [List.length_drop]; omega⟩
theorem verV_step {s : RdS} {r : List UInt8} (h : (verV s).2.2 = .ok r) : ∃ b, s = .ok b ∧ r.length + 8 ≤ b.length := by
  unfold verV at h
  simp only at h
  obtain ⟨b8, e8, l8⟩ := textX_step h
  obtain ⟨b7, e7, l7⟩ := textX_step e8
  obtain ⟨b6, e6, l6⟩ := numX_step e7
  obtain ⟨b5, e5, l5⟩ := numX_step e6
  obtain ⟨b4, e4, l4⟩ := numX_step e5
  obtain ⟨b3, e3, l3⟩ := numX_step e4
  obtain ⟨b2, e2, l2⟩ := numX_step e3
  obtain ⟨b1, e1, l1⟩ := numX_step e2
  exact ⟨b1, e1, by omega⟩
def VTiny (v : Ver) : Prop := v.key.length ≤ 100 ∧ v.val.length ≤ 200
theorem verX_ok {b : List UInt8} {v : Ver} {s : RdS} (h : verX (.ok b) = (.ok v, s)) : ∃ r, s = .ok r ∧ r.length + 8 ≤ b.length ∧ VMay v = true ∧ VTiny v := by
  unfold verX at h
  cases hv : (verV (.ok b)).2.2 with
  | error e => rw [hv] at h; cases h
  | ok r' =>
    rw [hv] at h
    simp only at h
    split at h
    · cases h
    · rename_i q
      cases h
      obtain ⟨b', e, l⟩ := verV_step hv
      cases e
      refine ⟨r', rfl, l, ?_, ?_⟩
      · cases hm : VMay (verV (.ok b)).1 with
        | true => rfl
        | false => exact absurd (.inr hm) q
      · exact ⟨textX_len 100 _, textX_len 200 _⟩
def allL : Nat → List UInt8 → Except Int (List Ver)
  | 0, b => if b.length = 0 then .ok [] else .error 2
  | n + 1, b => match (verX (.ok b)).1 with
    | .error e => .error e
    | .ok v => match (verX (.ok b)).2 with
      | .error e => .error e
      | .ok r => match allL n r with
        | .ok l => .ok (v :: l)
        | .error e => .error e
def allX (b : List UInt8) : Except Int (List Ver) := match numP b with
  | .error e => .error e
  | .ok (n, r) => allL n r
def cmbA (done : List Ver) : Except Int (List Ver) → Except Int (List Ver)
  | .ok l => .ok (done ++ l)
  | .error e => .error e
theorem cmbA_nil (x : Except Int (List Ver)) : cmbA [] x = x := by cases x <;> rfl
theorem allL_ok {n : Nat} {b r : List UInt8} {v : Ver} (h : verX (.ok b) = (.ok v, .ok r)) (done : List Ver) : cmbA done (allL (n + 1) b) = cmbA (done ++ [v]) (allL n r) := by
  rw [allL, h]
  simp only
  cases allL n r with
  | error e => rfl
  | ok l => simp [cmbA]
theorem allL_er {n : Nat} {b : List UInt8} {e : Int} {s : RdS} (h : verX (.ok b) = (.error e, s)) : allL (n + 1) b = .error e := by
  rw [allL, h]
theorem allL_all : ∀ {n : Nat} {b : List UInt8} {l : List Ver}, allL n b = .ok l → l.length = n ∧ n * 8 ≤ b.length ∧ ∀ v ∈ l, VMay v = true ∧ VTiny v
  | 0, b, l, h => by
    unfold allL at h
    split at h
    · cases h; exact ⟨rfl, by omega, fun v hv => (by cases hv)⟩
    · cases h
  | n + 1, b, l, h => by
    cases hx : verX (.ok b) with
    | mk x s =>
      cases x with
      | error e => rw [allL_er hx] at h; cases h
      | ok v =>
        obtain ⟨r, rfl, h1, h2, h3⟩ := verX_ok hx
        have := allL_ok (n := n) hx []
        rw [cmbA_nil, h] at this
        cases hr : allL n r with
        | error e => rw [hr] at this; cases this
        | ok l' =>
          rw [hr] at this
          cases this
          obtain ⟨k1, k2, k3⟩ := allL_all hr
          refine ⟨by simp [k1], by omega, fun w hw => ?_⟩
          rcases List.mem_cons.mp hw with rfl | hw
          · exact ⟨h2, h3⟩
          · exact k3 w hw
def AllR (x : Except Int (List Ver)) (r : AV) : Prop := match x with
  | .error e => r = .tup [.nils, .int .i64 e] ∧ e ≠ 0
  | .ok vs => ∃ u, r = .tup [u, .int .i64 0] ∧ SV 8 (vs.map encV) u

set_option maxHeartbeats 4000000 in
theorem rall_ans (b : List UInt8) (v : AV) (h0 : Hp Fm) (k : SV 1 (b.map byteAV) v) (hl : b.length ≤ 16777216) (hp : ∀ z, h0.pol z = false) :
    A Tryz.prog TT (.func 68) [v] h0 (fun r h' => AllR (allX b) r ∧ HE h0 h') := by
  have c1 := k.cells
  have i1 := k.isCell
  apply A_go Tryz.func68 rfl (by rfl); (case hn => (simp [Tryz.ntmps68]; rfl))
  repeat(first|with_reducible first|refine vmR ?_|refine vmV rfl ?_|refine vmW rfl ?_|refine vmL ?_|refine blockW_y (by decide) ?_|((with_reducible first|apply vmO|apply vmT|apply vmC);case a=>simp [c1, i1];with_reducible first|exact .v|exact .c|exact .t|exact .f))
  refine A.mono (vread_ans b v h0 k hl (hp _)) ?_
  rintro _ h1 ⟨q, rfl, k1, q0, qn, e1⟩
  refine ⟨_, by simp; first | done | rfl, ?_⟩
  repeat(first|with_reducible first|refine vmR ?_|refine vmV rfl ?_|refine vmW rfl ?_|refine vmL ?_|refine blockW_y (by decide) ?_|((with_reducible first|apply vmO|apply vmT|apply vmC);case a=>simp;with_reducible first|exact .v|exact .c|exact .t|exact .f))
  refine A.mono (vnum_ans q _ h1 k1 qn) ?_
  rintro _ h2 ⟨rfl, k2, x2⟩
  have qn2 := Nat.lt_of_lt_of_le qn x2.no
  have e2 : HE h0 h2 := e1.x2 x2 (fun o ho => by rw [ho]; exact q0) (fun _ z => z.elim)
  refine ⟨_, by simp; first | done | rfl, ?_⟩
  unfold allX
  cases hn : numP b with
  | error e =>
    have hx : numX (.ok b) = (0, .error e) := by unfold numX; simp only [hn]
    rw [hx] at k2 ⊢
    have ne := k2.2
    repeat(first|with_reducible first|refine vmR ?_|refine vmV rfl ?_|refine vmW rfl ?_|refine vmL ?_|refine blockW_y (by decide) ?_|((with_reducible first|apply vmO|apply vmT|apply vmC);case a=>simp;with_reducible first|exact .v|exact .c|exact .t|exact .f))
    refine W_loop_i ?_
    repeat(first|with_reducible first|refine vmR ?_|refine vmV rfl ?_|refine vmW rfl ?_|refine vmL ?_|refine blockW_y (by decide) ?_|((with_reducible first|apply vmO|apply vmT|apply vmC);case a=>simp;with_reducible first|exact .v|exact .c|exact .t|exact .f))
    refine A.mono (rerr_ans q _ h2 k2) ?_
    rintro _ _ ⟨rfl, eh⟩
    rw [eh]
    clear eh
    simp only [errOf]
    refine ⟨_, by simp; first | done | rfl, ?_⟩
    repeat(first|with_reducible first|refine vmR ?_|refine vmV rfl ?_|refine vmW rfl ?_|refine vmL ?_|refine blockW_y (by decide) ?_|((with_reducible first|apply vmO|apply vmT|apply vmC);case a=>simp [ne];with_reducible first|exact .v|exact .c|exact .t|exact .f))
    refine A.mono (rerr_ans q _ h2 k2) ?_
    rintro _ _ ⟨rfl, eh⟩
    rw [eh]
    clear eh
    simp only [errOf]
    refine ⟨_, by simp; first | done | rfl, ?_⟩
    repeat(first|with_reducible first|refine vmR ?_|refine vmV rfl ?_|refine vmW rfl ?_|refine vmL ?_|refine blockW_y (by decide) ?_|((with_reducible first|apply vmO|apply vmT|apply vmC);case a=>simp [ne];with_reducible first|exact .v|exact .c|exact .t|exact .f))
    refine A.mono (rerr_ans q _ h2 k2) ?_
    rintro _ _ ⟨rfl, eh⟩
    rw [eh]
    clear eh
    simp only [errOf]
    refine ⟨_, by simp; first | done | rfl, ?_⟩
    repeat(first|with_reducible first|refine vmR ?_|refine vmV rfl ?_|refine vmW rfl ?_|refine vmL ?_|refine blockW_y (by decide) ?_|((with_reducible first|apply vmO|apply vmT|apply vmC);case a=>simp [ne];with_reducible first|exact .v|exact .c|exact .t|exact .f))
    (first | apply endW_r | apply endW_n); (case h1 => (simp [Tryz.results68]; first | done | rfl))
    exact ⟨⟨by simp, ne⟩, e2⟩
  | ok p =>
    obtain ⟨n, r0⟩ := p
    have hx : numX (.ok b) = (n, .ok r0) := by unfold numX; simp only [hn]
    rw [hx] at k2 ⊢
    have nl := numP_len hn
    simp only
    repeat(first|with_reducible first|refine vmR ?_|refine vmV rfl ?_|refine vmW rfl ?_|refine vmL ?_|refine blockW_y (by decide) ?_|((with_reducible first|apply vmO|apply vmT|apply vmC);case a=>simp;with_reducible first|exact .v|exact .c|exact .t|exact .f))
    refine W_loop (fun m s => ∃ (t : Fm AV) (h : Hp Fm) (done : List Ver) (cur : List UInt8) (u : AV), s = ⟨t, 45, h, none⟩ ∧ m = cur.length ∧ done.length + cur.length ≤ b.length ∧ done.length ≤ n ∧ cmbA done (allL (n - done.length) cur) = allL n r0 ∧ tget t 4 = .ptr q 0 ∧ tget t 5 = .int .i64 n ∧ tget t 6 = u ∧ RdR h q (.ok cur) ∧ q < h.no ∧ AC h0 h 8 (done.map encV) u ∧ HE h0 h) r0.length
      ⟨_, _, [], r0, .nils, rfl, rfl, by simp; omega, by simp, cmbA_nil _, by simp, by simp, by simp, k2, qn2, .inl ⟨rfl, rfl⟩, e2⟩ ?_
    clear k2 x2 qn2 e2 k1 qn e1
    rintro m s ⟨t, h, done, cur, u, rfl, rfl, hdl, hdn, hfin, t4, t5, t6, kr, qn, hu, he⟩
    have uc := hu.sv.cells
    have ui := hu.sv.isCell
    have un := hu.sv.nm
    have ul := hu.sv.len Tryz.underlying33
    rw [List.length_map] at ul
    have hph : ∀ z, h.pol z = false := fun z => by rw [he.pol]; exact hp z
    repeat(first|with_reducible first|refine vmR ?_|refine vmV rfl ?_|refine vmW rfl ?_|refine vmL ?_|refine blockW_y (by decide) ?_|((with_reducible first|apply vmO|apply vmT|apply vmC);case a=>simp [t4];with_reducible first|exact .v|exact .c|exact .t|exact .f))
    refine A.mono (rerr_ans q _ h kr) ?_
    rintro _ _ ⟨rfl, eh⟩
    rw [eh]
    clear eh
    simp only [errOf]
    refine ⟨_, by simp; first | done | rfl, ?_⟩
    by_cases qd : done.length < n
    case neg =>
      have qd' : ¬ (done.length : Int) < n := by omega
      have ez : n - done.length = 0 := by omega
      rw [ez, allL] at hfin
      repeat(first|with_reducible first|refine vmR ?_|refine vmV rfl ?_|refine vmW rfl ?_|refine vmL ?_|refine blockW_y (by decide) ?_|((with_reducible first|apply vmO|apply vmT|apply vmC);case a=>simp [t4, t5, t6, uc, ui, un, ul, qd, qd'];with_reducible first|exact .v|exact .c|exact .t|exact .f))
      refine A.mono (rerr_ans q _ h kr) ?_
      rintro _ _ ⟨rfl, eh⟩
      rw [eh]
      clear eh
      simp only [errOf]
      refine ⟨_, by simp; first | done | rfl, ?_⟩
      repeat(first|with_reducible first|refine vmR ?_|refine vmV rfl ?_|refine vmW rfl ?_|refine vmL ?_|refine blockW_y (by decide) ?_|((with_reducible first|apply vmO|apply vmT|apply vmC);case a=>simp [t4];with_reducible first|exact .v|exact .c|exact .t|exact .f))
      refine A.mono (rrest_ans q _ h kr) ?_
      rintro _ _ ⟨rfl, eh⟩
      rw [eh]
      clear eh
      simp only [restOf]
      refine ⟨_, by simp; first | done | rfl, ?_⟩
      by_cases qr : cur.length = 0
      · have qr' : ¬ 0 < cur.length := by omega
        have qr2 : ¬ (0 : Int) < cur.length := by omega
        rw [if_pos qr] at hfin
        repeat(first|with_reducible first|refine vmR ?_|refine vmV rfl ?_|refine vmW rfl ?_|refine vmL ?_|refine blockW_y (by decide) ?_|((with_reducible first|apply vmO|apply vmT|apply vmC);case a=>simp [t6, uc, ui, qr', qr2];with_reducible first|exact .v|exact .c|exact .t|exact .f))
        (first | apply endW_r | apply endW_n); (case h1 => (simp [Tryz.results68]; first | done | rfl))
        rw [← hfin]
        exact ⟨⟨u, by simp, by simpa [cmbA] using hu.sv⟩, he⟩
      · have qr' : 0 < cur.length := by omega
        have qr2 : (0 : Int) < cur.length := by omega
        rw [if_neg qr] at hfin
        repeat(first|with_reducible first|refine vmR ?_|refine vmV rfl ?_|refine vmW rfl ?_|refine vmL ?_|refine blockW_y (by decide) ?_|((with_reducible first|apply vmO|apply vmT|apply vmC);case a=>simp [t6, uc, ui, qr', qr2];with_reducible first|exact .v|exact .c|exact .t|exact .f))
        (first | apply endW_r | apply endW_n); (case h1 => (simp [Tryz.results68]; first | done | rfl))
        rw [← hfin]
        exact ⟨⟨by simp, by decide⟩, he⟩
    have qd' : (done.length : Int) < n := by omega
    obtain ⟨n', hn'⟩ : ∃ n', n - done.length = n' + 1 := ⟨n - done.length - 1, by omega⟩
    rw [hn'] at hfin
    repeat(first|with_reducible first|refine vmR ?_|refine vmV rfl ?_|refine vmW rfl ?_|refine vmL ?_|refine blockW_y (by decide) ?_|((with_reducible first|apply vmO|apply vmT|apply vmC);case a=>simp [t4, t5, t6, uc, ui, un, ul, qd, qd'];with_reducible first|exact .v|exact .c|exact .t|exact .f))
    refine A.mono (rread_ans q _ h kr qn hph) ?_
    rintro r h3 ⟨hr, k3, x3⟩
    have qn3 := Nat.lt_of_lt_of_le qn x3.no
    have e3 : HE h0 h3 := he.x2 x3 (fun o ho => by rw [ho]; exact q0) (fun _ z => z.elim)
    have p3 : ∀ z, h3.pol z = false := fun z => by rw [e3.pol]; exact hp z
    cases hv : verX (.ok cur) with
    | mk x s =>
      rw [hv] at hr k3
      cases x with
      | error e =>
        obtain ⟨rfl, ne⟩ := hr
        rw [allL_er hv] at hfin
        refine ⟨_, by simp; first | done | rfl, ?_⟩
        repeat(first|with_reducible first|refine vmR ?_|refine vmV rfl ?_|refine vmW rfl ?_|refine vmL ?_|refine blockW_y (by decide) ?_|((with_reducible first|apply vmO|apply vmT|apply vmC);case a=>simp [zeroV, ne];with_reducible first|exact .v|exact .c|exact .t|exact .f))
        (first | apply endW_r | apply endW_n); (case h1 => (simp [Tryz.results68]; first | done | rfl))
        rw [← hfin]
        exact ⟨⟨by simp, ne⟩, (e3.new _).set e3.no _⟩
      | ok w =>
        obtain ⟨rr, rfl, hlen, hmay, htiny⟩ := verX_ok hv
        replace hr : r = .tup [encV w, .int .i64 0] := hr
        rw [hr]
        rw [allL_ok hv] at hfin
        obtain ⟨key, br, ep, sq, fr, to, val, gone⟩ := w
        have qh : q ≠ h3.no := by omega
        have e4 := ((HE.refl h3).new (.row [.str [], .int .i64 0, .int .i64 0, .int .i64 0, .int .i64 0, .int .i64 0, .str [], .bool false])).set (Nat.le_refl _) (.row [.str key, .int .i64 br, .int .i64 ep, .int .i64 sq, .int .i64 fr, .int .i64 to, .str val, .bool gone])
        have hu3 := AC.ofX hu x3
        refine ⟨_, by simp; first | done | rfl, ?_⟩
        repeat(first|with_reducible first|refine vmR ?_|refine vmV rfl ?_|refine vmW rfl ?_|refine vmL ?_|refine blockW_y (by decide) ?_|((with_reducible first|apply vmO|apply vmT|apply vmC);case a=>simp [t6, uc, ui, newSeq, newSl, p3];with_reducible first|exact .v|exact .c|exact .t|exact .f))
        with_reducible apply WO_app_i; (case hw => (simp [t6, uc, ui, newSeq, newSl, p3]; done)); (case ho => rfl); (case hb => rfl); (case ha => (simp [t6, uc, ui, newSeq, newSl, p3]; first | done | exact ⟨rfl, rfl⟩ | rfl)); (case h1 => (simp; first | done | rfl)); (case h2 => (simp; first | done | rfl))
        refine app_then (AC.app (h0 := h0) etV (hu3.of (e4.newSl 1)) (e3.trans (e4.newSl 1)) (hp _) (by simp; omega)) ?_
        rintro x5 h5 ⟨ac5, he5, ho5, hn5, _⟩
        have e5 := ac5.sv.cells
        have f5 := ac5.sv.isCell
        have k5 : RdR h5 q (.ok rr) := k3.of (by rw [ho5]; simp [qh])
        have qn5 : q < h5.no := by rw [hn5]; show q < h3.no + 1; omega
        refine ⟨_, by simp; first | done | rfl, ?_⟩
        repeat(first|with_reducible first|refine vmR ?_|refine vmV rfl ?_|refine vmW rfl ?_|refine vmL ?_|refine blockW_y (by decide) ?_|((with_reducible first|apply vmO|apply vmT|apply vmC);case a=>simp [e5, f5];with_reducible first|exact .v|exact .c|exact .t|exact .f))
        refine ⟨rr.length, by omega, _, h5, done ++ [⟨key, br, ep, sq, fr, to, val, gone⟩], rr, x5, rfl, rfl, by simp; omega, by simp; omega, ?_, by simp [t4], by simp [t5], by simp, k5, qn5, ?_, he5⟩
        · rw [← hfin]
          congr 2
          rw [List.length_append, List.length_singleton]; omega
        · rw [List.map_append]; exact ac5

theorem equal_ans (a b : List UInt8) (u v : AV) (h0 : Hp Fm) (ka : SV 1 (a.map byteAV) u) (kb : SV 1 (b.map byteAV) v) (hl : a.length ≤ 100000000) (hl2 : b.length ≤ 100000000) :
    A Tryz.prog TT (.func 71) [u, v] h0 (fun r h' => r = .bool (decide (a = b)) ∧ HE h0 h') := by
  have c1 := ka.cells
  have i1 := ka.isCell
  have n1 := ka.nm
  have l1 := ka.len Tryz.underlying58
  rw [List.length_map] at l1
  have c2 := kb.cells
  have i2 := kb.isCell
  have n2 := kb.nm
  have l2 := kb.len Tryz.underlying58
  rw [List.length_map] at l2
  by_cases ql : a.length = b.length
  case neg =>
    have ql' : ¬ (a.length : Int) = b.length := by omega
    have ne : ¬ a = b := fun z => ql (by rw [z])
    apply A_go Tryz.func71 rfl (by rfl); (case hn => (simp [Tryz.ntmps71]; rfl))
    repeat(first|with_reducible first|refine vmR ?_|refine vmV rfl ?_|refine vmW rfl ?_|refine vmL ?_|refine blockW_y (by decide) ?_|((with_reducible first|apply vmO|apply vmT|apply vmC);case a=>simp [c1, i1, n1, l1, c2, i2, n2, l2, ql, ql'];with_reducible first|exact .v|exact .c|exact .t|exact .f))
    (first | apply endW_r | apply endW_n); (case h1 => (simp [Tryz.results71]; first | done | rfl))
    exact ⟨by simp [ne], HE.refl h0⟩
  rw [← ql] at l2
  apply A_go Tryz.func71 rfl (by rfl); (case hn => (simp [Tryz.ntmps71]; rfl))
  repeat(first|with_reducible first|refine vmR ?_|refine vmV rfl ?_|refine vmW rfl ?_|refine vmL ?_|refine blockW_y (by decide) ?_|((with_reducible first|apply vmO|apply vmT|apply vmC);case a=>simp [c1, i1, n1, l1, c2, i2, n2, l2];with_reducible first|exact .v|exact .c|exact .t|exact .f))
  refine W_loop (fun m s => ∃ (t : Fm AV) (h : Hp Fm) (i : Nat), s = ⟨t, 26, h, none⟩ ∧ m = a.length - i ∧ i ≤ a.length ∧ decide (a.drop i = b.drop i) = decide (a = b) ∧ tget t 0 = u ∧ tget t 1 = v ∧ tget t 12 = .int .i64 a.length ∧ tget t 13 = .int .i64 i ∧ HE h0 h) a.length
    ⟨_, _, 0, rfl, rfl, by omega, rfl, by simp, by simp, by simp, by simp, HE.refl h0⟩ ?_
  rintro m s ⟨t, h, i, rfl, rfl, hi, hd, t0, t1, t12, t13, he⟩
  by_cases q : i < a.length
  case neg =>
    have q' : ¬ (i : Int) < a.length := by omega
    repeat(first|with_reducible first|refine vmR ?_|refine vmV rfl ?_|refine vmW rfl ?_|refine vmL ?_|refine blockW_y (by decide) ?_|((with_reducible first|apply vmO|apply vmT|apply vmC);case a=>simp [t0, t1, t12, t13, q, q'];with_reducible first|exact .v|exact .c|exact .t|exact .f))
    (first | apply endW_r | apply endW_n); (case h1 => (simp [Tryz.results71]; first | done | rfl))
    rw [← hd, List.drop_eq_nil_iff.mpr (by omega), List.drop_eq_nil_iff.mpr (by omega)]
    exact ⟨by simp, he⟩
  have q' : (i : Int) < a.length := by omega
  have ix := ka.idx (k := .i64) (i := (i : Int)) Tryz.underlying58 z5 (by omega) (by simp; omega)
  have iy := kb.idx (k := .i64) (i := (i : Int)) Tryz.underlying58 z5 (by omega) (by simp; omega)
  have e1 : a.drop i = a[i] :: a.drop (i + 1) := List.drop_eq_getElem_cons q
  have e2 : b.drop i = b[i]'(by omega) :: b.drop (i + 1) := List.drop_eq_getElem_cons (by omega)
  rw [e1, e2] at hd
  obtain ⟨x, hx⟩ : ∃ x : UInt8, x = a[i] := ⟨_, rfl⟩
  obtain ⟨y, hy⟩ : ∃ y : UInt8, y = b[i]'(by omega) := ⟨_, rfl⟩
  replace ix : indexAddrAV Tryz.prog 58 u (.int .i64 (i : Int)) = some (.el (.int .u8 (x.toNat : Int)) 0) := by rw [ix]; simp [hx, byteAV]
  replace iy : indexAddrAV Tryz.prog 58 v (.int .i64 (i : Int)) = some (.el (.int .u8 (y.toNat : Int)) 0) := by rw [iy]; simp [hy, byteAV]
  rw [← hx, ← hy] at hd
  obtain ⟨xn, hxn⟩ : ∃ xn : Nat, xn = x.toNat := ⟨_, rfl⟩
  obtain ⟨yn, hyn⟩ : ∃ yn : Nat, yn = y.toNat := ⟨_, rfl⟩
  rw [← hxn] at ix
  rw [← hyn] at iy
  have w1 : IntKind.i64.wrap ((i : Int) + 1) = ((i + 1 : Nat) : Int) := by rw [wrap64 (by omega) (by omega)]; simp
  by_cases qe : xn = yn
  · have exy : x = y := UInt8.toNat_inj.mp (by omega)
    have qe' : ¬ ¬ (xn : Int) = yn := by omega
    have qi : (xn : Int) = yn := by omega
    repeat(first|with_reducible first|refine vmR ?_|refine vmV rfl ?_|refine vmW rfl ?_|refine vmL ?_|refine blockW_y (by decide) ?_|((with_reducible first|apply vmO|apply vmT|apply vmC);case a=>simp [t0, t1, t12, t13, q, q'];with_reducible first|exact .v|exact .c|exact .t|exact .f))
    (with_reducible refine W_draw_id (pln := true) [0, 1, 2, 3, 4, 5, 6, 7, 8] [(3, (3, [])), (7, (7, []))] (by kernel_rfl) rfl ?_)
    repeat(first|with_reducible first|refine vmR ?_|refine vmV rfl ?_|refine vmW rfl ?_|refine vmL ?_|refine blockW_y (by decide) ?_|((with_reducible first|apply vmO|apply vmT|apply vmC);case a=>simp [t0, t1, c1, i1, c2, i2, ix, iy, qi];with_reducible first|exact .v|exact .c|exact .t|exact .f))
    refine ⟨by simp [readSame, beqAV_self, t0, t1, ix, iy]; done, _, by simp; first | done | rfl, ?_⟩
    repeat(first|with_reducible first|refine vmR ?_|refine vmV rfl ?_|refine vmW rfl ?_|refine vmL ?_|refine blockW_y (by decide) ?_|((with_reducible first|apply vmO|apply vmT|apply vmC);case a=>simp [t13, w1];with_reducible first|exact .v|exact .c|exact .t|exact .f))
    refine ⟨a.length - (i + 1), by omega, _, _, i + 1, rfl, rfl, by omega, ?_, by simp [t0], by simp [t1], by simp [t12], by simp, he.drew⟩
    rw [← hd, exy]; simp
  · have qi : ¬ (xn : Int) = yn := by omega
    have nxy : ¬ x = y := fun z => qe (by rw [hxn, hyn, z])
    repeat(first|with_reducible first|refine vmR ?_|refine vmV rfl ?_|refine vmW rfl ?_|refine vmL ?_|refine blockW_y (by decide) ?_|((with_reducible first|apply vmO|apply vmT|apply vmC);case a=>simp [t0, t1, t12, t13, q, q'];with_reducible first|exact .v|exact .c|exact .t|exact .f))
    (with_reducible refine W_draw_id (pln := true) [0, 1, 2, 3, 4, 5, 6, 7, 8] [(3, (3, [])), (7, (7, []))] (by kernel_rfl) rfl ?_)
    repeat(first|with_reducible first|refine vmR ?_|refine vmV rfl ?_|refine vmW rfl ?_|refine vmL ?_|refine blockW_y (by decide) ?_|((with_reducible first|apply vmO|apply vmT|apply vmC);case a=>simp [t0, t1, c1, i1, c2, i2, ix, iy, qi];with_reducible first|exact .v|exact .c|exact .t|exact .f))
    refine ⟨by simp [readSame, beqAV_self, t0, t1, ix, iy]; done, _, by simp; first | done | rfl, ?_⟩
    repeat(first|with_reducible first|refine vmR ?_|refine vmV rfl ?_|refine vmW rfl ?_|refine vmL ?_|refine blockW_y (by decide) ?_|((with_reducible first|apply vmO|apply vmT|apply vmC);case a=>simp;with_reducible first|exact .v|exact .c|exact .t|exact .f))
    (first | apply endW_r | apply endW_n); (case h1 => (simp [Tryz.results71]; first | done | rfl))
    exact ⟨by rw [← hd]; simp [nxy], he.drew⟩
end Go.Vn
