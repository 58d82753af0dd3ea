/- What functions of the program come to, in the value machine (a part of the proof of the claim's statement). No condition. -/
import Derived.Test.YtnbflhcbhicgmaaGreatVnK3
import Derived.Test.YtnbflhcbhicgmaaGreatVnH6
import Derived.Test.YtnbflhcbhicgmaaGreatVnGe
set_option linter.unusedSimpArgs false
set_option linter.unusedVariables false
set_option maxRecDepth 20000
namespace Go.Vn
open Go.Proofs Go.ChangeShapes Go.WideShapes Go.ChangeAt Go.RowKit

structure De where
  kind : Int
  n : Int
  g : Gr
  kv : AV
  keep : List Int
@[simp] def encDe (d : De) : AV := .agg [.int .i64 d.kind, .int .i64 d.n, .int .i64 d.g.ep, d.g.rv, d.kv]
structure DeOk (d : De) : Prop where
  gok : GrOk d.g
  sv : SV 1 (d.keep.map (AV.int .i64)) d.kv
  len : d.keep.length ≤ 9223372036854775807
  i64 : ∀ x ∈ d.keep, -9223372036854775808 ≤ x ∧ x ≤ 9223372036854775807
  n64 : d.n ≤ 9223372036854775807
theorem el_deed {x : AV} (h : DeepEl Tryz.prog 38 x) : ∃ d : De, x = encDe d ∧ DeOk d := by
  obtain ⟨parts, rfl, hp⟩ := deep_struct Tryz.underlying38 a38 h
  obtain ⟨k, hk, _⟩ := deep_intv Tryz.underlying3 (hp 0 _ rfl)
  obtain ⟨n, hn, hnb⟩ := deep_intv Tryz.underlying3 (hp 1 _ rfl)
  obtain ⟨p1, e1, h1⟩ := deep_structv Tryz.underlying35 (hp 2 _ rfl)
  obtain ⟨ep, hep, hepb⟩ := deep_intv Tryz.underlying3 (h1 0 _ rfl)
  obtain ⟨a, els, ha, g1, g2, g3⟩ := deep_slicev Tryz.underlying33 (h1 1 _ rfl)
  have hc : Tryz.prog.cellsOf 69 = 8 := by kernel_rfl
  rw [hc] at g1
  obtain ⟨l, rfl, hl⟩ := map_of encV VBig els (fun x hx => el_ver (g3 x hx))
  obtain ⟨b, els2, hb, k1, k2, k3⟩ := deep_slicev Tryz.underlying36 (hp 3 _ rfl)
  have hc2 : Tryz.prog.cellsOf 3 = 1 := by kernel_rfl
  rw [hc2] at k1
  obtain ⟨ks, rfl, hks⟩ := map_of (AV.int .i64) (fun n => -9223372036854775808 ≤ n ∧ n ≤ 9223372036854775807) els2 (fun x hx => el_int (k3 x hx))
  refine ⟨⟨k, n, ⟨ep, a, l⟩, b, ks⟩, ?_, ⟨g1, Nat.le_trans (by simpa using g2) (by decide), hl, hepb⟩, k1, Nat.le_trans (by simpa using k2) (by decide), hks, hnb.2⟩
  show AV.agg ((List.range 4).flatMap parts) = _
  simp [List.range_succ, hk, hn, e1, hep, ha, hb]
theorem el_deeds {x : AV} (h : DeepEl Tryz.prog 22 x) : ∃ l : List De, SV 5 (l.map encDe) x ∧ l.length ≤ 9223372036854775807 ∧ ∀ d ∈ l, DeOk d := by
  obtain ⟨els, h1, h2, h3⟩ := deep_slice Tryz.underlying22 a22 h
  have hc : Tryz.prog.cellsOf 38 = 5 := by kernel_rfl
  rw [hc] at h1
  obtain ⟨l, rfl, hl⟩ := map_of encDe DeOk els (fun x hx => el_deed (h3 x hx))
  exact ⟨l, h1, Nat.le_trans (by simpa using h2) (by decide), hl⟩

theorem Wo.he {h h' : Hp Fm} {wp p m q n : Nat} {R O : List (Int × List Ver)} {last : Int} {ld dead : Bool} {D : Dk} (k : Wo h wp p m q n R O last ld dead D) (e : HE h h') : Wo h' wp p m q n R O last ld dead D := by
  obtain ⟨gv, ov, ws, a1, a2⟩ := k.row
  exact ⟨⟨gv, ov, ws, (e.obj _ k.wn).trans a1, a2⟩, k.dk.he e, k.lg.he e, Nat.lt_of_lt_of_le k.wn e.no, k.ne, k.wi⟩
theorem Wo.more {h : Hp Fm} {wp p m q n : Nat} {R O : List (Int × List Ver)} {last : Int} {ld dead : Bool} {D : Dk} (k : Wo h wp p m q n R O last ld dead D) : Wo h wp p m q (n + 1) R O last ld dead D :=
  ⟨k.row, k.dk, k.lg, k.wn, k.ne, k.wi.dead⟩

set_option maxHeartbeats 8000000 in
theorem walplays_law (qt : Int) (hq : -9223372036854775808 ≤ qt ∧ qt ≤ 9223372036854775807) (l : List De) (v : AV) (hv : SV 5 (l.map encDe) v) (hl : l.length ≤ 9223372036854775807) (hok : ∀ d ∈ l, DeOk d) (h0 : Hp Fm) (hp : ∀ z, h0.pol z = false) :
    A Tryz.prog TT (.func 3) [.int .i64 qt, v] h0 (fun r h' => r = .bool true ∧ HE h0 h') := by
  have vc := hv.cells
  have vi := hv.isCell
  have vn := hv.nm
  have vl := hv.len Tryz.underlying22
  rw [List.length_map] at vl
  by_cases q0 : qt < 0
  · obtain ⟨Q, hQ⟩ : ∃ Q : Int, Q = -(qt + 1) := ⟨_, rfl⟩
    have w1 : IntKind.i64.wrap (qt + 1) = -Q := by rw [wrap64 (by omega) (by omega)]; omega
    have w2 : IntKind.i64.wrap (- (-Q)) = Q := by rw [wrap64 (by omega) (by omega)]; omega
    have w3 : IntKind.i64.wrap Q = Q := wrap64 (by omega) (by omega)
    apply A_go Tryz.func3 rfl (by rfl); (case hn => (simp [Tryz.ntmps3]; rfl))
    repeat(first|with_reducible first|refine vmR ?_|refine vmV rfl ?_|refine vmW rfl ?_|refine vmL ?_|refine blockW_y (by decide) ?_|((with_reducible first|apply vmO|apply vmT|apply vmC);case a=>simp [vc, vi, q0, w1, w2, w3];with_reducible first|exact .v|exact .c|exact .t|exact .f))
    obtain ⟨nq, hnq⟩ : ∃ nq : Int, nq = Q.tmod 3001 := ⟨_, rfl⟩
    have nb1 : 0 ≤ nq := by rw [hnq]; exact Int.tmod_nonneg _ (by omega)
    have nb2 : nq < 3001 := by rw [hnq]; exact Int.tmod_lt_of_pos _ (by omega)
    rw [← hnq]
    refine A.mono (new_ans nq h0 (by omega)) ?_
    rintro _ h1 ⟨p, m, rfl, d1, e1, hp0, hm0⟩
    refine ⟨_, by simp; first | done | rfl, ?_⟩
    repeat(first|with_reducible first|refine vmR ?_|refine vmV rfl ?_|refine vmW rfl ?_|refine vmL ?_|refine blockW_y (by decide) ?_|((with_reducible first|apply vmO|apply vmT|apply vmC);case a=>simp;with_reducible first|exact .v|exact .c|exact .t|exact .f))
    have d1p := d1.pn
    have d1m := d1.mn
    obtain ⟨wp, hwp⟩ : ∃ wp, wp = h1.no := ⟨_, rfl⟩
    obtain ⟨h2, hh2⟩ : ∃ h2 : Hp Fm, h2 = { h1 with obj := Mp.set h1.obj wp (.row [.ptr p 0, .nilp, .nils, .nils, .bool false]), no := wp + 1 } := ⟨_, rfl⟩
    rw [← hwp, ← hh2]
    have e12 : HE h1 h2 := by rw [hh2, hwp]; exact (HE.refl h1).new _
    have r2 : Mp.get h2.obj wp = some (.row [.ptr p 0, .nilp, .nils, .nils, .bool false]) := by rw [hh2]; simp
    have n2 : h2.no = wp + 1 := by rw [hh2]
    have e02 := e1.trans e12
    have wf2 : (⟨[], 0, nq, -1, false⟩ : Dk).wf := wf_new nq (by omega)
    repeat(first|with_reducible first|refine vmR ?_|refine vmV rfl ?_|refine vmW rfl ?_|refine vmL ?_|refine blockW_y (by decide) ?_|((with_reducible first|apply vmO|apply vmT|apply vmC);case a=>simp [r2];with_reducible first|exact .v|exact .c|exact .t|exact .f))
    refine A.mono (wcreate_ans logN (by decide) p m _ wf2 h2 (d1.he e12) (fun z => by rw [e02.pol]; exact hp z)) ?_
    rintro _ h3 ⟨d3, x3, hres⟩
    rw [fresh_new logN named_log nq nb1] at d3 hres
    rcases hres with ⟨_, q, rfl, lg3, hq2⟩ | ⟨c, _⟩
    case inr => exact (c rfl).elim
    simp only at d3
    have r3 := (x3.obj wp (by omega) (fun z => by rcases z with z | z <;> omega)).trans r2
    have n3 := x3.no
    have e03 : HE h0 h3 := e02.x2 x3 (fun o z => by rcases z with z | z <;> omega) (fun _ z => z.elim)
    have qn := lg3.qn
    have z0 := e02.no
    refine ⟨_, by simp; first | done | rfl, ?_⟩
    repeat(first|with_reducible first|refine vmR ?_|refine vmV rfl ?_|refine vmW rfl ?_|refine vmL ?_|refine blockW_y (by decide) ?_|((with_reducible first|apply vmO|apply vmT|apply vmC);case a=>simp [eqlAV, r3];with_reducible first|exact .v|exact .c|exact .t|exact .f))
    obtain ⟨h4, hh4⟩ : ∃ h4 : Hp Fm, h4 = { h3 with obj := Mp.set h3.obj wp (.row [.ptr p 0, .ptr q 0, .nils, .nils, .bool false]) } := ⟨_, rfl⟩
    rw [← hh4]
    have e04 : HE h0 h4 := by rw [hh4]; exact e03.set (by have := e1.no; omega) _
    have wo4 : Wo h4 wp p m q 0 [] [] 0 false false (oneW [] 0 1 2 nq (-1) false) := by
      obtain ⟨es, a1, a2⟩ := d3.map
      refine ⟨⟨.nils, .nils, [], by rw [hh4]; simp, .inl ⟨rfl, rfl⟩, trivial, (fun z => by cases z), rfl, rfl⟩, ?_, ?_, by rw [hh4]; show wp < h3.no; omega, ⟨by omega, by omega, by omega, by omega, by omega⟩, ⟨trivial, rfl, by simp [fileB], by simp, _, _, 1, 2, nq, -1, by omega, by omega, .inl ⟨rfl, rfl, rfl, rfl, rfl⟩⟩⟩
      · refine ⟨?_, ⟨es, ?_, a2⟩, by rw [hh4]; exact d3.pn, by rw [hh4]; exact d3.mn, d3.born⟩
        · rw [hh4]; simp [show p ≠ wp by omega]; exact d3.row
        · rw [hh4]; simp [show m ≠ wp by omega]; exact a1
      · refine ⟨?_, by rw [hh4]; exact lg3.qn⟩
        rw [hh4]; simp [show q ≠ wp by omega]; exact lg3.row
    have hwp0 : h0.no ≤ wp := by have := e1.no; omega
    refine W_loop (fun mm s => ∃ (t : Fm AV) (h : Hp Fm) (i : Nat), s = ⟨t, 85, h, none⟩ ∧ mm = 25 - i ∧ i ≤ 25 ∧ i ≤ l.length ∧ tget t 1 = v ∧ tget t 5 = .ptr wp 0 ∧ tget t 8 = .int .i64 i ∧ (∃ q R O last ld dead D, h0.no ≤ q ∧ Wo h wp p m q i R O last ld dead D) ∧ HE h0 h) 25
      ⟨_, _, 0, rfl, rfl, by omega, by omega, by simp, by simp, by simp, ⟨q, _, _, _, _, _, _, by omega, wo4⟩, e04⟩ ?_
    clear wo4 e04 hh4 h4 qn lg3 r3 d3 x3 n3 e03 hq2
    rintro mm s ⟨t, h, i, rfl, rfl, hi25, hi, t1, t5, t8, ⟨q, R, O, last, ld, dead, D, hq0, wo⟩, he⟩
    have hpz : ∀ z, h.pol z = false := fun z => by rw [he.pol]; exact hp z
    by_cases qi : i < l.length ∧ i < 25
    case neg =>
      have A1 := woopen_ans [] (by simp) (by simp) .nils (.inl ⟨rfl, rfl⟩) wp p m q i R O last ld dead D h wo (by omega) hpz
      by_cases qa : i < l.length
      · have qb : ¬ i < 25 := by omega
        have qb' : ¬ (i : Int) < 25 := by omega
        repeat(first|with_reducible first|refine vmR ?_|refine vmV rfl ?_|refine vmW rfl ?_|refine vmL ?_|refine blockW_y (by decide) ?_|((with_reducible first|apply vmO|apply vmT|apply vmC);case a=>simp [t1, t5, t8, vc, vi, vn, vl, qa, qb, qb'];with_reducible first|exact .v|exact .c|exact .t|exact .f))
        refine A.mono A1 ?_
        rintro _ h5 ⟨rfl, _, x5⟩
        have e05 : HE h0 h5 := he.x2 x5 (fun o z => by rcases z with z | z | z <;> omega) (fun _ z => z.elim)
        refine ⟨_, by simp; first | done | rfl, ?_⟩
        repeat(first|with_reducible first|refine vmR ?_|refine vmV rfl ?_|refine vmW rfl ?_|refine vmL ?_|refine blockW_y (by decide) ?_|((with_reducible first|apply vmO|apply vmT|apply vmC);case a=>simp;with_reducible first|exact .v|exact .c|exact .t|exact .f))
        refine A.mono (wlives_ans h5 (fun z => by rw [e05.pol]; exact hp z)) ?_
        rintro _ h6 ⟨rfl, e6⟩
        refine ⟨_, by simp; first | done | rfl, ?_⟩
        repeat(first|with_reducible first|refine vmR ?_|refine vmV rfl ?_|refine vmW rfl ?_|refine vmL ?_|refine blockW_y (by decide) ?_|((with_reducible first|apply vmO|apply vmT|apply vmC);case a=>simp;with_reducible first|exact .v|exact .c|exact .t|exact .f))
        (first | apply endW_r | apply endW_n); (case h1 => (simp [Tryz.results3]; first | done | rfl))
        exact ⟨by simp, e05.trans e6⟩
      · have qa' : ¬ (i : Int) < l.length := by omega
        repeat(first|with_reducible first|refine vmR ?_|refine vmV rfl ?_|refine vmW rfl ?_|refine vmL ?_|refine blockW_y (by decide) ?_|((with_reducible first|apply vmO|apply vmT|apply vmC);case a=>simp [t1, t5, t8, vc, vi, vn, vl, qa, qa'];with_reducible first|exact .v|exact .c|exact .t|exact .f))
        refine A.mono A1 ?_
        rintro _ h5 ⟨rfl, _, x5⟩
        have e05 : HE h0 h5 := he.x2 x5 (fun o z => by rcases z with z | z | z <;> omega) (fun _ z => z.elim)
        refine ⟨_, by simp; first | done | rfl, ?_⟩
        repeat(first|with_reducible first|refine vmR ?_|refine vmV rfl ?_|refine vmW rfl ?_|refine vmL ?_|refine blockW_y (by decide) ?_|((with_reducible first|apply vmO|apply vmT|apply vmC);case a=>simp;with_reducible first|exact .v|exact .c|exact .t|exact .f))
        refine A.mono (wlives_ans h5 (fun z => by rw [e05.pol]; exact hp z)) ?_
        rintro _ h6 ⟨rfl, e6⟩
        refine ⟨_, by simp; first | done | rfl, ?_⟩
        repeat(first|with_reducible first|refine vmR ?_|refine vmV rfl ?_|refine vmW rfl ?_|refine vmL ?_|refine blockW_y (by decide) ?_|((with_reducible first|apply vmO|apply vmT|apply vmC);case a=>simp;with_reducible first|exact .v|exact .c|exact .t|exact .f))
        (first | apply endW_r | apply endW_n); (case h1 => (simp [Tryz.results3]; first | done | rfl))
        exact ⟨by simp, e05.trans e6⟩
    obtain ⟨qa, qb⟩ := qi
    have qb' : (i : Int) < 25 := by omega
    have w1 : IntKind.i64.wrap ((i : Int) + 1) = ((i + 1 : Nat) : Int) := by rw [wrap64 (by omega) (by omega)]; simp
    have i1 := hv.idx Tryz.underlying22 z38 (k := .i64) (i := i) (by simp) (by simpa using qa)
    simp only [List.getElem_map, Int.toNat_natCast] at i1
    have dok := hok _ (List.getElem_mem qa)
    obtain ⟨d, hd⟩ : ∃ d, d = l[i] := ⟨_, rfl⟩
    rw [← hd] at i1 dok
    have kc := dok.sv.cells
    have ki := dok.sv.isCell
    have rc := dok.gok.sv.cells
    have ri := dok.gok.sv.isCell
    simp only [encDe] at i1
    repeat(first|with_reducible first|refine vmR ?_|refine vmV rfl ?_|refine vmW rfl ?_|refine vmL ?_|refine blockW_y (by decide) ?_|((with_reducible first|apply vmO|apply vmT|apply vmC);case a=>simp [t1, t5, t8, vc, vi, vn, vl, qa, qb, qb', i1, kc, ki, rc, ri];with_reducible first|exact .v|exact .c|exact .t|exact .f))
    obtain ⟨o, ho⟩ : ∃ o, o = h.no := ⟨_, rfl⟩
    rw [← ho]
    obtain ⟨hB, hhB⟩ : ∃ hB : Hp Fm, hB = { h with obj := Mp.set (Mp.set h.obj o (.row [.int .i64 0, .int .i64 0, .int .i64 0, .nils, .nils])) o (.row [.int .i64 d.kind, .int .i64 d.n, .int .i64 d.g.ep, d.g.rv, d.kv]), no := o + 1 } := ⟨_, rfl⟩
    rw [← hhB]
    have eB : HE h hB := by rw [hhB, ho]; exact ((HE.refl h).new _).set (Nat.le_refl _) _
    have g9 : Mp.get hB.obj o = some (.row [.int .i64 d.kind, .int .i64 d.n, .int .i64 d.g.ep, d.g.rv, d.kv]) := by rw [hhB]; simp
    have oB : o < hB.no := by rw [hhB]; simp
    have woB := wo.he eB
    have heB := he.trans eB
    have hpB : ∀ z, hB.pol z = false := fun z => by rw [heB.pol]; exact hp z
    have pnB := woB.dk.pn
    have mnB := woB.dk.mn
    by_cases k0 : d.kind = 0
    · repeat(first|with_reducible first|refine vmR ?_|refine vmV rfl ?_|refine vmW rfl ?_|refine vmL ?_|refine blockW_y (by decide) ?_|((with_reducible first|apply vmO|apply vmT|apply vmC);case a=>simp [t5, t8, g9, k0, rc, ri];with_reducible first|exact .v|exact .c|exact .t|exact .f))
      refine A.mono (woapp_ans d.g dok.gok wp p m q i R O last ld dead D hB woB (by omega) hpB) ?_
      rintro _ h5 ⟨rfl, ⟨R5, O5, last5, ld5, dead5, D5, wo5⟩, x5⟩
      have e05 : HE h0 h5 := heB.x2 x5 (fun o z => by rcases z with z | z | z | z <;> omega) (fun _ z => z.elim)
      refine ⟨_, by simp; first | done | rfl, ?_⟩
      repeat(first|with_reducible first|refine vmR ?_|refine vmV rfl ?_|refine vmW rfl ?_|refine vmL ?_|refine blockW_y (by decide) ?_|((with_reducible first|apply vmO|apply vmT|apply vmC);case a=>simp [t1, t5, t8, w1];with_reducible first|exact .v|exact .c|exact .t|exact .f))
      exact ⟨25 - (i + 1), by omega, _, _, i + 1, rfl, rfl, by omega, by omega, by simp [t1], by simp [t5], by simp, ⟨q, _, _, _, _, _, _, hq0, wo5⟩, e05⟩
    by_cases k1 : d.kind = 1
    · obtain ⟨gv, ov, ws, rwB, aa⟩ := woB.row
      repeat(first|with_reducible first|refine vmR ?_|refine vmV rfl ?_|refine vmW rfl ?_|refine vmL ?_|refine blockW_y (by decide) ?_|((with_reducible first|apply vmO|apply vmT|apply vmC);case a=>simp [t5, t8, g9, k0, k1];with_reducible first|exact .v|exact .c|exact .t|exact .f))
      (with_reducible refine W_draw_id (pln := true) [0, 1, 2, 3, 4, 5, 6] [(3, (3, [])), (5, (5, []))] (by kernel_rfl) rfl ?_)
      repeat(first|with_reducible first|refine vmR ?_|refine vmV rfl ?_|refine vmW rfl ?_|refine vmL ?_|refine blockW_y (by decide) ?_|((with_reducible first|apply vmO|apply vmT|apply vmC);case a=>simp [t5, rwB, g9];with_reducible first|exact .v|exact .c|exact .t|exact .f))
      refine A.mono (arm_ans d.n p m D hB.drew (woB.dk.he (HE.refl hB).drew)) ?_
      rintro r5 h5 ⟨d5, x5⟩
      have x5' : HX (fun o => o = p ∨ o = m) (fun _ => False) hB h5 := ((HE.refl hB).drew.x _ _).trans x5
      have e05 : HE h0 h5 := heB.x2 x5' (fun o z => by rcases z with z | z <;> omega) (fun _ z => z.elim)
      have r5 := (x5'.obj wp woB.wn (fun z => by rcases z with z | z; exact woB.ne.1 z; exact woB.ne.2.1 z)).trans rwB
      have wo5 : Wo h5 wp p m q (i + 1) R O last ld dead { D with left := if d.n < -1 then -1 else d.n } :=
        ⟨⟨gv, ov, ws, r5, aa⟩, d5, woB.lg.go x5' woB.ne.2.2.2.1 woB.ne.2.2.2.2, Nat.lt_of_lt_of_le woB.wn x5'.no, woB.ne, woB.wi.arm d.n dok.n64⟩
      have po : o ≠ p := by have := wo.dk.pn; omega
      have mo : o ≠ m := by have := wo.dk.mn; omega
      have g95 := (x5'.obj o oB (fun z => by rcases z with z | z; exact po z; exact mo z)).trans g9
      refine ⟨_, by simp; first | done | rfl, ?_⟩
      repeat(first|with_reducible first|refine vmR ?_|refine vmV rfl ?_|refine vmW rfl ?_|refine vmL ?_|refine blockW_y (by decide) ?_|((with_reducible first|apply vmO|apply vmT|apply vmC);case a=>simp;with_reducible first|exact .v|exact .c|exact .t|exact .f))
      refine ⟨by simp [readSame, beqAV_self, t5, rwB, r5, g9, g95]; done, _, by simp; first | done | rfl, ?_⟩
      repeat(first|with_reducible first|refine vmR ?_|refine vmV rfl ?_|refine vmW rfl ?_|refine vmL ?_|refine blockW_y (by decide) ?_|((with_reducible first|apply vmO|apply vmT|apply vmC);case a=>simp [t1, t5, t8, w1];with_reducible first|exact .v|exact .c|exact .t|exact .f))
      exact ⟨25 - (i + 1), by omega, _, _, i + 1, rfl, rfl, by omega, by omega, by simp [t1], by simp [t5], by simp, ⟨q, _, _, _, _, _, _, hq0, wo5⟩, e05⟩
    by_cases k2 : d.kind = 2
    · repeat(first|with_reducible first|refine vmR ?_|refine vmV rfl ?_|refine vmW rfl ?_|refine vmL ?_|refine blockW_y (by decide) ?_|((with_reducible first|apply vmO|apply vmT|apply vmC);case a=>simp [t5, t8, g9, k0, k1, k2, kc, ki];with_reducible first|exact .v|exact .c|exact .t|exact .f))
      refine A.mono (woopen_ans d.keep dok.i64 dok.len d.kv dok.sv wp p m q i R O last ld dead D hB woB (by omega) hpB) ?_
      rintro _ h5 ⟨rfl, ⟨q5, R5, last5, D5, hq5, wo5⟩, x5⟩
      have e05 : HE h0 h5 := heB.x2 x5 (fun o z => by rcases z with z | z | z <;> omega) (fun _ z => z.elim)
      refine ⟨_, by simp; first | done | rfl, ?_⟩
      repeat(first|with_reducible first|refine vmR ?_|refine vmV rfl ?_|refine vmW rfl ?_|refine vmL ?_|refine blockW_y (by decide) ?_|((with_reducible first|apply vmO|apply vmT|apply vmC);case a=>simp [t1, t5, t8, w1];with_reducible first|exact .v|exact .c|exact .t|exact .f))
      exact ⟨25 - (i + 1), by omega, _, _, i + 1, rfl, rfl, by omega, by omega, by simp [t1], by simp [t5], by simp, ⟨q5, _, _, _, _, _, _, Nat.le_trans heB.no hq5, wo5⟩, e05⟩
    · repeat(first|with_reducible first|refine vmR ?_|refine vmV rfl ?_|refine vmW rfl ?_|refine vmL ?_|refine blockW_y (by decide) ?_|((with_reducible first|apply vmO|apply vmT|apply vmC);case a=>simp [t1, t5, t8, g9, k0, k1, k2, w1];with_reducible first|exact .v|exact .c|exact .t|exact .f))
      exact ⟨25 - (i + 1), by omega, _, _, i + 1, rfl, rfl, by omega, by omega, by simp [t1], by simp [t5], by simp, ⟨q, _, _, _, _, _, _, hq0, woB.more⟩, heB⟩
  · apply A_go Tryz.func3 rfl (by rfl); (case hn => (simp [Tryz.ntmps3]; rfl))
    repeat(first|with_reducible first|refine vmR ?_|refine vmV rfl ?_|refine vmW rfl ?_|refine vmL ?_|refine blockW_y (by decide) ?_|((with_reducible first|apply vmO|apply vmT|apply vmC);case a=>simp [vc, vi, q0];with_reducible first|exact .v|exact .c|exact .t|exact .f))
    obtain ⟨nq, hnq⟩ : ∃ nq : Int, nq = qt.tmod 3001 := ⟨_, rfl⟩
    have nb1 : 0 ≤ nq := by rw [hnq]; exact Int.tmod_nonneg _ (by omega)
    have nb2 : nq < 3001 := by rw [hnq]; exact Int.tmod_lt_of_pos _ (by omega)
    rw [← hnq]
    refine A.mono (new_ans nq h0 (by omega)) ?_
    rintro _ h1 ⟨p, m, rfl, d1, e1, hp0, hm0⟩
    refine ⟨_, by simp; first | done | rfl, ?_⟩
    repeat(first|with_reducible first|refine vmR ?_|refine vmV rfl ?_|refine vmW rfl ?_|refine vmL ?_|refine blockW_y (by decide) ?_|((with_reducible first|apply vmO|apply vmT|apply vmC);case a=>simp;with_reducible first|exact .v|exact .c|exact .t|exact .f))
    have d1p := d1.pn
    have d1m := d1.mn
    obtain ⟨wp, hwp⟩ : ∃ wp, wp = h1.no := ⟨_, rfl⟩
    obtain ⟨h2, hh2⟩ : ∃ h2 : Hp Fm, h2 = { h1 with obj := Mp.set h1.obj wp (.row [.ptr p 0, .nilp, .nils, .nils, .bool false]), no := wp + 1 } := ⟨_, rfl⟩
    rw [← hwp, ← hh2]
    have e12 : HE h1 h2 := by rw [hh2, hwp]; exact (HE.refl h1).new _
    have r2 : Mp.get h2.obj wp = some (.row [.ptr p 0, .nilp, .nils, .nils, .bool false]) := by rw [hh2]; simp
    have n2 : h2.no = wp + 1 := by rw [hh2]
    have e02 := e1.trans e12
    have wf2 : (⟨[], 0, nq, -1, false⟩ : Dk).wf := wf_new nq (by omega)
    repeat(first|with_reducible first|refine vmR ?_|refine vmV rfl ?_|refine vmW rfl ?_|refine vmL ?_|refine blockW_y (by decide) ?_|((with_reducible first|apply vmO|apply vmT|apply vmC);case a=>simp [r2];with_reducible first|exact .v|exact .c|exact .t|exact .f))
    refine A.mono (wcreate_ans logN (by decide) p m _ wf2 h2 (d1.he e12) (fun z => by rw [e02.pol]; exact hp z)) ?_
    rintro _ h3 ⟨d3, x3, hres⟩
    rw [fresh_new logN named_log nq nb1] at d3 hres
    rcases hres with ⟨_, q, rfl, lg3, hq2⟩ | ⟨c, _⟩
    case inr => exact (c rfl).elim
    simp only at d3
    have r3 := (x3.obj wp (by omega) (fun z => by rcases z with z | z <;> omega)).trans r2
    have n3 := x3.no
    have e03 : HE h0 h3 := e02.x2 x3 (fun o z => by rcases z with z | z <;> omega) (fun _ z => z.elim)
    have qn := lg3.qn
    have z0 := e02.no
    refine ⟨_, by simp; first | done | rfl, ?_⟩
    repeat(first|with_reducible first|refine vmR ?_|refine vmV rfl ?_|refine vmW rfl ?_|refine vmL ?_|refine blockW_y (by decide) ?_|((with_reducible first|apply vmO|apply vmT|apply vmC);case a=>simp [eqlAV, r3];with_reducible first|exact .v|exact .c|exact .t|exact .f))
    obtain ⟨h4, hh4⟩ : ∃ h4 : Hp Fm, h4 = { h3 with obj := Mp.set h3.obj wp (.row [.ptr p 0, .ptr q 0, .nils, .nils, .bool false]) } := ⟨_, rfl⟩
    rw [← hh4]
    have e04 : HE h0 h4 := by rw [hh4]; exact e03.set (by have := e1.no; omega) _
    have wo4 : Wo h4 wp p m q 0 [] [] 0 false false (oneW [] 0 1 2 nq (-1) false) := by
      obtain ⟨es, a1, a2⟩ := d3.map
      refine ⟨⟨.nils, .nils, [], by rw [hh4]; simp, .inl ⟨rfl, rfl⟩, trivial, (fun z => by cases z), rfl, rfl⟩, ?_, ?_, by rw [hh4]; show wp < h3.no; omega, ⟨by omega, by omega, by omega, by omega, by omega⟩, ⟨trivial, rfl, by simp [fileB], by simp, _, _, 1, 2, nq, -1, by omega, by omega, .inl ⟨rfl, rfl, rfl, rfl, rfl⟩⟩⟩
      · refine ⟨?_, ⟨es, ?_, a2⟩, by rw [hh4]; exact d3.pn, by rw [hh4]; exact d3.mn, d3.born⟩
        · rw [hh4]; simp [show p ≠ wp by omega]; exact d3.row
        · rw [hh4]; simp [show m ≠ wp by omega]; exact a1
      · refine ⟨?_, by rw [hh4]; exact lg3.qn⟩
        rw [hh4]; simp [show q ≠ wp by omega]; exact lg3.row
    have hwp0 : h0.no ≤ wp := by have := e1.no; omega
    refine W_loop (fun mm s => ∃ (t : Fm AV) (h : Hp Fm) (i : Nat), s = ⟨t, 85, h, none⟩ ∧ mm = 25 - i ∧ i ≤ 25 ∧ i ≤ l.length ∧ tget t 1 = v ∧ tget t 5 = .ptr wp 0 ∧ tget t 8 = .int .i64 i ∧ (∃ q R O last ld dead D, h0.no ≤ q ∧ Wo h wp p m q i R O last ld dead D) ∧ HE h0 h) 25
      ⟨_, _, 0, rfl, rfl, by omega, by omega, by simp, by simp, by simp, ⟨q, _, _, _, _, _, _, by omega, wo4⟩, e04⟩ ?_
    clear wo4 e04 hh4 h4 qn lg3 r3 d3 x3 n3 e03 hq2
    rintro mm s ⟨t, h, i, rfl, rfl, hi25, hi, t1, t5, t8, ⟨q, R, O, last, ld, dead, D, hq0, wo⟩, he⟩
    have hpz : ∀ z, h.pol z = false := fun z => by rw [he.pol]; exact hp z
    by_cases qi : i < l.length ∧ i < 25
    case neg =>
      have A1 := woopen_ans [] (by simp) (by simp) .nils (.inl ⟨rfl, rfl⟩) wp p m q i R O last ld dead D h wo (by omega) hpz
      by_cases qa : i < l.length
      · have qb : ¬ i < 25 := by omega
        have qb' : ¬ (i : Int) < 25 := by omega
        repeat(first|with_reducible first|refine vmR ?_|refine vmV rfl ?_|refine vmW rfl ?_|refine vmL ?_|refine blockW_y (by decide) ?_|((with_reducible first|apply vmO|apply vmT|apply vmC);case a=>simp [t1, t5, t8, vc, vi, vn, vl, qa, qb, qb'];with_reducible first|exact .v|exact .c|exact .t|exact .f))
        refine A.mono A1 ?_
        rintro _ h5 ⟨rfl, _, x5⟩
        have e05 : HE h0 h5 := he.x2 x5 (fun o z => by rcases z with z | z | z <;> omega) (fun _ z => z.elim)
        refine ⟨_, by simp; first | done | rfl, ?_⟩
        repeat(first|with_reducible first|refine vmR ?_|refine vmV rfl ?_|refine vmW rfl ?_|refine vmL ?_|refine blockW_y (by decide) ?_|((with_reducible first|apply vmO|apply vmT|apply vmC);case a=>simp;with_reducible first|exact .v|exact .c|exact .t|exact .f))
        refine A.mono (wlives_ans h5 (fun z => by rw [e05.pol]; exact hp z)) ?_
        rintro _ h6 ⟨rfl, e6⟩
        refine ⟨_, by simp; first | done | rfl, ?_⟩
        repeat(first|with_reducible first|refine vmR ?_|refine vmV rfl ?_|refine vmW rfl ?_|refine vmL ?_|refine blockW_y (by decide) ?_|((with_reducible first|apply vmO|apply vmT|apply vmC);case a=>simp;with_reducible first|exact .v|exact .c|exact .t|exact .f))
        (first | apply endW_r | apply endW_n); (case h1 => (simp [Tryz.results3]; first | done | rfl))
        exact ⟨by simp, e05.trans e6⟩
      · have qa' : ¬ (i : Int) < l.length := by omega
        repeat(first|with_reducible first|refine vmR ?_|refine vmV rfl ?_|refine vmW rfl ?_|refine vmL ?_|refine blockW_y (by decide) ?_|((with_reducible first|apply vmO|apply vmT|apply vmC);case a=>simp [t1, t5, t8, vc, vi, vn, vl, qa, qa'];with_reducible first|exact .v|exact .c|exact .t|exact .f))
        refine A.mono A1 ?_
        rintro _ h5 ⟨rfl, _, x5⟩
        have e05 : HE h0 h5 := he.x2 x5 (fun o z => by rcases z with z | z | z <;> omega) (fun _ z => z.elim)
        refine ⟨_, by simp; first | done | rfl, ?_⟩
        repeat(first|with_reducible first|refine vmR ?_|refine vmV rfl ?_|refine vmW rfl ?_|refine vmL ?_|refine blockW_y (by decide) ?_|((with_reducible first|apply vmO|apply vmT|apply vmC);case a=>simp;with_reducible first|exact .v|exact .c|exact .t|exact .f))
        refine A.mono (wlives_ans h5 (fun z => by rw [e05.pol]; exact hp z)) ?_
        rintro _ h6 ⟨rfl, e6⟩
        refine ⟨_, by simp; first | done | rfl, ?_⟩
        repeat(first|with_reducible first|refine vmR ?_|refine vmV rfl ?_|refine vmW rfl ?_|refine vmL ?_|refine blockW_y (by decide) ?_|((with_reducible first|apply vmO|apply vmT|apply vmC);case a=>simp;with_reducible first|exact .v|exact .c|exact .t|exact .f))
        (first | apply endW_r | apply endW_n); (case h1 => (simp [Tryz.results3]; first | done | rfl))
        exact ⟨by simp, e05.trans e6⟩
    obtain ⟨qa, qb⟩ := qi
    have qb' : (i : Int) < 25 := by omega
    have w1 : IntKind.i64.wrap ((i : Int) + 1) = ((i + 1 : Nat) : Int) := by rw [wrap64 (by omega) (by omega)]; simp
    have i1 := hv.idx Tryz.underlying22 z38 (k := .i64) (i := i) (by simp) (by simpa using qa)
    simp only [List.getElem_map, Int.toNat_natCast] at i1
    have dok := hok _ (List.getElem_mem qa)
    obtain ⟨d, hd⟩ : ∃ d, d = l[i] := ⟨_, rfl⟩
    rw [← hd] at i1 dok
    have kc := dok.sv.cells
    have ki := dok.sv.isCell
    have rc := dok.gok.sv.cells
    have ri := dok.gok.sv.isCell
    simp only [encDe] at i1
    repeat(first|with_reducible first|refine vmR ?_|refine vmV rfl ?_|refine vmW rfl ?_|refine vmL ?_|refine blockW_y (by decide) ?_|((with_reducible first|apply vmO|apply vmT|apply vmC);case a=>simp [t1, t5, t8, vc, vi, vn, vl, qa, qb, qb', i1, kc, ki, rc, ri];with_reducible first|exact .v|exact .c|exact .t|exact .f))
    obtain ⟨o, ho⟩ : ∃ o, o = h.no := ⟨_, rfl⟩
    rw [← ho]
    obtain ⟨hB, hhB⟩ : ∃ hB : Hp Fm, hB = { h with obj := Mp.set (Mp.set h.obj o (.row [.int .i64 0, .int .i64 0, .int .i64 0, .nils, .nils])) o (.row [.int .i64 d.kind, .int .i64 d.n, .int .i64 d.g.ep, d.g.rv, d.kv]), no := o + 1 } := ⟨_, rfl⟩
    rw [← hhB]
    have eB : HE h hB := by rw [hhB, ho]; exact ((HE.refl h).new _).set (Nat.le_refl _) _
    have g9 : Mp.get hB.obj o = some (.row [.int .i64 d.kind, .int .i64 d.n, .int .i64 d.g.ep, d.g.rv, d.kv]) := by rw [hhB]; simp
    have oB : o < hB.no := by rw [hhB]; simp
    have woB := wo.he eB
    have heB := he.trans eB
    have hpB : ∀ z, hB.pol z = false := fun z => by rw [heB.pol]; exact hp z
    have pnB := woB.dk.pn
    have mnB := woB.dk.mn
    by_cases k0 : d.kind = 0
    · repeat(first|with_reducible first|refine vmR ?_|refine vmV rfl ?_|refine vmW rfl ?_|refine vmL ?_|refine blockW_y (by decide) ?_|((with_reducible first|apply vmO|apply vmT|apply vmC);case a=>simp [t5, t8, g9, k0, rc, ri];with_reducible first|exact .v|exact .c|exact .t|exact .f))
      refine A.mono (woapp_ans d.g dok.gok wp p m q i R O last ld dead D hB woB (by omega) hpB) ?_
      rintro _ h5 ⟨rfl, ⟨R5, O5, last5, ld5, dead5, D5, wo5⟩, x5⟩
      have e05 : HE h0 h5 := heB.x2 x5 (fun o z => by rcases z with z | z | z | z <;> omega) (fun _ z => z.elim)
      refine ⟨_, by simp; first | done | rfl, ?_⟩
      repeat(first|with_reducible first|refine vmR ?_|refine vmV rfl ?_|refine vmW rfl ?_|refine vmL ?_|refine blockW_y (by decide) ?_|((with_reducible first|apply vmO|apply vmT|apply vmC);case a=>simp [t1, t5, t8, w1];with_reducible first|exact .v|exact .c|exact .t|exact .f))
      exact ⟨25 - (i + 1), by omega, _, _, i + 1, rfl, rfl, by omega, by omega, by simp [t1], by simp [t5], by simp, ⟨q, _, _, _, _, _, _, hq0, wo5⟩, e05⟩
    by_cases k1 : d.kind = 1
    · obtain ⟨gv, ov, ws, rwB, aa⟩ := woB.row
      repeat(first|with_reducible first|refine vmR ?_|refine vmV rfl ?_|refine vmW rfl ?_|refine vmL ?_|refine blockW_y (by decide) ?_|((with_reducible first|apply vmO|apply vmT|apply vmC);case a=>simp [t5, t8, g9, k0, k1];with_reducible first|exact .v|exact .c|exact .t|exact .f))
      (with_reducible refine W_draw_id (pln := true) [0, 1, 2, 3, 4, 5, 6] [(3, (3, [])), (5, (5, []))] (by kernel_rfl) rfl ?_)
      repeat(first|with_reducible first|refine vmR ?_|refine vmV rfl ?_|refine vmW rfl ?_|refine vmL ?_|refine blockW_y (by decide) ?_|((with_reducible first|apply vmO|apply vmT|apply vmC);case a=>simp [t5, rwB, g9];with_reducible first|exact .v|exact .c|exact .t|exact .f))
      refine A.mono (arm_ans d.n p m D hB.drew (woB.dk.he (HE.refl hB).drew)) ?_
      rintro r5 h5 ⟨d5, x5⟩
      have x5' : HX (fun o => o = p ∨ o = m) (fun _ => False) hB h5 := ((HE.refl hB).drew.x _ _).trans x5
      have e05 : HE h0 h5 := heB.x2 x5' (fun o z => by rcases z with z | z <;> omega) (fun _ z => z.elim)
      have r5 := (x5'.obj wp woB.wn (fun z => by rcases z with z | z; exact woB.ne.1 z; exact woB.ne.2.1 z)).trans rwB
      have wo5 : Wo h5 wp p m q (i + 1) R O last ld dead { D with left := if d.n < -1 then -1 else d.n } :=
        ⟨⟨gv, ov, ws, r5, aa⟩, d5, woB.lg.go x5' woB.ne.2.2.2.1 woB.ne.2.2.2.2, Nat.lt_of_lt_of_le woB.wn x5'.no, woB.ne, woB.wi.arm d.n dok.n64⟩
      have po : o ≠ p := by have := wo.dk.pn; omega
      have mo : o ≠ m := by have := wo.dk.mn; omega
      have g95 := (x5'.obj o oB (fun z => by rcases z with z | z; exact po z; exact mo z)).trans g9
      refine ⟨_, by simp; first | done | rfl, ?_⟩
      repeat(first|with_reducible first|refine vmR ?_|refine vmV rfl ?_|refine vmW rfl ?_|refine vmL ?_|refine blockW_y (by decide) ?_|((with_reducible first|apply vmO|apply vmT|apply vmC);case a=>simp;with_reducible first|exact .v|exact .c|exact .t|exact .f))
      refine ⟨by simp [readSame, beqAV_self, t5, rwB, r5, g9, g95]; done, _, by simp; first | done | rfl, ?_⟩
      repeat(first|with_reducible first|refine vmR ?_|refine vmV rfl ?_|refine vmW rfl ?_|refine vmL ?_|refine blockW_y (by decide) ?_|((with_reducible first|apply vmO|apply vmT|apply vmC);case a=>simp [t1, t5, t8, w1];with_reducible first|exact .v|exact .c|exact .t|exact .f))
      exact ⟨25 - (i + 1), by omega, _, _, i + 1, rfl, rfl, by omega, by omega, by simp [t1], by simp [t5], by simp, ⟨q, _, _, _, _, _, _, hq0, wo5⟩, e05⟩
    by_cases k2 : d.kind = 2
    · repeat(first|with_reducible first|refine vmR ?_|refine vmV rfl ?_|refine vmW rfl ?_|refine vmL ?_|refine blockW_y (by decide) ?_|((with_reducible first|apply vmO|apply vmT|apply vmC);case a=>simp [t5, t8, g9, k0, k1, k2, kc, ki];with_reducible first|exact .v|exact .c|exact .t|exact .f))
      refine A.mono (woopen_ans d.keep dok.i64 dok.len d.kv dok.sv wp p m q i R O last ld dead D hB woB (by omega) hpB) ?_
      rintro _ h5 ⟨rfl, ⟨q5, R5, last5, D5, hq5, wo5⟩, x5⟩
      have e05 : HE h0 h5 := heB.x2 x5 (fun o z => by rcases z with z | z | z <;> omega) (fun _ z => z.elim)
      refine ⟨_, by simp; first | done | rfl, ?_⟩
      repeat(first|with_reducible first|refine vmR ?_|refine vmV rfl ?_|refine vmW rfl ?_|refine vmL ?_|refine blockW_y (by decide) ?_|((with_reducible first|apply vmO|apply vmT|apply vmC);case a=>simp [t1, t5, t8, w1];with_reducible first|exact .v|exact .c|exact .t|exact .f))
      exact ⟨25 - (i + 1), by omega, _, _, i + 1, rfl, rfl, by omega, by omega, by simp [t1], by simp [t5], by simp, ⟨q5, _, _, _, _, _, _, Nat.le_trans heB.no hq5, wo5⟩, e05⟩
    · repeat(first|with_reducible first|refine vmR ?_|refine vmV rfl ?_|refine vmW rfl ?_|refine vmL ?_|refine blockW_y (by decide) ?_|((with_reducible first|apply vmO|apply vmT|apply vmC);case a=>simp [t1, t5, t8, g9, k0, k1, k2, w1];with_reducible first|exact .v|exact .c|exact .t|exact .f))
      exact ⟨25 - (i + 1), by omega, _, _, i + 1, rfl, rfl, by omega, by omega, by simp [t1], by simp [t5], by simp, ⟨q, _, _, _, _, _, _, hq0, woB.more⟩, heB⟩
end Go.Vn
