/- What functions of the program come to, in the value machine (a part of the proof of the claim's statement). No condition. -/
import Derived.Test.YtnbflhcbhicgmaaGreatVnG2
set_option linter.unusedSimpArgs false
set_option linter.unusedVariables false
set_option maxRecDepth 20000
namespace Go.Vn
open Go.Proofs

theorem new_ans (q : Int) (h0 : Hp Fm) (hq : 0 ≤ q ∧ q ≤ 16777216) :
    A Tryz.prog TT (.func 4) [.int .i64 q] h0 (fun r h' => ∃ p m, r = .ptr p 0 ∧ DKs h' p m ⟨[], 0, q, -1, false⟩ ∧ HE h0 h' ∧ h0.no ≤ p ∧ h0.no ≤ m) := by
  have g1 : ¬ q < 0 := by omega
  have g2 : ¬ 16777216 < q := by omega
  apply A_go Tryz.func4 rfl (by rfl); (case hn => (simp [Tryz.ntmps4]; rfl))
  repeat(first|with_reducible first|refine vmR ?_|refine vmV rfl ?_|refine vmW rfl ?_|refine vmL ?_|refine blockW_y (by decide) ?_|((with_reducible first|apply vmO|apply vmT|apply vmC);case a=>simp [g1, g2, makeMapAV];with_reducible first|exact .v|exact .c|exact .t|exact .f))
  (first | apply endW_r | apply endW_n); (case h1 => (simp [Tryz.results4]; first | done | rfl))
  refine ⟨h0.no + 1, h0.no, rfl, ⟨by simp, ⟨[], by simp, trivial⟩, by simp, by simp; omega, ⟨by simp, by simp⟩⟩, ((HE.refl h0).new _).new _, by simp, by simp⟩

theorem DKs.put {h : Hp Fm} {p m : Nat} {D : Dk} (d : DKs h p m D) (k : List UInt8) (a : FV) {es' : List (AV × AV × Nat)} (he : EntsR FR (setF k a D.clk D.fs) es') {h' : Hp Fm} (hm : Mp.get h'.obj m = some (.mp es' (clkF k D.clk D.fs))) (hx : HX (fun q => q = m) (fun _ => False) h h') : DKs h' p m (D.put k a) :=
  ⟨(hx.obj p d.pn d.ne).trans d.row, ⟨es', hm, he⟩, Nat.lt_of_lt_of_le d.pn hx.no, Nat.lt_of_lt_of_le d.mn hx.no, d.born.set k a⟩

theorem nothing_ans (h : Hp Fm) (Q : AV → Hp Fm → Prop) (hq : Q (.tup []) h) : A Tryz.prog TT (.func 45) [] h Q := by
  apply A_go Tryz.func45 rfl (by rfl); (case hn => (simp [Tryz.ntmps45]; rfl))
  repeat(first|with_reducible first|refine vmR ?_|refine vmV rfl ?_|refine vmW rfl ?_|refine vmL ?_|refine blockW_y (by decide) ?_|((with_reducible first|apply vmO|apply vmT|apply vmC);case a=>simp;with_reducible first|exact .v|exact .c|exact .t|exact .f))
  (first | apply endW_r | apply endW_n); (case h1 => (simp [Tryz.results45]; first | done | rfl))
  exact hq

theorem create1_ans (rd rn p m : Nat) (k : List UInt8) (D : Dk) (h0 : Hp Fm) (d : DKs h0 p m D) (h1 : Mp.get h0.obj rd = some (.row [.ptr p 0])) (h2 : Mp.get h0.obj rn = some (.row [.str k])) :
    A Tryz.prog TT (.func 47) [.ptr rd 0, .ptr rn 0] h0 (fun _ h' => DKs h' p m (D.put k ([], 0)) ∧ DX p m h0 h') := by
  have hr := d.row
  obtain ⟨es, hm, hes⟩ := d.map
  obtain ⟨es', hes', hup⟩ := upd_ans (m := m) (clk := D.clk) (k := k) (a := (([], 0) : FV)) (v := .agg [.nils, .int .i64 0]) Tryz.underlying44 Tryz.underlying9 hes ⟨.nils, .inl ⟨rfl, rfl⟩, rfl⟩
  apply A_go Tryz.func47 rfl (by rfl); (case hn => (simp [Tryz.ntmps47]; rfl))
  repeat(first|with_reducible first|refine vmR ?_|refine vmV rfl ?_|refine vmW rfl ?_|refine vmL ?_|refine blockW_y (by decide) ?_|((with_reducible first|apply vmO|apply vmT|apply vmC);case a=>simp;with_reducible first|exact .v|exact .c|exact .t|exact .f))
  (with_reducible refine W_draw_id (pln := true) [0, 1, 2, 3, 4, 5, 6] [(0, (0, [])), (3, (3, [])), (4, (4, []))] (by kernel_rfl) rfl ?_)
  repeat(first|with_reducible first|refine vmR ?_|refine vmV rfl ?_|refine vmW rfl ?_|refine vmL ?_|refine blockW_y (by decide) ?_|((with_reducible first|apply vmO|apply vmT|apply vmC);case a=>simp [h1, h2, hr, hm, hup];with_reducible first|exact .v|exact .c|exact .t|exact .f))
  refine ⟨by simp [readSame, beqAV_self, h1, h2, hr, hm]; done, _, by simp; first | done | rfl, ?_⟩
  repeat(first|with_reducible first|refine vmR ?_|refine vmV rfl ?_|refine vmW rfl ?_|refine vmL ?_|refine blockW_y (by decide) ?_|((with_reducible first|apply vmO|apply vmT|apply vmC);case a=>simp;with_reducible first|exact .v|exact .c|exact .t|exact .f))
  (first | apply endW_r | apply endW_n); (case h1 => (simp [Tryz.results47]; first | done | rfl))
  have hx : ∀ (S : Nat → Prop), S m → HX S (fun _ => False) h0 { h0.drew with obj := Mp.set h0.drew.obj m (.mp es' (clkF k D.clk D.fs)) } := fun S hS => ((HX.refl S _ h0).drew).set (fun _ => hS) _
  exact ⟨d.put k _ hes' (by simp) (hx _ rfl), hx _ (.inr rfl)⟩

theorem create_ans (k : List UInt8) (hk : k.length ≤ 1000000) (p m : Nat) (D : Dk) (h0 : Hp Fm) (d : DKs h0 p m D) (hl : -1 ≤ D.left ∧ D.left ≤ 9223372036854775807) (hf : D.fs.length ≤ 1000000) :
    A Tryz.prog TT (.func 23) [.ptr p 0, .str k] h0 (fun r h' => r = .int .i64 (D.deed (if namedP k then (if has k D then 9 else if 400 ≤ D.fs.length then 6 else 0) else 1) (fun D => D.put k ([], 0)) id).1 ∧
      DKs h' p m (D.deed (if namedP k then (if has k D then 9 else if 400 ≤ D.fs.length then 6 else 0) else 1) (fun D => D.put k ([], 0)) id).2 ∧ DX p m h0 h') := by
  obtain ⟨e, he⟩ : ∃ e : Int, e = (if namedP k then (if has k D then 9 else if 400 ≤ D.fs.length then 6 else 0) else 1) := ⟨_, rfl⟩
  rw [← he]
  obtain ⟨hs, hhs⟩ : ∃ hs : Hp Fm, hs = { h0 with obj := Mp.set (Mp.set h0.obj h0.no (.row [.ptr p 0])) (h0.no + 1) (.row [.str k]), no := h0.no + 1 + 1 } := ⟨_, rfl⟩
  have e0 : HE h0 hs := by rw [hhs]; exact ((HE.refl h0).new _).new _
  have g1 : Mp.get hs.obj h0.no = some (.row [.ptr p 0]) := by rw [hhs]; simp
  have g2 : Mp.get hs.obj (h0.no + 1) = some (.row [.str k]) := by rw [hhs]; simp
  have n1 : h0.no + 1 < hs.no := by rw [hhs]; simp
  have pn := d.pn
  have mn := d.mn
  have key : ∀ h, HE hs h → A Tryz.prog TT (.func 42) [.ptr p 0, .int .i64 e, .fn (.func 47) [] [.ptr h0.no 0, .ptr (h0.no + 1) 0], .fn (.func 45) [] []] h
      (fun r h' => r = .int .i64 (D.deed e (fun D => D.put k ([], 0)) id).1 ∧ DKs h' p m (D.deed e (fun D => D.put k ([], 0)) id).2 ∧ DX p m h0 h') := by
    intro h hh
    refine A.mono (deed_ans p m D h ((d.he e0).he hh) hl e 47 45 _ _ (by simp) (by simp) (fun D => D.put k ([], 0)) id ?_ ?_) ?_
    · intro _ _ h' d' x'
      exact create1_ans _ _ p m k _ h' d' ((x'.obj _ (by have := hh.no; omega) (by omega)).trans ((hh.obj _ (by omega)).trans g1)) ((x'.obj _ (by have := hh.no; omega) (by omega)).trans ((hh.obj _ (by omega)).trans g2))
    · intro _ _ h' d' x'
      exact nothing_ans h' _ ⟨d', HX.refl _ _ _⟩
    · rintro r h' ⟨a, b, c⟩
      exact ⟨a, b, ((e0.trans hh).x _ _).trans c⟩
  apply A_go Tryz.func23 rfl (by rfl); (case hn => (simp [Tryz.ntmps23]; rfl))
  repeat(first|with_reducible first|refine vmR ?_|refine vmV rfl ?_|refine vmW rfl ?_|refine vmL ?_|refine blockW_y (by decide) ?_|((with_reducible first|apply vmO|apply vmT|apply vmC);case a=>simp;with_reducible first|exact .v|exact .c|exact .t|exact .f))
  rw [← hhs]
  obtain ⟨es, hm, hes⟩ := d.map
  have hr := d.row
  refine A.mono (named_ans k hk hs) ?_
  rintro _ h1 ⟨rfl, e1⟩
  refine ⟨_, by simp; first | done | rfl, ?_⟩
  have g1' : Mp.get h1.obj h0.no = some (.row [.ptr p 0]) := (e1.obj _ (by omega)).trans g1
  have g2' : Mp.get h1.obj (h0.no + 1) = some (.row [.str k]) := (e1.obj _ n1).trans g2
  cases q1 : namedP k with
  | false =>
    have : e = 1 := by rw [he]; simp [q1]
    subst this
    repeat(first|with_reducible first|refine vmR ?_|refine vmV rfl ?_|refine vmW rfl ?_|refine vmL ?_|refine blockW_y (by decide) ?_|((with_reducible first|apply vmO|apply vmT|apply vmC);case a=>simp [g1', g2'];with_reducible first|exact .v|exact .c|exact .t|exact .f))
    refine A.mono (key h1 e1) ?_
    rintro r h2 ⟨rfl, a2, a3⟩
    refine ⟨_, by simp; first | done | rfl, ?_⟩
    repeat(first|with_reducible first|refine vmR ?_|refine vmV rfl ?_|refine vmW rfl ?_|refine vmL ?_|refine blockW_y (by decide) ?_|((with_reducible first|apply vmO|apply vmT|apply vmC);case a=>simp;with_reducible first|exact .v|exact .c|exact .t|exact .f))
    (first | apply endW_r | apply endW_n); (case h1 => (simp [Tryz.results23]; first | done | rfl))
    exact ⟨rfl, a2, a3⟩
  | true =>
    repeat(first|with_reducible first|refine vmR ?_|refine vmV rfl ?_|refine vmW rfl ?_|refine vmL ?_|refine blockW_y (by decide) ?_|((with_reducible first|apply vmO|apply vmT|apply vmC);case a=>simp [g1', g2'];with_reducible first|exact .v|exact .c|exact .t|exact .f))
    refine A.mono (there_ans k p m D h1 ((d.he e0).he e1)) ?_
    rintro _ h2 ⟨rfl, e2⟩
    refine ⟨_, by simp; first | done | rfl, ?_⟩
    have g1'' : Mp.get h2.obj h0.no = some (.row [.ptr p 0]) := (e2.obj _ (by have := e1.no; omega)).trans g1'
    have g2'' : Mp.get h2.obj (h0.no + 1) = some (.row [.str k]) := (e2.obj _ (by have := e1.no; omega)).trans g2'
    cases q2 : has k D with
    | true =>
      have : e = 9 := by rw [he]; simp [q1, q2]
      subst this
      repeat(first|with_reducible first|refine vmR ?_|refine vmV rfl ?_|refine vmW rfl ?_|refine vmL ?_|refine blockW_y (by decide) ?_|((with_reducible first|apply vmO|apply vmT|apply vmC);case a=>simp [g1'', g2''];with_reducible first|exact .v|exact .c|exact .t|exact .f))
      refine A.mono (key h2 (e1.trans e2)) ?_
      rintro r h3 ⟨rfl, a2, a3⟩
      refine ⟨_, by simp; first | done | rfl, ?_⟩
      repeat(first|with_reducible first|refine vmR ?_|refine vmV rfl ?_|refine vmW rfl ?_|refine vmL ?_|refine blockW_y (by decide) ?_|((with_reducible first|apply vmO|apply vmT|apply vmC);case a=>simp;with_reducible first|exact .v|exact .c|exact .t|exact .f))
      (first | apply endW_r | apply endW_n); (case h1 => (simp [Tryz.results23]; first | done | rfl))
      exact ⟨rfl, a2, a3⟩
    | false =>
      have d2 := ((d.he e0).he e1).he e2
      have hr2 := d2.row
      obtain ⟨es2, hm2, hes2⟩ := d2.map
      have hlen : es2.length = D.fs.length := hes2.len
      by_cases q3 : 400 ≤ D.fs.length
      · have q3' : (400 : Int) ≤ D.fs.length := by omega
        have : e = 6 := by rw [he]; simp [q1, q2, q3]
        subst this
        repeat(first|with_reducible first|refine vmR ?_|refine vmV rfl ?_|refine vmW rfl ?_|refine vmL ?_|refine blockW_y (by decide) ?_|((with_reducible first|apply vmO|apply vmT|apply vmC);case a=>simp [g1'', g2'', hr2, hm2, lenMapAV, hlen, q3', q3];with_reducible first|exact .v|exact .c|exact .t|exact .f))
        refine A.mono (key h2 (e1.trans e2)) ?_
        rintro r h3 ⟨rfl, a2, a3⟩
        refine ⟨_, by simp; first | done | rfl, ?_⟩
        repeat(first|with_reducible first|refine vmR ?_|refine vmV rfl ?_|refine vmW rfl ?_|refine vmL ?_|refine blockW_y (by decide) ?_|((with_reducible first|apply vmO|apply vmT|apply vmC);case a=>simp;with_reducible first|exact .v|exact .c|exact .t|exact .f))
        (first | apply endW_r | apply endW_n); (case h1 => (simp [Tryz.results23]; first | done | rfl))
        exact ⟨rfl, a2, a3⟩
      · have q3' : ¬ (400 : Int) ≤ D.fs.length := by omega
        have : e = 0 := by rw [he]; simp [q1, q2, q3]
        subst this
        repeat(first|with_reducible first|refine vmR ?_|refine vmV rfl ?_|refine vmW rfl ?_|refine vmL ?_|refine blockW_y (by decide) ?_|((with_reducible first|apply vmO|apply vmT|apply vmC);case a=>simp [g1'', g2'', hr2, hm2, lenMapAV, hlen, q3', q3];with_reducible first|exact .v|exact .c|exact .t|exact .f))
        refine A.mono (key h2 (e1.trans e2)) ?_
        rintro r h3 ⟨rfl, a2, a3⟩
        refine ⟨_, by simp; first | done | rfl, ?_⟩
        repeat(first|with_reducible first|refine vmR ?_|refine vmV rfl ?_|refine vmW rfl ?_|refine vmL ?_|refine blockW_y (by decide) ?_|((with_reducible first|apply vmO|apply vmT|apply vmC);case a=>simp;with_reducible first|exact .v|exact .c|exact .t|exact .f))
        (first | apply endW_r | apply endW_n); (case h1 => (simp [Tryz.results23]; first | done | rfl))
        exact ⟨rfl, a2, a3⟩
end Go.Vn

set_option maxRecDepth 20000
namespace Go.Vn
open Go.Proofs

def Dk.app (b : List UInt8) (k : List UInt8) (D : Dk) : Dk := match lookF k D.fs with
  | some a => D.put k (a.1 ++ b, a.2)
  | none => D
def Dk.syn (k : List UInt8) (D : Dk) : Dk := match lookF k D.fs with
  | some a => D.put k (a.1, a.1.length)
  | none => D

theorem append1_ans (rd rn rb p m : Nat) (k b : List UInt8) (v : AV) (D : Dk) (a : FV) (h0 : Hp Fm) (d : DKs h0 p m D) (h1 : Mp.get h0.obj rd = some (.row [.ptr p 0])) (h2 : Mp.get h0.obj rn = some (.row [.str k])) (h3 : Mp.get h0.obj rb = some (.row [v])) (n1 : rd < h0.no) (n2 : rn < h0.no) (n3 : rb < h0.no)
    (kb : BV h0 v b) (ha : lookF k D.fs = some a) (hl : a.1.length + b.length ≤ 16777216 * 2) (hp : h0.pol 58 = false) :
    A Tryz.prog TT (.func 49) [.ptr rd 0, .ptr rn 0, .ptr rb 0] h0 (fun _ h' => DKs h' p m (D.app b k) ∧ DX p m h0 h') := by
  have hr := d.row
  obtain ⟨es, hm, hes⟩ := d.map
  obtain ⟨fv, ⟨bv, k1, rfl⟩, lk⟩ := look_some (m := m) (clk := D.clk) (k := k) Tryz.underlying44 Tryz.underlying9 hes ha
  have c1 := k1.cells
  have i1 := k1.isCell
  have c2 := kb.cells
  have i2 := kb.isCell
  have eD : D.app b k = D.put k (a.1 ++ b, a.2) := by simp [Dk.app, ha]
  rw [eD]
  apply A_go Tryz.func49 rfl (by rfl); (case hn => (simp [Tryz.ntmps49]; rfl))
  repeat(first|with_reducible first|refine vmR ?_|refine vmV rfl ?_|refine vmW rfl ?_|refine vmL ?_|refine blockW_y (by decide) ?_|((with_reducible first|apply vmO|apply vmT|apply vmC);case a=>simp;with_reducible first|exact .v|exact .c|exact .t|exact .f))
  (with_reducible refine W_draw_id (pln := true) [0, 1, 2, 3, 4, 5, 6, 7, 8, 9, 10, 11, 12, 13, 14, 15, 16, 17, 18, 19, 20, 21, 22, 23] [(0, (0, [14, 15])), (3, (3, [14, 15])), (4, (4, [14, 15])), (5, (5, [])), (8, (8, [])), (9, (9, [])), (10, (10, [])), (12, (12, [])), (15, (15, [0, 14])), (18, (18, [0, 14])), (19, (19, [0, 14])), (20, (20, [0, 14]))] (by kernel_rfl) rfl ?_)
  repeat(first|with_reducible first|refine vmR ?_|refine vmV rfl ?_|refine vmW rfl ?_|refine vmL ?_|refine blockW_y (by decide) ?_|((with_reducible first|apply vmO|apply vmT|apply vmC);case a=>simp [h1, h2, h3, hr, hm, lk, c1, i1, c2, i2, newSeq, newSl, hp];with_reducible first|exact .v|exact .c|exact .t|exact .f))
  obtain ⟨hs, hhs⟩ : ∃ hs : Hp Fm, hs = { h0.drew with len := Mp.set h0.len h0.ng 2, ng := h0.ng + 1 } := ⟨_, rfl⟩
  have e0 : HE h0 hs := by rw [hhs]; exact ((HE.refl h0).drew).newSl 2
  have es0 : ({ obj := h0.obj, no := h0.no, len := Mp.set h0.len h0.ng 2, ng := h0.ng + 1, tape := h0.tape, drawn := h0.drew.drawn, pol := h0.pol } : Hp Fm) = hs := by rw [hhs]; rfl
  rw [es0]
  refine A.mono (concat_ans a.1 b bv v h0.ng 2 hs (BV.sv k1) (kb.mono e0.ho) hl) ?_
  rintro w h4 ⟨k4, e4⟩
  have e04 := e0.trans e4
  have f1 : Mp.get h4.obj rd = some (.row [.ptr p 0]) := (e04.obj _ n1).trans h1
  have f2 : Mp.get h4.obj rn = some (.row [.str k]) := (e04.obj _ n2).trans h2
  have f3 : Mp.get h4.obj rb = some (.row [v]) := (e04.obj _ n3).trans h3
  have fr : Mp.get h4.obj p = _ := (e04.obj _ d.pn).trans hr
  have fm : Mp.get h4.obj m = _ := (e04.obj _ d.mn).trans hm
  have gr : Mp.get hs.obj p = _ := (e0.obj _ d.pn).trans hr
  have gm : Mp.get hs.obj m = _ := (e0.obj _ d.mn).trans hm
  have g1 : Mp.get hs.obj rd = some (.row [.ptr p 0]) := (e0.obj _ n1).trans h1
  have g2 : Mp.get hs.obj rn = some (.row [.str k]) := (e0.obj _ n2).trans h2
  have g3 : Mp.get hs.obj rb = some (.row [v]) := (e0.obj _ n3).trans h3
  have c4 := k4.cells
  have i4 := k4.isCell
  obtain ⟨es', hes', hup⟩ := upd_ans (m := m) (clk := D.clk) (k := k) (a := ((a.1 ++ b, a.2) : FV)) (v := .agg [w, .int .i64 (a.2 : Nat)]) Tryz.underlying44 Tryz.underlying9 hes ⟨w, k4, rfl⟩
  refine ⟨_, by simp; first | done | rfl, ?_⟩
  repeat(first|with_reducible first|refine vmR ?_|refine vmV rfl ?_|refine vmW rfl ?_|refine vmL ?_|refine blockW_y (by decide) ?_|((with_reducible first|apply vmO|apply vmT|apply vmC);case a=>simp [f1, f2, f3, fr, fm, lk, c4, i4, hup];with_reducible first|exact .v|exact .c|exact .t|exact .f))
  refine ⟨by simp [readSame, beqAV_self, h1, h2, h3, hr, hm, lk, f1, f2, f3, fr, fm, g1, g2, g3, gr, gm]; done, _, by simp; first | done | rfl, ?_⟩
  repeat(first|with_reducible first|refine vmR ?_|refine vmV rfl ?_|refine vmW rfl ?_|refine vmL ?_|refine blockW_y (by decide) ?_|((with_reducible first|apply vmO|apply vmT|apply vmC);case a=>simp;with_reducible first|exact .v|exact .c|exact .t|exact .f))
  (first | apply endW_r | apply endW_n); (case h1 => (simp [Tryz.results49]; first | done | rfl))
  have hx : ∀ (S : Nat → Prop), S m → HX S (fun _ => False) h0 { h4 with obj := Mp.set h4.obj m (.mp es' (clkF k D.clk D.fs)) } := fun S hS => (e04.x S _).set (fun _ => hS) _
  exact ⟨d.put k _ hes' (by simp) (hx _ rfl), hx _ (.inr rfl)⟩

def appE (k b : List UInt8) (D : Dk) : Int := if has k D then (if D.quota - used D.fs < b.length then 6 else 0) else 8
theorem lookF_used {k : List UInt8} {fs : Ents FV} {a : FV} (h : lookF k fs = some a) : a.1.length ≤ used fs := by
  induction fs with
  | nil => cases h
  | cons f fs ih =>
    unfold used at ih ⊢
    simp only [lookF] at h
    simp only [List.map_cons, List.sum_cons]
    split at h
    · cases h; omega
    · have := ih h; omega

set_option maxHeartbeats 1000000 in
theorem append_ans (k b : List UInt8) (v : AV) (hb : b.length ≤ 16777216) (p m : Nat) (D : Dk) (h0 : Hp Fm) (d : DKs h0 p m D) (hl : -1 ≤ D.left ∧ D.left ≤ 9223372036854775807) (hq : 0 ≤ D.quota ∧ D.quota ≤ 16777216) (hu : used D.fs ≤ 16777216)
    (kb : BV h0 v b) (kv : ∀ q, isRow v q → ¬ (q = p ∨ q = m)) (hp : h0.pol 58 = false) :
    A Tryz.prog TT (.func 25) [.ptr p 0, .str k, v] h0 (fun r h' => r = .int .i64 (D.deed (appE k b D) (Dk.app b k) (Dk.app b k)).1 ∧ DKs h' p m (D.deed (appE k b D) (Dk.app b k) (Dk.app b k)).2 ∧ DX p m h0 h') := by
  obtain ⟨e, he⟩ : ∃ e : Int, e = appE k b D := ⟨_, rfl⟩
  rw [← he]
  have kc := kb.cells
  have ki := kb.isCell
  have kl := kb.len
  have kn := kb.nm
  obtain ⟨hs, hhs⟩ : ∃ hs : Hp Fm, hs = { h0 with obj := Mp.set (Mp.set (Mp.set h0.obj h0.no (.row [.ptr p 0])) (h0.no + 1) (.row [.str k])) (h0.no + 1 + 1) (.row [v]), no := h0.no + 1 + 1 + 1 } := ⟨_, rfl⟩
  have e0 : HE h0 hs := by rw [hhs]; exact (((HE.refl h0).new _).new _).new _
  have g1 : Mp.get hs.obj h0.no = some (.row [.ptr p 0]) := by rw [hhs]; simp [show ¬ h0.no = h0.no + 1 + 1 by omega]
  have g2 : Mp.get hs.obj (h0.no + 1) = some (.row [.str k]) := by rw [hhs]; simp
  have g3 : Mp.get hs.obj (h0.no + 1 + 1) = some (.row [v]) := by rw [hhs]; simp
  have n1 : h0.no + 1 + 1 < hs.no := by rw [hhs]; simp
  have pn := d.pn
  have mn := d.mn
  have key : ∀ h, HE hs h → A Tryz.prog TT (.func 42) [.ptr p 0, .int .i64 e, .fn (.func 49) [] [.ptr h0.no 0, .ptr (h0.no + 1) 0, .ptr (h0.no + 1 + 1) 0], .fn (.func 49) [] [.ptr h0.no 0, .ptr (h0.no + 1) 0, .ptr (h0.no + 1 + 1) 0]] h
      (fun r h' => r = .int .i64 (D.deed e (Dk.app b k) (Dk.app b k)).1 ∧ DKs h' p m (D.deed e (Dk.app b k) (Dk.app b k)).2 ∧ DX p m h0 h') := by
    intro h hh
    have body : ∀ (D' : Dk) h', D'.fs = D.fs → has k D = true → DKs h' p m D' → DX p m h h' → A Tryz.prog TT (.func 49) [.ptr h0.no 0, .ptr (h0.no + 1) 0, .ptr (h0.no + 1 + 1) 0] h' (fun _ h'' => DKs h'' p m (Dk.app b k D') ∧ DX p m h' h'') := by
      intro D' h' hfs hh' d' x'
      obtain ⟨a, ha⟩ := Option.isSome_iff_exists.mp hh'
      have hno := hh.no
      have hno' := x'.no
      refine append1_ans _ _ _ p m k b v D' a h' d' ((x'.obj _ (by omega) (by omega)).trans ((hh.obj _ (by omega)).trans g1)) ((x'.obj _ (by omega) (by omega)).trans ((hh.obj _ (by omega)).trans g2)) ((x'.obj _ (by omega) (by omega)).trans ((hh.obj _ (by omega)).trans g3)) (by omega) (by omega) (by omega) ((kb.mono (e0.trans hh).ho).hx x' kv) (by rw [hfs]; exact ha) (by have := lookF_used ha; omega) (by rw [x'.pol, hh.pol, e0.pol]; exact hp)
    have nz : e = 0 → has k D = true := fun z => by
      rw [z] at he; unfold appE at he
      split at he
      · assumption
      · cases he
    refine A.mono (deed_ans p m D h ((d.he e0).he hh) hl e 49 49 _ _ (by simp) (by simp) (Dk.app b k) (Dk.app b k) (fun q _ h' d' x' => body D.tick h' rfl (nz q) d' x') (fun q _ h' d' x' => body D.cut h' rfl (nz q) d' x')) ?_
    rintro r h' ⟨a, b, c⟩
    exact ⟨a, b, ((e0.trans hh).x _ _).trans c⟩
  apply A_go Tryz.func25 rfl (by rfl); (case hn => (simp [Tryz.ntmps25]; rfl))
  repeat(first|with_reducible first|refine vmR ?_|refine vmV rfl ?_|refine vmW rfl ?_|refine vmL ?_|refine blockW_y (by decide) ?_|((with_reducible first|apply vmO|apply vmT|apply vmC);case a=>simp [kc, ki];with_reducible first|exact .v|exact .c|exact .t|exact .f))
  rw [← hhs]
  repeat(first|with_reducible first|refine vmR ?_|refine vmV rfl ?_|refine vmW rfl ?_|refine vmL ?_|refine blockW_y (by decide) ?_|((with_reducible first|apply vmO|apply vmT|apply vmC);case a=>simp [g1, g2, g3];with_reducible first|exact .v|exact .c|exact .t|exact .f))
  refine A.mono (there_ans k p m D hs (d.he e0)) ?_
  rintro _ h1 ⟨rfl, e1⟩
  have f1 : Mp.get h1.obj h0.no = some (.row [.ptr p 0]) := (e1.obj _ (by omega)).trans g1
  have f2 : Mp.get h1.obj (h0.no + 1) = some (.row [.str k]) := (e1.obj _ (by omega)).trans g2
  have f3 : Mp.get h1.obj (h0.no + 1 + 1) = some (.row [v]) := (e1.obj _ (by omega)).trans g3
  have d1 := (d.he e0).he e1
  have r1 := d1.row
  have n2 : h0.no + 1 + 1 < h1.no := Nat.lt_of_lt_of_le n1 e1.no
  refine ⟨_, by simp; first | done | rfl, ?_⟩
  cases q1 : has k D with
  | false =>
    have : e = 8 := by rw [he]; simp [appE, q1]
    subst this
    repeat(first|with_reducible first|refine vmR ?_|refine vmV rfl ?_|refine vmW rfl ?_|refine vmL ?_|refine blockW_y (by decide) ?_|((with_reducible first|apply vmO|apply vmT|apply vmC);case a=>simp [f1, f2, f3];with_reducible first|exact .v|exact .c|exact .t|exact .f))
    (with_reducible refine W_draw_id (pln := true) [0, 1, 2, 3, 4, 5, 6, 7, 8, 9, 10, 11, 12, 13] [(3, (3, [11])), (5, (5, [11])), (8, (8, [11])), (9, (9, []))] (by kernel_rfl) rfl ?_)
    repeat(first|with_reducible first|refine vmR ?_|refine vmV rfl ?_|refine vmW rfl ?_|refine vmL ?_|refine blockW_y (by decide) ?_|((with_reducible first|apply vmO|apply vmT|apply vmC);case a=>simp [f1, f2, f3];with_reducible first|exact .v|exact .c|exact .t|exact .f))
    refine ⟨by simp [readSame, beqAV_self, f1, f2, f3, r1]; done, _, by simp; first | done | rfl, ?_⟩
    repeat(first|with_reducible first|refine vmR ?_|refine vmV rfl ?_|refine vmW rfl ?_|refine vmL ?_|refine blockW_y (by decide) ?_|((with_reducible first|apply vmO|apply vmT|apply vmC);case a=>simp [f1, f2, f3];with_reducible first|exact .v|exact .c|exact .t|exact .f))
    refine A.mono (key h1.drew (e1.trans ((HE.refl h1).drew))) ?_
    rintro r h2 ⟨rfl, a2, a3⟩
    refine ⟨_, by simp; first | done | rfl, ?_⟩
    repeat(first|with_reducible first|refine vmR ?_|refine vmV rfl ?_|refine vmW rfl ?_|refine vmL ?_|refine blockW_y (by decide) ?_|((with_reducible first|apply vmO|apply vmT|apply vmC);case a=>simp;with_reducible first|exact .v|exact .c|exact .t|exact .f))
    (first | apply endW_r | apply endW_n); (case h1 => (simp [Tryz.results25]; first | done | rfl))
    exact ⟨rfl, a2, a3⟩
  | true =>
    obtain ⟨u, hu'⟩ : ∃ u, u = used D.fs := ⟨_, rfl⟩
    have w1 : IntKind.i64.wrap (D.quota - (u : Int)) = D.quota - u := wrap64 (by omega) (by omega)
    have d2 : DKs h1.drew p m D := d1.he ((HE.refl h1).drew)
    repeat(first|with_reducible first|refine vmR ?_|refine vmV rfl ?_|refine vmW rfl ?_|refine vmL ?_|refine blockW_y (by decide) ?_|((with_reducible first|apply vmO|apply vmT|apply vmC);case a=>simp [f1, f2, f3];with_reducible first|exact .v|exact .c|exact .t|exact .f))
    (with_reducible refine W_draw_id (pln := true) [0, 1, 2, 3, 4, 5, 6, 7, 8, 9, 10, 11, 12, 13] [(3, (3, [11])), (5, (5, [11])), (8, (8, [11])), (9, (9, []))] (by kernel_rfl) rfl ?_)
    repeat(first|with_reducible first|refine vmR ?_|refine vmV rfl ?_|refine vmW rfl ?_|refine vmL ?_|refine blockW_y (by decide) ?_|((with_reducible first|apply vmO|apply vmT|apply vmC);case a=>simp [f1, f2, f3, kl, kn, kc, ki, r1];with_reducible first|exact .v|exact .c|exact .t|exact .f))
    refine A.mono (used_ans p m D h1.drew d2 (by omega)) ?_
    rintro _ h2 ⟨rfl, e2⟩
    rw [← hu']
    have eh : HE h1 h2 := ((HE.refl h1).drew).trans e2
    have b1 : Mp.get h2.obj h0.no = some (.row [.ptr p 0]) := (eh.obj _ (by omega)).trans f1
    have b2 : Mp.get h2.obj (h0.no + 1) = some (.row [.str k]) := (eh.obj _ (by omega)).trans f2
    have b3 : Mp.get h2.obj (h0.no + 1 + 1) = some (.row [v]) := (eh.obj _ (by omega)).trans f3
    have d3 := d2.he e2
    have r3 := d3.row
    refine ⟨_, by simp; first | done | rfl, ?_⟩
    by_cases q2 : D.quota - u < b.length
    · have : e = 6 := by rw [he]; simp only [appE, q1, if_true, ← hu', if_pos q2]
      subst this
      repeat(first|with_reducible first|refine vmR ?_|refine vmV rfl ?_|refine vmW rfl ?_|refine vmL ?_|refine blockW_y (by decide) ?_|((with_reducible first|apply vmO|apply vmT|apply vmC);case a=>simp [b1, b2, b3, kl, kn, kc, ki, r3, w1, q2];with_reducible first|exact .v|exact .c|exact .t|exact .f))
      refine ⟨by simp [readSame, beqAV_self, f1, f2, f3, r1, b1, b2, b3, r3]; done, _, by simp; first | done | rfl, ?_⟩
      repeat(first|with_reducible first|refine vmR ?_|refine vmV rfl ?_|refine vmW rfl ?_|refine vmL ?_|refine blockW_y (by decide) ?_|((with_reducible first|apply vmO|apply vmT|apply vmC);case a=>simp [b1, b2, b3];with_reducible first|exact .v|exact .c|exact .t|exact .f))
      refine A.mono (key h2 (e1.trans eh)) ?_
      rintro r h3 ⟨rfl, a2, a3⟩
      refine ⟨_, by simp; first | done | rfl, ?_⟩
      repeat(first|with_reducible first|refine vmR ?_|refine vmV rfl ?_|refine vmW rfl ?_|refine vmL ?_|refine blockW_y (by decide) ?_|((with_reducible first|apply vmO|apply vmT|apply vmC);case a=>simp;with_reducible first|exact .v|exact .c|exact .t|exact .f))
      (first | apply endW_r | apply endW_n); (case h1 => (simp [Tryz.results25]; first | done | rfl))
      exact ⟨rfl, a2, a3⟩
    · have : e = 0 := by rw [he]; simp only [appE, q1, if_true, ← hu', if_neg q2]
      subst this
      repeat(first|with_reducible first|refine vmR ?_|refine vmV rfl ?_|refine vmW rfl ?_|refine vmL ?_|refine blockW_y (by decide) ?_|((with_reducible first|apply vmO|apply vmT|apply vmC);case a=>simp [b1, b2, b3, kl, kn, kc, ki, r3, w1, q2];with_reducible first|exact .v|exact .c|exact .t|exact .f))
      refine ⟨by simp [readSame, beqAV_self, f1, f2, f3, r1, b1, b2, b3, r3]; done, _, by simp; first | done | rfl, ?_⟩
      repeat(first|with_reducible first|refine vmR ?_|refine vmV rfl ?_|refine vmW rfl ?_|refine vmL ?_|refine blockW_y (by decide) ?_|((with_reducible first|apply vmO|apply vmT|apply vmC);case a=>simp [b1, b2, b3];with_reducible first|exact .v|exact .c|exact .t|exact .f))
      refine A.mono (key h2 (e1.trans eh)) ?_
      rintro r h3 ⟨rfl, a2, a3⟩
      refine ⟨_, by simp; first | done | rfl, ?_⟩
      repeat(first|with_reducible first|refine vmR ?_|refine vmV rfl ?_|refine vmW rfl ?_|refine vmL ?_|refine blockW_y (by decide) ?_|((with_reducible first|apply vmO|apply vmT|apply vmC);case a=>simp;with_reducible first|exact .v|exact .c|exact .t|exact .f))
      (first | apply endW_r | apply endW_n); (case h1 => (simp [Tryz.results25]; first | done | rfl))
      exact ⟨rfl, a2, a3⟩
end Go.Vn

set_option maxRecDepth 20000
namespace Go.Vn
open Go.Proofs

theorem SV.sub {P : Program} {t e : TypeId} {sz : Nat} {xs : List AV} {v : AV} (h : SV sz xs v) (hu : P.underlying t = some (.slice e)) (hs : tsize P e = some sz) {a b : Nat} (h0 : a ≤ b) (h1 : b ≤ xs.length) :
    ∃ r, sliceAV P t v (some (.int .i64 (a : Int))) (some (.int .i64 (b : Int))) none = some r ∧ SV sz ((xs.drop a).take (b - a)) r := by
  rcases h with ⟨rfl, rfl⟩ | ⟨g, off, cp, rfl⟩ | ⟨c, rfl, rfl⟩
  · have hb : b = 0 := by simpa using h1
    have ha : a = 0 := by omega
    subst hb; subst ha
    exact ⟨.nils, by simp [sliceAV, hu, hs, obound, bound], .inl ⟨rfl, by simp⟩⟩
  · exact ⟨_, by simp [sliceAV, hu, hs, obound, bound, h0, h1]; exact ⟨rfl, rfl, rfl⟩, .inr (.inl ⟨_, _, _, rfl⟩)⟩
  · have hb : b = 0 := by simpa using h1
    have ha : a = 0 := by omega
    subst hb; subst ha
    exact ⟨.esl c, by simp [sliceAV, hu, hs, obound, bound], .inr (.inr ⟨c, rfl, by simp⟩)⟩

def NB (q : Bool) (lo : Nat) (h : Hp Fm) (b : List UInt8) (v : AV) : Prop := if q then RS lo h 1 false (b.map byteAV) v else SV 1 (b.map byteAV) v
theorem NB.cells {q : Bool} {lo : Nat} {h : Hp Fm} {b : List UInt8} {v : AV} (k : NB q lo h b v) : v.cells = [v] := by
  cases q
  · exact SV.cells k
  · exact RS.cells k
theorem NB.isCell {q : Bool} {lo : Nat} {h : Hp Fm} {b : List UInt8} {v : AV} (k : NB q lo h b v) : v.isCell = true := by
  cases q
  · exact SV.isCell k
  · exact RS.isCell k
theorem NB.bv {q : Bool} {lo : Nat} {h : Hp Fm} {b : List UInt8} {v : AV} (k : NB q lo h b v) : BV h v b := by
  cases q
  · exact BV.sv k
  · exact RS.bv k
theorem NB.nil (q : Bool) (lo : Nat) (h : Hp Fm) : NB q lo h [] .nils := by
  cases q
  · exact .inl ⟨rfl, rfl⟩
  · exact .inl ⟨rfl, rfl⟩

theorem clone_any (b : List UInt8) (v : AV) (h0 : Hp Fm) (k : SV 1 (b.map byteAV) v) (hl : b.length ≤ 16777216 * 4) :
    A Tryz.prog TT (.func 64) [v] h0 (fun r h' => NB (h0.pol 5) h0.no h' b r ∧ HE h0 h') := by
  cases q : h0.pol 5 with
  | false => exact cloneb_ans b v h0 k hl q
  | true => exact cloneb_ansR b v h0 k hl q

def readR (k : List UInt8) (at_ n : Int) (D : Dk) : List UInt8 × Int :=
  if D.down then ([], 7) else match lookF k D.fs with
    | none => ([], 8)
    | some a => if at_ < 0 ∨ n < 0 then ([], 1) else ((a.1.drop at_.toNat).take n.toNat, 0)

set_option maxHeartbeats 1000000 in
theorem read_ans (k : List UInt8) (at_ n : Int) (p m : Nat) (D : Dk) (h0 : Hp Fm) (d : DKs h0 p m D) (hu : used D.fs ≤ 16777216) :
    A Tryz.prog TT (.func 38) [.ptr p 0, .str k, .int .i64 at_, .int .i64 n] h0 (fun r h' => ∃ bv, r = .tup [bv, .int .i64 (readR k at_ n D).2] ∧ NB (h0.pol 5) h0.no h' (readR k at_ n D).1 bv ∧ HE h0 h') := by
  apply A_go Tryz.func38 rfl (by rfl); (case hn => (simp [Tryz.ntmps38]; rfl))
  repeat(first|with_reducible first|refine vmR ?_|refine vmV rfl ?_|refine vmW rfl ?_|refine vmL ?_|refine blockW_y (by decide) ?_|((with_reducible first|apply vmO|apply vmT|apply vmC);case a=>simp;with_reducible first|exact .v|exact .c|exact .t|exact .f))
  refine A.mono (there_ans k p m D h0 d) ?_
  rintro _ h1 ⟨rfl, e1⟩
  refine ⟨_, by simp; first | done | rfl, ?_⟩
  have d1 := d.he e1
  have hr := d1.row
  cases q1 : D.down with
  | true =>
    rw [q1] at hr
    repeat(first|with_reducible first|refine vmR ?_|refine vmV rfl ?_|refine vmW rfl ?_|refine vmL ?_|refine blockW_y (by decide) ?_|((with_reducible first|apply vmO|apply vmT|apply vmC);case a=>simp [hr];with_reducible first|exact .v|exact .c|exact .t|exact .f))
    (first | apply endW_r | apply endW_n); (case h1 => (simp [Tryz.results38]; first | done | rfl))
    exact ⟨.nils, by simp [readR, q1], by simp only [readR, q1, if_true]; exact NB.nil _ _ _, e1⟩
  | false =>
    rw [q1] at hr
    cases q2 : lookF k D.fs with
    | none =>
      have hh : has k D = false := by simp [has, q2]
      repeat(first|with_reducible first|refine vmR ?_|refine vmV rfl ?_|refine vmW rfl ?_|refine vmL ?_|refine blockW_y (by decide) ?_|((with_reducible first|apply vmO|apply vmT|apply vmC);case a=>simp [hr, hh];with_reducible first|exact .v|exact .c|exact .t|exact .f))
      (first | apply endW_r | apply endW_n); (case h1 => (simp [Tryz.results38]; first | done | rfl))
      exact ⟨.nils, by simp [readR, q1, q2], by simp only [readR, q1, q2]; exact NB.nil _ _ _, e1⟩
    | some a =>
      have hh : has k D = true := by simp [has, q2]
      obtain ⟨es, hm, hes⟩ := d1.map
      obtain ⟨fv, ⟨bv, k1, rfl⟩, lk⟩ := look_some (m := m) (clk := D.clk) (k := k) Tryz.underlying44 Tryz.underlying9 hes q2
      have hlen := lookF_used q2
      have kl := k1.len Tryz.underlying58
      rw [List.length_map] at kl
      have kn := k1.nm
      have kc := k1.cells
      have ki := k1.isCell
      by_cases q3 : at_ < 0
      · repeat(first|with_reducible first|refine vmR ?_|refine vmV rfl ?_|refine vmW rfl ?_|refine vmL ?_|refine blockW_y (by decide) ?_|((with_reducible first|apply vmO|apply vmT|apply vmC);case a=>simp [hr, hh, q3];with_reducible first|exact .v|exact .c|exact .t|exact .f))
        (first | apply endW_r | apply endW_n); (case h1 => (simp [Tryz.results38]; first | done | rfl))
        exact ⟨.nils, by simp [readR, q1, q2, q3], by simp only [readR, q1, q2, q3, true_or, if_true]; exact NB.nil _ _ _, e1⟩
      · by_cases q4 : n < 0
        · repeat(first|with_reducible first|refine vmR ?_|refine vmV rfl ?_|refine vmW rfl ?_|refine vmL ?_|refine blockW_y (by decide) ?_|((with_reducible first|apply vmO|apply vmT|apply vmC);case a=>simp [hr, hh, q3, q4];with_reducible first|exact .v|exact .c|exact .t|exact .f))
          (first | apply endW_r | apply endW_n); (case h1 => (simp [Tryz.results38]; first | done | rfl))
          exact ⟨.nils, by simp [readR, q1, q2, q3, q4], by simp only [readR, q1, q2, q4, or_true, if_true]; exact NB.nil _ _ _, e1⟩
        · obtain ⟨a1, ha1⟩ : ∃ a1 : Nat, (if (a.1.length : Int) < at_ then (a.1.length : Int) else at_) = (a1 : Int) := ⟨min a.1.length at_.toNat, by split <;> omega⟩
          have ea : a1 = min at_.toNat a.1.length := by split at ha1 <;> omega
          obtain ⟨r1, hr1⟩ : ∃ r1 : Nat, r1 = a.1.length - a1 := ⟨_, rfl⟩
          have w1 : IntKind.i64.wrap ((a.1.length : Int) - (a1 : Int)) = (r1 : Int) := by rw [wrap64 (by omega) (by omega)]; omega
          obtain ⟨n1, hn1⟩ : ∃ n1 : Nat, (if (r1 : Int) < n then (r1 : Int) else n) = (n1 : Int) := ⟨min r1 n.toNat, by split <;> omega⟩
          have en : n1 = min n.toNat r1 := by split at hn1 <;> omega
          obtain ⟨b1, hb1⟩ : ∃ b1 : Nat, b1 = a1 + n1 := ⟨_, rfl⟩
          have w2 : IntKind.i64.wrap ((a1 : Int) + (n1 : Int)) = (b1 : Int) := by rw [wrap64 (by omega) (by omega)]; omega
          obtain ⟨sv, hs1, hs2⟩ := k1.sub (a := a1) (b := b1) Tryz.underlying58 z5 (by omega) (by rw [List.length_map]; omega)
          rw [← List.map_drop, ← List.map_take] at hs2
          have sc := hs2.cells
          have si := hs2.isCell
          have eb : (a.1.drop a1).take (b1 - a1) = (a.1.drop at_.toNat).take n.toNat := by
            by_cases qq : at_.toNat ≤ a.1.length
            · have : a1 = at_.toNat := by omega
              rw [this]
              by_cases qn : n.toNat ≤ r1
              · congr 1; omega
              · rw [List.take_of_length_le (by rw [List.length_drop]; omega), List.take_of_length_le (by rw [List.length_drop]; omega)]
            · have e1 : (a.1.drop a1) = [] := List.drop_eq_nil_of_le (by omega)
              have e2 : (a.1.drop at_.toNat) = [] := List.drop_eq_nil_of_le (by omega)
              rw [e1, e2]; simp
          rw [eb] at hs2
          repeat(first|with_reducible first|refine vmR ?_|refine vmV rfl ?_|refine vmW rfl ?_|refine vmL ?_|refine blockW_y (by decide) ?_|((with_reducible first|apply vmO|apply vmT|apply vmC);case a=>simp [hr, hh, q3, q4, hm, lk, kl, kn, kc, ki, ha1, w1, hn1, w2, hs1];with_reducible first|exact .v|exact .c|exact .t|exact .f))
          refine A.mono (clone_any _ sv h1 hs2 (by rw [List.length_take, List.length_drop]; omega)) ?_
          rintro cv h2 ⟨k2, e2⟩
          have cc := k2.cells
          have ci := k2.isCell
          refine ⟨_, by simp; first | done | rfl, ?_⟩
          repeat(first|with_reducible first|refine vmR ?_|refine vmV rfl ?_|refine vmW rfl ?_|refine vmL ?_|refine blockW_y (by decide) ?_|((with_reducible first|apply vmO|apply vmT|apply vmC);case a=>simp [cc, ci];with_reducible first|exact .v|exact .c|exact .t|exact .f))
          (first | apply endW_r | apply endW_n); (case h1 => (simp [Tryz.results38]; first | done | rfl))
          refine ⟨cv, by simp [readR, q1, q2, q3, q4], ?_, e1.trans e2⟩
          simp only [readR, q1, q2, q3, q4, or_self, if_false, Bool.false_eq_true]
          rw [← e1.pol]
          revert k2
          unfold NB
          cases h1.pol 5 with
          | false => exact fun k => k
          | true =>
            intro k
            rcases k with k | ⟨o, cap, a1, a2, a3⟩
            · exact .inl k
            · exact .inr ⟨o, cap, a1, Nat.le_trans e1.no a2, a3⟩
end Go.Vn

set_option maxRecDepth 20000
namespace Go.Vn
open Go.Proofs

theorem sync1_ans (rd rn p m : Nat) (k : List UInt8) (D : Dk) (a : FV) (h0 : Hp Fm) (d : DKs h0 p m D) (h1 : Mp.get h0.obj rd = some (.row [.ptr p 0])) (h2 : Mp.get h0.obj rn = some (.row [.str k])) (ha : lookF k D.fs = some a) (hl : a.1.length ≤ 16777216 * 2) :
    A Tryz.prog TT (.func 51) [.ptr rd 0, .ptr rn 0] h0 (fun _ h' => DKs h' p m (D.syn k) ∧ DX p m h0 h') := by
  have hr := d.row
  obtain ⟨es, hm, hes⟩ := d.map
  obtain ⟨fv, ⟨bv, k1, rfl⟩, lk⟩ := look_some (m := m) (clk := D.clk) (k := k) Tryz.underlying44 Tryz.underlying9 hes ha
  have c1 := k1.cells
  have i1 := k1.isCell
  have l1 := k1.len Tryz.underlying58
  rw [List.length_map] at l1
  have n1 := k1.nm
  have eD : D.syn k = D.put k (a.1, a.1.length) := by simp [Dk.syn, ha]
  rw [eD]
  obtain ⟨es', hes', hup⟩ := upd_ans (m := m) (clk := D.clk) (k := k) (a := ((a.1, a.1.length) : FV)) (v := .agg [bv, .int .i64 (a.1.length : Nat)]) Tryz.underlying44 Tryz.underlying9 hes ⟨bv, k1, rfl⟩
  apply A_go Tryz.func51 rfl (by rfl); (case hn => (simp [Tryz.ntmps51]; rfl))
  repeat(first|with_reducible first|refine vmR ?_|refine vmV rfl ?_|refine vmW rfl ?_|refine vmL ?_|refine blockW_y (by decide) ?_|((with_reducible first|apply vmO|apply vmT|apply vmC);case a=>simp;with_reducible first|exact .v|exact .c|exact .t|exact .f))
  (with_reducible refine W_draw_id (pln := true) [0, 1, 2, 3, 4, 5, 6, 7, 8, 9, 10, 11, 12, 13, 14, 15, 16, 17, 18, 19, 20, 21] [(0, (0, [])), (3, (3, [])), (4, (4, [])), (5, (5, [])), (8, (8, [])), (9, (9, [])), (10, (10, [])), (12, (12, [])), (15, (15, [])), (16, (16, [])), (17, (17, []))] (by kernel_rfl) rfl ?_)
  repeat(first|with_reducible first|refine vmR ?_|refine vmV rfl ?_|refine vmW rfl ?_|refine vmL ?_|refine blockW_y (by decide) ?_|((with_reducible first|apply vmO|apply vmT|apply vmC);case a=>simp [h1, h2, hr, hm, lk, c1, i1, l1, n1, hup];with_reducible first|exact .v|exact .c|exact .t|exact .f))
  refine ⟨by simp [readSame, beqAV_self, h1, h2, hr, hm, lk]; done, _, by simp; first | done | rfl, ?_⟩
  repeat(first|with_reducible first|refine vmR ?_|refine vmV rfl ?_|refine vmW rfl ?_|refine vmL ?_|refine blockW_y (by decide) ?_|((with_reducible first|apply vmO|apply vmT|apply vmC);case a=>simp;with_reducible first|exact .v|exact .c|exact .t|exact .f))
  (first | apply endW_r | apply endW_n); (case h1 => (simp [Tryz.results51]; first | done | rfl))
  have hx : ∀ (S : Nat → Prop), S m → HX S (fun _ => False) h0 { h0.drew with obj := Mp.set h0.drew.obj m (.mp es' (clkF k D.clk D.fs)) } := fun S hS => ((HX.refl S _ h0).drew).set (fun _ => hS) _
  exact ⟨d.put k _ hes' (by simp) (hx _ rfl), hx _ (.inr rfl)⟩

theorem DKs.del {h : Hp Fm} {p m : Nat} {D : Dk} (d : DKs h p m D) (k : List UInt8) {es' : List (AV × AV × Nat)} (he : EntsR FR (delF k D.fs) es') {h' : Hp Fm} (hm : Mp.get h'.obj m = some (.mp es' D.clk)) (hx : HX (fun q => q = m) (fun _ => False) h h') : DKs h' p m (D.del k) :=
  ⟨(hx.obj p d.pn d.ne).trans d.row, ⟨es', hm, he⟩, Nat.lt_of_lt_of_le d.pn hx.no, Nat.lt_of_lt_of_le d.mn hx.no, d.born.del k⟩

structure Boxed (h0 hs : Hp Fm) (p : Nat) (k : List UInt8) : Prop where
  e0 : HE h0 hs
  g1 : Mp.get hs.obj h0.no = some (.row [.ptr p 0])
  g2 : Mp.get hs.obj (h0.no + 1) = some (.row [.str k])
  n1 : h0.no + 1 < hs.no

theorem Boxed.of {h0 hs : Hp Fm} {p : Nat} {k : List UInt8} (hhs : hs = { h0 with obj := Mp.set (Mp.set h0.obj h0.no (.row [.ptr p 0])) (h0.no + 1) (.row [.str k]), no := h0.no + 1 + 1 }) : Boxed h0 hs p k := by
  subst hhs
  exact ⟨((HE.refl h0).new _).new _, by simp, by simp, by simp⟩
theorem Boxed.he {h0 hs h : Hp Fm} {p : Nat} {k : List UInt8} (b : Boxed h0 hs p k) (hh : HE hs h) : Boxed h0 h p k :=
  ⟨b.e0.trans hh, (hh.obj _ (by have := b.n1; omega)).trans b.g1, (hh.obj _ b.n1).trans b.g2, Nat.lt_of_lt_of_le b.n1 hh.no⟩
theorem Boxed.hx {h0 hs h : Hp Fm} {p m : Nat} {k : List UInt8} (b : Boxed h0 hs p k) (hp : p < h0.no) (hm : m < h0.no) (hh : DX p m hs h) :
    Mp.get h.obj h0.no = some (.row [.ptr p 0]) ∧ Mp.get h.obj (h0.no + 1) = some (.row [.str k]) :=
  ⟨(hh.obj _ (by have := b.n1; omega) (by omega)).trans b.g1, (hh.obj _ b.n1 (by omega)).trans b.g2⟩

theorem sync_ans (k : List UInt8) (p m : Nat) (D : Dk) (h0 : Hp Fm) (d : DKs h0 p m D) (hl : -1 ≤ D.left ∧ D.left ≤ 9223372036854775807) (hu : used D.fs ≤ 16777216) :
    A Tryz.prog TT (.func 27) [.ptr p 0, .str k] h0 (fun r h' => r = .int .i64 (D.deed (if has k D then 0 else 8) (Dk.syn k) id).1 ∧ DKs h' p m (D.deed (if has k D then 0 else 8) (Dk.syn k) id).2 ∧ DX p m h0 h') := by
  obtain ⟨e, he⟩ : ∃ e : Int, e = if has k D then 0 else 8 := ⟨_, rfl⟩
  rw [← he]
  obtain ⟨hs, hhs⟩ : ∃ hs : Hp Fm, hs = { h0 with obj := Mp.set (Mp.set h0.obj h0.no (.row [.ptr p 0])) (h0.no + 1) (.row [.str k]), no := h0.no + 1 + 1 } := ⟨_, rfl⟩
  have B := Boxed.of hhs
  apply A_go Tryz.func27 rfl (by rfl); (case hn => (simp [Tryz.ntmps27]; rfl))
  repeat(first|with_reducible first|refine vmR ?_|refine vmV rfl ?_|refine vmW rfl ?_|refine vmL ?_|refine blockW_y (by decide) ?_|((with_reducible first|apply vmO|apply vmT|apply vmC);case a=>simp;with_reducible first|exact .v|exact .c|exact .t|exact .f))
  rw [← hhs]
  have g1 := B.g1
  have g2 := B.g2
  (with_reducible refine W_draw_id (pln := true) [0, 1, 2, 3, 4, 5, 6] [(0, (0, [4])), (1, (1, [])), (2, (2, []))] (by kernel_rfl) rfl ?_)
  repeat(first|with_reducible first|refine vmR ?_|refine vmV rfl ?_|refine vmW rfl ?_|refine vmL ?_|refine blockW_y (by decide) ?_|((with_reducible first|apply vmO|apply vmT|apply vmC);case a=>simp [g1, g2];with_reducible first|exact .v|exact .c|exact .t|exact .f))
  have Bd := B.he ((HE.refl hs).drew)
  refine A.mono (there_ans k p m D hs.drew (d.he Bd.e0)) ?_
  rintro _ h1 ⟨rfl, e1⟩
  rw [← he]
  have B1 := Bd.he e1
  have f1 := B1.g1
  have f2 := B1.g2
  refine ⟨_, by simp; first | done | rfl, ?_⟩
  repeat(first|with_reducible first|refine vmR ?_|refine vmV rfl ?_|refine vmW rfl ?_|refine vmL ?_|refine blockW_y (by decide) ?_|((with_reducible first|apply vmO|apply vmT|apply vmC);case a=>simp [f1, f2];with_reducible first|exact .v|exact .c|exact .t|exact .f))
  refine A.mono (deed_ans p m D h1 (d.he B1.e0) hl e 51 45 _ _ (by simp) (by simp) (Dk.syn k) id ?_ ?_) ?_
  · intro z _ h d' x'
    have hh : has k D = true := by rw [z] at he; split at he; assumption; cases he
    obtain ⟨a, ha⟩ := Option.isSome_iff_exists.mp hh
    obtain ⟨y1, y2⟩ := B1.hx d.pn d.mn x'
    exact sync1_ans _ _ p m k _ a h d' y1 y2 ha (by have := lookF_used ha; omega)
  · intro _ _ h d' x'
    exact nothing_ans h _ ⟨d', HX.refl _ _ _⟩
  · rintro r h2 ⟨rfl, a2, a3⟩
    obtain ⟨y1, y2⟩ := B1.hx d.pn d.mn a3
    refine ⟨_, by simp; first | done | rfl, ?_⟩
    repeat(first|with_reducible first|refine vmR ?_|refine vmV rfl ?_|refine vmW rfl ?_|refine vmL ?_|refine blockW_y (by decide) ?_|((with_reducible first|apply vmO|apply vmT|apply vmC);case a=>simp;with_reducible first|exact .v|exact .c|exact .t|exact .f))
    refine ⟨by simp [readSame, beqAV_self, g1, g2, f1, f2, y1, y2]; done, _, by simp; first | done | rfl, ?_⟩
    repeat(first|with_reducible first|refine vmR ?_|refine vmV rfl ?_|refine vmW rfl ?_|refine vmL ?_|refine blockW_y (by decide) ?_|((with_reducible first|apply vmO|apply vmT|apply vmC);case a=>simp;with_reducible first|exact .v|exact .c|exact .t|exact .f))
    (first | apply endW_r | apply endW_n); (case h1 => (simp [Tryz.results27]; first | done | rfl))
    exact ⟨rfl, a2, (B1.e0.x _ _).trans a3⟩

theorem arm_ans (n : Int) (p m : Nat) (D : Dk) (h0 : Hp Fm) (d : DKs h0 p m D) :
    A Tryz.prog TT (.func 7) [.ptr p 0, .int .i64 n] h0 (fun _ h' => DKs h' p m { D with left := if n < -1 then -1 else n } ∧ DX p m h0 h') := by
  have hr := d.row
  by_cases q : n < -1
  · apply A_go Tryz.func7 rfl (by rfl); (case hn => (simp [Tryz.ntmps7]; rfl))
    repeat(first|with_reducible first|refine vmR ?_|refine vmV rfl ?_|refine vmW rfl ?_|refine vmL ?_|refine blockW_y (by decide) ?_|((with_reducible first|apply vmO|apply vmT|apply vmC);case a=>simp [hr, q];with_reducible first|exact .v|exact .c|exact .t|exact .f))
    (first | apply endW_r | apply endW_n); (case h1 => (simp [Tryz.results7]; first | done | rfl))
    have := d.setRow D.quota (-1) D.down
    rw [if_pos q]
    exact ⟨this, (HX.refl _ _ _).set (fun _ => .inl rfl) _⟩
  · apply A_go Tryz.func7 rfl (by rfl); (case hn => (simp [Tryz.ntmps7]; rfl))
    repeat(first|with_reducible first|refine vmR ?_|refine vmV rfl ?_|refine vmW rfl ?_|refine vmL ?_|refine blockW_y (by decide) ?_|((with_reducible first|apply vmO|apply vmT|apply vmC);case a=>simp [hr, q];with_reducible first|exact .v|exact .c|exact .t|exact .f))
    (first | apply endW_r | apply endW_n); (case h1 => (simp [Tryz.results7]; first | done | rfl))
    have := d.setRow D.quota n D.down
    rw [if_neg q]
    exact ⟨this, (HX.refl _ _ _).set (fun _ => .inl rfl) _⟩

theorem alive_ans (p m : Nat) (D : Dk) (h0 : Hp Fm) (d : DKs h0 p m D) : A Tryz.prog TT (.func 13) [.ptr p 0] h0 (fun r h' => r = .bool (!D.down) ∧ h' = h0) := by
  have hr := d.row
  apply A_go Tryz.func13 rfl (by rfl); (case hn => (simp [Tryz.ntmps13]; rfl))
  repeat(first|with_reducible first|refine vmR ?_|refine vmV rfl ?_|refine vmW rfl ?_|refine vmL ?_|refine blockW_y (by decide) ?_|((with_reducible first|apply vmO|apply vmT|apply vmC);case a=>simp [hr];with_reducible first|exact .v|exact .c|exact .t|exact .f))
  (first | apply endW_r | apply endW_n); (case h1 => (simp [Tryz.results13]; first | done | rfl))
  exact ⟨rfl, rfl⟩
end Go.Vn

set_option maxRecDepth 20000
namespace Go.Vn
open Go.Proofs

theorem set_get (f : Fm (AObj Fm)) (m : Nat) (x : AObj Fm) (h : Mp.get f m = some x) : Mp.set f m x = f := by
  funext j
  show (if j = m then some x else f j) = f j
  split
  · rename_i e; rw [e]; exact h.symm
  · rfl
theorem del_ans {α : Type} {R : α → AV → Prop} {P : Program} {t kt et m clk : Nat} {fs : Ents α} {es : List (AV × AV × Nat)} {k : List UInt8} (ht : P.underlying t = some (.map kt et)) (hu : P.underlying kt = some .string) (he : EntsR R fs es) :
    ∃ es', EntsR R (delF k fs) es' ∧ ∀ h : Hp Fm, Mp.get h.obj m = some (.mp es clk) → deleteAV P h t (.mp m) (.str k) = some (.tup [], { h with obj := Mp.set h.obj m (.mp es' clk) }) := by
  rcases findAV_ents hu k fs es 0 he with ⟨a1, a2⟩ | ⟨a', i, w, st, a1, a2, a3, a4⟩
  · refine ⟨es, by rw [delF_none a1]; exact he, fun h hm => ?_⟩
    rw [set_get _ _ _ hm]
    unfold deleteAV
    simp only [ht, hm, checkAV_str hu 19, a2, Option.bind_some]
    rfl
  · refine ⟨_, EntsR.delF_some hu he a3, fun h hm => ?_⟩
    unfold deleteAV
    simp only [ht, hm, checkAV_str hu 19, a3, Option.bind_some, Nat.zero_add]
    rfl

theorem remove1_ans (rd rn p m : Nat) (k : List UInt8) (D : Dk) (h0 : Hp Fm) (d : DKs h0 p m D) (h1 : Mp.get h0.obj rd = some (.row [.ptr p 0])) (h2 : Mp.get h0.obj rn = some (.row [.str k])) :
    A Tryz.prog TT (.func 44) [.ptr rd 0, .ptr rn 0] h0 (fun _ h' => DKs h' p m (D.del k) ∧ DX p m h0 h') := by
  have hr := d.row
  obtain ⟨es, hm, hes⟩ := d.map
  obtain ⟨es', hes', hdl⟩ := del_ans (m := m) (clk := D.clk) (k := k) Tryz.underlying44 Tryz.underlying9 hes
  apply A_go Tryz.func44 rfl (by rfl); (case hn => (simp [Tryz.ntmps44]; rfl))
  repeat(first|with_reducible first|refine vmR ?_|refine vmV rfl ?_|refine vmW rfl ?_|refine vmL ?_|refine blockW_y (by decide) ?_|((with_reducible first|apply vmO|apply vmT|apply vmC);case a=>simp;with_reducible first|exact .v|exact .c|exact .t|exact .f))
  (with_reducible refine W_draw_id (pln := true) [0, 1, 2, 3, 4, 5] [(0, (0, [])), (3, (3, [])), (4, (4, []))] (by kernel_rfl) rfl ?_)
  repeat(first|with_reducible first|refine vmR ?_|refine vmV rfl ?_|refine vmW rfl ?_|refine vmL ?_|refine blockW_y (by decide) ?_|((with_reducible first|apply vmO|apply vmT|apply vmC);case a=>simp [h1, h2, hr, hm, hdl];with_reducible first|exact .v|exact .c|exact .t|exact .f))
  refine ⟨by simp [readSame, beqAV_self, h1, h2, hr, hm]; done, _, by simp; first | done | rfl, ?_⟩
  repeat(first|with_reducible first|refine vmR ?_|refine vmV rfl ?_|refine vmW rfl ?_|refine vmL ?_|refine blockW_y (by decide) ?_|((with_reducible first|apply vmO|apply vmT|apply vmC);case a=>simp;with_reducible first|exact .v|exact .c|exact .t|exact .f))
  (first | apply endW_r | apply endW_n); (case h1 => (simp [Tryz.results44]; first | done | rfl))
  have hx : ∀ (S : Nat → Prop), S m → HX S (fun _ => False) h0 { h0.drew with obj := Mp.set h0.drew.obj m (.mp es' D.clk) } := fun S hS => ((HX.refl S _ h0).drew).set (fun _ => hS) _
  exact ⟨d.del k hes' (by simp) (hx _ rfl), hx _ (.inr rfl)⟩

theorem remove_ans (k : List UInt8) (p m : Nat) (D : Dk) (h0 : Hp Fm) (d : DKs h0 p m D) (hl : -1 ≤ D.left ∧ D.left ≤ 9223372036854775807) :
    A Tryz.prog TT (.func 20) [.ptr p 0, .str k] h0 (fun r h' => r = .int .i64 (D.deed (if has k D then 0 else 8) (fun D => D.del k) id).1 ∧ DKs h' p m (D.deed (if has k D then 0 else 8) (fun D => D.del k) id).2 ∧ DX p m h0 h') := by
  obtain ⟨e, he⟩ : ∃ e : Int, e = if has k D then 0 else 8 := ⟨_, rfl⟩
  rw [← he]
  obtain ⟨hs, hhs⟩ : ∃ hs : Hp Fm, hs = { h0 with obj := Mp.set (Mp.set h0.obj h0.no (.row [.ptr p 0])) (h0.no + 1) (.row [.str k]), no := h0.no + 1 + 1 } := ⟨_, rfl⟩
  have B := Boxed.of hhs
  apply A_go Tryz.func20 rfl (by rfl); (case hn => (simp [Tryz.ntmps20]; rfl))
  repeat(first|with_reducible first|refine vmR ?_|refine vmV rfl ?_|refine vmW rfl ?_|refine vmL ?_|refine blockW_y (by decide) ?_|((with_reducible first|apply vmO|apply vmT|apply vmC);case a=>simp;with_reducible first|exact .v|exact .c|exact .t|exact .f))
  rw [← hhs]
  have g1 := B.g1
  have g2 := B.g2
  (with_reducible refine W_draw_id (pln := true) [0, 1, 2, 3, 4, 5, 6] [(0, (0, [4])), (1, (1, [])), (2, (2, []))] (by kernel_rfl) rfl ?_)
  repeat(first|with_reducible first|refine vmR ?_|refine vmV rfl ?_|refine vmW rfl ?_|refine vmL ?_|refine blockW_y (by decide) ?_|((with_reducible first|apply vmO|apply vmT|apply vmC);case a=>simp [g1, g2];with_reducible first|exact .v|exact .c|exact .t|exact .f))
  have Bd := B.he ((HE.refl hs).drew)
  refine A.mono (there_ans k p m D hs.drew (d.he Bd.e0)) ?_
  rintro _ h1 ⟨rfl, e1⟩
  rw [← he]
  have B1 := Bd.he e1
  have f1 := B1.g1
  have f2 := B1.g2
  refine ⟨_, by simp; first | done | rfl, ?_⟩
  repeat(first|with_reducible first|refine vmR ?_|refine vmV rfl ?_|refine vmW rfl ?_|refine vmL ?_|refine blockW_y (by decide) ?_|((with_reducible first|apply vmO|apply vmT|apply vmC);case a=>simp [f1, f2];with_reducible first|exact .v|exact .c|exact .t|exact .f))
  refine A.mono (deed_ans p m D h1 (d.he B1.e0) hl e 44 45 _ _ (by simp) (by simp) (fun D => D.del k) id ?_ ?_) ?_
  · intro z _ h d' x'
    obtain ⟨y1, y2⟩ := B1.hx d.pn d.mn x'
    exact remove1_ans _ _ p m k _ h d' y1 y2
  · intro _ _ h d' x'
    exact nothing_ans h _ ⟨d', HX.refl _ _ _⟩
  · rintro r h2 ⟨rfl, a2, a3⟩
    obtain ⟨y1, y2⟩ := B1.hx d.pn d.mn a3
    refine ⟨_, by simp; first | done | rfl, ?_⟩
    repeat(first|with_reducible first|refine vmR ?_|refine vmV rfl ?_|refine vmW rfl ?_|refine vmL ?_|refine blockW_y (by decide) ?_|((with_reducible first|apply vmO|apply vmT|apply vmC);case a=>simp;with_reducible first|exact .v|exact .c|exact .t|exact .f))
    refine ⟨by simp [readSame, beqAV_self, g1, g2, f1, f2, y1, y2]; done, _, by simp; first | done | rfl, ?_⟩
    repeat(first|with_reducible first|refine vmR ?_|refine vmV rfl ?_|refine vmW rfl ?_|refine vmL ?_|refine blockW_y (by decide) ?_|((with_reducible first|apply vmO|apply vmT|apply vmC);case a=>simp;with_reducible first|exact .v|exact .c|exact .t|exact .f))
    (first | apply endW_r | apply endW_n); (case h1 => (simp [Tryz.results20]; first | done | rfl))
    exact ⟨rfl, a2, (B1.e0.x _ _).trans a3⟩

def Dk.ren (k k2 : List UInt8) (D : Dk) : Dk := match lookF k D.fs with
  | none => D
  | some a => (D.del k).put k2 a

theorem rename1_ans (rd rn rm p m : Nat) (k k2 : List UInt8) (D : Dk) (a : FV) (h0 : Hp Fm) (d : DKs h0 p m D) (h1 : Mp.get h0.obj rd = some (.row [.ptr p 0])) (h2 : Mp.get h0.obj rn = some (.row [.str k])) (h3 : Mp.get h0.obj rm = some (.row [.str k2]))
    (n1 : rd < h0.no) (n2 : rn < h0.no) (n3 : rm < h0.no) (ha : lookF k D.fs = some a) (q1 : rd ≠ m) (q2 : rn ≠ m) (q3 : rm ≠ m) :
    A Tryz.prog TT (.func 52) [.ptr rd 0, .ptr rn 0, .ptr rm 0] h0 (fun _ h' => DKs h' p m (D.ren k k2) ∧ DX p m h0 h') := by
  have hr := d.row
  have pm := d.ne
  have pn := d.pn
  have mn := d.mn
  obtain ⟨es, hm, hes⟩ := d.map
  obtain ⟨fv, ⟨bv, k1, rfl⟩, lk⟩ := look_some (m := m) (clk := D.clk) (k := k) Tryz.underlying44 Tryz.underlying9 hes ha
  have c1 := k1.cells
  have i1 := k1.isCell
  obtain ⟨es', hes', hdl⟩ := del_ans (m := m) (clk := D.clk) (k := k) Tryz.underlying44 Tryz.underlying9 hes
  obtain ⟨es2, hes2, hup⟩ := upd_ans (m := m) (clk := D.clk) (k := k2) (a := a) (v := .agg [bv, .int .i64 (a.2 : Nat)]) Tryz.underlying44 Tryz.underlying9 hes' ⟨bv, k1, rfl⟩
  have eD : D.ren k k2 = (D.del k).put k2 a := by simp [Dk.ren, ha]
  rw [eD]
  have x1 : h0.no ≠ rd := by omega
  have x2 : h0.no ≠ rn := by omega
  have x3 : h0.no ≠ rm := by omega
  have x4 : h0.no ≠ p := by omega
  have x5 : h0.no ≠ m := by omega
  have x1' : rd ≠ h0.no := by omega
  have x2' : rn ≠ h0.no := by omega
  have x3' : rm ≠ h0.no := by omega
  have x4' : p ≠ h0.no := by omega
  have x5' : m ≠ h0.no := by omega
  apply A_go Tryz.func52 rfl (by rfl); (case hn => (simp [Tryz.ntmps52]; rfl))
  repeat(first|with_reducible first|refine vmR ?_|refine vmV rfl ?_|refine vmW rfl ?_|refine vmL ?_|refine blockW_y (by decide) ?_|((with_reducible first|apply vmO|apply vmT|apply vmC);case a=>simp;with_reducible first|exact .v|exact .c|exact .t|exact .f))
  (with_reducible refine W_draw_id (pln := true) [0, 1, 2, 3, 4, 5, 6, 7] [(0, (0, [7])), (3, (3, [7])), (4, (4, [7])), (5, (5, [7]))] (by kernel_rfl) rfl ?_)
  repeat(first|with_reducible first|refine vmR ?_|refine vmV rfl ?_|refine vmW rfl ?_|refine vmL ?_|refine blockW_y (by decide) ?_|((with_reducible first|apply vmO|apply vmT|apply vmC);case a=>simp [h1, h2, hr, hm, lk, c1, i1];with_reducible first|exact .v|exact .c|exact .t|exact .f))
  refine ⟨by simp [readSame, beqAV_self, h1, h2, hr, hm, lk, x1', x2', x3', x4', x5']; done, _, by simp; first | done | rfl, ?_⟩
  repeat(first|with_reducible first|refine vmR ?_|refine vmV rfl ?_|refine vmW rfl ?_|refine vmL ?_|refine blockW_y (by decide) ?_|((with_reducible first|apply vmO|apply vmT|apply vmC);case a=>simp;with_reducible first|exact .v|exact .c|exact .t|exact .f))
  (with_reducible refine W_draw_id (pln := true) [0, 1, 2, 3, 4, 5] [(0, (0, [])), (3, (3, [])), (4, (4, []))] (by kernel_rfl) rfl ?_)
  repeat(first|with_reducible first|refine vmR ?_|refine vmV rfl ?_|refine vmW rfl ?_|refine vmL ?_|refine blockW_y (by decide) ?_|((with_reducible first|apply vmO|apply vmT|apply vmC);case a=>simp [h1, h2, hr, hm, hdl, x1, x2, x3, x4, x5, x1', x2', x3', x4', x5'];with_reducible first|exact .v|exact .c|exact .t|exact .f))
  refine ⟨by simp [readSame, beqAV_self, h1, h2, hr, hm, x1, x2, x3, x4, x5, x1', x2', x3', x4', x5']; done, _, by simp; first | done | rfl, ?_⟩
  repeat(first|with_reducible first|refine vmR ?_|refine vmV rfl ?_|refine vmW rfl ?_|refine vmL ?_|refine blockW_y (by decide) ?_|((with_reducible first|apply vmO|apply vmT|apply vmC);case a=>simp;with_reducible first|exact .v|exact .c|exact .t|exact .f))
  (with_reducible refine W_draw_id (pln := true) [0, 1, 2, 3, 4, 5, 6] [(0, (0, [])), (3, (3, [])), (4, (4, [])), (5, (5, []))] (by kernel_rfl) rfl ?_)
  repeat(first|with_reducible first|refine vmR ?_|refine vmV rfl ?_|refine vmW rfl ?_|refine vmL ?_|refine blockW_y (by decide) ?_|((with_reducible first|apply vmO|apply vmT|apply vmC);case a=>simp [h1, h2, h3, hr, hm, hup, x1, x2, x3, x4, x5, x1', x2', x3', x4', x5', q1, q2, q3, pm, c1, i1];with_reducible first|exact .v|exact .c|exact .t|exact .f))
  refine ⟨by simp [readSame, beqAV_self, h1, h2, h3, hr, hm, x1, x2, x3, x4, x5, x1', x2', x3', x4', x5', q1, q2, q3, pm]; done, _, by simp; first | done | rfl, ?_⟩
  repeat(first|with_reducible first|refine vmR ?_|refine vmV rfl ?_|refine vmW rfl ?_|refine vmL ?_|refine blockW_y (by decide) ?_|((with_reducible first|apply vmO|apply vmT|apply vmC);case a=>simp;with_reducible first|exact .v|exact .c|exact .t|exact .f))
  (first | apply endW_r | apply endW_n); (case h1 => (simp [Tryz.results52]; first | done | rfl))
  refine ⟨⟨by simp [x4', pm, hr, Dk.put, Dk.del], ⟨es2, by simp; rfl, hes2⟩, by show p < h0.no + 1; omega, by show m < h0.no + 1; omega, (d.born.del k).set _ _⟩, ?_⟩
  have hx0 := ((((HX.refl (fun o => o = p ∨ o = m) (fun _ => False) h0).drew).new (.row [.nils, .int .i64 0])).set (o := h0.no) (fun z => by omega) (.row [bv, .int .i64 (a.2 : Nat)])).drew
  exact ((hx0.set (o := m) (fun _ => .inr rfl) (.mp es' D.clk)).drew).set (o := m) (fun _ => .inr rfl) _

theorem rename_ans (k k2 : List UInt8) (hk2 : k2.length ≤ 1000000) (p m : Nat) (D : Dk) (h0 : Hp Fm) (d : DKs h0 p m D) (hl : -1 ≤ D.left ∧ D.left ≤ 9223372036854775807) :
    A Tryz.prog TT (.func 29) [.ptr p 0, .str k, .str k2] h0 (fun r h' => r = .int .i64 (D.deed (if has k D then (if namedP k2 then 0 else 1) else 8) (fun D => D.ren k k2) id).1 ∧ DKs h' p m (D.deed (if has k D then (if namedP k2 then 0 else 1) else 8) (fun D => D.ren k k2) id).2 ∧ DX p m h0 h') := by
  obtain ⟨e, he⟩ : ∃ e : Int, e = if has k D then (if namedP k2 then 0 else 1) else 8 := ⟨_, rfl⟩
  rw [← he]
  have pn := d.pn
  have mn := d.mn
  obtain ⟨hs, hhs⟩ : ∃ hs : Hp Fm, hs = { h0 with obj := Mp.set (Mp.set (Mp.set h0.obj h0.no (.row [.ptr p 0])) (h0.no + 1) (.row [.str k])) (h0.no + 1 + 1) (.row [.str k2]), no := h0.no + 1 + 1 + 1 } := ⟨_, rfl⟩
  have e0 : HE h0 hs := by rw [hhs]; exact (((HE.refl h0).new _).new _).new _
  have g1 : Mp.get hs.obj h0.no = some (.row [.ptr p 0]) := by rw [hhs]; simp; omega
  have g2 : Mp.get hs.obj (h0.no + 1) = some (.row [.str k]) := by rw [hhs]; simp
  have g3 : Mp.get hs.obj (h0.no + 1 + 1) = some (.row [.str k2]) := by rw [hhs]; simp
  have n1 : h0.no + 1 + 1 < hs.no := by rw [hhs]; simp
  have key : ∀ h, HE hs h → A Tryz.prog TT (.func 42) [.ptr p 0, .int .i64 e, .fn (.func 52) [] [.ptr h0.no 0, .ptr (h0.no + 1) 0, .ptr (h0.no + 1 + 1) 0], .fn (.func 45) [] []] h
      (fun r h' => r = .int .i64 (D.deed e (fun D => D.ren k k2) id).1 ∧ DKs h' p m (D.deed e (fun D => D.ren k k2) id).2 ∧ DX p m h0 h') := by
    intro h hh
    have hn := hh.no
    refine A.mono (deed_ans p m D h ((d.he e0).he hh) hl e 52 45 _ _ (by simp) (by simp) (fun D => D.ren k k2) id ?_ ?_) ?_
    · intro z _ h' d' x'
      have hxn := x'.no
      have hk : has k D = true := by
        cases q : has k D with
        | true => rfl
        | false => rw [q] at he; simp at he; omega
      obtain ⟨a, ha⟩ := Option.isSome_iff_exists.mp hk
      exact rename1_ans _ _ _ p m k k2 _ a h' d' ((x'.obj _ (by omega) (by omega)).trans ((hh.obj _ (by omega)).trans g1)) ((x'.obj _ (by omega) (by omega)).trans ((hh.obj _ (by omega)).trans g2)) ((x'.obj _ (by omega) (by omega)).trans ((hh.obj _ (by omega)).trans g3)) (by omega) (by omega) (by omega) ha (by omega) (by omega) (by omega)
    · intro _ _ h' d' x'
      exact nothing_ans h' _ ⟨d', HX.refl _ _ _⟩
    · rintro r h' ⟨a, b, c⟩
      exact ⟨a, b, ((e0.trans hh).x _ _).trans c⟩
  apply A_go Tryz.func29 rfl (by rfl); (case hn => (simp [Tryz.ntmps29]; rfl))
  repeat(first|with_reducible first|refine vmR ?_|refine vmV rfl ?_|refine vmW rfl ?_|refine vmL ?_|refine blockW_y (by decide) ?_|((with_reducible first|apply vmO|apply vmT|apply vmC);case a=>simp;with_reducible first|exact .v|exact .c|exact .t|exact .f))
  rw [← hhs]
  repeat(first|with_reducible first|refine vmR ?_|refine vmV rfl ?_|refine vmW rfl ?_|refine vmL ?_|refine blockW_y (by decide) ?_|((with_reducible first|apply vmO|apply vmT|apply vmC);case a=>simp [g1, g2];with_reducible first|exact .v|exact .c|exact .t|exact .f))
  refine A.mono (there_ans k p m D hs (d.he e0)) ?_
  rintro _ h1 ⟨rfl, e1⟩
  have n2 := e1.no
  have f1 := (e1.obj _ (by omega)).trans g1
  have f2 := (e1.obj _ (by omega)).trans g2
  have f3 := (e1.obj _ (by omega)).trans g3
  refine ⟨_, by simp; first | done | rfl, ?_⟩
  cases q1 : has k D with
  | false =>
    have : e = 8 := by rw [he, q1]; rfl
    subst this
    repeat(first|with_reducible first|refine vmR ?_|refine vmV rfl ?_|refine vmW rfl ?_|refine vmL ?_|refine blockW_y (by decide) ?_|((with_reducible first|apply vmO|apply vmT|apply vmC);case a=>simp [f1, f2, f3];with_reducible first|exact .v|exact .c|exact .t|exact .f))
    refine A.mono (key h1 e1) ?_
    rintro r h2 ⟨rfl, a2, a3⟩
    refine ⟨_, by simp; first | done | rfl, ?_⟩
    repeat(first|with_reducible first|refine vmR ?_|refine vmV rfl ?_|refine vmW rfl ?_|refine vmL ?_|refine blockW_y (by decide) ?_|((with_reducible first|apply vmO|apply vmT|apply vmC);case a=>simp;with_reducible first|exact .v|exact .c|exact .t|exact .f))
    (first | apply endW_r | apply endW_n); (case h1 => (simp [Tryz.results29]; first | done | rfl))
    exact ⟨rfl, a2, a3⟩
  | true =>
    repeat(first|with_reducible first|refine vmR ?_|refine vmV rfl ?_|refine vmW rfl ?_|refine vmL ?_|refine blockW_y (by decide) ?_|((with_reducible first|apply vmO|apply vmT|apply vmC);case a=>simp [f1, f2, f3];with_reducible first|exact .v|exact .c|exact .t|exact .f))
    refine A.mono (named_ans k2 hk2 h1) ?_
    rintro _ h2 ⟨rfl, e2⟩
    have n3 := e2.no
    have b1 := (e2.obj _ (by omega)).trans f1
    have b2 := (e2.obj _ (by omega)).trans f2
    have b3 := (e2.obj _ (by omega)).trans f3
    refine ⟨_, by simp; first | done | rfl, ?_⟩
    cases q2 : namedP k2 with
    | false =>
      have : e = 1 := by rw [he, q1, q2]; rfl
      subst this
      repeat(first|with_reducible first|refine vmR ?_|refine vmV rfl ?_|refine vmW rfl ?_|refine vmL ?_|refine blockW_y (by decide) ?_|((with_reducible first|apply vmO|apply vmT|apply vmC);case a=>simp [b1, b2, b3];with_reducible first|exact .v|exact .c|exact .t|exact .f))
      refine A.mono (key h2 (e1.trans e2)) ?_
      rintro r h3 ⟨rfl, a2, a3⟩
      refine ⟨_, by simp; first | done | rfl, ?_⟩
      repeat(first|with_reducible first|refine vmR ?_|refine vmV rfl ?_|refine vmW rfl ?_|refine vmL ?_|refine blockW_y (by decide) ?_|((with_reducible first|apply vmO|apply vmT|apply vmC);case a=>simp;with_reducible first|exact .v|exact .c|exact .t|exact .f))
      (first | apply endW_r | apply endW_n); (case h1 => (simp [Tryz.results29]; first | done | rfl))
      exact ⟨rfl, a2, a3⟩
    | true =>
      have : e = 0 := by rw [he, q1, q2]; rfl
      subst this
      repeat(first|with_reducible first|refine vmR ?_|refine vmV rfl ?_|refine vmW rfl ?_|refine vmL ?_|refine blockW_y (by decide) ?_|((with_reducible first|apply vmO|apply vmT|apply vmC);case a=>simp [b1, b2, b3];with_reducible first|exact .v|exact .c|exact .t|exact .f))
      refine A.mono (key h2 (e1.trans e2)) ?_
      rintro r h3 ⟨rfl, a2, a3⟩
      refine ⟨_, by simp; first | done | rfl, ?_⟩
      repeat(first|with_reducible first|refine vmR ?_|refine vmV rfl ?_|refine vmW rfl ?_|refine vmL ?_|refine blockW_y (by decide) ?_|((with_reducible first|apply vmO|apply vmT|apply vmC);case a=>simp;with_reducible first|exact .v|exact .c|exact .t|exact .f))
      (first | apply endW_r | apply endW_n); (case h1 => (simp [Tryz.results29]; first | done | rfl))
      exact ⟨rfl, a2, a3⟩

theorem quota_ans (q : Int) (p m : Nat) (D : Dk) (h0 : Hp Fm) (d : DKs h0 p m D) :
    A Tryz.prog TT (.func 17) [.ptr p 0, .int .i64 q] h0 (fun r h' => r = .int .i64 (if D.down then 7 else if q < 0 ∨ 16777216 < q then 1 else 0) ∧ DKs h' p m (if D.down ∨ q < 0 ∨ 16777216 < q then D else { D with quota := q }) ∧ DX p m h0 h') := by
  have hr := d.row
  cases q1 : D.down with
  | true =>
    rw [q1] at hr
    apply A_go Tryz.func17 rfl (by rfl); (case hn => (simp [Tryz.ntmps17]; rfl))
    repeat(first|with_reducible first|refine vmR ?_|refine vmV rfl ?_|refine vmW rfl ?_|refine vmL ?_|refine blockW_y (by decide) ?_|((with_reducible first|apply vmO|apply vmT|apply vmC);case a=>simp [hr];with_reducible first|exact .v|exact .c|exact .t|exact .f))
    (first | apply endW_r | apply endW_n); (case h1 => (simp [Tryz.results17]; first | done | rfl))
    simp
    exact ⟨d, HX.refl _ _ _⟩
  | false =>
    rw [q1] at hr
    by_cases q2 : q < 0
    · apply A_go Tryz.func17 rfl (by rfl); (case hn => (simp [Tryz.ntmps17]; rfl))
      repeat(first|with_reducible first|refine vmR ?_|refine vmV rfl ?_|refine vmW rfl ?_|refine vmL ?_|refine blockW_y (by decide) ?_|((with_reducible first|apply vmO|apply vmT|apply vmC);case a=>simp [hr, q2];with_reducible first|exact .v|exact .c|exact .t|exact .f))
      (first | apply endW_r | apply endW_n); (case h1 => (simp [Tryz.results17]; first | done | rfl))
      simp [q2]
      exact ⟨d, HX.refl _ _ _⟩
    · by_cases q3 : 16777216 < q
      · apply A_go Tryz.func17 rfl (by rfl); (case hn => (simp [Tryz.ntmps17]; rfl))
        repeat(first|with_reducible first|refine vmR ?_|refine vmV rfl ?_|refine vmW rfl ?_|refine vmL ?_|refine blockW_y (by decide) ?_|((with_reducible first|apply vmO|apply vmT|apply vmC);case a=>simp [hr, q2, q3];with_reducible first|exact .v|exact .c|exact .t|exact .f))
        (first | apply endW_r | apply endW_n); (case h1 => (simp [Tryz.results17]; first | done | rfl))
        simp [q3]
        exact ⟨d, HX.refl _ _ _⟩
      · apply A_go Tryz.func17 rfl (by rfl); (case hn => (simp [Tryz.ntmps17]; rfl))
        repeat(first|with_reducible first|refine vmR ?_|refine vmV rfl ?_|refine vmW rfl ?_|refine vmL ?_|refine blockW_y (by decide) ?_|((with_reducible first|apply vmO|apply vmT|apply vmC);case a=>simp [hr, q2, q3];with_reducible first|exact .v|exact .c|exact .t|exact .f))
        (first | apply endW_r | apply endW_n); (case h1 => (simp [Tryz.results17]; first | done | rfl))
        have := d.setRow q D.left D.down
        rw [q1] at this
        simp only [q2, q3, or_self, if_false, Bool.false_eq_true]
        refine ⟨trivial, ?_, (HX.refl _ _ _).set (fun _ => .inl rfl) _⟩
        exact this
end Go.Vn
