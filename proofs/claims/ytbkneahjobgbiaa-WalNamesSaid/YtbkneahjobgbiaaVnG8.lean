/- What functions of the program come to, in the value machine (a part of the proof of the claim's statement). No condition. -/
import Derived.Test.YtbkneahjobgbiaaVnG7
set_option linter.unusedSimpArgs false
set_option linter.unusedVariables false
set_option maxRecDepth 20000
namespace Go.Vn
open Go.Proofs

theorem DKs.hx {h h' : Hp Fm} {p m : Nat} {D : Dk} {S G : Nat → Prop} (k : DKs h p m D) (he : HX S G h h') (h1 : ¬ S p) (h2 : ¬ S m) : DKs h' p m D := by
  obtain ⟨es, e1, e2⟩ := k.map
  exact ⟨(he.obj p k.pn h1).trans k.row, ⟨es, (he.obj m k.mn h2).trans e1, e2⟩, Nat.lt_of_lt_of_le k.pn he.no, Nat.lt_of_lt_of_le k.mn he.no, k.born⟩


set_option maxHeartbeats 2000000 in
theorem walnames_law (nm : Tx) (hn : nm.length ≤ 9223372036854775807) (h0 : Hp Fm) (hp : ∀ z, h0.pol z = false) : A Try.prog TT (.func 4) [.str nm] h0 (fun r h' => r = .bool true ∧ HE h0 h') := by
  by_cases q : 30 < nm.length
  · have q' : (30 : Int) < nm.length := by omega
    obtain ⟨s, hs⟩ : ∃ s, s = nm.take 30 := ⟨_, rfl⟩
    have hsl : s.length ≤ 1000000 := by rw [hs, List.length_take]; omega
    have sl : sliceAV Try.prog 9 (.str nm) none (some (.int .i64 30)) none = some (.str s) := by
      have : (30 : Int) ≤ nm.length := by omega
      rw [hs]; simp [sliceAV, obound, bound, this]
    apply A_go Try.func4 rfl (by rfl); (case hn => (simp [Try.ntmps4]; rfl))
    repeat (first|with_reducible refine vmR ?_|with_reducible refine vmV rfl ?_|with_reducible refine vmW rfl ?_|with_reducible refine blockW_y (by decide) ?_|with_reducible refine vmL ?_|((with_reducible first|apply vmO|apply vmT);(case a=>simp [q, q', sl];with_reducible first|exact .v|exact .c))|((with_reducible apply vmC);(case e=>simp [q, q', sl];with_reducible first|exact .t|exact .f)))
    clear q q' sl
    refine A.mono (new_ans 1000 h0 (by omega)) ?_
    rintro _ h1 ⟨p, m, rfl, d1, e1, pn, mn⟩
    have w1 := wf_new 1000 (by omega)
    refine ⟨_, by simp; first | done | rfl, ?_⟩
    repeat (first|with_reducible refine vmR ?_|with_reducible refine vmV rfl ?_|with_reducible refine vmW rfl ?_|with_reducible refine blockW_y (by decide) ?_|with_reducible refine vmL ?_|((with_reducible first|apply vmO|apply vmT);(case a=>simp [eqlAV];with_reducible first|exact .v|exact .c))|((with_reducible apply vmC);(case e=>simp [eqlAV];with_reducible first|exact .t|exact .f)))
    refine A.mono (open_none s p m _ w1 h1 d1 rfl rfl) ?_
    rintro _ h2 ⟨rfl, e2⟩
    refine ⟨_, by simp; first | done | rfl, ?_⟩
    repeat (first|with_reducible refine vmR ?_|with_reducible refine vmV rfl ?_|with_reducible refine vmW rfl ?_|with_reducible refine blockW_y (by decide) ?_|with_reducible refine vmL ?_|((with_reducible first|apply vmO|apply vmT);(case a=>simp [eqlAV];with_reducible first|exact .v|exact .c))|((with_reducible apply vmC);(case e=>simp [eqlAV];with_reducible first|exact .t|exact .f)))
    refine A.mono (new_ans 1000 h2 (by omega)) ?_
    rintro _ h3 ⟨p', m', rfl, d3, e3, pn', mn'⟩
    refine ⟨_, by simp; first | done | rfl, ?_⟩
    repeat (first|with_reducible refine vmR ?_|with_reducible refine vmV rfl ?_|with_reducible refine vmW rfl ?_|with_reducible refine blockW_y (by decide) ?_|with_reducible refine vmL ?_|((with_reducible first|apply vmO|apply vmT);(case a=>simp;with_reducible first|exact .v|exact .c))|((with_reducible apply vmC);(case e=>simp;with_reducible first|exact .t|exact .f)))
    refine A.mono (createW s hsl p' m' _ w1 h3 d3) ?_
    rintro _ h4 ⟨rfl, d4, x4⟩
    have d2 := d1.he e2
    have a1 := d2.pn
    have a2 := d2.mn
    have d1' := (d2.he e3).hx x4 (fun z => by rcases z with z | z <;> omega) (fun z => by rcases z with z | z <;> omega)
    have y3 : HE h0 h3 := (e1.trans e2).trans e3
    have y4 : HE h0 h4 := y3.x2 x4 (fun o ho => by have := e1.no; have := e2.no; rcases ho with rfl | rfl <;> omega) (fun _ z => z.elim)
    have p4 : ∀ z, h4.pol z = false := fun z => by rw [y4.pol]; exact hp z
    refine ⟨_, by simp; first | done | rfl, ?_⟩
    repeat (first|with_reducible refine vmR ?_|with_reducible refine vmV rfl ?_|with_reducible refine vmW rfl ?_|with_reducible refine blockW_y (by decide) ?_|with_reducible refine vmL ?_|((with_reducible first|apply vmO|apply vmT);(case a=>simp;with_reducible first|exact .v|exact .c))|((with_reducible apply vmC);(case e=>simp;with_reducible first|exact .t|exact .f)))
    refine A.mono (wcreate_ans s hsl p m _ w1 h4 d1' p4) ?_
    rintro r h5 ⟨d5, x5, hr⟩
    have y5 : HE h0 h5 := y4.x2 x5 (fun o ho => by rcases ho with rfl | rfl <;> assumption) (fun _ z => z.elim)
    have p5 : ∀ z, h5.pol z = false := fun z => by rw [y5.pol]; exact hp z
    cases q : namedP s
    case false =>
      have c1 : (Dk.create ⟨[], 0, 1000, -1, false⟩ s).1 = 1 := by simp [Dk.create, Dk.deed, q]
      rw [fresh_bad s q 1000 (by omega)] at hr
      rcases hr with ⟨z, _⟩ | ⟨_, rfl⟩
      · cases z
      rw [c1]
      refine ⟨_, by simp; first | done | rfl, ?_⟩
      repeat (first|with_reducible refine vmR ?_|with_reducible refine vmV rfl ?_|with_reducible refine vmW rfl ?_|with_reducible refine blockW_y (by decide) ?_|with_reducible refine vmL ?_|((with_reducible first|apply vmO|apply vmT);(case a=>simp [eqlAV];with_reducible first|exact .v|exact .c))|((with_reducible apply vmC);(case e=>simp [eqlAV];with_reducible first|exact .t|exact .f)))
      refine A.mono (wlives_ans h5 p5) ?_
      rintro _ h6 ⟨rfl, e6⟩
      refine ⟨_, by simp; first | done | rfl, ?_⟩
      repeat (first|with_reducible refine vmR ?_|with_reducible refine vmV rfl ?_|with_reducible refine vmW rfl ?_|with_reducible refine blockW_y (by decide) ?_|with_reducible refine vmL ?_|((with_reducible first|apply vmO|apply vmT);(case a=>simp;with_reducible first|exact .v|exact .c))|((with_reducible apply vmC);(case e=>simp;with_reducible first|exact .t|exact .f)))
      (first | apply endW_r | apply endW_n); (case h1 => (simp [Try.results4]; first | done | rfl))
      exact ⟨rfl, y5.trans e6⟩
    case true =>
      have c1 : (Dk.create ⟨[], 0, 1000, -1, false⟩ s).1 = 0 := by simp [Dk.create, Dk.deed, q, has, lookF]
      have fr := fresh_new s q 1000 (by omega)
      have w5 := wf_fresh w1 s []
      rw [fr] at hr d5 w5
      rcases hr with ⟨_, lq, rfl, lg, lqn⟩ | ⟨z, _⟩
      case inr => exact absurd rfl z
      rw [c1]
      refine ⟨_, by simp; first | done | rfl, ?_⟩
      repeat (first|with_reducible refine vmR ?_|with_reducible refine vmV rfl ?_|with_reducible refine vmW rfl ?_|with_reducible refine blockW_y (by decide) ?_|with_reducible refine vmL ?_|((with_reducible first|apply vmO|apply vmT);(case a=>simp [eqlAV];with_reducible first|exact .v|exact .c))|((with_reducible apply vmC);(case e=>simp [eqlAV];with_reducible first|exact .t|exact .f)))
      refine A.mono (open_empty s 1 2 1000 p m w5 h5 d5 p5) ?_
      rintro _ h6 ⟨q2, rfl, x6⟩
      have n1 : lq ≠ p := by have := d1'.pn; omega
      have n2 : lq ≠ m := by have := d1'.mn; omega
      have lg6 := lg.go x6 n1 n2
      have y6 : HE h0 h6 := y5.x2 x6 (fun o ho => by rcases ho with rfl | rfl <;> assumption) (fun _ z => z.elim)
      have p6 : ∀ z, h6.pol z = false := fun z => by rw [y6.pol]; exact hp z
      refine ⟨_, by simp; first | done | rfl, ?_⟩
      repeat (first|with_reducible refine vmR ?_|with_reducible refine vmV rfl ?_|with_reducible refine vmW rfl ?_|with_reducible refine blockW_y (by decide) ?_|with_reducible refine vmL ?_|((with_reducible first|apply vmO|apply vmT);(case a=>simp [eqlAV];with_reducible first|exact .v|exact .c))|((with_reducible apply vmC);(case e=>simp [eqlAV];with_reducible first|exact .t|exact .f)))
      refine A.mono (wname_ans lq p s 0 false h6 lg6) ?_
      rintro _ h7 ⟨rfl, e7⟩
      rw [e7]
      have es : eqB s s = true := by rw [eqB_dec]; simp
      refine ⟨_, by simp; first | done | rfl, ?_⟩
      repeat (first|with_reducible refine vmR ?_|with_reducible refine vmV rfl ?_|with_reducible refine vmW rfl ?_|with_reducible refine blockW_y (by decide) ?_|with_reducible refine vmL ?_|((with_reducible first|apply vmO|apply vmT);(case a=>simp [eqlAV, es];with_reducible first|exact .v|exact .c))|((with_reducible apply vmC);(case e=>simp [eqlAV, es];with_reducible first|exact .t|exact .f)))
      refine A.mono (wlives_ans h6 p6) ?_
      rintro _ h8 ⟨rfl, e8⟩
      refine ⟨_, by simp; first | done | rfl, ?_⟩
      repeat (first|with_reducible refine vmR ?_|with_reducible refine vmV rfl ?_|with_reducible refine vmW rfl ?_|with_reducible refine blockW_y (by decide) ?_|with_reducible refine vmL ?_|((with_reducible first|apply vmO|apply vmT);(case a=>simp;with_reducible first|exact .v|exact .c))|((with_reducible apply vmC);(case e=>simp;with_reducible first|exact .t|exact .f)))
      (first | apply endW_r | apply endW_n); (case h1 => (simp [Try.results4]; first | done | rfl))
      exact ⟨rfl, y6.trans e8⟩
  · have q' : ¬ (30 : Int) < nm.length := by omega
    have hsl : nm.length ≤ 1000000 := by omega
    apply A_go Try.func4 rfl (by rfl); (case hn => (simp [Try.ntmps4]; rfl))
    repeat (first|with_reducible refine vmR ?_|with_reducible refine vmV rfl ?_|with_reducible refine vmW rfl ?_|with_reducible refine blockW_y (by decide) ?_|with_reducible refine vmL ?_|((with_reducible first|apply vmO|apply vmT);(case a=>simp [q, q'];with_reducible first|exact .v|exact .c))|((with_reducible apply vmC);(case e=>simp [q, q'];with_reducible first|exact .t|exact .f)))
    clear q q'
    refine A.mono (new_ans 1000 h0 (by omega)) ?_
    rintro _ h1 ⟨p, m, rfl, d1, e1, pn, mn⟩
    have w1 := wf_new 1000 (by omega)
    refine ⟨_, by simp; first | done | rfl, ?_⟩
    repeat (first|with_reducible refine vmR ?_|with_reducible refine vmV rfl ?_|with_reducible refine vmW rfl ?_|with_reducible refine blockW_y (by decide) ?_|with_reducible refine vmL ?_|((with_reducible first|apply vmO|apply vmT);(case a=>simp [eqlAV];with_reducible first|exact .v|exact .c))|((with_reducible apply vmC);(case e=>simp [eqlAV];with_reducible first|exact .t|exact .f)))
    refine A.mono (open_none nm p m _ w1 h1 d1 rfl rfl) ?_
    rintro _ h2 ⟨rfl, e2⟩
    refine ⟨_, by simp; first | done | rfl, ?_⟩
    repeat (first|with_reducible refine vmR ?_|with_reducible refine vmV rfl ?_|with_reducible refine vmW rfl ?_|with_reducible refine blockW_y (by decide) ?_|with_reducible refine vmL ?_|((with_reducible first|apply vmO|apply vmT);(case a=>simp [eqlAV];with_reducible first|exact .v|exact .c))|((with_reducible apply vmC);(case e=>simp [eqlAV];with_reducible first|exact .t|exact .f)))
    refine A.mono (new_ans 1000 h2 (by omega)) ?_
    rintro _ h3 ⟨p', m', rfl, d3, e3, pn', mn'⟩
    refine ⟨_, by simp; first | done | rfl, ?_⟩
    repeat (first|with_reducible refine vmR ?_|with_reducible refine vmV rfl ?_|with_reducible refine vmW rfl ?_|with_reducible refine blockW_y (by decide) ?_|with_reducible refine vmL ?_|((with_reducible first|apply vmO|apply vmT);(case a=>simp;with_reducible first|exact .v|exact .c))|((with_reducible apply vmC);(case e=>simp;with_reducible first|exact .t|exact .f)))
    refine A.mono (createW nm hsl p' m' _ w1 h3 d3) ?_
    rintro _ h4 ⟨rfl, d4, x4⟩
    have d2 := d1.he e2
    have a1 := d2.pn
    have a2 := d2.mn
    have d1' := (d2.he e3).hx x4 (fun z => by rcases z with z | z <;> omega) (fun z => by rcases z with z | z <;> omega)
    have y3 : HE h0 h3 := (e1.trans e2).trans e3
    have y4 : HE h0 h4 := y3.x2 x4 (fun o ho => by have := e1.no; have := e2.no; rcases ho with rfl | rfl <;> omega) (fun _ z => z.elim)
    have p4 : ∀ z, h4.pol z = false := fun z => by rw [y4.pol]; exact hp z
    refine ⟨_, by simp; first | done | rfl, ?_⟩
    repeat (first|with_reducible refine vmR ?_|with_reducible refine vmV rfl ?_|with_reducible refine vmW rfl ?_|with_reducible refine blockW_y (by decide) ?_|with_reducible refine vmL ?_|((with_reducible first|apply vmO|apply vmT);(case a=>simp;with_reducible first|exact .v|exact .c))|((with_reducible apply vmC);(case e=>simp;with_reducible first|exact .t|exact .f)))
    refine A.mono (wcreate_ans nm hsl p m _ w1 h4 d1' p4) ?_
    rintro r h5 ⟨d5, x5, hr⟩
    have y5 : HE h0 h5 := y4.x2 x5 (fun o ho => by rcases ho with rfl | rfl <;> assumption) (fun _ z => z.elim)
    have p5 : ∀ z, h5.pol z = false := fun z => by rw [y5.pol]; exact hp z
    cases q : namedP nm
    case false =>
      have c1 : (Dk.create ⟨[], 0, 1000, -1, false⟩ nm).1 = 1 := by simp [Dk.create, Dk.deed, q]
      rw [fresh_bad nm q 1000 (by omega)] at hr
      rcases hr with ⟨z, _⟩ | ⟨_, rfl⟩
      · cases z
      rw [c1]
      refine ⟨_, by simp; first | done | rfl, ?_⟩
      repeat (first|with_reducible refine vmR ?_|with_reducible refine vmV rfl ?_|with_reducible refine vmW rfl ?_|with_reducible refine blockW_y (by decide) ?_|with_reducible refine vmL ?_|((with_reducible first|apply vmO|apply vmT);(case a=>simp [eqlAV];with_reducible first|exact .v|exact .c))|((with_reducible apply vmC);(case e=>simp [eqlAV];with_reducible first|exact .t|exact .f)))
      refine A.mono (wlives_ans h5 p5) ?_
      rintro _ h6 ⟨rfl, e6⟩
      refine ⟨_, by simp; first | done | rfl, ?_⟩
      repeat (first|with_reducible refine vmR ?_|with_reducible refine vmV rfl ?_|with_reducible refine vmW rfl ?_|with_reducible refine blockW_y (by decide) ?_|with_reducible refine vmL ?_|((with_reducible first|apply vmO|apply vmT);(case a=>simp;with_reducible first|exact .v|exact .c))|((with_reducible apply vmC);(case e=>simp;with_reducible first|exact .t|exact .f)))
      (first | apply endW_r | apply endW_n); (case h1 => (simp [Try.results4]; first | done | rfl))
      exact ⟨rfl, y5.trans e6⟩
    case true =>
      have c1 : (Dk.create ⟨[], 0, 1000, -1, false⟩ nm).1 = 0 := by simp [Dk.create, Dk.deed, q, has, lookF]
      have fr := fresh_new nm q 1000 (by omega)
      have w5 := wf_fresh w1 nm []
      rw [fr] at hr d5 w5
      rcases hr with ⟨_, lq, rfl, lg, lqn⟩ | ⟨z, _⟩
      case inr => exact absurd rfl z
      rw [c1]
      refine ⟨_, by simp; first | done | rfl, ?_⟩
      repeat (first|with_reducible refine vmR ?_|with_reducible refine vmV rfl ?_|with_reducible refine vmW rfl ?_|with_reducible refine blockW_y (by decide) ?_|with_reducible refine vmL ?_|((with_reducible first|apply vmO|apply vmT);(case a=>simp [eqlAV];with_reducible first|exact .v|exact .c))|((with_reducible apply vmC);(case e=>simp [eqlAV];with_reducible first|exact .t|exact .f)))
      refine A.mono (open_empty nm 1 2 1000 p m w5 h5 d5 p5) ?_
      rintro _ h6 ⟨q2, rfl, x6⟩
      have n1 : lq ≠ p := by have := d1'.pn; omega
      have n2 : lq ≠ m := by have := d1'.mn; omega
      have lg6 := lg.go x6 n1 n2
      have y6 : HE h0 h6 := y5.x2 x6 (fun o ho => by rcases ho with rfl | rfl <;> assumption) (fun _ z => z.elim)
      have p6 : ∀ z, h6.pol z = false := fun z => by rw [y6.pol]; exact hp z
      refine ⟨_, by simp; first | done | rfl, ?_⟩
      repeat (first|with_reducible refine vmR ?_|with_reducible refine vmV rfl ?_|with_reducible refine vmW rfl ?_|with_reducible refine blockW_y (by decide) ?_|with_reducible refine vmL ?_|((with_reducible first|apply vmO|apply vmT);(case a=>simp [eqlAV];with_reducible first|exact .v|exact .c))|((with_reducible apply vmC);(case e=>simp [eqlAV];with_reducible first|exact .t|exact .f)))
      refine A.mono (wname_ans lq p nm 0 false h6 lg6) ?_
      rintro _ h7 ⟨rfl, e7⟩
      rw [e7]
      have es : eqB nm nm = true := by rw [eqB_dec]; simp
      refine ⟨_, by simp; first | done | rfl, ?_⟩
      repeat (first|with_reducible refine vmR ?_|with_reducible refine vmV rfl ?_|with_reducible refine vmW rfl ?_|with_reducible refine blockW_y (by decide) ?_|with_reducible refine vmL ?_|((with_reducible first|apply vmO|apply vmT);(case a=>simp [eqlAV, es];with_reducible first|exact .v|exact .c))|((with_reducible apply vmC);(case e=>simp [eqlAV, es];with_reducible first|exact .t|exact .f)))
      refine A.mono (wlives_ans h6 p6) ?_
      rintro _ h8 ⟨rfl, e8⟩
      refine ⟨_, by simp; first | done | rfl, ?_⟩
      repeat (first|with_reducible refine vmR ?_|with_reducible refine vmV rfl ?_|with_reducible refine vmW rfl ?_|with_reducible refine blockW_y (by decide) ?_|with_reducible refine vmL ?_|((with_reducible first|apply vmO|apply vmT);(case a=>simp;with_reducible first|exact .v|exact .c))|((with_reducible apply vmC);(case e=>simp;with_reducible first|exact .t|exact .f)))
      (first | apply endW_r | apply endW_n); (case h1 => (simp [Try.results4]; first | done | rfl))
      exact ⟨rfl, y6.trans e8⟩
end Go.Vn
