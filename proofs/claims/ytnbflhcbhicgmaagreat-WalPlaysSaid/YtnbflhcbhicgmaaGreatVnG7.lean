/- What functions of the program come to, in the value machine (a part of the proof of the claim's statement). No condition. -/
import Derived.Test.YtnbflhcbhicgmaaGreatVnG6
set_option linter.unusedSimpArgs false
set_option linter.unusedVariables false
set_option maxRecDepth 20000
namespace Go.Vn
open Go.Proofs

def walApp (ok : Bool) (ep last : Int) (dead : Bool) (k bs : Tx) (D : Dk) : Int × Int × Bool × Dk :=
  if ok = false ∨ ep ≤ last then (1, last, dead, D)
  else if dead = true ∨ D.down = true then (7, last, dead, D)
  else
    let r := runAll [fun D => D.append k (frame bs), fun D => D.sync k] D
    (r.1, if r.1 = 0 then ep else last, decide (r.1 = 7), r.2)

set_option maxHeartbeats 2000000 in
theorem wappend_ans (ok : Bool) (ep last : Int) (dead : Bool) (k bs : Tx) (rv : AV) (hbl : bs.length ≤ 16000000) (vc : rv.cells = [rv]) (vi : rv.isCell = true) (p m q : Nat) (D : Dk) (w : D.wf) (h0 : Hp Fm) (d : DKs h0 p m D) (lg : LGs h0 q p k last dead) (n5 : q ≠ p) (n6 : q ≠ m) (hp : ∀ z, h0.pol z = false)
    (hm : ∀ h, (∀ z, h.pol z = false) → A Tryz.prog TT (.func 32) [.agg [.int .i64 ep, rv]] h (fun r h' => r = .bool ok ∧ HE h h'))
    (hw : ok = true → ∀ h, (∀ z, h.pol z = false) → A Tryz.prog TT (.func 35) [.agg [.int .i64 ep, rv]] h (fun r h' => SV 1 (bs.map byteAV) r ∧ HE h h')) :
    A Tryz.prog TT (.func 14) [.ptr q 0, .agg [.int .i64 ep, rv]] h0 (fun r h' => r = .int .i64 (walApp ok ep last dead k bs D).1 ∧ DKs h' p m (walApp ok ep last dead k bs D).2.2.2 ∧ (walApp ok ep last dead k bs D).2.2.2.wf ∧ LGs h' q p k (walApp ok ep last dead k bs D).2.1 (walApp ok ep last dead k bs D).2.2.1 ∧ HX (fun o => o = p ∨ o = m ∨ o = q) (fun _ => False) h0 h') := by
  have pn := d.pn
  have mn := d.mn
  have qn := lg.qn
  obtain ⟨hs, hhs⟩ : ∃ hs : Hp Fm, hs = { h0 with obj := Mp.set (Mp.set h0.obj h0.no (.row [.ptr q 0])) (h0.no + 1) (.row [.int .i64 ep, rv]), no := h0.no + 1 + 1 } := ⟨_, rfl⟩
  have e0 : HE h0 hs := by rw [hhs]; exact ((HE.refl h0).new _).new _
  have a0 : FrA h0.no (h0.no + 1) q p m k last dead ep rv hs := by
    refine ⟨?_, ?_, lg.he e0, fun z => by rw [e0.pol]; exact hp z, ?_, ?_⟩
    · rw [hhs]; simp [show h0.no ≠ h0.no + 1 by omega]
    · rw [hhs]; simp
    · rw [hhs]; show h0.no < h0.no + 1 + 1; omega
    · rw [hhs]; show h0.no + 1 < h0.no + 1 + 1; omega
  have d0 := d.he e0
  have n1 : h0.no ≠ p := by omega
  have n2 : h0.no ≠ m := by omega
  have n3 : h0.no + 1 ≠ p := by omega
  have n4 : h0.no + 1 ≠ m := by omega
  have g1 := a0.g1
  have g2 := a0.g2
  have g3 := a0.lg.row
  unfold walApp
  apply A_go Tryz.func14 rfl (by rfl); (case hn => (simp [Tryz.ntmps14]; rfl))
  repeat(first|with_reducible first|refine vmR ?_|refine vmV rfl ?_|refine vmW rfl ?_|refine vmL ?_|refine blockW_y (by decide) ?_|((with_reducible first|apply vmO|apply vmT|apply vmC);case a=>simp [vc, vi];with_reducible first|exact .v|exact .c|exact .t|exact .f))
  rw [← hhs]
  repeat(first|with_reducible first|refine vmR ?_|refine vmV rfl ?_|refine vmW rfl ?_|refine vmL ?_|refine blockW_y (by decide) ?_|((with_reducible first|apply vmO|apply vmT|apply vmC);case a=>simp [vc, vi];with_reducible first|exact .v|exact .c|exact .t|exact .f))
  (with_reducible refine W_draw_id (pln := true) [0, 1, 2, 3, 4, 5, 6, 7, 8, 9, 10, 11, 12] [(0, (0, [])), (5, (5, [])), (6, (6, [])), (9, (9, []))] (by kernel_rfl) rfl ?_)
  repeat(first|with_reducible first|refine vmR ?_|refine vmV rfl ?_|refine vmW rfl ?_|refine vmL ?_|refine blockW_y (by decide) ?_|((with_reducible first|apply vmO|apply vmT|apply vmC);case a=>simp [g1, g2, g3, vc, vi];with_reducible first|exact .v|exact .c|exact .t|exact .f))
  refine A.mono (hm hs.drew a0.pol) ?_
  rintro _ h1 ⟨rfl, e1⟩
  have e1' : HE hs h1 := (HE.refl hs).drew.trans e1
  have a1 := a0.he e1'
  have b1 := a1.g1
  have b2 := a1.g2
  have b3 := a1.lg.row
  have d1 := d0.he e1'
  refine ⟨_, by simp; first | done | rfl, ?_⟩
  have xx : HX (fun o => o = p ∨ o = m ∨ o = q) (fun _ => False) h0 h1 := (e0.trans e1').x _ _
  cases ok
  case false =>
    rw [if_pos (.inl rfl)]
    repeat(first|with_reducible first|refine vmR ?_|refine vmV rfl ?_|refine vmW rfl ?_|refine vmL ?_|refine blockW_y (by decide) ?_|((with_reducible first|apply vmO|apply vmT|apply vmC);case a=>simp [b1, b2, b3];with_reducible first|exact .v|exact .c|exact .t|exact .f))
    refine ⟨by simp [readSame, beqAV_self, g1, g2, g3, vc, vi, b1, b2, b3]; done, _, by simp; first | done | rfl, ?_⟩
    repeat(first|with_reducible first|refine vmR ?_|refine vmV rfl ?_|refine vmW rfl ?_|refine vmL ?_|refine blockW_y (by decide) ?_|((with_reducible first|apply vmO|apply vmT|apply vmC);case a=>simp;with_reducible first|exact .v|exact .c|exact .t|exact .f))
    (first | apply endW_r | apply endW_n); (case h1 => (simp [Tryz.results14]; first | done | rfl))
    exact ⟨rfl, d1, w, a1.lg, xx⟩
  by_cases qe : ep ≤ last
  · rw [if_pos (.inr qe)]
    repeat(first|with_reducible first|refine vmR ?_|refine vmV rfl ?_|refine vmW rfl ?_|refine vmL ?_|refine blockW_y (by decide) ?_|((with_reducible first|apply vmO|apply vmT|apply vmC);case a=>simp [b1, b2, b3, qe];with_reducible first|exact .v|exact .c|exact .t|exact .f))
    refine ⟨by simp [readSame, beqAV_self, g1, g2, g3, vc, vi, b1, b2, b3]; done, _, by simp; first | done | rfl, ?_⟩
    repeat(first|with_reducible first|refine vmR ?_|refine vmV rfl ?_|refine vmW rfl ?_|refine vmL ?_|refine blockW_y (by decide) ?_|((with_reducible first|apply vmO|apply vmT|apply vmC);case a=>simp;with_reducible first|exact .v|exact .c|exact .t|exact .f))
    (first | apply endW_r | apply endW_n); (case h1 => (simp [Tryz.results14]; first | done | rfl))
    exact ⟨rfl, d1, w, a1.lg, xx⟩
  rw [if_neg (by simp [qe])]
  cases dead
  case true =>
    rw [if_pos (.inl rfl)]
    repeat(first|with_reducible first|refine vmR ?_|refine vmV rfl ?_|refine vmW rfl ?_|refine vmL ?_|refine blockW_y (by decide) ?_|((with_reducible first|apply vmO|apply vmT|apply vmC);case a=>simp [b1, b2, b3, qe];with_reducible first|exact .v|exact .c|exact .t|exact .f))
    refine ⟨by simp [readSame, beqAV_self, g1, g2, g3, vc, vi, b1, b2, b3]; done, _, by simp; first | done | rfl, ?_⟩
    repeat(first|with_reducible first|refine vmR ?_|refine vmV rfl ?_|refine vmW rfl ?_|refine vmL ?_|refine blockW_y (by decide) ?_|((with_reducible first|apply vmO|apply vmT|apply vmC);case a=>simp [b1, b2, b3];with_reducible first|exact .v|exact .c|exact .t|exact .f))
    (first | apply endW_r | apply endW_n); (case h1 => (simp [Tryz.results14]; first | done | rfl))
    exact ⟨rfl, d1, w, a1.lg, xx⟩
  repeat(first|with_reducible first|refine vmR ?_|refine vmV rfl ?_|refine vmW rfl ?_|refine vmL ?_|refine blockW_y (by decide) ?_|((with_reducible first|apply vmO|apply vmT|apply vmC);case a=>simp [b1, b2, b3, qe];with_reducible first|exact .v|exact .c|exact .t|exact .f))
  refine ⟨by simp [readSame, beqAV_self, g1, g2, g3, vc, vi, b1, b2, b3]; done, _, by simp; first | done | rfl, ?_⟩
  repeat(first|with_reducible first|refine vmR ?_|refine vmV rfl ?_|refine vmW rfl ?_|refine vmL ?_|refine blockW_y (by decide) ?_|((with_reducible first|apply vmO|apply vmT|apply vmC);case a=>simp [b1, b2, b3];with_reducible first|exact .v|exact .c|exact .t|exact .f))
  refine A.mono (alive_ans p m D h1 d1) ?_
  rintro _ h1' ⟨rfl, ee⟩
  rw [ee]
  clear ee h1'
  refine ⟨_, by simp; first | done | rfl, ?_⟩
  cases qd : D.down
  case true =>
    rw [if_pos (.inr rfl)]
    repeat(first|with_reducible first|refine vmR ?_|refine vmV rfl ?_|refine vmW rfl ?_|refine vmL ?_|refine blockW_y (by decide) ?_|((with_reducible first|apply vmO|apply vmT|apply vmC);case a=>simp [qd, b1, b2, b3];with_reducible first|exact .v|exact .c|exact .t|exact .f))
    (first | apply endW_r | apply endW_n); (case h1 => (simp [Tryz.results14]; first | done | rfl))
    exact ⟨rfl, d1, w, a1.lg, xx⟩
  rw [if_neg (by simp)]
  have p1 := a1.pol
  repeat(first|with_reducible first|refine vmR ?_|refine vmV rfl ?_|refine vmW rfl ?_|refine vmL ?_|refine blockW_y (by decide) ?_|((with_reducible first|apply vmO|apply vmT|apply vmC);case a=>simp [qd, b1, b2, b3, newSeq, newSl, p1];with_reducible first|exact .v|exact .c|exact .t|exact .f))
  have ha : HE h1 { h1 with len := Mp.set h1.len h1.ng 2, ng := h1.ng + 1 } := (HE.refl h1).newSl 2
  have hcl : ∀ c ∈ [(⟨33, [.ptr h0.no 0, .ptr (h0.no + 1) 0], fun D => D.append k (frame bs)⟩ : Cl), ⟨36, [.ptr h0.no 0], fun D => D.sync k⟩], c.Ok p m (FrA h0.no (h0.no + 1) q p m k last false ep rv) := by
    intro c hc
    simp only [List.mem_cons, List.not_mem_nil, or_false] at hc
    rcases hc with rfl | rfl
    · exact ap1_ok n1 n2 n3 n4 n5 n6 bs hbl vc vi (hw rfl)
    · exact ap2_ok n1 n2 n3 n4 n5 n6
  refine A.mono (wall_ans p m _ _ hcl (by simp) D w _ (d1.he ha) (a1.he ha) _ _) ?_
  rintro _ h2 ⟨rfl, d2, x2, a2⟩
  have w2 := runAll_wf _ hcl D w
  simp only [List.map_cons, List.map_nil] at d2 w2 ⊢
  obtain ⟨R, hR⟩ : ∃ R, R = runAll [fun D => D.append k (frame bs), fun D => D.sync k] D := ⟨_, rfl⟩
  rw [← hR] at d2 w2 ⊢
  have c1 := a2.g1
  have c2 := a2.g2
  have c3 := a2.lg.row
  have x02 : HX (fun o => o = p ∨ o = m ∨ o = q) (fun _ => False) h0 h2 := (xx.trans (ha.x _ _)).trans (x2.mono (fun o _ z => z.elim .inl fun z => .inr (.inl z)) fun _ _ z => z)
  have qn2 := a2.lg.qn
  have m1 : q ≠ h0.no := by omega
  have m2 : q ≠ h0.no + 1 := by omega
  have fin : ∀ (l' : Int) (b' : Bool) (h3 : Hp Fm), HX (fun o => o = q) (fun _ => False) h2 h3 → Mp.get h3.obj q = some (.row [.ptr p 0, .str k, .int .i64 l', .bool b']) → DKs h3 p m R.2 ∧ R.2.wf ∧ LGs h3 q p k l' b' ∧ HX (fun o => o = p ∨ o = m ∨ o = q) (fun _ => False) h0 h3 := by
    intro l' b' h3 x3 e3
    refine ⟨?_, w2, ⟨e3, Nat.lt_of_lt_of_le qn2 x3.no⟩, x02.trans (x3.mono (fun o _ z => .inr (.inr z)) fun _ _ z => z)⟩
    obtain ⟨es, i1, i2⟩ := d2.map
    exact ⟨(x3.obj p d2.pn (Ne.symm n5)).trans d2.row, ⟨es, (x3.obj m d2.mn (Ne.symm n6)).trans i1, i2⟩, Nat.lt_of_lt_of_le d2.pn x3.no, Nat.lt_of_lt_of_le d2.mn x3.no, d2.born⟩
  obtain ⟨z, D2⟩ := R
  simp only at d2 w2 fin ⊢
  refine ⟨_, by simp; first | done | rfl, ?_⟩
  by_cases z0 : z = 0
  · repeat(first|with_reducible first|refine vmR ?_|refine vmV rfl ?_|refine vmW rfl ?_|refine vmL ?_|refine blockW_y (by decide) ?_|((with_reducible first|apply vmO|apply vmT|apply vmC);case a=>simp [z0, c1, c2, c3, m1, m2, Ne.symm m1, Ne.symm m2];with_reducible first|exact .v|exact .c|exact .t|exact .f))
    (first | apply endW_r | apply endW_n); (case h1 => (simp [Tryz.results14]; first | done | rfl))
    rw [if_pos z0, decide_eq_false (by omega)]
    exact ⟨by rw [z0], fin _ _ _ (HX.set (S := fun o => o = q) (HX.set (S := fun o => o = q) (HX.refl _ _ _) (fun _ => rfl) _) (fun _ => rfl) _) (by simp)⟩
  · rw [if_neg z0]
    by_cases z7 : z = 7
    · repeat(first|with_reducible first|refine vmR ?_|refine vmV rfl ?_|refine vmW rfl ?_|refine vmL ?_|refine blockW_y (by decide) ?_|((with_reducible first|apply vmO|apply vmT|apply vmC);case a=>simp [z0, z7, c1, c2, c3, m1, m2, Ne.symm m1, Ne.symm m2];with_reducible first|exact .v|exact .c|exact .t|exact .f))
      (first | apply endW_r | apply endW_n); (case h1 => (simp [Tryz.results14]; first | done | rfl))
      rw [decide_eq_true z7]
      exact ⟨by rw [z7], fin _ _ _ (HX.set (S := fun o => o = q) (HX.refl _ _ _) (fun _ => rfl) _) (by simp)⟩
    · repeat(first|with_reducible first|refine vmR ?_|refine vmV rfl ?_|refine vmW rfl ?_|refine vmL ?_|refine blockW_y (by decide) ?_|((with_reducible first|apply vmO|apply vmT|apply vmC);case a=>simp [z0, z7, c1, c2, c3, m1, m2, Ne.symm m1, Ne.symm m2];with_reducible first|exact .v|exact .c|exact .t|exact .f))
      (first | apply endW_r | apply endW_n); (case h1 => (simp [Tryz.results14]; first | done | rfl))
      rw [decide_eq_false z7]
      exact ⟨rfl, fin _ _ _ (HX.set (S := fun o => o = q) (HX.refl _ _ _) (fun _ => rfl) _) (by simp)⟩
end Go.Vn

set_option maxRecDepth 20000
namespace Go.Vn
open Go.Proofs

theorem indexv_nil (f : AV) (fc : f.cells = [f]) (fi : f.isCell = true) (h0 : Hp Fm) : A Tryz.prog TT (.func 78) [.nils, f] h0 (fun r h' => r = .int .i64 (-1) ∧ h' = h0) := by
  apply A_go Tryz.func78 rfl (by rfl); (case hn => (simp [Tryz.ntmps78]; rfl))
  repeat(first|with_reducible first|refine vmR ?_|refine vmV rfl ?_|refine vmW rfl ?_|refine vmL ?_|refine blockW_y (by decide) ?_|((with_reducible first|apply vmO|apply vmT|apply vmC);case a=>simp [fc, fi];with_reducible first|exact .v|exact .c|exact .t|exact .f))
  refine W_loop_i ?_
  repeat(first|with_reducible first|refine vmR ?_|refine vmV rfl ?_|refine vmW rfl ?_|refine vmL ?_|refine blockW_y (by decide) ?_|((with_reducible first|apply vmO|apply vmT|apply vmC);case a=>simp [fc, fi];with_reducible first|exact .v|exact .c|exact .t|exact .f))
  (first | apply endW_r | apply endW_n); (case h1 => (simp [Tryz.results78]; first | done | rfl))
  exact ⟨rfl, rfl⟩
theorem containsv_nil (f : AV) (fc : f.cells = [f]) (fi : f.isCell = true) (h0 : Hp Fm) : A Tryz.prog TT (.func 57) [.nils, f] h0 (fun r h' => r = .bool false ∧ h' = h0) := by
  apply A_go Tryz.func57 rfl (by rfl); (case hn => (simp [Tryz.ntmps57]; rfl))
  repeat(first|with_reducible first|refine vmR ?_|refine vmV rfl ?_|refine vmW rfl ?_|refine vmL ?_|refine blockW_y (by decide) ?_|((with_reducible first|apply vmO|apply vmT|apply vmC);case a=>simp [fc, fi];with_reducible first|exact .v|exact .c|exact .t|exact .f))
  refine A.mono (indexv_nil f fc fi h0) ?_
  rintro _ h1 ⟨rfl, e⟩
  rw [e]
  refine ⟨_, by simp; first | done | rfl, ?_⟩
  repeat(first|with_reducible first|refine vmR ?_|refine vmV rfl ?_|refine vmW rfl ?_|refine vmL ?_|refine blockW_y (by decide) ?_|((with_reducible first|apply vmO|apply vmT|apply vmC);case a=>simp;with_reducible first|exact .v|exact .c|exact .t|exact .f))
  (first | apply endW_r | apply endW_n); (case h1 => (simp [Tryz.results57]; first | done | rfl))
  exact ⟨rfl, rfl⟩
theorem wmay_nil (h0 : Hp Fm) : A Tryz.prog TT (.func 32) [.agg [.int .i64 1, .nils]] h0 (fun r h' => r = .bool true ∧ HE h0 h') := by
  apply A_go Tryz.func32 rfl (by rfl); (case hn => (simp [Tryz.ntmps32]; rfl))
  repeat(first|with_reducible first|refine vmR ?_|refine vmV rfl ?_|refine vmW rfl ?_|refine vmL ?_|refine blockW_y (by decide) ?_|((with_reducible first|apply vmO|apply vmT|apply vmC);case a=>simp;with_reducible first|exact .v|exact .c|exact .t|exact .f))
  refine A.mono (containsv_nil _ rfl rfl _) ?_
  rintro _ h1 ⟨rfl, e⟩
  refine ⟨_, by simp; first | done | rfl, ?_⟩
  repeat(first|with_reducible first|refine vmR ?_|refine vmV rfl ?_|refine vmW rfl ?_|refine vmL ?_|refine blockW_y (by decide) ?_|((with_reducible first|apply vmO|apply vmT|apply vmC);case a=>simp;with_reducible first|exact .v|exact .c|exact .t|exact .f))
  (first | apply endW_r | apply endW_n); (case h1 => (simp [Tryz.results32]; first | done | rfl))
  rw [e]
  exact ⟨rfl, (HE.refl h0).new _⟩
theorem rlist_nil (h0 : Hp Fm) (hp : ∀ z, h0.pol z = false) : A Tryz.prog TT (.func 60) [.nils] h0 (fun r h' => ∃ u, r = .tup [u, .int .i64 0] ∧ SV 1 (([0] : Tx).map byteAV) u ∧ HE h0 h') := by
  apply A_go Tryz.func60 rfl (by rfl); (case hn => (simp [Tryz.ntmps60]; rfl))
  repeat(first|with_reducible first|refine vmR ?_|refine vmV rfl ?_|refine vmW rfl ?_|refine vmL ?_|refine blockW_y (by decide) ?_|((with_reducible first|apply vmO|apply vmT|apply vmC);case a=>simp [newSeq, newSl, hp];with_reducible first|exact .v|exact .c|exact .t|exact .f))
  refine A.mono (vput_ans [] [0] .nils _ _ (.inl ⟨rfl, rfl⟩) (.inr (.inl ⟨_, _, _, rfl⟩)) (by simp) (by exact hp _) (by simp)) ?_
  rintro u h1 ⟨a1, e1⟩
  have e2 := ((HE.refl h0).newSl 1).trans e1
  have uc := a1.sv.cells
  have ui := a1.sv.isCell
  have eq : ([] ++ encs [0] : Tx) = [0] := by simp [encs, enc7_lt]
  rw [eq] at a1
  refine ⟨_, by simp; first | done | rfl, ?_⟩
  repeat(first|with_reducible first|refine vmR ?_|refine vmV rfl ?_|refine vmW rfl ?_|refine vmL ?_|refine blockW_y (by decide) ?_|((with_reducible first|apply vmO|apply vmT|apply vmC);case a=>simp [uc, ui];with_reducible first|exact .v|exact .c|exact .t|exact .f))
  refine W_loop_i ?_
  repeat(first|with_reducible first|refine vmR ?_|refine vmV rfl ?_|refine vmW rfl ?_|refine vmL ?_|refine blockW_y (by decide) ?_|((with_reducible first|apply vmO|apply vmT|apply vmC);case a=>simp [uc, ui];with_reducible first|exact .v|exact .c|exact .t|exact .f))
  (first | apply endW_r | apply endW_n); (case h1 => (simp [Tryz.results60]; first | done | rfl))
  exact ⟨u, by simp, a1.sv, e2⟩
theorem wwrite_nil (h0 : Hp Fm) (hp : ∀ z, h0.pol z = false) : A Tryz.prog TT (.func 35) [.agg [.int .i64 1, .nils]] h0 (fun r h' => SV 1 (([1, 0] : Tx).map byteAV) r ∧ HE h0 h') := by
  have e0 := (HE.refl h0).new (.row [.int .i64 1, .nils])
  apply A_go Tryz.func35 rfl (by rfl); (case hn => (simp [Tryz.ntmps35]; rfl))
  repeat(first|with_reducible first|refine vmR ?_|refine vmV rfl ?_|refine vmW rfl ?_|refine vmL ?_|refine blockW_y (by decide) ?_|((with_reducible first|apply vmO|apply vmT|apply vmC);case a=>simp;with_reducible first|exact .v|exact .c|exact .t|exact .f))
  refine A.mono (rlist_nil _ (by exact hp)) ?_
  rintro _ h1 ⟨u, rfl, su, e1⟩
  have uc := su.cells
  have ui := su.isCell
  have e01 := e0.trans e1
  have g1 : Mp.get h1.obj h0.no = some (.row [.int .i64 1, .nils]) := by rw [e1.obj _ (by show h0.no < h0.no + 1; omega)]; simp
  have p1 : ∀ z, h1.pol z = false := fun z => by rw [e01.pol]; exact hp z
  refine ⟨_, by simp; first | done | rfl, ?_⟩
  repeat(first|with_reducible first|refine vmR ?_|refine vmV rfl ?_|refine vmW rfl ?_|refine vmL ?_|refine blockW_y (by decide) ?_|((with_reducible first|apply vmO|apply vmT|apply vmC);case a=>simp [uc, ui, g1, newSeq, newSl, p1];with_reducible first|exact .v|exact .c|exact .t|exact .f))
  have e2 := (HE.refl h1).newSl 1
  refine A.mono (vput_ans [] [1] .nils _ _ (.inl ⟨rfl, rfl⟩) (.inr (.inl ⟨_, _, _, rfl⟩)) (by simp) (by exact p1 _) (by simp)) ?_
  rintro y h2 ⟨a2, e3⟩
  have e12 := e2.trans e3
  have yc := a2.sv.cells
  have yi := a2.sv.isCell
  have p2 : ∀ z, h2.pol z = false := fun z => by rw [e12.pol]; exact p1 z
  have eq : ([] ++ encs [1] : Tx) = [1] := by simp [encs, enc7_lt]
  rw [eq] at a2
  refine ⟨_, by simp; first | done | rfl, ?_⟩
  repeat(first|with_reducible first|refine vmR ?_|refine vmV rfl ?_|refine vmW rfl ?_|refine vmL ?_|refine blockW_y (by decide) ?_|((with_reducible first|apply vmO|apply vmT|apply vmC);case a=>simp [uc, ui, yc, yi];with_reducible first|exact .v|exact .c|exact .t|exact .f))
  with_reducible apply WO_app_i; (case hw => (simp [uc, ui, yc, yi]; done)); (case ho => rfl); (case hb => rfl); (case ha => (simp [uc, ui, yc, yi]; first | done | exact ⟨rfl, rfl⟩ | rfl)); (case h1 => (simp; first | done | rfl)); (case h2 => (simp; first | done | rfl))
  refine app_then (AC.appN (h0 := h1) (h := h2) (new := ([0] : Tx).map byteAV) etB (a2.weak e2.ng) e12 (p1 _) su.newEls (by simp)) ?_
  rintro x4 h4 ⟨ac4, he4, _, _, _⟩
  have e4 := ac4.sv.cells
  have f4 := ac4.sv.isCell
  refine ⟨_, by simp; first | done | rfl, ?_⟩
  repeat(first|with_reducible first|refine vmR ?_|refine vmV rfl ?_|refine vmW rfl ?_|refine vmL ?_|refine blockW_y (by decide) ?_|((with_reducible first|apply vmO|apply vmT|apply vmC);case a=>simp [e4, f4];with_reducible first|exact .v|exact .c|exact .t|exact .f))
  (first | apply endW_r | apply endW_n); (case h1 => (simp [Tryz.results35]; first | done | rfl))
  exact ⟨by simpa using ac4.sv, e01.trans he4⟩

theorem wname_ans (q p : Nat) (k : Tx) (last : Int) (dead : Bool) (h0 : Hp Fm) (lg : LGs h0 q p k last dead) : A Tryz.prog TT (.func 19) [.ptr q 0] h0 (fun r h' => r = .str k ∧ h' = h0) := by
  have g := lg.row
  apply A_go Tryz.func19 rfl (by rfl); (case hn => (simp [Tryz.ntmps19]; rfl))
  repeat(first|with_reducible first|refine vmR ?_|refine vmV rfl ?_|refine vmW rfl ?_|refine vmL ?_|refine blockW_y (by decide) ?_|((with_reducible first|apply vmO|apply vmT|apply vmC);case a=>simp [g];with_reducible first|exact .v|exact .c|exact .t|exact .f))
  (first | apply endW_r | apply endW_n); (case h1 => (simp [Tryz.results19]; first | done | rfl))
  exact ⟨rfl, rfl⟩

def logN : Tx := [108, 111, 103]
def oneD (k cs : Tx) (b c : Nat) (qt : Int) : Dk := ⟨[(k, (cs, cs.length), b)], c, qt, -1, false⟩
theorem named_temp : namedP [116, 101, 109, 112, 46, 108, 111, 103] = true := by decide +kernel
theorem named_log : namedP logN = true := by decide +kernel
theorem fresh_new (k : Tx) (hn : namedP k = true) (qt : Int) (hq : 0 ≤ qt) : freshD k [] ⟨[], 0, qt, -1, false⟩ = (0, oneD k [] 1 2 qt) := by
  have h1 : ¬ qt < 0 := by omega
  simp [freshD, runAll, Dk.remove, Dk.create, Dk.append, Dk.sync, Dk.rename, Dk.deed, appE, has, lookF, Dk.tick, Dk.app, Dk.put, setF, clkF, used, Dk.syn, Dk.ren, Dk.del, delF, oneD, tempN, named_temp, hn, h1]
theorem walApp_one (k cs bs : Tx) (b c : Nat) (qt ep last : Int) (hep : last < ep) (hq : (cs.length : Int) + (bs.length + 8) ≤ qt) :
    walApp true ep last false k bs (oneD k cs b c qt) = (0, ep, false, oneD k (cs ++ frame bs) b c qt) := by
  have h1 : ¬ ep ≤ last := by omega
  have h2 : ¬ qt - (cs.length : Int) < (bs.length : Int) + 8 := by omega
  simp [walApp, runAll, Dk.append, Dk.sync, Dk.deed, appE, has, lookF, Dk.tick, Dk.app, Dk.put, setF, clkF, used, Dk.syn, oneD, h1, h2]
set_option maxHeartbeats 1000000 in
theorem wlives_ans (h0 : Hp Fm) (hp : ∀ z, h0.pol z = false) : A Tryz.prog TT (.func 9) [] h0 (fun r h' => r = .bool true ∧ HE h0 h') := by
  apply A_go Tryz.func9 rfl (by rfl); (case hn => (simp [Tryz.ntmps9]; rfl))
  repeat(first|with_reducible first|refine vmR ?_|refine vmV rfl ?_|refine vmW rfl ?_|refine vmL ?_|refine blockW_y (by decide) ?_|((with_reducible first|apply vmO|apply vmT|apply vmC);case a=>simp;with_reducible first|exact .v|exact .c|exact .t|exact .f))
  refine A.mono (new_ans 1000 h0 (by omega)) ?_
  rintro _ h1 ⟨p, m, rfl, d1, e1, pn, mn⟩
  have w1 := wf_new 1000 (by omega)
  have p1 : ∀ z, h1.pol z = false := fun z => by rw [e1.pol]; exact hp z
  refine ⟨_, by simp; first | done | rfl, ?_⟩
  repeat(first|with_reducible first|refine vmR ?_|refine vmV rfl ?_|refine vmW rfl ?_|refine vmL ?_|refine blockW_y (by decide) ?_|((with_reducible first|apply vmO|apply vmT|apply vmC);case a=>simp;with_reducible first|exact .v|exact .c|exact .t|exact .f))
  refine A.mono (wcreate_ans logN (by decide) p m _ w1 h1 d1 p1) ?_
  rintro r h2 ⟨d2, x2, hr⟩
  have w2 := wf_fresh w1 logN []
  have fr := fresh_new logN named_log 1000 (by omega)
  rw [fr] at d2 w2 hr
  rcases hr with ⟨_, q, rfl, lg, hq⟩ | ⟨z, _⟩
  case inr => exact absurd rfl z
  have n5 : q ≠ p := by have := d1.pn; omega
  have n6 : q ≠ m := by have := d1.mn; omega
  have p2 : ∀ z, h2.pol z = false := fun z => by rw [x2.pol]; exact p1 z
  refine ⟨_, by simp; first | done | rfl, ?_⟩
  repeat(first|with_reducible first|refine vmR ?_|refine vmV rfl ?_|refine vmW rfl ?_|refine vmL ?_|refine blockW_y (by decide) ?_|((with_reducible first|apply vmO|apply vmT|apply vmC);case a=>simp [eqlAV];with_reducible first|exact .v|exact .c|exact .t|exact .f))
  refine A.mono (wappend_ans true 1 0 false logN [1, 0] .nils (by simp) rfl rfl p m q _ w2 h2 d2 lg n5 n6 p2 (fun h _ => wmay_nil h) (fun _ h e => wwrite_nil h e)) ?_
  rw [walApp_one logN [] [1, 0] 1 2 1000 1 0 (by omega) (by simp)]
  rintro _ h3 ⟨rfl, d3, w3, lg3, x3⟩
  have p3 : ∀ z, h3.pol z = false := fun z => by rw [x3.pol]; exact p2 z
  refine ⟨_, by simp; first | done | rfl, ?_⟩
  repeat(first|with_reducible first|refine vmR ?_|refine vmV rfl ?_|refine vmW rfl ?_|refine vmL ?_|refine blockW_y (by decide) ?_|((with_reducible first|apply vmO|apply vmT|apply vmC);case a=>simp;with_reducible first|exact .v|exact .c|exact .t|exact .f))
  refine A.mono (wappend_ans true 1 1 false logN [1, 0] .nils (by simp) rfl rfl p m q _ w3 h3 d3 lg3 n5 n6 p3 (fun h _ => wmay_nil h) (fun _ h e => wwrite_nil h e)) ?_
  have e4 : walApp true 1 1 false logN [1, 0] (oneD logN ([] ++ frame [1, 0]) 1 2 1000) = (1, 1, false, oneD logN ([] ++ frame [1, 0]) 1 2 1000) := rfl
  rw [e4]
  rintro _ h4 ⟨rfl, d4, w4, lg4, x4⟩
  refine ⟨_, by simp; first | done | rfl, ?_⟩
  repeat(first|with_reducible first|refine vmR ?_|refine vmV rfl ?_|refine vmW rfl ?_|refine vmL ?_|refine blockW_y (by decide) ?_|((with_reducible first|apply vmO|apply vmT|apply vmC);case a=>simp;with_reducible first|exact .v|exact .c|exact .t|exact .f))
  refine A.mono (wname_ans q p logN 1 false h4 lg4) ?_
  rintro _ h5 ⟨rfl, e5⟩
  refine ⟨_, by simp; first | done | rfl, ?_⟩
  repeat(first|with_reducible first|refine vmR ?_|refine vmV rfl ?_|refine vmW rfl ?_|refine vmL ?_|refine blockW_y (by decide) ?_|((with_reducible first|apply vmO|apply vmT|apply vmC);case a=>simp [eqlAV, logN];with_reducible first|exact .v|exact .c|exact .t|exact .f))
  (first | apply endW_r | apply endW_n); (case h1 => (simp [Tryz.results9]; first | done | rfl))
  rw [e5]
  have x24 := x3.trans x4
  have y2 : HE h0 h2 := e1.x2 x2 (fun o ho => by rcases ho with rfl | rfl <;> assumption) (fun _ z => z.elim)
  exact ⟨rfl, y2.x2 x24 (fun o ho => by rcases ho with rfl | rfl | rfl <;> first | assumption | (have := e1.no; omega)) (fun _ z => z.elim)⟩
end Go.Vn
