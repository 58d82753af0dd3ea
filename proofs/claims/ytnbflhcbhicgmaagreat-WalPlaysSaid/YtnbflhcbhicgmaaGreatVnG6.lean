/- What functions of the program come to, in the value machine (a part of the proof of the claim's statement). No condition. -/
import Derived.Test.YtnbflhcbhicgmaaGreatVnG5
set_option linter.unusedSimpArgs false
set_option linter.unusedVariables false
set_option maxRecDepth 20000
namespace Go.Vn
open Go.Proofs

theorem wf_fresh {D : Dk} (w : D.wf) (k b : Tx) : (freshD k b D).2.wf := by
  unfold freshD
  have w1 := wf_remove w tempN
  have w2 : ∀ l : List (Dk → Int × Dk), (∀ f ∈ l, ∀ D : Dk, D.wf → (f D).2.wf) → ∀ D : Dk, D.wf → (runAll l D).2.wf := by
    intro l
    induction l with
    | nil => intro _ D w; exact w
    | cons f l ih =>
      intro h D w
      unfold runAll
      split
      · exact h f List.mem_cons_self D w
      · exact ih (fun g hg => h g (List.mem_cons_of_mem _ hg)) _ (h f List.mem_cons_self D w)
  have w3 := w2 [fun D => D.create tempN, fun D => D.append tempN b, fun D => D.sync tempN, fun D => D.rename tempN k] (by
    intro f hf D w
    simp only [List.mem_cons, List.not_mem_nil, or_false] at hf
    rcases hf with rfl | rfl | rfl | rfl
    · exact wf_create w _
    · exact wf_append w _ _
    · exact wf_sync w _
    · exact wf_rename w _ _) _ w1
  split
  · exact w1
  · simp only
    split
    · exact wf_remove w3 _
    · exact w3

set_option maxHeartbeats 1000000 in
theorem fresh_ans (k b : Tx) (v : AV) (hk : k.length ≤ 1000000) (hbl : b.length ≤ 16777216) (sv : SV 1 (b.map byteAV) v) (p m : Nat) (D : Dk) (w : D.wf) (h0 : Hp Fm) (d : DKs h0 p m D) (hp : ∀ z, h0.pol z = false) :
    A Tryz.prog TT (.func 10) [.ptr p 0, .str k, v] h0 (fun r h' => r = .int .i64 (freshD k b D).1 ∧ DKs h' p m (freshD k b D).2 ∧ DX p m h0 h') := by
  have vc := sv.cells
  have vi := sv.isCell
  have pn := d.pn
  have mn := d.mn
  obtain ⟨hs, hhs⟩ : ∃ hs : Hp Fm, hs = { h0 with obj := Mp.set (Mp.set (Mp.set h0.obj h0.no (.row [.ptr p 0])) (h0.no + 1) (.row [.str k])) (h0.no + 1 + 1) (.row [v]), no := h0.no + 1 + 1 + 1 } := ⟨_, rfl⟩
  have e0 : HE h0 hs := by rw [hhs]; exact (((HE.refl h0).new _).new _).new _
  have a0 : Fr4 h0.no (h0.no + 1) (h0.no + 1 + 1) p k b hs := by
    refine ⟨?_, ?_, ⟨v, ?_, sv⟩, fun z => by rw [e0.pol]; exact hp z, ?_, ?_, ?_⟩
    · rw [hhs]; simp [show h0.no ≠ h0.no + 1 by omega, show h0.no ≠ h0.no + 1 + 1 by omega]
    · rw [hhs]; simp [show h0.no + 1 ≠ h0.no + 1 + 1 by omega]
    · rw [hhs]; simp
    · rw [hhs]; show h0.no < h0.no + 1 + 1 + 1; omega
    · rw [hhs]; show h0.no + 1 < h0.no + 1 + 1 + 1; omega
    · rw [hhs]; show h0.no + 1 + 1 < h0.no + 1 + 1 + 1; omega
  have d0 := d.he e0
  have n1 : h0.no ≠ p := by omega
  have n2 : h0.no ≠ m := by omega
  have n3 : h0.no + 1 ≠ p := by omega
  have n4 : h0.no + 1 ≠ m := by omega
  have n5 : h0.no + 1 + 1 ≠ p := by omega
  have n6 : h0.no + 1 + 1 ≠ m := by omega
  obtain ⟨r1, hr1⟩ : ∃ r1 : Nat, r1 = h0.no + 1 := ⟨_, rfl⟩
  obtain ⟨r2, hr2⟩ : ∃ r2 : Nat, r2 = h0.no + 1 + 1 := ⟨_, rfl⟩
  have gs := a0.g1
  apply A_go Tryz.func10 rfl (by rfl); (case hn => (simp [Tryz.ntmps10]; rfl))
  repeat(first|with_reducible first|refine vmR ?_|refine vmV rfl ?_|refine vmW rfl ?_|refine vmL ?_|refine blockW_y (by decide) ?_|((with_reducible first|apply vmO|apply vmT|apply vmC);case a=>simp [vc, vi];with_reducible first|exact .v|exact .c|exact .t|exact .f))
  rw [← hhs]
  repeat(first|with_reducible first|refine vmR ?_|refine vmV rfl ?_|refine vmW rfl ?_|refine vmL ?_|refine blockW_y (by decide) ?_|((with_reducible first|apply vmO|apply vmT|apply vmC);case a=>simp [vc, vi, gs];with_reducible first|exact .v|exact .c|exact .t|exact .f))
  refine A.mono (removeW tempN p m D w hs d0) ?_
  rintro _ h1 ⟨rfl, d1, x1⟩
  have w1 := wf_remove w tempN
  have a1 := a0.go x1 n1 n2 n3 n4 n5 n6
  obtain ⟨e, he⟩ : ∃ e, e = (D.remove tempN).1 := ⟨_, rfl⟩
  unfold freshD
  rw [← he]
  refine ⟨_, by simp; first | done | rfl, ?_⟩
  by_cases q7 : e = 7
  · rw [if_pos q7]
    repeat(first|with_reducible first|refine vmR ?_|refine vmV rfl ?_|refine vmW rfl ?_|refine vmL ?_|refine blockW_y (by decide) ?_|((with_reducible first|apply vmO|apply vmT|apply vmC);case a=>simp [q7];with_reducible first|exact .v|exact .c|exact .t|exact .f))
    (first | apply endW_r | apply endW_n); (case h1 => (simp [Tryz.results10]; first | done | rfl))
    exact ⟨rfl, d1, (e0.x _ _).trans x1⟩
  rw [if_neg q7]
  have hph : ∀ z, h1.pol z = false := a1.pol
  repeat(first|with_reducible first|refine vmR ?_|refine vmV rfl ?_|refine vmW rfl ?_|refine vmL ?_|refine blockW_y (by decide) ?_|((with_reducible first|apply vmO|apply vmT|apply vmC);case a=>simp [q7, newSeq, newSl, hph];with_reducible first|exact .v|exact .c|exact .t|exact .f))
  have ha : HE h1 { h1 with len := Mp.set h1.len h1.ng 4, ng := h1.ng + 1 } := (HE.refl h1).newSl 4
  refine A.mono (wall_ans p m (Fr4 h0.no (h0.no + 1) (h0.no + 1 + 1) p k b) [⟨22, [.ptr h0.no 0], fun D => D.create tempN⟩, ⟨24, [.ptr h0.no 0, .ptr (h0.no + 1 + 1) 0], fun D => D.append tempN b⟩, ⟨26, [.ptr h0.no 0], fun D => D.sync tempN⟩, ⟨28, [.ptr h0.no 0, .ptr (h0.no + 1) 0], fun D => D.rename tempN k⟩] ?_ (by simp) _ w1 _ (d1.he ha) (a1.go (ha.x _ _) n1 n2 n3 n4 n5 n6) _ _) ?_
  · intro c hc
    simp only [List.mem_cons, List.not_mem_nil, or_false] at hc
    rcases hc with rfl | rfl | rfl | rfl
    · exact fr1_ok n1 n2 n3 n4 n5 n6
    · exact fr2_ok n1 n2 n3 n4 n5 n6 hbl
    · exact fr3_ok n1 n2 n3 n4 n5 n6
    · exact fr4_ok n1 n2 n3 n4 n5 n6 hk
  rintro _ h2 ⟨rfl, d2, x2, a2⟩
  simp only [List.map_cons, List.map_nil] at d2 ⊢
  obtain ⟨R, hR⟩ : ∃ R, R = runAll [fun D => D.create tempN, fun D => D.append tempN b, fun D => D.sync tempN, fun D => D.rename tempN k] (D.remove tempN).2 := ⟨_, rfl⟩
  have w2 : R.2.wf := by
    rw [hR]
    exact runAll_wf (p := p) (m := m) (Iv := Fr4 h0.no (h0.no + 1) (h0.no + 1 + 1) p k b) [⟨22, [.ptr h0.no 0], fun D => D.create tempN⟩, ⟨24, [.ptr h0.no 0, .ptr (h0.no + 1 + 1) 0], fun D => D.append tempN b⟩, ⟨26, [.ptr h0.no 0], fun D => D.sync tempN⟩, ⟨28, [.ptr h0.no 0, .ptr (h0.no + 1) 0], fun D => D.rename tempN k⟩] (by
      intro c hc
      simp only [List.mem_cons, List.not_mem_nil, or_false] at hc
      rcases hc with rfl | rfl | rfl | rfl
      · exact fr1_ok n1 n2 n3 n4 n5 n6
      · exact fr2_ok n1 n2 n3 n4 n5 n6 hbl
      · exact fr3_ok n1 n2 n3 n4 n5 n6
      · exact fr4_ok n1 n2 n3 n4 n5 n6 hk) _ w1
  rw [← hR] at d2 ⊢
  have g2 := a2.g1
  have x02 : DX p m h0 h2 := ((e0.x _ _).trans x1).trans ((ha.x _ _).trans x2)
  obtain ⟨z, D2⟩ := R
  simp only at d2 w2 ⊢
  refine ⟨_, by simp; first | done | rfl, ?_⟩
  by_cases z0 : z = 0
  · rw [if_neg (by simp [z0])]
    repeat(first|with_reducible first|refine vmR ?_|refine vmV rfl ?_|refine vmW rfl ?_|refine vmL ?_|refine blockW_y (by decide) ?_|((with_reducible first|apply vmO|apply vmT|apply vmC);case a=>simp [z0];with_reducible first|exact .v|exact .c|exact .t|exact .f))
    (first | apply endW_r | apply endW_n); (case h1 => (simp [Tryz.results10]; first | done | rfl))
    exact ⟨by rw [z0], d2, x02⟩
  by_cases z7 : z = 7
  · rw [if_neg (by simp [z7])]
    repeat(first|with_reducible first|refine vmR ?_|refine vmV rfl ?_|refine vmW rfl ?_|refine vmL ?_|refine blockW_y (by decide) ?_|((with_reducible first|apply vmO|apply vmT|apply vmC);case a=>simp [z0, z7];with_reducible first|exact .v|exact .c|exact .t|exact .f))
    (first | apply endW_r | apply endW_n); (case h1 => (simp [Tryz.results10]; first | done | rfl))
    exact ⟨by rw [z7], d2, x02⟩
  rw [if_pos ⟨z0, z7⟩]
  repeat(first|with_reducible first|refine vmR ?_|refine vmV rfl ?_|refine vmW rfl ?_|refine vmL ?_|refine blockW_y (by decide) ?_|((with_reducible first|apply vmO|apply vmT|apply vmC);case a=>simp [z0, z7, g2];with_reducible first|exact .v|exact .c|exact .t|exact .f))
  refine A.mono (removeW tempN p m D2 w2 h2 d2) ?_
  rintro _ h3 ⟨rfl, d3, x3⟩
  refine ⟨_, by simp; first | done | rfl, ?_⟩
  repeat(first|with_reducible first|refine vmR ?_|refine vmV rfl ?_|refine vmW rfl ?_|refine vmL ?_|refine blockW_y (by decide) ?_|((with_reducible first|apply vmO|apply vmT|apply vmC);case a=>simp;with_reducible first|exact .v|exact .c|exact .t|exact .f))
  (first | apply endW_r | apply endW_n); (case h1 => (simp [Tryz.results10]; first | done | rfl))
  exact ⟨rfl, d3, x02.trans x3⟩
end Go.Vn

set_option maxRecDepth 20000
namespace Go.Vn
open Go.Proofs

structure LGs (h : Hp Fm) (q p : Nat) (k : Tx) (last : Int) (dead : Bool) : Prop where
  row : Mp.get h.obj q = some (.row [.ptr p 0, .str k, .int .i64 last, .bool dead])
  qn : q < h.no
theorem LGs.go {h h' : Hp Fm} {q p m : Nat} {k : Tx} {last : Int} {dead : Bool} (a : LGs h q p k last dead) (x : DX p m h h') (n1 : q ≠ p) (n2 : q ≠ m) : LGs h' q p k last dead :=
  ⟨(x.obj _ a.qn (fun z => z.elim n1 n2)).trans a.row, Nat.lt_of_lt_of_le a.qn x.no⟩
theorem LGs.he {h h' : Hp Fm} {q p : Nat} {k : Tx} {last : Int} {dead : Bool} (a : LGs h q p k last dead) (x : HE h h') : LGs h' q p k last dead :=
  ⟨(x.obj _ a.qn).trans a.row, Nat.lt_of_lt_of_le a.qn x.no⟩

theorem wcreate_ans (k : Tx) (hk : k.length ≤ 1000000) (p m : Nat) (D : Dk) (w : D.wf) (h0 : Hp Fm) (d : DKs h0 p m D) (hp : ∀ z, h0.pol z = false) :
    A Tryz.prog TT (.func 5) [.ptr p 0, .str k] h0 (fun r h' => DKs h' p m (freshD k [] D).2 ∧ DX p m h0 h' ∧
      (((freshD k [] D).1 = 0 ∧ ∃ q, r = .tup [.ptr q 0, .int .i64 0] ∧ LGs h' q p k 0 false ∧ h0.no ≤ q) ∨ ((freshD k [] D).1 ≠ 0 ∧ r = .tup [.nilp, .int .i64 (freshD k [] D).1]))) := by
  apply A_go Tryz.func5 rfl (by rfl); (case hn => (simp [Tryz.ntmps5]; rfl))
  repeat(first|with_reducible first|refine vmR ?_|refine vmV rfl ?_|refine vmW rfl ?_|refine vmL ?_|refine blockW_y (by decide) ?_|((with_reducible first|apply vmO|apply vmT|apply vmC);case a=>simp [eqlAV];with_reducible first|exact .v|exact .c|exact .t|exact .f))
  refine A.mono (fresh_ans k [] .nils hk (by simp) (.inl ⟨rfl, rfl⟩) p m D w h0 d hp) ?_
  rintro _ h1 ⟨rfl, d1, x1⟩
  obtain ⟨z, hz⟩ : ∃ z, z = (freshD k [] D).1 := ⟨_, rfl⟩
  rw [← hz]
  refine ⟨_, by simp; first | done | rfl, ?_⟩
  by_cases z0 : z = 0
  · repeat(first|with_reducible first|refine vmR ?_|refine vmV rfl ?_|refine vmW rfl ?_|refine vmL ?_|refine blockW_y (by decide) ?_|((with_reducible first|apply vmO|apply vmT|apply vmC);case a=>simp [z0];with_reducible first|exact .v|exact .c|exact .t|exact .f))
    (first | apply endW_r | apply endW_n); (case h1 => (simp [Tryz.results5]; first | done | rfl))
    have e1 := (HE.refl h1).new (.row [.ptr p 0, .str k, .int .i64 0, .bool false])
    exact ⟨d1.he e1, x1.trans (e1.x _ _), .inl ⟨z0, h1.no, by simp, ⟨by simp, by show h1.no < h1.no + 1; omega⟩, x1.no⟩⟩
  · repeat(first|with_reducible first|refine vmR ?_|refine vmV rfl ?_|refine vmW rfl ?_|refine vmL ?_|refine blockW_y (by decide) ?_|((with_reducible first|apply vmO|apply vmT|apply vmC);case a=>simp [z0];with_reducible first|exact .v|exact .c|exact .t|exact .f))
    (first | apply endW_r | apply endW_n); (case h1 => (simp [Tryz.results5]; first | done | rfl))
    exact ⟨d1, x1, .inr ⟨z0, by simp⟩⟩
end Go.Vn

set_option maxRecDepth 20000
namespace Go.Vn
open Go.Proofs

structure FrA (rl rg q p m : Nat) (k : Tx) (last : Int) (dead : Bool) (ep : Int) (rv : AV) (h : Hp Fm) : Prop where
  g1 : Mp.get h.obj rl = some (.row [.ptr q 0])
  g2 : Mp.get h.obj rg = some (.row [.int .i64 ep, rv])
  lg : LGs h q p k last dead
  pol : ∀ z, h.pol z = false
  l1 : rl < h.no
  l2 : rg < h.no
theorem FrA.go {rl rg q p m : Nat} {k : Tx} {last : Int} {dead : Bool} {ep : Int} {rv : AV} {h h' : Hp Fm} (a : FrA rl rg q p m k last dead ep rv h) (x : DX p m h h') (n1 : rl ≠ p) (n2 : rl ≠ m) (n3 : rg ≠ p) (n4 : rg ≠ m) (n5 : q ≠ p) (n6 : q ≠ m) : FrA rl rg q p m k last dead ep rv h' :=
  ⟨(x.obj _ a.l1 (fun z => z.elim n1 n2)).trans a.g1, (x.obj _ a.l2 (fun z => z.elim n3 n4)).trans a.g2,
   a.lg.go x n5 n6, fun z => by rw [x.pol]; exact a.pol z,
   Nat.lt_of_lt_of_le a.l1 x.no, Nat.lt_of_lt_of_le a.l2 x.no⟩
theorem FrA.he {rl rg q p m : Nat} {k : Tx} {last : Int} {dead : Bool} {ep : Int} {rv : AV} {h h' : Hp Fm} (a : FrA rl rg q p m k last dead ep rv h) (x : HE h h') : FrA rl rg q p m k last dead ep rv h' :=
  ⟨(x.obj _ a.l1).trans a.g1, (x.obj _ a.l2).trans a.g2, a.lg.he x, fun z => by rw [x.pol]; exact a.pol z,
   Nat.lt_of_lt_of_le a.l1 x.no, Nat.lt_of_lt_of_le a.l2 x.no⟩

section
variable {rl rg q p m : Nat} {k : Tx} {last : Int} {dead : Bool} {ep : Int} {rv : AV} (n1 : rl ≠ p) (n2 : rl ≠ m) (n3 : rg ≠ p) (n4 : rg ≠ m) (n5 : q ≠ p) (n6 : q ≠ m)
include n1 n2 n3 n4 n5 n6
set_option maxHeartbeats 1000000 in
theorem ap1_ok (bs : Tx) (hbl : bs.length ≤ 16000000) (vc : rv.cells = [rv]) (vi : rv.isCell = true)
    (hw : ∀ h, (∀ z, h.pol z = false) → A Tryz.prog TT (.func 35) [.agg [.int .i64 ep, rv]] h (fun r h' => SV 1 (bs.map byteAV) r ∧ HE h h')) :
    (Cl.mk 33 [.ptr rl 0, .ptr rg 0] fun D => D.append k (frame bs)).Ok p m (FrA rl rg q p m k last dead ep rv) := by
  refine ⟨hb33, fun D w => wf_append w _ _, fun D w h d a => ?_⟩
  have g1 := a.g1
  have g2 := a.g2
  have g3 := a.lg.row
  apply A_go Tryz.func33 rfl (by rfl); (case hn => (simp [Tryz.ntmps33]; rfl))
  repeat(first|with_reducible first|refine vmR ?_|refine vmV rfl ?_|refine vmW rfl ?_|refine vmL ?_|refine blockW_y (by decide) ?_|((with_reducible first|apply vmO|apply vmT|apply vmC);case a=>simp;with_reducible first|exact .v|exact .c|exact .t|exact .f))
  (with_reducible refine W_draw_id (pln := true) [0, 1, 2, 3, 4, 5, 6, 7, 8, 9, 10, 11, 12, 13] [(0, (0, [10, 11, 12])), (3, (3, [10, 11, 12])), (4, (4, [10, 11, 12])), (7, (7, [10, 11, 12])), (8, (8, []))] (by kernel_rfl) rfl ?_)
  repeat(first|with_reducible first|refine vmR ?_|refine vmV rfl ?_|refine vmW rfl ?_|refine vmL ?_|refine blockW_y (by decide) ?_|((with_reducible first|apply vmO|apply vmT|apply vmC);case a=>simp [g1, g2, g3, vc, vi];with_reducible first|exact .v|exact .c|exact .t|exact .f))
  refine A.mono (hw h.drew a.pol) ?_
  rintro u h1 ⟨su, e1⟩
  have e1' : HE h h1 := (HE.refl h).drew.trans e1
  have a1 := a.he e1'
  have p1 := a1.pol
  have b1 := a1.g1
  have b2 := a1.g2
  have b3 := a1.lg.row
  have uc := su.cells
  have ui := su.isCell
  refine ⟨_, by simp; first | done | rfl, ?_⟩
  repeat(first|with_reducible first|refine vmR ?_|refine vmV rfl ?_|refine vmW rfl ?_|refine vmL ?_|refine blockW_y (by decide) ?_|((with_reducible first|apply vmO|apply vmT|apply vmC);case a=>simp [uc, ui, newSeq, newSl, p1];with_reducible first|exact .v|exact .c|exact .t|exact .f))
  have e2 : HE h1 { h1 with len := Mp.set h1.len h1.ng 1, ng := h1.ng + 1 } := (HE.refl h1).newSl 1
  refine A.mono (cframe_ans bs u _ _ _ su (by omega) (by exact p1 _)) ?_
  rintro y h2 ⟨sy, e3⟩
  have e23 := (e1'.trans e2).trans e3
  have a2 := a.he e23
  have p2 := a2.pol
  have yc := sy.cells
  have yi := sy.isCell
  refine ⟨_, by simp; first | done | rfl, ?_⟩
  repeat(first|with_reducible first|refine vmR ?_|refine vmV rfl ?_|refine vmW rfl ?_|refine vmL ?_|refine blockW_y (by decide) ?_|((with_reducible first|apply vmO|apply vmT|apply vmC);case a=>simp [uc, ui, yc, yi];with_reducible first|exact .v|exact .c|exact .t|exact .f))
  refine A.mono (appendW k (frame bs) y (by simp; omega) p m D w h2 (d.he e23) (BV.sv sy) (fun q hq => absurd hq (sy.noRow q)) (p2 _)) ?_
  rintro _ h3 ⟨rfl, d3, x3⟩
  have a3 := a2.go x3 n1 n2 n3 n4 n5 n6
  have g1' := a3.g1
  have g2' := a3.g2
  have g3' := a3.lg.row
  have f1 := a2.g1
  have f2 := a2.g2
  have f3 := a2.lg.row
  refine ⟨_, by simp; first | done | rfl, ?_⟩
  repeat(first|with_reducible first|refine vmR ?_|refine vmV rfl ?_|refine vmW rfl ?_|refine vmL ?_|refine blockW_y (by decide) ?_|((with_reducible first|apply vmO|apply vmT|apply vmC);case a=>simp;with_reducible first|exact .v|exact .c|exact .t|exact .f))
  refine ⟨by simp [readSame, beqAV_self, g1, g2, g3, vc, vi, g1', g2', g3', f1, f2, f3, b1, b2, b3]; done, _, by simp; first | done | rfl, ?_⟩
  repeat(first|with_reducible first|refine vmR ?_|refine vmV rfl ?_|refine vmW rfl ?_|refine vmL ?_|refine blockW_y (by decide) ?_|((with_reducible first|apply vmO|apply vmT|apply vmC);case a=>simp;with_reducible first|exact .v|exact .c|exact .t|exact .f))
  (first | apply endW_r | apply endW_n); (case h1 => (simp [Tryz.results33]; first | done | rfl))
  exact ⟨rfl, d3, (e23.x _ _).trans x3, a3⟩

theorem ap2_ok : (Cl.mk 36 [.ptr rl 0] fun D => D.sync k).Ok p m (FrA rl rg q p m k last dead ep rv) := by
  refine ⟨hb36, fun D w => wf_sync w _, fun D w h d a => ?_⟩
  have g1 := a.g1
  have g3 := a.lg.row
  apply A_go Tryz.func36 rfl (by rfl); (case hn => (simp [Tryz.ntmps36]; rfl))
  repeat(first|with_reducible first|refine vmR ?_|refine vmV rfl ?_|refine vmW rfl ?_|refine vmL ?_|refine blockW_y (by decide) ?_|((with_reducible first|apply vmO|apply vmT|apply vmC);case a=>simp;with_reducible first|exact .v|exact .c|exact .t|exact .f))
  (with_reducible refine W_draw_id (pln := true) [0, 1, 2, 3, 4, 5, 6, 7, 8, 9] [(0, (0, [])), (3, (3, [])), (4, (4, [])), (7, (7, []))] (by kernel_rfl) rfl ?_)
  repeat(first|with_reducible first|refine vmR ?_|refine vmV rfl ?_|refine vmW rfl ?_|refine vmL ?_|refine blockW_y (by decide) ?_|((with_reducible first|apply vmO|apply vmT|apply vmC);case a=>simp [g1, g3];with_reducible first|exact .v|exact .c|exact .t|exact .f))
  refine A.mono (syncW k p m D w h.drew (d.he (HE.refl h).drew)) ?_
  rintro _ h3 ⟨rfl, d3, x3⟩
  have x3' : DX p m h h3 := ((HE.refl h).drew.x _ _).trans x3
  have a3 := a.go x3' n1 n2 n3 n4 n5 n6
  have g1' := a3.g1
  have g3' := a3.lg.row
  refine ⟨_, by simp; first | done | rfl, ?_⟩
  repeat(first|with_reducible first|refine vmR ?_|refine vmV rfl ?_|refine vmW rfl ?_|refine vmL ?_|refine blockW_y (by decide) ?_|((with_reducible first|apply vmO|apply vmT|apply vmC);case a=>simp;with_reducible first|exact .v|exact .c|exact .t|exact .f))
  refine ⟨by simp [readSame, beqAV_self, g1, g3, g1', g3']; done, _, by simp; first | done | rfl, ?_⟩
  repeat(first|with_reducible first|refine vmR ?_|refine vmV rfl ?_|refine vmW rfl ?_|refine vmL ?_|refine blockW_y (by decide) ?_|((with_reducible first|apply vmO|apply vmT|apply vmC);case a=>simp;with_reducible first|exact .v|exact .c|exact .t|exact .f))
  (first | apply endW_r | apply endW_n); (case h1 => (simp [Tryz.results36]; first | done | rfl))
  exact ⟨rfl, d3, x3', a3⟩
end
end Go.Vn
