/- What functions of the program come to, in the value machine (a part of the proof of the claim's statement). No condition. -/
import Derived.Test.YtnbflhcbhicgmaaGreatVnK1
set_option linter.unusedSimpArgs false
set_option linter.unusedVariables false
set_option maxRecDepth 20000
namespace Go.Vn
open Go.Proofs

theorem walCases {n : Nat} {R O : List (Int × List Ver)} {last : Int} {D : Dk} (h : WI n R O last false false D) {ep : Int} {vs : List Ver} (hv : vs.length ≤ 4) :
    ∃ e0 l2 b2 D2, walApp (GMay ep vs) ep last false logN (encG ep vs) D = (e0, l2, b2, D2) ∧
      (((GMay ep vs = false ∨ ep ≤ last) ∧ e0 = 1 ∧ WI (n + 1) R O l2 b2 false D2) ∨ (GMay ep vs = true ∧ last < ep ∧ ((e0 = 6 ∧ WI (n + 1) R O l2 b2 false D2) ∨ (e0 = 7 ∧ WI (n + 1) R (R ++ [(ep, vs)]) l2 b2 true D2) ∨ (e0 = 0 ∧ WI (n + 1) (R ++ [(ep, vs)]) O l2 b2 false D2)))) := by
  obtain ⟨W, hW⟩ : ∃ W, W = walApp (GMay ep vs) ep last false logN (encG ep vs) D := ⟨_, rfl⟩
  refine ⟨W.1, W.2.1, W.2.2.1, W.2.2.2, hW.symm, ?_⟩
  by_cases q : GMay ep vs = false ∨ ep ≤ last
  · rw [walApp_no _ ep last logN _ D q] at hW
    rw [hW]
    exact .inl ⟨q, rfl, h.dead⟩
  · have hm : GMay ep vs = true := by
      cases hg : GMay ep vs with
      | false => exact (q (.inl hg)).elim
      | true => rfl
    have hep : last < ep := by
      by_cases z : ep ≤ last
      · exact (q (.inr z)).elim
      · omega
    rw [hm] at hW ⊢
    rw [hW]
    exact .inr ⟨rfl, hep, h.app hm hv hep O⟩

set_option maxHeartbeats 8000000 in
theorem woapp_ans (g : Gr) (gok : GrOk g) (wp p m q n : Nat) (R O : List (Int × List Ver)) (last : Int) (ld dead : Bool) (D : Dk) (h0 : Hp Fm) (k : Wo h0 wp p m q n R O last ld dead D) (hn : n ≤ 24) (hp : ∀ z, h0.pol z = false) :
    A Tryz.prog TT (.func 6) [.ptr wp 0, encGr g] h0 (fun r h' => r = .bool true ∧ (∃ R' O' last' ld' dead' D', Wo h' wp p m q (n + 1) R' O' last' ld' dead' D') ∧ HX (fun o => o = p ∨ o = m ∨ o = q ∨ o = wp) (fun _ => False) h0 h') := by
  obtain ⟨gv, ov, ws, rw0, gsv, gf, hov, oc, oi⟩ := k.row
  have gc := gsv.cells
  have gi := gsv.isCell
  have gn := gsv.nm
  have gl := gsv.len Tryz.underlying27
  rw [gf.len] at gl
  have wn := k.wn
  have ne := k.ne
  have pn := k.dk.pn
  have mn := k.dk.mn
  have qn := k.lg.qn
  have rc := gok.sv.cells
  have ri := gok.sv.isCell
  obtain ⟨x3, hx3⟩ : ∃ x3, x3 = h0.no := ⟨_, rfl⟩
  obtain ⟨hs, hhs⟩ : ∃ hs : Hp Fm, hs = { h0 with obj := Mp.set h0.obj x3 (.row [.int .i64 g.ep, g.rv]), no := x3 + 1 } := ⟨_, rfl⟩
  have es : HE h0 hs := by rw [hhs, hx3]; exact (HE.refl h0).new _
  have s3 : Mp.get hs.obj x3 = some (.row [.int .i64 g.ep, g.rv]) := by rw [hhs]; simp
  have sn : x3 < hs.no := by rw [hhs]; simp
  apply A_go Tryz.func6 rfl (by rfl); (case hn => (simp [Tryz.ntmps6]; rfl))
  repeat(first|with_reducible first|refine vmR ?_|refine vmV rfl ?_|refine vmW rfl ?_|refine vmL ?_|refine blockW_y (by decide) ?_|((with_reducible first|apply vmO|apply vmT|apply vmC);case a=>simp [rc, ri];with_reducible first|exact .v|exact .c|exact .t|exact .f))
  rw [← hx3, ← hhs]
  repeat(first|with_reducible first|refine vmR ?_|refine vmV rfl ?_|refine vmW rfl ?_|refine vmL ?_|refine blockW_y (by decide) ?_|((with_reducible first|apply vmO|apply vmT|apply vmC);case a=>simp [s3, rc, ri];with_reducible first|exact .v|exact .c|exact .t|exact .f))
  refine A.mono (cut15_ans g.ep g.vs g.rv hs gok.sv gok.len (fun v hv => gok.big v hv) (fun z => by rw [es.pol]; exact hp z)) ?_
  rintro _ h1 ⟨u, rfl, hu, e1⟩
  obtain ⟨vs, hvs⟩ : ∃ vs, vs = cutG g.ep g.vs := ⟨_, rfl⟩
  have hvl : vs.length ≤ 4 := by rw [hvs]; exact cut_len
  have hsm : ∀ v ∈ vs, VSmall v := by rw [hvs]; exact cut_small
  rw [← hvs] at hu
  have uc := hu.cells
  have ui := hu.isCell
  have s31 := (e1.obj _ sn).trans s3
  refine ⟨_, by simp; first | done | rfl, ?_⟩
  repeat(first|with_reducible first|refine vmR ?_|refine vmV rfl ?_|refine vmW rfl ?_|refine vmL ?_|refine blockW_y (by decide) ?_|((with_reducible first|apply vmO|apply vmT|apply vmC);case a=>simp [s31, uc, ui];with_reducible first|exact .v|exact .c|exact .t|exact .f))
  obtain ⟨h2, hh2⟩ : ∃ h2 : Hp Fm, h2 = { h1 with obj := Mp.set h1.obj x3 (.row [.int .i64 g.ep, u]) } := ⟨_, rfl⟩
  rw [← hh2]
  have e02 : HE h0 h2 := by rw [hh2]; exact (es.trans e1).set (by omega) _
  have x02 : HX (fun o => o = p ∨ o = m ∨ o = q ∨ o = wp) (fun _ => False) h0 h2 := e02.x _ _
  have r2 := (e02.obj _ wn).trans rw0
  have s32 : Mp.get h2.obj x3 = some (.row [.int .i64 g.ep, u]) := by rw [hh2]; simp
  have d2 := k.dk.he e02
  have lg2 := k.lg.he e02
  have hp2 : ∀ z, h2.pol z = false := fun z => by rw [e02.pol]; exact hp z
  have wn2 : wp < h2.no := Nat.lt_of_lt_of_le wn e02.no
  have sn2 : x3 < h2.no := by rw [hh2]; exact Nat.lt_of_lt_of_le sn e1.no
  by_cases qR : 0 < R.length
  · have qR' : (0 : Int) < R.length := by omega
    have hng := k.wi.num
    obtain ⟨ub, eb, sb⟩ := gf.at (R.length - 1) (by omega) (by rw [gf.len]; omega)
    have ixl := gsv.idx (k := .i64) (i := ((R.length - 1 : Nat) : Int)) Tryz.underlying27 z35 (by omega) (by rw [gf.len]; simp; omega)
    have hll : last = (R[R.length - 1]'(by omega)).1 := by rw [k.wi.la, lastE_get R 0 qR]
    simp only [Int.toNat_natCast] at ixl
    rw [eb, ← hll] at ixl
    have wl : IntKind.i64.wrap ((R.length : Int) - 1) = ((R.length - 1 : Nat) : Int) := by rw [wrap64 (by omega) (by omega)]; omega
    repeat(first|with_reducible first|refine vmR ?_|refine vmV rfl ?_|refine vmW rfl ?_|refine vmL ?_|refine blockW_y (by decide) ?_|((with_reducible first|apply vmO|apply vmT|apply vmC);case a=>simp [r2, gc, gi, gn, gl, qR, qR'];with_reducible first|exact .v|exact .c|exact .t|exact .f))
    (with_reducible refine W_draw_id (pln := true) [0, 1, 2, 3, 4, 5, 6, 7, 8, 9, 10, 11, 12, 13] [(3, (3, [])), (7, (7, [])), (12, (12, []))] (by kernel_rfl) rfl ?_)
    repeat(first|with_reducible first|refine vmR ?_|refine vmV rfl ?_|refine vmW rfl ?_|refine vmL ?_|refine blockW_y (by decide) ?_|((with_reducible first|apply vmO|apply vmT|apply vmC);case a=>simp [r2, gc, gi, gn, gl, wl, ixl];with_reducible first|exact .v|exact .c|exact .t|exact .f))
    refine ⟨by simp [readSame, beqAV_self, r2]; done, _, by simp; first | done | rfl, ?_⟩
    repeat(first|with_reducible first|refine vmR ?_|refine vmV rfl ?_|refine vmW rfl ?_|refine vmL ?_|refine blockW_y (by decide) ?_|((with_reducible first|apply vmO|apply vmT|apply vmC);case a=>simp [s32, uc, ui];with_reducible first|exact .v|exact .c|exact .t|exact .f))
    refine A.mono (may15_ans g.ep vs u h2.drew hu (by omega) (fun v hv => by have := (hsm v hv).1; omega) (fun z => hp2 z)) ?_
    rintro _ h3 ⟨rfl, e3'⟩
    have e3 : HE h2 h3 := (HE.refl h2).drew.trans e3'
    have r3 := (e3.obj _ wn2).trans r2
    have s33 := (e3.obj _ sn2).trans s32
    have d3 := d2.he e3
    have lg3 := lg2.he e3
    have hp3 : ∀ z, h3.pol z = false := fun z => by rw [e3.pol]; exact hp2 z
    have wn3 : wp < h3.no := Nat.lt_of_lt_of_le wn2 e3.no
    have sn3 : x3 < h3.no := Nat.lt_of_lt_of_le sn2 e3.no
    have x03 : HX (fun o => o = p ∨ o = m ∨ o = q ∨ o = wp) (fun _ => False) h0 h3 := x02.trans (e3.x _ _)
    refine ⟨_, by simp; first | done | rfl, ?_⟩
    have t00 : True := trivial
    cases dead
    · have hld : ld = false := k.wi.down.2
      subst hld
      have hdn : D.down = false := k.wi.down.1
      repeat(first|with_reducible first|refine vmR ?_|refine vmV rfl ?_|refine vmW rfl ?_|refine vmL ?_|refine blockW_y (by decide) ?_|((with_reducible first|apply vmO|apply vmT|apply vmC);case a=>simp [r3];with_reducible first|exact .v|exact .c|exact .t|exact .f))
      refine A.mono (alive_ans p m D h3 d3) ?_
      rintro _ h3b ⟨rfl, eb⟩
      rw [eb]
      clear eb h3b
      refine ⟨_, by simp; first | done | rfl, ?_⟩
      repeat(first|with_reducible first|refine vmR ?_|refine vmV rfl ?_|refine vmW rfl ?_|refine vmL ?_|refine blockW_y (by decide) ?_|((with_reducible first|apply vmO|apply vmT|apply vmC);case a=>simp [hdn];with_reducible first|exact .v|exact .c|exact .t|exact .f))
      obtain ⟨e0, l2, b2, D2, hW, hcase⟩ := walCases k.wi (ep := g.ep) (vs := vs) hvl
      have A1 := wapG_ans g.ep vs u last false D h3.drew hu hvl hsm (fun z => hp3 z) p m q (k.wi.wf (by omega)) (d3.he (HE.refl h3).drew) (lg3.he (HE.refl h3).drew) ne.2.2.2.1 ne.2.2.2.2
      rw [hW] at A1
      (with_reducible refine W_draw_id (pln := true) [0, 1, 2, 3, 4, 5, 6] [(3, (3, [])), (4, (4, []))] (by kernel_rfl) rfl ?_)
      repeat(first|with_reducible first|refine vmR ?_|refine vmV rfl ?_|refine vmW rfl ?_|refine vmL ?_|refine blockW_y (by decide) ?_|((with_reducible first|apply vmO|apply vmT|apply vmC);case a=>simp [r3, s33, uc, ui];with_reducible first|exact .v|exact .c|exact .t|exact .f))
      refine A.mono A1 ?_
      rintro _ h4 ⟨rfl, d4, lg4, x4⟩
      have x4' : HX (fun o => o = p ∨ o = m ∨ o = q ∨ o = wp) (fun _ => False) h3 h4 := ((HE.refl h3).drew.x _ _).trans (x4.mono (fun o _ z => by rcases z with z | z | z <;> simp [z]) (fun _ _ z => z))
      have x04 := x03.trans x4'
      have r4 := (x4.obj wp wn3 (fun z => by rcases z with z | z | z <;> omega)).trans r3
      have s34 := (x4.obj x3 sn3 (fun z => by rcases z with z | z | z <;> omega)).trans s33
      have wn4 : wp < h4.no := Nat.lt_of_lt_of_le wn3 x4.no
      have hp4 : ∀ z, h4.pol z = false := fun z => by rw [x4.pol]; exact hp3 z
      simp only at d4 lg4
      refine ⟨_, by simp; first | done | rfl, ?_⟩
      repeat(first|with_reducible first|refine vmR ?_|refine vmV rfl ?_|refine vmW rfl ?_|refine vmL ?_|refine blockW_y (by decide) ?_|((with_reducible first|apply vmO|apply vmT|apply vmC);case a=>simp;with_reducible first|exact .v|exact .c|exact .t|exact .f))
      refine ⟨by simp [readSame, beqAV_self, r3, r4, s33, s34]; done, _, by simp; first | done | rfl, ?_⟩
      cases hg : GMay g.ep vs with
      | false =>
        rcases hcase with ⟨_, rfl, wi⟩ | ⟨c, _⟩
        · skip
          repeat(first|with_reducible first|refine vmR ?_|refine vmV rfl ?_|refine vmW rfl ?_|refine vmL ?_|refine blockW_y (by decide) ?_|((with_reducible first|apply vmO|apply vmT|apply vmC);case a=>simp [t00, r4, s34, hg];with_reducible first|exact .v|exact .c|exact .t|exact .f))
          (first | apply endW_r | apply endW_n); (case h1 => (simp [Tryz.results6]; first | done | rfl))
          refine ⟨by simp, ⟨_, _, _, _, _, _, ⟨⟨gv, ov, ws, r4, gsv, gf, hov, oc, oi⟩, d4, lg4, wn4, ne, wi⟩⟩, x04⟩
        · rw [hg] at c; cases c
      | true =>
        by_cases ql : g.ep ≤ last
        · rcases hcase with ⟨_, rfl, wi⟩ | ⟨_, c, _⟩
          · skip
            repeat(first|with_reducible first|refine vmR ?_|refine vmV rfl ?_|refine vmW rfl ?_|refine vmL ?_|refine blockW_y (by decide) ?_|((with_reducible first|apply vmO|apply vmT|apply vmC);case a=>simp [t00, r4, s34, hg, ql];with_reducible first|exact .v|exact .c|exact .t|exact .f))
            (first | apply endW_r | apply endW_n); (case h1 => (simp [Tryz.results6]; first | done | rfl))
            refine ⟨by simp, ⟨_, _, _, _, _, _, ⟨⟨gv, ov, ws, r4, gsv, gf, hov, oc, oi⟩, d4, lg4, wn4, ne, wi⟩⟩, x04⟩
          · omega
        rcases hcase with ⟨c, _⟩ | ⟨_, hep, hcase⟩
        · rcases c with c | c
          · rw [hg] at c; cases c
          · exact (ql c).elim
        have hng := k.wi.num
        have wsl : ws.length = R.length := gf.len
        repeat(first|with_reducible first|refine vmR ?_|refine vmV rfl ?_|refine vmW rfl ?_|refine vmL ?_|refine blockW_y (by decide) ?_|((with_reducible first|apply vmO|apply vmT|apply vmC);case a=>simp [r4, s34, hg, ql, gc, gi, uc, ui];with_reducible first|exact .v|exact .c|exact .t|exact .f))
        with_reducible apply WO_app_i; (case hw => (simp [r4, s34, gc, gi]; done)); (case ho => rfl); (case hb => rfl); (case ha => (simp [r4, s34, gc, gi]; first | done | exact ⟨rfl, rfl⟩ | rfl)); (case h1 => (simp; first | done | rfl)); (case h2 => (simp; first | done | rfl))
        refine app_then (AC.appN (h0 := h4) etG (.inl ⟨rfl, rfl⟩) (HE.refl h4) (hp4 _) (SV.newEls gsv) (by simp; omega)) ?_
        rintro x5 h5 ⟨ac5, he5, ho5, hn5, _⟩
        have c5 := ac5.sv.cells
        have i5 := ac5.sv.isCell
        have r5 : Mp.get h5.obj wp = _ := (he5.obj _ wn4).trans r4
        have s35 := (he5.obj _ (Nat.lt_of_lt_of_le sn3 x4.no)).trans s34
        have p5 : h5.pol 35 = false := by rw [he5.pol]; exact hp4 _
        refine ⟨_, by simp; first | done | rfl, ?_⟩
        repeat(first|with_reducible first|refine vmR ?_|refine vmV rfl ?_|refine vmW rfl ?_|refine vmL ?_|refine blockW_y (by decide) ?_|((with_reducible first|apply vmO|apply vmT|apply vmC);case a=>simp [r5, s35, c5, i5, uc, ui, newSeq, newSl, p5];with_reducible first|exact .v|exact .c|exact .t|exact .f))
        with_reducible apply WO_app_i; (case hw => (simp [r5, s35, c5, i5, uc, ui, newSeq, newSl, p5]; done)); (case ho => rfl); (case hb => rfl); (case ha => (simp [r5, s35, c5, i5, uc, ui, newSeq, newSl, p5]; first | done | exact ⟨rfl, rfl⟩ | rfl)); (case h1 => (simp; first | done | rfl)); (case h2 => (simp; first | done | rfl))
        refine app_then (AC.app (h0 := h4) etG (ac5.of ((HE.refl _).newSl 1)) (he5.newSl 1) (hp4 _) (by simp; omega)) ?_
        rintro x6 h6 ⟨ac6, he6, _, _, _⟩
        have c6 := ac6.sv.cells
        have i6 := ac6.sv.isCell
        have r6 : Mp.get h6.obj wp = _ := (he6.obj _ wn4).trans r4
        have gf6 : GF (R ++ [(g.ep, vs)]) (ws ++ [.agg [.int .i64 g.ep, u]]) := gf.app hu
        have d6 := d4.he he6
        have lg6 := lg4.he he6
        have wn6 : wp < h6.no := Nat.lt_of_lt_of_le wn4 he6.no
        have x06 := x04.trans (he6.x _ _)
        refine ⟨_, by simp; first | done | rfl, ?_⟩
        rcases hcase with ⟨rfl, wi⟩ | ⟨rfl, wi⟩ | ⟨rfl, wi⟩
        · repeat(first|with_reducible first|refine vmR ?_|refine vmV rfl ?_|refine vmW rfl ?_|refine vmL ?_|refine blockW_y (by decide) ?_|((with_reducible first|apply vmO|apply vmT|apply vmC);case a=>simp [r6, c6, i6];with_reducible first|exact .v|exact .c|exact .t|exact .f))
          (first | apply endW_r | apply endW_n); (case h1 => (simp [Tryz.results6]; first | done | rfl))
          exact ⟨by simp, ⟨_, _, _, _, _, _, ⟨⟨gv, ov, ws, r6, gsv, gf, hov, oc, oi⟩, d6, lg6, wn6, ne, wi⟩⟩, x06⟩
        · repeat(first|with_reducible first|refine vmR ?_|refine vmV rfl ?_|refine vmW rfl ?_|refine vmL ?_|refine blockW_y (by decide) ?_|((with_reducible first|apply vmO|apply vmT|apply vmC);case a=>simp [r6, c6, i6];with_reducible first|exact .v|exact .c|exact .t|exact .f))
          (first | apply endW_r | apply endW_n); (case h1 => (simp [Tryz.results6]; first | done | rfl))
          refine ⟨by simp, ⟨_, _, _, _, _, _, ⟨⟨gv, x6, ws, by simp, gsv, gf, fun _ => ⟨_, ac6.sv, gf6⟩, c6, i6⟩, ?_, ?_, wn6, ne, wi⟩⟩, ?_⟩
          · obtain ⟨es, a1, a2⟩ := d6.map
            exact ⟨by simp [Ne.symm ne.1]; exact d6.row, ⟨es, by simp [Ne.symm ne.2.1]; exact a1, a2⟩, d6.pn, d6.mn, d6.born⟩
          · exact ⟨by simp [Ne.symm ne.2.2.1]; exact lg6.row, lg6.qn⟩
          · exact (x06.set (fun _ => .inr (.inr (.inr rfl))) _).set (fun _ => .inr (.inr (.inr rfl))) _
        · repeat(first|with_reducible first|refine vmR ?_|refine vmV rfl ?_|refine vmW rfl ?_|refine vmL ?_|refine blockW_y (by decide) ?_|((with_reducible first|apply vmO|apply vmT|apply vmC);case a=>simp [r6, c6, i6];with_reducible first|exact .v|exact .c|exact .t|exact .f))
          (first | apply endW_r | apply endW_n); (case h1 => (simp [Tryz.results6]; first | done | rfl))
          refine ⟨by simp, ⟨_, _, _, _, _, _, ⟨⟨x6, ov, _, by simp, ac6.sv, gf6, (fun z => by cases z), oc, oi⟩, ?_, ?_, wn6, ne, wi⟩⟩, ?_⟩
          · obtain ⟨es, a1, a2⟩ := d6.map
            exact ⟨by simp [Ne.symm ne.1]; exact d6.row, ⟨es, by simp [Ne.symm ne.2.1]; exact a1, a2⟩, d6.pn, d6.mn, d6.born⟩
          · exact ⟨by simp [Ne.symm ne.2.2.1]; exact lg6.row, lg6.qn⟩
          · exact x06.set (fun _ => .inr (.inr (.inr rfl))) _
    · have hld : ld = true := k.wi.down.2
      subst hld
      have hdn : D.down = true := k.wi.down.1
      repeat(first|with_reducible first|refine vmR ?_|refine vmV rfl ?_|refine vmW rfl ?_|refine vmL ?_|refine blockW_y (by decide) ?_|((with_reducible first|apply vmO|apply vmT|apply vmC);case a=>simp [r3];with_reducible first|exact .v|exact .c|exact .t|exact .f))
      have hW : walApp (GMay g.ep vs) g.ep last true logN (encG g.ep vs) D = (if GMay g.ep vs = false ∨ g.ep ≤ last then 1 else 7, last, true, D) := by
        unfold walApp
        by_cases z : GMay g.ep vs = false ∨ g.ep ≤ last
        · rw [if_pos z, if_pos z]
        · rw [if_neg z, if_neg z, if_pos (.inl rfl)]
      have A1 := wapG_ans g.ep vs u last true D h3.drew hu hvl hsm (fun z => hp3 z) p m q (k.wi.wf (by omega)) (d3.he (HE.refl h3).drew) (lg3.he (HE.refl h3).drew) ne.2.2.2.1 ne.2.2.2.2
      rw [hW] at A1
      (with_reducible refine W_draw_id (pln := true) [0, 1, 2, 3, 4, 5, 6] [(3, (3, [])), (4, (4, []))] (by kernel_rfl) rfl ?_)
      repeat(first|with_reducible first|refine vmR ?_|refine vmV rfl ?_|refine vmW rfl ?_|refine vmL ?_|refine blockW_y (by decide) ?_|((with_reducible first|apply vmO|apply vmT|apply vmC);case a=>simp [r3, s33, uc, ui];with_reducible first|exact .v|exact .c|exact .t|exact .f))
      refine A.mono A1 ?_
      rintro _ h4 ⟨rfl, d4, lg4, x4⟩
      have x4' : HX (fun o => o = p ∨ o = m ∨ o = q ∨ o = wp) (fun _ => False) h3 h4 := ((HE.refl h3).drew.x _ _).trans (x4.mono (fun o _ z => by rcases z with z | z | z <;> simp [z]) (fun _ _ z => z))
      have x04 := x03.trans x4'
      have r4 := (x4.obj wp wn3 (fun z => by rcases z with z | z | z <;> omega)).trans r3
      have s34 := (x4.obj x3 sn3 (fun z => by rcases z with z | z | z <;> omega)).trans s33
      have wn4 : wp < h4.no := Nat.lt_of_lt_of_le wn3 x4.no
      simp only at d4 lg4
      have wi := k.wi.dead
      refine ⟨_, by simp; first | done | rfl, ?_⟩
      repeat(first|with_reducible first|refine vmR ?_|refine vmV rfl ?_|refine vmW rfl ?_|refine vmL ?_|refine blockW_y (by decide) ?_|((with_reducible first|apply vmO|apply vmT|apply vmC);case a=>simp;with_reducible first|exact .v|exact .c|exact .t|exact .f))
      refine ⟨by simp [readSame, beqAV_self, r3, r4, s33, s34]; done, _, by simp; first | done | rfl, ?_⟩
      by_cases hg : GMay g.ep vs = false
      · rw [if_pos (.inl hg)]
        repeat(first|with_reducible first|refine vmR ?_|refine vmV rfl ?_|refine vmW rfl ?_|refine vmL ?_|refine blockW_y (by decide) ?_|((with_reducible first|apply vmO|apply vmT|apply vmC);case a=>simp [t00, r4, s34, hg];with_reducible first|exact .v|exact .c|exact .t|exact .f))
        (first | apply endW_r | apply endW_n); (case h1 => (simp [Tryz.results6]; first | done | rfl))
        refine ⟨by simp, ⟨_, _, _, _, _, _, ⟨⟨gv, ov, ws, r4, gsv, gf, hov, oc, oi⟩, d4, lg4, wn4, ne, wi⟩⟩, x04⟩
      have hg2 : GMay g.ep vs = true := by
        cases z : GMay g.ep vs
        · exact (hg z).elim
        · rfl
      by_cases ql : g.ep ≤ last
      · rw [if_pos (.inr ql)]
        clear hg
        have hg := hg2
        repeat(first|with_reducible first|refine vmR ?_|refine vmV rfl ?_|refine vmW rfl ?_|refine vmL ?_|refine blockW_y (by decide) ?_|((with_reducible first|apply vmO|apply vmT|apply vmC);case a=>simp [t00, r4, s34, hg, ql];with_reducible first|exact .v|exact .c|exact .t|exact .f))
        (first | apply endW_r | apply endW_n); (case h1 => (simp [Tryz.results6]; first | done | rfl))
        refine ⟨by simp, ⟨_, _, _, _, _, _, ⟨⟨gv, ov, ws, r4, gsv, gf, hov, oc, oi⟩, d4, lg4, wn4, ne, wi⟩⟩, x04⟩
      rw [if_neg (by rintro (z | z); exact hg z; exact ql z)]
      repeat(first|with_reducible first|refine vmR ?_|refine vmV rfl ?_|refine vmW rfl ?_|refine vmL ?_|refine blockW_y (by decide) ?_|((with_reducible first|apply vmO|apply vmT|apply vmC);case a=>simp [s34, r4, hg2, ql];with_reducible first|exact .v|exact .c|exact .t|exact .f))
      (first | apply endW_r | apply endW_n); (case h1 => (simp [Tryz.results6]; first | done | rfl))
      refine ⟨by simp, ⟨_, _, _, _, _, _, ⟨⟨gv, ov, ws, by simp, gsv, gf, hov, oc, oi⟩, ?_, ?_, wn4, ne, wi⟩⟩, ?_⟩
      · obtain ⟨es, a1, a2⟩ := d4.map
        exact ⟨by simp [Ne.symm ne.1]; exact d4.row, ⟨es, by simp [Ne.symm ne.2.1]; exact a1, a2⟩, d4.pn, d4.mn, d4.born⟩
      · exact ⟨by simp [Ne.symm ne.2.2.1]; exact lg4.row, lg4.qn⟩
      · exact x04.set (fun _ => .inr (.inr (.inr rfl))) _
  · have qR' : ¬ (0 : Int) < R.length := by omega
    have hR : R = [] := List.length_eq_zero_iff.mp (by omega)
    have hl0 : last = 0 := by rw [k.wi.la, hR]; rfl
    subst hl0
    repeat(first|with_reducible first|refine vmR ?_|refine vmV rfl ?_|refine vmW rfl ?_|refine vmL ?_|refine blockW_y (by decide) ?_|((with_reducible first|apply vmO|apply vmT|apply vmC);case a=>simp [r2, gc, gi, gn, gl, qR, qR'];with_reducible first|exact .v|exact .c|exact .t|exact .f))
    repeat(first|with_reducible first|refine vmR ?_|refine vmV rfl ?_|refine vmW rfl ?_|refine vmL ?_|refine blockW_y (by decide) ?_|((with_reducible first|apply vmO|apply vmT|apply vmC);case a=>simp [s32, uc, ui];with_reducible first|exact .v|exact .c|exact .t|exact .f))
    refine A.mono (may15_ans g.ep vs u h2 hu (by omega) (fun v hv => by have := (hsm v hv).1; omega) (fun z => hp2 z)) ?_
    rintro _ h3 ⟨rfl, e3'⟩
    have e3 : HE h2 h3 := (HE.refl h2).trans e3'
    have r3 := (e3.obj _ wn2).trans r2
    have s33 := (e3.obj _ sn2).trans s32
    have d3 := d2.he e3
    have lg3 := lg2.he e3
    have hp3 : ∀ z, h3.pol z = false := fun z => by rw [e3.pol]; exact hp2 z
    have wn3 : wp < h3.no := Nat.lt_of_lt_of_le wn2 e3.no
    have sn3 : x3 < h3.no := Nat.lt_of_lt_of_le sn2 e3.no
    have x03 : HX (fun o => o = p ∨ o = m ∨ o = q ∨ o = wp) (fun _ => False) h0 h3 := x02.trans (e3.x _ _)
    refine ⟨_, by simp; first | done | rfl, ?_⟩
    have t00 : True := trivial
    cases dead
    · have hld : ld = false := k.wi.down.2
      subst hld
      have hdn : D.down = false := k.wi.down.1
      repeat(first|with_reducible first|refine vmR ?_|refine vmV rfl ?_|refine vmW rfl ?_|refine vmL ?_|refine blockW_y (by decide) ?_|((with_reducible first|apply vmO|apply vmT|apply vmC);case a=>simp [r3];with_reducible first|exact .v|exact .c|exact .t|exact .f))
      refine A.mono (alive_ans p m D h3 d3) ?_
      rintro _ h3b ⟨rfl, eb⟩
      rw [eb]
      clear eb h3b
      refine ⟨_, by simp; first | done | rfl, ?_⟩
      repeat(first|with_reducible first|refine vmR ?_|refine vmV rfl ?_|refine vmW rfl ?_|refine vmL ?_|refine blockW_y (by decide) ?_|((with_reducible first|apply vmO|apply vmT|apply vmC);case a=>simp [hdn];with_reducible first|exact .v|exact .c|exact .t|exact .f))
      obtain ⟨e0, l2, b2, D2, hW, hcase⟩ := walCases k.wi (ep := g.ep) (vs := vs) hvl
      have A1 := wapG_ans g.ep vs u (0 : Int) false D h3.drew hu hvl hsm (fun z => hp3 z) p m q (k.wi.wf (by omega)) (d3.he (HE.refl h3).drew) (lg3.he (HE.refl h3).drew) ne.2.2.2.1 ne.2.2.2.2
      rw [hW] at A1
      (with_reducible refine W_draw_id (pln := true) [0, 1, 2, 3, 4, 5, 6] [(3, (3, [])), (4, (4, []))] (by kernel_rfl) rfl ?_)
      repeat(first|with_reducible first|refine vmR ?_|refine vmV rfl ?_|refine vmW rfl ?_|refine vmL ?_|refine blockW_y (by decide) ?_|((with_reducible first|apply vmO|apply vmT|apply vmC);case a=>simp [r3, s33, uc, ui];with_reducible first|exact .v|exact .c|exact .t|exact .f))
      refine A.mono A1 ?_
      rintro _ h4 ⟨rfl, d4, lg4, x4⟩
      have x4' : HX (fun o => o = p ∨ o = m ∨ o = q ∨ o = wp) (fun _ => False) h3 h4 := ((HE.refl h3).drew.x _ _).trans (x4.mono (fun o _ z => by rcases z with z | z | z <;> simp [z]) (fun _ _ z => z))
      have x04 := x03.trans x4'
      have r4 := (x4.obj wp wn3 (fun z => by rcases z with z | z | z <;> omega)).trans r3
      have s34 := (x4.obj x3 sn3 (fun z => by rcases z with z | z | z <;> omega)).trans s33
      have wn4 : wp < h4.no := Nat.lt_of_lt_of_le wn3 x4.no
      have hp4 : ∀ z, h4.pol z = false := fun z => by rw [x4.pol]; exact hp3 z
      simp only at d4 lg4
      refine ⟨_, by simp; first | done | rfl, ?_⟩
      repeat(first|with_reducible first|refine vmR ?_|refine vmV rfl ?_|refine vmW rfl ?_|refine vmL ?_|refine blockW_y (by decide) ?_|((with_reducible first|apply vmO|apply vmT|apply vmC);case a=>simp;with_reducible first|exact .v|exact .c|exact .t|exact .f))
      refine ⟨by simp [readSame, beqAV_self, r3, r4, s33, s34]; done, _, by simp; first | done | rfl, ?_⟩
      cases hg : GMay g.ep vs with
      | false =>
        rcases hcase with ⟨_, rfl, wi⟩ | ⟨c, _⟩
        · skip
          repeat(first|with_reducible first|refine vmR ?_|refine vmV rfl ?_|refine vmW rfl ?_|refine vmL ?_|refine blockW_y (by decide) ?_|((with_reducible first|apply vmO|apply vmT|apply vmC);case a=>simp [t00, r4, s34, hg];with_reducible first|exact .v|exact .c|exact .t|exact .f))
          (first | apply endW_r | apply endW_n); (case h1 => (simp [Tryz.results6]; first | done | rfl))
          refine ⟨by simp, ⟨_, _, _, _, _, _, ⟨⟨gv, ov, ws, r4, gsv, gf, hov, oc, oi⟩, d4, lg4, wn4, ne, wi⟩⟩, x04⟩
        · rw [hg] at c; cases c
      | true =>
        by_cases ql : g.ep ≤ (0 : Int)
        · rcases hcase with ⟨_, rfl, wi⟩ | ⟨_, c, _⟩
          · skip
            repeat(first|with_reducible first|refine vmR ?_|refine vmV rfl ?_|refine vmW rfl ?_|refine vmL ?_|refine blockW_y (by decide) ?_|((with_reducible first|apply vmO|apply vmT|apply vmC);case a=>simp [t00, r4, s34, hg, ql];with_reducible first|exact .v|exact .c|exact .t|exact .f))
            (first | apply endW_r | apply endW_n); (case h1 => (simp [Tryz.results6]; first | done | rfl))
            refine ⟨by simp, ⟨_, _, _, _, _, _, ⟨⟨gv, ov, ws, r4, gsv, gf, hov, oc, oi⟩, d4, lg4, wn4, ne, wi⟩⟩, x04⟩
          · omega
        rcases hcase with ⟨c, _⟩ | ⟨_, hep, hcase⟩
        · rcases c with c | c
          · rw [hg] at c; cases c
          · exact (ql c).elim
        have hng := k.wi.num
        have wsl : ws.length = R.length := gf.len
        repeat(first|with_reducible first|refine vmR ?_|refine vmV rfl ?_|refine vmW rfl ?_|refine vmL ?_|refine blockW_y (by decide) ?_|((with_reducible first|apply vmO|apply vmT|apply vmC);case a=>simp [r4, s34, hg, ql, gc, gi, uc, ui];with_reducible first|exact .v|exact .c|exact .t|exact .f))
        with_reducible apply WO_app_i; (case hw => (simp [r4, s34, gc, gi]; done)); (case ho => rfl); (case hb => rfl); (case ha => (simp [r4, s34, gc, gi]; first | done | exact ⟨rfl, rfl⟩ | rfl)); (case h1 => (simp; first | done | rfl)); (case h2 => (simp; first | done | rfl))
        refine app_then (AC.appN (h0 := h4) etG (.inl ⟨rfl, rfl⟩) (HE.refl h4) (hp4 _) (SV.newEls gsv) (by simp; omega)) ?_
        rintro x5 h5 ⟨ac5, he5, ho5, hn5, _⟩
        have c5 := ac5.sv.cells
        have i5 := ac5.sv.isCell
        have r5 : Mp.get h5.obj wp = _ := (he5.obj _ wn4).trans r4
        have s35 := (he5.obj _ (Nat.lt_of_lt_of_le sn3 x4.no)).trans s34
        have p5 : h5.pol 35 = false := by rw [he5.pol]; exact hp4 _
        refine ⟨_, by simp; first | done | rfl, ?_⟩
        repeat(first|with_reducible first|refine vmR ?_|refine vmV rfl ?_|refine vmW rfl ?_|refine vmL ?_|refine blockW_y (by decide) ?_|((with_reducible first|apply vmO|apply vmT|apply vmC);case a=>simp [r5, s35, c5, i5, uc, ui, newSeq, newSl, p5];with_reducible first|exact .v|exact .c|exact .t|exact .f))
        with_reducible apply WO_app_i; (case hw => (simp [r5, s35, c5, i5, uc, ui, newSeq, newSl, p5]; done)); (case ho => rfl); (case hb => rfl); (case ha => (simp [r5, s35, c5, i5, uc, ui, newSeq, newSl, p5]; first | done | exact ⟨rfl, rfl⟩ | rfl)); (case h1 => (simp; first | done | rfl)); (case h2 => (simp; first | done | rfl))
        refine app_then (AC.app (h0 := h4) etG (ac5.of ((HE.refl _).newSl 1)) (he5.newSl 1) (hp4 _) (by simp; omega)) ?_
        rintro x6 h6 ⟨ac6, he6, _, _, _⟩
        have c6 := ac6.sv.cells
        have i6 := ac6.sv.isCell
        have r6 : Mp.get h6.obj wp = _ := (he6.obj _ wn4).trans r4
        have gf6 : GF (R ++ [(g.ep, vs)]) (ws ++ [.agg [.int .i64 g.ep, u]]) := gf.app hu
        have d6 := d4.he he6
        have lg6 := lg4.he he6
        have wn6 : wp < h6.no := Nat.lt_of_lt_of_le wn4 he6.no
        have x06 := x04.trans (he6.x _ _)
        refine ⟨_, by simp; first | done | rfl, ?_⟩
        rcases hcase with ⟨rfl, wi⟩ | ⟨rfl, wi⟩ | ⟨rfl, wi⟩
        · repeat(first|with_reducible first|refine vmR ?_|refine vmV rfl ?_|refine vmW rfl ?_|refine vmL ?_|refine blockW_y (by decide) ?_|((with_reducible first|apply vmO|apply vmT|apply vmC);case a=>simp [r6, c6, i6];with_reducible first|exact .v|exact .c|exact .t|exact .f))
          (first | apply endW_r | apply endW_n); (case h1 => (simp [Tryz.results6]; first | done | rfl))
          exact ⟨by simp, ⟨_, _, _, _, _, _, ⟨⟨gv, ov, ws, r6, gsv, gf, hov, oc, oi⟩, d6, lg6, wn6, ne, wi⟩⟩, x06⟩
        · repeat(first|with_reducible first|refine vmR ?_|refine vmV rfl ?_|refine vmW rfl ?_|refine vmL ?_|refine blockW_y (by decide) ?_|((with_reducible first|apply vmO|apply vmT|apply vmC);case a=>simp [r6, c6, i6];with_reducible first|exact .v|exact .c|exact .t|exact .f))
          (first | apply endW_r | apply endW_n); (case h1 => (simp [Tryz.results6]; first | done | rfl))
          refine ⟨by simp, ⟨_, _, _, _, _, _, ⟨⟨gv, x6, ws, by simp, gsv, gf, fun _ => ⟨_, ac6.sv, gf6⟩, c6, i6⟩, ?_, ?_, wn6, ne, wi⟩⟩, ?_⟩
          · obtain ⟨es, a1, a2⟩ := d6.map
            exact ⟨by simp [Ne.symm ne.1]; exact d6.row, ⟨es, by simp [Ne.symm ne.2.1]; exact a1, a2⟩, d6.pn, d6.mn, d6.born⟩
          · exact ⟨by simp [Ne.symm ne.2.2.1]; exact lg6.row, lg6.qn⟩
          · exact (x06.set (fun _ => .inr (.inr (.inr rfl))) _).set (fun _ => .inr (.inr (.inr rfl))) _
        · repeat(first|with_reducible first|refine vmR ?_|refine vmV rfl ?_|refine vmW rfl ?_|refine vmL ?_|refine blockW_y (by decide) ?_|((with_reducible first|apply vmO|apply vmT|apply vmC);case a=>simp [r6, c6, i6];with_reducible first|exact .v|exact .c|exact .t|exact .f))
          (first | apply endW_r | apply endW_n); (case h1 => (simp [Tryz.results6]; first | done | rfl))
          refine ⟨by simp, ⟨_, _, _, _, _, _, ⟨⟨x6, ov, _, by simp, ac6.sv, gf6, (fun z => by cases z), oc, oi⟩, ?_, ?_, wn6, ne, wi⟩⟩, ?_⟩
          · obtain ⟨es, a1, a2⟩ := d6.map
            exact ⟨by simp [Ne.symm ne.1]; exact d6.row, ⟨es, by simp [Ne.symm ne.2.1]; exact a1, a2⟩, d6.pn, d6.mn, d6.born⟩
          · exact ⟨by simp [Ne.symm ne.2.2.1]; exact lg6.row, lg6.qn⟩
          · exact x06.set (fun _ => .inr (.inr (.inr rfl))) _
    · have hld : ld = true := k.wi.down.2
      subst hld
      have hdn : D.down = true := k.wi.down.1
      repeat(first|with_reducible first|refine vmR ?_|refine vmV rfl ?_|refine vmW rfl ?_|refine vmL ?_|refine blockW_y (by decide) ?_|((with_reducible first|apply vmO|apply vmT|apply vmC);case a=>simp [r3];with_reducible first|exact .v|exact .c|exact .t|exact .f))
      have hW : walApp (GMay g.ep vs) g.ep (0 : Int) true logN (encG g.ep vs) D = (if GMay g.ep vs = false ∨ g.ep ≤ (0 : Int) then 1 else 7, (0 : Int), true, D) := by
        unfold walApp
        by_cases z : GMay g.ep vs = false ∨ g.ep ≤ (0 : Int)
        · rw [if_pos z, if_pos z]
        · rw [if_neg z, if_neg z, if_pos (.inl rfl)]
      have A1 := wapG_ans g.ep vs u (0 : Int) true D h3.drew hu hvl hsm (fun z => hp3 z) p m q (k.wi.wf (by omega)) (d3.he (HE.refl h3).drew) (lg3.he (HE.refl h3).drew) ne.2.2.2.1 ne.2.2.2.2
      rw [hW] at A1
      (with_reducible refine W_draw_id (pln := true) [0, 1, 2, 3, 4, 5, 6] [(3, (3, [])), (4, (4, []))] (by kernel_rfl) rfl ?_)
      repeat(first|with_reducible first|refine vmR ?_|refine vmV rfl ?_|refine vmW rfl ?_|refine vmL ?_|refine blockW_y (by decide) ?_|((with_reducible first|apply vmO|apply vmT|apply vmC);case a=>simp [r3, s33, uc, ui];with_reducible first|exact .v|exact .c|exact .t|exact .f))
      refine A.mono A1 ?_
      rintro _ h4 ⟨rfl, d4, lg4, x4⟩
      have x4' : HX (fun o => o = p ∨ o = m ∨ o = q ∨ o = wp) (fun _ => False) h3 h4 := ((HE.refl h3).drew.x _ _).trans (x4.mono (fun o _ z => by rcases z with z | z | z <;> simp [z]) (fun _ _ z => z))
      have x04 := x03.trans x4'
      have r4 := (x4.obj wp wn3 (fun z => by rcases z with z | z | z <;> omega)).trans r3
      have s34 := (x4.obj x3 sn3 (fun z => by rcases z with z | z | z <;> omega)).trans s33
      have wn4 : wp < h4.no := Nat.lt_of_lt_of_le wn3 x4.no
      simp only at d4 lg4
      have wi := k.wi.dead
      refine ⟨_, by simp; first | done | rfl, ?_⟩
      repeat(first|with_reducible first|refine vmR ?_|refine vmV rfl ?_|refine vmW rfl ?_|refine vmL ?_|refine blockW_y (by decide) ?_|((with_reducible first|apply vmO|apply vmT|apply vmC);case a=>simp;with_reducible first|exact .v|exact .c|exact .t|exact .f))
      refine ⟨by simp [readSame, beqAV_self, r3, r4, s33, s34]; done, _, by simp; first | done | rfl, ?_⟩
      by_cases hg : GMay g.ep vs = false
      · rw [if_pos (.inl hg)]
        repeat(first|with_reducible first|refine vmR ?_|refine vmV rfl ?_|refine vmW rfl ?_|refine vmL ?_|refine blockW_y (by decide) ?_|((with_reducible first|apply vmO|apply vmT|apply vmC);case a=>simp [t00, r4, s34, hg];with_reducible first|exact .v|exact .c|exact .t|exact .f))
        (first | apply endW_r | apply endW_n); (case h1 => (simp [Tryz.results6]; first | done | rfl))
        refine ⟨by simp, ⟨_, _, _, _, _, _, ⟨⟨gv, ov, ws, r4, gsv, gf, hov, oc, oi⟩, d4, lg4, wn4, ne, wi⟩⟩, x04⟩
      have hg2 : GMay g.ep vs = true := by
        cases z : GMay g.ep vs
        · exact (hg z).elim
        · rfl
      by_cases ql : g.ep ≤ (0 : Int)
      · rw [if_pos (.inr ql)]
        clear hg
        have hg := hg2
        repeat(first|with_reducible first|refine vmR ?_|refine vmV rfl ?_|refine vmW rfl ?_|refine vmL ?_|refine blockW_y (by decide) ?_|((with_reducible first|apply vmO|apply vmT|apply vmC);case a=>simp [t00, r4, s34, hg, ql];with_reducible first|exact .v|exact .c|exact .t|exact .f))
        (first | apply endW_r | apply endW_n); (case h1 => (simp [Tryz.results6]; first | done | rfl))
        refine ⟨by simp, ⟨_, _, _, _, _, _, ⟨⟨gv, ov, ws, r4, gsv, gf, hov, oc, oi⟩, d4, lg4, wn4, ne, wi⟩⟩, x04⟩
      rw [if_neg (by rintro (z | z); exact hg z; exact ql z)]
      repeat(first|with_reducible first|refine vmR ?_|refine vmV rfl ?_|refine vmW rfl ?_|refine vmL ?_|refine blockW_y (by decide) ?_|((with_reducible first|apply vmO|apply vmT|apply vmC);case a=>simp [s34, r4, hg2, ql];with_reducible first|exact .v|exact .c|exact .t|exact .f))
      (first | apply endW_r | apply endW_n); (case h1 => (simp [Tryz.results6]; first | done | rfl))
      refine ⟨by simp, ⟨_, _, _, _, _, _, ⟨⟨gv, ov, ws, by simp, gsv, gf, hov, oc, oi⟩, ?_, ?_, wn4, ne, wi⟩⟩, ?_⟩
      · obtain ⟨es, a1, a2⟩ := d4.map
        exact ⟨by simp [Ne.symm ne.1]; exact d4.row, ⟨es, by simp [Ne.symm ne.2.1]; exact a1, a2⟩, d4.pn, d4.mn, d4.born⟩
      · exact ⟨by simp [Ne.symm ne.2.2.1]; exact lg4.row, lg4.qn⟩
      · exact x04.set (fun _ => .inr (.inr (.inr rfl))) _
end Go.Vn
