/- What functions of the program come to, in the value machine (a part of the proof of the claim's statement). No condition. -/
import Derived.Test.YtbhgefhjpfnhfaaVnI4
import Derived.Test.YtbhgefhjpfnhfaaVnB6
set_option linter.unusedSimpArgs false
set_option linter.unusedVariables false
set_option maxRecDepth 20000
namespace Go.Vn
open Go.Proofs

theorem tells {bs : List Br} {ep : Int} {qs : List Po} {xs : List Ver} {k : Lg} (hk : placeS bs ep qs k) (t : Int) : getF (orderP (plPath bs k) (needL bs ep qs xs)) t = getF (orderP (plPath bs k) xs) t := by
  unfold needL
  rw [order_filter]
  exact find_last (fun v hv => by simp only [decide_eq_true_eq]; exact ⟨k, hk, hv⟩) t

set_option maxHeartbeats 8000000 in
theorem ktells_law (l : List Ver) (v : AV) (hv : SV 8 (l.map encV) v) (hl : l.length ≤ 2000000) (n ep : Int) (vb vp vr : AV) (lg : List UInt8) (lb : List Br) (ps : List Po) (K : ManA vb vp vr lb ps ep) (tm : Int) (h0 : Hp Fm) (hpol : ∀ e, h0.pol e = false) :
    A Try.prog TT (.func 5) [v, .agg [.int .i64 n, .int .i64 ep, vb, vp, vr, .str lg], .int .i64 tm] h0 (fun r h' => r = .bool true ∧ True) := by
  have vc := hv.cells
  have vi := hv.isCell
  have bc := K.kb.cells
  have bi := K.kb.isCell
  have pc := K.kp.cells
  have pi := K.kp.isCell
  have rc := K.rc
  have ri := K.ri
  apply A_goT Try.func5 rfl (by rfl); (case hn => (simp [Try.ntmps5]; rfl))
  repeat(first|with_reducible first|refine vmR ?_|refine vmV rfl ?_|refine vmW rfl ?_|refine vmL ?_|refine blockW_y (by decide) ?_|((with_reducible first|apply vmO|apply vmT|apply vmC);case a=>simp [vc, vi, bc, bi, pc, pi, rc, ri];with_reducible first|exact .v|exact .c|exact .t|exact .f))
  refine A_heap ?_
  intro ha hha
  have g0 : Mp.get ha.obj h0.no = some (.row [.int .i64 n, .int .i64 ep, vb, vp, vr, .str lg]) := by rw [hha]; simp
  have an : ha.no = h0.no + 1 := by rw [hha]
  have pB : ∀ e, e ≠ 42 → ha.pol e = false := fun e he => by rw [hha]; simp [he]
  have pBr : ha.pol 42 = true := by rw [hha]; rfl
  clear hha
  refine A.mono (rows_ans l v hv hl ha pB) ?_
  rintro o h1 ⟨xs, so, xl, e1⟩
  have oc := so.sv.cells
  have oi := so.sv.isCell
  have n1 := e1.no
  have g0 := (e1.obj _ (by omega)).trans g0
  refine ⟨_, by simp; first | done | rfl, ?_⟩
  repeat(first|with_reducible first|refine vmR ?_|refine vmV rfl ?_|refine vmW rfl ?_|refine vmL ?_|refine blockW_y (by decide) ?_|((with_reducible first|apply vmO|apply vmT|apply vmC);case a=>simp [oc, oi, g0, bc, bi, pc, pi, rc, ri];with_reducible first|exact .v|exact .c|exact .t|exact .f))
  refine A.mono (small_ans n ep vb vp vr lg lb ps K.kb K.kp rc ri K.br K.ep h1 (by rw [e1.pol]; exact pBr) (by rw [e1.pol]; exact pB _ (by decide))) ?_
  rintro _ h2 ⟨bs, u, qs, w, ep', rfl, sm, e2⟩
  have uc := sm.br.cells
  have ui := sm.br.isCell
  have wc := sm.ac.sv.cells
  have wi := sm.ac.sv.isCell
  have n2 := e2.no
  refine ⟨_, by simp; first | done | rfl, ?_⟩
  repeat(first|with_reducible first|refine vmR ?_|refine vmV rfl ?_|refine vmW rfl ?_|refine vmL ?_|refine blockW_y (by decide) ?_|((with_reducible first|apply vmO|apply vmT|apply vmC);case a=>simp [uc, ui, wc, wi, oc, oi];with_reducible first|exact .v|exact .c|exact .t|exact .f))
  refine A_heap ?_
  intro hb hhb
  have eb : HE h2 hb := by rw [hhb]; exact ((HE.refl h2).new _).set (Nat.le_refl _) _
  have gm : Mp.get hb.obj h2.no = some (.row [.int .i64 0, .int .i64 ep', u, w, .nils, .str []]) := by rw [hhb]; simp
  have bn : hb.no = h2.no + 1 := by rw [hhb]
  clear hhb
  have rs1 : BRs h1.no hb bs u := RS.he sm.br eb
  have pBb : hb.pol = ha.pol := by rw [eb.pol, e2.pol, e1.pol]
  refine A.mono (needed_ans h1.no xs o so (by omega) bs u w ep' qs sm.ok sm.ep0 (by have := sm.ep1; omega) sm.ac.sv (by have := sm.ql; omega) hb rs1) ?_
  rintro vf h3 ⟨sf, e3⟩
  have n3 := e3.no
  have fc := sf.sv.cells
  have fi := sf.sv.isCell
  have gm := (e3.obj _ (by omega)).trans gm
  refine ⟨_, by simp; first | done | rfl, ?_⟩
  repeat(first|with_reducible first|refine vmR ?_|refine vmV rfl ?_|refine vmW rfl ?_|refine vmL ?_|refine blockW_y (by decide) ?_|((with_reducible first|apply vmO|apply vmT|apply vmC);case a=>simp [fc, fi, gm, uc, ui, wc, wi];with_reducible first|exact .v|exact .c|exact .t|exact .f))
  refine A.mono (places_ans h1.no bs u w ep' qs sm.ok sm.ep0 (by have := sm.ep1; omega) sm.ac.sv (by have := sm.ql; omega) h3 (RS.he rs1 e3) (by rw [e3.pol, pBb]; exact pB _ (by decide))) ?_
  rintro r h4 ⟨pl, sl, hpl, hll, e4⟩
  have lc := sl.cells
  have li := sl.isCell
  have ln := sl.nm
  have ll := sl.len Try.underlying44
  rw [List.length_map] at ll
  have n4 := e4.no
  have gm := (e4.obj _ (by omega)).trans gm
  have rs4 := RS.he (RS.he rs1 e3) e4
  have p4 : h4.pol = ha.pol := by rw [e4.pol, e3.pol, pBb]
  have hFL : (needL bs ep' qs xs).length ≤ 12 := Nat.le_trans (List.length_filter_le _ _) xl
  refine ⟨_, by simp; first | done | rfl, ?_⟩
  repeat(first|with_reducible first|refine vmR ?_|refine vmV rfl ?_|refine vmW rfl ?_|refine vmL ?_|refine blockW_y (by decide) ?_|((with_reducible first|apply vmO|apply vmT|apply vmC);case a=>simp [lc, li];with_reducible first|exact .v|exact .c|exact .t|exact .f))
  refine W.mono (R := fun e s => e = .exit 0 ∧ ∃ (t : Fm AV) (h : Hp Fm), s = ⟨t, 68, h, none⟩ ∧ HE h4 h) ?_ ?_
  · refine W_loop (fun k s => ∃ (t : Fm AV) (h : Hp Fm) (j : Nat), s = ⟨t, 68, h, none⟩ ∧ k = pl.length - j ∧ j ≤ pl.length ∧ tget t 2 = .int .i64 tm ∧ tget t 7 = o ∧ tget t 8 = .ptr h2.no 0 ∧ tget t 9 = vf ∧ tget t 10 = r ∧ tget t 11 = .int .i64 j ∧ HE h4 h) pl.length
      ⟨_, _, 0, rfl, rfl, by omega, by simp, by simp, by simp, by simp, by simp, by simp, HE.refl _⟩ ?_
    rintro _ _ ⟨t, h, j, rfl, rfl, hj, t2, t7, t8, t9, t10, t11, he⟩
    by_cases q : j < pl.length
    case neg =>
      have q' : ¬ ((j : Int) < pl.length) := by omega
      repeat(first|with_reducible first|refine vmR ?_|refine vmV rfl ?_|refine vmW rfl ?_|refine vmL ?_|refine blockW_y (by decide) ?_|((with_reducible first|apply vmO|apply vmT|apply vmC);case a=>simp [t2, t7, t8, t9, t10, t11, q, q', lc, li, ln, ll];with_reducible first|exact .v|exact .c|exact .t|exact .f))
      exact ⟨rfl, _, _, rfl, he⟩
    have q' : (j : Int) < pl.length := by omega
    obtain ⟨jp, hjp⟩ : ∃ jp, jp = j + 1 := ⟨_, rfl⟩
    have wjp : IntKind.i64.wrap ((j : Int) + 1) = (jp : Int) := by rw [wrap64 (by omega) (by omega)]; omega
    obtain ⟨k, hk⟩ : ∃ k, k = pl[j] := ⟨_, rfl⟩
    have ix := sl.idx (k := .i64) (i := (j : Int)) Try.underlying44 z48 (by omega) (by rw [List.length_map]; omega)
    replace ix : indexAddrAV Try.prog 44 r (.int .i64 (j : Int)) = some (.el (.agg [.int .i64 k.b, .int .i64 k.e]) 0) := by rw [ix]; simp [hk]
    have kpl := (hpl k).mp (by rw [hk]; exact List.getElem_mem _)
    have kin := place_in sm.ok kpl
    obtain ⟨kb, hkb⟩ : ∃ kb : Nat, k.b = (kb : Int) := ⟨k.b.toNat, by omega⟩
    have epl : plPath bs k = pathB bs kb k.e := by unfold plPath; rw [hkb]; rfl
    have T1 := tells (xs := xs) kpl tm
    rw [epl] at T1
    rw [hkb] at ix kin
    have gmh := (he.obj _ (by omega)).trans gm
    have hn := he.no
    repeat(first|with_reducible first|refine vmR ?_|refine vmV rfl ?_|refine vmW rfl ?_|refine vmL ?_|refine blockW_y (by decide) ?_|((with_reducible first|apply vmO|apply vmT|apply vmC);case a=>simp [t2, t7, t8, t9, t10, t11, q, q', lc, li, ln, ll];with_reducible first|exact .v|exact .c|exact .t|exact .f))
    (with_reducible refine W_draw_id (pln := true) [0, 1, 2, 3, 4, 5, 6, 7, 8, 9, 10, 11, 12, 13] [(1, (1, [])), (6, (6, [])), (11, (11, []))] (by kernel_rfl) rfl ?_)
    repeat(first|with_reducible first|refine vmR ?_|refine vmV rfl ?_|refine vmW rfl ?_|refine vmL ?_|refine blockW_y (by decide) ?_|((with_reducible first|apply vmO|apply vmT|apply vmC);case a=>simp [t8, gmh, uc, ui, t10, t11, ix, lc, li];with_reducible first|exact .v|exact .c|exact .t|exact .f))
    refine A.mono (rpath_ans h1.no bs u sm.ok kb (by omega) k.e _ (RS.he (RS.he rs4 he) (HE.refl h).drew) (by show h.pol _ = _; rw [he.pol, p4]; exact pB _ (by decide))) ?_
    rintro vp2 h5 ⟨sp, e5⟩
    replace e5 : HE h h5 := ((HE.refl h).drew).trans e5
    have spc := sp.sv.cells
    have spi := sp.sv.isCell
    have gm5 := (e5.obj _ (by omega)).trans gmh
    have plen : (pathB bs kb k.e).length ≤ 1000000 := by have := pathP_len bs (kb + 1) kb k.e; have := sm.ok.le; unfold pathB; omega
    refine ⟨_, by simp; first | done | rfl, ?_⟩
    repeat(first|with_reducible first|refine vmR ?_|refine vmV rfl ?_|refine vmW rfl ?_|refine vmL ?_|refine blockW_y (by decide) ?_|((with_reducible first|apply vmO|apply vmT|apply vmC);case a=>simp [spc, spi];with_reducible first|exact .v|exact .c|exact .t|exact .f))
    refine ⟨by simp [readSame, beqAV_self, t8, gmh, gm5, uc, ui, t10, t11, ix, lc, li, spc, spi]; done, _, by simp; first | done | rfl, ?_⟩
    repeat(first|with_reducible first|refine vmR ?_|refine vmV rfl ?_|refine vmW rfl ?_|refine vmL ?_|refine blockW_y (by decide) ?_|((with_reducible first|apply vmO|apply vmT|apply vmC);case a=>simp [t7, t2, oc, oi, spc, spi];with_reducible first|exact .v|exact .c|exact .t|exact .f))
    refine A.mono (get_ans (pathB bs kb k.e) vp2 sp.sv plen xs o so (by omega) tm h5) ?_
    rintro _ h6 ⟨rfl, e6⟩
    have A2 := get_ans (pathB bs kb k.e) vp2 sp.sv plen _ vf sf (by omega) tm h6
    rw [T1] at A2
    have he6 := (he.trans e5).trans e6
    cases hg : getF (orderP (pathB bs kb k.e) xs) tm with
    | none =>
      rw [hg] at A2
      refine ⟨_, by simp [outG]; first | done | rfl, ?_⟩
      repeat(first|with_reducible first|refine vmR ?_|refine vmV rfl ?_|refine vmW rfl ?_|refine vmL ?_|refine blockW_y (by decide) ?_|((with_reducible first|apply vmO|apply vmT|apply vmC);case a=>simp [outG, t9, t2, fc, fi, spc, spi];with_reducible first|exact .v|exact .c|exact .t|exact .f))
      refine A.mono A2 ?_
      rintro _ h7 ⟨rfl, e7⟩
      refine ⟨_, by simp [outG]; first | done | rfl, ?_⟩
      repeat(first|with_reducible first|refine vmR ?_|refine vmV rfl ?_|refine vmW rfl ?_|refine vmL ?_|refine blockW_y (by decide) ?_|((with_reducible first|apply vmO|apply vmT|apply vmC);case a=>simp [outG, eqB, eql4x, t11, wjp];with_reducible first|exact .v|exact .c|exact .t|exact .f))
      exact ⟨pl.length - jp, by omega, _, _, jp, rfl, rfl, by omega, by simp [t2], by simp [t7], by simp [t8], by simp [t9], by simp [t10], by simp, he6.trans e7⟩
    | some s =>
      rw [hg] at A2
      have eb : eqB s s = true := by rw [eqB_dec]; simp
      refine ⟨_, by simp [outG]; first | done | rfl, ?_⟩
      repeat(first|with_reducible first|refine vmR ?_|refine vmV rfl ?_|refine vmW rfl ?_|refine vmL ?_|refine blockW_y (by decide) ?_|((with_reducible first|apply vmO|apply vmT|apply vmC);case a=>simp [outG, t9, t2, fc, fi, spc, spi];with_reducible first|exact .v|exact .c|exact .t|exact .f))
      refine A.mono A2 ?_
      rintro _ h7 ⟨rfl, e7⟩
      refine ⟨_, by simp [outG]; first | done | rfl, ?_⟩
      repeat(first|with_reducible first|refine vmR ?_|refine vmV rfl ?_|refine vmW rfl ?_|refine vmL ?_|refine blockW_y (by decide) ?_|((with_reducible first|apply vmO|apply vmT|apply vmC);case a=>simp [outG, eb, eql4x, t11, wjp];with_reducible first|exact .v|exact .c|exact .t|exact .f))
      exact ⟨pl.length - jp, by omega, _, _, jp, rfl, rfl, by omega, by simp [t2], by simp [t7], by simp [t8], by simp [t9], by simp [t10], by simp, he6.trans e7⟩
  rintro e s ⟨rfl, t, h, rfl, he⟩
  have pV : h.pol 38 = false ∧ h.pol 42 = true := by
    have e : h.pol = ha.pol := by rw [he.pol, p4]
    rw [e]; exact ⟨pB _ (by decide), pBr⟩
  repeat(first|with_reducible first|refine vmR ?_|refine vmV rfl ?_|refine vmW rfl ?_|refine vmL ?_|refine blockW_y (by decide) ?_|((with_reducible first|apply vmO|apply vmT|apply vmC);case a=>simp;with_reducible first|exact .v|exact .c|exact .t|exact .f))
  refine A.mono (klives_ans h pV.1 pV.2) ?_
  rintro _ h8 ⟨rfl, e8⟩
  refine ⟨_, by simp; first | done | rfl, ?_⟩
  repeat(first|with_reducible first|refine vmR ?_|refine vmV rfl ?_|refine vmW rfl ?_|refine vmL ?_|refine blockW_y (by decide) ?_|((with_reducible first|apply vmO|apply vmT|apply vmC);case a=>simp;with_reducible first|exact .v|exact .c|exact .t|exact .f))
  (first | apply endW_r | apply endW_n); (case h1 => (simp [Try.results5]; first | done | rfl))
  exact ⟨by simp [frz], trivial⟩
end Go.Vn

set_option maxRecDepth 20000
namespace Go.Vn
open Go.Proofs Go.ChangeShapes Go.WideShapes Go.ChangeAt Go.RowKit
theorem el_ver {x : AV} (h : DeepEl Try.prog 38 x) : ∃ v : Ver, x = encV v ∧ True := by
  obtain ⟨parts, rfl, hp⟩ := deep_struct Try.underlying38 a38 h
  obtain ⟨k, hk, _⟩ := deep_strv Try.underlying9 (hp 0 _ rfl)
  obtain ⟨p1, e1, h1⟩ := deep_structv Try.underlying34 (hp 1 _ rfl)
  obtain ⟨p2, e2, h2⟩ := deep_structv Try.underlying36 (hp 2 _ rfl)
  obtain ⟨w, hw, _⟩ := deep_strv Try.underlying9 (hp 3 _ rfl)
  obtain ⟨g, hg⟩ := deep_boolv Try.underlying4 (hp 4 _ rfl)
  obtain ⟨a, ha, _⟩ := deep_intv Try.underlying3 (h1 0 _ rfl)
  obtain ⟨b, hb, _⟩ := deep_intv Try.underlying3 (h1 1 _ rfl)
  obtain ⟨c, hc, _⟩ := deep_intv Try.underlying3 (h1 2 _ rfl)
  obtain ⟨d, hd, _⟩ := deep_intv Try.underlying3 (h2 0 _ rfl)
  obtain ⟨e, he, _⟩ := deep_intv Try.underlying3 (h2 1 _ rfl)
  refine ⟨⟨k, a, b, c, d, e, w, g⟩, ?_, trivial⟩
  show AV.agg ((List.range 5).flatMap parts) = _
  simp [List.range_succ, hk, e1, e2, hw, hg, ha, hb, hc, hd, he]
theorem el_int {x : AV} (h : DeepEl Try.prog 3 x) : ∃ n : Int, x = .int .i64 n ∧ (-9223372036854775808 ≤ n ∧ n ≤ 9223372036854775807) := deep_int Try.underlying3 a3 h
theorem el_vers {x : AV} (h : DeepEl Try.prog 22 x) : ∃ l : List Ver, SV 8 (l.map encV) x ∧ l.length ≤ maxLen := by
  obtain ⟨els, h1, h2, h3⟩ := deep_slice Try.underlying22 a22 h
  have hc : Try.prog.cellsOf 38 = 8 := by kernel_rfl
  rw [hc] at h1
  obtain ⟨l, rfl, _⟩ := map_of encV (fun _ => True) els (fun x hx => el_ver (h3 x hx))
  exact ⟨l, h1, by simpa using h2⟩
theorem el_br {x : AV} (h : DeepEl Try.prog 42 x) : ∃ v : Br, x = encB v ∧ BrR v := by
  obtain ⟨parts, rfl, hp⟩ := deep_struct Try.underlying42 a42 h
  obtain ⟨a, ha, ka⟩ := deep_intv Try.underlying3 (hp 0 _ rfl)
  obtain ⟨b, hb, kb⟩ := deep_intv Try.underlying3 (hp 1 _ rfl)
  obtain ⟨c, hc, kc⟩ := deep_intv Try.underlying3 (hp 2 _ rfl)
  obtain ⟨g, hg⟩ := deep_boolv Try.underlying4 (hp 3 _ rfl)
  refine ⟨⟨a, b, c, g⟩, ?_, ka, kb, kc⟩
  show AV.agg ((List.range 4).flatMap parts) = _
  simp [List.range_succ, ha, hb, hc, hg]
theorem el_po {x : AV} (h : DeepEl Try.prog 29 x) : ∃ v : Po, x = encPo v ∧ True := by
  obtain ⟨parts, rfl, hp⟩ := deep_struct Try.underlying29 a29 h
  obtain ⟨a, ha, _⟩ := deep_strv Try.underlying9 (hp 0 _ rfl)
  obtain ⟨b, hb, _⟩ := deep_intv Try.underlying3 (hp 1 _ rfl)
  obtain ⟨c, hc, _⟩ := deep_intv Try.underlying3 (hp 2 _ rfl)
  refine ⟨⟨a, b, c⟩, ?_, trivial⟩
  show AV.agg ((List.range 3).flatMap parts) = _
  simp [List.range_succ, ha, hb, hc]
theorem el_man {x : AV} (h : DeepEl Try.prog 27 x) : ∃ (n ep : Int) (vb vp vr : AV) (lg : List UInt8) (lb : List Br) (ps : List Po), x = .agg [.int .i64 n, .int .i64 ep, vb, vp, vr, .str lg] ∧ ManA vb vp vr lb ps ep := by
  obtain ⟨parts, rfl, hp⟩ := deep_struct Try.underlying27 a27 h
  obtain ⟨n, hn, _⟩ := deep_intv Try.underlying3 (hp 0 _ rfl)
  obtain ⟨ep, he, ke⟩ := deep_intv Try.underlying3 (hp 1 _ rfl)
  obtain ⟨vb, els, hb, s1, _, s2⟩ := deep_slicev Try.underlying23 (hp 2 _ rfl)
  obtain ⟨vp, els2, hpp, s3, _, s4⟩ := deep_slicev Try.underlying24 (hp 3 _ rfl)
  obtain ⟨vr, els3, hr, s5, _, _⟩ := deep_slicev Try.underlying25 (hp 4 _ rfl)
  obtain ⟨lg, hl, _⟩ := deep_strv Try.underlying9 (hp 5 _ rfl)
  have hc1 : Try.prog.cellsOf 42 = 4 := by kernel_rfl
  have hc2 : Try.prog.cellsOf 29 = 3 := by kernel_rfl
  rw [hc1] at s1
  rw [hc2] at s3
  obtain ⟨lb, rfl, kb⟩ := map_of encB BrR els (fun x hx => el_br (s2 x hx))
  obtain ⟨ps, rfl, _⟩ := map_of encPo (fun _ => True) els2 (fun x hx => el_po (s4 x hx))
  refine ⟨n, ep, vb, vp, vr, lg, lb, ps, ?_, s1, s3, s5.cells, s5.isCell, kb, ke⟩
  show AV.agg ((List.range 6).flatMap parts) = _
  simp [List.range_succ, hn, he, hb, hpp, hr, hl]
end Go.Vn
