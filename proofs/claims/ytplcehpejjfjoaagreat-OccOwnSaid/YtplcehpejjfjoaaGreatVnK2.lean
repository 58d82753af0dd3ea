/- What functions of the program come to, in the value machine (a part of the proof of the claim's statement). No condition. -/
import Derived.Test.YtplcehpejjfjoaaGreatVnK1
import Derived.Test.YtplcehpejjfjoaaGreatVnG7
import Derived.Test.YtplcehpejjfjoaaGreatVnI5
set_option linter.unusedSimpArgs false
set_option linter.unusedVariables false
set_option maxRecDepth 20000
namespace Go.Vn
open Go.Proofs

set_option maxHeartbeats 2000000 in
theorem at4_ans (ps : List Pc) (v : AV) (hv : SV 3 (ps.map encP) v) (hl : ps.length ≤ 16000000) (tm : Int) (h0 : Hp Fm) :
    A Tryz.prog TT (.func 20) [v, .int .i64 tm] h0 (fun r h' => r = outG (atP ps tm) ∧ HE h0 h') := by
  have vc := hv.cells
  have vi := hv.isCell
  have vn := hv.nm
  have vl := hv.len Tryz.underlying42
  rw [List.length_map] at vl
  apply A_go Tryz.func20 rfl (by rfl); (case hn => (simp [Tryz.ntmps20]; rfl))
  repeat(first|with_reducible first|refine vmR ?_|refine vmV rfl ?_|refine vmW rfl ?_|refine vmL ?_|refine blockW_y (by decide) ?_|((with_reducible first|apply vmO|apply vmT|apply vmC);case a=>simp;with_reducible first|exact .v|exact .c|exact .t|exact .f))
  refine W_loop (fun z s => ∃ (t : Fm AV) (h : Hp Fm) (i : Nat), s = ⟨t, 27, h, none⟩ ∧ z = ps.length - i ∧ i ≤ ps.length ∧ tget t 0 = v ∧ tget t 1 = .int .i64 tm ∧ tget t 6 = .int .i64 i ∧ HE h0 h ∧ atP ps tm = atP (ps.drop i) tm) ps.length
    ⟨_, _, 0, rfl, rfl, by omega, by simp, by simp, by simp, HE.refl _, by simp⟩ ?_
  rintro _ _ ⟨t, h, i, rfl, rfl, hi, t0, t1, t6, e1, inv⟩
  by_cases q : i < ps.length
  case neg =>
    have q' : ¬ ((i : Int) < ps.length) := by omega
    repeat(first|with_reducible first|refine vmR ?_|refine vmV rfl ?_|refine vmW rfl ?_|refine vmL ?_|refine blockW_y (by decide) ?_|((with_reducible first|apply vmO|apply vmT|apply vmC);case a=>simp [t0, t6, vl, vn, vc, vi, q, q'];with_reducible first|exact .v|exact .c|exact .t|exact .f))
    (first | apply endW_r | apply endW_n); (case h1 => (simp [Tryz.results20]; first | done | rfl))
    rw [inv, List.drop_of_length_le (by omega)]
    exact ⟨rfl, e1⟩
  have q' : (i : Int) < ps.length := by omega
  obtain ⟨x, hx⟩ : ∃ x, x = ps[i] := ⟨_, rfl⟩
  have ix := hv.idx (k := .i64) (i := (i : Int)) Tryz.underlying42 z49 (by omega) (by rw [List.length_map]; omega)
  replace ix : indexAddrAV Tryz.prog 42 v (.int .i64 (i : Int)) = some (.el (.agg [.int .i64 x.fr, .int .i64 x.to, .str x.val]) 0) := by rw [ix]; simp [hx, encP]
  obtain ⟨ip, hip⟩ : ∃ ip, ip = i + 1 := ⟨_, rfl⟩
  have wip : IntKind.i64.wrap ((i : Int) + 1) = (ip : Int) := by rw [wrap64 (by omega) (by omega)]; omega
  have edr : ps.drop i = x :: ps.drop ip := by rw [hip, hx]; exact List.drop_eq_getElem_cons q
  repeat(first|with_reducible first|refine vmR ?_|refine vmV rfl ?_|refine vmW rfl ?_|refine vmL ?_|refine blockW_y (by decide) ?_|((with_reducible first|apply vmO|apply vmT|apply vmC);case a=>simp [t0, t1, t6, vl, vn, vc, vi, q, q', ix];with_reducible first|exact .v|exact .c|exact .t|exact .f))
  refine A.mono (has4_ans x.fr x.to tm h) ?_
  rintro _ h2 ⟨rfl, e2⟩
  refine ⟨_, by simp; first | done | rfl, ?_⟩
  by_cases qh : Has x.fr x.to tm
  · repeat(first|with_reducible first|refine vmR ?_|refine vmV rfl ?_|refine vmW rfl ?_|refine vmL ?_|refine blockW_y (by decide) ?_|((with_reducible first|apply vmO|apply vmT|apply vmC);case a=>simp [t0, t6, qh, ix, vc, vi];with_reducible first|exact .v|exact .c|exact .t|exact .f))
    (first | apply endW_r | apply endW_n); (case h1 => (simp [Tryz.results20]; first | done | rfl))
    rw [inv, edr]
    exact ⟨by rw [atP_cons, if_pos qh]; rfl, e1.trans e2⟩
  · repeat(first|with_reducible first|refine vmR ?_|refine vmV rfl ?_|refine vmW rfl ?_|refine vmL ?_|refine blockW_y (by decide) ?_|((with_reducible first|apply vmO|apply vmT|apply vmC);case a=>simp [t0, t6, qh, wip];with_reducible first|exact .v|exact .c|exact .t|exact .f))
    exact ⟨ps.length - ip, by omega, _, _, ip, rfl, rfl, by omega, by simp [t0], by simp [t1], by simp, e1.trans e2, by rw [inv, edr, atP_cons, if_neg qh]⟩

set_option maxHeartbeats 4000000 in
theorem without4_ans (ps : List Pc) (v : AV) (hv : SV 3 (ps.map encP) v) (hl : ps.length ≤ 4000000) (c d : Int) (km : May c d) (h0 : Hp Fm) (hp : ∀ z, z = 3 ∨ z = 33 ∨ z = 49 → h0.pol z = false) :
    A Tryz.prog TT (.func 16) [v, encS2 c d] h0 (fun r h' => SV 3 ((withoutP ps c d).map encP) r ∧ HE h0 h') := by
  have vc := hv.cells
  have vi := hv.isCell
  have vn := hv.nm
  have vl := hv.len Tryz.underlying42
  rw [List.length_map] at vl
  have hpp := hp 49 (.inr (.inr rfl))
  have wf : withoutP ps c d = ps.flatMap (minusP c d) := by unfold withoutP; rw [if_pos km]
  rw [wf]
  apply A_go Tryz.func16 rfl (by rfl); (case hn => (simp [Tryz.ntmps16]; rfl))
  repeat(first|with_reducible first|refine vmR ?_|refine vmV rfl ?_|refine vmW rfl ?_|refine vmL ?_|refine blockW_y (by decide) ?_|((with_reducible first|apply vmO|apply vmT|apply vmC);case a=>simp;with_reducible first|exact .v|exact .c|exact .t|exact .f))
  refine A_heap ?_
  intro hA hhA
  have eA : HE h0 hA := by rw [hhA]; exact (HE.refl h0).new _
  have g3 : Mp.get hA.obj h0.no = some (.row [.int .i64 c, .int .i64 d]) := by rw [hhA]; simp
  have nA : h0.no < hA.no := by rw [hhA]; exact Nat.lt_succ_self _
  clear hhA
  refine A.mono (may4_ans c d hA) ?_
  rintro _ hB ⟨rfl, eB⟩
  have b3 := (eB.obj _ nA).trans g3
  have eAB := eA.trans eB
  have nB : h0.no < hB.no := Nat.lt_of_lt_of_le nA eB.no
  refine ⟨_, by simp; first | done | rfl, ?_⟩
  repeat(first|with_reducible first|refine vmR ?_|refine vmV rfl ?_|refine vmW rfl ?_|refine vmL ?_|refine blockW_y (by decide) ?_|((with_reducible first|apply vmO|apply vmT|apply vmC);case a=>simp [km];with_reducible first|exact .v|exact .c|exact .t|exact .f))
  refine W_loop (fun z s => ∃ (t : Fm AV) (h : Hp Fm) (i : Nat) (u : AV), s = ⟨t, 48, h, none⟩ ∧ z = ps.length - i ∧ i ≤ ps.length ∧ tget t 0 = v ∧ tget t 3 = .ptr h0.no 0 ∧ tget t 5 = u ∧ tget t 7 = .int .i64 i ∧ AC h0 h 3 (((ps.take i).flatMap (minusP c d)).map encP) u ∧ HE h0 h ∧ (Mp.get h.obj h0.no = some (.row [.int .i64 c, .int .i64 d]) ∧ h0.no < h.no)) ps.length
    ⟨_, _, 0, .nils, rfl, rfl, by omega, by simp, by simp, by simp, by simp, .inl ⟨rfl, by simp⟩, eAB, b3, nB⟩ ?_
  rintro _ _ ⟨t, h, i, u, rfl, rfl, hi, t0, t3, t5, t7, hac, e1, gh, nh⟩
  have uc := hac.sv.cells
  have ui := hac.sv.isCell
  by_cases q : i < ps.length
  case neg =>
    have q' : ¬ ((i : Int) < ps.length) := by omega
    repeat(first|with_reducible first|refine vmR ?_|refine vmV rfl ?_|refine vmW rfl ?_|refine vmL ?_|refine blockW_y (by decide) ?_|((with_reducible first|apply vmO|apply vmT|apply vmC);case a=>simp [t0, t5, t7, vl, vn, vc, vi, q, q', uc, ui];with_reducible first|exact .v|exact .c|exact .t|exact .f))
    (first | apply endW_r | apply endW_n); (case h1 => (simp [Tryz.results16]; first | done | rfl))
    rw [List.take_of_length_le (by omega)] at hac
    exact ⟨hac.sv, e1⟩
  have q' : (i : Int) < ps.length := by omega
  obtain ⟨x, hx⟩ : ∃ x, x = ps[i] := ⟨_, rfl⟩
  have ix := hv.idx (k := .i64) (i := (i : Int)) Tryz.underlying42 z49 (by omega) (by rw [List.length_map]; omega)
  replace ix : indexAddrAV Tryz.prog 42 v (.int .i64 (i : Int)) = some (.el (.agg [.int .i64 x.fr, .int .i64 x.to, .str x.val]) 0) := by rw [ix]; simp [hx, encP]
  obtain ⟨ip, hip⟩ : ∃ ip, ip = i + 1 := ⟨_, rfl⟩
  have wip : IntKind.i64.wrap ((i : Int) + 1) = (ip : Int) := by rw [wrap64 (by omega) (by omega)]; omega
  have etk : (ps.take ip).flatMap (minusP c d) = (ps.take i).flatMap (minusP c d) ++ minusP c d x := by
    rw [hip, List.take_succ_eq_append_getElem q, List.flatMap_append, ← hx]; simp
  have fl := without_len c d (ps.take i)
  rw [List.length_take] at fl
  have ml := minusS_len x.fr x.to c d
  repeat(first|with_reducible first|refine vmR ?_|refine vmV rfl ?_|refine vmW rfl ?_|refine vmL ?_|refine blockW_y (by decide) ?_|((with_reducible first|apply vmO|apply vmT|apply vmC);case a=>simp [t0, t7, vl, vn, vc, vi, q, q'];with_reducible first|exact .v|exact .c|exact .t|exact .f))
  (with_reducible refine W_draw_id (pln := true) [0, 1, 2, 3, 4, 5, 6, 7] [(4, (4, [])), (5, (5, []))] (by kernel_rfl) rfl ?_)
  repeat(first|with_reducible first|refine vmR ?_|refine vmV rfl ?_|refine vmW rfl ?_|refine vmL ?_|refine blockW_y (by decide) ?_|((with_reducible first|apply vmO|apply vmT|apply vmC);case a=>simp [t0, t3, t7, ix, gh, vc, vi];with_reducible first|exact .v|exact .c|exact .t|exact .f))
  refine A.mono (minus4_ans x.fr x.to c d km _ (fun z hz => by rw [Hp.drew, e1.pol]; exact hp z (by rcases hz with hz | hz; exact .inl hz; exact .inr (.inl hz)))) ?_
  rintro w hC ⟨sw, eC⟩
  have eC' : HE h hC := ((HE.refl h).drew).trans eC
  have gc := (eC'.obj _ nh).trans gh
  have nc : h0.no < hC.no := Nat.lt_of_lt_of_le nh eC'.no
  have wc := sw.cells
  have wi := sw.isCell
  have wn := sw.nm
  have wl := sw.len Tryz.underlying97
  rw [List.length_map] at wl
  obtain ⟨ms, hms⟩ : ∃ ms, ms = minusS x.fr x.to c d := ⟨_, rfl⟩
  rw [← hms] at sw wl ml
  have emp : minusP c d x = ms.map fun s => ⟨s.1, s.2, x.val⟩ := by rw [hms]; rfl
  refine ⟨_, by simp; first | done | rfl, ?_⟩
  repeat(first|with_reducible first|refine vmR ?_|refine vmV rfl ?_|refine vmW rfl ?_|refine vmL ?_|refine blockW_y (by decide) ?_|((with_reducible first|apply vmO|apply vmT|apply vmC);case a=>simp [t0, t3, t7, ix, gh, gc, vc, vi, wc, wi];with_reducible first|exact .v|exact .c|exact .t|exact .f))
  refine ⟨by simp [readSame, beqAV_self, t0, t3, t7, ix, gh, gc, vc, vi]; done, _, by simp; first | done | rfl, ?_⟩
  repeat(first|with_reducible first|refine vmR ?_|refine vmV rfl ?_|refine vmW rfl ?_|refine vmL ?_|refine blockW_y (by decide) ?_|((with_reducible first|apply vmO|apply vmT|apply vmC);case a=>simp;with_reducible first|exact .v|exact .c|exact .t|exact .f))
  refine W.mono (R := fun e s => e = .exit 2 ∧ ∃ (t : Fm AV) (h : Hp Fm) (u : AV), s = ⟨t, 48, h, none⟩ ∧ tget t 0 = v ∧ tget t 3 = .ptr h0.no 0 ∧ tget t 5 = u ∧ tget t 7 = .int .i64 i ∧ AC h0 h 3 (((ps.take ip).flatMap (minusP c d)).map encP) u ∧ HE h0 h ∧ (Mp.get h.obj h0.no = some (.row [.int .i64 c, .int .i64 d]) ∧ h0.no < h.no)) ?_ ?_
  · refine W_loop (fun z s => ∃ (t : Fm AV) (h : Hp Fm) (j : Nat) (u : AV), s = ⟨t, 48, h, none⟩ ∧ z = ms.length - j ∧ j ≤ ms.length ∧ tget t 0 = v ∧ tget t 3 = .ptr h0.no 0 ∧ tget t 5 = u ∧ tget t 7 = .int .i64 i ∧ tget t 8 = w ∧ tget t 9 = .int .i64 j ∧ AC h0 h 3 (((ps.take i).flatMap (minusP c d) ++ ((ms.take j).map fun s => (⟨s.1, s.2, x.val⟩ : Pc))).map encP) u ∧ HE h0 h ∧ (Mp.get h.obj h0.no = some (.row [.int .i64 c, .int .i64 d]) ∧ h0.no < h.no)) ms.length
      ⟨_, _, 0, u, rfl, rfl, by omega, by simp [t0], by simp [t3], by simp [t5], by simp [t7], by simp, by simp, by simpa using hac.of eC', e1.trans eC', gc, nc⟩ ?_
    clear t0 t3 t5 t7 hac e1 gh nh uc ui t
    rintro _ _ ⟨t, h2, j, u2, rfl, rfl, hj, t0, t3, t5, t7, t8, t9, hac, e1, gh, nh⟩
    have uc := hac.sv.cells
    have ui := hac.sv.isCell
    by_cases qj : j < ms.length
    case neg =>
      have qj' : ¬ ((j : Int) < ms.length) := by omega
      repeat(first|with_reducible first|refine vmR ?_|refine vmV rfl ?_|refine vmW rfl ?_|refine vmL ?_|refine blockW_y (by decide) ?_|((with_reducible first|apply vmO|apply vmT|apply vmC);case a=>simp [t8, t9, wl, wn, wc, wi, qj, qj'];with_reducible first|exact .v|exact .c|exact .t|exact .f))
      have tj : ms.take j = ms := List.take_of_length_le (by omega)
      rw [tj, ← emp, ← etk] at hac
      exact ⟨rfl, _, _, u2, rfl, by simp [t0], by simp [t3], by simp [t5], by simp [t7], hac, e1, gh, nh⟩
    have qj' : (j : Int) < ms.length := by omega
    obtain ⟨y, hy⟩ : ∃ y, y = ms[j] := ⟨_, rfl⟩
    have iy := sw.idx (k := .i64) (i := (j : Int)) Tryz.underlying97 z33 (by omega) (by rw [List.length_map]; omega)
    replace iy : indexAddrAV Tryz.prog 97 w (.int .i64 (j : Int)) = some (.el (.agg [.int .i64 y.1, .int .i64 y.2]) 0) := by rw [iy]; simp [hy, encSp]
    obtain ⟨jp, hjp⟩ : ∃ jp, jp = j + 1 := ⟨_, rfl⟩
    have wjp : IntKind.i64.wrap ((j : Int) + 1) = (jp : Int) := by rw [wrap64 (by omega) (by omega)]; omega
    have hph : h2.pol 49 = false := by rw [e1.pol]; exact hpp
    have eb := ((HE.refl h2).drew).newSl 1
    repeat(first|with_reducible first|refine vmR ?_|refine vmV rfl ?_|refine vmW rfl ?_|refine vmL ?_|refine blockW_y (by decide) ?_|((with_reducible first|apply vmO|apply vmT|apply vmC);case a=>simp [t8, t9, wl, wn, wc, wi, qj, qj'];with_reducible first|exact .v|exact .c|exact .t|exact .f))
    (with_reducible refine W_draw_id (pln := true) [0, 1, 2, 3, 4, 5, 6, 7, 8, 9, 10, 11, 12, 13] [(4, (4, [])), (9, (9, []))] (by kernel_rfl) rfl ?_)
    repeat(first|with_reducible first|refine vmR ?_|refine vmV rfl ?_|refine vmW rfl ?_|refine vmL ?_|refine blockW_y (by decide) ?_|((with_reducible first|apply vmO|apply vmT|apply vmC);case a=>simp [t0, t5, t7, t8, t9, ix, iy, vc, vi, wc, wi, uc, ui, newSeq, newSl, hph];with_reducible first|exact .v|exact .c|exact .t|exact .f))
    with_reducible apply WT_app_i; (case hw => (simp [t0, t5, t7, t8, t9, ix, iy, vc, vi, wc, wi, uc, ui, newSeq, newSl, hph]; done)); (case ho => rfl); (case hb => rfl); (case ha => (simp [t0, t5, t7, t8, t9, ix, iy, vc, vi, wc, wi, uc, ui, newSeq, newSl, hph]; first | done | exact ⟨rfl, rfl⟩ | rfl)); (case h1 => (simp; first | done | rfl)); (case h2 => (simp; first | done | rfl))
    refine app_then (AC.app (h0 := h0) etp (hac.of eb) (e1.trans eb) hpp (by rw [List.length_map, List.length_append, List.length_map]; have := List.length_take_le j ms; omega)) ?_
    rintro x4 h4 ⟨ac4, he4, ho4, hn4, hg4⟩
    have xc4 := ac4.sv.cells
    have xi4 := ac4.sv.isCell
    refine ⟨_, by simp; first | done | rfl, ?_⟩
    repeat(first|with_reducible first|refine vmR ?_|refine vmV rfl ?_|refine vmW rfl ?_|refine vmL ?_|refine blockW_y (by decide) ?_|((with_reducible first|apply vmO|apply vmT|apply vmC);case a=>simp [xc4, xi4];with_reducible first|exact .v|exact .c|exact .t|exact .f))
    refine ⟨by simp [readSame, beqAV_self, t0, t5, t7, t8, t9, ix, iy, vc, vi, wc, wi, uc, ui]; done, _, by simp; first | done | rfl, ?_⟩
    repeat(first|with_reducible first|refine vmR ?_|refine vmV rfl ?_|refine vmW rfl ?_|refine vmL ?_|refine blockW_y (by decide) ?_|((with_reducible first|apply vmO|apply vmT|apply vmC);case a=>simp [t9, wjp];with_reducible first|exact .v|exact .c|exact .t|exact .f))
    have em : (((ps.take i).flatMap (minusP c d) ++ ((ms.take j).map fun s => (⟨s.1, s.2, x.val⟩ : Pc))).map encP) ++ [.agg [.int .i64 y.1, .int .i64 y.2, .str x.val]] = (((ps.take i).flatMap (minusP c d) ++ ((ms.take jp).map fun s => (⟨s.1, s.2, x.val⟩ : Pc))).map encP) := by
      rw [hjp, List.take_succ_eq_append_getElem qj, ← hy]; simp [encP]
    rw [em] at ac4
    exact ⟨ms.length - jp, by omega, _, _, jp, x4, rfl, rfl, by omega, by simp [t0], by simp [t3], by simp, by simp [t7], by simp [t8], by simp, ac4, he4, by rw [ho4]; exact gh, by rw [hn4]; exact nh⟩
  rintro e s ⟨rfl, t, h2, u2, rfl, t0, t3, t5, t7, hac, e1, gh, nh⟩
  repeat(first|with_reducible first|refine vmR ?_|refine vmV rfl ?_|refine vmW rfl ?_|refine vmL ?_|refine blockW_y (by decide) ?_|((with_reducible first|apply vmO|apply vmT|apply vmC);case a=>simp [t7, wip];with_reducible first|exact .v|exact .c|exact .t|exact .f))
  exact ⟨ps.length - ip, by omega, _, _, ip, u2, rfl, rfl, by omega, by simp [t0], by simp [t3], by simp [t5], by simp, hac, e1, gh, nh⟩

theorem overP_cut {l : List Pc} {p : Pc} (hm : May p.fr p.to) {A B : List Pc} (hw : withoutP l p.fr p.to = A ++ B) (hA : ∀ x ∈ A, x.fr < p.to) (hB : ∀ x ∈ B.head?, ¬ x.fr < p.to) : overP l p = A ++ p :: B := by
  have h1 : (A ++ B).takeWhile (fun o : Pc => decide (o.fr < p.to)) = A := by
    rw [List.takeWhile_append_of_pos (fun x hx => by simpa using hA x hx)]
    cases B with
    | nil => simp
    | cons b B => simp [hB b (by simp)]
  have h2 : (A ++ B).dropWhile (fun o : Pc => decide (o.fr < p.to)) = B := by
    rw [List.dropWhile_append_of_pos (fun x hx => by simpa using hA x hx)]
    cases B with
    | nil => simp
    | cons b B => simp [hB b (by simp)]
  unfold overP
  rw [if_pos hm, hw, h1, h2]; simp

set_option maxHeartbeats 4000000 in
theorem over4_ans (ps : List Pc) (v : AV) (hv : SV 3 (ps.map encP) v) (hl : ps.length ≤ 4000000) (p : Pc) (km : May p.fr p.to) (h0 : Hp Fm) (hp : ∀ z, z = 3 ∨ z = 33 ∨ z = 49 → h0.pol z = false) :
    A Tryz.prog TT (.func 18) [v, encP p] h0 (fun r h' => SV 3 ((overP ps p).map encP) r ∧ HE h0 h') := by
  have vc := hv.cells
  have vi := hv.isCell
  have hpp := hp 49 (.inr (.inr rfl))
  apply A_go Tryz.func18 rfl (by rfl); (case hn => (simp [Tryz.ntmps18]; rfl))
  repeat(first|with_reducible first|refine vmR ?_|refine vmV rfl ?_|refine vmW rfl ?_|refine vmL ?_|refine blockW_y (by decide) ?_|((with_reducible first|apply vmO|apply vmT|apply vmC);case a=>simp;with_reducible first|exact .v|exact .c|exact .t|exact .f))
  refine A_heap ?_
  intro hA hhA
  have eA : HE h0 hA := by rw [hhA]; exact (HE.refl h0).new _
  have g3 : Mp.get hA.obj h0.no = some (.row [.int .i64 p.fr, .int .i64 p.to, .str p.val]) := by rw [hhA]; simp
  have nA : h0.no < hA.no := by rw [hhA]; exact Nat.lt_succ_self _
  clear hhA
  refine A.mono (may4_ans p.fr p.to hA) ?_
  rintro _ hB ⟨rfl, eB⟩
  have b3 := (eB.obj _ nA).trans g3
  have eAB := eA.trans eB
  have nB : h0.no < hB.no := Nat.lt_of_lt_of_le nA eB.no
  refine ⟨_, by simp; first | done | rfl, ?_⟩
  repeat(first|with_reducible first|refine vmR ?_|refine vmV rfl ?_|refine vmW rfl ?_|refine vmL ?_|refine blockW_y (by decide) ?_|((with_reducible first|apply vmO|apply vmT|apply vmC);case a=>simp [km, b3, vc, vi];with_reducible first|exact .v|exact .c|exact .t|exact .f))
  refine A.mono (without4_ans ps v hv hl p.fr p.to km hB (fun z hz => by rw [eAB.pol]; exact hp z hz)) ?_
  rintro w hC ⟨sw, eC⟩
  have eC' : HE h0 hC := eAB.trans eC
  have c3 := (eC.obj _ nB).trans b3
  have nC : h0.no < hC.no := Nat.lt_of_lt_of_le nB eC.no
  have wlen := withoutP_len ps p.fr p.to
  obtain ⟨Wl, hW⟩ : ∃ Wl, Wl = withoutP ps p.fr p.to := ⟨_, rfl⟩
  rw [← hW] at sw wlen
  have wc := sw.cells
  have wi := sw.isCell
  have wn := sw.nm
  have wl := sw.len Tryz.underlying42
  rw [List.length_map] at wl
  refine ⟨_, by simp; first | done | rfl, ?_⟩
  repeat(first|with_reducible first|refine vmR ?_|refine vmV rfl ?_|refine vmW rfl ?_|refine vmL ?_|refine blockW_y (by decide) ?_|((with_reducible first|apply vmO|apply vmT|apply vmC);case a=>simp [wc, wi];with_reducible first|exact .v|exact .c|exact .t|exact .f))
  refine W.mono (R := fun e s => e = .exit 0 ∧ ∃ (t : Fm AV) (h : Hp Fm) (u : AV) (dn : Bool) (o : List Pc), s = ⟨t, 58, h, none⟩ ∧ tget t 3 = .ptr h0.no 0 ∧ tget t 7 = u ∧ tget t 8 = .bool dn ∧ AC h0 h 3 (o.map encP) u ∧ HE h0 h ∧ (Mp.get h.obj h0.no = some (.row [.int .i64 p.fr, .int .i64 p.to, .str p.val]) ∧ h0.no < h.no) ∧ o.length ≤ Wl.length + 1 ∧ ((dn = false ∧ o ++ [p] = overP ps p) ∨ (dn = true ∧ o = overP ps p))) ?_ ?_
  · refine W_loop (fun z s => ∃ (t : Fm AV) (h : Hp Fm) (i : Nat) (u : AV) (dn : Bool) (o : List Pc), s = ⟨t, 58, h, none⟩ ∧ z = Wl.length - i ∧ i ≤ Wl.length ∧ tget t 3 = .ptr h0.no 0 ∧ tget t 6 = w ∧ tget t 7 = u ∧ tget t 8 = .bool dn ∧ tget t 9 = .int .i64 i ∧ AC h0 h 3 (o.map encP) u ∧ HE h0 h ∧ (Mp.get h.obj h0.no = some (.row [.int .i64 p.fr, .int .i64 p.to, .str p.val]) ∧ h0.no < h.no) ∧ o.length ≤ i + 1 ∧ ((dn = false ∧ o = Wl.take i ∧ ∀ x ∈ Wl.take i, x.fr < p.to) ∨ (dn = true ∧ o ++ Wl.drop i = overP ps p))) Wl.length
      ⟨_, _, 0, .nils, false, [], rfl, rfl, by omega, by simp, by simp, by simp, by simp, by simp, .inl ⟨rfl, rfl⟩, eC', ⟨c3, nC⟩, by simp, .inl ⟨rfl, by simp, by simp⟩⟩ ?_
    rintro _ _ ⟨t, h, i, u, dn, o, rfl, rfl, hi, t3, t6, t7, t8, t9, hac, e1, ⟨gh, nh⟩, ol, inv⟩
    have uc := hac.sv.cells
    have ui := hac.sv.isCell
    by_cases q : i < Wl.length
    case neg =>
      have q' : ¬ ((i : Int) < Wl.length) := by omega
      repeat(first|with_reducible first|refine vmR ?_|refine vmV rfl ?_|refine vmW rfl ?_|refine vmL ?_|refine blockW_y (by decide) ?_|((with_reducible first|apply vmO|apply vmT|apply vmC);case a=>simp [t6, t9, wl, wn, wc, wi, q, q'];with_reducible first|exact .v|exact .c|exact .t|exact .f))
      refine ⟨rfl, _, _, u, dn, o, rfl, by simp [t3], by simp [t7], by simp [t8], hac, e1, ⟨gh, nh⟩, by omega, ?_⟩
      rcases inv with ⟨rfl, rfl, hx⟩ | ⟨rfl, hx⟩
      · left
        have tw : Wl.take i = Wl := List.take_of_length_le (by omega)
        rw [tw] at hx ⊢
        exact ⟨rfl, (overP_cut km (A := Wl) (B := []) (by rw [← hW]; simp) hx (by simp)).symm⟩
      · right
        rw [List.drop_of_length_le (by omega), List.append_nil] at hx
        exact ⟨rfl, hx⟩
    have q' : (i : Int) < Wl.length := by omega
    obtain ⟨x, hx⟩ : ∃ x, x = Wl[i] := ⟨_, rfl⟩
    have ix := sw.idx (k := .i64) (i := (i : Int)) Tryz.underlying42 z49 (by omega) (by rw [List.length_map]; omega)
    replace ix : indexAddrAV Tryz.prog 42 w (.int .i64 (i : Int)) = some (.el (.agg [.int .i64 x.fr, .int .i64 x.to, .str x.val]) 0) := by rw [ix]; simp [hx, encP]
    obtain ⟨ip, hip⟩ : ∃ ip, ip = i + 1 := ⟨_, rfl⟩
    have wip : IntKind.i64.wrap ((i : Int) + 1) = (ip : Int) := by rw [wrap64 (by omega) (by omega)]; omega
    have hph : h.pol 49 = false := by rw [e1.pol]; exact hpp
    have edr : Wl.drop i = x :: Wl.drop ip := by rw [hip, hx]; exact List.drop_eq_getElem_cons q
    have etk : Wl.take ip = Wl.take i ++ [x] := by rw [hip, List.take_succ_eq_append_getElem q, hx]
    have ell : Wl = Wl.take i ++ x :: Wl.drop ip := by rw [← edr]; simp
    have hphd : h.drew.pol 49 = false := hph
    rcases inv with ⟨rfl, rfl, hlt⟩ | ⟨rfl, hinv⟩
    · by_cases c1 : x.fr < p.to
      · have c2 : ¬ (p.to ≤ x.fr) := by omega
        repeat(first|with_reducible first|refine vmR ?_|refine vmV rfl ?_|refine vmW rfl ?_|refine vmL ?_|refine blockW_y (by decide) ?_|((with_reducible first|apply vmO|apply vmT|apply vmC);case a=>simp [t6, t9, wl, wn, wc, wi, q, q'];with_reducible first|exact .v|exact .c|exact .t|exact .f))
        (with_reducible refine W_draw_id (pln := true) [0, 1, 2, 3, 4, 5, 6, 7, 8, 9, 10, 11, 12, 13] [(8, (8, [])), (11, (11, []))] (by kernel_rfl) rfl ?_)
        repeat(first|with_reducible first|refine vmR ?_|refine vmV rfl ?_|refine vmW rfl ?_|refine vmL ?_|refine blockW_y (by decide) ?_|((with_reducible first|apply vmO|apply vmT|apply vmC);case a=>simp [t3, t6, t8, t9, ix, gh, c2, wc, wi];with_reducible first|exact .v|exact .c|exact .t|exact .f))
        refine ⟨by simp [readSame, beqAV_self, t3, t6, t8, t9, ix, gh, c2, wc, wi]; done, _, by simp; first | done | rfl, ?_⟩
        have hac := hac.of (HE.refl h).drew
        have e1 := e1.drew
        repeat(first|with_reducible first|refine vmR ?_|refine vmV rfl ?_|refine vmW rfl ?_|refine vmL ?_|refine blockW_y (by decide) ?_|((with_reducible first|apply vmO|apply vmT|apply vmC);case a=>simp [t6, t7, t9, ix, wc, wi, uc, ui, newSeq, newSl, hph];with_reducible first|exact .v|exact .c|exact .t|exact .f))
        with_reducible apply WO_app_i; (case hw => (simp [t6, t7, t9, ix, wc, wi, uc, ui, newSeq, newSl, hph]; done)); (case ho => rfl); (case hb => rfl); (case ha => (simp [t6, t7, t9, ix, wc, wi, uc, ui, newSeq, newSl, hph]; first | done | exact ⟨rfl, rfl⟩ | rfl)); (case h1 => (simp; first | done | rfl)); (case h2 => (simp; first | done | rfl))
        have eb := (HE.refl h.drew).newSl 1
        refine app_then (AC.app (h0 := h0) etp (hac.of eb) (e1.trans eb) hpp (by simp; omega)) ?_
        rintro x4 h4 ⟨ac4, he4, ho4, hn4, _⟩
        have xc4 := ac4.sv.cells
        have xi4 := ac4.sv.isCell
        have em : ((Wl.take i)).map encP ++ [.agg [.int .i64 x.fr, .int .i64 x.to, .str x.val]] = ((Wl.take i) ++ [x]).map encP := by simp [encP]
        rw [em] at ac4
        refine ⟨_, by simp; first | done | rfl, ?_⟩
        repeat(first|with_reducible first|refine vmR ?_|refine vmV rfl ?_|refine vmW rfl ?_|refine vmL ?_|refine blockW_y (by decide) ?_|((with_reducible first|apply vmO|apply vmT|apply vmC);case a=>simp [t9, xc4, xi4, wip];with_reducible first|exact .v|exact .c|exact .t|exact .f))
        exact ⟨Wl.length - ip, by omega, _, _, ip, x4, false, _, rfl, rfl, by omega, by simp [t3], by simp [t6], by simp, by simp [t8], by simp, ac4, he4, ⟨by rw [ho4]; exact gh, by rw [hn4]; exact nh⟩, by simp; omega, .inl ⟨rfl, by rw [etk], fun y hy => by
          rw [etk] at hy
          rcases List.mem_append.mp hy with hy | hy
          · exact hlt y hy
          · rw [List.mem_singleton.mp hy]; exact c1⟩⟩
      · have c2 : (p.to ≤ x.fr) := by omega
        have oc := overP_cut km (A := Wl.take i) (B := x :: Wl.drop ip) (by rw [← hW]; exact ell) hlt (by simp; omega)
        repeat(first|with_reducible first|refine vmR ?_|refine vmV rfl ?_|refine vmW rfl ?_|refine vmL ?_|refine blockW_y (by decide) ?_|((with_reducible first|apply vmO|apply vmT|apply vmC);case a=>simp [t6, t9, wl, wn, wc, wi, q, q'];with_reducible first|exact .v|exact .c|exact .t|exact .f))
        (with_reducible refine W_draw_id (pln := true) [0, 1, 2, 3, 4, 5, 6, 7, 8, 9, 10, 11, 12, 13] [(8, (8, [])), (11, (11, []))] (by kernel_rfl) rfl ?_)
        repeat(first|with_reducible first|refine vmR ?_|refine vmV rfl ?_|refine vmW rfl ?_|refine vmL ?_|refine blockW_y (by decide) ?_|((with_reducible first|apply vmO|apply vmT|apply vmC);case a=>simp [t3, t6, t8, t9, ix, gh, c2, wc, wi];with_reducible first|exact .v|exact .c|exact .t|exact .f))
        refine ⟨by simp [readSame, beqAV_self, t3, t6, t8, t9, ix, gh, c2, wc, wi]; done, _, by simp; first | done | rfl, ?_⟩
        repeat(first|with_reducible first|refine vmR ?_|refine vmV rfl ?_|refine vmW rfl ?_|refine vmL ?_|refine blockW_y (by decide) ?_|((with_reducible first|apply vmO|apply vmT|apply vmC);case a=>simp [t3, t7, gh, uc, ui, newSeq, newSl, hph];with_reducible first|exact .v|exact .c|exact .t|exact .f))
        with_reducible apply WO_app_i; (case hw => (simp [t3, t7, gh, uc, ui, newSeq, newSl, hph]; done)); (case ho => rfl); (case hb => rfl); (case ha => (simp [t3, t7, gh, uc, ui, newSeq, newSl, hph]; first | done | exact ⟨rfl, rfl⟩ | rfl)); (case h1 => (simp; first | done | rfl)); (case h2 => (simp; first | done | rfl))
        have eb0 := ((HE.refl h).drew).newSl 1
        refine app_then (AC.app (h0 := h0) etp (hac.of eb0) (e1.trans eb0) hpp (by simp; omega)) ?_
        rintro x3 h3 ⟨ac3, he3, ho3, hn3, _⟩
        have uc := ac3.sv.cells
        have ui := ac3.sv.isCell
        have hph : h3.pol 49 = false := by rw [he3.pol]; exact hpp
        have em3 : (Wl.take i).map encP ++ [.agg [.int .i64 p.fr, .int .i64 p.to, .str p.val]] = (Wl.take i ++ [p]).map encP := by simp [encP]
        rw [em3] at ac3
        have hac := ac3
        have e1 := he3
        have t7 : True := trivial
        refine ⟨_, by simp; first | done | rfl, ?_⟩
        repeat(first|with_reducible first|refine vmR ?_|refine vmV rfl ?_|refine vmW rfl ?_|refine vmL ?_|refine blockW_y (by decide) ?_|((with_reducible first|apply vmO|apply vmT|apply vmC);case a=>simp [t6, t9, ix, wc, wi, uc, ui, newSeq, newSl, hph];with_reducible first|exact .v|exact .c|exact .t|exact .f))
        with_reducible apply WO_app_i; (case hw => (simp [t6, t9, ix, wc, wi, uc, ui, newSeq, newSl, hph]; done)); (case ho => rfl); (case hb => rfl); (case ha => (simp [t6, t9, ix, wc, wi, uc, ui, newSeq, newSl, hph]; first | done | exact ⟨rfl, rfl⟩ | rfl)); (case h1 => (simp; first | done | rfl)); (case h2 => (simp; first | done | rfl))
        have eb := (HE.refl h3).newSl 1
        refine app_then (AC.app (h0 := h0) etp (hac.of eb) (e1.trans eb) hpp (by simp; omega)) ?_
        rintro x4 h4 ⟨ac4, he4, ho4, hn4, _⟩
        have xc4 := ac4.sv.cells
        have xi4 := ac4.sv.isCell
        have em : (Wl.take i ++ [p]).map encP ++ [.agg [.int .i64 x.fr, .int .i64 x.to, .str x.val]] = ((Wl.take i ++ [p]) ++ [x]).map encP := by simp [encP]
        rw [em] at ac4
        refine ⟨_, by simp; first | done | rfl, ?_⟩
        repeat(first|with_reducible first|refine vmR ?_|refine vmV rfl ?_|refine vmW rfl ?_|refine vmL ?_|refine blockW_y (by decide) ?_|((with_reducible first|apply vmO|apply vmT|apply vmC);case a=>simp [t9, xc4, xi4, wip];with_reducible first|exact .v|exact .c|exact .t|exact .f))
        exact ⟨Wl.length - ip, by omega, _, _, ip, x4, true, _, rfl, rfl, by omega, by simp [t3], by simp [t6], by simp, by simp, by simp, ac4, he4, ⟨by rw [ho4]; show Mp.get h3.obj _ = _; rw [ho3]; exact gh, by rw [hn4]; show _ < h3.no; rw [hn3]; exact nh⟩, by simp; omega, .inr ⟨rfl, by rw [oc]; simp⟩⟩
    · repeat(first|with_reducible first|refine vmR ?_|refine vmV rfl ?_|refine vmW rfl ?_|refine vmL ?_|refine blockW_y (by decide) ?_|((with_reducible first|apply vmO|apply vmT|apply vmC);case a=>simp [t6, t9, wl, wn, wc, wi, q, q'];with_reducible first|exact .v|exact .c|exact .t|exact .f))
      (with_reducible refine W_draw_id (pln := true) [0, 1, 2, 3, 4, 5, 6, 7, 8, 9, 10, 11, 12, 13] [(8, (8, [])), (11, (11, []))] (by kernel_rfl) rfl ?_)
      repeat(first|with_reducible first|refine vmR ?_|refine vmV rfl ?_|refine vmW rfl ?_|refine vmL ?_|refine blockW_y (by decide) ?_|((with_reducible first|apply vmO|apply vmT|apply vmC);case a=>simp [t3, t6, t8, t9, ix, gh, wc, wi];with_reducible first|exact .v|exact .c|exact .t|exact .f))
      refine ⟨by simp [readSame, beqAV_self, t3, t6, t8, t9, ix, gh, wc, wi]; done, _, by simp; first | done | rfl, ?_⟩
      have hac := hac.of (HE.refl h).drew
      have e1 := e1.drew
      repeat(first|with_reducible first|refine vmR ?_|refine vmV rfl ?_|refine vmW rfl ?_|refine vmL ?_|refine blockW_y (by decide) ?_|((with_reducible first|apply vmO|apply vmT|apply vmC);case a=>simp [t6, t7, t9, ix, wc, wi, uc, ui, newSeq, newSl, hph];with_reducible first|exact .v|exact .c|exact .t|exact .f))
      with_reducible apply WO_app_i; (case hw => (simp [t6, t7, t9, ix, wc, wi, uc, ui, newSeq, newSl, hph]; done)); (case ho => rfl); (case hb => rfl); (case ha => (simp [t6, t7, t9, ix, wc, wi, uc, ui, newSeq, newSl, hph]; first | done | exact ⟨rfl, rfl⟩ | rfl)); (case h1 => (simp; first | done | rfl)); (case h2 => (simp; first | done | rfl))
      have eb := (HE.refl h.drew).newSl 1
      refine app_then (AC.app (h0 := h0) etp (hac.of eb) (e1.trans eb) hpp (by simp; omega)) ?_
      rintro x4 h4 ⟨ac4, he4, ho4, hn4, _⟩
      have xc4 := ac4.sv.cells
      have xi4 := ac4.sv.isCell
      have em : (o).map encP ++ [.agg [.int .i64 x.fr, .int .i64 x.to, .str x.val]] = (o ++ [x]).map encP := by simp [encP]
      rw [em] at ac4
      refine ⟨_, by simp; first | done | rfl, ?_⟩
      repeat(first|with_reducible first|refine vmR ?_|refine vmV rfl ?_|refine vmW rfl ?_|refine vmL ?_|refine blockW_y (by decide) ?_|((with_reducible first|apply vmO|apply vmT|apply vmC);case a=>simp [t9, xc4, xi4, wip];with_reducible first|exact .v|exact .c|exact .t|exact .f))
      exact ⟨Wl.length - ip, by omega, _, _, ip, x4, true, _, rfl, rfl, by omega, by simp [t3], by simp [t6], by simp, by simp [t8], by simp, ac4, he4, ⟨by rw [ho4]; exact gh, by rw [hn4]; exact nh⟩, by simp; omega, .inr ⟨rfl, by rw [← hinv, edr]; simp⟩⟩
  rintro e s ⟨rfl, t, h, u, dn, o, rfl, t3, t7, t8, hac, e1, ⟨gh, nh⟩, ol, inv⟩
  have uc := hac.sv.cells
  have ui := hac.sv.isCell
  have hph : h.pol 49 = false := by rw [e1.pol]; exact hpp
  rcases inv with ⟨rfl, hx⟩ | ⟨rfl, hx⟩
  · repeat(first|with_reducible first|refine vmR ?_|refine vmV rfl ?_|refine vmW rfl ?_|refine vmL ?_|refine blockW_y (by decide) ?_|((with_reducible first|apply vmO|apply vmT|apply vmC);case a=>simp [t3, t7, t8, gh, uc, ui, newSeq, newSl, hph];with_reducible first|exact .v|exact .c|exact .t|exact .f))
    with_reducible apply WO_app_i; (case hw => (simp [t3, t7, t8, gh, uc, ui, newSeq, newSl, hph]; done)); (case ho => rfl); (case hb => rfl); (case ha => (simp [t3, t7, t8, gh, uc, ui, newSeq, newSl, hph]; first | done | exact ⟨rfl, rfl⟩ | rfl)); (case h1 => (simp; first | done | rfl)); (case h2 => (simp; first | done | rfl))
    have eb0 := (HE.refl h).newSl 1
    refine app_then (AC.app (h0 := h0) etp (hac.of eb0) (e1.trans eb0) hpp (by simp; omega)) ?_
    rintro x3 h3 ⟨ac3, he3, _, _, _⟩
    have uc3 := ac3.sv.cells
    have ui3 := ac3.sv.isCell
    refine ⟨_, by simp; first | done | rfl, ?_⟩
    repeat(first|with_reducible first|refine vmR ?_|refine vmV rfl ?_|refine vmW rfl ?_|refine vmL ?_|refine blockW_y (by decide) ?_|((with_reducible first|apply vmO|apply vmT|apply vmC);case a=>simp [uc3, ui3];with_reducible first|exact .v|exact .c|exact .t|exact .f))
    (first | apply endW_r | apply endW_n); (case h1 => (simp [Tryz.results18]; first | done | rfl))
    have em3 : o.map encP ++ [.agg [.int .i64 p.fr, .int .i64 p.to, .str p.val]] = (overP ps p).map encP := by rw [← hx]; simp [encP]
    rw [em3] at ac3
    exact ⟨ac3.sv, he3⟩
  · repeat(first|with_reducible first|refine vmR ?_|refine vmV rfl ?_|refine vmW rfl ?_|refine vmL ?_|refine blockW_y (by decide) ?_|((with_reducible first|apply vmO|apply vmT|apply vmC);case a=>simp [t7, t8, uc, ui];with_reducible first|exact .v|exact .c|exact .t|exact .f))
    (first | apply endW_r | apply endW_n); (case h1 => (simp [Tryz.results18]; first | done | rfl))
    rw [← hx]
    exact ⟨hac.sv, e1⟩
end Go.Vn

set_option maxRecDepth 20000
namespace Go.Vn
open Go.Proofs

structure NoL (h : Hp Fm) (pl pn po : Nat) : Prop where
  l : Mp.get h.obj pl = some (.row [.ptr pn 0, .int .i64 0])
  n : Mp.get h.obj pn = some (.row [.str [], .nils, .rs po 0 1 false 8 8])
  o : Mp.get h.obj po = some (.row [.nilp, .nilp, .nilp, .nilp, .nilp, .nilp, .nilp, .nilp])
  ln : pl < h.no
  nn : pn < h.no
  on : po < h.no
theorem NoL.he {h h' : Hp Fm} {pl pn po : Nat} (k : NoL h pl pn po) (e : HE h h') : NoL h' pl pn po :=
  ⟨(e.obj _ k.ln).trans k.l, (e.obj _ k.nn).trans k.n, (e.obj _ k.on).trans k.o, Nat.lt_of_lt_of_le k.ln e.no, Nat.lt_of_lt_of_le k.nn e.no, Nat.lt_of_lt_of_le k.on e.no⟩

abbrev N8 : List AV := [.nilp, .nilp, .nilp, .nilp, .nilp, .nilp, .nilp, .nilp]
theorem len8 {L : List AV} (h : L.length = 8) : ∃ a b c d e f g i, L = [a, b, c, d, e, f, g, i] := by
  match L, h with
  | [a, b, c, d, e, f, g, i], _ => exact ⟨a, b, c, d, e, f, g, i, rfl⟩

set_option maxHeartbeats 4000000 in
theorem ahead_loop (key : Bs) (pl pn po b4 b5 : Nat) (h0 : Hp Fm) (k0 : NoL h0 pl pn po) (hb4 : h0.no ≤ b4) (hb5 : h0.no ≤ b5) (h45 : b4 ≠ b5) (bd : Code) (hbd : ∃ c, Tryz.f140.body = some (.seq c (.scope bd))) (rest : Code) (hrest : findLabel bd 0 = some rest) :
    ∀ (n : Nat) (t : Fm AV) (h : Hp Fm) (L : List AV), n < 8 → L.length = 8 → (∀ x ∈ L, x.isCell = true) → HE h0 h → Mp.get h.obj b5 = some (.row L) → Mp.get h.obj b4 = some (.row N8) → tget t 0 = .ptr pl 0 → tget t 1 = .str key → tget t 4 = .ptr b4 0 → tget t 5 = .ptr b5 0 → tget t 6 = .ptr pn 0 → tget t 7 = .int .i64 n →
      W Tryz.prog TT rest ⟨t, 39, h, none⟩ (jumpW Tryz.prog TT bd <| endW Tryz.prog Tryz.f140 fun r h' => (∃ L', r = .agg (.ptr pn 0 :: L') ∧ L'.length = 7) ∧ HE h0 h') := by
  obtain ⟨c, hb2⟩ := hbd
  have hb' : some (Code.seq c (.scope bd)) = Tryz.f140.body := hb2.symm
  injection hb' with hb'
  injection hb' with _ hb4'
  injection hb4' with hb3
  subst hb3
  injection hrest with hrest
  subst hrest
  intro n
  induction n with
  | zero =>
    intro t h L hn hL hcl he g5 g4 t0 t1 t4 t5 t6 t7
    clear hb2
    have kk := k0.he he
    have gn := kk.n
    have go := kk.o
    have ix : indexAddrAV Tryz.prog 224 (.ptr b5 0) (.int .i64 0) = some (.ptr b5 0) := by simp [indexAddrAV]
    have e7 : ((0 : Nat) : Int) = 0 := rfl
    rw [e7] at t7
    obtain ⟨a1, a2, a3, a4, a5, a6, a7, a8, rfl⟩ := len8 hL
    simp only [List.mem_cons, List.not_mem_nil, or_false, forall_eq_or_imp, forall_eq] at hcl
    obtain ⟨i1, i2, i3, i4, i5, i6, i7, i8⟩ := hcl
    have w1 : IntKind.i64.wrap (-1) = -1 := by rfl
    have w2 : IntKind.i64.wrap (0 - 1) = -1 := by rfl
    have h54 : b5 ≠ b4 := fun e => h45 e.symm
    simp only [N8] at g4
    repeat(first|with_reducible first|refine vmR ?_|refine vmV rfl ?_|refine vmW rfl ?_|refine vmL ?_|refine blockW_y (by decide) ?_|((with_reducible first|apply vmO|apply vmT|apply vmC);case a=>simp [t0, t1, t4, t5, t6, t7, gn, go, eqlAV];with_reducible first|exact .v|exact .c|exact .t|exact .f))
    repeat(first|with_reducible first|refine vmR ?_|refine vmV rfl ?_|refine vmW rfl ?_|refine vmL ?_|refine blockW_y (by decide) ?_|((with_reducible first|apply vmO|apply vmT|apply vmC);case a=>simp [t4, t5, t7, ix, g5, g4, h54, h45, splice, w1, w2, i2, i3, i4, i5, i6, i7, i8];with_reducible first|exact .v|exact .c|exact .t|exact .f))
    (first | apply endW_r | apply endW_n); (case h1 => (simp [Tryz.results140, t4]; first | done | rfl))
    exact ⟨⟨[a2, a3, a4, a5, a6, a7, a8], rfl, rfl⟩, (he.set hb5 _).set hb4 _⟩
  | succ n ih =>
    intro t h L hn hL hcl he g5 g4 t0 t1 t4 t5 t6 t7
    clear hb2
    have kk := k0.he he
    have gn := kk.n
    have go := kk.o
    have en : ((n + 1 : Nat) : Int) = (n : Int) + 1 := by omega
    obtain ⟨m, hm⟩ : ∃ m, m = n + 1 := ⟨_, rfl⟩
    rw [← hm] at t7
    have ixo : indexAddrAV Tryz.prog 189 (.rs po 0 1 false 8 8) (.int .i64 (m : Int)) = some (.ptr po m) := by
      rw [index_rs Tryz.underlying189 z188 (by omega) (by omega), Int.toNat_natCast, Nat.mul_one]
    have ix : indexAddrAV Tryz.prog 224 (.ptr b5 0) (.int .i64 (m : Int)) = some (.ptr b5 m) := by
      have : (m : Int) < 8 := by omega
      simp [indexAddrAV, this]
    have pao : partAV false 1 N8 m = some .nilp := by
      have : m = 1 ∨ m = 2 ∨ m = 3 ∨ m = 4 ∨ m = 5 ∨ m = 6 ∨ m = 7 := by omega
      rcases this with rfl | rfl | rfl | rfl | rfl | rfl | rfl <;> rfl
    have w1 : IntKind.i64.wrap ((m : Int) - 1) = (n : Int) := by rw [wrap64 (by omega) (by omega)]; omega
    have ll : m + 1 ≤ L.length := by omega
    have n0 : (0 : Int) ≤ n := by omega
    repeat(first|with_reducible first|refine vmR ?_|refine vmV rfl ?_|refine vmW rfl ?_|refine vmL ?_|refine blockW_y (by decide) ?_|((with_reducible first|apply vmO|apply vmT|apply vmC);case a=>simp [t0, t1, t4, t5, t6, t7, gn, go, eqlAV, ixo, pao];with_reducible first|exact .v|exact .c|exact .t|exact .f))
    repeat(first|with_reducible first|refine vmR ?_|refine vmV rfl ?_|refine vmW rfl ?_|refine vmL ?_|refine blockW_y (by decide) ?_|((with_reducible first|apply vmO|apply vmT|apply vmC);case a=>simp [t4, t5, t7, ix, g5, g4, ll, w1, n0];with_reducible first|exact .v|exact .c|exact .t|exact .f))
    refine jumpW_g rfl (WS_run ?_)
    have hb54 : b4 ≠ b5 := h45
    refine ih _ _ (splice L m [.ptr pn 0]) (by omega) (by simp [splice]; omega) ?_ (he.set hb5 _) (by simp) ?_ ?_ ?_ ?_ ?_ ?_ ?_
    · intro x hx
      simp only [splice, List.mem_append, List.mem_singleton] at hx
      rcases hx with (hx | rfl) | hx
      · exact hcl x (List.mem_of_mem_take hx)
      · rfl
      · exact hcl x (List.mem_of_mem_drop hx)
    · show Mp.get (Mp.set h.obj b5 _) b4 = _
      rw [Mp.get_set, if_neg h45]; exact g4
    all_goals simp [t0, t1, t4, t5, t6]

set_option maxHeartbeats 1000000 in
theorem ahead0 (key : Bs) (pl pn po : Nat) (h0 : Hp Fm) (k0 : NoL h0 pl pn po) :
    A Tryz.prog TT (.func 140) [.ptr pl 0, .str key] h0 (fun r h' => (∃ L', r = .agg (.ptr pn 0 :: L') ∧ L'.length = 7) ∧ HE h0 h') := by
  have z1 : h0.no ≠ h0.no + 1 := by omega
  have z2 : pl ≠ h0.no := Nat.ne_of_lt k0.ln
  have z3 : pl ≠ h0.no + 1 := by have := k0.ln; omega
  have gl := k0.l
  have e2 : ∀ a b, HE h0 { h0 with obj := Mp.set (Mp.set h0.obj h0.no a) (h0.no + 1) b, no := h0.no + 1 + 1 } := fun a b => ((HE.refl h0).new a).new b
  apply A_go Tryz.func140 rfl (by rfl); (case hn => (simp [Tryz.ntmps140]; rfl))
  repeat(first|with_reducible first|refine vmR ?_|refine vmV rfl ?_|refine vmW rfl ?_|refine blockW_y (by decide) ?_|((with_reducible first|apply vmO|apply vmT|apply vmC);case a=>simp [gl, z1, z2, z3];with_reducible first|exact .v|exact .c|exact .t|exact .f))
  refine W_label_i (thenW_n ?_)
  refine W_skip_seq ?_
  refine W_heap ?_
  intro hA hhA
  have eA : HE h0 hA := by rw [hhA]; exact e2 _ _
  have g4 : Mp.get hA.obj h0.no = some (.row N8) := by rw [hhA]; simp [N8]
  have g5 : Mp.get hA.obj (h0.no + 1) = some (.row N8) := by rw [hhA]; simp [N8]
  clear hhA
  refine W.mono (ahead_loop key pl pn po h0.no (h0.no + 1) h0 k0 (Nat.le_refl _) (by omega) z1 _ ⟨_, rfl⟩ _ rfl 7 _ hA N8 (by omega) rfl ?_ eA g5 g4 ?_ ?_ ?_ ?_ ?_ ?_) (jumpW_mono fun ee s => endW_mono fun r h' z => z)
  · intro x hx; simp [N8] at hx; rw [hx]; rfl
  all_goals simp
end Go.Vn

set_option maxRecDepth 20000
namespace Go.Vn
open Go.Proofs

theorem sfind0 (key : Bs) (pl pn po : Nat) (h0 : Hp Fm) (k0 : NoL h0 pl pn po) :
    A Tryz.prog TT (.func 124) [.ptr pl 0, .str key] h0 (fun r h' => r = .nilp ∧ HE h0 h') := by
  apply A_go Tryz.func124 rfl (by rfl); (case hn => (simp [Tryz.ntmps124]; rfl))
  repeat(first|with_reducible first|refine vmR ?_|refine vmV rfl ?_|refine vmW rfl ?_|refine vmL ?_|refine blockW_y (by decide) ?_|((with_reducible first|apply vmO|apply vmT|apply vmC);case a=>simp;with_reducible first|exact .v|exact .c|exact .t|exact .f))
  refine A.mono (ahead0 key pl pn po h0 k0) ?_
  rintro _ h1 ⟨⟨L', rfl, hl⟩, e1⟩
  have k1 := k0.he e1
  have gn := k1.n
  have go := k1.o
  have jx : indexAV Tryz.prog 224 (.agg (.ptr pn 0 :: L')) (.int .i64 0) = some (.ptr pn 0) := by
    simp [indexAV, partAV]
  have ixo : indexAddrAV Tryz.prog 189 (.rs po 0 1 false 8 8) (.int .i64 0) = some (.ptr po 0) := by
    rw [index_rs Tryz.underlying189 z188 (by omega) (by omega)]; rfl
  refine ⟨_, by simp; first | done | rfl, ?_⟩
  repeat(first|with_reducible first|refine vmR ?_|refine vmV rfl ?_|refine vmW rfl ?_|refine vmL ?_|refine blockW_y (by decide) ?_|((with_reducible first|apply vmO|apply vmT|apply vmC);case a=>simp [jx, gn, go, ixo, eqlAV];with_reducible first|exact .v|exact .c|exact .t|exact .f))
  (first | apply endW_r | apply endW_n); (case h1 => (simp [Tryz.results124]; first | done | rfl))
  exact ⟨rfl, e1⟩
theorem sget0 (key : Bs) (pl pn po : Nat) (h0 : Hp Fm) (k0 : NoL h0 pl pn po) :
    A Tryz.prog TT (.func 110) [.ptr pl 0, .str key] h0 (fun r h' => r = .tup [.nils, .bool false] ∧ HE h0 h') := by
  apply A_go Tryz.func110 rfl (by rfl); (case hn => (simp [Tryz.ntmps110]; rfl))
  repeat(first|with_reducible first|refine vmR ?_|refine vmV rfl ?_|refine vmW rfl ?_|refine vmL ?_|refine blockW_y (by decide) ?_|((with_reducible first|apply vmO|apply vmT|apply vmC);case a=>simp;with_reducible first|exact .v|exact .c|exact .t|exact .f))
  refine A.mono (sfind0 key pl pn po h0 k0) ?_
  rintro _ h1 ⟨rfl, e1⟩
  refine ⟨_, by simp; first | done | rfl, ?_⟩
  repeat(first|with_reducible first|refine vmR ?_|refine vmV rfl ?_|refine vmW rfl ?_|refine vmL ?_|refine blockW_y (by decide) ?_|((with_reducible first|apply vmO|apply vmT|apply vmC);case a=>simp [eqlAV];with_reducible first|exact .v|exact .c|exact .t|exact .f))
  (first | apply endW_r | apply endW_n); (case h1 => (simp [Tryz.results110]; first | done | rfl))
  exact ⟨rfl, e1⟩
theorem cof0 (key : Bs) (pc pl pn po : Nat) (h0 : Hp Fm) (k0 : NoL h0 pl pn po) (gc : Mp.get h0.obj pc = some (.row [.ptr pl 0, .int .i64 0])) :
    A Tryz.prog TT (.func 81) [.ptr pc 0, .str key] h0 (fun r h' => r = .nils ∧ HE h0 h') := by
  have cl : ∀ h : Hp Fm, A Tryz.prog TT (.func 103) [.nils] h (fun r h' => r = .nils ∧ h' = h) := fun h => by
    apply A_go Tryz.func103 rfl (by rfl); (case hn => (simp [Tryz.ntmps103]; rfl))
    repeat(first|with_reducible first|refine vmR ?_|refine vmV rfl ?_|refine vmW rfl ?_|refine vmL ?_|refine blockW_y (by decide) ?_|((with_reducible first|apply vmO|apply vmT|apply vmC);case a=>simp [eqlAV];with_reducible first|exact .v|exact .c|exact .t|exact .f))
    (first | apply endW_r | apply endW_n); (case h1 => (simp [Tryz.results103]; first | done | rfl))
    exact ⟨rfl, rfl⟩
  apply A_go Tryz.func81 rfl (by rfl); (case hn => (simp [Tryz.ntmps81]; rfl))
  repeat(first|with_reducible first|refine vmR ?_|refine vmV rfl ?_|refine vmW rfl ?_|refine vmL ?_|refine blockW_y (by decide) ?_|((with_reducible first|apply vmO|apply vmT|apply vmC);case a=>simp [gc];with_reducible first|exact .v|exact .c|exact .t|exact .f))
  refine A.mono (sget0 key pl pn po h0 k0) ?_
  rintro _ h1 ⟨rfl, e1⟩
  refine ⟨_, by simp; first | done | rfl, ?_⟩
  repeat(first|with_reducible first|refine vmR ?_|refine vmV rfl ?_|refine vmW rfl ?_|refine vmL ?_|refine blockW_y (by decide) ?_|((with_reducible first|apply vmO|apply vmT|apply vmC);case a=>simp;with_reducible first|exact .v|exact .c|exact .t|exact .f))
  refine A.mono (cl h1) ?_
  rintro _ h2 ⟨rfl, e2⟩
  rw [e2]
  refine ⟨_, by simp; first | done | rfl, ?_⟩
  repeat(first|with_reducible first|refine vmR ?_|refine vmV rfl ?_|refine vmW rfl ?_|refine vmL ?_|refine blockW_y (by decide) ?_|((with_reducible first|apply vmO|apply vmT|apply vmC);case a=>simp;with_reducible first|exact .v|exact .c|exact .t|exact .f))
  (first | apply endW_r | apply endW_n); (case h1 => (simp [Tryz.results81]; first | done | rfl))
  exact ⟨rfl, e1⟩

set_option maxHeartbeats 1000000 in
theorem mrows0 (key : Bs) (pm lo : Nat) (bs : List Br) (h0 : Hp Fm) (k0 : MemE h0 pm bs lo) (hp : h0.pol 187 = false) :
    A Tryz.prog TT (.func 52) [.ptr pm 0, .int .i64 0, .str key] h0 (fun r h' => SV 8 [] r ∧ HE h0 h') := by
  have k00 := k0
  obtain ⟨ok, pc, pl, pn, po, bv, a1, a2, a3, a4, a5, a6, b1, b2, b3, b4, b5, c⟩ := k0
  have vc := a6.cells
  have vi := a6.isCell
  have kn : NoL h0 pl pn po := ⟨a3, a4, a5, b3, b4, b5⟩
  have ob : orderP (pathB bs 0 10000) [] = [] := (orderP_is (ys := []) (by first | exact List.Pairwise.nil | exact trivial | simp [Sorted]) (fun x => by simp)).symm
  apply A_go Tryz.func52 rfl (by rfl); (case hn => (simp [Tryz.ntmps52]; rfl))
  repeat(first|with_reducible first|refine vmR ?_|refine vmV rfl ?_|refine vmW rfl ?_|refine vmL ?_|refine blockW_y (by decide) ?_|((with_reducible first|apply vmO|apply vmT|apply vmC);case a=>simp;with_reducible first|exact .v|exact .c|exact .t|exact .f))
  (with_reducible refine W_draw_id (pln := true) [0, 1, 2, 3, 4, 5, 6, 7, 8, 9, 10, 11, 12, 13] [(3, (3, [])), (9, (9, [0]))] (by kernel_rfl) rfl ?_)
  repeat(first|with_reducible first|refine vmR ?_|refine vmV rfl ?_|refine vmW rfl ?_|refine vmL ?_|refine blockW_y (by decide) ?_|((with_reducible first|apply vmO|apply vmT|apply vmC);case a=>simp [a1];with_reducible first|exact .v|exact .c|exact .t|exact .f))
  refine A.mono (cof0 key pc pl pn po _ (kn.he (HE.refl h0).drew) a2) ?_
  rintro _ h1 ⟨rfl, e1⟩
  refine ⟨_, by simp; first | done | rfl, ?_⟩
  have e01 := ((HE.refl h0).drew).trans e1
  have m1 := (e01.obj _ b1).trans a1
  repeat(first|with_reducible first|refine vmR ?_|refine vmV rfl ?_|refine vmW rfl ?_|refine vmL ?_|refine blockW_y (by decide) ?_|((with_reducible first|apply vmO|apply vmT|apply vmC);case a=>simp [a1, m1, vc, vi];with_reducible first|exact .v|exact .c|exact .t|exact .f))
  refine A.mono (tpath_ans lo bs bv ok 0 (by have := ok.ge; omega) 10000 h1 (RS.he a6 e01) (by rw [e01.pol]; exact hp)) ?_
  rintro r2 h2 ⟨ac2, e2⟩
  have rc := ac2.sv.cells
  have ri := ac2.sv.isCell
  refine ⟨_, by simp; first | done | rfl, ?_⟩
  repeat(first|with_reducible first|refine vmR ?_|refine vmV rfl ?_|refine vmW rfl ?_|refine vmL ?_|refine blockW_y (by decide) ?_|((with_reducible first|apply vmO|apply vmT|apply vmC);case a=>simp [rc, ri];with_reducible first|exact .v|exact .c|exact .t|exact .f))
  refine A.mono (order_ans (pathB bs 0 10000) r2 ac2.sv (by have := pathP_len bs (0 + 1) 0 10000; simp only [pathB]; omega) [] .nils (.inl ⟨rfl, rfl⟩) (by simp) h2) ?_
  rintro r3 h3 ⟨s3, _, e3⟩
  rw [ob] at s3
  have rc3 := s3.sv.cells
  have ri3 := s3.sv.isCell
  refine ⟨_, by simp; first | done | rfl, ?_⟩
  have e03 := e01.trans (e2.trans e3)
  have m2 := ((e2.trans e3).obj _ (Nat.lt_of_lt_of_le b1 e01.no)).trans m1
  have m3 := (e2.obj _ (Nat.lt_of_lt_of_le b1 e01.no)).trans m1
  repeat(first|with_reducible first|refine vmR ?_|refine vmV rfl ?_|refine vmW rfl ?_|refine vmL ?_|refine blockW_y (by decide) ?_|((with_reducible first|apply vmO|apply vmT|apply vmC);case a=>simp [rc3, ri3];with_reducible first|exact .v|exact .c|exact .t|exact .f))
  refine ⟨by simp [readSame, beqAV_self, a1, m1, m2, m3, vc, vi]; done, _, by simp; first | done | rfl, ?_⟩
  repeat(first|with_reducible first|refine vmR ?_|refine vmV rfl ?_|refine vmW rfl ?_|refine vmL ?_|refine blockW_y (by decide) ?_|((with_reducible first|apply vmO|apply vmT|apply vmC);case a=>simp;with_reducible first|exact .v|exact .c|exact .t|exact .f))
  (first | apply endW_r | apply endW_n); (case h1 => (simp [Tryz.results52]; first | done | rfl))
  exact ⟨s3.sv, e03⟩
end Go.Vn
