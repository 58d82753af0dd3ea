/- What functions of the program come to, in the value machine (a part of the proof of the claim's statement). No condition. -/
import Derived.Test.YtpodlpemlkkojaaVnI2
set_option linter.unusedSimpArgs false
set_option linter.unusedVariables false
set_option maxRecDepth 20000
namespace Go.Vn
open Go.Proofs

def ofK (k : List UInt8) (xs : List Ver) : List Ver := xs.filter fun a => eqB a.key k
theorem ofK_len (k : List UInt8) (xs : List Ver) : (ofK k xs).length ≤ xs.length := List.length_filter_le _ _

theorem of14_ans (k : List UInt8) (xs : List Ver) (v : AV) (hv : SV 8 (xs.map encV) v) (hxl : xs.length ≤ 1000) (h0 : Hp Fm) (hp0 : h0.pol 39 = false) :
    A Try.prog TT (.func 43) [v, .str k] h0 (fun r h' => SV 8 ((ofK k xs).map encV) r ∧ HE h0 h') := by
  have l1 := hv.len Try.underlying22
  rw [List.length_map] at l1
  have n1 := hv.nm
  have vc := hv.cells
  have vd := hv.isCell
  apply A_go Try.func43 rfl (by rfl); (case hn => (simp [Try.ntmps43]; rfl))
  repeat(first|with_reducible first|refine vmR ?_|refine vmV rfl ?_|refine vmW rfl ?_|refine vmL ?_|refine blockW_y (by decide) ?_|((with_reducible first|apply vmO|apply vmT|apply vmC);case a=>simp;with_reducible first|exact .v|exact .c|exact .t|exact .f))
  refine W_loop (fun m s => ∃ (t : Fm AV) (h : Hp Fm) (i : Nat) (o : AV), s = ⟨t, 28, h, none⟩ ∧ m = xs.length - i ∧ i ≤ xs.length ∧ tget t 0 = v ∧ tget t 1 = .str k ∧ tget t 5 = o ∧ tget t 6 = .int .i64 i ∧ AC h0 h 8 ((ofK k (xs.take i)).map encV) o ∧ HE h0 h) xs.length
    ⟨_, _, 0, .nils, rfl, rfl, Nat.zero_le _, by simp, by simp, by simp, by simp, .inl ⟨rfl, rfl⟩, HE.refl _⟩ ?_
  rintro m s ⟨t, h, i, o, rfl, rfl, hi, t0, t1, t5, t6, ho, he⟩
  have oc := ho.sv.cells
  have od := ho.sv.isCell
  by_cases qi : i < xs.length
  case neg =>
    have hie : i = xs.length := by omega
    have qn : ¬ (i < xs.length) := qi
    repeat(first|with_reducible first|refine vmR ?_|refine vmV rfl ?_|refine vmW rfl ?_|refine vmL ?_|refine blockW_y (by decide) ?_|((with_reducible first|apply vmO|apply vmT|apply vmC);case a=>simp [t0, t1, t5, t6, qi, qn, l1, n1, vc, vd, oc, od];with_reducible first|exact .v|exact .c|exact .t|exact .f))
    (first | apply endW_r | apply endW_n); (case h1 => (simp [Try.results43]; first | done | rfl))
    rw [hie, List.take_length] at ho
    exact ⟨by simpa using ho.sv, he⟩
  have i1 := hv.idx Try.underlying22 z39 (k := .i64) (i := i) (by simp) (by simpa using qi)
  simp only [List.getElem_map, Int.toNat_natCast] at i1
  have w1 : IntKind.i64.wrap ((i : Int) + 1) = ((i + 1 : Nat) : Int) := by rw [wrap64 (by omega) (by omega)]; simp
  have htk : ofK k (xs.take (i + 1)) = ofK k (xs.take i) ++ ofK k [xs[i]] := by
    unfold ofK; rw [List.take_succ_eq_append_getElem qi, List.filter_append]
  obtain ⟨x, hx⟩ : ∃ x, x = xs[i] := ⟨_, rfl⟩
  rw [← hx] at i1 htk
  have hph : h.pol 39 = false := by rw [he.pol]; exact hp0
  have hbl := ofK_len k (xs.take i)
  have hbt : (xs.take i).length ≤ 1000 := by rw [List.length_take]; omega
  cases qe : eqB x.key k
  · repeat(first|with_reducible first|refine vmR ?_|refine vmV rfl ?_|refine vmW rfl ?_|refine vmL ?_|refine blockW_y (by decide) ?_|((with_reducible first|apply vmO|apply vmT|apply vmC);case a=>simp [t0, t1, t5, t6, qi, l1, n1, vc, vd, i1, qe, w1];with_reducible first|exact .v|exact .c|exact .t|exact .f))
    exact ⟨xs.length - (i + 1), by omega, _, _, i + 1, o, rfl, rfl, by omega, by simp [t0], by simp [t1], by simp [t5], by simp, by rw [htk]; simpa [ofK, qe] using ho, he⟩
  · repeat(first|with_reducible first|refine vmR ?_|refine vmV rfl ?_|refine vmW rfl ?_|refine vmL ?_|refine blockW_y (by decide) ?_|((with_reducible first|apply vmO|apply vmT|apply vmC);case a=>simp [t0, t1, t5, t6, qi, l1, n1, vc, vd, i1, qe, oc, od, newSeq, newSl, hph];with_reducible first|exact .v|exact .c|exact .t|exact .f))
    with_reducible apply WO_app_i; (case hw => (simp [t0, t1, t5, t6, oc, od, newSeq, newSl, hph]; done)); (case ho => rfl); (case hb => rfl); (case ha => (simp [t0, t1, t5, t6, oc, od, newSeq, newSl, hph]; first | done | exact ⟨rfl, rfl⟩ | rfl)); (case h1 => (simp; first | done | rfl)); (case h2 => (simp; first | done | rfl))
    refine app_then (AC.app (h0 := h0) etv (ho.of ((HE.refl _).newSl 1)) (he.newSl 1) hp0 (by rw [List.length_map]; omega)) ?_
    rintro w3 h3 ⟨ac3, he3, _, _, _⟩
    have e3 := ac3.sv.cells
    have f3 := ac3.sv.isCell
    refine ⟨_, by simp; first | done | rfl, ?_⟩
    repeat(first|with_reducible first|refine vmR ?_|refine vmV rfl ?_|refine vmW rfl ?_|refine vmL ?_|refine blockW_y (by decide) ?_|((with_reducible first|apply vmO|apply vmT|apply vmC);case a=>simp [t0, t1, t5, t6, e3, f3, w1];with_reducible first|exact .v|exact .c|exact .t|exact .f))
    refine ⟨xs.length - (i + 1), by omega, _, _, i + 1, w3, rfl, rfl, by omega, by simp [t0], by simp [t1], by simp, by simp, ?_, he3⟩
    rw [htk]
    simpa [ofK, qe] using ac3

@[simp] def encR (p : List UInt8 × List UInt8) : AV := .agg [.str p.1, .str p.2]
theorem guPR : (Try.prog.stoodInHeld 72 || Try.prog.eqGuardType Try.prog.depth 72) = false := by kernel_rfl
theorem eqlPR (x y : List UInt8 × List UInt8) : eqlAV Try.prog 20 72 (encR x) (encR y) = some (decide (x = y)) := by
  obtain ⟨k1, v1⟩ := x
  obtain ⟨k2, v2⟩ := y
  unfold eqlAV
  simp only [Try.underlying72, guPR, List.toList_toArray, List.foldr_cons, List.foldr_nil]
  simp [eql9, eqB_iff]
  by_cases h1 : k1 = k2 <;> by_cases h2 : v1 = v2 <;> simp [h1, h2]
theorem etR : ElT Try.prog 49 72 2 32 true (.agg [.str [], .str []]) := ⟨Try.underlying49, z72, b72, a72, t72, rfl, rfl, (fun h => by first | rfl | cases h), by omega, by omega⟩

set_option maxHeartbeats 1000000 in
theorem pairs14_ans (a b : List (List UInt8 × List UInt8)) (u v : AV) (h0 : Hp Fm) (ka : SV 2 (a.map encR) u) (kb : SV 2 (b.map encR) v) (hl : a.length ≤ 1000000) (hl2 : b.length ≤ 1000000) :
    A Try.prog TT (.func 18) [u, v] h0 (fun r h' => r = .bool (decide (a = b)) ∧ HE h0 h') := by
  have c1 := ka.cells
  have i1 := ka.isCell
  have n1 := ka.nm
  have l1 := ka.len Try.underlying49
  rw [List.length_map] at l1
  have c2 := kb.cells
  have i2 := kb.isCell
  have n2 := kb.nm
  have l2 := kb.len Try.underlying49
  rw [List.length_map] at l2
  by_cases ql : a.length = b.length
  case neg =>
    have ql' : ¬ (a.length : Int) = b.length := by omega
    have ne : ¬ a = b := fun z => ql (by rw [z])
    apply A_go Try.func18 rfl (by rfl); (case hn => (simp [Try.ntmps18]; rfl))
    repeat(first|with_reducible first|refine vmR ?_|refine vmV rfl ?_|refine vmW rfl ?_|refine vmL ?_|refine blockW_y (by decide) ?_|((with_reducible first|apply vmO|apply vmT|apply vmC);case a=>simp [c1, i1, n1, l1, c2, i2, n2, l2, ql, ql'];with_reducible first|exact .v|exact .c|exact .t|exact .f))
    (first | apply endW_r | apply endW_n); (case h1 => (simp [Try.results18]; first | done | rfl))
    exact ⟨by simp [ne], HE.refl h0⟩
  rw [← ql] at l2
  apply A_go Try.func18 rfl (by rfl); (case hn => (simp [Try.ntmps18]; rfl))
  repeat(first|with_reducible first|refine vmR ?_|refine vmV rfl ?_|refine vmW rfl ?_|refine vmL ?_|refine blockW_y (by decide) ?_|((with_reducible first|apply vmO|apply vmT|apply vmC);case a=>simp [c1, i1, n1, l1, c2, i2, n2, l2];with_reducible first|exact .v|exact .c|exact .t|exact .f))
  refine W_loop (fun m s => ∃ (t : Fm AV) (h : Hp Fm) (i : Nat), s = ⟨t, 26, h, none⟩ ∧ m = a.length - i ∧ i ≤ a.length ∧ decide (a.drop i = b.drop i) = decide (a = b) ∧ tget t 0 = u ∧ tget t 1 = v ∧ tget t 5 = .int .i64 i ∧ HE h0 h) a.length
    ⟨_, _, 0, rfl, rfl, by omega, rfl, by simp, by simp, by simp, HE.refl h0⟩ ?_
  rintro m s ⟨t, h, i, rfl, rfl, hi, hd, t0, t1, t5, he⟩
  by_cases q : i < a.length
  case neg =>
    have q' : ¬ (i : Int) < a.length := by omega
    repeat(first|with_reducible first|refine vmR ?_|refine vmV rfl ?_|refine vmW rfl ?_|refine vmL ?_|refine blockW_y (by decide) ?_|((with_reducible first|apply vmO|apply vmT|apply vmC);case a=>simp [t0, t1, t5, q, q', n1, l1, c1, i1];with_reducible first|exact .v|exact .c|exact .t|exact .f))
    (first | apply endW_r | apply endW_n); (case h1 => (simp [Try.results18]; first | done | rfl))
    rw [← hd, List.drop_eq_nil_iff.mpr (by omega), List.drop_eq_nil_iff.mpr (by omega)]
    exact ⟨by simp, he⟩
  have q' : (i : Int) < a.length := by omega
  have ix := ka.idx (k := .i64) (i := (i : Int)) Try.underlying49 z72 (by omega) (by simp; omega)
  have iy := kb.idx (k := .i64) (i := (i : Int)) Try.underlying49 z72 (by omega) (by simp; omega)
  have e1 : a.drop i = a[i] :: a.drop (i + 1) := List.drop_eq_getElem_cons q
  have e2 : b.drop i = b[i]'(by omega) :: b.drop (i + 1) := List.drop_eq_getElem_cons (by omega)
  rw [e1, e2] at hd
  obtain ⟨x, hx⟩ : ∃ x, x = a[i] := ⟨_, rfl⟩
  obtain ⟨y, hy⟩ : ∃ y, y = b[i]'(by omega) := ⟨_, rfl⟩
  have igx : (a.map encR)[i]'(by simp; omega) = encR x := by simp [hx]
  have igy : (b.map encR)[i]'(by simp; omega) = encR y := by simp [hy]
  simp only [Int.toNat_natCast, igx] at ix
  simp only [Int.toNat_natCast, igy] at iy
  rw [← hx, ← hy] at hd
  have w1 : IntKind.i64.wrap ((i : Int) + 1) = ((i + 1 : Nat) : Int) := by rw [wrap64 (by omega) (by omega)]; simp
  have eq := eqlPR x y
  obtain ⟨o, ho⟩ : ∃ o, o = decide (x = y) := ⟨_, rfl⟩
  rw [← ho] at eq
  obtain ⟨k1, v1⟩ := x
  obtain ⟨k2, v2⟩ := y
  simp only [encR] at eq
  cases o with
  | true =>
    have exy := of_decide_eq_true ho.symm
    repeat(first|with_reducible first|refine vmR ?_|refine vmV rfl ?_|refine vmW rfl ?_|refine vmL ?_|refine blockW_y (by decide) ?_|((with_reducible first|apply vmO|apply vmT|apply vmC);case a=>simp [t0, t1, t5, q, q', n1, l1, c1, i1];with_reducible first|exact .v|exact .c|exact .t|exact .f))
    (with_reducible refine W_draw_id (pln := true) [0, 1, 2, 3, 4, 5, 6, 7, 8] [(3, (3, [])), (7, (7, []))] (by kernel_rfl) rfl ?_)
    repeat(first|with_reducible first|refine vmR ?_|refine vmV rfl ?_|refine vmW rfl ?_|refine vmL ?_|refine blockW_y (by decide) ?_|((with_reducible first|apply vmO|apply vmT|apply vmC);case a=>simp [t0, t1, t5, c1, i1, c2, i2, ix, iy, eq];with_reducible first|exact .v|exact .c|exact .t|exact .f))
    refine ⟨by simp [readSame, beqAV_self, t0, t1, ix, iy]; done, _, by simp; first | done | rfl, ?_⟩
    repeat(first|with_reducible first|refine vmR ?_|refine vmV rfl ?_|refine vmW rfl ?_|refine vmL ?_|refine blockW_y (by decide) ?_|((with_reducible first|apply vmO|apply vmT|apply vmC);case a=>simp [t5, w1];with_reducible first|exact .v|exact .c|exact .t|exact .f))
    refine ⟨a.length - (i + 1), by omega, _, _, i + 1, rfl, rfl, by omega, ?_, by simp [t0], by simp [t1], by simp, he.drew⟩
    rw [← hd, exy]; simp
  | false =>
    have nxy := of_decide_eq_false ho.symm
    repeat(first|with_reducible first|refine vmR ?_|refine vmV rfl ?_|refine vmW rfl ?_|refine vmL ?_|refine blockW_y (by decide) ?_|((with_reducible first|apply vmO|apply vmT|apply vmC);case a=>simp [t0, t1, t5, q, q', n1, l1, c1, i1];with_reducible first|exact .v|exact .c|exact .t|exact .f))
    (with_reducible refine W_draw_id (pln := true) [0, 1, 2, 3, 4, 5, 6, 7, 8] [(3, (3, [])), (7, (7, []))] (by kernel_rfl) rfl ?_)
    repeat(first|with_reducible first|refine vmR ?_|refine vmV rfl ?_|refine vmW rfl ?_|refine vmL ?_|refine blockW_y (by decide) ?_|((with_reducible first|apply vmO|apply vmT|apply vmC);case a=>simp [t0, t1, t5, c1, i1, c2, i2, ix, iy, eq];with_reducible first|exact .v|exact .c|exact .t|exact .f))
    refine ⟨by simp [readSame, beqAV_self, t0, t1, ix, iy]; done, _, by simp; first | done | rfl, ?_⟩
    repeat(first|with_reducible first|refine vmR ?_|refine vmV rfl ?_|refine vmW rfl ?_|refine vmL ?_|refine blockW_y (by decide) ?_|((with_reducible first|apply vmO|apply vmT|apply vmC);case a=>simp;with_reducible first|exact .v|exact .c|exact .t|exact .f))
    (first | apply endW_r | apply endW_n); (case h1 => (simp [Try.results18]; first | done | rfl))
    refine ⟨?_, he.drew⟩
    rw [← hd, decide_eq_false]
    intro z
    exact nxy (List.cons.inj z).1

noncomputable def scanP (path : List Lg) (xs : List Ver) (tm : Int) (ks : List (List UInt8)) : List (List UInt8 × List UInt8) :=
  ks.filterMap fun k => (getF (orderP path (ofK k xs)) tm).map fun s => (k, s)
theorem scanP_len (path : List Lg) (xs : List Ver) (tm : Int) (ks : List (List UInt8)) : (scanP path xs tm ks).length ≤ ks.length := List.length_filterMap_le _ _
theorem scanP_app (path : List Lg) (xs : List Ver) (tm : Int) (ks ls : List (List UInt8)) : scanP path xs tm (ks ++ ls) = scanP path xs tm ks ++ scanP path xs tm ls := List.filterMap_append

set_option maxHeartbeats 2000000 in
theorem scan14_ans (path : List Lg) (vp : AV) (hvp : SV 2 (path.map encL) vp) (hl : path.length ≤ 1000) (xs : List Ver) (v : AV) (hv : SV 8 (xs.map encV) v) (hxl : xs.length ≤ 1000) (tm : Int) (h0 : Hp Fm) (hpol : ∀ e, h0.pol e = false) :
    A Try.prog TT (.func 20) [v, vp, .int .i64 tm] h0 (fun r h' => ∃ ks : List (List UInt8), SV 2 ((scanP path xs tm ks).map encR) r ∧ Str ks ∧ (∀ k, k ∈ ks ↔ ∃ a ∈ xs, a.key = k) ∧ ks.length ≤ xs.length ∧ HE h0 h') := by
  have vc := hv.cells
  have vd := hv.isCell
  have pc := hvp.cells
  have pd := hvp.isCell
  have hp0 := hpol 39
  have hpr := hpol 72
  apply A_go Try.func20 rfl (by rfl); (case hn => (simp [Try.ntmps20]; rfl))
  repeat(first|with_reducible first|refine vmR ?_|refine vmV rfl ?_|refine vmW rfl ?_|refine vmL ?_|refine blockW_y (by decide) ?_|((with_reducible first|apply vmO|apply vmT|apply vmC);case a=>simp [vc, vd];with_reducible first|exact .v|exact .c|exact .t|exact .f))
  refine A.mono (keys14_ans xs v hv hxl _ (hpol _)) ?_
  rintro w h1 ⟨ks, hw, hks1, hks2, hks3, he1⟩
  have l1 := hw.len Try.underlying74
  rw [List.length_map] at l1
  have n1 := hw.nm
  have wc := hw.cells
  have wd := hw.isCell
  refine ⟨_, by simp; first | done | rfl, ?_⟩
  repeat(first|with_reducible first|refine vmR ?_|refine vmV rfl ?_|refine vmW rfl ?_|refine vmL ?_|refine blockW_y (by decide) ?_|((with_reducible first|apply vmO|apply vmT|apply vmC);case a=>simp [wc, wd];with_reducible first|exact .v|exact .c|exact .t|exact .f))
  refine W_loop (fun m s => ∃ (t : Fm AV) (h : Hp Fm) (i : Nat) (o : AV), s = ⟨t, 43, h, none⟩ ∧ m = ks.length - i ∧ i ≤ ks.length ∧ tget t 0 = v ∧ tget t 1 = vp ∧ tget t 2 = .int .i64 tm ∧ tget t 7 = o ∧ tget t 8 = w ∧ tget t 9 = .int .i64 i ∧ AC h0 h 2 ((scanP path xs tm (ks.take i)).map encR) o ∧ HE h0 h) ks.length
    ⟨_, _, 0, .nils, rfl, rfl, Nat.zero_le _, by simp, by simp, by simp, by simp, by simp, by simp, .inl ⟨rfl, rfl⟩, he1⟩ ?_
  clear he1 h1
  rintro m s ⟨t, h, i, o, rfl, rfl, hi, t0, t1, t2, t7, t8, t9, ho, he⟩
  have oc := ho.sv.cells
  have od := ho.sv.isCell
  by_cases qi : i < ks.length
  case neg =>
    have hie : i = ks.length := by omega
    have qn : ¬ (i < ks.length) := qi
    repeat(first|with_reducible first|refine vmR ?_|refine vmV rfl ?_|refine vmW rfl ?_|refine vmL ?_|refine blockW_y (by decide) ?_|((with_reducible first|apply vmO|apply vmT|apply vmC);case a=>simp [t0, t1, t2, t7, t8, t9, qi, qn, l1, n1, wc, wd, oc, od];with_reducible first|exact .v|exact .c|exact .t|exact .f))
    (first | apply endW_r | apply endW_n); (case h1 => (simp [Try.results20]; first | done | rfl))
    rw [hie, List.take_length] at ho
    exact ⟨ks, by simpa using ho.sv, hks1, hks2, hks3, he⟩
  have i1 := hw.idx Try.underlying74 z9 (k := .i64) (i := i) (by simp) (by simpa using qi)
  simp only [List.getElem_map, Int.toNat_natCast] at i1
  have w1 : IntKind.i64.wrap ((i : Int) + 1) = ((i + 1 : Nat) : Int) := by rw [wrap64 (by omega) (by omega)]; simp
  have htk : scanP path xs tm (ks.take (i + 1)) = scanP path xs tm (ks.take i) ++ scanP path xs tm [ks[i]] := by
    rw [List.take_succ_eq_append_getElem qi, scanP_app]
  obtain ⟨k, hk⟩ : ∃ k, k = ks[i] := ⟨_, rfl⟩
  rw [← hk] at i1 htk
  have hbl := scanP_len path xs tm (ks.take i)
  have hbt : (ks.take i).length ≤ 1000 := by rw [List.length_take]; omega
  have hok := ofK_len k xs
  repeat(first|with_reducible first|refine vmR ?_|refine vmV rfl ?_|refine vmW rfl ?_|refine vmL ?_|refine blockW_y (by decide) ?_|((with_reducible first|apply vmO|apply vmT|apply vmC);case a=>simp [t0, t1, t2, t7, t8, t9, qi, l1, n1, wc, wd, vc, vd, pc, pd, i1];with_reducible first|exact .v|exact .c|exact .t|exact .f))
  refine A.mono (of14_ans k xs v hv hxl h (by rw [he.pol]; exact hp0)) ?_
  rintro u h2 ⟨hu, he2⟩
  have uc := hu.cells
  have ud := hu.isCell
  refine ⟨_, by simp; first | done | rfl, ?_⟩
  repeat(first|with_reducible first|refine vmR ?_|refine vmV rfl ?_|refine vmW rfl ?_|refine vmL ?_|refine blockW_y (by decide) ?_|((with_reducible first|apply vmO|apply vmT|apply vmC);case a=>simp [t0, t1, t2, t7, t8, t9, uc, ud, pc, pd];with_reducible first|exact .v|exact .c|exact .t|exact .f))
  refine A.mono (get14_ans path vp hvp hl (ofK k xs) u hu (by omega) tm h2 (by rw [he2.pol, he.pol]; exact hp0)) ?_
  rintro _ h3 ⟨rfl, he3⟩
  have he3' := (he.trans he2).trans he3
  have ho3 := ho.of (he2.trans he3)
  have hph : h3.pol 72 = false := by rw [he3'.pol]; exact hpr
  cases qg : getF (orderP path (ofK k xs)) tm with
  | none =>
    refine ⟨_, by simp [outG]; first | done | rfl, ?_⟩
    repeat(first|with_reducible first|refine vmR ?_|refine vmV rfl ?_|refine vmW rfl ?_|refine vmL ?_|refine blockW_y (by decide) ?_|((with_reducible first|apply vmO|apply vmT|apply vmC);case a=>simp [t0, t1, t2, t7, t8, t9, outG, w1];with_reducible first|exact .v|exact .c|exact .t|exact .f))
    refine ⟨ks.length - (i + 1), by omega, _, _, i + 1, o, rfl, rfl, by omega, by simp [t0], by simp [t1], by simp [t2], by simp [t7], by simp [t8], by simp, ?_, he3'⟩
    rw [htk]
    simpa [scanP, qg] using ho3
  | some s =>
    refine ⟨_, by simp [outG]; first | done | rfl, ?_⟩
    repeat(first|with_reducible first|refine vmR ?_|refine vmV rfl ?_|refine vmW rfl ?_|refine vmL ?_|refine blockW_y (by decide) ?_|((with_reducible first|apply vmO|apply vmT|apply vmC);case a=>simp [t0, t1, t2, t7, t8, t9, outG, oc, od, wc, wd, i1, newSeq, newSl, hph];with_reducible first|exact .v|exact .c|exact .t|exact .f))
    with_reducible apply WO_app_i; (case hw => (simp [t0, t1, t2, t7, t8, t9, outG, oc, od, newSeq, newSl, hph]; done)); (case ho => rfl); (case hb => rfl); (case ha => (simp [t0, t1, t2, t7, t8, t9, outG, oc, od, newSeq, newSl, hph]; first | done | exact ⟨rfl, rfl⟩ | rfl)); (case h1 => (simp; first | done | rfl)); (case h2 => (simp; first | done | rfl))
    refine app_then (AC.app (h0 := h0) etR (ho3.of ((HE.refl _).newSl 1)) (he3'.newSl 1) hpr (by rw [List.length_map]; omega)) ?_
    rintro w3 h4 ⟨ac3, he4, _, _, _⟩
    have e3 := ac3.sv.cells
    have f3 := ac3.sv.isCell
    refine ⟨_, by simp; first | done | rfl, ?_⟩
    repeat(first|with_reducible first|refine vmR ?_|refine vmV rfl ?_|refine vmW rfl ?_|refine vmL ?_|refine blockW_y (by decide) ?_|((with_reducible first|apply vmO|apply vmT|apply vmC);case a=>simp [t0, t1, t2, t7, t8, t9, e3, f3, w1];with_reducible first|exact .v|exact .c|exact .t|exact .f))
    refine ⟨ks.length - (i + 1), by omega, _, _, i + 1, w3, rfl, rfl, by omega, by simp [t0], by simp [t1], by simp [t2], by simp, by simp [t8], by simp, ?_, he4⟩
    rw [htk]
    simpa [scanP, qg] using ac3
end Go.Vn

set_option maxRecDepth 20000
namespace Go.Vn
open Go.Proofs

theorem WT_app_i {P : Program} {T : Tab} {ops : Array Oper} {o : Oper} {rest : List Oper} {st : St Fm} {acc : List (St Fm)} {Q : List (St Fm) → Prop} {c : Call} {s x : AV} {t1 t2 : Nat} (hw : want ops st.t o = some true) (ho : o.op = .call c) (hb : c.callee = .builtin .append)
    (ha : c.args.toList.map (ev st.t) = [s, x]) (h1 : c.argTypes[0]? = some t1) (h2 : c.argTypes[1]? = some t2)
    (h : ∃ r h', appendAV P st.h t1 t2 s x = some (r, h') ∧ ∃ s', put { st with h := h' } o.dst r = some s' ∧ WT P T ops rest s' (st :: acc) Q) : WT P T ops (o :: rest) st acc Q := by
  obtain ⟨r, h', e1, s', e2, e3⟩ := h
  refine WT_val_i (v := r) (h' := h') hw ?_ e2 e3
  simp only [opEff, ho, hb, builtinAV, ha, h1, h2, Option.bind_some, e1, valh, Option.map_some]

theorem app_own {P : Program} {t e sz by_ : Nat} {ag : Bool} {z : AV} (et : ElT P t e sz by_ ag z) {h : Hp Fm} {acc : List AV} {v x : AV} {g' o' c' : Nat}
    (k : (v = .nils ∧ acc = []) ∨ ∃ g off cap, v = .sl g off sz cap acc ∧ Mp.get h.len g = some (off + acc.length) ∧ g < h.ng) (hp : h.pol e = false) (hl : (acc.length + 1) * by_ ≤ 2 ^ 40) :
    ∃ r h', appendAV P h t t v (.sl g' o' sz c' [x]) = some (r, h') ∧ ∃ g off cap, r = .sl g off sz cap (acc ++ [x]) ∧ Mp.get h'.len g = some (off + (acc.length + 1)) ∧ g < h'.ng ∧ (∀ q, q < h.ng → q ≠ g → Mp.get h'.len q = Mp.get h.len q) ∧ ((∃ off0 cap0, v = .sl g off0 sz cap0 acc) ∨ g = h.ng) ∧ h'.obj = h.obj ∧ h'.no = h.no ∧ h.ng ≤ h'.ng ∧ h'.pol = h.pol := by
  have hok := et.ok
  have hd : ¬ (isIntD (.slice e) = true) := by simp [isIntD]
  have hx : newEls h sz ag (.sl g' o' sz c' [x]) = some [x] := SV.newEls (.inr (.inl ⟨g', o', c', rfl⟩))
  have base : appendAV P h t t v (.sl g' o' sz c' [x]) = appendTo h e sz by_ ag z v [x] := by
    unfold appendAV
    simp only [et.u, if_neg hd, et.s, et.g, et.b, et.zz, hx, Option.bind_some, if_neg hok]
  rw [base]
  unfold appendTo
  rcases k with ⟨rfl, rfl⟩ | ⟨g, off, cap, rfl, hf, hg⟩
  · have hl' : by_ ≤ 1099511627776 := by simpa using hl
    refine ⟨_, _, by simp [newSeq, hp, Hp.drew, newSl, hl']; exact ⟨rfl, rfl⟩, ?_⟩
    exact ⟨h.ng, 0, _, rfl, by simp [Mp.get_set, Hp.drew], by simp [Hp.drew], fun q hq hn => by simp [Mp.get_set, Hp.drew, hn], .inr rfl, rfl, rfl, Nat.le_succ _, rfl⟩
  · have hl' : (acc.length + 1) * by_ ≤ 1099511627776 := by simpa using hl
    by_cases hc : cap < acc.length + 1
    · refine ⟨_, _, by simp [newSeq, hp, Hp.drew, newSl, hl', hc]; exact ⟨rfl, rfl⟩, ?_⟩
      exact ⟨h.ng, 0, _, rfl, by simp [Mp.get_set, Hp.drew], by simp [Hp.drew], fun q hq hn => by simp [Mp.get_set, Hp.drew, hn], .inr rfl, rfl, rfl, Nat.le_succ _, rfl⟩
    · refine ⟨_, _, by simp [hf, hl', hc]; exact ⟨rfl, rfl⟩, ?_⟩
      exact ⟨g, off, cap, rfl, by simp [Mp.get_set]; omega, hg, fun q hq hn => by simp [Mp.get_set, hn], .inl ⟨off, cap, rfl⟩, rfl, rfl, Nat.le_refl _, rfl⟩

abbrev SlE : Type := List Ver × Nat × Nat × Nat
def SlR (a : SlE) (v : AV) : Prop := v = .sl a.2.1 a.2.2.1 8 a.2.2.2 (a.1.map encV)

theorem setF_keys {α : Type} {k : List UInt8} {a : α} {clk : Nat} (fs : Ents α) : (setF k a clk fs).map (·.1) = if (lookF k fs).isSome then fs.map (·.1) else fs.map (·.1) ++ [k] := by
  induction fs with
  | nil => rfl
  | cons g fs ih =>
    simp only [setF, lookF]
    split
    · rename_i hg; simp [hg]
    · simp only [List.map_cons, ih]
      split <;> simp
theorem lookF_mem {α : Type} {k : List UInt8} {fs : Ents α} : k ∈ fs.map (·.1) ↔ (lookF k fs).isSome = true := by
  induction fs with
  | nil => simp [lookF]
  | cons g fs ih =>
    simp only [lookF, List.map_cons, List.mem_cons]
    split
    · rename_i hg; simp [hg]
    · rename_i hg; rw [ih]
      exact ⟨fun q => q.elim (fun e => absurd e.symm hg) id, .inr⟩

theorem ofK_app (k : List UInt8) (ys : List Ver) (x : Ver) : ofK k (ys ++ [x]) = if k = x.key then ofK k ys ++ [x] else ofK k ys := by
  unfold ofK
  rw [List.filter_append]
  by_cases q : k = x.key
  · subst q; simp [eqB_self]
  · have : eqB x.key k = false := by rw [eqB_iff]; simp; exact fun e => q e.symm
    simp [q, this]

structure MV (h0 h : Hp Fm) (ys : List Ver) (fs : Ents SlE) : Prop where
  own : ∀ k a, lookF k fs = some a → Mp.get h.len a.2.1 = some (a.2.2.1 + a.1.length) ∧ a.2.1 < h.ng ∧ h0.ng ≤ a.2.1 ∧ a.1 = ofK k ys ∧ a.1 ≠ []
  apart : ∀ k k' a a', lookF k fs = some a → lookF k' fs = some a' → a.2.1 = a'.2.1 → k = k'
  no : ∀ k, lookF k fs = none → ofK k ys = []
  nd : (fs.map (·.1)).Nodup
  len : fs.length ≤ ys.length
theorem MV.of {h0 h h' : Hp Fm} {ys : List Ver} {fs : Ents SlE} (k : MV h0 h ys fs) (he : HE h h') : MV h0 h' ys fs :=
  ⟨fun q a ha => by obtain ⟨a1, a2, a3⟩ := k.own q a ha; exact ⟨(he.len _ a2).trans a1, Nat.lt_of_lt_of_le a2 he.ng, a3⟩, k.apart, k.no, k.nd, k.len⟩
theorem MV.put {h0 h h' : Hp Fm} {ys : List Ver} {fs : Ents SlE} {x : Ver} {g off cap clk : Nat} (k : MV h0 h ys fs) (h1 : Mp.get h'.len g = some (off + ((ofK x.key ys).length + 1))) (h2 : g < h'.ng) (h3 : h0.ng ≤ g)
    (h4 : ∀ q, q < h.ng → q ≠ g → Mp.get h'.len q = Mp.get h.len q) (h5 : h.ng ≤ h'.ng) (h6 : (∃ a, lookF x.key fs = some a ∧ a.2.1 = g) ∨ h.ng ≤ g) :
    MV h0 h' (ys ++ [x]) (setF x.key ((ofK x.key ys ++ [x], g, off, cap) : SlE) clk fs) := by
  have hne : ∀ q a, q ≠ x.key → lookF q fs = some a → a.2.1 ≠ g := fun q a hq ha e => by
    rcases h6 with ⟨b, hb, e2⟩ | h6
    · exact hq (k.apart q x.key a b ha hb (e.trans e2.symm))
    · have := (k.own q a ha).2.1; omega
  refine ⟨fun q a ha => ?_, fun q q' a a' ha ha' e => ?_, fun q hq => ?_, ?_, ?_⟩
  · rw [lookF_setF] at ha
    rw [ofK_app]
    by_cases e : q = x.key
    · rw [if_pos e] at ha ⊢
      cases ha
      subst e
      exact ⟨by simpa using h1, h2, h3, rfl, by simp⟩
    · rw [if_neg e] at ha ⊢
      obtain ⟨a1, a2, a3, a4⟩ := k.own q a ha
      exact ⟨(h4 _ a2 (hne q a e ha)).trans a1, Nat.lt_of_lt_of_le a2 h5, a3, a4⟩
  · rw [lookF_setF] at ha ha'
    by_cases c1 : q = x.key
    · by_cases c2 : q' = x.key
      · rw [c1, c2]
      · rw [if_pos c1] at ha; rw [if_neg c2] at ha'
        cases ha
        exact (hne q' a' c2 ha' e.symm).elim
    · by_cases c2 : q' = x.key
      · rw [if_neg c1] at ha; rw [if_pos c2] at ha'
        cases ha'
        exact (hne q a c1 ha e).elim
      · rw [if_neg c1] at ha; rw [if_neg c2] at ha'
        exact k.apart q q' a a' ha ha' e
  · rw [lookF_setF] at hq
    by_cases e : q = x.key
    · rw [if_pos e] at hq; cases hq
    · rw [if_neg e] at hq
      rw [ofK_app, if_neg e]
      exact k.no q hq
  · rw [setF_keys]
    split
    · exact k.nd
    · rename_i hs
      rw [List.nodup_append]
      refine ⟨k.nd, by simp, fun a ha b hb e => ?_⟩
      rw [List.mem_singleton.mp hb] at e
      rw [e] at ha
      exact hs (lookF_mem.mp ha)
  · have := congrArg List.length (setF_keys (k := x.key) (a := ((ofK x.key ys ++ [x], g, off, cap) : SlE)) (clk := clk) fs)
    rw [List.length_map] at this
    rw [this]
    have := k.len
    split
    · rw [List.length_map]; simp; omega
    · simp; omega
theorem MV.keys {h0 h : Hp Fm} {ys : List Ver} {fs : Ents SlE} (k : MV h0 h ys fs) (q : List UInt8) : q ∈ fs.map (·.1) ↔ ∃ a ∈ ys, a.key = q := by
  rw [lookF_mem]
  constructor
  · intro hs
    obtain ⟨a, ha⟩ := Option.isSome_iff_exists.mp hs
    obtain ⟨_, _, _, e, hn⟩ := k.own q a ha
    cases hq : ofK q ys with
    | nil => exact (hn (e.trans hq)).elim
    | cons y l =>
      have : y ∈ ofK q ys := by rw [hq]; exact List.mem_cons_self
      obtain ⟨m1, m2⟩ := List.mem_filter.mp this
      exact ⟨y, m1, by rw [eqB_iff] at m2; exact of_decide_eq_true m2⟩
  · rintro ⟨y, hy, rfl⟩
    cases hq : lookF y.key fs with
    | some a => rfl
    | none =>
      have := k.no _ hq
      have hm : y ∈ ofK y.key ys := List.mem_filter.mpr ⟨hy, by rw [eqB_self]⟩
      rw [this] at hm; cases hm
theorem MV.look {h0 h : Hp Fm} {ys : List Ver} {fs : Ents SlE} {es : List (AV × AV × Nat)} {m clk : Nat} (k : MV h0 h ys fs) (he : EntsR SlR fs es) (q : List UInt8) :
    ∃ v, (∀ h' : Hp Fm, Mp.get h'.obj m = some (.mp es clk) → lookupAV Try.prog h' 73 (.mp m) (.str q) false = some v) ∧ SL 8 ((ofK q ys).map encV) v ∧
      ((v = .nils ∧ (ofK q ys).map encV = [] ∧ lookF q fs = none) ∨ ∃ g off cap a, v = .sl g off 8 cap ((ofK q ys).map encV) ∧ Mp.get h.len g = some (off + ((ofK q ys).map encV).length) ∧ g < h.ng ∧ h0.ng ≤ g ∧ lookF q fs = some a ∧ a.2.1 = g) := by
  cases hq : lookF q fs with
  | none =>
    have lk := look_none (m := m) (clk := clk) (k := q) Try.underlying73 Try.underlying9 t22 he hq
    refine ⟨.nils, fun h' hm => ?_, .inl ⟨rfl, by rw [k.no q hq]; rfl⟩, .inl ⟨rfl, by rw [k.no q hq]; rfl, rfl⟩⟩
    rw [lk h' false hm]; rfl
  | some a =>
    obtain ⟨v, hv, lk⟩ := look_some (m := m) (clk := clk) (k := q) Try.underlying73 Try.underlying9 he hq
    obtain ⟨a1, a2, a3, a4, a5⟩ := k.own q a hq
    unfold SlR at hv
    rw [← a4]
    refine ⟨v, fun h' hm => ?_, .inr ⟨_, _, _, hv⟩, .inr ⟨_, _, _, a, hv, by rw [List.length_map]; exact a1, a2, a3, rfl, rfl⟩⟩
    rw [lk h' false hm]; rfl
end Go.Vn

set_option maxRecDepth 20000
namespace Go.Vn
open Go.Proofs

theorem keysM_ans (m : Nat) (h0 : Hp Fm) : A Try.prog TT (.func 40) [.mp m] h0 (fun r h' => r = .fn (.func 59) [] [.ptr h0.no 0] ∧ h' = { h0 with obj := Mp.set h0.obj h0.no (.row [.mp m]), no := h0.no + 1 }) := by
  apply A_go Try.func40 rfl (by rfl); (case hn => (simp [Try.ntmps40]; rfl))
  repeat(first|with_reducible first|refine vmR ?_|refine vmV rfl ?_|refine vmW rfl ?_|refine vmL ?_|refine blockW_y (by decide) ?_|((with_reducible first|apply vmO|apply vmT|apply vmC);case a=>simp;with_reducible first|exact .v|exact .c|exact .t|exact .f))
  (first | apply endW_r | apply endW_n); (case h1 => (simp [Try.results40]; first | done | rfl))
  exact ⟨rfl, rfl⟩

theorem ents_keys {ks : AV × AV × Nat → Tx} (hks : ks = fun e => match e.1 with | .str s => s | _ => []) : ∀ (fs : Ents SlE) (es : List (AV × AV × Nat)), EntsR SlR fs es → es.map ks = fs.map (·.1) := by
  intro fs
  induction fs with
  | nil => intro es h; cases es with
    | nil => rfl
    | cons _ _ => exact h.elim
  | cons f fs ih => intro es h; cases es with
    | nil => exact h.elim
    | cons e es => rw [List.map_cons, List.map_cons, ih es h.2, hks]; simp only; rw [h.1.1]

set_option maxHeartbeats 4000000 in
theorem scan_ans (path : List Lg) (vp : AV) (hvp : SV 2 (path.map encL) vp) (hl : path.length ≤ 1000) (xs : List Ver) (v : AV) (hv : SV 8 (xs.map encV) v) (hxl : xs.length ≤ 20) (tm : Int) (h0 : Hp Fm) (hpol : ∀ e, h0.pol e = false) :
    A Try.prog TT (.func 19) [v, vp, .int .i64 tm] h0 (fun r h' => ∃ ks : List (List UInt8), SV 2 ((scanP path xs tm ks).map encR) r ∧ Str ks ∧ (∀ k, k ∈ ks ↔ ∃ a ∈ xs, a.key = k) ∧ ks.length ≤ xs.length ∧ HE h0 h') := by
  have l1 := hv.len Try.underlying22
  rw [List.length_map] at l1
  have n1 := hv.nm
  have vc := hv.cells
  have vd := hv.isCell
  have pc := hvp.cells
  have pd := hvp.isCell
  have hp0 := hpol 39
  have hpr := hpol 72
  obtain ⟨m, hm0⟩ : ∃ m, m = h0.no := ⟨_, rfl⟩
  apply A_go Try.func19 rfl (by rfl); (case hn => (simp [Try.ntmps19]; rfl))
  repeat(first|with_reducible first|refine vmR ?_|refine vmV rfl ?_|refine vmW rfl ?_|refine vmL ?_|refine blockW_y (by decide) ?_|((with_reducible first|apply vmO|apply vmT|apply vmC);case a=>simp [makeMapAV, vc, vd, l1, n1];with_reducible first|exact .v|exact .c|exact .t|exact .f))
  rw [← hm0]
  refine W_loop (fun mm s => ∃ (t : Fm AV) (h : Hp Fm) (i : Nat) (fs : Ents SlE) (es : List (AV × AV × Nat)) (clk : Nat), s = ⟨t, 59, h, none⟩ ∧ mm = xs.length - i ∧ i ≤ xs.length ∧ tget t 1 = vp ∧ tget t 2 = .int .i64 tm ∧ tget t 7 = .mp m ∧ (tget t 16 = v ∧ tget t 17 = .int .i64 xs.length ∧ tget t 18 = .int .i64 i) ∧ Mp.get h.obj m = some (.mp es clk) ∧ EntsR SlR fs es ∧ Born clk fs ∧ MV h0 h (xs.take i) fs ∧ m < h.no ∧ HE h0 h) xs.length
    ⟨_, _, 0, [], [], 0, rfl, rfl, Nat.zero_le _, by simp, by simp, by simp, by simp, by simp [hm0], trivial, ⟨by simp, by simp⟩, ⟨fun k a ha => (by cases ha), fun k k' a a' ha _ _ => (by cases ha), fun k _ => (by simp [ofK]), by simp, by simp⟩, by rw [hm0]; show h0.no < h0.no + 1; omega, by rw [hm0]; exact (HE.refl h0).new _⟩ ?_
  rintro mm s ⟨t, h, i, fs, es, clk, rfl, rfl, hi, t1, t2, t7, ⟨t16, t17, t18⟩, hmh, hes, hborn, hmv, hmn, he⟩
  by_cases qi : i < xs.length
  · have i1 := hv.idx Try.underlying22 z39 (k := .i64) (i := i) (by simp) (by simpa using qi)
    simp only [List.getElem_map, Int.toNat_natCast] at i1
    have w1 : IntKind.i64.wrap ((i : Int) + 1) = ((i + 1 : Nat) : Int) := by rw [wrap64 (by omega) (by omega)]; simp
    have htk : xs.take (i + 1) = xs.take i ++ [xs[i]] := List.take_succ_eq_append_getElem qi
    obtain ⟨x, hx⟩ : ∃ x, x = xs[i] := ⟨_, rfl⟩
    rw [← hx] at i1 htk
    repeat(first|with_reducible first|refine vmR ?_|refine vmV rfl ?_|refine vmW rfl ?_|refine vmL ?_|refine blockW_y (by decide) ?_|((with_reducible first|apply vmO|apply vmT|apply vmC);case a=>simp [t1, t2, t7, t16, t17, t18, qi, i1];with_reducible first|exact .v|exact .c|exact .t|exact .f))
    obtain ⟨o, ho⟩ : ∃ o, o = h.no := ⟨_, rfl⟩
    rw [← ho]
    obtain ⟨hB, hhB⟩ : ∃ hB : Hp Fm, hB = { h with obj := Mp.set (Mp.set h.obj o (.row [.str [], .int .i64 0, .int .i64 0, .int .i64 0, .int .i64 0, .int .i64 0, .str [], .bool false])) o (.row (encV x).cells), no := o + 1 } := ⟨_, rfl⟩
    have eB : HE h hB := by rw [hhB, ho]; exact ((HE.refl h).new _).set (Nat.le_refl _) _
    have g9 : Mp.get hB.obj o = some (.row (encV x).cells) := by rw [hhB]; simp
    have hmB : Mp.get hB.obj m = some (.mp es clk) := (eB.obj m hmn).trans hmh
    have noB : hB.no = o + 1 := by rw [hhB]
    have nm9 : o ≠ m := by omega
    have nm9' : m ≠ o := by omega
    simp only [encV, cells_agg] at hhB g9
    rw [← hhB]
    have pB : hB.pol 39 = false := by rw [eB.pol, he.pol]; exact hp0
    have mvB := hmv.of eB
    obtain ⟨v0, lk, sl0, own0⟩ := mvB.look (m := m) (clk := clk) hes x.key
    have c0 := sl0.sv.cells
    have d0 := sl0.sv.isCell
    have lk1 := lk hB hmB
    have hkl := ofK_len x.key (xs.take i)
    have htl : (xs.take i).length ≤ 20 := by rw [List.length_take]; omega
    (with_reducible refine W_draw_id (pln := true) [0, 1, 2, 3, 4, 5, 6, 7, 8, 9, 10] [(2, (2, [9, 10])), (5, (5, [9])), (6, (6, [9])), (7, (7, []))] (by kernel_rfl) rfl ?_)
    repeat(first|with_reducible first|refine vmR ?_|refine vmV rfl ?_|refine vmW rfl ?_|refine vmL ?_|refine blockW_y (by decide) ?_|((with_reducible first|apply vmO|apply vmT|apply vmC);case a=>simp [t1, t2, t7, g9, hmB, lk, c0, d0, newSeq, newSl, pB];with_reducible first|exact .v|exact .c|exact .t|exact .f))
    with_reducible apply WT_app_i; (case hw => (simp [t7, g9, hmB, lk, c0, d0, newSeq, newSl, pB]; done)); (case ho => rfl); (case hb => rfl); (case ha => (simp [t7, g9, hmB, lk, c0, d0, newSeq, newSl, pB]; first | done | exact ⟨rfl, rfl⟩ | rfl)); (case h1 => (simp; first | done | rfl)); (case h2 => (simp; first | done | rfl))
    have en1 := ((HE.refl hB).drew).newSl 1
    refine app_then (app_own etv (h := { hB.drew with len := Mp.set hB.drew.len hB.drew.ng 1, ng := hB.drew.ng + 1 }) (acc := (ofK x.key (xs.take i)).map encV) ?_ pB (by rw [List.length_map]; omega)) ?_
    · rcases own0 with ⟨a1, a2, _⟩ | ⟨g, off, cap, a, a1, a2, a3, a4, a5, a6⟩
      · exact .inl ⟨a1, a2⟩
      · exact .inr ⟨g, off, cap, a1, (en1.len g a3).trans a2, Nat.lt_of_lt_of_le a3 en1.ng⟩
    obtain ⟨hb, hhb⟩ : ∃ hb : Hp Fm, hb = { hB.drew with len := Mp.set hB.drew.len hB.drew.ng 1, ng := hB.drew.ng + 1 } := ⟨_, rfl⟩
    rw [← hhb] at en1 ⊢
    have heb : HE h0 hb := (he.trans eB).trans en1
    have hob : hb.obj = hB.obj := by rw [hhb]; rfl
    have hnb : hb.no = hB.no := by rw [hhb]; rfl
    have mvb := mvB.of en1
    rintro w3 h3 ⟨g, off, cap, rfl, b1, b2, b3, b4, b5, b6, b7, b8⟩
    have hm3 : Mp.get h3.obj m = some (.mp es clk) := by rw [b5, hob]; exact hmB
    have g93 := g9
    rw [← hob, ← b5] at g93
    have hg0 : h0.ng ≤ g ∧ ((∃ a, lookF x.key fs = some a ∧ a.2.1 = g) ∨ hb.ng ≤ g) := by
      rcases b4 with ⟨off0, cap0, e⟩ | e
      · rcases own0 with ⟨a1, _⟩ | ⟨g', off', cap', a, a1, a2, a3, a4, a5, a6⟩
        · rw [a1] at e; cases e
        · rw [a1] at e; cases e
          exact ⟨a4, .inl ⟨a, a5, a6⟩⟩
      · exact ⟨by rw [e]; exact heb.ng, .inr (by omega)⟩
    have he3 : HE h0 h3 := ⟨by rw [b6]; exact heb.no, Nat.le_trans heb.ng b7, by rw [b8]; exact heb.pol, fun q hq => by rw [b5]; exact heb.obj q hq, fun q hq => by rw [b3 q (Nat.lt_of_lt_of_le hq heb.ng) (by have := hg0.1; omega)]; exact heb.len q hq⟩
    obtain ⟨es', hes', hup⟩ := upd_ans (R := SlR) (m := m) (clk := clk) (k := x.key) (a := ((ofK x.key (xs.take i) ++ [x], g, off, cap) : SlE)) (v := .sl g off 8 cap ((ofK x.key (xs.take i)).map encV ++ [encV x])) Try.underlying73 Try.underlying9 hes (by simp [SlR])
    have hup3 := hup h3 hm3
    simp only [encV] at hup3
    have lk3 := lk h3 hm3
    have lkd := lk hB.drew hmB
    refine ⟨_, by simp; first | done | rfl, ?_⟩
    repeat(first|with_reducible first|refine vmR ?_|refine vmV rfl ?_|refine vmW rfl ?_|refine vmL ?_|refine blockW_y (by decide) ?_|((with_reducible first|apply vmO|apply vmT|apply vmC);case a=>simp [t7, g93, hm3, hup3, lk3, c0, d0];with_reducible first|exact .v|exact .c|exact .t|exact .f))
    refine ⟨by simp [readSame, beqAV_self, t7, g9, g93, hmB, hm3, lk, nm9, nm9']; done, _, by simp; first | done | rfl, ?_⟩
    repeat(first|with_reducible first|refine vmR ?_|refine vmV rfl ?_|refine vmW rfl ?_|refine vmL ?_|refine blockW_y (by decide) ?_|((with_reducible first|apply vmO|apply vmT|apply vmC);case a=>simp [t18, w1];with_reducible first|exact .v|exact .c|exact .t|exact .f))
    refine ⟨xs.length - (i + 1), by omega, _, _, i + 1, _, es', _, rfl, rfl, by omega, by simp [t1], by simp [t2], by simp [t7], ⟨by simp [t16], by simp [t17], by simp⟩, ?_, hes', hborn.set _ _, ?_, ?_, ?_⟩
    · simp
    · rw [htk]
      exact mvb.put (by rw [List.length_map] at b1; exact b1) b2 hg0.1 b3 b7 hg0.2
    · show m < h3.no; rw [b6, hnb, noB]; omega
    · exact he3.set (by omega) _
  · have qn : ¬ (i < xs.length) := qi
    have hie : i = xs.length := by omega
    rw [hie, List.take_length] at hmv
    have hbirth := hes.births
    have hnd : (es.map (·.2.2)).Nodup := by rw [hbirth]; exact hborn.nd
    have hlt : ∀ e ∈ es, e.2.2 < clk := fun e hee => by
      have : e.2.2 ∈ es.map (·.2.2) := List.mem_map_of_mem hee
      rw [hbirth] at this
      obtain ⟨f, hf, e1⟩ := List.mem_map.mp this
      have := hborn.lt f hf; omega
    obtain ⟨kf, hkf⟩ : ∃ ks : AV × AV × Nat → Tx, ks = fun e => match e.1 with | .str s => s | _ => [] := ⟨_, rfl⟩
    have hkc : ∀ e ∈ es, e.1 = .str (kf e) := fun e hee => by
      obtain ⟨f, _, h1, _⟩ := hes.mem hee
      simp only [hkf, h1]
    have hmap := ents_keys hkf fs es hes
    have hfl := hmv.len
    repeat(first|with_reducible first|refine vmR ?_|refine vmV rfl ?_|refine vmW rfl ?_|refine vmL ?_|refine blockW_y (by decide) ?_|((with_reducible first|apply vmO|apply vmT|apply vmC);case a=>simp [t1, t2, t7, t16, t17, t18, qi, qn];with_reducible first|exact .v|exact .c|exact .t|exact .f))
    refine A.mono (keysM_ans m h) ?_
    rintro _ h1 ⟨rfl, eh⟩
    have e1 : HE h h1 := by rw [eh]; exact (HE.refl h).new _
    refine ⟨_, by simp; first | done | rfl, ?_⟩
    repeat(first|with_reducible first|refine vmR ?_|refine vmV rfl ?_|refine vmW rfl ?_|refine vmL ?_|refine blockW_y (by decide) ?_|((with_reducible first|apply vmO|apply vmT|apply vmC);case a=>simp;with_reducible first|exact .v|exact .c|exact .t|exact .f))
    have n1' : h1.no = h.no + 1 := by rw [eh]
    have hm1 := (e1.obj m hmn).trans hmh
    refine A.mono (sorted_ans h.no m clk es hlt hnd kf hkc (by rw [hes.len]; omega) h1 (by rw [eh]; simp) hm1 (by omega) (by omega)) ?_
    rintro w h2 ⟨ks, hw, hperm, hris, e2⟩
    rw [hmap] at hperm
    have hst : Str ks := rising_str hris (hperm.nodup_iff.mpr hmv.nd)
    have hmem : ∀ k, k ∈ ks ↔ ∃ a ∈ xs, a.key = k := fun k => (hperm.mem_iff).trans (hmv.keys k)
    have hkl : ks.length ≤ xs.length := by rw [hperm.length_eq, List.length_map]; exact hfl
    have hm2 := (e2.obj m (by omega)).trans hm1
    have mn2 : m < h2.no := by have := e2.no; omega
    have mv2 := (hmv.of e1).of e2
    have e02 := (he.trans e1).trans e2
    have l2 := hw.len Try.underlying74
    rw [List.length_map] at l2
    have n2 := hw.nm
    have wc := hw.cells
    have wd := hw.isCell
    refine ⟨_, by simp; first | done | rfl, ?_⟩
    repeat(first|with_reducible first|refine vmR ?_|refine vmV rfl ?_|refine vmW rfl ?_|refine vmL ?_|refine blockW_y (by decide) ?_|((with_reducible first|apply vmO|apply vmT|apply vmC);case a=>simp [wc, wd, l2, n2];with_reducible first|exact .v|exact .c|exact .t|exact .f))
    refine W_loop (fun mm s => ∃ (t : Fm AV) (h : Hp Fm) (i : Nat) (o : AV), s = ⟨t, 59, h, none⟩ ∧ mm = ks.length - i ∧ i ≤ ks.length ∧ tget t 1 = vp ∧ tget t 2 = .int .i64 tm ∧ tget t 7 = .mp m ∧ tget t 10 = o ∧ tget t 35 = w ∧ tget t 36 = .int .i64 ks.length ∧ tget t 37 = .int .i64 i ∧ AC h2 h 2 ((scanP path xs tm (ks.take i)).map encR) o ∧ HE h2 h) ks.length
      ⟨_, _, 0, .nils, rfl, rfl, Nat.zero_le _, by simp [t1], by simp [t2], by simp [t7], by simp, by simp, by simp, by simp, .inl ⟨rfl, rfl⟩, HE.refl _⟩ ?_
    clear t1 t2 t7 t16 t17 t18
    rintro mm s ⟨t, h3, j, o, rfl, rfl, hj, t1, t2, t7, t10, t35, t36, t37, ho, he3⟩
    have oc := ho.sv.cells
    have od := ho.sv.isCell
    have he03 := e02.trans he3
    by_cases qj : j < ks.length
    case neg =>
      have hje : j = ks.length := by omega
      have qjn : ¬ (j < ks.length) := qj
      repeat(first|with_reducible first|refine vmR ?_|refine vmV rfl ?_|refine vmW rfl ?_|refine vmL ?_|refine blockW_y (by decide) ?_|((with_reducible first|apply vmO|apply vmT|apply vmC);case a=>simp [t1, t2, t7, t10, t35, t36, t37, qj, qjn, oc, od];with_reducible first|exact .v|exact .c|exact .t|exact .f))
      (first | apply endW_r | apply endW_n); (case h1 => (simp [Try.results19]; first | done | rfl))
      rw [hje, List.take_length] at ho
      exact ⟨ks, by simpa using ho.sv, hst, hmem, hkl, he03⟩
    have i1 := hw.idx Try.underlying74 z9 (k := .i64) (i := j) (by simp) (by simpa using qj)
    simp only [List.getElem_map, Int.toNat_natCast] at i1
    have w1 : IntKind.i64.wrap ((j : Int) + 1) = ((j + 1 : Nat) : Int) := by rw [wrap64 (by omega) (by omega)]; simp
    have htk : scanP path xs tm (ks.take (j + 1)) = scanP path xs tm (ks.take j) ++ scanP path xs tm [ks[j]] := by
      rw [List.take_succ_eq_append_getElem qj, scanP_app]
    obtain ⟨k, hk⟩ : ∃ k, k = ks[j] := ⟨_, rfl⟩
    rw [← hk] at i1 htk
    have hbl := scanP_len path xs tm (ks.take j)
    have hbt : (ks.take j).length ≤ 1000 := by rw [List.length_take]; omega
    have hok := ofK_len k xs
    have hm3 := (he3.obj m mn2).trans hm2
    obtain ⟨v0, lk, sl0, _⟩ := (mv2.of he3).look (m := m) (clk := clk) hes k
    have lk3 := lk h3 hm3
    have c0 := sl0.sv.cells
    have d0 := sl0.sv.isCell
    repeat(first|with_reducible first|refine vmR ?_|refine vmV rfl ?_|refine vmW rfl ?_|refine vmL ?_|refine blockW_y (by decide) ?_|((with_reducible first|apply vmO|apply vmT|apply vmC);case a=>simp [t1, t2, t7, t10, t35, t36, t37, qj, i1, lk3, c0, d0, pc, pd];with_reducible first|exact .v|exact .c|exact .t|exact .f))
    refine A.mono (get_ans path vp hvp (by omega) (ofK k xs) v0 sl0 (by omega) tm h3) ?_
    rintro _ h4 ⟨rfl, he4⟩
    have he4' := he3.trans he4
    have ho4 := ho.of he4
    have hph : h4.pol 72 = false := by rw [he4'.pol, e02.pol]; exact hpr
    cases qg : getF (orderP path (ofK k xs)) tm with
    | none =>
      refine ⟨_, by simp [outG]; first | done | rfl, ?_⟩
      repeat(first|with_reducible first|refine vmR ?_|refine vmV rfl ?_|refine vmW rfl ?_|refine vmL ?_|refine blockW_y (by decide) ?_|((with_reducible first|apply vmO|apply vmT|apply vmC);case a=>simp [t1, t2, t7, t10, t35, t36, t37, outG, w1];with_reducible first|exact .v|exact .c|exact .t|exact .f))
      refine ⟨ks.length - (j + 1), by omega, _, _, j + 1, o, rfl, rfl, by omega, by simp [t1], by simp [t2], by simp [t7], by simp [t10], by simp [t35], by simp [t36], by simp, ?_, he4'⟩
      rw [htk]
      simpa [scanP, qg] using ho4
    | some s =>
      refine ⟨_, by simp [outG]; first | done | rfl, ?_⟩
      repeat(first|with_reducible first|refine vmR ?_|refine vmV rfl ?_|refine vmW rfl ?_|refine vmL ?_|refine blockW_y (by decide) ?_|((with_reducible first|apply vmO|apply vmT|apply vmC);case a=>simp [t1, t2, t7, t10, t35, t36, t37, outG, oc, od, newSeq, newSl, hph];with_reducible first|exact .v|exact .c|exact .t|exact .f))
      with_reducible apply WO_app_i; (case hw => (simp [t1, t2, t7, t10, t35, t36, t37, outG, oc, od, newSeq, newSl, hph]; done)); (case ho => rfl); (case hb => rfl); (case ha => (simp [t1, t2, t7, t10, t35, t36, t37, outG, oc, od, newSeq, newSl, hph]; first | done | exact ⟨rfl, rfl⟩ | rfl)); (case h1 => (simp; first | done | rfl)); (case h2 => (simp; first | done | rfl))
      refine app_then (AC.app (h0 := h2) etR (ho4.of ((HE.refl _).newSl 1)) (he4'.newSl 1) (by rw [e02.pol]; exact hpr) (by rw [List.length_map]; omega)) ?_
      rintro w3 h5 ⟨ac3, he5, _, _, _⟩
      have e3 := ac3.sv.cells
      have f3 := ac3.sv.isCell
      refine ⟨_, by simp; first | done | rfl, ?_⟩
      repeat(first|with_reducible first|refine vmR ?_|refine vmV rfl ?_|refine vmW rfl ?_|refine vmL ?_|refine blockW_y (by decide) ?_|((with_reducible first|apply vmO|apply vmT|apply vmC);case a=>simp [t1, t2, t7, t10, t35, t36, t37, e3, f3, w1];with_reducible first|exact .v|exact .c|exact .t|exact .f))
      refine ⟨ks.length - (j + 1), by omega, _, _, j + 1, w3, rfl, rfl, by omega, by simp [t1], by simp [t2], by simp [t7], by simp, by simp [t35], by simp [t36], by simp, ?_, he5⟩
      rw [htk]
      simpa [scanP, qg] using ac3
end Go.Vn
