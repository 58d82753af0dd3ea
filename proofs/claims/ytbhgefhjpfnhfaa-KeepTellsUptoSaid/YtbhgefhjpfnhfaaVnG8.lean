/- What functions of the program come to, in the value machine (a part of the proof of the claim's statement). No condition. -/
import Derived.Test.YtbhgefhjpfnhfaaVnG7
import Derived.Test.YtbhgefhjpfnhfaaVnG2
import Derived.Test.YtbhgefhjpfnhfaaVnG1
set_option linter.unusedSimpArgs false
set_option linter.unusedVariables false
set_option maxRecDepth 20000
namespace Go.Vn
open Go.Proofs
def cmpV (a b : Ver) : Int := first5 (cmpS a.key b.key) (cmpI a.br b.br) (cmpI a.ep b.ep) (cmpI a.sq b.sq) (cmpI a.fr b.fr)
theorem cmpV_ok : CmpOk cmpV :=
  first5_ok (cmpS_ok.pull Ver.key) (cmpI_ok.pull Ver.br) (cmpI_ok.pull Ver.ep) (cmpI_ok.pull Ver.sq) (cmpI_ok.pull Ver.fr)

theorem lessV_ans (a b : Ver) (h : Hp Fm) : A Try.prog TT (.func 32) [encV a, encV b] h (fun r h' => r = .bool (decide (cmpV a b < 0)) ∧ HE h h') := by
  apply A_go Try.func32 rfl (by rfl); (case hn => (simp [Try.ntmps32]; rfl))
  cases q0 : eqB a.key b.key
  · repeat(first|with_reducible first|refine vmR ?_|refine vmV rfl ?_|refine vmW rfl ?_|refine vmL ?_|refine blockW_y (by decide) ?_|((with_reducible first|apply vmO|apply vmT|apply vmC);case a=>simp [q0];with_reducible first|exact .v|exact .c|exact .t|exact .f))
    (first | apply endW_r | apply endW_n); (case h1 => (simp [Try.results32]; first | done | rfl))
    refine ⟨?_, ((HE.refl h).new _).new _⟩
    have := cmpS_nz q0
    simp [cmpV, first5, this, cmpS_lt]
  have z0 := cmpS_z q0
  by_cases q1 : a.br = b.br
  case neg =>
    repeat(first|with_reducible first|refine vmR ?_|refine vmV rfl ?_|refine vmW rfl ?_|refine vmL ?_|refine blockW_y (by decide) ?_|((with_reducible first|apply vmO|apply vmT|apply vmC);case a=>simp [q0, q1];with_reducible first|exact .v|exact .c|exact .t|exact .f))
    (first | apply endW_r | apply endW_n); (case h1 => (simp [Try.results32]; first | done | rfl))
    refine ⟨?_, ((HE.refl h).new _).new _⟩
    simp [cmpV, first5, z0, cmpI_z, q1, cmpI_lt]
  by_cases q2 : a.ep = b.ep
  case neg =>
    repeat(first|with_reducible first|refine vmR ?_|refine vmV rfl ?_|refine vmW rfl ?_|refine vmL ?_|refine blockW_y (by decide) ?_|((with_reducible first|apply vmO|apply vmT|apply vmC);case a=>simp [q0, q1, q2];with_reducible first|exact .v|exact .c|exact .t|exact .f))
    (first | apply endW_r | apply endW_n); (case h1 => (simp [Try.results32]; first | done | rfl))
    refine ⟨?_, ((HE.refl h).new _).new _⟩
    simp [cmpV, first5, z0, cmpI_z, q1, q2, cmpI_lt]
  by_cases q3 : a.sq = b.sq
  case neg =>
    repeat(first|with_reducible first|refine vmR ?_|refine vmV rfl ?_|refine vmW rfl ?_|refine vmL ?_|refine blockW_y (by decide) ?_|((with_reducible first|apply vmO|apply vmT|apply vmC);case a=>simp [q0, q1, q2, q3];with_reducible first|exact .v|exact .c|exact .t|exact .f))
    (first | apply endW_r | apply endW_n); (case h1 => (simp [Try.results32]; first | done | rfl))
    refine ⟨?_, ((HE.refl h).new _).new _⟩
    simp [cmpV, first5, z0, cmpI_z, q1, q2, q3, cmpI_lt]
  repeat(first|with_reducible first|refine vmR ?_|refine vmV rfl ?_|refine vmW rfl ?_|refine vmL ?_|refine blockW_y (by decide) ?_|((with_reducible first|apply vmO|apply vmT|apply vmC);case a=>simp [q0, q1, q2, q3];with_reducible first|exact .v|exact .c|exact .t|exact .f))
  (first | apply endW_r | apply endW_n); (case h1 => (simp [Try.results32]; first | done | rfl))
  refine ⟨?_, ((HE.refl h).new _).new _⟩
  simp [cmpV, first5, z0, cmpI_z, q1, q2, q3, cmpI_lt]
theorem eql4x (d : Nat) (a b : Bool) : eqlAV Try.prog (d + 1) 4 (.bool a) (.bool b) = some (a == b) := by simp [eqlAV]
theorem guV : (Try.prog.stoodInHeld 38 || Try.prog.eqGuardType Try.prog.depth 38) = false := by kernel_rfl
theorem sorted_ans (xs : List Ver) (v : AV) (hv : SV 8 (xs.map encV) v) (hl : xs.length ≤ 1000000) (h0 : Hp Fm) (hp0 : h0.pol 38 = false) :
    A Try.prog TT (.func 30) [v] h0 (fun r h' => ∃ out, Sorted cmpV out ∧ (∀ x, alike cmpV x out = alike cmpV x xs) ∧ out.length = xs.length ∧ SV 8 (out.map encV) r ∧ HE h0 h') := by
  have l1 := hv.len Try.underlying22
  rw [List.length_map] at l1
  have n1 := hv.nm
  apply A_go Try.func30 rfl (by rfl); (case hn => (simp [Try.ntmps30]; rfl))
  repeat(first|with_reducible first|refine vmR ?_|refine vmV rfl ?_|refine vmW rfl ?_|refine vmL ?_|refine blockW_y (by decide) ?_|((with_reducible first|apply vmO|apply vmT|apply vmC);case a=>simp;with_reducible first|exact .v|exact .c|exact .t|exact .f))
  refine W_loop (fun m s => ∃ (t : Fm AV) (h : Hp Fm) (i : Nat) (out : List Ver) (o : AV), s = ⟨t, 49, h, none⟩ ∧ m = xs.length - i ∧ i ≤ xs.length ∧ out.length = i ∧ tget t 0 = v ∧ tget t 3 = o ∧ tget t 4 = .int .i64 i ∧ SV 8 (out.map encV) o ∧ Sorted cmpV out ∧ (∀ x, alike cmpV x out = alike cmpV x (xs.take i)) ∧ HE h0 h) xs.length
    ⟨_, _, 0, [], .nils, rfl, rfl, Nat.zero_le _, rfl, by simp, by simp, by simp, .inl ⟨rfl, rfl⟩, trivial, by simp, HE.refl _⟩ ?_
  rintro m s ⟨t, h, i, out, o, rfl, rfl, hi, hol, t0, t3, t4, ho, hso, hal, he⟩
  have l2 := ho.len Try.underlying22
  rw [List.length_map, hol] at l2
  have n2 := ho.nm
  by_cases qi : i < xs.length
  case neg =>
    have hie : i = xs.length := by omega
    have qn : ¬ (i < xs.length) := qi
    repeat(first|with_reducible first|refine vmR ?_|refine vmV rfl ?_|refine vmW rfl ?_|refine vmL ?_|refine blockW_y (by decide) ?_|((with_reducible first|apply vmO|apply vmT|apply vmC);case a=>simp [t0, t3, t4, qi, qn, l1, l2, n1, n2];with_reducible first|exact .v|exact .c|exact .t|exact .f))
    (first | apply endW_r | apply endW_n); (case h1 => (simp [Try.results30]; first | done | rfl))
    refine ⟨out, hso, ?_, by omega, by simpa using ho, he⟩
    intro x; rw [hal x, hie, List.take_length]
  have i1 := hv.idx Try.underlying22 z38 (k := .i64) (i := i) (by simp) (by simpa using qi)
  simp only [List.getElem_map, Int.toNat_natCast] at i1
  repeat(first|with_reducible first|refine vmR ?_|refine vmV rfl ?_|refine vmW rfl ?_|refine vmL ?_|refine blockW_y (by decide) ?_|((with_reducible first|apply vmO|apply vmT|apply vmC);case a=>simp [t0, t3, t4, qi, l1, l2, n1, n2];with_reducible first|exact .v|exact .c|exact .t|exact .f))
  refine W_loop (fun p s => ∃ (t : Fm AV) (h : Hp Fm), s = ⟨t, 49, h, none⟩ ∧ p ≤ i ∧ tget t 0 = v ∧ tget t 3 = o ∧ tget t 4 = .int .i64 i ∧ tget t 5 = .int .i64 p ∧ (∀ b ∈ out.drop p, cmpV xs[i] b < 0) ∧ HE h0 h) i
    ⟨_, _, rfl, Nat.le_refl _, by simp [t0], by simp [t3], by simp [t4], by simp, by simp [List.drop_eq_nil_of_le (show out.length ≤ i by omega)], he⟩ ?_
  clear t0 t3 t4 he t h
  rintro p s ⟨t, h, rfl, hp, t0, t3, t4, t5, hlt, he⟩
  have w1 : IntKind.i64.wrap ((i : Int) + 1) = ((i + 1 : Nat) : Int) := by rw [wrap64 (by omega) (by omega)]; simp
  obtain ⟨r1, s1, v1⟩ := ho.take Try.underlying22 z38 (k := .i64) (i := p) (by omega) (by rw [List.length_map]; omega)
  obtain ⟨r2, s2, v2⟩ := ho.drop Try.underlying22 z38 (k := .i64) (i := p) (by omega) (by rw [List.length_map]; omega)
  rw [Int.toNat_natCast, ← List.map_take] at v1
  rw [Int.toNat_natCast, ← List.map_drop] at v2
  have c1 := v1.cells
  have d1 := v1.isCell
  have c2 := v2.cells
  have d2 := v2.isCell
  have tail (hz : ∀ hn : out.take p ≠ [], ¬ cmpV xs[i] ((out.take p).getLast hn) < 0) :
      Sorted cmpV (out.take p ++ [xs[i]] ++ out.drop p) ∧ (∀ x, alike cmpV x (out.take p ++ [xs[i]] ++ out.drop p) = alike cmpV x (xs.take (i + 1))) ∧ (out.take p ++ [xs[i]] ++ out.drop p).length = i + 1 := by
    obtain ⟨a1, a2⟩ := put_in cmpV_ok (l := out.take p) (m := out.drop p) (x := xs[i]) (by rw [List.take_append_drop]; exact hso) hz hlt
    refine ⟨a1, fun x => ?_, by simp; omega⟩
    rw [a2 x, List.take_append_drop, hal x, List.take_succ_eq_append_getElem qi]
    unfold alike; rw [List.filter_append]
  by_cases qp : 0 < p
  case neg =>
    have qz : ¬ (0 < p) := qp
    have hz : ∀ hn : out.take p ≠ [], ¬ cmpV xs[i] ((out.take p).getLast hn) < 0 := fun hn => absurd (show out.take p = [] by rw [show p = 0 by omega]; rfl) hn
    obtain ⟨k1, k2, k3⟩ := tail hz
    repeat(first|with_reducible first|refine vmR ?_|refine vmV rfl ?_|refine vmW rfl ?_|refine vmL ?_|refine blockW_y (by decide) ?_|((with_reducible first|apply vmO|apply vmT|apply vmC);case a=>simp [t0, t3, t4, t5, qp, qz, l1, l2, n1, n2];with_reducible first|exact .v|exact .c|exact .t|exact .f))
    (with_reducible refine W_draw_id (pln := true) [0, 1, 2, 3, 4, 5, 6, 7, 8, 9, 10, 11, 12, 13] [(6, (6, [])), (11, (11, []))] (by kernel_rfl) rfl ?_)
    repeat(first|with_reducible first|refine vmR ?_|refine vmV rfl ?_|refine vmW rfl ?_|refine vmL ?_|refine blockW_y (by decide) ?_|((with_reducible first|apply vmO|apply vmT|apply vmC);case a=>simp [t0, t3, t4, t5, qp, qz, l1, l2, n1, n2];with_reducible first|exact .v|exact .c|exact .t|exact .f))
    refine ⟨by simp [readSame, beqAV_self, t0]; done, _, by simp; first | done | rfl, ?_⟩
    repeat(first|with_reducible first|refine vmR ?_|refine vmV rfl ?_|refine vmW rfl ?_|refine vmL ?_|refine blockW_y (by decide) ?_|((with_reducible first|apply vmO|apply vmT|apply vmC);case a=>simp [t0, t3, t4, t5, qp, qz, l1, l2, n1, n2, s1, c1, d1];with_reducible first|exact .v|exact .c|exact .t|exact .f))
    with_reducible apply WO_app_i; (case hw => (simp [t0, t3, t4, t5, s1, c1, d1]; done)); (case ho => rfl); (case hb => rfl); (case ha => (simp [t0, t3, t4, t5, s1, c1, d1]; first | done | exact ⟨rfl, rfl⟩ | rfl)); (case h1 => (simp; first | done | rfl)); (case h2 => (simp; first | done | rfl))
    refine app_then (AC.appN (h0 := h0) etv (.inl ⟨rfl, rfl⟩) he.drew hp0 (SV.newEls v1) (by rw [List.length_map, List.length_take]; simp; omega)) ?_
    rintro w2 h2 ⟨ac2, he2, _, _, _⟩
    have e2 := ac2.sv.cells
    have f2 := ac2.sv.isCell
    have p2 : h2.pol 38 = false := by rw [he2.pol]; exact hp0
    refine ⟨_, by simp; first | done | rfl, ?_⟩
    repeat(first|with_reducible first|refine vmR ?_|refine vmV rfl ?_|refine vmW rfl ?_|refine vmL ?_|refine blockW_y (by decide) ?_|((with_reducible first|apply vmO|apply vmT|apply vmC);case a=>simp [t0, t3, t4, t5, i1, e2, f2, newSeq, newSl, p2];with_reducible first|exact .v|exact .c|exact .t|exact .f))
    with_reducible apply WO_app_i; (case hw => (simp [t0, t3, t4, t5, i1, e2, f2, newSeq, newSl, p2]; done)); (case ho => rfl); (case hb => rfl); (case ha => (simp [t0, t3, t4, t5, i1, e2, f2, newSeq, newSl, p2]; first | done | exact ⟨rfl, rfl⟩ | rfl)); (case h1 => (simp; first | done | rfl)); (case h2 => (simp; first | done | rfl))
    refine app_then (AC.app (h0 := h0) etv (ac2.of ((HE.refl _).newSl 1)) (he2.newSl 1) hp0 (by simp; omega)) ?_
    rintro w3 h3 ⟨ac3, he3, _, _, _⟩
    have e3 := ac3.sv.cells
    have f3 := ac3.sv.isCell
    refine ⟨_, by simp; first | done | rfl, ?_⟩
    repeat(first|with_reducible first|refine vmR ?_|refine vmV rfl ?_|refine vmW rfl ?_|refine vmL ?_|refine blockW_y (by decide) ?_|((with_reducible first|apply vmO|apply vmT|apply vmC);case a=>simp [t0, t3, t4, t5, e3, f3, s2, c2, d2];with_reducible first|exact .v|exact .c|exact .t|exact .f))
    with_reducible apply WO_app_i; (case hw => (simp [t0, t3, t4, t5, e3, f3, s2, c2, d2]; done)); (case ho => rfl); (case hb => rfl); (case ha => (simp [t0, t3, t4, t5, e3, f3, s2, c2, d2]; first | done | exact ⟨rfl, rfl⟩ | rfl)); (case h1 => (simp; first | done | rfl)); (case h2 => (simp; first | done | rfl))
    refine app_then (AC.appN (h0 := h0) etv ac3 he3 hp0 (SV.newEls v2) (by simp; omega)) ?_
    rintro w4 h4 ⟨ac4, he4, _, _, _⟩
    have e4 := ac4.sv.cells
    have f4 := ac4.sv.isCell
    refine ⟨_, by simp; first | done | rfl, ?_⟩
    repeat(first|with_reducible first|refine vmR ?_|refine vmV rfl ?_|refine vmW rfl ?_|refine vmL ?_|refine blockW_y (by decide) ?_|((with_reducible first|apply vmO|apply vmT|apply vmC);case a=>simp [t0, t3, t4, t5, e4, f4, w1];with_reducible first|exact .v|exact .c|exact .t|exact .f))
    refine ⟨_, ?_, _, _, i + 1, _, _, rfl, rfl, by omega, k3, by simp [t0], rfl, by simp, ?_, k1, k2, he4⟩
    · omega
    · have := ac4.sv
      simpa using this
  have hop : p - 1 < out.length := by omega
  have i2 := ho.idx Try.underlying22 z38 (k := .i64) (i := (p - 1 : Nat)) (by omega) (by rw [List.length_map]; omega)
  simp only [List.getElem_map, Int.toNat_natCast] at i2
  have w2 : IntKind.i64.wrap ((p : Int) - 1) = ((p - 1 : Nat) : Int) := by rw [wrap64 (by omega) (by omega)]; omega
  have hlast : ∀ hn : out.take p ≠ [], (out.take p).getLast hn = out[p - 1] := by
    intro hn
    rw [List.getLast_eq_getElem]
    simp only [List.length_take, show min p out.length = p by omega, List.getElem_take]
  repeat(first|with_reducible first|refine vmR ?_|refine vmV rfl ?_|refine vmW rfl ?_|refine vmL ?_|refine blockW_y (by decide) ?_|((with_reducible first|apply vmO|apply vmT|apply vmC);case a=>simp [t0, t3, t4, t5, qp, l1, l2, n1, n2];with_reducible first|exact .v|exact .c|exact .t|exact .f))
  (with_reducible refine W_draw_id (pln := true) [0, 1, 2, 3, 4, 5, 6, 7, 8, 9, 10, 11, 12, 13] [(6, (6, [])), (11, (11, []))] (by kernel_rfl) rfl ?_)
  repeat(first|with_reducible first|refine vmR ?_|refine vmV rfl ?_|refine vmW rfl ?_|refine vmL ?_|refine blockW_y (by decide) ?_|((with_reducible first|apply vmO|apply vmT|apply vmC);case a=>simp [t0, t3, t4, t5, qp, l1, l2, n1, n2, i1, i2, w2];with_reducible first|exact .v|exact .c|exact .t|exact .f))
  refine A.mono (lessV_ans xs[i] out[p - 1] _) ?_
  rintro _ hh ⟨rfl, heh⟩
  refine ⟨_, by simp; first | done | rfl, ?_⟩
  by_cases ql : cmpV xs[i] out[p - 1] < 0
  case neg =>
    obtain ⟨k1, k2, k3⟩ := tail (fun hn => by rw [hlast hn]; exact ql)
    repeat(first|with_reducible first|refine vmR ?_|refine vmV rfl ?_|refine vmW rfl ?_|refine vmL ?_|refine blockW_y (by decide) ?_|((with_reducible first|apply vmO|apply vmT|apply vmC);case a=>simp [t0, t3, t4, t5, ql];with_reducible first|exact .v|exact .c|exact .t|exact .f))
    refine ⟨by simp [readSame, beqAV_self, t0]; done, _, by simp; first | done | rfl, ?_⟩
    repeat(first|with_reducible first|refine vmR ?_|refine vmV rfl ?_|refine vmW rfl ?_|refine vmL ?_|refine blockW_y (by decide) ?_|((with_reducible first|apply vmO|apply vmT|apply vmC);case a=>simp [t0, t3, t4, t5, ql, s1, c1, d1];with_reducible first|exact .v|exact .c|exact .t|exact .f))
    with_reducible apply WO_app_i; (case hw => (simp [t0, t3, t4, t5, s1, c1, d1]; done)); (case ho => rfl); (case hb => rfl); (case ha => (simp [t0, t3, t4, t5, s1, c1, d1]; first | done | exact ⟨rfl, rfl⟩ | rfl)); (case h1 => (simp; first | done | rfl)); (case h2 => (simp; first | done | rfl))
    refine app_then (AC.appN (h0 := h0) etv (.inl ⟨rfl, rfl⟩) (he.drew.trans heh) hp0 (SV.newEls v1) (by rw [List.length_map, List.length_take]; simp; omega)) ?_
    rintro w2 h2 ⟨ac2, he2, _, _, _⟩
    have e2 := ac2.sv.cells
    have f2 := ac2.sv.isCell
    have p2 : h2.pol 38 = false := by rw [he2.pol]; exact hp0
    refine ⟨_, by simp; first | done | rfl, ?_⟩
    repeat(first|with_reducible first|refine vmR ?_|refine vmV rfl ?_|refine vmW rfl ?_|refine vmL ?_|refine blockW_y (by decide) ?_|((with_reducible first|apply vmO|apply vmT|apply vmC);case a=>simp [t0, t3, t4, t5, i1, e2, f2, newSeq, newSl, p2];with_reducible first|exact .v|exact .c|exact .t|exact .f))
    with_reducible apply WO_app_i; (case hw => (simp [t0, t3, t4, t5, i1, e2, f2, newSeq, newSl, p2]; done)); (case ho => rfl); (case hb => rfl); (case ha => (simp [t0, t3, t4, t5, i1, e2, f2, newSeq, newSl, p2]; first | done | exact ⟨rfl, rfl⟩ | rfl)); (case h1 => (simp; first | done | rfl)); (case h2 => (simp; first | done | rfl))
    refine app_then (AC.app (h0 := h0) etv (ac2.of ((HE.refl _).newSl 1)) (he2.newSl 1) hp0 (by simp; omega)) ?_
    rintro w3 h3 ⟨ac3, he3, _, _, _⟩
    have e3 := ac3.sv.cells
    have f3 := ac3.sv.isCell
    refine ⟨_, by simp; first | done | rfl, ?_⟩
    repeat(first|with_reducible first|refine vmR ?_|refine vmV rfl ?_|refine vmW rfl ?_|refine vmL ?_|refine blockW_y (by decide) ?_|((with_reducible first|apply vmO|apply vmT|apply vmC);case a=>simp [t0, t3, t4, t5, e3, f3, s2, c2, d2];with_reducible first|exact .v|exact .c|exact .t|exact .f))
    with_reducible apply WO_app_i; (case hw => (simp [t0, t3, t4, t5, e3, f3, s2, c2, d2]; done)); (case ho => rfl); (case hb => rfl); (case ha => (simp [t0, t3, t4, t5, e3, f3, s2, c2, d2]; first | done | exact ⟨rfl, rfl⟩ | rfl)); (case h1 => (simp; first | done | rfl)); (case h2 => (simp; first | done | rfl))
    refine app_then (AC.appN (h0 := h0) etv ac3 he3 hp0 (SV.newEls v2) (by simp; omega)) ?_
    rintro w4 h4 ⟨ac4, he4, _, _, _⟩
    have e4 := ac4.sv.cells
    have f4 := ac4.sv.isCell
    refine ⟨_, by simp; first | done | rfl, ?_⟩
    repeat(first|with_reducible first|refine vmR ?_|refine vmV rfl ?_|refine vmW rfl ?_|refine vmL ?_|refine blockW_y (by decide) ?_|((with_reducible first|apply vmO|apply vmT|apply vmC);case a=>simp [t0, t3, t4, t5, e4, f4, w1];with_reducible first|exact .v|exact .c|exact .t|exact .f))
    refine ⟨_, ?_, _, _, i + 1, _, _, rfl, rfl, by omega, k3, by simp [t0], rfl, by simp, ?_, k1, k2, he4⟩
    · omega
    · have := ac4.sv
      simpa using this
  repeat(first|with_reducible first|refine vmR ?_|refine vmV rfl ?_|refine vmW rfl ?_|refine vmL ?_|refine blockW_y (by decide) ?_|((with_reducible first|apply vmO|apply vmT|apply vmC);case a=>simp [t0, t3, t4, t5, ql];with_reducible first|exact .v|exact .c|exact .t|exact .f))
  refine ⟨by simp [readSame, beqAV_self, t0]; done, _, by simp; first | done | rfl, ?_⟩
  repeat(first|with_reducible first|refine vmR ?_|refine vmV rfl ?_|refine vmW rfl ?_|refine vmL ?_|refine blockW_y (by decide) ?_|((with_reducible first|apply vmO|apply vmT|apply vmC);case a=>simp [t0, t3, t4, t5, ql, w2];with_reducible first|exact .v|exact .c|exact .t|exact .f))
  refine ⟨p - 1, by omega, _, _, rfl, by omega, by simp [t0], by simp [t3], by simp [t4], by simp, ?_, he.drew.trans heh⟩
  rw [List.drop_eq_getElem_cons hop, show p - 1 + 1 = p by omega]
  intro b hb
  rcases List.mem_cons.mp hb with q | q
  · rw [q]; exact ql
  · exact hlt b q
end Go.Vn

set_option maxRecDepth 20000
namespace Go.Vn
open Go.Proofs

theorem SV.sub {P : Program} {t e : TypeId} {sz : Nat} {xs : List AV} {v : AV} (h : SV sz xs v) (hu : P.underlying t = some (.slice e)) (hs : tsize P e = some sz) {k k' : IntKind} {i j : Nat} (h0 : i ≤ j) (h1 : j ≤ xs.length) :
    ∃ r, sliceAV P t v (some (.int k (i : Int))) (some (.int k' (j : Int))) none = some r ∧ SV sz ((xs.drop i).take (j - i)) r := by
  rcases h with ⟨rfl, rfl⟩ | ⟨g, off, cp, rfl⟩ | ⟨c, rfl, rfl⟩
  · have hi : i = 0 := by simp at h1; omega
    have hj : j = 0 := by simp at h1; omega
    subst hi; subst hj
    exact ⟨.nils, by simp [sliceAV, hu, hs, obound, bound], .inl ⟨rfl, by simp⟩⟩
  · have a1 : (i : Int) ≤ j := by omega
    have a2 : (j : Int) ≤ xs.length := by omega
    refine ⟨.sl g (off + i) sz (cp - i) ((xs.drop i).take (j - i)), by simp [sliceAV, hu, hs, obound, bound, h0, h1, a1, a2], .inr (.inl ⟨_, _, _, rfl⟩)⟩
  · have hi : i = 0 := by simp at h1; omega
    have hj : j = 0 := by simp at h1; omega
    subst hi; subst hj
    exact ⟨.esl c, by simp [sliceAV, hu, hs, obound, bound], .inr (.inr ⟨c, rfl, by simp⟩)⟩

@[simp] theorem conv53 (h : Hp Fm) (n : Int) : convAV Try.prog h 5 3 (.int .u8 n) = some (.int .i64 (IntKind.i64.wrap n), h) := by simp [convAV, Try.underlying5, Try.underlying3]

theorem value1_ans (bs : List UInt8) (v : AV) (hv : SV 1 (bs.map byteAV) v) (hl : bs.length = 8) (h0 : Hp Fm) : A Try.prog TT (.func 87) [v] h0 (fun r h' => ∃ n : Int, r = .int .i64 n ∧ HE h0 h') := by
  have i0 := hv.idx Try.underlying126 z5 (k := .i64) (i := 0) (by omega) (by rw [List.length_map]; simp; omega)
  simp only [List.getElem_map, byteAV] at i0
  obtain ⟨z0, hz0⟩ : ∃ z : Int, z = ((bs[(0 : Int).toNat]'(by simp; omega)).toNat : Int) := ⟨_, rfl⟩
  rw [← hz0] at i0
  apply A_go Try.func87 rfl (by rfl); (case hn => (simp [Try.ntmps87]; rfl))
  repeat(first|with_reducible first|refine vmR ?_|refine vmV rfl ?_|refine vmW rfl ?_|refine vmL ?_|refine blockW_y (by decide) ?_|((with_reducible first|apply vmO|apply vmT|apply vmC);case a=>simp [i0];with_reducible first|exact .v|exact .c|exact .t|exact .f))
  refine W_loop (fun m s => ∃ (t : Fm AV) (h : Hp Fm) (i : Nat) (n : Int), s = ⟨t, 30, h, none⟩ ∧ m = 8 - i ∧ i ≤ 8 ∧ tget t 0 = v ∧ tget t 3 = .int .i64 n ∧ tget t 4 = .int .i64 i ∧ HE h0 h) 7
    ⟨_, _, 1, _, rfl, rfl, by omega, by simp, by simp; rfl, by simp, HE.refl _⟩ ?_
  rintro m s ⟨t, h, i, n, rfl, rfl, hi, t0, t3, t4, he⟩
  by_cases qi : i < 8
  · have qj : (i : Int) < 8 := by omega
    have i1 := hv.idx Try.underlying126 z5 (k := .i64) (i := (i : Nat)) (by omega) (by rw [List.length_map, Int.toNat_natCast]; omega)
    simp only [List.getElem_map, Int.toNat_natCast, byteAV] at i1
    obtain ⟨z1, hz1⟩ : ∃ z : Int, z = ((bs[i]'(by omega)).toNat : Int) := ⟨_, rfl⟩
    rw [← hz1] at i1
    have w1 : IntKind.i64.wrap ((i : Int) + 1) = ((i + 1 : Nat) : Int) := by rw [wrap64 (by omega) (by omega)]; simp
    repeat(first|with_reducible first|refine vmR ?_|refine vmV rfl ?_|refine vmW rfl ?_|refine vmL ?_|refine blockW_y (by decide) ?_|((with_reducible first|apply vmO|apply vmT|apply vmC);case a=>simp [t0, t3, t4, qi, qj, i1, w1];with_reducible first|exact .v|exact .c|exact .t|exact .f))
    refine ⟨_, ?_, _, _, i + 1, _, rfl, rfl, by omega, by simp [t0], by simp; rfl, by simp, he⟩
    omega
  · have qj : ¬ ((i : Int) < 8) := by omega
    by_cases qb : z0 < 128
    · repeat(first|with_reducible first|refine vmR ?_|refine vmV rfl ?_|refine vmW rfl ?_|refine vmL ?_|refine blockW_y (by decide) ?_|((with_reducible first|apply vmO|apply vmT|apply vmC);case a=>simp [t0, t3, t4, qi, qj, i0, qb];with_reducible first|exact .v|exact .c|exact .t|exact .f))
      (first | apply endW_r | apply endW_n); (case h1 => (simp [Try.results87]; first | done | rfl))
      exact ⟨_, rfl, he⟩
    · repeat(first|with_reducible first|refine vmR ?_|refine vmV rfl ?_|refine vmW rfl ?_|refine vmL ?_|refine blockW_y (by decide) ?_|((with_reducible first|apply vmO|apply vmT|apply vmC);case a=>simp [t0, t3, t4, qi, qj, i0, qb];with_reducible first|exact .v|exact .c|exact .t|exact .f))
      (first | apply endW_r | apply endW_n); (case h1 => (simp [Try.results87]; first | done | rfl))
      exact ⟨_, by simp [t3]; rfl, he⟩
end Go.Vn

set_option maxRecDepth 20000
namespace Go.Vn
open Go.Proofs

structure Pt where
  tx : Bool
  nm : Int
  st : List UInt8
@[simp] def encPt (p : Pt) : AV := .agg [.bool p.tx, .int .i64 p.nm, .str p.st]
theorem etPt : ElT Try.prog 123 128 3 32 true (.agg [.bool false, .int .i64 0, .str []]) := ⟨Try.underlying123, z128, b128, a128, t128, rfl, rfl, (fun h => by first | rfl | cases h), by omega, by omega⟩
theorem etB : ElT Try.prog 126 5 1 1 false (.int .u8 0) := ⟨Try.underlying126, z5, b5, a5, t5, rfl, rfl, (fun h => by first | rfl | cases h), by omega, by omega⟩

theorem asBytes2 (cs : List UInt8) : cs.mapM (asByte ∘ byteAV) = some cs := by
  induction cs with
  | nil => rfl
  | cons a l ih =>
    rw [List.mapM_cons, ih]
    simp [byteAV, asByte]
theorem conv_txt (h : Hp Fm) {cs : List UInt8} {v : AV} (hv : SV 1 (cs.map byteAV) v) : convAV Try.prog h 126 9 v = some (.str cs, h) := by
  have hu : isU8 Try.prog 5 = true := by simp [isU8, Try.underlying5]
  rcases hv with ⟨rfl, hx⟩ | ⟨g, off, cp, rfl⟩ | ⟨c, rfl, hx⟩
  · have : cs = [] := by simpa using hx
    subst this
    simp [convAV, Try.underlying126, Try.underlying9, hu]
  · simp [convAV, Try.underlying126, Try.underlying9, hu, asBytes2]
  · have : cs = [] := by simpa using hx
    subst this
    simp [convAV, Try.underlying126, Try.underlying9, hu]

set_option maxHeartbeats 8000000 in
theorem read1_ans (bs : List UInt8) (v : AV) (hv : SV 1 (bs.map byteAV) v) (hl : bs.length ≤ 1000) (h0 : Hp Fm) (hpol : ∀ e, e ≠ 42 → h0.pol e = false) : A Try.prog TT (.func 79) [v] h0 (fun r h' => ∃ (pts : List Pt) (u : AV) (e : Int), r = .tup [u, .int .i64 e] ∧ SV 3 (pts.map encPt) u ∧ HE h0 h') := by
  have l1 := hv.len Try.underlying126
  rw [List.length_map] at l1
  have n1 := hv.nm
  obtain ⟨n, hn⟩ : ∃ n, n = bs.length := ⟨_, rfl⟩
  rw [← hn] at l1 hl
  have hz : ∀ i (hi : i < n), ∃ z : Int, indexAddrAV Try.prog 126 v (.int .i64 (i : Int)) = some (.el (.int .u8 z) 0) ∧ z = ((bs[i]'(by omega)).toNat : Int) := by
    intro i hi
    have i1 := hv.idx Try.underlying126 z5 (k := .i64) (i := (i : Nat)) (by omega) (by rw [List.length_map, Int.toNat_natCast]; omega)
    simp only [List.getElem_map, Int.toNat_natCast, byteAV] at i1
    exact ⟨_, i1, rfl⟩
  apply A_go Try.func79 rfl (by rfl); (case hn => (simp [Try.ntmps79]; rfl))
  repeat(first|with_reducible first|refine vmR ?_|refine vmV rfl ?_|refine vmW rfl ?_|refine vmL ?_|refine blockW_y (by decide) ?_|((with_reducible first|apply vmO|apply vmT|apply vmC);case a=>simp;with_reducible first|exact .v|exact .c|exact .t|exact .f))
  refine W_loop (fun m s => ∃ (t : Fm AV) (h : Hp Fm) (i : Nat) (pts : List Pt) (u : AV), s = ⟨t, 108, h, none⟩ ∧ m = n - i ∧ i ≤ n ∧ tget t 0 = v ∧ tget t 4 = u ∧ tget t 5 = .int .i64 i ∧ AC h0 h 3 (pts.map encPt) u ∧ pts.length ≤ i ∧ HE h0 h) n
    ⟨_, _, 0, [], .nils, rfl, rfl, by omega, by simp, by simp, by simp, .inl ⟨rfl, rfl⟩, by simp, HE.refl _⟩ ?_
  rintro m s ⟨t, h, i, pts, u, rfl, rfl, hi, t0, t4, t5, hu, hpl, he⟩
  have uc := hu.sv.cells
  have ud := hu.sv.isCell
  by_cases qi : i < n
  case neg =>
    repeat(first|with_reducible first|refine vmR ?_|refine vmV rfl ?_|refine vmW rfl ?_|refine vmL ?_|refine blockW_y (by decide) ?_|((with_reducible first|apply vmO|apply vmT|apply vmC);case a=>simp [t0, t4, t5, qi, l1, n1, uc, ud];with_reducible first|exact .v|exact .c|exact .t|exact .f))
    (first | apply endW_r | apply endW_n); (case h1 => (simp [Try.results79]; first | done | rfl))
    exact ⟨pts, u, 0, by simp [t4], hu.sv, he⟩
  obtain ⟨z, i1, hzz⟩ := hz i qi
  obtain ⟨i2, hi2⟩ : ∃ i2, i2 = i + 1 := ⟨_, rfl⟩
  have w1 : IntKind.i64.wrap ((i : Int) + 1) = (i2 : Int) := by rw [wrap64 (by omega) (by omega)]; omega
  obtain ⟨i9, hi9⟩ : ∃ i9, i9 = i2 + 8 := ⟨_, rfl⟩
  have w9 : IntKind.i64.wrap ((i2 : Int) + 8) = (i9 : Int) := by rw [wrap64 (by omega) (by omega)]; omega
  by_cases q1 : z = 1
  · by_cases q9 : n < i9
    · have q9' : (n : Int) < (i9 : Int) := by omega
      repeat(first|with_reducible first|refine vmR ?_|refine vmV rfl ?_|refine vmW rfl ?_|refine vmL ?_|refine blockW_y (by decide) ?_|((with_reducible first|apply vmO|apply vmT|apply vmC);case a=>simp [t0, t4, t5, qi, l1, n1, uc, ud, i1, w1, q1, w9, q9, q9'];with_reducible first|exact .v|exact .c|exact .t|exact .f))
      (first | apply endW_r | apply endW_n); (case h1 => (simp [Try.results79]; first | done | rfl))
      exact ⟨[], .nils, 3, by simp, .inl ⟨rfl, rfl⟩, he⟩
    · have q9' : ¬ (n : Int) < (i9 : Int) := by omega
      obtain ⟨r, sl, sv⟩ := hv.sub Try.underlying126 z5 (k := .i64) (k' := .i64) (i := i2) (j := i9) (by omega) (by rw [List.length_map]; omega)
      rw [← List.map_drop, ← List.map_take] at sv
      repeat(first|with_reducible first|refine vmR ?_|refine vmV rfl ?_|refine vmW rfl ?_|refine vmL ?_|refine blockW_y (by decide) ?_|((with_reducible first|apply vmO|apply vmT|apply vmC);case a=>simp [t0, t4, t5, qi, l1, n1, uc, ud, i1, w1, q1, w9, q9, q9', sl];with_reducible first|exact .v|exact .c|exact .t|exact .f))
      refine A.mono (value1_ans _ r sv (by simp; omega) _) ?_
      rintro _ h2 ⟨k, rfl, e2⟩
      have hx2 := he.trans e2
      have p2 : h2.pol 128 = false := by rw [hx2.pol]; exact hpol _ (by decide)
      refine ⟨_, by simp; first | done | rfl, ?_⟩
      repeat(first|with_reducible first|refine vmR ?_|refine vmV rfl ?_|refine vmW rfl ?_|refine vmL ?_|refine blockW_y (by decide) ?_|((with_reducible first|apply vmO|apply vmT|apply vmC);case a=>simp [t0, t4, t5, newSeq, newSl, p2, uc, ud];with_reducible first|exact .v|exact .c|exact .t|exact .f))
      with_reducible apply WO_app_i; (case hw => (simp [t0, t4, t5, newSeq, newSl, p2, uc, ud]; done)); (case ho => rfl); (case hb => rfl); (case ha => (simp [t0, t4, t5, newSeq, newSl, p2, uc, ud]; first | done | exact ⟨rfl, rfl⟩ | rfl)); (case h1 => (simp; first | done | rfl)); (case h2 => (simp; first | done | rfl))
      refine app_then (AC.app (h0 := h0) etPt (hu.of (e2.newSl 1)) (hx2.newSl 1) (hpol _ (by decide)) (by simp; omega)) ?_
      rintro x4 h4 ⟨ac4, he4, _, _, _⟩
      have e4 := ac4.sv.cells
      have f4 := ac4.sv.isCell
      refine ⟨_, by simp; first | done | rfl, ?_⟩
      repeat(first|with_reducible first|refine vmR ?_|refine vmV rfl ?_|refine vmW rfl ?_|refine vmL ?_|refine blockW_y (by decide) ?_|((with_reducible first|apply vmO|apply vmT|apply vmC);case a=>simp [t0, e4, f4, w9, w1];with_reducible first|exact .v|exact .c|exact .t|exact .f))
      refine ⟨n - i9, by omega, _, _, i9, pts ++ [⟨false, k, []⟩], _, rfl, rfl, by omega, by simp [t0], by simp; rfl, by simp, ?_, by simp; omega, he4⟩
      simpa using ac4
  by_cases q2 : z = 2
  case neg =>
    repeat(first|with_reducible first|refine vmR ?_|refine vmV rfl ?_|refine vmW rfl ?_|refine vmL ?_|refine blockW_y (by decide) ?_|((with_reducible first|apply vmO|apply vmT|apply vmC);case a=>simp [t0, t4, t5, qi, l1, n1, uc, ud, i1, w1, q1, q2];with_reducible first|exact .v|exact .c|exact .t|exact .f))
    (first | apply endW_r | apply endW_n); (case h1 => (simp [Try.results79]; first | done | rfl))
    exact ⟨[], .nils, 2, by simp, .inl ⟨rfl, rfl⟩, he⟩
  repeat(first|with_reducible first|refine vmR ?_|refine vmV rfl ?_|refine vmW rfl ?_|refine vmL ?_|refine blockW_y (by decide) ?_|((with_reducible first|apply vmO|apply vmT|apply vmC);case a=>simp [t0, t4, t5, qi, l1, n1, uc, ud, i1, w1, q1, q2];with_reducible first|exact .v|exact .c|exact .t|exact .f))
  refine W_loop (fun m s => ∃ (t : Fm AV) (h2 : Hp Fm) (j : Nat) (over : Bool) (cs : List UInt8) (w : AV), s = ⟨t, 108, h2, none⟩ ∧ m = n - j ∧ j ≤ n ∧ i < j ∧ tget t 0 = v ∧ tget t 4 = u ∧ tget t 5 = .int .i64 j ∧ tget t 7 = w ∧ tget t 8 = .bool over ∧ AC h h2 1 (cs.map byteAV) w ∧ cs.length ≤ j ∧ HE h h2) (n - i2)
    ⟨_, _, i2, false, [], .nils, rfl, rfl, by omega, by omega, by simp [t0], by simp [t4], by simp, by simp, by simp, .inl ⟨rfl, rfl⟩, by simp, HE.refl _⟩ ?_
  clear t0 t4 t5 t
  rintro m s ⟨t, h2, j, over, cs, w, rfl, rfl, hj, hij, t0, t4, t5, t7, t8, hw, hcl, e2⟩
  have wc := hw.sv.cells
  have wd := hw.sv.isCell
  have hx2 := he.trans e2
  cases over
  case true =>
    have cv := conv_txt h2 hw.sv
    have p2 : h2.pol 128 = false := by rw [hx2.pol]; exact hpol _ (by decide)
    repeat(first|with_reducible first|refine vmR ?_|refine vmV rfl ?_|refine vmW rfl ?_|refine vmL ?_|refine blockW_y (by decide) ?_|((with_reducible first|apply vmO|apply vmT|apply vmC);case a=>simp [t0, t4, t5, t7, t8, cv, wc, wd, newSeq, newSl, p2, uc, ud];with_reducible first|exact .v|exact .c|exact .t|exact .f))
    with_reducible apply WO_app_i; (case hw => (simp [t0, t4, t5, t7, t8, cv, wc, wd, newSeq, newSl, p2, uc, ud]; done)); (case ho => rfl); (case hb => rfl); (case ha => (simp [t0, t4, t5, t7, t8, cv, wc, wd, newSeq, newSl, p2, uc, ud]; first | done | exact ⟨rfl, rfl⟩ | rfl)); (case h1 => (simp; first | done | rfl)); (case h2 => (simp; first | done | rfl))
    refine app_then (AC.app (h0 := h0) etPt (hu.of (e2.newSl 1)) (hx2.newSl 1) (hpol _ (by decide)) (by simp; omega)) ?_
    rintro x4 h4 ⟨ac4, he4, _, _, _⟩
    have e4 := ac4.sv.cells
    have f4 := ac4.sv.isCell
    refine ⟨_, by simp; first | done | rfl, ?_⟩
    repeat(first|with_reducible first|refine vmR ?_|refine vmV rfl ?_|refine vmW rfl ?_|refine vmL ?_|refine blockW_y (by decide) ?_|((with_reducible first|apply vmO|apply vmT|apply vmC);case a=>simp [t0, t5, e4, f4];with_reducible first|exact .v|exact .c|exact .t|exact .f))
    refine ⟨n - j, by omega, _, _, j, pts ++ [⟨true, 0, cs⟩], _, rfl, rfl, by omega, by simp [t0], by simp; rfl, by simp [t5], ?_, by simp; omega, he4⟩
    simpa using ac4
  by_cases qj : j < n
  case neg =>
    have qj1 : n ≤ j := by omega
    have qj2 : (n : Int) ≤ (j : Int) := by omega
    repeat(first|with_reducible first|refine vmR ?_|refine vmV rfl ?_|refine vmW rfl ?_|refine vmL ?_|refine blockW_y (by decide) ?_|((with_reducible first|apply vmO|apply vmT|apply vmC);case a=>simp [t0, t4, t5, t7, t8, l1, n1, qj1, qj2];with_reducible first|exact .v|exact .c|exact .t|exact .f))
    (first | apply endW_r | apply endW_n); (case h1 => (simp [Try.results79]; first | done | rfl))
    exact ⟨[], .nils, 3, by simp, .inl ⟨rfl, rfl⟩, hx2⟩
  have qj1 : ¬ (n ≤ j) := by omega
  have qj2 : ¬ ((n : Int) ≤ (j : Int)) := by omega
  obtain ⟨y, j1, hyy⟩ := hz j qj
  obtain ⟨j2, hj2⟩ : ∃ j2, j2 = j + 1 := ⟨_, rfl⟩
  have w2 : IntKind.i64.wrap ((j : Int) + 1) = (j2 : Int) := by rw [wrap64 (by omega) (by omega)]; omega
  by_cases qy : y = 0
  case neg =>
    have p2 : h2.pol 5 = false := by rw [hx2.pol]; exact hpol _ (by decide)
    repeat(first|with_reducible first|refine vmR ?_|refine vmV rfl ?_|refine vmW rfl ?_|refine vmL ?_|refine blockW_y (by decide) ?_|((with_reducible first|apply vmO|apply vmT|apply vmC);case a=>simp [t0, t4, t5, t7, t8, l1, n1, qj1, qj2, j1, qy, wc, wd, newSeq, newSl, p2];with_reducible first|exact .v|exact .c|exact .t|exact .f))
    with_reducible apply WO_app_i; (case hw => (simp [t0, t4, t5, t7, t8, l1, n1, qj1, qj2, j1, qy, wc, wd, newSeq, newSl, p2]; done)); (case ho => rfl); (case hb => rfl); (case ha => (simp [t0, t4, t5, t7, t8, l1, n1, qj1, qj2, j1, qy, wc, wd, newSeq, newSl, p2]; first | done | exact ⟨rfl, rfl⟩ | rfl)); (case h1 => (simp; first | done | rfl)); (case h2 => (simp; first | done | rfl))
    refine app_then (AC.app (h0 := h) etB (hw.of ((HE.refl h2).newSl 1)) (e2.newSl 1) (by rw [he.pol]; exact hpol _ (by decide)) (by simp; omega)) ?_
    rintro x4 h4 ⟨ac4, he4, _, _, _⟩
    have e4 := ac4.sv.cells
    have f4 := ac4.sv.isCell
    refine ⟨_, by simp; first | done | rfl, ?_⟩
    repeat(first|with_reducible first|refine vmR ?_|refine vmV rfl ?_|refine vmW rfl ?_|refine vmL ?_|refine blockW_y (by decide) ?_|((with_reducible first|apply vmO|apply vmT|apply vmC);case a=>simp [t0, t4, t5, t7, t8, e4, f4, w2];with_reducible first|exact .v|exact .c|exact .t|exact .f))
    refine ⟨n - j2, by omega, _, _, j2, false, cs ++ [bs[j]'(by omega)], _, rfl, rfl, by omega, by omega, by simp [t0], by simp [t4], by simp, by simp; rfl, by simp [t8], ?_, by simp; omega, he4⟩
    simpa [byteAV, ← hyy] using ac4
  by_cases qk : n ≤ j2
  · have qk2 : (n : Int) ≤ (j2 : Int) := by omega
    repeat(first|with_reducible first|refine vmR ?_|refine vmV rfl ?_|refine vmW rfl ?_|refine vmL ?_|refine blockW_y (by decide) ?_|((with_reducible first|apply vmO|apply vmT|apply vmC);case a=>simp [t0, t4, t5, t7, t8, l1, n1, qj1, qj2, j1, qy, w2, qk, qk2];with_reducible first|exact .v|exact .c|exact .t|exact .f))
    (first | apply endW_r | apply endW_n); (case h1 => (simp [Try.results79]; first | done | rfl))
    exact ⟨[], .nils, 3, by simp, .inl ⟨rfl, rfl⟩, hx2⟩
  have qk2 : ¬ ((n : Int) ≤ (j2 : Int)) := by omega
  obtain ⟨x, k1, hxx⟩ := hz j2 (by omega)
  obtain ⟨j3, hj3⟩ : ∃ j3, j3 = j + 2 := ⟨_, rfl⟩
  have w3 : IntKind.i64.wrap ((j : Int) + 2) = (j3 : Int) := by rw [wrap64 (by omega) (by omega)]; omega
  by_cases q255 : x = 255
  · have qx1 : ¬ (x = 1) := by omega
    have p2 : h2.pol 5 = false := by rw [hx2.pol]; exact hpol _ (by decide)
    repeat(first|with_reducible first|refine vmR ?_|refine vmV rfl ?_|refine vmW rfl ?_|refine vmL ?_|refine blockW_y (by decide) ?_|((with_reducible first|apply vmO|apply vmT|apply vmC);case a=>simp [t0, t4, t5, t7, t8, l1, n1, qj1, qj2, j1, qy, w2, qk, qk2, k1, q255, qx1, wc, wd, newSeq, newSl, p2];with_reducible first|exact .v|exact .c|exact .t|exact .f))
    with_reducible apply WO_app_i; (case hw => (simp [t0, t4, t5, t7, t8, l1, n1, qj1, qj2, j1, qy, w2, qk, qk2, k1, q255, qx1, wc, wd, newSeq, newSl, p2]; done)); (case ho => rfl); (case hb => rfl); (case ha => (simp [t0, t4, t5, t7, t8, l1, n1, qj1, qj2, j1, qy, w2, qk, qk2, k1, q255, qx1, wc, wd, newSeq, newSl, p2]; first | done | exact ⟨rfl, rfl⟩ | rfl)); (case h1 => (simp; first | done | rfl)); (case h2 => (simp; first | done | rfl))
    refine app_then (AC.app (h0 := h) etB (hw.of ((HE.refl h2).newSl 1)) (e2.newSl 1) (by rw [he.pol]; exact hpol _ (by decide)) (by simp; omega)) ?_
    rintro x4 h4 ⟨ac4, he4, _, _, _⟩
    have e4 := ac4.sv.cells
    have f4 := ac4.sv.isCell
    refine ⟨_, by simp; first | done | rfl, ?_⟩
    repeat(first|with_reducible first|refine vmR ?_|refine vmV rfl ?_|refine vmW rfl ?_|refine vmL ?_|refine blockW_y (by decide) ?_|((with_reducible first|apply vmO|apply vmT|apply vmC);case a=>simp [t0, t4, t5, t7, e4, f4, w3];with_reducible first|exact .v|exact .c|exact .t|exact .f))
    refine ⟨n - j3, by omega, _, _, j3, false, cs ++ [0], _, rfl, rfl, by omega, by omega, by simp [t0], by simp [t4], by simp, by simp; rfl, by simp, ?_, by simp; omega, he4⟩
    simpa [byteAV] using ac4
  by_cases qx1 : x = 1
  · repeat(first|with_reducible first|refine vmR ?_|refine vmV rfl ?_|refine vmW rfl ?_|refine vmL ?_|refine blockW_y (by decide) ?_|((with_reducible first|apply vmO|apply vmT|apply vmC);case a=>simp [t0, t4, t5, t7, t8, l1, n1, qj1, qj2, j1, qy, w2, qk, qk2, k1, q255, qx1, w3];with_reducible first|exact .v|exact .c|exact .t|exact .f))
    refine ⟨n - j3, by omega, _, _, j3, true, cs, w, rfl, rfl, by omega, by omega, by simp [t0], by simp [t4], by simp, by simp [t7], by simp, hw, by omega, e2⟩
  · repeat(first|with_reducible first|refine vmR ?_|refine vmV rfl ?_|refine vmW rfl ?_|refine vmL ?_|refine blockW_y (by decide) ?_|((with_reducible first|apply vmO|apply vmT|apply vmC);case a=>simp [t0, t4, t5, t7, t8, l1, n1, qj1, qj2, j1, qy, w2, qk, qk2, k1, q255, qx1];with_reducible first|exact .v|exact .c|exact .t|exact .f))
    (first | apply endW_r | apply endW_n); (case h1 => (simp [Try.results79]; first | done | rfl))
    exact ⟨[], .nils, 2, by simp, .inl ⟨rfl, rfl⟩, hx2⟩
end Go.Vn
