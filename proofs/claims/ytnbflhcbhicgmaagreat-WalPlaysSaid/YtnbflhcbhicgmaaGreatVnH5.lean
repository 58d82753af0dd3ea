/- What functions of the program come to, in the value machine (a part of the proof of the claim's statement). No condition. -/
import Derived.Test.YtnbflhcbhicgmaaGreatVnH4
set_option linter.unusedSimpArgs false
set_option linter.unusedVariables false
set_option maxRecDepth 20000
namespace Go.Vn
open Go.Proofs

end Go.Vn

set_option maxRecDepth 20000
namespace Go.Vn
open Go.Proofs

end Go.Vn

set_option maxRecDepth 20000
namespace Go.Vn
open Go.Proofs

theorem encG_len {ep : Int} {vs : List Ver} (hep : 0 ≤ ep ∧ ep ≤ 10000) (hl : vs.length ≤ 300) (hm : ∀ v ∈ vs, VMay v = true) (hs : ∀ v ∈ vs, VSmall v) : (encG ep vs).length ≤ 18 + 2072 * vs.length := by
  have fl := flat_len (vs := vs) fun v hv => ⟨vmay_num (hm v hv), hs v hv⟩
  have el := enc7_len 8 vs.length (by omega)
  have ee := enc7_len 8 ep.toNat (by omega)
  simp only [encG, encL, encs, List.length_append, List.flatMap_cons, List.flatMap_nil, List.length_nil, Int.toNat_natCast]
  omega

set_option maxHeartbeats 4000000 in
theorem may15_ans (ep : Int) (vs : List Ver) (rv : AV) (h0 : Hp Fm) (k : SV 8 (vs.map encV) rv) (hl : vs.length ≤ 100000) (hs : ∀ v ∈ vs, v.key.length ≤ 100000) (hp : ∀ z, h0.pol z = false) :
    A Tryz.prog TT (.func 12) [.agg [.int .i64 ep, rv]] h0 (fun r h' => r = .bool (GMay ep vs) ∧ HE h0 h') := by
  have c1 := k.cells
  have i1 := k.isCell
  have n1 := k.nm
  have l1 := k.len Tryz.underlying33
  rw [List.length_map] at l1
  have e0 := (HE.refl h0).new (.row [.int .i64 ep, rv])
  apply A_go Tryz.func12 rfl (by rfl); (case hn => (simp [Tryz.ntmps12]; rfl))
  repeat(first|with_reducible first|refine vmR ?_|refine vmV rfl ?_|refine vmW rfl ?_|refine vmL ?_|refine blockW_y (by decide) ?_|((with_reducible first|apply vmO|apply vmT|apply vmC);case a=>simp [c1, i1];with_reducible first|exact .v|exact .c|exact .t|exact .f))
  refine W_loop (fun m s => ∃ (t : Fm AV) (h : Hp Fm) (i : Nat), s = ⟨t, 40, h, none⟩ ∧ m = vs.length - i ∧ i ≤ vs.length ∧ (vs.drop i).any (vOdd ep) = vs.any (vOdd ep) ∧ tget t 1 = .ptr h0.no 0 ∧ tget t 3 = .int .i64 i ∧ HE h0 h ∧ Mp.get h.obj h0.no = some (.row [.int .i64 ep, rv]) ∧ h0.no < h.no) vs.length
    ⟨_, _, 0, rfl, rfl, by omega, rfl, by simp, by simp, e0, by simp, by show h0.no < h0.no + 1; omega⟩ ?_
  rintro m s ⟨t, h, i, rfl, rfl, hi, hany, t1, t3, he, gr, gn⟩
  by_cases q : i < vs.length
  case neg =>
    have q' : ¬ (i : Int) < vs.length := by omega
    have ed : vs.drop i = [] := List.drop_eq_nil_iff.mpr (by omega)
    rw [ed] at hany
    have hany' : vs.any (vOdd ep) = false := by rw [← hany]; rfl
    by_cases q1 : 1 ≤ ep
    · by_cases q2 : ep ≤ 10000
      all_goals
        repeat(first|with_reducible first|refine vmR ?_|refine vmV rfl ?_|refine vmW rfl ?_|refine vmL ?_|refine blockW_y (by decide) ?_|((with_reducible first|apply vmO|apply vmT|apply vmC);case a=>simp [t1, t3, gr, n1, l1, c1, i1, q, q', q1, q2];with_reducible first|exact .v|exact .c|exact .t|exact .f))
        (first | apply endW_r | apply endW_n); (case h1 => (simp [Tryz.results12]; first | done | rfl))
        exact ⟨by unfold GMay; rw [hany']; simp [q1, q2], he⟩
    · repeat(first|with_reducible first|refine vmR ?_|refine vmV rfl ?_|refine vmW rfl ?_|refine vmL ?_|refine blockW_y (by decide) ?_|((with_reducible first|apply vmO|apply vmT|apply vmC);case a=>simp [t1, t3, gr, n1, l1, c1, i1, q, q', q1];with_reducible first|exact .v|exact .c|exact .t|exact .f))
      (first | apply endW_r | apply endW_n); (case h1 => (simp [Tryz.results12]; first | done | rfl))
      exact ⟨by unfold GMay; rw [hany']; simp [q1], he⟩
  have q' : (i : Int) < vs.length := by omega
  obtain ⟨x, hx⟩ : ∃ x, x = vs[i] := ⟨_, rfl⟩
  have ed : vs.drop i = x :: vs.drop (i + 1) := by rw [hx]; exact List.drop_eq_getElem_cons q
  rw [ed, List.any_cons] at hany
  have ix := k.idx (k := .i64) (i := (i : Int)) Tryz.underlying33 z69 (by omega) (by simp; omega)
  have ig : (vs.map encV)[i]'(by simp; omega) = encV x := by simp [hx]
  simp only [Int.toNat_natCast, ig] at ix
  have hxs := hs x (by rw [hx]; exact List.getElem_mem q)
  have w1 : IntKind.i64.wrap ((i : Int) + 1) = ((i + 1 : Nat) : Int) := by rw [wrap64 (by omega) (by omega)]; simp
  have hph : ∀ z, h.pol z = false := fun z => by rw [he.pol]; exact hp z
  have hOdd : vOdd ep x = (!VMay x || !decide (x.ep = ep)) := rfl
  have MX := may6_ans x h hxs hph
  obtain ⟨mx, hmx⟩ : ∃ mx, mx = VMay x := ⟨_, rfl⟩
  rw [← hmx] at MX hOdd
  clear hxs hx ed hmx
  obtain ⟨key, br, e, sq, fr, to, val, gone⟩ := x
  repeat(first|with_reducible first|refine vmR ?_|refine vmV rfl ?_|refine vmW rfl ?_|refine vmL ?_|refine blockW_y (by decide) ?_|((with_reducible first|apply vmO|apply vmT|apply vmC);case a=>simp [t1, t3, gr, n1, l1, c1, i1, q, q', ix];with_reducible first|exact .v|exact .c|exact .t|exact .f))
  refine A.mono MX ?_
  rintro _ h2 ⟨rfl, e2⟩
  have gr2 := (e2.obj _ gn).trans gr
  have gn2 := Nat.lt_of_lt_of_le gn e2.no
  refine ⟨_, by simp; first | done | rfl, ?_⟩
  cases mx with
  | false =>
    repeat(first|with_reducible first|refine vmR ?_|refine vmV rfl ?_|refine vmW rfl ?_|refine vmL ?_|refine blockW_y (by decide) ?_|((with_reducible first|apply vmO|apply vmT|apply vmC);case a=>simp;with_reducible first|exact .v|exact .c|exact .t|exact .f))
    (with_reducible refine W_draw_id (pln := true) [0, 1, 2, 3, 4, 5, 6, 7, 8, 9, 10, 11, 12, 13] [(4, (4, [])), (9, (9, [])), (11, (11, []))] (by kernel_rfl) rfl ?_)
    repeat(first|with_reducible first|refine vmR ?_|refine vmV rfl ?_|refine vmW rfl ?_|refine vmL ?_|refine blockW_y (by decide) ?_|((with_reducible first|apply vmO|apply vmT|apply vmC);case a=>simp [t1, t3, gr2];with_reducible first|exact .v|exact .c|exact .t|exact .f))
    refine ⟨by simp [readSame, beqAV_self, t1, t3, gr2]; done, _, by simp; first | done | rfl, ?_⟩
    repeat(first|with_reducible first|refine vmR ?_|refine vmV rfl ?_|refine vmW rfl ?_|refine vmL ?_|refine blockW_y (by decide) ?_|((with_reducible first|apply vmO|apply vmT|apply vmC);case a=>simp;with_reducible first|exact .v|exact .c|exact .t|exact .f))
    (first | apply endW_r | apply endW_n); (case h1 => (simp [Tryz.results12]; first | done | rfl))
    refine ⟨?_, (he.trans e2).drew⟩
    have : vs.any (vOdd ep) = true := by rw [← hany, hOdd]; simp
    unfold GMay; rw [this]; simp
  | true =>
    by_cases qe : e = ep
    · have hO : vOdd ep ⟨key, br, e, sq, fr, to, val, gone⟩ = false := by rw [hOdd]; simp [qe]
      rw [hO, Bool.false_or] at hany
      repeat(first|with_reducible first|refine vmR ?_|refine vmV rfl ?_|refine vmW rfl ?_|refine vmL ?_|refine blockW_y (by decide) ?_|((with_reducible first|apply vmO|apply vmT|apply vmC);case a=>simp;with_reducible first|exact .v|exact .c|exact .t|exact .f))
      (with_reducible refine W_draw_id (pln := true) [0, 1, 2, 3, 4, 5, 6, 7, 8, 9, 10, 11, 12, 13] [(4, (4, [])), (9, (9, [])), (11, (11, []))] (by kernel_rfl) rfl ?_)
      repeat(first|with_reducible first|refine vmR ?_|refine vmV rfl ?_|refine vmW rfl ?_|refine vmL ?_|refine blockW_y (by decide) ?_|((with_reducible first|apply vmO|apply vmT|apply vmC);case a=>simp [t1, t3, gr2, ix, c1, i1, qe];with_reducible first|exact .v|exact .c|exact .t|exact .f))
      refine ⟨by simp [readSame, beqAV_self, t1, t3, gr2, ix]; done, _, by simp; first | done | rfl, ?_⟩
      repeat(first|with_reducible first|refine vmR ?_|refine vmV rfl ?_|refine vmW rfl ?_|refine vmL ?_|refine blockW_y (by decide) ?_|((with_reducible first|apply vmO|apply vmT|apply vmC);case a=>simp [t3, w1];with_reducible first|exact .v|exact .c|exact .t|exact .f))
      exact ⟨vs.length - (i + 1), by omega, _, _, i + 1, rfl, rfl, by omega, hany, by simp [t1], by simp, (he.trans e2).drew, gr2, gn2⟩
    · have hO : vOdd ep ⟨key, br, e, sq, fr, to, val, gone⟩ = true := by rw [hOdd]; simp [qe]
      repeat(first|with_reducible first|refine vmR ?_|refine vmV rfl ?_|refine vmW rfl ?_|refine vmL ?_|refine blockW_y (by decide) ?_|((with_reducible first|apply vmO|apply vmT|apply vmC);case a=>simp;with_reducible first|exact .v|exact .c|exact .t|exact .f))
      (with_reducible refine W_draw_id (pln := true) [0, 1, 2, 3, 4, 5, 6, 7, 8, 9, 10, 11, 12, 13] [(4, (4, [])), (9, (9, [])), (11, (11, []))] (by kernel_rfl) rfl ?_)
      repeat(first|with_reducible first|refine vmR ?_|refine vmV rfl ?_|refine vmW rfl ?_|refine vmL ?_|refine blockW_y (by decide) ?_|((with_reducible first|apply vmO|apply vmT|apply vmC);case a=>simp [t1, t3, gr2, ix, c1, i1, qe];with_reducible first|exact .v|exact .c|exact .t|exact .f))
      refine ⟨by simp [readSame, beqAV_self, t1, t3, gr2, ix]; done, _, by simp; first | done | rfl, ?_⟩
      repeat(first|with_reducible first|refine vmR ?_|refine vmV rfl ?_|refine vmW rfl ?_|refine vmL ?_|refine blockW_y (by decide) ?_|((with_reducible first|apply vmO|apply vmT|apply vmC);case a=>simp;with_reducible first|exact .v|exact .c|exact .t|exact .f))
      (first | apply endW_r | apply endW_n); (case h1 => (simp [Tryz.results12]; first | done | rfl))
      refine ⟨?_, (he.trans e2).drew⟩
      have : vs.any (vOdd ep) = true := by rw [← hany, hO]; simp
      unfold GMay; rw [this]; simp
end Go.Vn

set_option maxRecDepth 20000
namespace Go.Vn
open Go.Proofs

def cutV (v : Ver) : Ver := { v with key := v.key.take 110, val := v.val.take 210 }
theorem sl_str (s : List UInt8) (n : Nat) (h : n ≤ s.length) : sliceAV Tryz.prog 9 (.str s) none (some (.int .i64 (n : Int))) none = some (.str (s.take n)) := by
  have : (n : Int) ≤ s.length := by omega
  simp [sliceAV, obound, bound, this, Tryz.underlying9]

set_option maxHeartbeats 2000000 in
theorem cut6_ans (v : Ver) (h0 : Hp Fm) (hk : v.key.length ≤ 9223372036854775807) (hv : v.val.length ≤ 9223372036854775807) :
    A Tryz.prog TT (.func 30) [encV v] h0 (fun r h' => r = encV (cutV v) ∧ HE h0 h') := by
  obtain ⟨key, br, ep, sq, fr, to, val, gone⟩ := v
  simp only at hk hv
  obtain ⟨k2, hk2⟩ : ∃ k2, k2 = key.take 110 := ⟨_, rfl⟩
  obtain ⟨v2, hv2⟩ : ∃ v2, v2 = val.take 210 := ⟨_, rfl⟩
  have ec : cutV ⟨key, br, ep, sq, fr, to, val, gone⟩ = ⟨k2, br, ep, sq, fr, to, v2, gone⟩ := by rw [hk2, hv2]; rfl
  rw [ec]
  by_cases q1 : 110 < key.length
  · have q1' : (110 : Int) < key.length := by omega
    have s1 := sl_str key 110 (by omega)
    rw [← hk2] at s1
    simp only [Int.cast_ofNat_Int] at s1
    by_cases q2 : 210 < val.length
    · have q2' : (210 : Int) < val.length := by omega
      have s2 := sl_str val 210 (by omega)
      rw [← hv2] at s2
      simp only [Int.cast_ofNat_Int] at s2
      apply A_go Tryz.func30 rfl (by rfl); (case hn => (simp [Tryz.ntmps30]; rfl))
      repeat(first|with_reducible first|refine vmR ?_|refine vmV rfl ?_|refine vmW rfl ?_|refine vmL ?_|refine blockW_y (by decide) ?_|((with_reducible first|apply vmO|apply vmT|apply vmC);case a=>simp [q1, q1', q2, q2', s1, s2];with_reducible first|exact .v|exact .c|exact .t|exact .f))
      (first | apply endW_r | apply endW_n); (case h1 => (simp [Tryz.results30]; first | done | rfl))
      exact ⟨by simp, ((((HE.refl h0).new _).new _).set (Nat.le_refl _) _).set (Nat.le_refl _) _ |>.set (Nat.le_succ _) _⟩
    · have q2' : ¬ (210 : Int) < val.length := by omega
      have e2 : v2 = val := by rw [hv2]; exact List.take_of_length_le (by omega)
      rw [e2]
      apply A_go Tryz.func30 rfl (by rfl); (case hn => (simp [Tryz.ntmps30]; rfl))
      repeat(first|with_reducible first|refine vmR ?_|refine vmV rfl ?_|refine vmW rfl ?_|refine vmL ?_|refine blockW_y (by decide) ?_|((with_reducible first|apply vmO|apply vmT|apply vmC);case a=>simp [q1, q1', q2, q2', s1];with_reducible first|exact .v|exact .c|exact .t|exact .f))
      (first | apply endW_r | apply endW_n); (case h1 => (simp [Tryz.results30]; first | done | rfl))
      exact ⟨by simp, (((HE.refl h0).new _).new _).set (Nat.le_refl _) _ |>.set (Nat.le_succ _) _⟩
  · have q1' : ¬ (110 : Int) < key.length := by omega
    have e1 : k2 = key := by rw [hk2]; exact List.take_of_length_le (by omega)
    rw [e1]
    by_cases q2 : 210 < val.length
    · have q2' : (210 : Int) < val.length := by omega
      have s2 := sl_str val 210 (by omega)
      rw [← hv2] at s2
      simp only [Int.cast_ofNat_Int] at s2
      apply A_go Tryz.func30 rfl (by rfl); (case hn => (simp [Tryz.ntmps30]; rfl))
      repeat(first|with_reducible first|refine vmR ?_|refine vmV rfl ?_|refine vmW rfl ?_|refine vmL ?_|refine blockW_y (by decide) ?_|((with_reducible first|apply vmO|apply vmT|apply vmC);case a=>simp [q1, q1', q2, q2', s2];with_reducible first|exact .v|exact .c|exact .t|exact .f))
      (first | apply endW_r | apply endW_n); (case h1 => (simp [Tryz.results30]; first | done | rfl))
      exact ⟨by simp, (((HE.refl h0).new _).new _).set (Nat.le_refl _) _ |>.set (Nat.le_succ _) _⟩
    · have q2' : ¬ (210 : Int) < val.length := by omega
      have e2 : v2 = val := by rw [hv2]; exact List.take_of_length_le (by omega)
      rw [e2]
      apply A_go Tryz.func30 rfl (by rfl); (case hn => (simp [Tryz.ntmps30]; rfl))
      repeat(first|with_reducible first|refine vmR ?_|refine vmV rfl ?_|refine vmW rfl ?_|refine vmL ?_|refine blockW_y (by decide) ?_|((with_reducible first|apply vmO|apply vmT|apply vmC);case a=>simp [q1, q1', q2, q2'];with_reducible first|exact .v|exact .c|exact .t|exact .f))
      (first | apply endW_r | apply endW_n); (case h1 => (simp [Tryz.results30]; first | done | rfl))
      exact ⟨by simp, ((HE.refl h0).new _).new _ |>.set (Nat.le_succ _) _⟩

def atEp (ep : Int) (v : Ver) : Ver := { cutV v with ep := ep }
def cutG (ep : Int) (vs : List Ver) : List Ver := (vs.take 4).map (atEp ep)
theorem etV : ElT Tryz.prog 33 69 8 80 true (.agg [.str [], .int .i64 0, .int .i64 0, .int .i64 0, .int .i64 0, .int .i64 0, .str [], .bool false]) := ⟨Tryz.underlying33, z69, b69, a69, t69, rfl, rfl, (fun h => by cases h), by omega, by omega⟩

set_option maxHeartbeats 4000000 in
theorem cut15_ans (ep : Int) (vs : List Ver) (rv : AV) (h0 : Hp Fm) (k : SV 8 (vs.map encV) rv) (hl : vs.length ≤ 9223372036854775807) (hs : ∀ v ∈ vs, v.key.length ≤ 9223372036854775807 ∧ v.val.length ≤ 9223372036854775807) (hp : ∀ z, h0.pol z = false) :
    A Tryz.prog TT (.func 11) [.agg [.int .i64 ep, rv]] h0 (fun r h' => ∃ u, r = .agg [.int .i64 ep, u] ∧ SV 8 ((cutG ep vs).map encV) u ∧ HE h0 h') := by
  have c1 := k.cells
  have i1 := k.isCell
  have n1 := k.nm
  have l1 := k.len Tryz.underlying33
  rw [List.length_map] at l1
  obtain ⟨p1, hp1⟩ : ∃ p1, p1 = h0.no + 1 := ⟨_, rfl⟩
  obtain ⟨p2, hp2⟩ : ∃ p2, p2 = h0.no + 1 + 1 := ⟨_, rfl⟩
  have n01 : h0.no ≠ h0.no + 1 := by omega
  have n02 : h0.no ≠ h0.no + 1 + 1 := by omega
  have n12 : h0.no + 1 ≠ h0.no + 1 + 1 := by omega
  apply A_go Tryz.func11 rfl (by rfl); (case hn => (simp [Tryz.ntmps11]; rfl))
  repeat(first|with_reducible first|refine vmR ?_|refine vmV rfl ?_|refine vmW rfl ?_|refine vmL ?_|refine blockW_y (by decide) ?_|((with_reducible first|apply vmO|apply vmT|apply vmC);case a=>simp [c1, i1, n01, n02, n12];with_reducible first|exact .v|exact .c|exact .t|exact .f))
  refine W_loop (fun m s => ∃ (t : Fm AV) (h : Hp Fm) (i : Nat) (u : AV), s = ⟨t, 37, h, none⟩ ∧ m = 4 - i ∧ i ≤ 4 ∧ i ≤ vs.length ∧ tget t 1 = .ptr h0.no 0 ∧ tget t 2 = .ptr p1 0 ∧ tget t 3 = .ptr p2 0 ∧ tget t 4 = .int .i64 i ∧ AC h0 h 8 (((vs.take i).map (atEp ep)).map encV) u ∧ HE h0 h ∧ Mp.get h.obj h0.no = some (.row [.int .i64 ep, rv]) ∧ Mp.get h.obj p1 = some (.row [.int .i64 0, .nils]) ∧ Mp.get h.obj p2 = some (.row [.int .i64 ep, u]) ∧ p2 < h.no) 4
    ⟨_, _, 0, .nils, rfl, rfl, by omega, by omega, by simp, by simp [hp1], by simp [hp2], by simp, .inl ⟨rfl, rfl⟩, ((((HE.refl h0).new _).new _).new _).set (Nat.le_trans (Nat.le_succ _) (Nat.le_succ _)) _, by simp [n01, n02], by simp [hp1, n12], by simp [hp2], by rw [hp2]; show h0.no + 1 + 1 < h0.no + 1 + 1 + 1; omega⟩ ?_
  rintro m s ⟨t, h, i, u, rfl, rfl, hi4, hi, t1, t2, t3, t4, hu, he, g0, g1, g2, gn⟩
  have uc := hu.sv.cells
  have ui := hu.sv.isCell
  have e02 : h0.no ≠ p2 := by omega
  have e12 : p1 ≠ p2 := by omega
  by_cases q : i < vs.length ∧ i < 4
  case neg =>
    have q' : ¬ ((i : Int) < vs.length ∧ (i : Int) < 4) := by omega
    have fin : (vs.take i).map (atEp ep) = cutG ep vs := by
      unfold cutG
      congr 1
      by_cases z : i < 4
      · rw [List.take_of_length_le (by omega), List.take_of_length_le (by omega)]
      · have : i = 4 := by omega
        rw [this]
    rw [fin] at hu
    have er : ∀ x y, splice [AV.int .i64 0, .nils] 0 [x, y] = [x, y] := fun _ _ => rfl
    by_cases qa : i < vs.length
    · have qa' : (i : Int) < vs.length := by omega
      have qb : ¬ i < 4 := by omega
      have qb' : ¬ (i : Int) < 4 := by omega
      repeat(first|with_reducible first|refine vmR ?_|refine vmV rfl ?_|refine vmW rfl ?_|refine vmL ?_|refine blockW_y (by decide) ?_|((with_reducible first|apply vmO|apply vmT|apply vmC);case a=>simp [t1, t2, t3, t4, c1, i1, n1, l1, g0, g1, g2, qa, qa', qb, qb', uc, ui];with_reducible first|exact .v|exact .c|exact .t|exact .f))
      (first | apply endW_r | apply endW_n); (case h1 => (simp [Tryz.results11, t2]; first | done | rfl))
      exact ⟨u, by simp, hu.sv, he.set (by omega) _⟩
    · have qa' : ¬ (i : Int) < vs.length := by omega
      repeat(first|with_reducible first|refine vmR ?_|refine vmV rfl ?_|refine vmW rfl ?_|refine vmL ?_|refine blockW_y (by decide) ?_|((with_reducible first|apply vmO|apply vmT|apply vmC);case a=>simp [t1, t2, t3, t4, c1, i1, n1, l1, g0, g1, g2, qa, qa', uc, ui];with_reducible first|exact .v|exact .c|exact .t|exact .f))
      (first | apply endW_r | apply endW_n); (case h1 => (simp [Tryz.results11, t2]; first | done | rfl))
      exact ⟨u, by simp, hu.sv, he.set (by omega) _⟩
  obtain ⟨qa, qb⟩ := q
  have qa' : (i : Int) < vs.length := by omega
  have qb' : (i : Int) < 4 := by omega
  obtain ⟨x, hx⟩ : ∃ x, x = vs[i] := ⟨_, rfl⟩
  have et : (vs.take (i + 1)).map (atEp ep) = (vs.take i).map (atEp ep) ++ [atEp ep x] := by rw [List.take_succ_eq_append_getElem qa, hx, List.map_append]; rfl
  have ix := k.idx (k := .i64) (i := (i : Int)) Tryz.underlying33 z69 (by omega) (by simp; omega)
  have ig : (vs.map encV)[i]'(by simp; omega) = encV x := by simp [hx]
  simp only [Int.toNat_natCast, ig] at ix
  obtain ⟨hxs1, hxs2⟩ := hs x (by rw [hx]; exact List.getElem_mem qa)
  have w1 : IntKind.i64.wrap ((i : Int) + 1) = ((i + 1 : Nat) : Int) := by rw [wrap64 (by omega) (by omega)]; simp
  have CX := cut6_ans x h hxs1 hxs2
  have hae : atEp ep x = { cutV x with ep := ep } := rfl
  obtain ⟨y, hy⟩ : ∃ y, y = cutV x := ⟨_, rfl⟩
  rw [← hy] at CX hae
  clear hxs1 hxs2 hy hx
  obtain ⟨key, br, e, sq, fr, to, val, gone⟩ := x
  obtain ⟨key2, br2, e2, sq2, fr2, to2, val2, gone2⟩ := y
  repeat(first|with_reducible first|refine vmR ?_|refine vmV rfl ?_|refine vmW rfl ?_|refine vmL ?_|refine blockW_y (by decide) ?_|((with_reducible first|apply vmO|apply vmT|apply vmC);case a=>simp [t1, t2, t3, t4, c1, i1, n1, l1, g0, qa, qa', qb, qb', ix];with_reducible first|exact .v|exact .c|exact .t|exact .f))
  refine A.mono CX ?_
  rintro _ h2 ⟨rfl, eh⟩
  have g0' := (eh.obj _ (by omega)).trans g0
  have g1' := (eh.obj _ (by omega)).trans g1
  have g2' := (eh.obj _ gn).trans g2
  have gn' := Nat.lt_of_lt_of_le gn eh.no
  have f0 : h0.no ≠ h2.no := by omega
  have f1 : p1 ≠ h2.no := by omega
  have f2 : p2 ≠ h2.no := by omega
  have p2f : ∀ z, h2.pol z = false := fun z => by rw [(he.trans eh).pol]; exact hp z
  have en := (((HE.refl h2).new (.row [.str [], .int .i64 0, .int .i64 0, .int .i64 0, .int .i64 0, .int .i64 0, .str [], .bool false])).set (Nat.le_refl _) (.row [.str key2, .int .i64 br2, .int .i64 e2, .int .i64 sq2, .int .i64 fr2, .int .i64 to2, .str val2, .bool gone2])).set (o := h2.no) (Nat.le_refl _) (.row [.str key2, .int .i64 br2, .int .i64 ep, .int .i64 sq2, .int .i64 fr2, .int .i64 to2, .str val2, .bool gone2])
  refine ⟨_, by simp; first | done | rfl, ?_⟩
  repeat(first|with_reducible first|refine vmR ?_|refine vmV rfl ?_|refine vmW rfl ?_|refine vmL ?_|refine blockW_y (by decide) ?_|((with_reducible first|apply vmO|apply vmT|apply vmC);case a=>simp [t1, t3, g0', g2', f0, f2, uc, ui, newSeq, newSl, p2f];with_reducible first|exact .v|exact .c|exact .t|exact .f))
  with_reducible apply WO_app_i; (case hw => (simp [t1, t3, g0', g2', f0, f2, uc, ui, newSeq, newSl, p2f]; done)); (case ho => rfl); (case hb => rfl); (case ha => (simp [t1, t3, g0', g2', f0, f2, uc, ui, newSeq, newSl, p2f]; first | done | exact ⟨rfl, rfl⟩ | rfl)); (case h1 => (simp; first | done | rfl)); (case h2 => (simp; first | done | rfl))
  have hul := hu.of (eh.trans (en.newSl 1))
  refine app_then (AC.app (h0 := h0) etV hul ((he.trans eh).trans (en.newSl 1)) (hp _) (by simp; omega)) ?_
  rintro x4 h4 ⟨ac4, he4, ho4, hn4, _⟩
  have e4 := ac4.sv.cells
  have f4 := ac4.sv.isCell
  have k0 : Mp.get h4.obj h0.no = some (.row [.int .i64 ep, rv]) := by rw [ho4]; simp [f0]; exact g0'
  have k1 : Mp.get h4.obj p1 = some (.row [.int .i64 0, .nils]) := by rw [ho4]; simp [f1]; exact g1'
  have k2 : Mp.get h4.obj p2 = some (.row [.int .i64 ep, u]) := by rw [ho4]; simp [f2]; exact g2'
  have kn : p2 < h4.no := by rw [hn4]; show p2 < h2.no + 1; omega
  clear ho4 hn4
  refine ⟨_, by simp; first | done | rfl, ?_⟩
  repeat(first|with_reducible first|refine vmR ?_|refine vmV rfl ?_|refine vmW rfl ?_|refine vmL ?_|refine blockW_y (by decide) ?_|((with_reducible first|apply vmO|apply vmT|apply vmC);case a=>simp [t3, t4, k2, e4, f4, w1];with_reducible first|exact .v|exact .c|exact .t|exact .f))
  refine ⟨4 - (i + 1), by omega, _, _, i + 1, x4, rfl, rfl, by omega, by omega, by simp [t1], by simp [t2], by simp [t3], by simp, ?_, he4.set (by omega) _, by simp [e02, k0], by simp [e12, k1], by simp, kn⟩
  rw [et, List.map_append]
  rw [hae]
  refine AC.ofX (S := fun _ => True) ac4 ?_
  exact (HX.refl (fun _ => True) (fun _ => False) h4).set (o := p2) (fun _ => trivial) _
end Go.Vn
