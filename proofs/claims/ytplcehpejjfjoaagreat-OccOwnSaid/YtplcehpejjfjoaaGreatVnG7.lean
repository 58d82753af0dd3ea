/- What functions of the program come to, in the value machine (a part of the proof of the claim's statement). No condition. -/
import Derived.Test.YtplcehpejjfjoaaGreatVnG6
set_option linter.unusedSimpArgs false
set_option linter.unusedVariables false
set_option maxRecDepth 20000
namespace Go.Vn
open Go.Proofs

end Go.Vn

set_option maxRecDepth 20000
namespace Go.Vn
open Go.Proofs

def stS (acc : List Pc) (v : Ver) : List Pc := if v.gone then withoutP acc v.fr v.to else overP acc ⟨v.fr, v.to, v.val⟩
def stF (os : List Ver) : List Pc := os.foldl stS []
end Go.Vn

set_option maxRecDepth 20000
namespace Go.Vn
open Go.Proofs

theorem backy (y a : Nat) (xs : List Ver) (v : AV) (hv : SV 8 (xs.map encV) v) (hl : xs.length ≤ 1000000) (J : Nat → Hp Fm → Prop) (K : Hp Fm → Prop) (hJ : ∀ i h, J i h → Mp.get h.obj a = some (.row [v]))
    (hy : ∀ i (hi : i < xs.length) h, J (i + 1) h → A Tryz.prog TT (.yield y) [.int .i64 (i : Nat), encV xs[i]] h (fun r h' => (r = .bool true ∧ J i h') ∨ (r = .bool false ∧ K h'))) (h0 : Hp Fm) (h00 : J xs.length h0) :
    A Tryz.prog TT (.func 99) [.yl y, .ptr a 0] h0 (fun _ h' => J 0 h' ∨ K h') := by
  have l1 := hv.len Tryz.underlying64
  rw [List.length_map] at l1
  have n1 := hv.nm
  have g0 := hJ _ _ h00
  obtain ⟨z, hz⟩ : ∃ z : Int, z = (xs.length : Int) - 1 := ⟨_, rfl⟩
  have w0 : IntKind.i64.wrap ((xs.length : Int) - 1) = z := by rw [wrap64 (by omega) (by omega)]; omega
  apply A_go Tryz.func99 rfl (by rfl); (case hn => (simp [Tryz.ntmps99]; rfl))
  repeat(first|with_reducible first|refine vmR ?_|refine vmV rfl ?_|refine vmW rfl ?_|refine vmL ?_|refine blockW_y (by decide) ?_|((with_reducible first|apply vmO|apply vmT|apply vmC);case a=>simp [g0, l1, n1, w0];with_reducible first|exact .v|exact .c|exact .t|exact .f))
  refine W_loop (fun m s => ∃ (t : Fm AV) (h : Hp Fm) (z : Int), s = ⟨t, 19, h, none⟩ ∧ z = (m : Int) - 1 ∧ m ≤ xs.length ∧ tget t 0 = .yl y ∧ tget t 1 = .ptr a 0 ∧ tget t 3 = .int .i64 z ∧ J m h) xs.length
    ⟨_, _, z, rfl, hz, Nat.le_refl _, by simp, by simp, by simp, h00⟩ ?_
  clear w0 hz z
  rintro m s ⟨t, h, z, rfl, hz, hm, t0, t1, t3, hj⟩
  by_cases q0 : 0 < m
  case neg =>
    have qz : ¬ (0 ≤ z) := by omega
    repeat(first|with_reducible first|refine vmR ?_|refine vmV rfl ?_|refine vmW rfl ?_|refine vmL ?_|refine blockW_y (by decide) ?_|((with_reducible first|apply vmO|apply vmT|apply vmC);case a=>simp [t0, t1, t3, qz];with_reducible first|exact .v|exact .c|exact .t|exact .f))
    (first | apply endW_r | apply endW_n); (case h1 => (simp [Tryz.results99]; first | done | rfl))
    left
    rw [show m = 0 by omega] at hj; exact hj
  have qz : 0 ≤ z := by omega
  obtain ⟨i, hi⟩ : ∃ i, i = m - 1 := ⟨_, rfl⟩
  have hzi : z = (i : Int) := by omega
  have hmi : m = i + 1 := by omega
  subst hzi
  have hil : i < xs.length := by omega
  have g1 := hJ _ _ hj
  have i1 := hv.idx Tryz.underlying64 z117 (k := .i64) (i := i) (by simp) (by simpa using hil)
  simp only [List.getElem_map, Int.toNat_natCast] at i1
  have hyi := hy i hil h (by rw [← hmi]; exact hj)
  obtain ⟨w, hw⟩ : ∃ w : Int, w = (i : Int) - 1 := ⟨_, rfl⟩
  have w1 : IntKind.i64.wrap ((i : Int) - 1) = w := by rw [wrap64 (by omega) (by omega)]; omega
  repeat(first|with_reducible first|refine vmR ?_|refine vmV rfl ?_|refine vmW rfl ?_|refine vmL ?_|refine blockW_y (by decide) ?_|((with_reducible first|apply vmO|apply vmT|apply vmC);case a=>simp [t0, t1, t3, qz, g1, i1];with_reducible first|exact .v|exact .c|exact .t|exact .f))
  refine A.mono hyi ?_
  rintro r h2 hr
  refine ⟨_, by simp; first | done | rfl, ?_⟩
  rcases hr with ⟨rfl, hj2⟩ | ⟨rfl, hk⟩
  · repeat(first|with_reducible first|refine vmR ?_|refine vmV rfl ?_|refine vmW rfl ?_|refine vmL ?_|refine blockW_y (by decide) ?_|((with_reducible first|apply vmO|apply vmT|apply vmC);case a=>simp [t0, t1, t3, w1];with_reducible first|exact .v|exact .c|exact .t|exact .f))
    exact ⟨i, by omega, _, _, w, rfl, hw, by omega, by simp [t0], by simp [t1], by simp, hj2⟩
  · repeat(first|with_reducible first|refine vmR ?_|refine vmV rfl ?_|refine vmW rfl ?_|refine vmL ?_|refine blockW_y (by decide) ?_|((with_reducible first|apply vmO|apply vmT|apply vmC);case a=>simp [t0, t1, t3];with_reducible first|exact .v|exact .c|exact .t|exact .f))
    (first | apply endW_r | apply endW_n); (case h1 => (simp [Tryz.results99]; first | done | rfl))
    right; exact hk

theorem seqB (v : AV) (hv : v.cells = [v] ∧ v.isCell = true) (h : Hp Fm) : A Tryz.prog TT (.func 75) [v] h (fun r h' => r = .fn (.func 99) [] [.ptr h.no 0] ∧ h' = { h with obj := Mp.set h.obj h.no (.row [v]), no := h.no + 1 }) := by
  obtain ⟨v1, v2⟩ := hv
  apply A_go Tryz.func75 rfl (by rfl); (case hn => (simp [Tryz.ntmps75]; rfl))
  repeat(first|with_reducible first|refine vmR ?_|refine vmV rfl ?_|refine vmW rfl ?_|refine vmL ?_|refine blockW_y (by decide) ?_|((with_reducible first|apply vmO|apply vmT|apply vmC);case a=>simp [v1, v2];with_reducible first|exact .v|exact .c|exact .t|exact .f))
  (first | apply endW_r | apply endW_n); (case h1 => (simp [Tryz.results75]; first | done | rfl))
  simp

def getF (os : List Ver) (t : Int) : Option (List UInt8) := match os.reverse.find? (fun v => decide (Has v.fr v.to t)) with
  | some v => if v.gone then none else some v.val
  | none => none
def outG (o : Option (List UInt8)) : AV := match o with
  | some s => .tup [.str s, .bool true]
  | none => .tup [.str [], .bool false]

end Go.Vn

set_option maxRecDepth 20000
namespace Go.Vn
open Go.Proofs

theorem at_ans (ps : List Pc) (v : AV) (hv : SV 3 (ps.map encP) v) (hl : ps.length ≤ 16000000) (tm : Int) (h0 : Hp Fm) :
    A Tryz.prog TT (.func 74) [v, .int .i64 tm] h0 (fun r h' => r = outG (atP ps tm) ∧ HE h0 h') := by
  have l1 := hv.len Tryz.underlying42
  rw [List.length_map] at l1
  have n1 := hv.nm
  apply A_go Tryz.func74 rfl (by rfl); (case hn => (simp [Tryz.ntmps74]; rfl))
  repeat(first|with_reducible first|refine vmR ?_|refine vmV rfl ?_|refine vmW rfl ?_|refine vmL ?_|refine blockW_y (by decide) ?_|((with_reducible first|apply vmO|apply vmT|apply vmC);case a=>simp [l1, n1];with_reducible first|exact .v|exact .c|exact .t|exact .f))
  refine W_loop (fun m s => ∃ (t : Fm AV) (h : Hp Fm) (i : Nat), s = ⟨t, 21, h, none⟩ ∧ m = ps.length - i ∧ i ≤ ps.length ∧ tget t 1 = .int .i64 tm ∧ tget t 8 = v ∧ tget t 9 = .int .i64 ps.length ∧ tget t 10 = .int .i64 i ∧ atP ps tm = atP (ps.drop i) tm ∧ HE h0 h) ps.length
    ⟨_, _, 0, rfl, rfl, by omega, by simp, by simp, by simp, by simp, rfl, HE.refl _⟩ ?_
  rintro m s ⟨t, h, i, rfl, rfl, hi, t1, t8, t9, t10, hat, he⟩
  by_cases qi : i < ps.length
  case neg =>
    have qn : ¬ (i < ps.length) := qi
    repeat(first|with_reducible first|refine vmR ?_|refine vmV rfl ?_|refine vmW rfl ?_|refine vmL ?_|refine blockW_y (by decide) ?_|((with_reducible first|apply vmO|apply vmT|apply vmC);case a=>simp [t1, t8, t9, t10, qi, qn];with_reducible first|exact .v|exact .c|exact .t|exact .f))
    (first | apply endW_r | apply endW_n); (case h1 => (simp [Tryz.results74]; first | done | rfl))
    rw [hat, List.drop_eq_nil_of_le (by omega)]
    exact ⟨rfl, he⟩
  have i1 := hv.idx Tryz.underlying42 z49 (k := .i64) (i := i) (by simp) (by simpa using qi)
  simp only [List.getElem_map, Int.toNat_natCast] at i1
  have w1 : IntKind.i64.wrap ((i : Int) + 1) = ((i + 1 : Nat) : Int) := by rw [wrap64 (by omega) (by omega)]; simp
  rw [List.drop_eq_getElem_cons qi, atP_cons] at hat
  obtain ⟨x, hx⟩ : ∃ x, x = ps[i] := ⟨_, rfl⟩
  rw [← hx] at i1 hat
  repeat(first|with_reducible first|refine vmR ?_|refine vmV rfl ?_|refine vmW rfl ?_|refine vmL ?_|refine blockW_y (by decide) ?_|((with_reducible first|apply vmO|apply vmT|apply vmC);case a=>simp [t1, t8, t9, t10, qi, i1];with_reducible first|exact .v|exact .c|exact .t|exact .f))
  refine A.mono (has_ans x.fr x.to tm _) ?_
  rintro _ hh ⟨rfl, heh⟩
  have m9 : Mp.get hh.obj h.no = some (.row [.int .i64 x.fr, .int .i64 x.to, .str x.val]) := by rw [heh.obj _ (by show h.no < h.no + 1; omega)]; simp
  have he2 : HE h0 hh := he.trans ((((HE.refl h).new (.row [.int .i64 0, .int .i64 0, .str []])).set (Nat.le_refl _) (.row [.int .i64 x.fr, .int .i64 x.to, .str x.val])).trans heh)
  refine ⟨_, by simp; first | done | rfl, ?_⟩
  by_cases qh : Has x.fr x.to tm
  · repeat(first|with_reducible first|refine vmR ?_|refine vmV rfl ?_|refine vmW rfl ?_|refine vmL ?_|refine blockW_y (by decide) ?_|((with_reducible first|apply vmO|apply vmT|apply vmC);case a=>simp [t1, t8, t9, t10, qh, m9];with_reducible first|exact .v|exact .c|exact .t|exact .f))
    (first | apply endW_r | apply endW_n); (case h1 => (simp [Tryz.results74]; first | done | rfl))
    rw [hat, if_pos qh]
    exact ⟨rfl, he2⟩
  · repeat(first|with_reducible first|refine vmR ?_|refine vmV rfl ?_|refine vmW rfl ?_|refine vmL ?_|refine blockW_y (by decide) ?_|((with_reducible first|apply vmO|apply vmT|apply vmC);case a=>simp [t1, t8, t9, t10, qh, w1];with_reducible first|exact .v|exact .c|exact .t|exact .f))
    rw [if_neg qh] at hat
    refine ⟨_, ?_, _, _, i + 1, rfl, rfl, by omega, by simp [t1], by simp [t8], by simp [t9], by simp, hat, he2⟩
    omega

end Go.Vn
