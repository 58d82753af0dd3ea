/- What functions of the program come to, in the value machine (a part of the proof of the claim's statement). No condition. -/
import Derived.Test.YtnbflhcbhicgmaaGreatVnH6
set_option linter.unusedSimpArgs false
set_option linter.unusedVariables false
set_option maxRecDepth 20000
namespace Go.Vn
open Go.Proofs

def num4 : List UInt8 → Nat
  | a :: b :: c :: d :: _ => a.toNat + 256 * b.toNat + 65536 * c.toNat + 16777216 * d.toNat
  | _ => 0
theorem num4_lt (b : List UInt8) : num4 b < 4294967296 := by
  unfold num4
  split
  · rename_i a b c d _
    have := a.toNat_lt; have := b.toNat_lt; have := c.toNat_lt; have := d.toNat_lt
    omega
  · omega
theorem num4_four {n : Nat} (h : n < 4294967296) (r : List UInt8) : num4 (four n ++ r) = n := by
  simp only [four, List.cons_append, List.nil_append, num4]
  have e : ∀ k : Nat, k < 256 → (UInt8.ofNat k).toNat = k := fun k hk => by simp; omega
  rw [e _ (by omega), e _ (by omega), e _ (by omega), e _ (by omega)]
  omega
theorem or_shl {a b i n : Nat} (ha : a < 2 ^ i) (hn : n = b * 2 ^ i) (h : n + a < 9223372036854775808) : IntKind.i64.wrap (↑(a % 2 ^ IntKind.i64.bits ||| n % 2 ^ IntKind.i64.bits) : Int) = ((a + n : Nat) : Int) := by
  have e1 : a % 2 ^ IntKind.i64.bits = a := Nat.mod_eq_of_lt (by simp only [IntKind.bits]; omega)
  have e2 : n % 2 ^ IntKind.i64.bits = n := Nat.mod_eq_of_lt (by simp only [IntKind.bits]; omega)
  have e3 := Nat.shiftLeft_add_eq_or_of_lt ha b
  rw [Nat.shiftLeft_eq, ← hn] at e3
  rw [e1, e2, Nat.or_comm, ← e3, Nat.add_comm n a]
  exact wrap64 (by omega) (by omega)
set_option maxHeartbeats 1000000 in
theorem number_ans (b : List UInt8) (v : AV) (h0 : Hp Fm) (k : SV 1 (b.map byteAV) v) (h4 : 4 ≤ b.length) :
    A Tryz.prog TT (.func 95) [v] h0 (fun r h' => r = .int .i64 (num4 b) ∧ HE h0 h') := by
  have c1 := k.cells
  have i1 := k.isCell
  obtain ⟨x0, x1, x2, x3, tl, rfl⟩ : ∃ x0 x1 x2 x3 tl, b = x0 :: x1 :: x2 :: x3 :: tl := by
    match b, h4 with
    | x0 :: x1 :: x2 :: x3 :: tl, _ => exact ⟨x0, x1, x2, x3, tl, rfl⟩
  have ix0 := k.idx (k := .i64) (i := 0) Tryz.underlying58 z5 (by omega) (by simp)
  have ix1 := k.idx (k := .i64) (i := 1) Tryz.underlying58 z5 (by omega) (by simp)
  have ix2 := k.idx (k := .i64) (i := 2) Tryz.underlying58 z5 (by omega) (by simp)
  have ix3 := k.idx (k := .i64) (i := 3) Tryz.underlying58 z5 (by omega) (by simp)
  have l0 := x0.toNat_lt
  have l1 := x1.toNat_lt
  have l2 := x2.toNat_lt
  have l3 := x3.toNat_lt
  have en : num4 (x0 :: x1 :: x2 :: x3 :: tl) = x0.toNat + 256 * x1.toNat + 65536 * x2.toNat + 16777216 * x3.toNat := rfl
  rw [en]
  replace ix0 : indexAddrAV Tryz.prog 58 v (.int .i64 0) = some (.el (.int .u8 (x0.toNat : Int)) 0) := by rw [ix0]; simp [byteAV]
  replace ix1 : indexAddrAV Tryz.prog 58 v (.int .i64 1) = some (.el (.int .u8 (x1.toNat : Int)) 0) := by rw [ix1]; simp [byteAV]
  replace ix2 : indexAddrAV Tryz.prog 58 v (.int .i64 2) = some (.el (.int .u8 (x2.toNat : Int)) 0) := by rw [ix2]; simp [byteAV]
  replace ix3 : indexAddrAV Tryz.prog 58 v (.int .i64 3) = some (.el (.int .u8 (x3.toNat : Int)) 0) := by rw [ix3]; simp [byteAV]
  generalize x0.toNat = y0 at *
  generalize x1.toNat = y1 at *
  generalize x2.toNat = y2 at *
  generalize x3.toNat = y3 at *
  obtain ⟨n1, hn1⟩ : ∃ n1, n1 = y1 * 256 := ⟨_, rfl⟩
  obtain ⟨n2, hn2⟩ : ∃ n2, n2 = y2 * 65536 := ⟨_, rfl⟩
  obtain ⟨n3, hn3⟩ : ∃ n3, n3 = y3 * 16777216 := ⟨_, rfl⟩
  obtain ⟨s1, hs1⟩ : ∃ s1, s1 = y0 + n1 := ⟨_, rfl⟩
  obtain ⟨s2, hs2⟩ : ∃ s2, s2 = s1 + n2 := ⟨_, rfl⟩
  obtain ⟨s3, hs3⟩ : ∃ s3, s3 = s2 + n3 := ⟨_, rfl⟩
  have w0 : IntKind.i64.wrap (y0 : Int) = (y0 : Int) := wrap64 (by omega) (by omega)
  have w1 : IntKind.i64.wrap (y1 : Int) = (y1 : Int) := wrap64 (by omega) (by omega)
  have w2 : IntKind.i64.wrap (y2 : Int) = (y2 : Int) := wrap64 (by omega) (by omega)
  have w3 : IntKind.i64.wrap (y3 : Int) = (y3 : Int) := wrap64 (by omega) (by omega)
  have f1 : IntKind.i64.wrap ((y1 : Int) * 2 ^ min 8 IntKind.i64.bits) = (n1 : Int) := by
    have e : (2 ^ min 8 IntKind.i64.bits : Int) = 256 := by decide
    rw [e, wrap64 (by omega) (by omega)]; omega
  have f2 : IntKind.i64.wrap ((y2 : Int) * 2 ^ min 16 IntKind.i64.bits) = (n2 : Int) := by
    have e : (2 ^ min 16 IntKind.i64.bits : Int) = 65536 := by decide
    rw [e, wrap64 (by omega) (by omega)]; omega
  have f3 : IntKind.i64.wrap ((y3 : Int) * 2 ^ min 24 IntKind.i64.bits) = (n3 : Int) := by
    have e : (2 ^ min 24 IntKind.i64.bits : Int) = 16777216 := by decide
    rw [e, wrap64 (by omega) (by omega)]; omega
  have o1 : IntKind.i64.wrap (↑(y0 % 2 ^ IntKind.i64.bits ||| n1 % 2 ^ IntKind.i64.bits) : Int) = (s1 : Int) := by rw [or_shl (b := y1) (i := 8) (by omega) (by omega) (by omega), hs1]
  have o2 : IntKind.i64.wrap (↑(s1 % 2 ^ IntKind.i64.bits ||| n2 % 2 ^ IntKind.i64.bits) : Int) = (s2 : Int) := by rw [or_shl (b := y2) (i := 16) (by omega) (by omega) (by omega), hs2]
  have o3 : IntKind.i64.wrap (↑(s2 % 2 ^ IntKind.i64.bits ||| n3 % 2 ^ IntKind.i64.bits) : Int) = (s3 : Int) := by rw [or_shl (b := y3) (i := 24) (by omega) (by omega) (by omega), hs3]
  apply A_go Tryz.func95 rfl (by rfl); (case hn => (simp [Tryz.ntmps95]; rfl))
  repeat(first|with_reducible first|refine vmR ?_|refine vmV rfl ?_|refine vmW rfl ?_|refine vmL ?_|refine blockW_y (by decide) ?_|((with_reducible first|apply vmO|apply vmT|apply vmC);case a=>simp;with_reducible first|exact .v|exact .c|exact .t|exact .f))
  (with_reducible refine W_draw_id (pln := true) [0, 1, 2, 3, 4, 5, 6, 7, 8, 9, 10, 11, 12, 13, 14, 15, 16, 17, 18, 19, 20, 21, 22] [(2, (2, [])), (6, (6, [])), (12, (12, [])), (18, (18, []))] (by kernel_rfl) rfl ?_)
  repeat(first|with_reducible first|refine vmR ?_|refine vmV rfl ?_|refine vmW rfl ?_|refine vmL ?_|refine blockW_y (by decide) ?_|((with_reducible first|apply vmO|apply vmT|apply vmC);case a=>simp [c1, i1, ix0, ix1, ix2, ix3, w0, w1, w2, w3, shiftBin, f1, f2, f3, o1, o2, o3];with_reducible first|exact .v|exact .c|exact .t|exact .f))
  refine ⟨by simp [readSame, beqAV_self, c1, i1, ix0, ix1, ix2, ix3]; done, _, by simp; first | done | rfl, ?_⟩
  repeat(first|with_reducible first|refine vmR ?_|refine vmV rfl ?_|refine vmW rfl ?_|refine vmL ?_|refine blockW_y (by decide) ?_|((with_reducible first|apply vmO|apply vmT|apply vmC);case a=>simp;with_reducible first|exact .v|exact .c|exact .t|exact .f))
  (first | apply endW_r | apply endW_n); (case h1 => (simp [Tryz.results95]; first | done | rfl))
  refine ⟨?_, (HE.refl h0).drew⟩
  congr 1; omega

def oneP (b : List UInt8) : Option (List UInt8 × List UInt8) :=
  if b.length < 8 ∨ b.length - 8 < num4 b then none
  else if crcSum ((b.drop 8).take (num4 b)) = num4 (b.drop 4) then some ((b.drop 8).take (num4 b), b.drop (8 + num4 b)) else none
theorem sl_b {v : AV} {b : List UInt8} (k : SV 1 (b.map byteAV) v) (i j : Nat) (hi : i ≤ j) (hj : j ≤ b.length) (h0 : 0 < b.length) : ∃ r, sliceAV Tryz.prog 58 v (some (.int .i64 (i : Int))) (some (.int .i64 (j : Int))) none = some r ∧ SV 1 (((b.drop i).take (j - i)).map byteAV) r := by
  rcases k with ⟨rfl, e⟩ | ⟨g, off, cp, rfl⟩ | ⟨c, rfl, e⟩
  · have : b = [] := by simpa using e
    subst this; simp at h0
  · refine ⟨.sl g (off + i) 1 (cp - i) (((b.map byteAV).drop i).take (j - i)), ?_, .inr (.inl ⟨_, _, _, by rw [List.map_take, List.map_drop]⟩)⟩
    have h1 : (0 : Int) ≤ (j : Int) ∧ (j : Int) ≤ b.length := by omega
    have h3 : (0 : Int) ≤ (i : Int) ∧ (i : Int) ≤ (j : Int) := by omega
    simp [sliceAV, Tryz.underlying58, obound, bound, hi, hj]
  · have : b = [] := by simpa using e
    subst this; simp at h0

set_option maxHeartbeats 2000000 in
theorem one_ans (b : List UInt8) (v : AV) (h0 : Hp Fm) (k : SV 1 (b.map byteAV) v) (hl : b.length ≤ 16777216) (hp : h0.pol 5 = false) :
    A Tryz.prog TT (.func 84) [v] h0 (fun r h' => (match oneP b with
      | none => ∃ y e, r = .tup [.nils, y, .int .i64 e] ∧ e ≠ 0
      | some (own, rest) => ∃ u w, r = .tup [u, w, .int .i64 0] ∧ SV 1 (own.map byteAV) u ∧ SV 1 (rest.map byteAV) w) ∧ HE h0 h') := by
  have c1 := k.cells
  have i1 := k.isCell
  have n1 := k.nm
  have l1 := k.len Tryz.underlying58
  rw [List.length_map] at l1
  by_cases q8 : b.length < 8
  · have q8' : (b.length : Int) < 8 := by omega
    have ho : oneP b = none := by unfold oneP; rw [if_pos (.inl q8)]
    rw [ho]
    apply A_go Tryz.func84 rfl (by rfl); (case hn => (simp [Tryz.ntmps84]; rfl))
    repeat(first|with_reducible first|refine vmR ?_|refine vmV rfl ?_|refine vmW rfl ?_|refine vmL ?_|refine blockW_y (by decide) ?_|((with_reducible first|apply vmO|apply vmT|apply vmC);case a=>simp [c1, i1, n1, l1, q8, q8'];with_reducible first|exact .v|exact .c|exact .t|exact .f))
    (first | apply endW_r | apply endW_n); (case h1 => (simp [Tryz.results84]; first | done | rfl))
    exact ⟨⟨.nils, 3, by simp, by decide⟩, HE.refl h0⟩
  have q8' : ¬ (b.length : Int) < 8 := by omega
  obtain ⟨n, hn⟩ : ∃ n, n = num4 b := ⟨_, rfl⟩
  have hn4 := num4_lt b
  rw [← hn] at hn4
  obtain ⟨bl, hbl⟩ : ∃ bl, bl = b.length - 8 := ⟨_, rfl⟩
  have w1 : IntKind.i64.wrap ((b.length : Int) - 8) = (bl : Int) := by rw [wrap64 (by omega) (by omega)]; omega
  have nb := fun h => number_ans b v h k (by omega)
  rw [← hn] at nb
  apply A_go Tryz.func84 rfl (by rfl); (case hn => (simp [Tryz.ntmps84]; rfl))
  repeat(first|with_reducible first|refine vmR ?_|refine vmV rfl ?_|refine vmW rfl ?_|refine vmL ?_|refine blockW_y (by decide) ?_|((with_reducible first|apply vmO|apply vmT|apply vmC);case a=>simp [c1, i1, n1, l1, q8, q8', w1];with_reducible first|exact .v|exact .c|exact .t|exact .f))
  refine A.mono (nb h0) ?_
  rintro _ h1 ⟨rfl, e1⟩
  refine ⟨_, by simp; first | done | rfl, ?_⟩
  by_cases qn : bl < n
  · have qn' : (bl : Int) < n := by omega
    have ho : oneP b = none := by unfold oneP; rw [← hn, if_pos (.inr (by omega))]
    rw [ho]
    repeat(first|with_reducible first|refine vmR ?_|refine vmV rfl ?_|refine vmW rfl ?_|refine vmL ?_|refine blockW_y (by decide) ?_|((with_reducible first|apply vmO|apply vmT|apply vmC);case a=>simp [qn, qn'];with_reducible first|exact .v|exact .c|exact .t|exact .f))
    (first | apply endW_r | apply endW_n); (case h1 => (simp [Tryz.results84]; first | done | rfl))
    exact ⟨⟨.nils, 3, by simp, by decide⟩, e1⟩
  have qn' : ¬ (bl : Int) < n := by omega
  obtain ⟨n8, hn8⟩ : ∃ n8, n8 = 8 + n := ⟨_, rfl⟩
  have w2 : IntKind.i64.wrap (8 + (n : Int)) = (n8 : Int) := by rw [wrap64 (by omega) (by omega)]; omega
  obtain ⟨r1, hr1, sr1⟩ := sl_b k 8 n8 (by omega) (by omega) (by omega)
  rw [show n8 - 8 = n by omega] at sr1
  obtain ⟨r2, hr2, sr2⟩ := k.drop Tryz.underlying58 z5 (k := .i64) (i := 4) (by omega) (by rw [List.length_map]; omega)
  rw [show (4 : Int).toNat = 4 from rfl, ← List.map_drop] at sr2
  obtain ⟨r3, hr3, sr3⟩ := k.drop Tryz.underlying58 z5 (k := .i64) (i := (n8 : Int)) (by omega) (by rw [List.length_map]; omega)
  rw [Int.toNat_natCast, ← List.map_drop] at sr3
  replace hr1 : sliceAV Tryz.prog 58 v (some (.int .i64 8)) (some (.int .i64 (n8 : Int))) none = some r1 := hr1
  have d1 := sr1.cells
  have j1 := sr1.isCell
  have d2 := sr2.cells
  have j2 := sr2.isCell
  have d3 := sr3.cells
  have j3 := sr3.isCell
  obtain ⟨own, hown⟩ : ∃ own, own = (b.drop 8).take n := ⟨_, rfl⟩
  have ownl : own.length ≤ 16777216 := by rw [hown, List.length_take, List.length_drop]; omega
  obtain ⟨m, hm⟩ : ∃ m, m = num4 (b.drop 4) := ⟨_, rfl⟩
  have ho : oneP b = if crcSum own = m then some (own, b.drop n8) else none := by
    unfold oneP; rw [← hn, if_neg (by omega), ← hown, ← hm, hn8]
  rw [← hown] at sr1
  repeat(first|with_reducible first|refine vmR ?_|refine vmV rfl ?_|refine vmW rfl ?_|refine vmL ?_|refine blockW_y (by decide) ?_|((with_reducible first|apply vmO|apply vmT|apply vmC);case a=>simp [qn, qn', c1, i1];with_reducible first|exact .v|exact .c|exact .t|exact .f))
  refine A.mono (nb h1) ?_
  rintro _ h2 ⟨rfl, e2⟩
  refine ⟨_, by simp; first | done | rfl, ?_⟩
  repeat(first|with_reducible first|refine vmR ?_|refine vmV rfl ?_|refine vmW rfl ?_|refine vmL ?_|refine blockW_y (by decide) ?_|((with_reducible first|apply vmO|apply vmT|apply vmC);case a=>simp [w2];with_reducible first|exact .v|exact .c|exact .t|exact .f))
  (with_reducible refine W_draw_id (pln := true) [0, 1, 2, 3, 4, 5, 6, 7] [] (by kernel_rfl) rfl ?_)
  repeat(first|with_reducible first|refine vmR ?_|refine vmV rfl ?_|refine vmW rfl ?_|refine vmL ?_|refine blockW_y (by decide) ?_|((with_reducible first|apply vmO|apply vmT|apply vmC);case a=>simp [c1, i1, hr1, d1, j1];with_reducible first|exact .v|exact .c|exact .t|exact .f))
  refine A.mono (csum_ans own r1 h2.drew sr1 (by omega)) ?_
  rintro _ h3 ⟨rfl, e3⟩
  rw [e3]
  refine ⟨_, by simp; first | done | rfl, ?_⟩
  repeat(first|with_reducible first|refine vmR ?_|refine vmV rfl ?_|refine vmW rfl ?_|refine vmL ?_|refine blockW_y (by decide) ?_|((with_reducible first|apply vmO|apply vmT|apply vmC);case a=>simp [c1, i1, hr2, d2, j2];with_reducible first|exact .v|exact .c|exact .t|exact .f))
  refine A.mono (number_ans (b.drop 4) r2 h2.drew sr2 (by rw [List.length_drop]; omega)) ?_
  rw [← hm]
  rintro _ h4 ⟨rfl, e4⟩
  have e04 := (e1.trans e2).drew.trans e4
  refine ⟨_, by simp; first | done | rfl, ?_⟩
  by_cases qs : crcSum own = m
  case neg =>
    have qs' : ¬ (crcSum own : Int) = (m : Int) := by omega
    rw [ho, if_neg qs]
    repeat(first|with_reducible first|refine vmR ?_|refine vmV rfl ?_|refine vmW rfl ?_|refine vmL ?_|refine blockW_y (by decide) ?_|((with_reducible first|apply vmO|apply vmT|apply vmC);case a=>simp [qs, qs'];with_reducible first|exact .v|exact .c|exact .t|exact .f))
    refine ⟨by simp [readSame, beqAV_self, c1, i1, hr1, hr2]; done, _, by simp; first | done | rfl, ?_⟩
    repeat(first|with_reducible first|refine vmR ?_|refine vmV rfl ?_|refine vmW rfl ?_|refine vmL ?_|refine blockW_y (by decide) ?_|((with_reducible first|apply vmO|apply vmT|apply vmC);case a=>simp;with_reducible first|exact .v|exact .c|exact .t|exact .f))
    (with_reducible refine W_draw_id (pln := true) [0, 1, 2, 3, 4, 5] [] (by kernel_rfl) rfl ?_)
    repeat(first|with_reducible first|refine vmR ?_|refine vmV rfl ?_|refine vmW rfl ?_|refine vmL ?_|refine blockW_y (by decide) ?_|((with_reducible first|apply vmO|apply vmT|apply vmC);case a=>simp [c1, i1, hr3, d3, j3];with_reducible first|exact .v|exact .c|exact .t|exact .f))
    refine ⟨by simp [readSame, beqAV_self, c1, i1, hr3]; done, _, by simp; first | done | rfl, ?_⟩
    repeat(first|with_reducible first|refine vmR ?_|refine vmV rfl ?_|refine vmW rfl ?_|refine vmL ?_|refine blockW_y (by decide) ?_|((with_reducible first|apply vmO|apply vmT|apply vmC);case a=>simp;with_reducible first|exact .v|exact .c|exact .t|exact .f))
    (first | apply endW_r | apply endW_n); (case h1 => (simp [Tryz.results84]; first | done | rfl))
    exact ⟨⟨r3, 4, by simp, by decide⟩, e04.drew⟩
  have qs' : (crcSum own : Int) = (m : Int) := by omega
  rw [ho, if_pos qs]
  repeat(first|with_reducible first|refine vmR ?_|refine vmV rfl ?_|refine vmW rfl ?_|refine vmL ?_|refine blockW_y (by decide) ?_|((with_reducible first|apply vmO|apply vmT|apply vmC);case a=>simp [qs, qs'];with_reducible first|exact .v|exact .c|exact .t|exact .f))
  refine ⟨by simp [readSame, beqAV_self, c1, i1, hr1, hr2]; done, _, by simp; first | done | rfl, ?_⟩
  repeat(first|with_reducible first|refine vmR ?_|refine vmV rfl ?_|refine vmW rfl ?_|refine vmL ?_|refine blockW_y (by decide) ?_|((with_reducible first|apply vmO|apply vmT|apply vmC);case a=>simp;with_reducible first|exact .v|exact .c|exact .t|exact .f))
  (with_reducible refine W_draw_id (pln := true) [0, 1, 2, 3, 4, 5, 6, 7, 8, 9] [] (by kernel_rfl) rfl ?_)
  repeat(first|with_reducible first|refine vmR ?_|refine vmV rfl ?_|refine vmW rfl ?_|refine vmL ?_|refine blockW_y (by decide) ?_|((with_reducible first|apply vmO|apply vmT|apply vmC);case a=>simp [c1, i1, hr1, d1, j1];with_reducible first|exact .v|exact .c|exact .t|exact .f))
  have e04d := e04.drew
  refine A.mono (clonea_ans own r1 h4.drew sr1 (by omega) (by rw [e04d.pol]; exact hp)) ?_
  rintro u h5 ⟨a5, e5⟩
  have uc := a5.sv.cells
  have ui := a5.sv.isCell
  refine ⟨_, by simp; first | done | rfl, ?_⟩
  repeat(first|with_reducible first|refine vmR ?_|refine vmV rfl ?_|refine vmW rfl ?_|refine vmL ?_|refine blockW_y (by decide) ?_|((with_reducible first|apply vmO|apply vmT|apply vmC);case a=>simp [c1, i1, hr3, d3, j3, uc, ui];with_reducible first|exact .v|exact .c|exact .t|exact .f))
  refine ⟨by simp [readSame, beqAV_self, c1, i1, hr1, hr3]; done, _, by simp; first | done | rfl, ?_⟩
  repeat(first|with_reducible first|refine vmR ?_|refine vmV rfl ?_|refine vmW rfl ?_|refine vmL ?_|refine blockW_y (by decide) ?_|((with_reducible first|apply vmO|apply vmT|apply vmC);case a=>simp;with_reducible first|exact .v|exact .c|exact .t|exact .f))
  (first | apply endW_r | apply endW_n); (case h1 => (simp [Tryz.results84]; first | done | rfl))
  exact ⟨⟨u, r3, by simp, a5.sv, sr3⟩, e04d.trans e5⟩
end Go.Vn

set_option maxRecDepth 20000
namespace Go.Vn
open Go.Proofs

theorem oneP_len {b own rest : List UInt8} (h : oneP b = some (own, rest)) : own.length + rest.length + 8 = b.length := by
  unfold oneP at h
  split at h
  · cases h
  · rename_i q
    split at h
    · cases h
      rw [List.length_take, List.length_drop, List.length_drop]; omega
    · cases h
def framesP (b : List UInt8) : List (List UInt8) := match h : oneP b with
  | none => []
  | some (own, rest) => own :: framesP rest
termination_by b.length
decreasing_by
  have := oneP_len h
  omega
theorem framesP_none {b : List UInt8} (h : oneP b = none) : framesP b = [] := by
  rw [framesP]; split
  · rfl
  · rename_i own rest h2; rw [h] at h2; cases h2
theorem framesP_some {b own rest : List UInt8} (h : oneP b = some (own, rest)) : framesP b = own :: framesP rest := by
  rw [framesP]; split
  · rename_i h2; rw [h] at h2; cases h2
  · rename_i own' rest' h2; rw [h] at h2; cases h2; rfl
def lenFr (l : List (List UInt8)) : Nat := (l.map fun b => b.length + 8).sum
theorem lenFr_app (l : List (List UInt8)) (b : List UInt8) : lenFr (l ++ [b]) = lenFr l + (b.length + 8) := by simp [lenFr]
theorem lenFr_cons (l : List (List UInt8)) (b : List UInt8) : lenFr (b :: l) = (b.length + 8) + lenFr l := by simp [lenFr]
theorem framesP_len (b : List UInt8) : lenFr (framesP b) ≤ b.length := by
  suffices H : ∀ n (b : List UInt8), b.length ≤ n → lenFr (framesP b) ≤ b.length from H _ b (Nat.le_refl _)
  intro n
  induction n with
  | zero =>
    intro b hb
    have : oneP b = none := by unfold oneP; rw [if_pos (.inl (by omega))]
    rw [framesP_none this]; simp [lenFr]
  | succ n ih =>
    intro b hb
    cases ho : oneP b with
    | none => rw [framesP_none ho]; simp [lenFr]
    | some w =>
      obtain ⟨own, rest⟩ := w
      have hl := oneP_len ho
      have := ih rest (by omega)
      rw [framesP_some ho, lenFr_cons]; omega

set_option maxHeartbeats 1000000 in
theorem call1_ans (bx y : Nat) (b : List UInt8) (v : AV) (h0 : Hp Fm) (k : SV 1 (b.map byteAV) v) (hl : b.length ≤ 16777216) (hb : Mp.get h0.obj bx = some (.row [v])) (bn : bx < h0.no) (hp : h0.pol 5 = false)
    (Iv : List (List UInt8) → Hp Fm → Prop)
    (st : ∀ done h h', Iv done h → HX (fun q => q = bx) (fun _ => False) h h' → Iv done h')
    (i0 : Iv [] h0)
    (rd : ∀ done own u h, Iv done h → SV 1 (own.map byteAV) u → lenFr (done ++ [own]) ≤ b.length → HX (fun q => True) (fun _ => True) h0 h → A Tryz.prog TT (.yield y) [u] h (fun r h' => r = .bool true ∧ Iv (done ++ [own]) h' ∧ HX (fun q => q ≠ bx) (fun _ => True) h h')) :
    A Tryz.prog TT (.func 83) [.yl y, .ptr bx 0] h0 (fun _ h' => Iv (framesP b) h') := by
  apply A_go Tryz.func83 rfl (by rfl); (case hn => (simp [Tryz.ntmps83]; rfl))
  repeat(first|with_reducible first|refine vmR ?_|refine vmV rfl ?_|refine vmW rfl ?_|refine vmL ?_|refine blockW_y (by decide) ?_|((with_reducible first|apply vmO|apply vmT|apply vmC);case a=>simp;with_reducible first|exact .v|exact .c|exact .t|exact .f))
  refine W_loop (fun m s => ∃ (t : Fm AV) (h : Hp Fm) (done : List (List UInt8)) (cur : List UInt8) (vc : AV), s = ⟨t, 21, h, none⟩ ∧ m = cur.length ∧ done ++ framesP cur = framesP b ∧ lenFr done + cur.length ≤ b.length ∧ tget t 0 = .yl y ∧ tget t 1 = .ptr bx 0 ∧ SV 1 (cur.map byteAV) vc ∧ Mp.get h.obj bx = some (.row [vc]) ∧ bx < h.no ∧ Iv done h ∧ HX (fun q => True) (fun _ => True) h0 h) b.length
    ⟨_, _, [], b, v, rfl, rfl, rfl, by simp [lenFr], by simp, by simp, k, hb, bn, i0, HX.refl _ _ _⟩ ?_
  rintro m s ⟨t, h, done, cur, vc, rfl, rfl, hfr, hln, t0, t1, kc, hg, hn, iv, hx⟩
  have c1 := kc.cells
  have i1 := kc.isCell
  have hph : h.pol 5 = false := by rw [hx.pol]; exact hp
  repeat(first|with_reducible first|refine vmR ?_|refine vmV rfl ?_|refine vmW rfl ?_|refine vmL ?_|refine blockW_y (by decide) ?_|((with_reducible first|apply vmO|apply vmT|apply vmC);case a=>simp [t0, t1, hg, c1, i1];with_reducible first|exact .v|exact .c|exact .t|exact .f))
  refine A.mono (one_ans cur vc h kc (by omega) hph) ?_
  rintro r h1 ⟨hr, e1⟩
  have iv1 := st _ _ _ iv (e1.x _ _)
  have hx1 := hx.trans (e1.x _ _)
  have g1 := (e1.obj _ hn).trans hg
  have n1 := Nat.lt_of_lt_of_le hn e1.no
  cases ho : oneP cur with
  | none =>
    rw [ho] at hr
    obtain ⟨yv, e, rfl, he⟩ := hr
    rw [framesP_none ho] at hfr
    refine ⟨_, by simp; first | done | rfl, ?_⟩
    repeat(first|with_reducible first|refine vmR ?_|refine vmV rfl ?_|refine vmW rfl ?_|refine vmL ?_|refine blockW_y (by decide) ?_|((with_reducible first|apply vmO|apply vmT|apply vmC);case a=>simp [he];with_reducible first|exact .v|exact .c|exact .t|exact .f))
    (first | apply endW_r | apply endW_n); (case h1 => (simp [Tryz.results83]; first | done | rfl))
    rw [← hfr, List.append_nil]; exact iv1
  | some w =>
    obtain ⟨own, rest⟩ := w
    rw [ho] at hr
    obtain ⟨u, w, rfl, su, sw⟩ := hr
    rw [framesP_some ho] at hfr
    have ol := oneP_len ho
    have uc := su.cells
    have ui := su.isCell
    have wc := sw.cells
    have wi := sw.isCell
    refine ⟨_, by simp; first | done | rfl, ?_⟩
    repeat(first|with_reducible first|refine vmR ?_|refine vmV rfl ?_|refine vmW rfl ?_|refine vmL ?_|refine blockW_y (by decide) ?_|((with_reducible first|apply vmO|apply vmT|apply vmC);case a=>simp [t0, uc, ui, wc, wi];with_reducible first|exact .v|exact .c|exact .t|exact .f))
    refine A.mono (rd done own u h1 iv1 su (by rw [lenFr_app]; omega) hx1) ?_
    rintro _ h2 ⟨rfl, iv2, x2⟩
    have g2 := (x2.obj _ n1 (fun z => z rfl)).trans g1
    have n2 := Nat.lt_of_lt_of_le n1 x2.no
    refine ⟨_, by simp; first | done | rfl, ?_⟩
    repeat(first|with_reducible first|refine vmR ?_|refine vmV rfl ?_|refine vmW rfl ?_|refine vmL ?_|refine blockW_y (by decide) ?_|((with_reducible first|apply vmO|apply vmT|apply vmC);case a=>simp [t1, g2, wc, wi];with_reducible first|exact .v|exact .c|exact .t|exact .f))
    have xs : HX (fun q => q = bx) (fun _ => False) h2 { h2 with obj := Mp.set h2.obj bx (.row [w]) } := (HX.refl (fun q => q = bx) (fun _ => False) h2).set (fun _ => rfl) _
    refine ⟨rest.length, by omega, _, _, done ++ [own], rest, w, rfl, rfl, by rw [List.append_assoc]; exact hfr, by rw [lenFr_app]; omega, by simp [t0], by simp [t1], sw, by simp, n2, st _ _ _ iv2 xs, ?_⟩
    exact (hx1.trans (x2.mono (fun _ _ _ => trivial) (fun _ _ z => z))).trans (xs.mono (fun _ _ _ => trivial) (fun _ _ z => z.elim))

theorem call_ans (b : List UInt8) (v : AV) (h0 : Hp Fm) (k : SV 1 (b.map byteAV) v) : A Tryz.prog TT (.func 65) [v] h0 (fun r h' => r = .fn (.func 83) [] [.ptr h0.no 0] ∧ h' = { h0 with obj := Mp.set h0.obj h0.no (.row [v]), no := h0.no + 1 }) := by
  have c1 := k.cells
  have i1 := k.isCell
  apply A_go Tryz.func65 rfl (by rfl); (case hn => (simp [Tryz.ntmps65]; rfl))
  repeat(first|with_reducible first|refine vmR ?_|refine vmV rfl ?_|refine vmW rfl ?_|refine vmL ?_|refine blockW_y (by decide) ?_|((with_reducible first|apply vmO|apply vmT|apply vmC);case a=>simp [c1, i1];with_reducible first|exact .v|exact .c|exact .t|exact .f))
  (first | apply endW_r | apply endW_n); (case h1 => (simp [Tryz.results65]; first | done | rfl))
  exact ⟨rfl, rfl⟩

def F2 : List (List UInt8) → List AV → Prop
  | [], [] => True
  | b :: l, u :: ws => SV 1 (b.map byteAV) u ∧ F2 l ws
  | _, _ => False
theorem F2.len : ∀ {l : List (List UInt8)} {ws : List AV}, F2 l ws → ws.length = l.length
  | [], [], _ => rfl
  | _ :: l, _ :: ws, h => by simp [F2.len h.2]
  | [], _ :: _, h => h.elim
  | _ :: _, [], h => h.elim
theorem F2.app : ∀ {l : List (List UInt8)} {ws : List AV} {b : List UInt8} {u : AV}, F2 l ws → SV 1 (b.map byteAV) u → F2 (l ++ [b]) (ws ++ [u])
  | [], [], _, _, _, k => ⟨k, trivial⟩
  | _ :: _, _ :: _, _, _, h, k => ⟨h.1, F2.app h.2 k⟩
  | [], _ :: _, _, _, h, _ => h.elim
  | _ :: _, [], _, _, h, _ => h.elim
theorem F2.at : ∀ {l : List (List UInt8)} {ws : List AV} (i : Nat) (h1 : i < l.length) (h2 : i < ws.length), F2 l ws → SV 1 ((l[i]).map byteAV) ws[i]
  | _ :: _, _ :: _, 0, _, _, h => h.1
  | _ :: _, _ :: _, i + 1, h1, h2, h => F2.at i (by simpa using h1) (by simpa using h2) h.2
  | [], _, _, h1, _, _ => absurd h1 (Nat.not_lt_zero _)
  | _ :: _, [], _, _, h2, _ => absurd h2 (Nat.not_lt_zero _)
theorem etBs : ElT Tryz.prog 80 58 1 24 false .nils := ⟨Tryz.underlying80, z58, b58, a58, t58, rfl, rfl, fun _ => rfl, by omega, by omega⟩

structure Gat (h0 h : Hp Fm) (p4 p5 y : Nat) (lr : ALoop Fm) (done : List (List UInt8)) : Prop where
  g4 : ∃ ws w, Mp.get h.obj p4 = some (.row [w]) ∧ AC h0 h 1 ws w ∧ F2 done ws
  g5 : Mp.get h.obj p5 = some (.row [.int .i64 (lenFr done)])
  he : HE h0 h
  lp : Mp.get h.obj y = some (.loop lr)
  yn : y < h.no

set_option maxHeartbeats 2000000 in
theorem frames_ans (b : List UInt8) (v : AV) (h0 : Hp Fm) (k : SV 1 (b.map byteAV) v) (hl : b.length ≤ 16777216) (hp : ∀ z, h0.pol z = false) :
    A Tryz.prog TT (.func 39) [v] h0 (fun r h' => ∃ ws w, r = .tup [w, .int .i64 (lenFr (framesP b))] ∧ SV 1 ws w ∧ F2 (framesP b) ws ∧ HE h0 h') := by
  have c1 := k.cells
  have i1 := k.isCell
  obtain ⟨bx, hbx⟩ : ∃ bx, bx = h0.no + 1 + 1 := ⟨_, rfl⟩
  obtain ⟨y, hy⟩ : ∃ y, y = bx + 1 := ⟨_, rfl⟩
  have m1 : h0.no ≠ (h0.no + 1) := by omega
  have m2 : h0.no ≠ bx := by omega
  have m3 : h0.no ≠ y := by omega
  have m4 : (h0.no + 1) ≠ bx := by omega
  have m5 : (h0.no + 1) ≠ y := by omega
  have m6 : bx ≠ y := by omega
  apply A_go Tryz.func39 rfl (by rfl); (case hn => (simp [Tryz.ntmps39]; rfl))
  repeat(first|with_reducible first|refine vmR ?_|refine vmV rfl ?_|refine vmW rfl ?_|refine vmL ?_|refine blockW_y (by decide) ?_|((with_reducible first|apply vmO|apply vmT|apply vmC);case a=>simp [c1, i1];with_reducible first|exact .v|exact .c|exact .t|exact .f))
  refine A.mono (call_ans b v _ k) ?_
  rintro _ h1 ⟨rfl, e1⟩
  have x1 : HE h0 h1 := by rw [e1]; exact ((((HE.refl h0).new _).new _).set (by show h0.no ≤ h0.no + 1; omega) _).new _
  have g1 : Mp.get h1.obj bx = some (.row [v]) := by rw [e1, hbx]; simp
  have g2 : Mp.get h1.obj h0.no = some (.row [.nils]) := by rw [e1]; simp [show h0.no ≠ h0.no + 1 + 1 by omega, show h0.no ≠ h0.no + 1 by omega]
  have g3 : Mp.get h1.obj (h0.no + 1) = some (.row [.int .i64 0]) := by rw [e1]; simp [show h0.no + 1 ≠ h0.no + 1 + 1 by omega]
  have nn : h1.no = y := by rw [e1, hy, hbx]
  clear e1
  refine ⟨_, by simp; first | done | rfl, ?_⟩
  repeat(first|with_reducible first|refine vmR ?_|refine vmV rfl ?_|refine vmW rfl ?_|refine vmL ?_|refine blockW_y (by decide) ?_|((with_reducible first|apply vmO|apply vmT|apply vmC);case a=>simp;with_reducible first|exact .v|exact .c|exact .t|exact .f))
  refine W_range_i rfl (by simp [rangeE, laidF]; exact ⟨rfl, rfl, rfl⟩) ?_
  refine with_loop h1.no _ (by simp; first | done | rfl) ?_
  intro lr hlr hget
  rw [← hlr]
  clear hget
  obtain ⟨hs, hhs⟩ : ∃ hs : Hp Fm, hs = { h1 with obj := Mp.set h1.obj h1.no (.loop lr), no := h1.no + 1 } := ⟨_, rfl⟩
  have es0 : HE h1 hs := by rw [hhs]; exact (HE.refl h1).new _
  have f1 : Mp.get hs.obj bx = some (.row [v]) := (es0.obj _ (by omega)).trans g1
  have f2 : Mp.get hs.obj h0.no = some (.row [.nils]) := (es0.obj _ (by omega)).trans g2
  have f3 : Mp.get hs.obj (h0.no + 1) = some (.row [.int .i64 0]) := (es0.obj _ (by omega)).trans g3
  have fl : Mp.get hs.obj y = some (.loop lr) := by rw [hhs, ← nn]; simp
  have sn : hs.no = y + 1 := by rw [hhs, ← nn]
  have xs := x1.trans es0
  rw [← hhs, ← hbx]
  try rw [nn]
  try rw [nn] at hlr
  refine A.mono (call1_ans bx y b v hs k hl f1 (by omega) (by rw [xs.pol]; exact hp _) (fun done h => Gat h0 h h0.no (h0.no + 1) y lr done) ?_ ?_ ?_) ?_
  · rintro done h h' ⟨⟨ws, w, w1, w2, w3⟩, g5, he, lp, yn⟩ hx
    have hy' := he.no
    exact ⟨⟨ws, w, (hx.obj _ (by omega) m2).trans w1, w2.ofX hx, w3⟩, (hx.obj _ (by omega) m4).trans g5, he.x2 hx (fun q e => by omega) (fun _ z => z.elim), (hx.obj _ yn (Ne.symm m6)).trans lp, Nat.lt_of_lt_of_le yn hx.no⟩
  · exact ⟨⟨[], .nils, f2, .inl ⟨rfl, rfl⟩, trivial⟩, f3, xs, fl, by omega⟩
  · rintro done own u h ⟨⟨ws, w, w1, w2, w3⟩, g5, he, lp, yn⟩ su hln hx0
    have lp' := lp
    rw [hlr] at lp'
    have wl := w3.len
    have wc := w2.sv.cells
    have wi := w2.sv.isCell
    have uc := su.cells
    have ui := su.isCell
    have un := su.nm
    have ul := su.len Tryz.underlying58
    rw [List.length_map] at ul
    have hyn : y + 1 ≤ h.no := by omega
    have hph : ∀ z, h.pol z = false := fun z => by rw [he.pol]; exact hp z
    have dl : done.length * 8 ≤ lenFr done := by
      clear hln w3 g5 lp' wl hx0
      induction done with
      | nil => simp
      | cons a l ih => rw [lenFr_cons, List.length_cons]; omega
    rw [lenFr_app] at hln
    refine A_round lp' (by simp) ?_
    repeat(first|with_reducible first|refine vmR ?_|refine vmV rfl ?_|refine vmW rfl ?_|refine vmL ?_|refine blockW_y (by decide) ?_|((with_reducible first|apply vmO|apply vmT|apply vmC);case a=>simp [roundT, uc, ui];with_reducible first|exact .v|exact .c|exact .t|exact .f))
    refine ⟨rfl, _, by simp [beginR, lp']; first | done | rfl, ?_⟩
    obtain ⟨lb, hlb⟩ : ∃ lb : ALoop Fm, lb = { lr with state := .busy } := ⟨_, rfl⟩
    have hlb' := hlb
    rw [hlr] at hlb'
    simp only at hlb'
    rw [← hlb']
    repeat(first|with_reducible first|refine vmR ?_|refine vmV rfl ?_|refine vmW rfl ?_|refine vmL ?_|refine blockW_y (by decide) ?_|((with_reducible first|apply vmO|apply vmT|apply vmC);case a=>simp [roundT, w1, m3, Ne.symm m3, m5, Ne.symm m5, uc, ui, wc, wi, newSeq, newSl, hph];with_reducible first|exact .v|exact .c|exact .t|exact .f))
    obtain ⟨hB, hhB⟩ : ∃ hB : Hp Fm, hB = { h with obj := Mp.set h.obj y (.loop lb), len := Mp.set h.len h.ng 1, ng := h.ng + 1 } := ⟨_, rfl⟩
    have xB : HX (fun q => q = y) (fun _ => False) h hB := by rw [hhB]; exact ((HX.refl (fun q => q = y) (fun _ => False) h).set (fun _ => rfl) _).newSl 1
    have hyh := x1.no
    have eB : HE h0 hB := he.x2 xB (fun q e => by omega) (fun _ z => z.elim)
    have lB : Mp.get hB.obj y = some (.loop lb) := by rw [hhB]; simp
    have bB : Mp.get hB.obj h0.no = some (.row [w]) := by rw [hhB]; simp [m3, w1]
    have cB : Mp.get hB.obj (h0.no + 1) = some (.row [.int .i64 (lenFr done)]) := by rw [hhB]; simp [m5, g5]
    have nB : hB.no = h.no := by rw [hhB]
    with_reducible apply WO_app_i; (case hw => (simp [roundT, w1, m3, Ne.symm m3, m5, Ne.symm m5, uc, ui, wc, wi, newSeq, newSl, hph]; done)); (case ho => rfl); (case hb => rfl); (case ha => (simp [roundT, w1, m3, Ne.symm m3, m5, Ne.symm m5, uc, ui, wc, wi, newSeq, newSl, hph]; first | done | exact ⟨rfl, rfl⟩ | rfl)); (case h1 => (simp; first | done | rfl)); (case h2 => (simp; first | done | rfl))
    rw [← hhB]
    refine app_then (AC.app (h0 := h0) etBs (w2.ofX xB) eB (hp _) (by simp; omega)) ?_
    rintro x2 h2 ⟨a2, e2, ho2, hn2, hg2⟩
    have xc := a2.sv.cells
    have xi := a2.sv.isCell
    have b2 : Mp.get h2.obj h0.no = some (.row [w]) := by rw [ho2]; exact bB
    have c2 : Mp.get h2.obj (h0.no + 1) = some (.row [.int .i64 (lenFr done)]) := by rw [ho2]; exact cB
    have l2 : Mp.get h2.obj y = some (.loop lb) := by rw [ho2]; exact lB
    obtain ⟨n1, hn1⟩ : ∃ n1, n1 = 8 + own.length := ⟨_, rfl⟩
    obtain ⟨n2, hn2'⟩ : ∃ n2, n2 = lenFr (done ++ [own]) := ⟨_, rfl⟩
    have q1 : IntKind.i64.wrap (8 + (own.length : Int)) = (n1 : Int) := by rw [wrap64 (by omega) (by omega)]; omega
    have q2 : IntKind.i64.wrap ((lenFr done : Int) + (n1 : Int)) = (n2 : Int) := by rw [hn2', lenFr_app, wrap64 (by omega) (by omega)]; omega
    refine ⟨_, by simp; first | done | rfl, ?_⟩
    repeat(first|with_reducible first|refine vmR ?_|refine vmV rfl ?_|refine vmW rfl ?_|refine vmL ?_|refine blockW_y (by decide) ?_|((with_reducible first|apply vmO|apply vmT|apply vmC);case a=>simp [xc, xi, b2, c2, uc, ui, un, ul, m1, Ne.symm m1, q1, q2];with_reducible first|exact .v|exact .c|exact .t|exact .f))
    refine ⟨_, _, by simp [endR, l2, Ne.symm m3, Ne.symm m5]; rfl, rfl, ?_, ?_⟩
    · refine ⟨⟨ws ++ [u], x2, by simp [m1, m3], ?_, w3.app su⟩, by simp [m5, hn2'], ?_, by simp [hlb, hlr], ?_⟩
      · exact AC.ofX (S := fun _ => True) a2 ((((HX.refl (fun _ => True) (fun _ => False) h2).set (o := h0.no) (fun _ => trivial) (.row [x2])).set (o := (h0.no + 1)) (fun _ => trivial) (.row [.int .i64 n2])).set (o := y) (fun _ => trivial) (.loop { lb with state := .ready, pending := none }))
      · exact ((e2.set (o := h0.no) (Nat.le_refl _) _).set (o := (h0.no + 1)) (by omega) _).set (o := y) (by omega) _
      · show y < h2.no
        rw [hn2, nB]; exact yn
    · have hx1 : HX (fun q => q ≠ bx) (fun _ => True) h h2 := by
        refine (xB.mono (fun q _ e => by omega) (fun _ _ _ => trivial)).trans ⟨by rw [hn2]; exact Nat.le_refl _, hg2, by rw [e2.pol, ← eB.pol], fun o _ _ => by rw [ho2], fun g _ z => absurd trivial z⟩
      exact (((hx1.set (o := h0.no) (fun _ => m2) _).set (o := (h0.no + 1)) (fun _ => m4) _).set (o := y) (fun _ => Ne.symm m6) _)
  · rintro r h' ⟨⟨ws, w, w1, w2, w3⟩, g5, he, lp, yn⟩
    have lp' := lp
    rw [hlr] at lp'
    have wc := w2.sv.cells
    have wi := w2.sv.isCell
    refine ⟨_, _, by simp [rangeB, nn, lp', behind]; exact ⟨rfl, rfl⟩, ?_⟩
    repeat(first|with_reducible first|refine vmR ?_|refine vmV rfl ?_|refine vmW rfl ?_|refine vmL ?_|refine blockW_y (by decide) ?_|((with_reducible first|apply vmO|apply vmT|apply vmC);case a=>simp;with_reducible first|exact .v|exact .c|exact .t|exact .f))
    (with_reducible refine W_draw_id (pln := true) [0, 1, 2, 3] [(0, (0, [])), (1, (1, []))] (by kernel_rfl) rfl ?_)
    repeat(first|with_reducible first|refine vmR ?_|refine vmV rfl ?_|refine vmW rfl ?_|refine vmL ?_|refine blockW_y (by decide) ?_|((with_reducible first|apply vmO|apply vmT|apply vmC);case a=>simp [w1, g5, m3, m5, wc, wi];with_reducible first|exact .v|exact .c|exact .t|exact .f))
    refine ⟨by simp [readSame, beqAV_self, w1, g5, m3, m5]; done, _, by simp; first | done | rfl, ?_⟩
    repeat(first|with_reducible first|refine vmR ?_|refine vmV rfl ?_|refine vmW rfl ?_|refine vmL ?_|refine blockW_y (by decide) ?_|((with_reducible first|apply vmO|apply vmT|apply vmC);case a=>simp;with_reducible first|exact .v|exact .c|exact .t|exact .f))
    (first | apply endW_r | apply endW_n); (case h1 => (simp [Tryz.results39]; first | done | rfl))
    have := x1.no
    exact ⟨ws, w, by simp, w2.sv, w3, (he.set (o := y) (by omega) _).drew⟩
end Go.Vn

set_option maxRecDepth 20000
namespace Go.Vn
open Go.Proofs

def scan : List UInt8 → Nat → Except Int (Nat × List UInt8)
  | [], i => if i = 9 then .error 2 else .error 3
  | c :: r, i => if i = 9 then .error 2 else if 128 ≤ c.toNat then (match scan r (i + 1) with
      | .ok (n, l) => .ok (c.toNat % 128 + 128 * n, l)
      | .error e => .error e)
    else if c.toNat = 0 ∧ 0 < i then .error 2 else .ok (c.toNat, r)
def cmbN (acc p : Nat) : Except Int (Nat × List UInt8) → Except Int (Nat × List UInt8)
  | .ok (n, l) => .ok (acc + p * n, l)
  | .error e => .error e
theorem cmbN_id (x : Except Int (Nat × List UInt8)) : cmbN 0 1 x = x := by
  cases x with
  | error e => rfl
  | ok p => simp [cmbN]
theorem scan_more {c : UInt8} {r : List UInt8} {i : Nat} (h9 : i ≠ 9) (h : 128 ≤ c.toNat) (acc p : Nat) : cmbN acc p (scan (c :: r) i) = cmbN (acc + p * (c.toNat % 128)) (p * 128) (scan r (i + 1)) := by
  conv => lhs; rw [scan, if_neg h9, if_pos h]
  cases scan r (i + 1) with
  | error e => rfl
  | ok x =>
    obtain ⟨n, l⟩ := x
    simp only [cmbN, Nat.mul_add, Nat.mul_assoc, Nat.add_assoc]
def numP (b : List UInt8) : Except Int (Nat × List UInt8) := match scan b 0 with
  | .ok (n, l) => if 4611686018427387904 ≤ n then .error 2 else .ok (n, l)
  | .error e => .error e
abbrev RdS := Except Int (List UInt8)
def numX : RdS → Nat × RdS
  | .error e => (0, .error e)
  | .ok b => match numP b with
    | .ok (n, r) => (n, .ok r)
    | .error e => (0, .error e)
def textX (most : Nat) (s : RdS) : List UInt8 × RdS := match (numX s).2 with
  | .error e => ([], .error e)
  | .ok b => if most < (numX s).1 then ([], .error 5) else if b.length < (numX s).1 then ([], .error 3) else (b.take (numX s).1, .ok (b.drop (numX s).1))
theorem scan_len {b : List UInt8} : ∀ {i n : Nat} {l : List UInt8}, scan b i = .ok (n, l) → l.length < b.length := by
  induction b with
  | nil => intro i n l h; unfold scan at h; split at h <;> cases h
  | cons c r ih =>
    intro i n l h
    unfold scan at h
    split at h
    · cases h
    · split at h
      · cases hs : scan r (i + 1) with
        | ok p =>
          rw [hs] at h; cases h
          have := ih hs
          simp only [List.length_cons]; omega
        | error e' => rw [hs] at h; cases h
      · split at h
        · cases h
        · cases h; simp
theorem numP_len {b l : List UInt8} {n : Nat} (h : numP b = .ok (n, l)) : l.length < b.length ∧ n < 4611686018427387904 := by
  unfold numP at h
  cases hs : scan b 0 with
  | error e => rw [hs] at h; cases h
  | ok p =>
    obtain ⟨m, l'⟩ := p
    rw [hs] at h
    simp only at h
    split at h
    · cases h
    · cases h; exact ⟨scan_len hs, by omega⟩
def RdR (h : Hp Fm) (q : Nat) (s : RdS) : Prop := match s with
  | .ok b => b.length ≤ 16777216 ∧ ∃ bv, Mp.get h.obj q = some (.row [bv, .int .i64 0]) ∧ SV 1 (b.map byteAV) bv
  | .error e => Mp.get h.obj q = some (.row [.nils, .int .i64 e]) ∧ e ≠ 0
theorem RdR.of {h h' : Hp Fm} {q : Nat} {s : RdS} (k : RdR h q s) (e : Mp.get h'.obj q = Mp.get h.obj q) : RdR h' q s := by
  cases s with
  | ok b => obtain ⟨a, bv, b1, b2⟩ := k; exact ⟨a, bv, e.trans b1, b2⟩
  | error x => exact ⟨e.trans k.1, k.2⟩

theorem fail_ans (q : Nat) (bv : AV) (e : Int) (h0 : Hp Fm) (hg : Mp.get h0.obj q = some (.row [bv, .int .i64 0])) (hn : q < h0.no) :
    A Tryz.prog TT (.func 85) [.ptr q 0, .int .i64 e] h0 (fun _ h' => Mp.get h'.obj q = some (.row [.nils, .int .i64 e]) ∧ HX (fun o => o = q) (fun _ => False) h0 h') := by
  apply A_go Tryz.func85 rfl (by rfl); (case hn => (simp [Tryz.ntmps85]; rfl))
  repeat(first|with_reducible first|refine vmR ?_|refine vmV rfl ?_|refine vmW rfl ?_|refine vmL ?_|refine blockW_y (by decide) ?_|((with_reducible first|apply vmO|apply vmT|apply vmC);case a=>simp [hg];with_reducible first|exact .v|exact .c|exact .t|exact .f))
  (first | apply endW_r | apply endW_n); (case h1 => (simp [Tryz.results85]; first | done | rfl))
  refine ⟨by simp, ((HX.refl (fun o => o = q) (fun _ => False) h0).set (fun _ => rfl) _).set (fun _ => rfl) _⟩

theorem and127 (c : Nat) (h : c < 256) : IntKind.u8.wrap (↑(c % 2 ^ IntKind.u8.bits &&& 127 % 2 ^ IntKind.u8.bits) : Int) = ((c % 128 : Nat) : Int) := by
  have e : c % 2 ^ IntKind.u8.bits = c := by simp only [IntKind.bits]; omega
  rw [e]
  have e2 : 127 % 2 ^ IntKind.u8.bits = 127 := by decide
  have e3 : ∀ c : Fin 256, c.val &&& 127 = c.val % 128 := by decide
  rw [e2, e3 ⟨c, h⟩]
  exact wrap8 (by omega) (by simp only; omega)

set_option maxHeartbeats 4000000 in
theorem vnum_loop (b : List UInt8) (bv : AV) (k : SV 1 (b.map byteAV) bv) (hl : b.length ≤ 16777216) (q : Nat) (h : Hp Fm) (gr : Mp.get h.obj q = some (.row [bv, .int .i64 0])) (gn : q < h.no) (bd : Code) (hbd : ∃ c, Tryz.f67.body = some (.seq c (.scope bd))) (rest : Code) (hrest : findLabel bd 0 = some rest) :
    ∀ (n i acc : Nat) (t : Fm AV), b.length - i < n → i ≤ b.length → i ≤ 9 → acc < 128 ^ i → cmbN acc (128 ^ i) (scan (b.drop i) i) = scan b 0 →
      tget t 0 = .ptr q 0 → tget t 3 = .int .i64 acc → tget t 4 = .int .i64 i →
      W Tryz.prog TT rest ⟨t, 67, h, none⟩ (jumpW Tryz.prog TT bd <| endW Tryz.prog Tryz.f67 fun r h' => r = .int .i64 ((numX (.ok b)).1 : Int) ∧ RdR h' q (numX (.ok b)).2 ∧ HX (fun o => o = q) (fun _ => False) h h') := by
  obtain ⟨c, hb2⟩ := hbd
  have hb' : some (Code.seq c (.scope bd)) = Tryz.f67.body := hb2.symm
  injection hb' with hb'
  injection hb' with _ hb4
  injection hb4 with hb3
  subst hb3
  injection hrest with hrest
  subst hrest
  have c1 := k.cells
  have i1 := k.isCell
  have n1 := k.nm
  have l1 := k.len Tryz.underlying58
  rw [List.length_map] at l1
  intro n
  induction n with
  | zero => intro i acc t hn; omega
  | succ n ih =>
    intro i acc t hn hi hi9 hacc hfin t0 t3 t4
    clear hb2
    by_cases q9 : i = 9
    · have q9' : (i : Int) = 9 := by omega
      have es : scan (b.drop i) i = .error 2 := by
        cases hd : b.drop i with
        | nil => rw [scan, if_pos q9]
        | cons c r => rw [scan, if_pos q9]
      rw [es] at hfin
      have en : numP b = .error 2 := by unfold numP; rw [← hfin]; rfl
      have ex : numX (.ok b) = (0, .error 2) := by unfold numX; simp only [en]
      rw [ex]
      repeat(first|with_reducible first|refine vmR ?_|refine vmV rfl ?_|refine vmW rfl ?_|refine vmL ?_|refine blockW_y (by decide) ?_|((with_reducible first|apply vmO|apply vmT|apply vmC);case a=>simp [t0, t3, t4, q9, q9'];with_reducible first|exact .v|exact .c|exact .t|exact .f))
      refine A.mono (fail_ans q bv 2 h gr gn) ?_
      rintro r h2 ⟨g2, x2⟩
      refine ⟨_, by simp; first | done | rfl, ?_⟩
      repeat(first|with_reducible first|refine vmR ?_|refine vmV rfl ?_|refine vmW rfl ?_|refine vmL ?_|refine blockW_y (by decide) ?_|((with_reducible first|apply vmO|apply vmT|apply vmC);case a=>simp;with_reducible first|exact .v|exact .c|exact .t|exact .f))
      (first | apply endW_r | apply endW_n); (case h1 => (simp [Tryz.results67]; first | done | rfl))
      exact ⟨by simp, ⟨g2, by decide⟩, x2⟩
    have q9' : ¬ (i : Int) = 9 := by omega
    by_cases ql : i = b.length
    · have ql' : (i : Int) = b.length := by omega
      have qb : ¬ b.length = 9 := by omega
      have qb' : ¬ (b.length : Int) = 9 := by omega
      have es : scan (b.drop i) i = .error 3 := by rw [ql, List.drop_length, scan, if_neg (by omega)]
      rw [es] at hfin
      have en : numP b = .error 3 := by unfold numP; rw [← hfin]; rfl
      have ex : numX (.ok b) = (0, .error 3) := by unfold numX; simp only [en]
      rw [ex]
      repeat(first|with_reducible first|refine vmR ?_|refine vmV rfl ?_|refine vmW rfl ?_|refine vmL ?_|refine blockW_y (by decide) ?_|((with_reducible first|apply vmO|apply vmT|apply vmC);case a=>simp [t0, t3, t4, q9, q9', gr, c1, i1, n1, l1, ql, ql', qb, qb'];with_reducible first|exact .v|exact .c|exact .t|exact .f))
      refine A.mono (fail_ans q bv 3 h gr gn) ?_
      rintro r h2 ⟨g2, x2⟩
      refine ⟨_, by simp; first | done | rfl, ?_⟩
      repeat(first|with_reducible first|refine vmR ?_|refine vmV rfl ?_|refine vmW rfl ?_|refine vmL ?_|refine blockW_y (by decide) ?_|((with_reducible first|apply vmO|apply vmT|apply vmC);case a=>simp;with_reducible first|exact .v|exact .c|exact .t|exact .f))
      (first | apply endW_r | apply endW_n); (case h1 => (simp [Tryz.results67]; first | done | rfl))
      exact ⟨by simp, ⟨g2, by decide⟩, x2⟩
    have ql' : ¬ (i : Int) = b.length := by omega
    have hil : i < b.length := by omega
    obtain ⟨c, hc⟩ : ∃ c : UInt8, c = b[i] := ⟨_, rfl⟩
    have ed : b.drop i = c :: b.drop (i + 1) := by rw [hc]; exact List.drop_eq_getElem_cons hil
    have ix := k.idx (k := .i64) (i := (i : Int)) Tryz.underlying58 z5 (by omega) (by simp; omega)
    have hcl := c.toNat_lt
    rw [ed] at hfin
    obtain ⟨cn, hcn⟩ : ∃ cn : Nat, cn = c.toNat := ⟨_, rfl⟩
    replace ix : indexAddrAV Tryz.prog 58 bv (.int .i64 (i : Int)) = some (.el (.int .u8 (cn : Int)) 0) := by rw [ix]; simp [hc, hcn, byteAV]
    obtain ⟨cm, hcm⟩ : ∃ cm, cm = cn % 128 := ⟨_, rfl⟩
    have fa : IntKind.u8.wrap (↑(cn % 2 ^ IntKind.u8.bits &&& 127 % 2 ^ IntKind.u8.bits) : Int) = (cm : Int) := by rw [hcm]; exact and127 cn (by omega)
    have fc : IntKind.i64.wrap (cm : Int) = (cm : Int) := wrap64 (by omega) (by omega)
    obtain ⟨e, he⟩ : ∃ e, e = 7 * i := ⟨_, rfl⟩
    have fm : IntKind.i64.wrap (7 * (i : Int)) = (e : Int) := by rw [wrap64 (by omega) (by omega)]; omega
    have ne : ¬ (e : Int) < 0 := by omega
    obtain ⟨p, hp⟩ : ∃ p, p = 128 ^ i := ⟨_, rfl⟩
    have pe : 2 ^ e = p := by rw [he, hp, Nat.pow_mul]
    have pl : p ≤ 128 ^ 8 := by rw [hp]; exact Nat.pow_le_pow_right (by omega) (by omega)
    obtain ⟨sv, hsv⟩ : ∃ sv, sv = cm * p := ⟨_, rfl⟩
    have svl : sv ≤ 127 * 128 ^ 8 := by rw [hsv]; exact Nat.mul_le_mul (by omega) pl
    rw [← hp] at hacc
    have fs : IntKind.i64.wrap ((cm : Int) * 2 ^ min e IntKind.i64.bits) = (sv : Int) := by
      have e1 : min e IntKind.i64.bits = e := by simp only [IntKind.bits]; omega
      have e2 : (2 : Int) ^ e = (p : Int) := by rw [← pe]; simp
      rw [e1, e2, ← Int.natCast_mul, ← hsv]
      exact wrap64 (by omega) (by omega)
    obtain ⟨acc2, hacc2⟩ : ∃ acc2, acc2 = acc + sv := ⟨_, rfl⟩
    have fo : IntKind.i64.wrap (↑(acc % 2 ^ IntKind.i64.bits ||| sv % 2 ^ IntKind.i64.bits) : Int) = (acc2 : Int) := by
      rw [or_shl (b := cm) (i := e) (by rw [pe]; exact hacc) (by rw [pe, hsv]) (by omega), hacc2]
    obtain ⟨j, hj⟩ : ∃ j, j = i + 1 := ⟨_, rfl⟩
    have w1 : IntKind.i64.wrap ((i : Int) + 1) = (j : Int) := by rw [wrap64 (by omega) (by omega)]; omega
    by_cases qc : 128 ≤ cn
    · have qc' : (128 : Int) ≤ cn := by omega
      rw [scan_more q9 (by omega), ← hcn, ← hcm, ← hp, Nat.mul_comm p cm, ← hsv, ← hacc2, ← hj] at hfin
      have pj : 128 ^ j = p * 128 := by rw [hj, Nat.pow_succ, hp]
      have al : acc2 < 128 ^ j := by
        rw [pj, hacc2, hsv]
        have : cm * p ≤ 127 * p := Nat.mul_le_mul_right _ (by omega)
        omega
      repeat(first|with_reducible first|refine vmR ?_|refine vmV rfl ?_|refine vmW rfl ?_|refine blockW_y (by decide) ?_|((with_reducible first|apply vmO|apply vmT|apply vmC);case a=>simp [t0, t3, t4, q9, q9', gr, c1, i1, n1, l1, ql, ql', ix, fa, fc, fm, shiftBin, ne, fs, fo, w1, qc, qc'];with_reducible first|exact .v|exact .c|exact .t|exact .f))
      repeat(first|with_reducible first|refine vmR ?_|refine vmV rfl ?_|refine vmW rfl ?_|refine vmL ?_|refine blockW_y (by decide) ?_|((with_reducible first|apply vmO|apply vmT|apply vmC);case a=>simp [t0, t3, t4, q9, q9', gr, c1, i1, n1, l1, ql, ql', ix, fa, fc, fm, shiftBin, ne, fs, fo, w1, qc, qc'];with_reducible first|exact .v|exact .c|exact .t|exact .f))
      refine jumpW_g rfl (WS_run ?_)
      exact ih j acc2 _ (by omega) (by omega) (by omega) al (by rw [pj]; exact hfin) (by simp [t0]) (by simp) (by simp)
    have qc' : ¬ (128 : Int) ≤ cn := by omega
    have ecm : cm = cn := by omega
    by_cases qz : cn = 0 ∧ 0 < i
    · have es : scan (c :: b.drop (i + 1)) i = .error 2 := by rw [scan, if_neg q9, if_neg (by omega), if_pos (by omega)]
      rw [es] at hfin
      have en : numP b = .error 2 := by unfold numP; rw [← hfin]; rfl
      have ex : numX (.ok b) = (0, .error 2) := by unfold numX; simp only [en]
      have a2 : acc2 = acc := by rw [hacc2, hsv, ecm, qz.1]; simp
      have al : acc2 < 4611686018427387904 ∨ 4611686018427387904 ≤ acc2 := by omega
      have qj : (1 : Int) < j := by omega
      have qj' : 1 < j := by omega
      have qz1 : (cn : Int) = 0 := by omega
      have qz2 := qz.1
      rw [ex]
      rcases al with al | al
      · have al' : ¬ (4611686018427387904 : Int) ≤ acc2 := by omega
        have al2 : ¬ 4611686018427387904 ≤ acc2 := by omega
        repeat(first|with_reducible first|refine vmR ?_|refine vmV rfl ?_|refine vmW rfl ?_|refine vmL ?_|refine blockW_y (by decide) ?_|((with_reducible first|apply vmO|apply vmT|apply vmC);case a=>simp [t0, t3, t4, q9, q9', gr, c1, i1, n1, l1, ql, ql', ix, fa, fc, fm, shiftBin, ne, fs, fo, w1, qc, qc', al', al2];with_reducible first|exact .v|exact .c|exact .t|exact .f))
        repeat(first|with_reducible first|refine vmR ?_|refine vmV rfl ?_|refine vmW rfl ?_|refine vmL ?_|refine blockW_y (by decide) ?_|((with_reducible first|apply vmO|apply vmT|apply vmC);case a=>simp [t0, t3, t4, w1, qj, qj', qz1, qz2];with_reducible first|exact .v|exact .c|exact .t|exact .f))
        refine A.mono (fail_ans q bv 2 h gr gn) ?_
        rintro r h2 ⟨g2, x2⟩
        refine ⟨_, by simp; first | done | rfl, ?_⟩
        repeat(first|with_reducible first|refine vmR ?_|refine vmV rfl ?_|refine vmW rfl ?_|refine vmL ?_|refine blockW_y (by decide) ?_|((with_reducible first|apply vmO|apply vmT|apply vmC);case a=>simp;with_reducible first|exact .v|exact .c|exact .t|exact .f))
        (first | apply endW_r | apply endW_n); (case h1 => (simp [Tryz.results67]; first | done | rfl))
        exact ⟨by simp, ⟨g2, by decide⟩, x2⟩
      · have al' : (4611686018427387904 : Int) ≤ acc2 := by omega
        repeat(first|with_reducible first|refine vmR ?_|refine vmV rfl ?_|refine vmW rfl ?_|refine vmL ?_|refine blockW_y (by decide) ?_|((with_reducible first|apply vmO|apply vmT|apply vmC);case a=>simp [t0, t3, t4, q9, q9', gr, c1, i1, n1, l1, ql, ql', ix, fa, fc, fm, shiftBin, ne, fs, fo, w1, qc, qc', al', al];with_reducible first|exact .v|exact .c|exact .t|exact .f))
        refine A.mono (fail_ans q bv 2 h gr gn) ?_
        rintro r h2 ⟨g2, x2⟩
        refine ⟨_, by simp; first | done | rfl, ?_⟩
        repeat(first|with_reducible first|refine vmR ?_|refine vmV rfl ?_|refine vmW rfl ?_|refine vmL ?_|refine blockW_y (by decide) ?_|((with_reducible first|apply vmO|apply vmT|apply vmC);case a=>simp;with_reducible first|exact .v|exact .c|exact .t|exact .f))
        (first | apply endW_r | apply endW_n); (case h1 => (simp [Tryz.results67]; first | done | rfl))
        exact ⟨by simp, ⟨g2, by decide⟩, x2⟩
    have es : scan (c :: b.drop (i + 1)) i = .ok (cn, b.drop j) := by rw [scan, if_neg q9, if_neg (by omega), if_neg (by omega), hcn, hj]
    rw [es] at hfin
    have ea : acc + 128 ^ i * cn = acc2 := by rw [hacc2, hsv, ecm, ← hp, Nat.mul_comm]
    simp only [cmbN, ea] at hfin
    by_cases al : 4611686018427387904 ≤ acc2
    · have en : numP b = .error 2 := by unfold numP; rw [← hfin]; simp only; rw [if_pos al]
      have ex : numX (.ok b) = (0, .error 2) := by unfold numX; simp only [en]
      have al' : (4611686018427387904 : Int) ≤ acc2 := by omega
      rw [ex]
      repeat(first|with_reducible first|refine vmR ?_|refine vmV rfl ?_|refine vmW rfl ?_|refine vmL ?_|refine blockW_y (by decide) ?_|((with_reducible first|apply vmO|apply vmT|apply vmC);case a=>simp [t0, t3, t4, q9, q9', gr, c1, i1, n1, l1, ql, ql', ix, fa, fc, fm, shiftBin, ne, fs, fo, w1, qc, qc', al', al];with_reducible first|exact .v|exact .c|exact .t|exact .f))
      refine A.mono (fail_ans q bv 2 h gr gn) ?_
      rintro r h2 ⟨g2, x2⟩
      refine ⟨_, by simp; first | done | rfl, ?_⟩
      repeat(first|with_reducible first|refine vmR ?_|refine vmV rfl ?_|refine vmW rfl ?_|refine vmL ?_|refine blockW_y (by decide) ?_|((with_reducible first|apply vmO|apply vmT|apply vmC);case a=>simp;with_reducible first|exact .v|exact .c|exact .t|exact .f))
      (first | apply endW_r | apply endW_n); (case h1 => (simp [Tryz.results67]; first | done | rfl))
      exact ⟨by simp, ⟨g2, by decide⟩, x2⟩
    have en : numP b = .ok (acc2, b.drop j) := by unfold numP; rw [← hfin]; simp only; rw [if_neg al]
    have ex : numX (.ok b) = (acc2, .ok (b.drop j)) := by unfold numX; simp only [en]
    have al' : ¬ (4611686018427387904 : Int) ≤ acc2 := by omega
    obtain ⟨rd, sd, svd⟩ := k.drop Tryz.underlying58 z5 (k := .i64) (i := (j : Int)) (by omega) (by rw [List.length_map]; omega)
    rw [Int.toNat_natCast, ← List.map_drop] at svd
    have cd := svd.cells
    have id := svd.isCell
    rw [ex]
    have dl : (b.drop j).length ≤ 16777216 := by rw [List.length_drop]; omega
    have fin : ∀ (h' : Hp Fm), h' = { h with obj := Mp.set h.obj q (.row [rd, .int .i64 0]) } → RdR h' q (.ok (b.drop j)) ∧ HX (fun o => o = q) (fun _ => False) h h' := by
      rintro h' rfl
      exact ⟨⟨dl, rd, by simp, svd⟩, (HX.refl (fun o => o = q) (fun _ => False) h).set (fun _ => rfl) _⟩
    by_cases qz0 : cn = 0
    · have hi0 : ¬ 0 < i := fun z => qz ⟨qz0, z⟩
      have qj : ¬ (1 : Int) < j := by omega
      have qj' : ¬ 1 < j := by omega
      have qz1 : (cn : Int) = 0 := by omega
      repeat(first|with_reducible first|refine vmR ?_|refine vmV rfl ?_|refine vmW rfl ?_|refine vmL ?_|refine blockW_y (by decide) ?_|((with_reducible first|apply vmO|apply vmT|apply vmC);case a=>simp [t0, t3, t4, q9, q9', gr, c1, i1, n1, l1, ql, ql', ix, fa, fc, fm, shiftBin, ne, fs, fo, w1, qc, qc', al', al];with_reducible first|exact .v|exact .c|exact .t|exact .f))
      repeat(first|with_reducible first|refine vmR ?_|refine vmV rfl ?_|refine vmW rfl ?_|refine vmL ?_|refine blockW_y (by decide) ?_|((with_reducible first|apply vmO|apply vmT|apply vmC);case a=>simp [t0, t3, t4, w1, qj, qj', qz1, qz0, gr, c1, i1, sd, cd, id];with_reducible first|exact .v|exact .c|exact .t|exact .f))
      (first | apply endW_r | apply endW_n); (case h1 => (simp [Tryz.results67]; first | done | rfl))
      obtain ⟨z1, z2⟩ := fin _ rfl
      exact ⟨by simp, z1, z2⟩
    · have qz1 : ¬ (cn : Int) = 0 := by omega
      repeat(first|with_reducible first|refine vmR ?_|refine vmV rfl ?_|refine vmW rfl ?_|refine vmL ?_|refine blockW_y (by decide) ?_|((with_reducible first|apply vmO|apply vmT|apply vmC);case a=>simp [t0, t3, t4, q9, q9', gr, c1, i1, n1, l1, ql, ql', ix, fa, fc, fm, shiftBin, ne, fs, fo, w1, qc, qc', al', al, qz1, qz0, sd, cd, id];with_reducible first|exact .v|exact .c|exact .t|exact .f))
      (first | apply endW_r | apply endW_n); (case h1 => (simp [Tryz.results67]; first | done | rfl))
      obtain ⟨z1, z2⟩ := fin _ rfl
      exact ⟨by simp, z1, z2⟩

theorem vnum_ans (q : Nat) (s : RdS) (h0 : Hp Fm) (k : RdR h0 q s) (hn : q < h0.no) :
    A Tryz.prog TT (.func 67) [.ptr q 0] h0 (fun r h' => r = .int .i64 ((numX s).1 : Int) ∧ RdR h' q (numX s).2 ∧ HX (fun o => o = q) (fun _ => False) h0 h') := by
  cases s with
  | error e =>
    obtain ⟨g, ne⟩ := k
    apply A_go Tryz.func67 rfl (by rfl); (case hn => (simp [Tryz.ntmps67]; rfl))
    repeat(first|with_reducible first|refine vmR ?_|refine vmV rfl ?_|refine vmW rfl ?_|refine vmL ?_|refine blockW_y (by decide) ?_|((with_reducible first|apply vmO|apply vmT|apply vmC);case a=>simp [g, ne];with_reducible first|exact .v|exact .c|exact .t|exact .f))
    (first | apply endW_r | apply endW_n); (case h1 => (simp [Tryz.results67]; first | done | rfl))
    exact ⟨by simp [numX], ⟨g, ne⟩, HX.refl _ _ _⟩
  | ok b =>
    obtain ⟨hl, bv, g, sv⟩ := k
    have c1 := sv.cells
    have i1 := sv.isCell
    apply A_go Tryz.func67 rfl (by rfl); (case hn => (simp [Tryz.ntmps67]; rfl))
    repeat(first|with_reducible first|refine vmR ?_|refine vmV rfl ?_|refine vmW rfl ?_|refine blockW_y (by decide) ?_|((with_reducible first|apply vmO|apply vmT|apply vmC);case a=>simp [g, c1, i1];with_reducible first|exact .v|exact .c|exact .t|exact .f))
    refine W_label_i (thenW_n ?_)
    refine W_skip_seq (vnum_loop b bv sv hl q h0 g hn _ ⟨_, rfl⟩ _ rfl (b.length + 1) 0 0 _ (by omega) (by omega) (by omega) (by simp) (by simp [cmbN_id]) ?_ ?_ ?_)
    all_goals simp
end Go.Vn
