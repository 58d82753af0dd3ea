/- Keys as bytes: read and written, plainly. No condition. -/
import Derived.Test.YtnbflhcbhicgmaaGreatVnG1
import Derived.Test.YtnbflhcbhicgmaaGreatVnG7
set_option linter.unusedSimpArgs false
set_option linter.unusedVariables false
namespace Go.Vn

structure KP where
  isT : Bool
  num : Int
  txt : List UInt8
deriving DecidableEq

def val8 (b : List UInt8) : Nat := b.foldl (fun n c => n * 256 + c.toNat) 0
theorem val8_app (b : List UInt8) (c : UInt8) : val8 (b ++ [c]) = val8 b * 256 + c.toNat := by simp [val8]
theorem val8_lt (b : List UInt8) : val8 b < 256 ^ b.length := by
  suffices h : ∀ n (b : List UInt8), b.length = n → val8 b < 256 ^ b.length from h _ b rfl
  intro n
  induction n with
  | zero => intro b h; have : b = [] := List.length_eq_zero_iff.mp h; subst this; simp [val8]
  | succ n ih =>
    intro b h
    have hne : b ≠ [] := by intro e; subst e; simp at h
    obtain ⟨i, l, rfl⟩ : ∃ i l, b = i ++ [l] := ⟨b.dropLast, b.getLast hne, (List.dropLast_concat_getLast hne).symm⟩
    have hi : i.length = n := by simpa using h
    have := ih i hi
    rw [val8_app, h, Nat.pow_succ]
    have hl := l.toNat_lt
    rw [hi] at this
    omega

def words : List UInt8 → Except Int (List UInt8 × List UInt8)
  | [] => .error 3
  | c :: rest => if c ≠ 0 then (match words rest with
      | .ok (s, r) => .ok (c :: s, r)
      | .error e => .error e)
    else match rest with
      | [] => .error 3
      | d :: rest' => if d = 255 then (match words rest' with
          | .ok (s, r) => .ok (0 :: s, r)
          | .error e => .error e)
        else if d = 1 then .ok ([], rest') else .error 2
def esc (s : List UInt8) : List UInt8 := s.flatMap fun c => if c = 0 then [0, 255] else [c]
theorem words_len {b s r : List UInt8} (h : words b = .ok (s, r)) : r.length < b.length := by
  suffices H : ∀ n (b : List UInt8), b.length ≤ n → ∀ s r, words b = .ok (s, r) → r.length < b.length from H _ b (Nat.le_refl _) s r h
  intro n
  induction n with
  | zero => intro b hb s r h; have : b = [] := List.length_eq_zero_iff.mp (by omega); subst this; simp [words] at h
  | succ n ih =>
    intro b hb s r h
    cases b with
    | nil => simp [words] at h
    | cons c rest =>
      unfold words at h
      simp only [List.length_cons] at hb ⊢
      split at h
      · split at h
        · rename_i s' r' hw
          cases h
          have := ih rest (by omega) _ _ hw
          omega
        · cases h
      · cases rest with
        | nil => cases h
        | cons d rest' =>
          simp only [List.length_cons] at hb h ⊢
          split at h
          · split at h
            · rename_i s' r' hw
              cases h
              have := ih rest' (by omega) _ _ hw
              omega
            · cases h
          · split at h
            · cases h; omega
            · cases h
theorem words_esc {b s r : List UInt8} (h : words b = .ok (s, r)) : b = esc s ++ [0, 1] ++ r := by
  suffices H : ∀ n (b : List UInt8), b.length ≤ n → ∀ s r, words b = .ok (s, r) → b = esc s ++ [0, 1] ++ r from H _ b (Nat.le_refl _) s r h
  intro n
  induction n with
  | zero => intro b hb s r h; have : b = [] := List.length_eq_zero_iff.mp (by omega); subst this; simp [words] at h
  | succ n ih =>
    intro b hb s r h
    cases b with
    | nil => simp [words] at h
    | cons c rest =>
      unfold words at h
      simp only [List.length_cons] at hb
      split at h
      · rename_i hc
        split at h
        · rename_i s' r' hw
          cases h
          have := ih rest (by omega) _ _ hw
          rw [this]; simp [esc, hc]
        · cases h
      · rename_i hc
        have hc : c = 0 := Classical.not_not.mp hc
        subst hc
        cases rest with
        | nil => cases h
        | cons d rest' =>
          simp only [List.length_cons] at hb h
          split at h
          · rename_i hd
            subst hd
            split at h
            · rename_i s' r' hw
              cases h
              have := ih rest' (by omega) _ _ hw
              rw [this]; simp [esc]
            · cases h
          · split at h
            · rename_i hd
              subst hd
              cases h
              simp [esc]
            · cases h

def readK (b : List UInt8) : Except Int (List KP) := match b with
  | [] => .ok []
  | k :: rest => if k = 1 then
      (if rest.length < 8 then .error 3 else match readK (rest.drop 8) with
        | .ok l => .ok (⟨false, (val8 (rest.take 8) : Int) - 9223372036854775808, []⟩ :: l)
        | .error e => .error e)
    else if k = 2 then (match hw : words rest with
      | .error e => .error e
      | .ok (s, r) => match readK r with
        | .ok l => .ok (⟨true, 0, s⟩ :: l)
        | .error e => .error e)
    else .error 2
termination_by b.length
decreasing_by
  · simp only [List.length_drop, List.length_cons]; omega
  · have := words_len hw; simp only [List.length_cons]; omega

def bytes8 (n : Nat) : List UInt8 := (List.range 8).map fun i => UInt8.ofNat (n / 256 ^ (7 - i) % 256)
theorem bytes8_val8 {b : List UInt8} (h : b.length = 8) : bytes8 (val8 b) = b := by
  obtain ⟨a, b, c, d, e, f, g, i, rfl⟩ : ∃ x0 x1 x2 x3 x4 x5 x6 x7, b = [x0, x1, x2, x3, x4, x5, x6, x7] := by
    match b, h with
    | [x0, x1, x2, x3, x4, x5, x6, x7], _ => exact ⟨x0, x1, x2, x3, x4, x5, x6, x7, rfl⟩
  have key : ∀ (x : UInt8) (n : Nat), n % 256 = x.toNat → UInt8.ofNat (n % 256) = x := fun x n hh => by rw [hh]; simp
  have := a.toNat_lt; have := b.toNat_lt; have := c.toNat_lt; have := d.toNat_lt; have := e.toNat_lt; have := f.toNat_lt; have := g.toNat_lt; have := i.toNat_lt
  simp only [bytes8, val8, List.foldl_cons, List.foldl_nil, List.range_succ, List.range_zero, List.nil_append, List.map_append, List.map_cons, List.map_nil, List.cons_append]
  congr 1
  · exact key a _ (by omega)
  congr 1
  · exact key b _ (by omega)
  congr 1
  · exact key c _ (by omega)
  congr 1
  · exact key d _ (by omega)
  congr 1
  · exact key e _ (by omega)
  congr 1
  · exact key f _ (by omega)
  congr 1
  · exact key g _ (by omega)
  congr 1
  · exact key i _ (by omega)
def writeP (p : KP) : List UInt8 := if p.isT then 2 :: (esc p.txt ++ [0, 1]) else 1 :: bytes8 (p.num + 9223372036854775808).toNat
def writeK (l : List KP) : List UInt8 := l.flatMap writeP
theorem write_read {b : List UInt8} {l : List KP} (h : readK b = .ok l) : writeK l = b := by
  suffices H : ∀ n (b : List UInt8), b.length ≤ n → ∀ l, readK b = .ok l → writeK l = b from H _ b (Nat.le_refl _) l h
  intro n
  induction n with
  | zero => intro b hb l h; have : b = [] := List.length_eq_zero_iff.mp (by omega); subst this; rw [readK] at h; cases h; rfl
  | succ n ih =>
    intro b hb l h
    cases b with
    | nil => rw [readK] at h; cases h; rfl
    | cons k rest =>
      rw [readK] at h
      simp only [List.length_cons] at hb
      split at h
      · rename_i hk
        subst hk
        split at h
        · cases h
        · rename_i h8
          split at h
          · rename_i l' hr
            cases h
            have := ih _ (by rw [List.length_drop]; omega) _ hr
            have e8 : (rest.take 8).length = 8 := by rw [List.length_take]; omega
            have e : ((val8 (rest.take 8) : Int) - 9223372036854775808 + 9223372036854775808).toNat = val8 (rest.take 8) := by omega
            show writeP _ ++ writeK l' = _
            rw [this]
            simp only [writeP, Bool.false_eq_true, if_false, e]
            rw [bytes8_val8 e8]
            simp
          · cases h
      · split at h
        · rename_i hk
          subst hk
          split at h
          · cases h
          · rename_i s r hw
            split at h
            · rename_i l' hr
              cases h
              have := ih _ (by have := words_len hw; omega) _ hr
              have e := words_esc hw
              show writeP _ ++ writeK l' = _
              rw [this, e]
              simp [writeP]
            · cases h
        · cases h

def keyOk (k : List UInt8) : Bool := match readK k with
  | .ok [p, q] => !p.isT && q.isT && decide (0 ≤ p.num) && decide (p.num ≤ 3) && decide (q.txt.length ≤ 40)
  | _ => false
end Go.Vn

set_option maxRecDepth 20000
namespace Go.Vn
open Go.Proofs

structure Ver where
  key : List UInt8
  br : Int
  ep : Int
  sq : Int
  fr : Int
  to : Int
  val : List UInt8
  gone : Bool
deriving Inhabited, DecidableEq
@[simp] def encV (v : Ver) : AV := .agg [.str v.key, .int .i64 v.br, .int .i64 v.ep, .int .i64 v.sq, .int .i64 v.fr, .int .i64 v.to, .str v.val, .bool v.gone]
@[simp] def encS2 (a b : Int) : AV := .agg [.int .i64 a, .int .i64 b]
def SpMay (a b : Int) : Prop := 0 ≤ a ∧ a < b ∧ b ≤ 1099511627776
instance (a b : Int) : Decidable (SpMay a b) := by unfold SpMay; infer_instance

theorem smay_ans (a b : Int) (h0 : Hp Fm) : A Tryz.prog TT (.func 77) [encS2 a b] h0 (fun r h' => r = .bool (decide (SpMay a b)) ∧ HE h0 h') := by
  by_cases q1 : 0 ≤ a
  · by_cases q2 : a < b
    · by_cases q3 : b ≤ 1099511627776
      all_goals
        apply A_go Tryz.func77 rfl (by rfl); (case hn => (simp [Tryz.ntmps77]; rfl))
        repeat(first|with_reducible first|refine vmR ?_|refine vmV rfl ?_|refine vmW rfl ?_|refine vmL ?_|refine blockW_y (by decide) ?_|((with_reducible first|apply vmO|apply vmT|apply vmC);case a=>simp [q1, q2, q3];with_reducible first|exact .v|exact .c|exact .t|exact .f))
        (first | apply endW_r | apply endW_n); (case h1 => (simp [Tryz.results77]; first | done | rfl))
        exact ⟨by simp [SpMay, q1, q2, q3], (HE.refl h0).new _⟩
    · apply A_go Tryz.func77 rfl (by rfl); (case hn => (simp [Tryz.ntmps77]; rfl))
      repeat(first|with_reducible first|refine vmR ?_|refine vmV rfl ?_|refine vmW rfl ?_|refine vmL ?_|refine blockW_y (by decide) ?_|((with_reducible first|apply vmO|apply vmT|apply vmC);case a=>simp [q1, q2];with_reducible first|exact .v|exact .c|exact .t|exact .f))
      (first | apply endW_r | apply endW_n); (case h1 => (simp [Tryz.results77]; first | done | rfl))
      exact ⟨by simp [SpMay, q1, q2], (HE.refl h0).new _⟩
  · apply A_go Tryz.func77 rfl (by rfl); (case hn => (simp [Tryz.ntmps77]; rfl))
    repeat(first|with_reducible first|refine vmR ?_|refine vmV rfl ?_|refine vmW rfl ?_|refine vmL ?_|refine blockW_y (by decide) ?_|((with_reducible first|apply vmO|apply vmT|apply vmC);case a=>simp [q1];with_reducible first|exact .v|exact .c|exact .t|exact .f))
    (first | apply endW_r | apply endW_n); (case h1 => (simp [Tryz.results77]; first | done | rfl))
    exact ⟨by simp [SpMay, q1], (HE.refl h0).new _⟩
theorem may4_ans (a b : Int) (h0 : Hp Fm) : A Tryz.prog TT (.func 54) [encS2 a b] h0 (fun r h' => r = .bool (decide (SpMay a b)) ∧ HE h0 h') := by
  by_cases q1 : 0 ≤ a
  · by_cases q2 : a < b
    · by_cases q3 : b ≤ 1099511627776
      all_goals
        apply A_go Tryz.func54 rfl (by rfl); (case hn => (simp [Tryz.ntmps54]; rfl))
        repeat(first|with_reducible first|refine vmR ?_|refine vmV rfl ?_|refine vmW rfl ?_|refine vmL ?_|refine blockW_y (by decide) ?_|((with_reducible first|apply vmO|apply vmT|apply vmC);case a=>simp [q1, q2, q3];with_reducible first|exact .v|exact .c|exact .t|exact .f))
        (first | apply endW_r | apply endW_n); (case h1 => (simp [Tryz.results54]; first | done | rfl))
        exact ⟨by simp [SpMay, q1, q2, q3], (HE.refl h0).new _⟩
    · apply A_go Tryz.func54 rfl (by rfl); (case hn => (simp [Tryz.ntmps54]; rfl))
      repeat(first|with_reducible first|refine vmR ?_|refine vmV rfl ?_|refine vmW rfl ?_|refine vmL ?_|refine blockW_y (by decide) ?_|((with_reducible first|apply vmO|apply vmT|apply vmC);case a=>simp [q1, q2];with_reducible first|exact .v|exact .c|exact .t|exact .f))
      (first | apply endW_r | apply endW_n); (case h1 => (simp [Tryz.results54]; first | done | rfl))
      exact ⟨by simp [SpMay, q1, q2], (HE.refl h0).new _⟩
  · apply A_go Tryz.func54 rfl (by rfl); (case hn => (simp [Tryz.ntmps54]; rfl))
    repeat(first|with_reducible first|refine vmR ?_|refine vmV rfl ?_|refine vmW rfl ?_|refine vmL ?_|refine blockW_y (by decide) ?_|((with_reducible first|apply vmO|apply vmT|apply vmC);case a=>simp [q1];with_reducible first|exact .v|exact .c|exact .t|exact .f))
    (first | apply endW_r | apply endW_n); (case h1 => (simp [Tryz.results54]; first | done | rfl))
    exact ⟨by simp [SpMay, q1], (HE.refl h0).new _⟩
theorem rin_ans (n a b : Int) (h0 : Hp Fm) : A Tryz.prog TT (.func 76) [.int .i64 n, .int .i64 a, .int .i64 b] h0 (fun r h' => r = .bool (decide (a ≤ n ∧ n ≤ b)) ∧ h' = h0) := by
  by_cases q1 : a ≤ n
  · by_cases q2 : n ≤ b
    all_goals
      apply A_go Tryz.func76 rfl (by rfl); (case hn => (simp [Tryz.ntmps76]; rfl))
      repeat(first|with_reducible first|refine vmR ?_|refine vmV rfl ?_|refine vmW rfl ?_|refine vmL ?_|refine blockW_y (by decide) ?_|((with_reducible first|apply vmO|apply vmT|apply vmC);case a=>simp [q1, q2];with_reducible first|exact .v|exact .c|exact .t|exact .f))
      (first | apply endW_r | apply endW_n); (case h1 => (simp [Tryz.results76]; first | done | rfl))
      exact ⟨by simp [q1, q2], rfl⟩
  · apply A_go Tryz.func76 rfl (by rfl); (case hn => (simp [Tryz.ntmps76]; rfl))
    repeat(first|with_reducible first|refine vmR ?_|refine vmV rfl ?_|refine vmW rfl ?_|refine vmL ?_|refine blockW_y (by decide) ?_|((with_reducible first|apply vmO|apply vmT|apply vmC);case a=>simp [q1];with_reducible first|exact .v|exact .c|exact .t|exact .f))
    (first | apply endW_r | apply endW_n); (case h1 => (simp [Tryz.results76]; first | done | rfl))
    exact ⟨by simp [q1], rfl⟩
end Go.Vn

set_option maxRecDepth 20000
namespace Go.Vn
open Go.Proofs

theorem wrapU64 {n : Nat} (h : n < 18446744073709551616) : IntKind.u64.wrap (n : Int) = (n : Int) := by
  simp only [IntKind.wrap, IntKind.signed, IntKind.bits]
  simp
  omega
theorem shl_or (n c : Nat) (h : n * 256 + c < 18446744073709551616) (hc : c < 256) : IntKind.u64.wrap (↑(n * 256 % 2 ^ IntKind.u64.bits ||| c % 2 ^ IntKind.u64.bits) : Int) = ((n * 256 + c : Nat) : Int) := by
  have e1 : n * 256 % 2 ^ IntKind.u64.bits = n * 256 := Nat.mod_eq_of_lt (by simp only [IntKind.bits]; omega)
  have e2 : c % 2 ^ IntKind.u64.bits = c := Nat.mod_eq_of_lt (by simp only [IntKind.bits]; omega)
  rw [e1, e2]
  have := Nat.shiftLeft_add_eq_or_of_lt (b := c) (i := 8) (by omega) n
  rw [Nat.shiftLeft_eq] at this
  rw [show n * 256 = n * 2 ^ 8 by rfl, ← this]
  exact wrapU64 (by omega)
end Go.Vn

set_option maxRecDepth 20000
namespace Go.Vn
open Go.Proofs

def encPt (t : Bool) (n : Int) (s : List UInt8) : AV := .agg [.bool t, .int .i64 n, .str s]
set_option maxHeartbeats 1000000 in
theorem oword_short (b : List UInt8) (v : AV) (h0 : Hp Fm) (k : SV 1 (b.map byteAV) v) (q8 : b.length < 8) :
    A Tryz.prog TT (.func 98) [v] h0 (fun r h' => r = .tup [encPt false 0 [], .nils, .int .i64 3] ∧ HE h0 h') := by
  have c1 := k.cells
  have i1 := k.isCell
  have n1 := k.nm
  have l1 := k.len Tryz.underlying58
  rw [List.length_map] at l1
  have q8' : (b.length : Int) < 8 := by omega
  apply A_go Tryz.func98 rfl (by rfl); (case hn => (simp [Tryz.ntmps98]; rfl))
  repeat(first|with_reducible first|refine vmR ?_|refine vmV rfl ?_|refine vmW rfl ?_|refine vmL ?_|refine blockW_y (by decide) ?_|((with_reducible first|apply vmO|apply vmT|apply vmC);case a=>simp [c1, i1, n1, l1, q8, q8'];with_reducible first|exact .v|exact .c|exact .t|exact .f))
  (first | apply endW_r | apply endW_n); (case h1 => (simp [Tryz.results98]; first | done | rfl))
  exact ⟨by simp [encPt], ((HE.refl h0).new _).set (Nat.le_refl _) _⟩
theorem xor63 (n : Nat) (h : n < 18446744073709551616) : IntKind.i64.wrap (IntKind.u64.wrap (↑(n % 2 ^ IntKind.u64.bits ^^^ 9223372036854775808 % 2 ^ IntKind.u64.bits) : Int)) = (n : Int) - 9223372036854775808 := by
  have e1 : n % 2 ^ IntKind.u64.bits = n := Nat.mod_eq_of_lt (by simp only [IntKind.bits]; omega)
  have e2 : 9223372036854775808 % 2 ^ IntKind.u64.bits = 9223372036854775808 := by decide
  rw [e1, e2]
  have d := Nat.xor_div_two_pow (a := n) (b := 9223372036854775808) (n := 63)
  have m := Nat.xor_mod_two_pow (a := n) (b := 9223372036854775808) (n := 63)
  have t1 : 9223372036854775808 / 2 ^ 63 = 1 := by decide
  have t2 : 9223372036854775808 % 2 ^ 63 = 0 := by decide
  rw [t1] at d
  rw [t2, Nat.xor_zero] at m
  have p : (2 : Nat) ^ 63 = 9223372036854775808 := by decide
  rw [p] at d m
  generalize n ^^^ 9223372036854775808 = x at *
  have hq : n / 9223372036854775808 = 0 ∨ n / 9223372036854775808 = 1 := by omega
  have hx : x < 18446744073709551616 := by
    rcases hq with q | q <;> rw [q] at d
    · have : (0 ^^^ 1 : Nat) = 1 := by decide
      omega
    · have : (1 ^^^ 1 : Nat) = 0 := by decide
      omega
  rw [wrapU64 hx]
  simp only [IntKind.wrap, IntKind.signed, IntKind.bits]
  rcases hq with q | q <;> rw [q] at d
  · have : (0 ^^^ 1 : Nat) = 1 := by decide
    simp
    split <;> omega
  · have : (1 ^^^ 1 : Nat) = 0 := by decide
    simp
    split <;> omega
set_option maxHeartbeats 1000000 in
theorem oword_ans (b : List UInt8) (v : AV) (h0 : Hp Fm) (k : SV 1 (b.map byteAV) v) (hl : b.length ≤ 100000) (q8 : 8 ≤ b.length) :
    A Tryz.prog TT (.func 98) [v] h0 (fun r h' => ∃ v', r = .tup [encPt false ((val8 (b.take 8) : Int) - 9223372036854775808) [], v', .int .i64 0] ∧ SV 1 ((b.drop 8).map byteAV) v' ∧ HE h0 h') := by
  have c1 := k.cells
  have i1 := k.isCell
  have n1 := k.nm
  have l1 := k.len Tryz.underlying58
  rw [List.length_map] at l1
  have q8' : ¬ (b.length : Int) < 8 := by omega
  have q8'' : ¬ b.length < 8 := by omega
  obtain ⟨r8, s8, sv8⟩ := k.take Tryz.underlying58 z5 (k := .i64) (i := 8) (by omega) (by rw [List.length_map]; omega)
  rw [← List.map_take] at sv8
  have c8 := sv8.cells
  have i8 := sv8.isCell
  have n8 := sv8.nm
  have l8 := sv8.len Tryz.underlying58
  have hl8 : (b.take 8).length = 8 := by rw [List.length_take]; omega
  have l8' : lenAV Tryz.prog 58 r8 = some (.int .i64 8) := by rw [l8]; simp; omega
  apply A_go Tryz.func98 rfl (by rfl); (case hn => (simp [Tryz.ntmps98]; rfl))
  repeat(first|with_reducible first|refine vmR ?_|refine vmV rfl ?_|refine vmW rfl ?_|refine vmL ?_|refine blockW_y (by decide) ?_|((with_reducible first|apply vmO|apply vmT|apply vmC);case a=>simp [c1, i1, n1, l1, q8, q8', q8'', s8, c8, i8, n8, l8'];with_reducible first|exact .v|exact .c|exact .t|exact .f))
  refine W_loop (fun m s => ∃ (t : Fm AV) (i n : Nat), s = ⟨t, 31, { h0 with obj := Mp.set h0.obj h0.no (.row [.bool false, .int .i64 0, .str []]), no := h0.no + 1 }, none⟩ ∧ m = 8 - i ∧ i ≤ 8 ∧ n = val8 (b.take i) ∧ tget t 0 = v ∧ tget t 2 = .ptr h0.no 0 ∧ tget t 13 = r8 ∧ tget t 14 = .int .i64 8 ∧ tget t 15 = .int .i64 i ∧ tget t 5 = .int .u64 n) 8
    ⟨_, 0, 0, rfl, rfl, by omega, by simp [val8], by simp, by simp, by simp, by simp, by simp, by simp⟩ ?_
  rintro m s ⟨t, i, n, rfl, rfl, hi, hn, t0, t2, t13, t14, t15, t5⟩
  by_cases qi : i < 8
  case neg =>
    have qj : ¬ ((i : Int) < 8) := by omega
    repeat(first|with_reducible first|refine vmR ?_|refine vmV rfl ?_|refine vmW rfl ?_|refine vmL ?_|refine blockW_y (by decide) ?_|((with_reducible first|apply vmO|apply vmT|apply vmC);case a=>simp [t0, t13, t14, t15, t5, qi, qj];with_reducible first|exact .v|exact .c|exact .t|exact .f))
    have i8' : i = 8 := by omega
    subst i8'
    have hb : n < 256 ^ 8 := by rw [hn]; have := val8_lt (b.take 8); rwa [hl8] at this
    obtain ⟨d, hd⟩ : ∃ d : Int, d = (n : Int) - 9223372036854775808 := ⟨_, rfl⟩
    have fx := xor63 n (by omega)
    rw [← hd] at fx
    obtain ⟨rd, sd, svd⟩ := k.drop Tryz.underlying58 z5 (k := .i64) (i := 8) (by omega) (by rw [List.length_map]; omega)
    have cd := svd.cells
    have id := svd.isCell
    (with_reducible refine W_draw_id (pln := true) [0, 1, 2, 3, 4, 5, 6, 7, 8] [] (by kernel_rfl) rfl ?_)
    repeat(first|with_reducible first|refine vmR ?_|refine vmV rfl ?_|refine vmW rfl ?_|refine vmL ?_|refine blockW_y (by decide) ?_|((with_reducible first|apply vmO|apply vmT|apply vmC);case a=>simp [t0, t2, t5, fx, sd, c1, i1, cd, id];with_reducible first|exact .v|exact .c|exact .t|exact .f))
    refine ⟨by simp [readSame, beqAV_self, t0, t2, t5, fx]; done, _, by simp; first | done | rfl, ?_⟩
    repeat(first|with_reducible first|refine vmR ?_|refine vmV rfl ?_|refine vmW rfl ?_|refine vmL ?_|refine blockW_y (by decide) ?_|((with_reducible first|apply vmO|apply vmT|apply vmC);case a=>simp;with_reducible first|exact .v|exact .c|exact .t|exact .f))
    (first | apply endW_r | apply endW_n); (case h1 => (simp [Tryz.results98, t2]; first | done | rfl))
    refine ⟨rd, by simp [encPt, hd, hn], ?_, (((HE.refl h0).new _).drew).set (Nat.le_refl _) _⟩
    rw [← List.map_drop] at svd
    exact svd
  have qj : (i : Int) < 8 := by omega
  have ix := sv8.idx (k := .i64) (i := (i : Int)) Tryz.underlying58 z5 (by omega) (by simp; omega)
  obtain ⟨c, hc⟩ : ∃ c : UInt8, c = b[i]'(by omega) := ⟨_, rfl⟩
  replace ix : indexAddrAV Tryz.prog 58 r8 (.int .i64 (i : Int)) = some (.el (.int .u8 (c.toNat : Int)) 0) := by rw [ix]; simp [hc, byteAV]
  have hcl := c.toNat_lt
  have hb : n < 256 ^ i := by rw [hn]; have := val8_lt (b.take i); rwa [List.length_take, Nat.min_eq_left (by omega)] at this
  have hb7 : n < 256 ^ 7 := Nat.lt_of_lt_of_le hb (Nat.pow_le_pow_right (by omega) (by omega))
  have f1 : IntKind.u64.wrap ((n : Int) * 2 ^ min 8 IntKind.u64.bits) = ((n * 256 : Nat) : Int) := by
    have e : (2 ^ min 8 IntKind.u64.bits : Int) = ((256 : Nat) : Int) := by decide
    rw [e, ← Int.natCast_mul]; exact wrapU64 (by omega)
  obtain ⟨n2, hn2⟩ : ∃ n2, n2 = n * 256 := ⟨_, rfl⟩
  obtain ⟨n3, hn3⟩ : ∃ n3, n3 = n * 256 + c.toNat := ⟨_, rfl⟩
  rw [← hn2] at f1
  have f2 : IntKind.u64.wrap (c.toNat : Int) = (c.toNat : Int) := wrapU64 (by omega)
  have f3 : IntKind.u64.wrap (↑(n2 % 2 ^ IntKind.u64.bits ||| c.toNat % 2 ^ IntKind.u64.bits) : Int) = (n3 : Int) := by rw [hn2, hn3]; exact shl_or n c.toNat (by omega) (by omega)
  have w1 : IntKind.i64.wrap ((i : Int) + 1) = ((i + 1 : Nat) : Int) := by rw [wrap64 (by omega) (by omega)]; simp
  repeat(first|with_reducible first|refine vmR ?_|refine vmV rfl ?_|refine vmW rfl ?_|refine vmL ?_|refine blockW_y (by decide) ?_|((with_reducible first|apply vmO|apply vmT|apply vmC);case a=>simp [t13, t14, t15, t5, qi, qj, ix, shiftBin, f1, f2, f3, w1];with_reducible first|exact .v|exact .c|exact .t|exact .f))
  refine ⟨8 - (i + 1), by omega, _, i + 1, n3, rfl, rfl, by omega, ?_, by simp [t0], by simp [t2], by simp [t13], by simp [t14], by simp, by simp⟩
  have : b.take (i + 1) = b.take i ++ [c] := by
    rw [hc, List.take_succ_eq_append_getElem (by omega)]
  rw [this, val8_app, ← hn, hn3]
end Go.Vn

set_option maxRecDepth 20000
namespace Go.Vn
open Go.Proofs

def cmbW (done : List UInt8) : Except Int (List UInt8 × List UInt8) → Except Int (List UInt8 × List UInt8)
  | .ok (s, r) => .ok (done ++ s, r)
  | .error e => .error e
theorem words_nil : words [] = .error 3 := rfl
theorem words_nz {c : UInt8} (h : c ≠ 0) (rest : List UInt8) : words (c :: rest) = cmbW [c] (words rest) := by
  conv => lhs; unfold words
  rw [if_pos h]
  cases words rest with
  | error e => rfl
  | ok p => rfl
theorem words_z1 : words [0] = .error 3 := rfl
theorem words_zf (rest : List UInt8) : words (0 :: 255 :: rest) = cmbW [0] (words rest) := by
  conv => lhs; unfold words
  simp only [ne_eq, not_true, if_false, if_true]
  cases words rest with
  | error e => rfl
  | ok p => rfl
theorem words_zo (rest : List UInt8) : words (0 :: 1 :: rest) = .ok ([], rest) := rfl
theorem words_zb {d : UInt8} (h1 : d ≠ 255) (h2 : d ≠ 1) (rest : List UInt8) : words (0 :: d :: rest) = .error 2 := by
  conv => lhs; unfold words
  simp [h1, h2]
theorem cmbW_nil (x : Except Int (List UInt8 × List UInt8)) : cmbW [] x = x := by cases x <;> rfl
theorem cmbW_cmbW (a b : List UInt8) (x : Except Int (List UInt8 × List UInt8)) : cmbW a (cmbW b x) = cmbW (a ++ b) x := by
  cases x with
  | error e => rfl
  | ok p => simp [cmbW]

def WordR (x : Except Int (List UInt8 × List UInt8)) (r : AV) : Prop := match x with
  | .error e => r = .tup [encPt false 0 [], .nils, .int .i64 e]
  | .ok (s, rest) => ∃ v', r = .tup [encPt true 0 s, v', .int .i64 0] ∧ SV 1 (rest.map byteAV) v'

set_option maxHeartbeats 4000000 in
theorem owords_loop (b : List UInt8) (v : AV) (k : SV 1 (b.map byteAV) v) (hl : b.length ≤ 100000) (h0 hb : Hp Fm) (hhb : hb = { h0 with obj := Mp.set h0.obj h0.no (.row [.bool false, .int .i64 0, .str []]), no := h0.no + 1 }) (hp : h0.pol 5 = false) (bd : Code) (hbd : ∃ c, Tryz.f99.body = some (.seq c (.scope bd))) (rest : Code) (hrest : findLabel bd 0 = some rest) :
    ∀ (n i : Nat) (acc : List UInt8) (t : Fm AV) (h : Hp Fm) (a : AV), b.length - i < n → i ≤ b.length → acc.length ≤ i → HE hb h → AC hb h 1 (acc.map byteAV) a → cmbW acc (words (b.drop i)) = words b →
      tget t 0 = v → tget t 2 = .ptr h0.no 0 → tget t 5 = a → tget t 6 = .int .i64 i →
      W Tryz.prog TT rest ⟨t, 54, h, none⟩ (jumpW Tryz.prog TT bd <| endW Tryz.prog Tryz.f99 fun r h' => WordR (words b) r ∧ HE h0 h') := by
  obtain ⟨c, hb2⟩ := hbd
  have hb' : some (Code.seq c (.scope bd)) = Tryz.f99.body := hb2.symm
  injection hb' with hb'
  injection hb' with _ hb4
  injection hb4 with hb3
  subst hb3
  injection hrest with hrest
  subst hrest
  have c1 := k.cells
  have i1 := k.isCell
  have n1 := k.nm
  have l1 := k.len Tryz.underlying58
  rw [List.length_map] at l1
  have e0b : HE h0 hb := by rw [hhb]; exact (HE.refl h0).new _
  have hbp : hb.pol 5 = false := by rw [e0b.pol]; exact hp
  have hbr : Mp.get hb.obj h0.no = some (.row [.bool false, .int .i64 0, .str []]) := by rw [hhb]; simp
  have hbn : h0.no < hb.no := by rw [hhb]; show h0.no < h0.no + 1; omega
  intro n
  induction n with
  | zero => intro i acc t h a hn; omega
  | succ n ih =>
    intro i acc t h a hn hi hacl he hac hfin t0 t2 t5 t6
    clear hb2
    have uc := hac.sv.cells
    have ui := hac.sv.isCell
    have hrow : Mp.get h.obj h0.no = some (.row [.bool false, .int .i64 0, .str []]) := (he.obj _ hbn).trans hbr
    have hph : h.pol 5 = false := by rw [he.pol]; exact hbp
    by_cases qi : i = b.length
    · have qi' : ((i : Int) = (b.length : Int)) := by omega
      have ed : b.drop i = [] := by rw [qi]; simp
      rw [ed, words_nil] at hfin
      have fin : words b = .error 3 := hfin.symm
      repeat(first|with_reducible first|refine vmR ?_|refine vmV rfl ?_|refine vmW rfl ?_|refine vmL ?_|refine blockW_y (by decide) ?_|((with_reducible first|apply vmO|apply vmT|apply vmC);case a=>simp [t0, t2, t5, t6, c1, i1, l1, n1, qi, qi', hrow];with_reducible first|exact .v|exact .c|exact .t|exact .f))
      (first | apply endW_r | apply endW_n); (case h1 => (simp [Tryz.results99, t2]; first | done | rfl))
      rw [fin]
      exact ⟨by simp [WordR, encPt], (e0b.trans he).set (Nat.le_refl _) _⟩
    have qi' : ¬ ((i : Int) = (b.length : Int)) := by omega
    have hil : i < b.length := by omega
    obtain ⟨c, hc⟩ : ∃ c : UInt8, c = b[i] := ⟨_, rfl⟩
    have ed : b.drop i = c :: b.drop (i + 1) := by rw [hc]; exact List.drop_eq_getElem_cons hil
    have ix := k.idx (k := .i64) (i := (i : Int)) Tryz.underlying58 z5 (by omega) (by simp; omega)
    replace ix : indexAddrAV Tryz.prog 58 v (.int .i64 (i : Int)) = some (.el (.int .u8 (c.toNat : Int)) 0) := by rw [ix]; simp [hc, byteAV]
    rw [ed] at hfin
    have w1 : IntKind.i64.wrap ((i : Int) + 1) = ((i + 1 : Nat) : Int) := by rw [wrap64 (by omega) (by omega)]; simp
    have w2 : IntKind.i64.wrap ((i : Int) + 2) = ((i + 2 : Nat) : Int) := by rw [wrap64 (by omega) (by omega)]; simp
    obtain ⟨j, hj⟩ : ∃ j, j = i + 1 := ⟨_, rfl⟩
    obtain ⟨j2, hj2⟩ : ∃ j2, j2 = i + 2 := ⟨_, rfl⟩
    rw [← hj] at w1
    rw [← hj2] at w2
    obtain ⟨cn, hcn⟩ : ∃ cn : Nat, cn = c.toNat := ⟨_, rfl⟩
    rw [← hcn] at ix
    by_cases qc : cn = 0
    case neg =>
      have qc0 : c ≠ 0 := fun z => qc (by rw [hcn, z]; rfl)
      rw [words_nz qc0, cmbW_cmbW] at hfin
      repeat(first|with_reducible first|refine vmR ?_|refine vmV rfl ?_|refine vmW rfl ?_|refine blockW_y (by decide) ?_|((with_reducible first|apply vmO|apply vmT|apply vmC);case a=>simp [t0, t2, t5, t6, c1, i1, l1, n1, qi, qi', ix, qc, uc, ui, newSeq, newSl, hph];with_reducible first|exact .v|exact .c|exact .t|exact .f))
      repeat(first|with_reducible first|refine vmR ?_|refine vmV rfl ?_|refine vmW rfl ?_|refine vmL ?_|refine blockW_y (by decide) ?_|((with_reducible first|apply vmO|apply vmT|apply vmC);case a=>simp [t0, t2, t5, t6, c1, i1, l1, n1, qi, qi', ix, qc, uc, ui, newSeq, newSl, hph];with_reducible first|exact .v|exact .c|exact .t|exact .f))
      with_reducible apply WO_app_i; (case hw => (simp [t0, t2, t5, t6, c1, i1, l1, n1, qi, qi', ix, qc, uc, ui, newSeq, newSl, hph]; done)); (case ho => rfl); (case hb => rfl); (case ha => (simp [t0, t2, t5, t6, c1, i1, l1, n1, qi, qi', ix, qc, uc, ui, newSeq, newSl, hph]; first | done | exact ⟨rfl, rfl⟩ | rfl)); (case h1 => (simp; first | done | rfl)); (case h2 => (simp; first | done | rfl))
      refine app_then (AC.app (h0 := hb) etB (hac.of ((HE.refl h).newSl 1)) (he.newSl 1) hbp (by simp; omega)) ?_
      rintro x4 h4 ⟨ac4, he4, _, _, _⟩
      have e4 := ac4.sv.cells
      have f4 := ac4.sv.isCell
      refine ⟨_, by simp; first | done | rfl, ?_⟩
      repeat(first|with_reducible first|refine vmR ?_|refine vmV rfl ?_|refine vmW rfl ?_|refine vmL ?_|refine blockW_y (by decide) ?_|((with_reducible first|apply vmO|apply vmT|apply vmC);case a=>simp [t6, e4, f4, w1];with_reducible first|exact .v|exact .c|exact .t|exact .f))
      refine jumpW_g rfl (WS_run ?_)
      refine ih j (acc ++ [c]) _ h4 x4 (by omega) (by omega) (by simp; omega) he4 ?_ (by rw [hj]; exact hfin) (by simp [t0]) (by simp [t2]) (by simp) (by simp)
      have : (acc ++ [c]).map byteAV = acc.map byteAV ++ [.int .u8 cn] := by simp [byteAV, hcn]
      rw [this]; exact ac4
    have qc0 : c = 0 := by rw [qc] at hcn; exact UInt8.toNat_inj.mp hcn.symm
    subst qc0
    by_cases qj : j = b.length
    · have qj' : ((j : Int) = (b.length : Int)) := by omega
      have ed2 : b.drop (i + 1) = [] := by rw [← hj, qj]; simp
      rw [ed2, words_z1] at hfin
      have fin : words b = .error 3 := hfin.symm
      repeat(first|with_reducible first|refine vmR ?_|refine vmV rfl ?_|refine vmW rfl ?_|refine vmL ?_|refine blockW_y (by decide) ?_|((with_reducible first|apply vmO|apply vmT|apply vmC);case a=>simp [t0, t2, t5, t6, c1, i1, l1, n1, qi, qi', ix, qc, w1, qj, qj', hrow];with_reducible first|exact .v|exact .c|exact .t|exact .f))
      (first | apply endW_r | apply endW_n); (case h1 => (simp [Tryz.results99, t2]; first | done | rfl))
      rw [fin]
      exact ⟨by simp [WordR, encPt], (e0b.trans he).set (Nat.le_refl _) _⟩
    have qj' : ¬ ((j : Int) = (b.length : Int)) := by omega
    have hjl : j < b.length := by omega
    obtain ⟨d, hd⟩ : ∃ d : UInt8, d = b[j] := ⟨_, rfl⟩
    have ed2 : b.drop (i + 1) = d :: b.drop (i + 2) := by rw [show i + 2 = j + 1 by omega, ← hj, hd]; exact List.drop_eq_getElem_cons hjl
    have jx := k.idx (k := .i64) (i := (j : Int)) Tryz.underlying58 z5 (by omega) (by simp; omega)
    replace jx : indexAddrAV Tryz.prog 58 v (.int .i64 (j : Int)) = some (.el (.int .u8 (d.toNat : Int)) 0) := by rw [jx]; simp [hd, byteAV]
    rw [ed2] at hfin
    obtain ⟨dn, hdn⟩ : ∃ dn : Nat, dn = d.toNat := ⟨_, rfl⟩
    rw [← hdn] at jx
    by_cases q255 : dn = 255
    · have qd : d = 255 := UInt8.toNat_inj.mp (by rw [← hdn, q255]; rfl)
      subst qd
      rw [words_zf, cmbW_cmbW] at hfin
      have q255' : (dn : Int) = 255 := by omega
      repeat(first|with_reducible first|refine vmR ?_|refine vmV rfl ?_|refine vmW rfl ?_|refine vmL ?_|refine blockW_y (by decide) ?_|((with_reducible first|apply vmO|apply vmT|apply vmC);case a=>simp [t0, t2, t5, t6, c1, i1, l1, n1, qi, qi', ix, qc, w1, qj, qj', jx, q255, q255', uc, ui, newSeq, newSl, hph];with_reducible first|exact .v|exact .c|exact .t|exact .f))
      with_reducible apply WO_app_i; (case hw => (simp [t0, t2, t5, t6, c1, i1, l1, n1, qi, qi', ix, qc, w1, qj, qj', jx, q255, q255', uc, ui, newSeq, newSl, hph]; done)); (case ho => rfl); (case hb => rfl); (case ha => (simp [t0, t2, t5, t6, c1, i1, l1, n1, qi, qi', ix, qc, w1, qj, qj', jx, q255, q255', uc, ui, newSeq, newSl, hph]; first | done | exact ⟨rfl, rfl⟩ | rfl)); (case h1 => (simp; first | done | rfl)); (case h2 => (simp; first | done | rfl))
      refine app_then (AC.app (h0 := hb) etB (hac.of ((HE.refl h).newSl 1)) (he.newSl 1) hbp (by simp; omega)) ?_
      rintro x4 h4 ⟨ac4, he4, _, _, _⟩
      have e4 := ac4.sv.cells
      have f4 := ac4.sv.isCell
      refine ⟨_, by simp; first | done | rfl, ?_⟩
      repeat(first|with_reducible first|refine vmR ?_|refine vmV rfl ?_|refine vmW rfl ?_|refine vmL ?_|refine blockW_y (by decide) ?_|((with_reducible first|apply vmO|apply vmT|apply vmC);case a=>simp [t6, e4, f4, w2];with_reducible first|exact .v|exact .c|exact .t|exact .f))
      refine jumpW_g rfl (WS_run ?_)
      refine ih j2 (acc ++ [0]) _ h4 x4 (by omega) (by omega) (by simp; omega) he4 ?_ (by rw [hj2]; exact hfin) (by simp [t0]) (by simp [t2]) (by simp) (by simp)
      have : (acc ++ [(0 : UInt8)]).map byteAV = acc.map byteAV ++ [.int .u8 0] := by simp [byteAV]
      rw [this]; exact ac4
    have q255' : ¬ (dn : Int) = 255 := by omega
    by_cases q1 : dn = 1
    · have qd : d = 1 := UInt8.toNat_inj.mp (by rw [← hdn, q1]; rfl)
      subst qd
      rw [words_zo] at hfin
      have fin : words b = .ok (acc, b.drop j2) := by rw [← hfin, hj2]; simp [cmbW]
      have q1' : (dn : Int) = 1 := by omega
      obtain ⟨rd, sd, svd⟩ := k.drop Tryz.underlying58 z5 (k := .i64) (i := (j2 : Int)) (by omega) (by rw [List.length_map]; omega)
      have cd := svd.cells
      have id := svd.isCell
      have cv := fun h => conv_txt h hac.sv
      repeat(first|with_reducible first|refine vmR ?_|refine vmV rfl ?_|refine vmW rfl ?_|refine vmL ?_|refine blockW_y (by decide) ?_|((with_reducible first|apply vmO|apply vmT|apply vmC);case a=>simp [t0, t2, t5, t6, c1, i1, l1, n1, qi, qi', ix, qc, w1, qj, qj', jx, q255, q255', q1, q1'];with_reducible first|exact .v|exact .c|exact .t|exact .f))
      (with_reducible refine W_draw_id (pln := true) [0, 1, 2, 3, 4, 5, 6, 7, 8, 9] [(1, (1, []))] (by kernel_rfl) rfl ?_)
      repeat(first|with_reducible first|refine vmR ?_|refine vmV rfl ?_|refine vmW rfl ?_|refine vmL ?_|refine blockW_y (by decide) ?_|((with_reducible first|apply vmO|apply vmT|apply vmC);case a=>simp [t0, t2, t5, t6, c1, i1, cv, w2, sd, cd, id, hrow];with_reducible first|exact .v|exact .c|exact .t|exact .f))
      refine ⟨by simp [readSame, beqAV_self, t0, t2, t5, t6, cv, w2]; done, _, by simp; first | done | rfl, ?_⟩
      repeat(first|with_reducible first|refine vmR ?_|refine vmV rfl ?_|refine vmW rfl ?_|refine vmL ?_|refine blockW_y (by decide) ?_|((with_reducible first|apply vmO|apply vmT|apply vmC);case a=>simp;with_reducible first|exact .v|exact .c|exact .t|exact .f))
      (first | apply endW_r | apply endW_n); (case h1 => (simp [Tryz.results99, t2]; first | done | rfl))
      rw [fin]
      refine ⟨⟨rd, by simp [encPt], ?_⟩, ((e0b.trans he).drew).set (Nat.le_refl _) _⟩
      rw [Int.toNat_natCast, ← List.map_drop] at svd
      exact svd
    have q1' : ¬ (dn : Int) = 1 := by omega
    have fin : words b = .error 2 := by
      rw [← hfin, words_zb (fun z => q255 (by rw [hdn, z]; rfl)) (fun z => q1 (by rw [hdn, z]; rfl))]; rfl
    repeat(first|with_reducible first|refine vmR ?_|refine vmV rfl ?_|refine vmW rfl ?_|refine vmL ?_|refine blockW_y (by decide) ?_|((with_reducible first|apply vmO|apply vmT|apply vmC);case a=>simp [t0, t2, t5, t6, c1, i1, l1, n1, qi, qi', ix, qc, w1, qj, qj', jx, q255, q255', q1, q1', hrow];with_reducible first|exact .v|exact .c|exact .t|exact .f))
    (first | apply endW_r | apply endW_n); (case h1 => (simp [Tryz.results99, t2]; first | done | rfl))
    rw [fin]
    exact ⟨by simp [WordR, encPt], (e0b.trans he).set (Nat.le_refl _) _⟩

theorem owords_ans (b : List UInt8) (v : AV) (h0 : Hp Fm) (k : SV 1 (b.map byteAV) v) (hl : b.length ≤ 100000) (hp : h0.pol 5 = false) :
    A Tryz.prog TT (.func 99) [v] h0 (fun r h' => WordR (words b) r ∧ HE h0 h') := by
  apply A_go Tryz.func99 rfl (by rfl); (case hn => (simp [Tryz.ntmps99]; rfl))
  repeat(first|with_reducible first|refine vmR ?_|refine vmV rfl ?_|refine vmW rfl ?_|refine blockW_y (by decide) ?_|((with_reducible first|apply vmO|apply vmT|apply vmC);case a=>simp;with_reducible first|exact .v|exact .c|exact .t|exact .f))
  refine W_label_i (thenW_n ?_)
  refine W_skip_seq (owords_loop b v k hl h0 _ rfl hp _ ⟨_, rfl⟩ _ rfl (b.length + 1) 0 [] _ _ .nils (by omega) (by omega) (by simp) (HE.refl _) (.inl ⟨rfl, rfl⟩) (by simp [cmbW_nil]) ?_ ?_ ?_ ?_)
  all_goals simp
end Go.Vn

set_option maxRecDepth 20000
namespace Go.Vn
open Go.Proofs

@[simp] def encK (p : KP) : AV := encPt p.isT p.num p.txt
theorem etP : ElT Tryz.prog 113 117 3 32 true (.agg [.bool false, .int .i64 0, .str []]) := ⟨Tryz.underlying113, z117, b117, a117, t117, rfl, rfl, (fun h => by cases h), by omega, by omega⟩
def cmbK (done : List KP) : Except Int (List KP) → Except Int (List KP)
  | .ok l => .ok (done ++ l)
  | .error e => .error e
theorem cmbK_nil (x : Except Int (List KP)) : cmbK [] x = x := by cases x <;> rfl
theorem cmbK_cmbK (a b : List KP) (x : Except Int (List KP)) : cmbK a (cmbK b x) = cmbK (a ++ b) x := by
  cases x with
  | error e => rfl
  | ok p => simp [cmbK]
theorem words_err {b : List UInt8} {e : Int} (h : words b = .error e) : e = 2 ∨ e = 3 := by
  suffices H : ∀ n (b : List UInt8), b.length ≤ n → ∀ e, words b = .error e → e = 2 ∨ e = 3 from H _ b (Nat.le_refl _) e h
  intro n
  induction n with
  | zero => intro b hb e h; have : b = [] := List.length_eq_zero_iff.mp (by omega); subst this; rw [words_nil] at h; cases h; exact .inr rfl
  | succ n ih =>
    intro b hb e h
    cases b with
    | nil => rw [words_nil] at h; cases h; exact .inr rfl
    | cons c rest =>
      simp only [List.length_cons] at hb
      by_cases hc : c = 0
      case neg =>
        rw [words_nz hc] at h
        cases hw : words rest with
        | ok p => rw [hw] at h; cases h
        | error e' => rw [hw] at h; cases h; exact ih rest (by omega) _ hw
      subst hc
      cases rest with
      | nil => rw [words_z1] at h; cases h; exact .inr rfl
      | cons d rest =>
        simp only [List.length_cons] at hb
        by_cases h1 : d = 255
        · subst h1
          rw [words_zf] at h
          cases hw : words rest with
          | ok p => rw [hw] at h; cases h
          | error e' => rw [hw] at h; cases h; exact ih rest (by omega) _ hw
        by_cases h2 : d = 1
        · subst h2; rw [words_zo] at h; cases h
        rw [words_zb h1 h2] at h; cases h; exact .inl rfl
theorem readK_nil : readK [] = .ok [] := by rw [readK]
theorem readK_1s {rest : List UInt8} (h : rest.length < 8) : readK (1 :: rest) = .error 3 := by rw [readK]; simp [h]
theorem readK_1 {rest : List UInt8} (h : ¬ rest.length < 8) : readK (1 :: rest) = cmbK [⟨false, (val8 (rest.take 8) : Int) - 9223372036854775808, []⟩] (readK (rest.drop 8)) := by
  rw [readK]; simp only [if_true, if_neg h]
  cases readK (rest.drop 8) <;> rfl
theorem readK_2e {rest : List UInt8} {e : Int} (h : words rest = .error e) : readK (2 :: rest) = .error e := by
  rw [readK, if_neg (by decide), if_pos rfl]
  split
  · rename_i e' hw; rw [h] at hw; cases hw; rfl
  · rename_i s r hw; rw [h] at hw; cases hw
theorem readK_2 {rest s r : List UInt8} (h : words rest = .ok (s, r)) : readK (2 :: rest) = cmbK [⟨true, 0, s⟩] (readK r) := by
  rw [readK, if_neg (by decide), if_pos rfl]
  split
  · rename_i e' hw; rw [h] at hw; cases hw
  · rename_i s' r' hw
    rw [h] at hw; cases hw
    cases readK r <;> rfl
theorem readK_x {c : UInt8} (h1 : c ≠ 1) (h2 : c ≠ 2) (rest : List UInt8) : readK (c :: rest) = .error 2 := by
  rw [readK]; simp [h1, h2]
def ReadR (x : Except Int (List KP)) (r : AV) : Prop := match x with
  | .error e => r = .tup [.nils, .int .i64 e] ∧ e ≠ 0
  | .ok l => ∃ v', r = .tup [v', .int .i64 0] ∧ SV 3 (l.map encK) v'

set_option maxHeartbeats 4000000 in
theorem oread_ans (b : List UInt8) (v : AV) (h0 : Hp Fm) (k : SV 1 (b.map byteAV) v) (hl : b.length ≤ 100000) (hp : ∀ z, h0.pol z = false) :
    A Tryz.prog TT (.func 89) [v] h0 (fun r h' => ReadR (readK b) r ∧ HE h0 h') := by
  apply A_go Tryz.func89 rfl (by rfl); (case hn => (simp [Tryz.ntmps89]; rfl))
  repeat(first|with_reducible first|refine vmR ?_|refine vmV rfl ?_|refine vmW rfl ?_|refine vmL ?_|refine blockW_y (by decide) ?_|((with_reducible first|apply vmO|apply vmT|apply vmC);case a=>simp;with_reducible first|exact .v|exact .c|exact .t|exact .f))
  refine W_loop (fun m s => ∃ (t : Fm AV) (h : Hp Fm) (done : List KP) (cur : List UInt8) (u vc : AV), s = ⟨t, 42, h, none⟩ ∧ m = cur.length ∧ done.length + cur.length ≤ b.length ∧ cmbK done (readK cur) = readK b ∧ tget t 0 = vc ∧ SV 1 (cur.map byteAV) vc ∧ tget t 4 = u ∧ AC h0 h 3 (done.map encK) u ∧ HE h0 h) b.length
    ⟨_, _, [], b, .nils, v, rfl, rfl, by simp, cmbK_nil _, by simp, k, by simp, .inl ⟨rfl, rfl⟩, HE.refl h0⟩ ?_
  rintro m s ⟨t, h, done, cur, u, vc, rfl, rfl, hlen, hfin, t0, kc, t4, hu, he⟩
  have uc := hu.sv.cells
  have ui := hu.sv.isCell
  have c1 := kc.cells
  have i1 := kc.isCell
  have n1 := kc.nm
  have l1 := kc.len Tryz.underlying58
  rw [List.length_map] at l1
  have hph : ∀ z, h.pol z = false := fun z => by rw [he.pol]; exact hp z
  cases cur with
  | nil =>
    repeat(first|with_reducible first|refine vmR ?_|refine vmV rfl ?_|refine vmW rfl ?_|refine vmL ?_|refine blockW_y (by decide) ?_|((with_reducible first|apply vmO|apply vmT|apply vmC);case a=>simp [t0, t4, c1, i1, n1, l1, uc, ui];with_reducible first|exact .v|exact .c|exact .t|exact .f))
    (first | apply endW_r | apply endW_n); (case h1 => (simp [Tryz.results89]; first | done | rfl))
    rw [readK_nil] at hfin
    rw [← hfin]
    exact ⟨⟨u, by simp, by simpa [cmbK] using hu.sv⟩, he⟩
  | cons c rest =>
    obtain ⟨m, hm⟩ : ∃ m, m = rest.length + 1 := ⟨_, rfl⟩
    have l1' : lenAV Tryz.prog 58 vc = some (.int .i64 (m : Int)) := by rw [l1]; simp [hm]
    have hmp : (0 : Int) < m := by omega
    have hmp' : 0 < m := by omega
    have ix := kc.idx (k := .i64) (i := 0) Tryz.underlying58 z5 (by omega) (by simp)
    obtain ⟨cn, hcn⟩ : ∃ cn : Nat, cn = c.toNat := ⟨_, rfl⟩
    replace ix : indexAddrAV Tryz.prog 58 vc (.int .i64 0) = some (.el (.int .u8 (cn : Int)) 0) := by rw [ix]; simp [hcn, byteAV]
    obtain ⟨rd, sd, svd⟩ := kc.drop Tryz.underlying58 z5 (k := .i64) (i := 1) (by omega) (by simp; omega)
    rw [show (1 : Int).toNat = 1 from rfl, ← List.map_drop, List.drop_succ_cons, List.drop_zero] at svd
    have cd := svd.cells
    have id := svd.isCell
    simp only [List.length_cons] at hlen
    repeat(first|with_reducible first|refine vmR ?_|refine vmV rfl ?_|refine vmW rfl ?_|refine vmL ?_|refine blockW_y (by decide) ?_|((with_reducible first|apply vmO|apply vmT|apply vmC);case a=>simp [t0, t4, c1, i1, n1, l1', uc, ui, hmp, hmp'];with_reducible first|exact .v|exact .c|exact .t|exact .f))
    (with_reducible refine W_draw_id (pln := true) [0, 1, 2, 3, 4, 5, 6] [] (by kernel_rfl) rfl ?_)
    repeat(first|with_reducible first|refine vmR ?_|refine vmV rfl ?_|refine vmW rfl ?_|refine vmL ?_|refine blockW_y (by decide) ?_|((with_reducible first|apply vmO|apply vmT|apply vmC);case a=>simp [t0, t4, c1, i1, n1, l1', uc, ui, sd, cd, id];with_reducible first|exact .v|exact .c|exact .t|exact .f))
    refine ⟨by simp [readSame, beqAV_self, t0, t4, c1, i1]; done, _, by simp; first | done | rfl, ?_⟩
    obtain ⟨ha, hha⟩ : ∃ ha : Hp Fm, ha = { h with obj := Mp.set (Mp.set h.obj h.no (.row [.bool false, .int .i64 0, .str []])) h.no (.row [.bool false, .int .i64 0, .str []]), no := h.no + 1, drawn := h.drew.drawn } := ⟨_, rfl⟩
    have ea : HE h ha := by rw [hha]; exact ((HE.refl h).drew.new _).set (Nat.le_refl _) _
    have ga : Mp.get ha.obj h.no = some (.row [.bool false, .int .i64 0, .str []]) := by rw [hha]; simp
    have na : h.no < ha.no := by rw [hha]; show h.no < h.no + 1; omega
    have pa : ∀ z, ha.pol z = false := fun z => by rw [ea.pol]; exact hph z
    rw [← hha]
    by_cases q1 : cn = 1
    · have qc : c = 1 := UInt8.toNat_inj.mp (by rw [← hcn, q1]; rfl)
      subst qc
      have q1' : (cn : Int) = 1 := by omega
      repeat(first|with_reducible first|refine vmR ?_|refine vmV rfl ?_|refine vmW rfl ?_|refine vmL ?_|refine blockW_y (by decide) ?_|((with_reducible first|apply vmO|apply vmT|apply vmC);case a=>simp [t0, t4, c1, i1, n1, ix, q1, q1', cd, id];with_reducible first|exact .v|exact .c|exact .t|exact .f))
      by_cases q8 : rest.length < 8
      · rw [readK_1s q8] at hfin
        refine A.mono (oword_short rest rd ha svd q8) ?_
        rintro _ h1 ⟨rfl, e1⟩
        have g1 : Mp.get h1.obj h.no = some (.row [.bool false, .int .i64 0, .str []]) := (e1.obj _ na).trans ga
        refine ⟨_, by simp; first | done | rfl, ?_⟩
        repeat(first|with_reducible first|refine vmR ?_|refine vmV rfl ?_|refine vmW rfl ?_|refine vmL ?_|refine blockW_y (by decide) ?_|((with_reducible first|apply vmO|apply vmT|apply vmC);case a=>simp [encPt, g1];with_reducible first|exact .v|exact .c|exact .t|exact .f))
        (first | apply endW_r | apply endW_n); (case h1 => (simp [Tryz.results89]; first | done | rfl))
        rw [← hfin]
        exact ⟨⟨by simp, by decide⟩, ((he.trans ea).trans e1).set he.no _⟩
      rw [readK_1 q8, cmbK_cmbK] at hfin
      refine A.mono (oword_ans rest rd ha svd (by omega) (by omega)) ?_
      rintro _ h1 ⟨v', rfl, sv', e1⟩
      obtain ⟨nn, hnn⟩ : ∃ nn : Int, nn = (val8 (rest.take 8) : Int) - 9223372036854775808 := ⟨_, rfl⟩
      rw [← hnn] at hfin ⊢
      have g1 : Mp.get h1.obj h.no = some (.row [.bool false, .int .i64 0, .str []]) := (e1.obj _ na).trans ga
      have cv := sv'.cells
      have iv := sv'.isCell
      have p1 : ∀ z, h1.pol z = false := fun z => by rw [e1.pol]; exact pa z
      have eb := ((ea.trans e1).set (Nat.le_refl _) (.row (encPt (KP.isT ⟨false, nn, []⟩) (KP.num ⟨false, nn, []⟩) (KP.txt ⟨false, nn, []⟩)).cells)).newSl 1
      refine ⟨_, by simp; first | done | rfl, ?_⟩
      repeat(first|with_reducible first|refine vmR ?_|refine vmV rfl ?_|refine vmW rfl ?_|refine vmL ?_|refine blockW_y (by decide) ?_|((with_reducible first|apply vmO|apply vmT|apply vmC);case a=>simp [encPt, g1, cv, iv, t4, uc, ui, newSeq, newSl, p1];with_reducible first|exact .v|exact .c|exact .t|exact .f))
      with_reducible apply WO_app_i; (case hw => (simp [encPt, g1, cv, iv, t4, uc, ui, newSeq, newSl, p1]; done)); (case ho => rfl); (case hb => rfl); (case ha => (simp [encPt, g1, cv, iv, t4, uc, ui, newSeq, newSl, p1]; first | done | exact ⟨rfl, rfl⟩ | rfl)); (case h1 => (simp; first | done | rfl)); (case h2 => (simp; first | done | rfl))
      refine app_then (AC.app (h0 := h0) etP (hu.of eb) (he.trans eb) (hp _) (by simp; omega)) ?_
      rintro x4 h4 ⟨ac4, he4, _, _, _⟩
      have e4 := ac4.sv.cells
      have f4 := ac4.sv.isCell
      refine ⟨_, by simp; first | done | rfl, ?_⟩
      repeat(first|with_reducible first|refine vmR ?_|refine vmV rfl ?_|refine vmW rfl ?_|refine vmL ?_|refine blockW_y (by decide) ?_|((with_reducible first|apply vmO|apply vmT|apply vmC);case a=>simp [t4, e4, f4, cv, iv];with_reducible first|exact .v|exact .c|exact .t|exact .f))
      refine ⟨(rest.drop 8).length, by simp; omega, _, h4, done ++ [⟨false, nn, []⟩], (rest.drop 8), x4, v', rfl, rfl, (by simp at hlen ⊢; omega), hfin, by simp, sv', by simp, ?_, he4⟩
      have : (done ++ [(⟨false, nn, []⟩ : KP)]).map encK = done.map encK ++ [encPt (KP.isT ⟨false, nn, []⟩) (KP.num ⟨false, nn, []⟩) (KP.txt ⟨false, nn, []⟩)] := by simp
      rw [this]; exact ac4
    have q1' : ¬ (cn : Int) = 1 := by omega
    by_cases q2 : cn = 2
    · have qc : c = 2 := UInt8.toNat_inj.mp (by rw [← hcn, q2]; rfl)
      subst qc
      have q2' : (cn : Int) = 2 := by omega
      repeat(first|with_reducible first|refine vmR ?_|refine vmV rfl ?_|refine vmW rfl ?_|refine vmL ?_|refine blockW_y (by decide) ?_|((with_reducible first|apply vmO|apply vmT|apply vmC);case a=>simp [t0, t4, c1, i1, n1, ix, q1, q1', q2, q2', cd, id];with_reducible first|exact .v|exact .c|exact .t|exact .f))
      refine A.mono (owords_ans rest rd ha svd (by omega) (pa _)) ?_
      rintro r0 h1 ⟨hr, e1⟩
      cases hw : words rest with
      | error e =>
        rw [readK_2e hw] at hfin
        rw [hw] at hr
        replace hr : r0 = .tup [encPt false 0 [], .nils, .int .i64 e] := hr
        rw [hr]
        have he0 : e ≠ 0 := by rcases words_err hw with q | q <;> omega
        have g1 : Mp.get h1.obj h.no = some (.row [.bool false, .int .i64 0, .str []]) := (e1.obj _ na).trans ga
        refine ⟨_, by simp; first | done | rfl, ?_⟩
        repeat(first|with_reducible first|refine vmR ?_|refine vmV rfl ?_|refine vmW rfl ?_|refine vmL ?_|refine blockW_y (by decide) ?_|((with_reducible first|apply vmO|apply vmT|apply vmC);case a=>simp [encPt, g1, he0];with_reducible first|exact .v|exact .c|exact .t|exact .f))
        (first | apply endW_r | apply endW_n); (case h1 => (simp [Tryz.results89]; first | done | rfl))
        rw [← hfin]
        exact ⟨⟨by simp, he0⟩, ((he.trans ea).trans e1).set he.no _⟩
      | ok w =>
        obtain ⟨s, rr⟩ := w
        rw [readK_2 hw, cmbK_cmbK] at hfin
        rw [hw] at hr
        obtain ⟨v', rfl, sv'⟩ := hr
        have wl := words_len hw
        have g1 : Mp.get h1.obj h.no = some (.row [.bool false, .int .i64 0, .str []]) := (e1.obj _ na).trans ga
        have cv := sv'.cells
        have iv := sv'.isCell
        have p1 : ∀ z, h1.pol z = false := fun z => by rw [e1.pol]; exact pa z
        have eb := ((ea.trans e1).set (Nat.le_refl _) (.row (encPt (KP.isT ⟨true, 0, s⟩) (KP.num ⟨true, 0, s⟩) (KP.txt ⟨true, 0, s⟩)).cells)).newSl 1
        refine ⟨_, by simp; first | done | rfl, ?_⟩
        repeat(first|with_reducible first|refine vmR ?_|refine vmV rfl ?_|refine vmW rfl ?_|refine vmL ?_|refine blockW_y (by decide) ?_|((with_reducible first|apply vmO|apply vmT|apply vmC);case a=>simp [encPt, g1, cv, iv, t4, uc, ui, newSeq, newSl, p1];with_reducible first|exact .v|exact .c|exact .t|exact .f))
        with_reducible apply WO_app_i; (case hw => (simp [encPt, g1, cv, iv, t4, uc, ui, newSeq, newSl, p1]; done)); (case ho => rfl); (case hb => rfl); (case ha => (simp [encPt, g1, cv, iv, t4, uc, ui, newSeq, newSl, p1]; first | done | exact ⟨rfl, rfl⟩ | rfl)); (case h1 => (simp; first | done | rfl)); (case h2 => (simp; first | done | rfl))
        refine app_then (AC.app (h0 := h0) etP (hu.of eb) (he.trans eb) (hp _) (by simp; omega)) ?_
        rintro x4 h4 ⟨ac4, he4, _, _, _⟩
        have e4 := ac4.sv.cells
        have f4 := ac4.sv.isCell
        refine ⟨_, by simp; first | done | rfl, ?_⟩
        repeat(first|with_reducible first|refine vmR ?_|refine vmV rfl ?_|refine vmW rfl ?_|refine vmL ?_|refine blockW_y (by decide) ?_|((with_reducible first|apply vmO|apply vmT|apply vmC);case a=>simp [t4, e4, f4, cv, iv];with_reducible first|exact .v|exact .c|exact .t|exact .f))
        refine ⟨rr.length, by simp; omega, _, h4, done ++ [⟨true, 0, s⟩], rr, x4, v', rfl, rfl, (by simp at hlen ⊢; omega), hfin, by simp, sv', by simp, ?_, he4⟩
        have : (done ++ [(⟨true, 0, s⟩ : KP)]).map encK = done.map encK ++ [encPt (KP.isT ⟨true, 0, s⟩) (KP.num ⟨true, 0, s⟩) (KP.txt ⟨true, 0, s⟩)] := by simp
        rw [this]; exact ac4
    have q2' : ¬ (cn : Int) = 2 := by omega
    rw [readK_x (fun z => q1 (by rw [hcn, z]; rfl)) (fun z => q2 (by rw [hcn, z]; rfl))] at hfin
    repeat(first|with_reducible first|refine vmR ?_|refine vmV rfl ?_|refine vmW rfl ?_|refine vmL ?_|refine blockW_y (by decide) ?_|((with_reducible first|apply vmO|apply vmT|apply vmC);case a=>simp [t0, t4, c1, i1, n1, ix, q1, q1', q2, q2', cd, id];with_reducible first|exact .v|exact .c|exact .t|exact .f))
    (first | apply endW_r | apply endW_n); (case h1 => (simp [Tryz.results89]; first | done | rfl))
    rw [← hfin]
    exact ⟨⟨by simp, by decide⟩, he.trans ea⟩
end Go.Vn
