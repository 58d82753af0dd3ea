/- What functions of the program come to, in the value machine (a part of the proof of the claim's statement). No condition. -/
import Derived.Test.YtdohdbojlannaaaVnB6
import Derived.Test.YtdohdbojlannaaaProg
import Derived.KernelRfl
set_option linter.unusedSimpArgs false
set_option linter.unusedVariables false
set_option maxRecDepth 20000
namespace Go.Vn
open Go.Proofs

/-- In which functions which slices may be written: heads in Each, versions in Once. -/
def TT : Tab := fun f => match f with
  | 29 => some (· == 67)
  | 41 => some (· == 92)
  | 43 => some (· == 99)
  | 21 => some (· == 43)
  | _ => none

attribute [simp] Try.underlying3
attribute [simp] Try.underlying4
attribute [simp] Try.underlying9
attribute [simp] Try.underlying24
attribute [simp] Try.underlying26
attribute [simp] Try.underlying34
attribute [simp] Try.underlying67
attribute [simp] Try.underlying92
attribute [simp] Try.underlying99
attribute [simp] Try.underlying43
attribute [simp] Try.underlying65
attribute [simp] Try.underlying90
attribute [simp] Try.underlying97
attribute [simp] Try.underlying88
attribute [simp] Try.underlying63
attribute [simp] Try.underlying95
attribute [simp] Try.underlying22
attribute [simp] Try.underlying23
attribute [simp] Try.underlying32
attribute [simp] Try.underlying44
attribute [simp] Try.underlying56
attribute [simp] Try.underlying58
attribute [simp] Try.underlying39
attribute [simp] Try.underlying41
@[simp] theorem z3 : tsize Try.prog 3 = some 1 := by kernel_rfl
@[simp] theorem b3 : tbytes Try.prog 3 = some 8 := by kernel_rfl
@[simp] theorem a3 : tagg Try.prog 3 = some false := by kernel_rfl
@[simp] theorem z4 : tsize Try.prog 4 = some 1 := by kernel_rfl
@[simp] theorem b4 : tbytes Try.prog 4 = some 1 := by kernel_rfl
@[simp] theorem a4 : tagg Try.prog 4 = some false := by kernel_rfl
@[simp] theorem z9 : tsize Try.prog 9 = some 1 := by kernel_rfl
@[simp] theorem b9 : tbytes Try.prog 9 = some 16 := by kernel_rfl
@[simp] theorem a9 : tagg Try.prog 9 = some false := by kernel_rfl
@[simp] theorem z24 : tsize Try.prog 24 = some 1 := by kernel_rfl
@[simp] theorem b24 : tbytes Try.prog 24 = some 24 := by kernel_rfl
@[simp] theorem a24 : tagg Try.prog 24 = some false := by kernel_rfl
@[simp] theorem z26 : tsize Try.prog 26 = some 1 := by kernel_rfl
@[simp] theorem b26 : tbytes Try.prog 26 = some 24 := by kernel_rfl
@[simp] theorem a26 : tagg Try.prog 26 = some false := by kernel_rfl
@[simp] theorem z34 : tsize Try.prog 34 = some 1 := by kernel_rfl
@[simp] theorem b34 : tbytes Try.prog 34 = some 24 := by kernel_rfl
@[simp] theorem a34 : tagg Try.prog 34 = some false := by kernel_rfl
@[simp] theorem z56 : tsize Try.prog 56 = some 1 := by kernel_rfl
@[simp] theorem b56 : tbytes Try.prog 56 = some 8 := by kernel_rfl
@[simp] theorem a56 : tagg Try.prog 56 = some false := by kernel_rfl
@[simp] theorem z44 : tsize Try.prog 44 = some 1 := by kernel_rfl
@[simp] theorem b44 : tbytes Try.prog 44 = some 8 := by kernel_rfl
@[simp] theorem a44 : tagg Try.prog 44 = some false := by kernel_rfl
@[simp] theorem z58 : tsize Try.prog 58 = some 1 := by kernel_rfl
@[simp] theorem b58 : tbytes Try.prog 58 = some 8 := by kernel_rfl
@[simp] theorem a58 : tagg Try.prog 58 = some false := by kernel_rfl
@[simp] theorem z63 : tsize Try.prog 63 = some 1 := by kernel_rfl
@[simp] theorem b63 : tbytes Try.prog 63 = some 24 := by kernel_rfl
@[simp] theorem a63 : tagg Try.prog 63 = some false := by kernel_rfl
@[simp] theorem z88 : tsize Try.prog 88 = some 1 := by kernel_rfl
@[simp] theorem b88 : tbytes Try.prog 88 = some 24 := by kernel_rfl
@[simp] theorem a88 : tagg Try.prog 88 = some false := by kernel_rfl
@[simp] theorem z95 : tsize Try.prog 95 = some 1 := by kernel_rfl
@[simp] theorem b95 : tbytes Try.prog 95 = some 24 := by kernel_rfl
@[simp] theorem a95 : tagg Try.prog 95 = some false := by kernel_rfl
@[simp] theorem z92 : tsize Try.prog 92 = some 2 := by kernel_rfl
@[simp] theorem b92 : tbytes Try.prog 92 = some 32 := by kernel_rfl
@[simp] theorem a92 : tagg Try.prog 92 = some true := by kernel_rfl
@[simp] theorem z67 : tsize Try.prog 67 = some 2 := by kernel_rfl
@[simp] theorem b67 : tbytes Try.prog 67 = some 32 := by kernel_rfl
@[simp] theorem a67 : tagg Try.prog 67 = some true := by kernel_rfl
@[simp] theorem z99 : tsize Try.prog 99 = some 2 := by kernel_rfl
@[simp] theorem b99 : tbytes Try.prog 99 = some 32 := by kernel_rfl
@[simp] theorem a99 : tagg Try.prog 99 = some true := by kernel_rfl
@[simp] theorem z65 : tsize Try.prog 65 = some 2 := by kernel_rfl
@[simp] theorem b65 : tbytes Try.prog 65 = some 32 := by kernel_rfl
@[simp] theorem a65 : tagg Try.prog 65 = some true := by kernel_rfl
@[simp] theorem z90 : tsize Try.prog 90 = some 2 := by kernel_rfl
@[simp] theorem b90 : tbytes Try.prog 90 = some 32 := by kernel_rfl
@[simp] theorem a90 : tagg Try.prog 90 = some true := by kernel_rfl
@[simp] theorem z97 : tsize Try.prog 97 = some 2 := by kernel_rfl
@[simp] theorem b97 : tbytes Try.prog 97 = some 32 := by kernel_rfl
@[simp] theorem a97 : tagg Try.prog 97 = some true := by kernel_rfl
@[simp] theorem z43 : tsize Try.prog 43 = some 8 := by kernel_rfl
@[simp] theorem b43 : tbytes Try.prog 43 = some 80 := by kernel_rfl
@[simp] theorem a43 : tagg Try.prog 43 = some true := by kernel_rfl
@[simp] theorem z39 : tsize Try.prog 39 = some 3 := by kernel_rfl
@[simp] theorem b39 : tbytes Try.prog 39 = some 24 := by kernel_rfl
@[simp] theorem a39 : tagg Try.prog 39 = some true := by kernel_rfl
@[simp] theorem z41 : tsize Try.prog 41 = some 2 := by kernel_rfl
@[simp] theorem b41 : tbytes Try.prog 41 = some 16 := by kernel_rfl
@[simp] theorem a41 : tagg Try.prog 41 = some true := by kernel_rfl

@[simp] theorem t92 : tzero Try.prog 92 = some (.agg [.nils, .int .i64 0]) := by kernel_rfl
@[simp] theorem t67 : tzero Try.prog 67 = some (.agg [.nils, .int .i64 0]) := by kernel_rfl
@[simp] theorem t99 : tzero Try.prog 99 = some (.agg [.nils, .int .i64 0]) := by kernel_rfl
@[simp] theorem t24 : tzero Try.prog 24 = some .nils := by kernel_rfl
@[simp] theorem t26 : tzero Try.prog 26 = some .nils := by kernel_rfl
@[simp] theorem t34 : tzero Try.prog 34 = some .nils := by kernel_rfl
@[simp] theorem t3 : tzero Try.prog 3 = some (.int .i64 0) := by kernel_rfl
@[simp] theorem t9 : tzero Try.prog 9 = some (.str []) := by kernel_rfl
@[simp] theorem t43 : tzero Try.prog 43 = some (.agg [.str [], .int .i64 0, .int .i64 0, .int .i64 0, .int .i64 0, .int .i64 0, .str [], .bool false]) := by kernel_rfl
end Go.Vn

set_option maxRecDepth 20000
namespace Go.Vn
open Go.Proofs

@[simp] theorem index_rs {P : Program} {t e o sz n cap : Nat} {ag : Bool} {k : IntKind} {i : Int} (hu : P.underlying t = some (.slice e)) (hs : tsize P e = some sz) (h0 : 0 ≤ i) (h1 : i < n) : indexAddrAV P t (.rs o 0 sz ag n cap) (.int k i) = some (.ptr o (i.toNat * sz)) := by
  simp [indexAddrAV, hu, hs, h0, h1]
@[simp] theorem len_rs {P : Program} {t e o off sz n cap : Nat} {ag : Bool} (hu : P.underlying t = some (.slice e)) : lenAV P t (.rs o off sz ag n cap) = some (.int .i64 n) := by
  simp [lenAV, hu]
@[simp] theorem take_rs {P : Program} {t e o off sz n cap : Nat} {ag : Bool} {k : IntKind} {i : Int} (hu : P.underlying t = some (.slice e)) (hs : tsize P e = some sz) (h0 : 0 ≤ i) (h1 : i ≤ n) (h2 : n ≤ cap) : sliceAV P t (.rs o off sz ag n cap) none (some (.int k i)) none = some (.rs o off sz ag i.toNat cap) := by
  have : i ≤ cap := by omega
  simp [sliceAV, hu, hs, obound, bound, h0, this]

theorem SV.isCell {sz : Nat} {xs : List AV} {v : AV} (k : SV sz xs v) : v.isCell = true := by
  rcases k with ⟨rfl, _⟩ | ⟨_, _, _, rfl⟩ | ⟨_, rfl, _⟩ <;> rfl
theorem SV.cells {sz : Nat} {xs : List AV} {v : AV} (k : SV sz xs v) : v.cells = [v] := by
  rcases k with ⟨rfl, _⟩ | ⟨_, _, _, rfl⟩ | ⟨_, rfl, _⟩ <;> rfl

theorem wrap64 {n : Int} (h0 : -9223372036854775808 ≤ n) (h1 : n ≤ 9223372036854775807) : IntKind.i64.wrap n = n := by
  simp only [IntKind.wrap, IntKind.signed, IntKind.bits]
  simp
  split <;> omega

@[simp] theorem wrap_l0 : IntKind.i64.wrap 0 = 0 := by rfl
@[simp] theorem wrap_l1 : IntKind.i64.wrap 1 = 1 := by rfl
@[simp] theorem wrap_l2 : IntKind.i64.wrap 2 = 2 := by rfl
@[simp] theorem wrap_l3 : IntKind.i64.wrap 3 = 3 := by rfl
@[simp] theorem wrap_l4 : IntKind.i64.wrap 4 = 4 := by rfl
@[simp] theorem wrap_l5 : IntKind.i64.wrap 5 = 5 := by rfl
@[simp] theorem wrap_l6 : IntKind.i64.wrap 6 = 6 := by rfl
@[simp] theorem wrap_l7 : IntKind.i64.wrap 7 = 7 := by rfl
@[simp] theorem wrap_l8 : IntKind.i64.wrap 8 = 8 := by rfl
@[simp] theorem wrap_l9 : IntKind.i64.wrap 9 = 9 := by rfl
@[simp] theorem wrap_l10 : IntKind.i64.wrap 10 = 10 := by rfl
@[simp] theorem wrap_l11 : IntKind.i64.wrap 11 = 11 := by rfl
@[simp] theorem wrap_l12 : IntKind.i64.wrap 12 = 12 := by rfl
@[simp] theorem wrap_l13 : IntKind.i64.wrap 13 = 13 := by rfl
@[simp] theorem wrap_l14 : IntKind.i64.wrap 14 = 14 := by rfl
@[simp] theorem wrap_l15 : IntKind.i64.wrap 15 = 15 := by rfl
@[simp] theorem wrap_l16 : IntKind.i64.wrap 16 = 16 := by rfl
@[simp] theorem wrap_l17 : IntKind.i64.wrap 17 = 17 := by rfl
@[simp] theorem wrap_l18 : IntKind.i64.wrap 18 = 18 := by rfl
@[simp] theorem wrap_l19 : IntKind.i64.wrap 19 = 19 := by rfl
@[simp] theorem wrap_l20 : IntKind.i64.wrap 20 = 20 := by rfl
@[simp] theorem wrap_l21 : IntKind.i64.wrap 21 = 21 := by rfl
@[simp] theorem wrap_l22 : IntKind.i64.wrap 22 = 22 := by rfl
@[simp] theorem wrap_l23 : IntKind.i64.wrap 23 = 23 := by rfl
@[simp] theorem wrap_l24 : IntKind.i64.wrap 24 = 24 := by rfl
@[simp] theorem wrap_l25 : IntKind.i64.wrap 25 = 25 := by rfl
@[simp] theorem wrap_l26 : IntKind.i64.wrap 26 = 26 := by rfl
@[simp] theorem wrap_l27 : IntKind.i64.wrap 27 = 27 := by rfl
@[simp] theorem wrap_l28 : IntKind.i64.wrap 28 = 28 := by rfl
@[simp] theorem wrap_l29 : IntKind.i64.wrap 29 = 29 := by rfl
@[simp] theorem wrap_l30 : IntKind.i64.wrap 30 = 30 := by rfl
@[simp] theorem wrap_l31 : IntKind.i64.wrap 31 = 31 := by rfl
@[simp] theorem wrap_l32 : IntKind.i64.wrap 32 = 32 := by rfl

/-- A head: what is left of a list, and which one it is. -/
structure Hd (E : Type) where
  s : AV
  xs : List E
  w : Nat

@[simp] def Hd.cells {E : Type} (x : Hd E) : List AV := [x.s, .int .i64 x.w]

/-- The cells of a row of heads, and what lies behind them. -/
def hrow {E : Type} (L : List (Hd E)) (J : List AV) : List AV := L.flatMap Hd.cells ++ J

theorem hcells_length {E : Type} (L : List (Hd E)) : (L.flatMap Hd.cells).length = L.length * 2 := by
  induction L with
  | nil => rfl
  | cons a l ih => rw [List.flatMap_cons, List.length_append, ih]; simp only [Hd.cells, List.length_cons, List.length_nil]; omega

theorem hrow_length {E : Type} (L : List (Hd E)) (J : List AV) : (hrow L J).length = L.length * 2 + J.length := by rw [hrow, List.length_append, hcells_length]

theorem hrow_drop {E : Type} {L : List (Hd E)} {J : List AV} {i : Nat} : (h : i < L.length) → (hrow L J).drop (i * 2) = L[i].s :: .int .i64 L[i].w :: hrow (L.drop (i + 1)) J := by
  intro h
  unfold hrow
  induction L generalizing i with
  | nil => simp at h
  | cons a l ih =>
    cases i with
    | zero => simp
    | succ i =>
      have := ih (i := i) (by simpa using h)
      simp only [List.flatMap_cons, Hd.cells, List.cons_append, List.nil_append, List.drop_succ_cons, List.getElem_cons_succ, show (i + 1) * 2 = i * 2 + 1 + 1 by omega]
      exact this

@[simp 10000] theorem part_hrow {E : Type} {L : List (Hd E)} {J : List AV} {i : Nat} (h : i < L.length) : partAV true 2 (hrow L J) (i * 2) = some (.agg [L[i].s, .int .i64 L[i].w]) := by
  have h1 : i * 2 + 2 ≤ (hrow L J).length := by rw [hrow_length]; omega
  rw [partAV, if_pos rfl, if_pos h1, hrow_drop h]; rfl

@[simp 10000] theorem part_hrow_s {E : Type} {L : List (Hd E)} {J : List AV} {i : Nat} (h : i < L.length) : partAV false 1 (hrow L J) (i * 2) = some L[i].s := by
  have := hrow_drop (J := J) h
  have h2 : ((hrow L J).drop (i * 2))[0]? = some L[i].s := by rw [this]; rfl
  rw [partAV, if_neg (by simp), ← h2, List.getElem?_drop]; simp

theorem take_hrow {E : Type} {L : List (Hd E)} {J : List AV} {i : Nat} (h : i ≤ L.length) : (hrow L J).take (i * 2) = (L.take i).flatMap Hd.cells := by
  unfold hrow
  induction L generalizing i with
  | nil => have : i = 0 := by simpa using h
           subst this; simp
  | cons a l ih =>
    cases i with
    | zero => simp
    | succ i =>
      have := ih (i := i) (by simpa using h)
      simp only [List.flatMap_cons, Hd.cells, List.cons_append, List.nil_append, List.take_succ_cons, show (i + 1) * 2 = i * 2 + 1 + 1 by omega]
      rw [this]

@[simp 10000] theorem splice_hrow {E : Type} {L : List (Hd E)} {J : List AV} {i : Nat} (h : i < L.length) (x : Hd E) : splice (hrow L J) (i * 2) [x.s, .int .i64 x.w] = hrow (L.set i x) J := by
  have h1 := hrow_drop (J := J) h
  have h2 : (hrow L J).drop (i * 2 + [x.s, .int .i64 x.w].length) = hrow (L.drop (i + 1)) J := by
    rw [← List.drop_drop, h1]; rfl
  unfold splice
  rw [h2, take_hrow (by omega), List.set_eq_take_append_cons_drop, if_pos h]
  simp [hrow, List.append_assoc]

theorem splice_hrow_s {E : Type} {L : List (Hd E)} {J : List AV} {i : Nat} (h : i < L.length) (s : AV) (xs : List E) : splice (hrow L J) (i * 2) [s] = hrow (L.set i ⟨s, xs, L[i].w⟩) J := by
  have h1 := hrow_drop (J := J) h
  have h2 : (hrow L J).drop (i * 2 + [s].length) = .int .i64 L[i].w :: hrow (L.drop (i + 1)) J := by
    rw [← List.drop_drop, h1]; rfl
  unfold splice
  rw [h2, take_hrow (by omega), List.set_eq_take_append_cons_drop, if_pos h]
  simp [hrow, List.append_assoc]

attribute [simp] hrow_length
/-- The heads' object: its slice, how it is ordered, and the row of heads. -/
structure HH {E : Type} (F : AV) (p o : Nat) (h : Hp Fm) (L : List (Hd E)) : Prop where
  hp : ∃ cap, Mp.get h.obj p = some (.row [.rs o 0 2 true L.length cap, F]) ∧ L.length ≤ cap
  ho : ∃ J, Mp.get h.obj o = some (.row (hrow L J))
  ne : p ≠ o
  pn : p < h.no
  on : o < h.no
  sm : L.length < 2147483648

def swapL {α : Type} (L : List α) (i j : Nat) : List α := match L[i]?, L[j]? with
  | some a, some b => (L.set i b).set j a
  | _, _ => L
end Go.Vn

set_option maxRecDepth 20000
namespace Go.Vn
open Go.Proofs

@[simp] theorem hb36 : hasBody Try.prog 36 = true := by kernel_rfl
@[simp] theorem hb38 : hasBody Try.prog 38 = true := by kernel_rfl
@[simp] theorem hb24 : hasBody Try.prog 24 = true := by kernel_rfl
@[simp] theorem hb26 : hasBody Try.prog 26 = true := by kernel_rfl

def cmpI (a b : Int) : Int := if a < b then -1 else if a > b then 1 else 0

theorem isNaN_int (a : Int) (h : Hp Fm) : A Try.prog TT (.func 36) [.int .i64 a] h (fun r h' => r = .bool false ∧ h' = h) := by
  apply A_go Try.func36 rfl (by rfl); (case hn => (simp [Try.ntmps36]; rfl))
  repeat (first | (with_reducible first | refine W_seq_i ?_ | refine W_block_i ?_ | refine W_region_i ?_ | refine W_skip_i ?_ | refine W_label_i ?_ | refine W_ret_i ?_ | refine W_exit_i ?_ | refine W_goto_i ?_ | refine W_scope_go ?_ | refine jumpW_r ?_ | refine jumpW_n ?_ | refine jumpW_x ?_ | refine blockW_g ?_ | refine thenW_n ?_ | refine blockW_n ?_ | refine blockW_x ?_ | refine blockW_y (by decide) ?_ | refine blockW_r ?_ | refine thenW_e (by simp; done) ?_ | refine WO_nil_i ?_ | refine WT_nil_i ?_) | (with_reducible apply W_cond_t; (case h => (simp; done))) | (with_reducible apply W_cond_f; (case h => (simp; done))) | ((with_reducible first | apply WO_val_i | apply WT_val_i); (case hw => (simp; done)); (case he => (simp; first | done | exact ⟨rfl, rfl⟩ | rfl)); (case hp => (simp; first | done | rfl))) | ((with_reducible first | apply WO_no_i | apply WT_no_i); (case hw => (simp; done)); (case hp => (simp; first | done | rfl))) | ((with_reducible first | apply WO_skip_i | apply WT_skip_i); (case hw => (simp; done)); (case he => (simp; first | done | rfl)); (case hp => (simp; first | done | rfl))) | ((with_reducible first | apply WO_call_i | apply WT_call_i); (case hw => (simp; done)); (case he => (simp; first | done | exact ⟨rfl, rfl, rfl⟩ | rfl))))
  (first | apply endW_r | apply endW_n); (case h1 => (simp [Try.results36]; first | done | rfl))
  simp

theorem compare_int (a b : Int) (h : Hp Fm) : A Try.prog TT (.func 24) [.int .i64 a, .int .i64 b] h (fun r h' => r = .int .i64 (cmpI a b) ∧ h' = h) := by
  apply A_go Try.func24 rfl (by rfl); (case hn => (simp [Try.ntmps24]; rfl))
  repeat (first | (with_reducible first | refine W_seq_i ?_ | refine W_block_i ?_ | refine W_region_i ?_ | refine W_skip_i ?_ | refine W_label_i ?_ | refine W_ret_i ?_ | refine W_exit_i ?_ | refine W_goto_i ?_ | refine W_scope_go ?_ | refine jumpW_r ?_ | refine jumpW_n ?_ | refine jumpW_x ?_ | refine blockW_g ?_ | refine thenW_n ?_ | refine blockW_n ?_ | refine blockW_x ?_ | refine blockW_y (by decide) ?_ | refine blockW_r ?_ | refine thenW_e (by simp; done) ?_ | refine WO_nil_i ?_ | refine WT_nil_i ?_) | (with_reducible apply W_cond_t; (case h => (simp; done))) | (with_reducible apply W_cond_f; (case h => (simp; done))) | ((with_reducible first | apply WO_val_i | apply WT_val_i); (case hw => (simp; done)); (case he => (simp; first | done | exact ⟨rfl, rfl⟩ | rfl)); (case hp => (simp; first | done | rfl))) | ((with_reducible first | apply WO_no_i | apply WT_no_i); (case hw => (simp; done)); (case hp => (simp; first | done | rfl))) | ((with_reducible first | apply WO_skip_i | apply WT_skip_i); (case hw => (simp; done)); (case he => (simp; first | done | rfl)); (case hp => (simp; first | done | rfl))) | ((with_reducible first | apply WO_call_i | apply WT_call_i); (case hw => (simp; done)); (case he => (simp; first | done | exact ⟨rfl, rfl, rfl⟩ | rfl))))
  refine A.mono (isNaN_int a _) ?_; rintro _ hh ⟨rfl, rfl⟩; refine ⟨_, by simp; first | done | rfl, ?_⟩
  repeat (first | (with_reducible first | refine W_seq_i ?_ | refine W_block_i ?_ | refine W_region_i ?_ | refine W_skip_i ?_ | refine W_label_i ?_ | refine W_ret_i ?_ | refine W_exit_i ?_ | refine W_goto_i ?_ | refine W_scope_go ?_ | refine jumpW_r ?_ | refine jumpW_n ?_ | refine jumpW_x ?_ | refine blockW_g ?_ | refine thenW_n ?_ | refine blockW_n ?_ | refine blockW_x ?_ | refine blockW_y (by decide) ?_ | refine blockW_r ?_ | refine thenW_e (by simp; done) ?_ | refine WO_nil_i ?_ | refine WT_nil_i ?_) | (with_reducible apply W_cond_t; (case h => (simp; done))) | (with_reducible apply W_cond_f; (case h => (simp; done))) | ((with_reducible first | apply WO_val_i | apply WT_val_i); (case hw => (simp; done)); (case he => (simp; first | done | exact ⟨rfl, rfl⟩ | rfl)); (case hp => (simp; first | done | rfl))) | ((with_reducible first | apply WO_no_i | apply WT_no_i); (case hw => (simp; done)); (case hp => (simp; first | done | rfl))) | ((with_reducible first | apply WO_skip_i | apply WT_skip_i); (case hw => (simp; done)); (case he => (simp; first | done | rfl)); (case hp => (simp; first | done | rfl))) | ((with_reducible first | apply WO_call_i | apply WT_call_i); (case hw => (simp; done)); (case he => (simp; first | done | exact ⟨rfl, rfl, rfl⟩ | rfl))))
  refine A.mono (isNaN_int b _) ?_; rintro _ hh ⟨rfl, rfl⟩; refine ⟨_, by simp; first | done | rfl, ?_⟩
  by_cases h0 : a < b
  · repeat (first | (with_reducible first | refine W_seq_i ?_ | refine W_block_i ?_ | refine W_region_i ?_ | refine W_skip_i ?_ | refine W_label_i ?_ | refine W_ret_i ?_ | refine W_exit_i ?_ | refine W_goto_i ?_ | refine W_scope_go ?_ | refine jumpW_r ?_ | refine jumpW_n ?_ | refine jumpW_x ?_ | refine blockW_g ?_ | refine thenW_n ?_ | refine blockW_n ?_ | refine blockW_x ?_ | refine blockW_y (by decide) ?_ | refine blockW_r ?_ | refine thenW_e (by simp; done) ?_ | refine WO_nil_i ?_ | refine WT_nil_i ?_) | (with_reducible apply W_cond_t; (case h => (simp [h0]; done))) | (with_reducible apply W_cond_f; (case h => (simp [h0]; done))) | ((with_reducible first | apply WO_val_i | apply WT_val_i); (case hw => (simp [h0]; done)); (case he => (simp [h0]; first | done | exact ⟨rfl, rfl⟩ | rfl)); (case hp => (simp [h0]; first | done | rfl))) | ((with_reducible first | apply WO_no_i | apply WT_no_i); (case hw => (simp [h0]; done)); (case hp => (simp [h0]; first | done | rfl))) | ((with_reducible first | apply WO_skip_i | apply WT_skip_i); (case hw => (simp [h0]; done)); (case he => (simp [h0]; first | done | rfl)); (case hp => (simp [h0]; first | done | rfl))) | ((with_reducible first | apply WO_call_i | apply WT_call_i); (case hw => (simp [h0]; done)); (case he => (simp [h0]; first | done | exact ⟨rfl, rfl, rfl⟩ | rfl))))
    (first | apply endW_r | apply endW_n); (case h1 => (simp [Try.results24]; first | done | rfl))
    simp [cmpI, h0]
  · by_cases h1 : b < a
    · repeat (first | (with_reducible first | refine W_seq_i ?_ | refine W_block_i ?_ | refine W_region_i ?_ | refine W_skip_i ?_ | refine W_label_i ?_ | refine W_ret_i ?_ | refine W_exit_i ?_ | refine W_goto_i ?_ | refine W_scope_go ?_ | refine jumpW_r ?_ | refine jumpW_n ?_ | refine jumpW_x ?_ | refine blockW_g ?_ | refine thenW_n ?_ | refine blockW_n ?_ | refine blockW_x ?_ | refine blockW_y (by decide) ?_ | refine blockW_r ?_ | refine thenW_e (by simp; done) ?_ | refine WO_nil_i ?_ | refine WT_nil_i ?_) | (with_reducible apply W_cond_t; (case h => (simp [h0, h1]; done))) | (with_reducible apply W_cond_f; (case h => (simp [h0, h1]; done))) | ((with_reducible first | apply WO_val_i | apply WT_val_i); (case hw => (simp [h0, h1]; done)); (case he => (simp [h0, h1]; first | done | exact ⟨rfl, rfl⟩ | rfl)); (case hp => (simp [h0, h1]; first | done | rfl))) | ((with_reducible first | apply WO_no_i | apply WT_no_i); (case hw => (simp [h0, h1]; done)); (case hp => (simp [h0, h1]; first | done | rfl))) | ((with_reducible first | apply WO_skip_i | apply WT_skip_i); (case hw => (simp [h0, h1]; done)); (case he => (simp [h0, h1]; first | done | rfl)); (case hp => (simp [h0, h1]; first | done | rfl))) | ((with_reducible first | apply WO_call_i | apply WT_call_i); (case hw => (simp [h0, h1]; done)); (case he => (simp [h0, h1]; first | done | exact ⟨rfl, rfl, rfl⟩ | rfl))))
      (first | apply endW_r | apply endW_n); (case h1 => (simp [Try.results24]; first | done | rfl))
      simp [cmpI, h0, h1]
    · repeat (first | (with_reducible first | refine W_seq_i ?_ | refine W_block_i ?_ | refine W_region_i ?_ | refine W_skip_i ?_ | refine W_label_i ?_ | refine W_ret_i ?_ | refine W_exit_i ?_ | refine W_goto_i ?_ | refine W_scope_go ?_ | refine jumpW_r ?_ | refine jumpW_n ?_ | refine jumpW_x ?_ | refine blockW_g ?_ | refine thenW_n ?_ | refine blockW_n ?_ | refine blockW_x ?_ | refine blockW_y (by decide) ?_ | refine blockW_r ?_ | refine thenW_e (by simp; done) ?_ | refine WO_nil_i ?_ | refine WT_nil_i ?_) | (with_reducible apply W_cond_t; (case h => (simp [h0, h1]; done))) | (with_reducible apply W_cond_f; (case h => (simp [h0, h1]; done))) | ((with_reducible first | apply WO_val_i | apply WT_val_i); (case hw => (simp [h0, h1]; done)); (case he => (simp [h0, h1]; first | done | exact ⟨rfl, rfl⟩ | rfl)); (case hp => (simp [h0, h1]; first | done | rfl))) | ((with_reducible first | apply WO_no_i | apply WT_no_i); (case hw => (simp [h0, h1]; done)); (case hp => (simp [h0, h1]; first | done | rfl))) | ((with_reducible first | apply WO_skip_i | apply WT_skip_i); (case hw => (simp [h0, h1]; done)); (case he => (simp [h0, h1]; first | done | rfl)); (case hp => (simp [h0, h1]; first | done | rfl))) | ((with_reducible first | apply WO_call_i | apply WT_call_i); (case hw => (simp [h0, h1]; done)); (case he => (simp [h0, h1]; first | done | exact ⟨rfl, rfl, rfl⟩ | rfl))))
      (first | apply endW_r | apply endW_n); (case h1 => (simp [Try.results24]; first | done | rfl))
      simp [cmpI, h0, h1]
end Go.Vn

set_option maxRecDepth 20000
namespace Go.Vn
open Go.Proofs

@[simp] def encI (n : Int) : AV := .int .i64 n
@[simp] def encS (s : List UInt8) : AV := .str s
/-- A version. -/
structure Ver where
  key : List UInt8
  br : Int
  ep : Int
  sq : Int
  fr : Int
  to : Int
  val : List UInt8
  gone : Bool
deriving Inhabited, DecidableEq
@[simp] def encV (v : Ver) : AV := .agg [.str v.key, .int .i64 v.br, .int .i64 v.ep, .int .i64 v.sq, .int .i64 v.fr, .int .i64 v.to, .str v.val, .bool v.gone]

/-- A thing's own order. -/
def Cmp (E : Type) (enc : E → AV) (F : AV) (c : E → E → Int) : Prop := ∃ f, F = .fn (.func f) [] [] ∧ hasBody Try.prog f = true ∧ ∀ a b h, h.pol 3 = false → A Try.prog TT (.func f) [enc a, enc b] h (fun r h' => r = .int .i64 (c a b) ∧ HE h h')

def lessH {E : Type} [Inhabited E] (c : E → E → Int) (a b : Hd E) : Bool := if c a.xs.head! b.xs.head! ≠ 0 then decide (c a.xs.head! b.xs.head! < 0) else decide (a.w < b.w)

theorem head_bang {E : Type} [Inhabited E] {l : List E} (h : l ≠ []) : l[0]'(List.length_pos_iff.2 h) = l.head! := by
  cases l with
  | nil => exact (h rfl).elim
  | cons a l => rfl

theorem swapL_eq {α : Type} {L : List α} {i j : Nat} (hi : i < L.length) (hj : j < L.length) : swapL L i j = (L.set i L[j]).set j L[i] := by
  simp [swapL, hi, hj]

end Go.Vn

set_option maxRecDepth 20000
namespace Go.Vn
open Go.Proofs

def cmpS (a b : List UInt8) : Int := if ltB a b then -1 else if ltB a b || eqB a b then 0 else 1

theorem isNaN_str (a : List UInt8) (h : Hp Fm) : A Try.prog TT (.func 38) [.str a] h (fun r h' => r = .bool false ∧ h' = h) := by
  apply A_go Try.func38 rfl (by rfl); (case hn => (simp [Try.ntmps38]; rfl))
  repeat (first | (with_reducible first | refine W_seq_i ?_ | refine W_block_i ?_ | refine W_region_i ?_ | refine W_skip_i ?_ | refine W_label_i ?_ | refine W_ret_i ?_ | refine W_exit_i ?_ | refine W_goto_i ?_ | refine W_scope_go ?_ | refine jumpW_r ?_ | refine jumpW_n ?_ | refine jumpW_x ?_ | refine blockW_g ?_ | refine thenW_n ?_ | refine blockW_n ?_ | refine blockW_x ?_ | refine blockW_y (by decide) ?_ | refine blockW_r ?_ | refine thenW_e (by simp; done) ?_ | refine WO_nil_i ?_ | refine WT_nil_i ?_) | (with_reducible apply W_cond_t; (case h => (simp [eqB_self]; done))) | (with_reducible apply W_cond_f; (case h => (simp [eqB_self]; done))) | ((with_reducible first | apply WO_val_i | apply WT_val_i); (case hw => (simp [eqB_self]; done)); (case he => (simp [eqB_self]; first | done | exact ⟨rfl, rfl⟩ | rfl)); (case hp => (simp [eqB_self]; first | done | rfl))) | ((with_reducible first | apply WO_no_i | apply WT_no_i); (case hw => (simp [eqB_self]; done)); (case hp => (simp [eqB_self]; first | done | rfl))) | ((with_reducible first | apply WO_skip_i | apply WT_skip_i); (case hw => (simp [eqB_self]; done)); (case he => (simp [eqB_self]; first | done | rfl)); (case hp => (simp [eqB_self]; first | done | rfl))) | ((with_reducible first | apply WO_call_i | apply WT_call_i); (case hw => (simp [eqB_self]; done)); (case he => (simp [eqB_self]; first | done | exact ⟨rfl, rfl, rfl⟩ | rfl))))
  (first | apply endW_r | apply endW_n); (case h1 => (simp [Try.results38]; first | done | rfl))
  simp

theorem compare_str (a b : List UInt8) (h : Hp Fm) : A Try.prog TT (.func 26) [.str a, .str b] h (fun r h' => r = .int .i64 (cmpS a b) ∧ h' = h) := by
  apply A_go Try.func26 rfl (by rfl); (case hn => (simp [Try.ntmps26]; rfl))
  repeat (first | (with_reducible first | refine W_seq_i ?_ | refine W_block_i ?_ | refine W_region_i ?_ | refine W_skip_i ?_ | refine W_label_i ?_ | refine W_ret_i ?_ | refine W_exit_i ?_ | refine W_goto_i ?_ | refine W_scope_go ?_ | refine jumpW_r ?_ | refine jumpW_n ?_ | refine jumpW_x ?_ | refine blockW_g ?_ | refine thenW_n ?_ | refine blockW_n ?_ | refine blockW_x ?_ | refine blockW_y (by decide) ?_ | refine blockW_r ?_ | refine thenW_e (by simp; done) ?_ | refine WO_nil_i ?_ | refine WT_nil_i ?_) | (with_reducible apply W_cond_t; (case h => (simp; done))) | (with_reducible apply W_cond_f; (case h => (simp; done))) | ((with_reducible first | apply WO_val_i | apply WT_val_i); (case hw => (simp; done)); (case he => (simp; first | done | exact ⟨rfl, rfl⟩ | rfl)); (case hp => (simp; first | done | rfl))) | ((with_reducible first | apply WO_no_i | apply WT_no_i); (case hw => (simp; done)); (case hp => (simp; first | done | rfl))) | ((with_reducible first | apply WO_skip_i | apply WT_skip_i); (case hw => (simp; done)); (case he => (simp; first | done | rfl)); (case hp => (simp; first | done | rfl))) | ((with_reducible first | apply WO_call_i | apply WT_call_i); (case hw => (simp; done)); (case he => (simp; first | done | exact ⟨rfl, rfl, rfl⟩ | rfl))))
  refine A.mono (isNaN_str a _) ?_; rintro _ hh ⟨rfl, rfl⟩; refine ⟨_, by simp; first | done | rfl, ?_⟩
  repeat (first | (with_reducible first | refine W_seq_i ?_ | refine W_block_i ?_ | refine W_region_i ?_ | refine W_skip_i ?_ | refine W_label_i ?_ | refine W_ret_i ?_ | refine W_exit_i ?_ | refine W_goto_i ?_ | refine W_scope_go ?_ | refine jumpW_r ?_ | refine jumpW_n ?_ | refine jumpW_x ?_ | refine blockW_g ?_ | refine thenW_n ?_ | refine blockW_n ?_ | refine blockW_x ?_ | refine blockW_y (by decide) ?_ | refine blockW_r ?_ | refine thenW_e (by simp; done) ?_ | refine WO_nil_i ?_ | refine WT_nil_i ?_) | (with_reducible apply W_cond_t; (case h => (simp; done))) | (with_reducible apply W_cond_f; (case h => (simp; done))) | ((with_reducible first | apply WO_val_i | apply WT_val_i); (case hw => (simp; done)); (case he => (simp; first | done | exact ⟨rfl, rfl⟩ | rfl)); (case hp => (simp; first | done | rfl))) | ((with_reducible first | apply WO_no_i | apply WT_no_i); (case hw => (simp; done)); (case hp => (simp; first | done | rfl))) | ((with_reducible first | apply WO_skip_i | apply WT_skip_i); (case hw => (simp; done)); (case he => (simp; first | done | rfl)); (case hp => (simp; first | done | rfl))) | ((with_reducible first | apply WO_call_i | apply WT_call_i); (case hw => (simp; done)); (case he => (simp; first | done | exact ⟨rfl, rfl, rfl⟩ | rfl))))
  refine A.mono (isNaN_str b _) ?_; rintro _ hh ⟨rfl, rfl⟩; refine ⟨_, by simp; first | done | rfl, ?_⟩
  cases h0 : ltB a b
  · cases h1 : eqB a b
    · repeat (first | (with_reducible first | refine W_seq_i ?_ | refine W_block_i ?_ | refine W_region_i ?_ | refine W_skip_i ?_ | refine W_label_i ?_ | refine W_ret_i ?_ | refine W_exit_i ?_ | refine W_goto_i ?_ | refine W_scope_go ?_ | refine jumpW_r ?_ | refine jumpW_n ?_ | refine jumpW_x ?_ | refine blockW_g ?_ | refine thenW_n ?_ | refine blockW_n ?_ | refine blockW_x ?_ | refine blockW_y (by decide) ?_ | refine blockW_r ?_ | refine thenW_e (by simp; done) ?_ | refine WO_nil_i ?_ | refine WT_nil_i ?_) | (with_reducible apply W_cond_t; (case h => (simp [h0, h1]; done))) | (with_reducible apply W_cond_f; (case h => (simp [h0, h1]; done))) | ((with_reducible first | apply WO_val_i | apply WT_val_i); (case hw => (simp [h0, h1]; done)); (case he => (simp [h0, h1]; first | done | exact ⟨rfl, rfl⟩ | rfl)); (case hp => (simp [h0, h1]; first | done | rfl))) | ((with_reducible first | apply WO_no_i | apply WT_no_i); (case hw => (simp [h0, h1]; done)); (case hp => (simp [h0, h1]; first | done | rfl))) | ((with_reducible first | apply WO_skip_i | apply WT_skip_i); (case hw => (simp [h0, h1]; done)); (case he => (simp [h0, h1]; first | done | rfl)); (case hp => (simp [h0, h1]; first | done | rfl))) | ((with_reducible first | apply WO_call_i | apply WT_call_i); (case hw => (simp [h0, h1]; done)); (case he => (simp [h0, h1]; first | done | exact ⟨rfl, rfl, rfl⟩ | rfl))))
      (first | apply endW_r | apply endW_n); (case h1 => (simp [Try.results26]; first | done | rfl))
      simp [cmpS, h0, h1]
    · repeat (first | (with_reducible first | refine W_seq_i ?_ | refine W_block_i ?_ | refine W_region_i ?_ | refine W_skip_i ?_ | refine W_label_i ?_ | refine W_ret_i ?_ | refine W_exit_i ?_ | refine W_goto_i ?_ | refine W_scope_go ?_ | refine jumpW_r ?_ | refine jumpW_n ?_ | refine jumpW_x ?_ | refine blockW_g ?_ | refine thenW_n ?_ | refine blockW_n ?_ | refine blockW_x ?_ | refine blockW_y (by decide) ?_ | refine blockW_r ?_ | refine thenW_e (by simp; done) ?_ | refine WO_nil_i ?_ | refine WT_nil_i ?_) | (with_reducible apply W_cond_t; (case h => (simp [h0, h1]; done))) | (with_reducible apply W_cond_f; (case h => (simp [h0, h1]; done))) | ((with_reducible first | apply WO_val_i | apply WT_val_i); (case hw => (simp [h0, h1]; done)); (case he => (simp [h0, h1]; first | done | exact ⟨rfl, rfl⟩ | rfl)); (case hp => (simp [h0, h1]; first | done | rfl))) | ((with_reducible first | apply WO_no_i | apply WT_no_i); (case hw => (simp [h0, h1]; done)); (case hp => (simp [h0, h1]; first | done | rfl))) | ((with_reducible first | apply WO_skip_i | apply WT_skip_i); (case hw => (simp [h0, h1]; done)); (case he => (simp [h0, h1]; first | done | rfl)); (case hp => (simp [h0, h1]; first | done | rfl))) | ((with_reducible first | apply WO_call_i | apply WT_call_i); (case hw => (simp [h0, h1]; done)); (case he => (simp [h0, h1]; first | done | exact ⟨rfl, rfl, rfl⟩ | rfl))))
      (first | apply endW_r | apply endW_n); (case h1 => (simp [Try.results26]; first | done | rfl))
      simp [cmpS, h0, h1]
  · repeat (first | (with_reducible first | refine W_seq_i ?_ | refine W_block_i ?_ | refine W_region_i ?_ | refine W_skip_i ?_ | refine W_label_i ?_ | refine W_ret_i ?_ | refine W_exit_i ?_ | refine W_goto_i ?_ | refine W_scope_go ?_ | refine jumpW_r ?_ | refine jumpW_n ?_ | refine jumpW_x ?_ | refine blockW_g ?_ | refine thenW_n ?_ | refine blockW_n ?_ | refine blockW_x ?_ | refine blockW_y (by decide) ?_ | refine blockW_r ?_ | refine thenW_e (by simp; done) ?_ | refine WO_nil_i ?_ | refine WT_nil_i ?_) | (with_reducible apply W_cond_t; (case h => (simp [h0]; done))) | (with_reducible apply W_cond_f; (case h => (simp [h0]; done))) | ((with_reducible first | apply WO_val_i | apply WT_val_i); (case hw => (simp [h0]; done)); (case he => (simp [h0]; first | done | exact ⟨rfl, rfl⟩ | rfl)); (case hp => (simp [h0]; first | done | rfl))) | ((with_reducible first | apply WO_no_i | apply WT_no_i); (case hw => (simp [h0]; done)); (case hp => (simp [h0]; first | done | rfl))) | ((with_reducible first | apply WO_skip_i | apply WT_skip_i); (case hw => (simp [h0]; done)); (case he => (simp [h0]; first | done | rfl)); (case hp => (simp [h0]; first | done | rfl))) | ((with_reducible first | apply WO_call_i | apply WT_call_i); (case hw => (simp [h0]; done)); (case he => (simp [h0]; first | done | exact ⟨rfl, rfl, rfl⟩ | rfl))))
    (first | apply endW_r | apply endW_n); (case h1 => (simp [Try.results26]; first | done | rfl))
    simp [cmpS, h0]

@[simp] theorem hb28 : hasBody Try.prog 28 = true := by kernel_rfl
@[simp] theorem hb18 : hasBody Try.prog 18 = true := by kernel_rfl

/-- The first that is not 0. -/
def first5 (a b c d e : Int) : Int := if a ≠ 0 then a else if b ≠ 0 then b else if c ≠ 0 then c else if d ≠ 0 then d else e

theorem first_ans (a b c d e : Int) (g off cap : Nat) (h : Hp Fm) : A Try.prog TT (.func 28) [.sl g off 1 cap [.int .i64 a, .int .i64 b, .int .i64 c, .int .i64 d, .int .i64 e]] h (fun r h' => r = .int .i64 (first5 a b c d e) ∧ h' = h) := by
  apply A_go Try.func28 rfl (by rfl); (case hn => (simp [Try.ntmps28]; rfl))
  repeat (first | (with_reducible first | refine W_seq_i ?_ | refine W_block_i ?_ | refine W_region_i ?_ | refine W_skip_i ?_ | refine W_label_i ?_ | refine W_ret_i ?_ | refine W_exit_i ?_ | refine W_goto_i ?_ | refine W_scope_go ?_ | refine jumpW_r ?_ | refine jumpW_n ?_ | refine jumpW_x ?_ | refine blockW_g ?_ | refine thenW_n ?_ | refine blockW_n ?_ | refine blockW_x ?_ | refine blockW_y (by decide) ?_ | refine blockW_r ?_ | refine thenW_e (by simp; done) ?_ | refine WO_nil_i ?_ | refine WT_nil_i ?_) | (with_reducible apply W_cond_t; (case h => (simp [lenAV, indexAddrAV]; done))) | (with_reducible apply W_cond_f; (case h => (simp [lenAV, indexAddrAV]; done))) | ((with_reducible first | apply WO_val_i | apply WT_val_i); (case hw => (simp [lenAV, indexAddrAV]; done)); (case he => (simp [lenAV, indexAddrAV]; first | done | exact ⟨rfl, rfl⟩ | rfl)); (case hp => (simp [lenAV, indexAddrAV]; first | done | rfl))) | ((with_reducible first | apply WO_no_i | apply WT_no_i); (case hw => (simp [lenAV, indexAddrAV]; done)); (case hp => (simp [lenAV, indexAddrAV]; first | done | rfl))) | ((with_reducible first | apply WO_skip_i | apply WT_skip_i); (case hw => (simp [lenAV, indexAddrAV]; done)); (case he => (simp [lenAV, indexAddrAV]; first | done | rfl)); (case hp => (simp [lenAV, indexAddrAV]; first | done | rfl))) | ((with_reducible first | apply WO_call_i | apply WT_call_i); (case hw => (simp [lenAV, indexAddrAV]; done)); (case he => (simp [lenAV, indexAddrAV]; first | done | exact ⟨rfl, rfl, rfl⟩ | rfl))))
  refine W_loop_i ?_
  by_cases q0 : a = 0
  case neg =>
    repeat (first | (with_reducible first | refine W_seq_i ?_ | refine W_block_i ?_ | refine W_region_i ?_ | refine W_skip_i ?_ | refine W_label_i ?_ | refine W_ret_i ?_ | refine W_exit_i ?_ | refine W_goto_i ?_ | refine W_scope_go ?_ | refine jumpW_r ?_ | refine jumpW_n ?_ | refine jumpW_x ?_ | refine blockW_g ?_ | refine thenW_n ?_ | refine blockW_n ?_ | refine blockW_x ?_ | refine blockW_y (by decide) ?_ | refine blockW_r ?_ | refine thenW_e (by simp; done) ?_ | refine WO_nil_i ?_ | refine WT_nil_i ?_) | (with_reducible apply W_cond_t; (case h => (simp [lenAV, indexAddrAV, q0]; done))) | (with_reducible apply W_cond_f; (case h => (simp [lenAV, indexAddrAV, q0]; done))) | ((with_reducible first | apply WO_val_i | apply WT_val_i); (case hw => (simp [lenAV, indexAddrAV, q0]; done)); (case he => (simp [lenAV, indexAddrAV, q0]; first | done | exact ⟨rfl, rfl⟩ | rfl)); (case hp => (simp [lenAV, indexAddrAV, q0]; first | done | rfl))) | ((with_reducible first | apply WO_no_i | apply WT_no_i); (case hw => (simp [lenAV, indexAddrAV, q0]; done)); (case hp => (simp [lenAV, indexAddrAV, q0]; first | done | rfl))) | ((with_reducible first | apply WO_skip_i | apply WT_skip_i); (case hw => (simp [lenAV, indexAddrAV, q0]; done)); (case he => (simp [lenAV, indexAddrAV, q0]; first | done | rfl)); (case hp => (simp [lenAV, indexAddrAV, q0]; first | done | rfl))) | ((with_reducible first | apply WO_call_i | apply WT_call_i); (case hw => (simp [lenAV, indexAddrAV, q0]; done)); (case he => (simp [lenAV, indexAddrAV, q0]; first | done | exact ⟨rfl, rfl, rfl⟩ | rfl))))
    (first | apply endW_r | apply endW_n); (case h1 => (simp [Try.results28]; first | done | rfl))
    simp [first5, q0]
  repeat (first | (with_reducible first | refine W_seq_i ?_ | refine W_block_i ?_ | refine W_region_i ?_ | refine W_skip_i ?_ | refine W_label_i ?_ | refine W_ret_i ?_ | refine W_exit_i ?_ | refine W_goto_i ?_ | refine W_scope_go ?_ | refine jumpW_r ?_ | refine jumpW_n ?_ | refine jumpW_x ?_ | refine blockW_g ?_ | refine thenW_n ?_ | refine blockW_n ?_ | refine blockW_x ?_ | refine blockW_y (by decide) ?_ | refine blockW_r ?_ | refine thenW_e (by simp; done) ?_ | refine WO_nil_i ?_ | refine WT_nil_i ?_) | (with_reducible apply W_cond_t; (case h => (simp [lenAV, indexAddrAV, q0]; done))) | (with_reducible apply W_cond_f; (case h => (simp [lenAV, indexAddrAV, q0]; done))) | ((with_reducible first | apply WO_val_i | apply WT_val_i); (case hw => (simp [lenAV, indexAddrAV, q0]; done)); (case he => (simp [lenAV, indexAddrAV, q0]; first | done | exact ⟨rfl, rfl⟩ | rfl)); (case hp => (simp [lenAV, indexAddrAV, q0]; first | done | rfl))) | ((with_reducible first | apply WO_no_i | apply WT_no_i); (case hw => (simp [lenAV, indexAddrAV, q0]; done)); (case hp => (simp [lenAV, indexAddrAV, q0]; first | done | rfl))) | ((with_reducible first | apply WO_skip_i | apply WT_skip_i); (case hw => (simp [lenAV, indexAddrAV, q0]; done)); (case he => (simp [lenAV, indexAddrAV, q0]; first | done | rfl)); (case hp => (simp [lenAV, indexAddrAV, q0]; first | done | rfl))) | ((with_reducible first | apply WO_call_i | apply WT_call_i); (case hw => (simp [lenAV, indexAddrAV, q0]; done)); (case he => (simp [lenAV, indexAddrAV, q0]; first | done | exact ⟨rfl, rfl, rfl⟩ | rfl))))
  refine W_loop_i ?_
  by_cases q1 : b = 0
  case neg =>
    repeat (first | (with_reducible first | refine W_seq_i ?_ | refine W_block_i ?_ | refine W_region_i ?_ | refine W_skip_i ?_ | refine W_label_i ?_ | refine W_ret_i ?_ | refine W_exit_i ?_ | refine W_goto_i ?_ | refine W_scope_go ?_ | refine jumpW_r ?_ | refine jumpW_n ?_ | refine jumpW_x ?_ | refine blockW_g ?_ | refine thenW_n ?_ | refine blockW_n ?_ | refine blockW_x ?_ | refine blockW_y (by decide) ?_ | refine blockW_r ?_ | refine thenW_e (by simp; done) ?_ | refine WO_nil_i ?_ | refine WT_nil_i ?_) | (with_reducible apply W_cond_t; (case h => (simp [lenAV, indexAddrAV, q1]; done))) | (with_reducible apply W_cond_f; (case h => (simp [lenAV, indexAddrAV, q1]; done))) | ((with_reducible first | apply WO_val_i | apply WT_val_i); (case hw => (simp [lenAV, indexAddrAV, q1]; done)); (case he => (simp [lenAV, indexAddrAV, q1]; first | done | exact ⟨rfl, rfl⟩ | rfl)); (case hp => (simp [lenAV, indexAddrAV, q1]; first | done | rfl))) | ((with_reducible first | apply WO_no_i | apply WT_no_i); (case hw => (simp [lenAV, indexAddrAV, q1]; done)); (case hp => (simp [lenAV, indexAddrAV, q1]; first | done | rfl))) | ((with_reducible first | apply WO_skip_i | apply WT_skip_i); (case hw => (simp [lenAV, indexAddrAV, q1]; done)); (case he => (simp [lenAV, indexAddrAV, q1]; first | done | rfl)); (case hp => (simp [lenAV, indexAddrAV, q1]; first | done | rfl))) | ((with_reducible first | apply WO_call_i | apply WT_call_i); (case hw => (simp [lenAV, indexAddrAV, q1]; done)); (case he => (simp [lenAV, indexAddrAV, q1]; first | done | exact ⟨rfl, rfl, rfl⟩ | rfl))))
    (first | apply endW_r | apply endW_n); (case h1 => (simp [Try.results28]; first | done | rfl))
    simp [first5, q0, q1]
  repeat (first | (with_reducible first | refine W_seq_i ?_ | refine W_block_i ?_ | refine W_region_i ?_ | refine W_skip_i ?_ | refine W_label_i ?_ | refine W_ret_i ?_ | refine W_exit_i ?_ | refine W_goto_i ?_ | refine W_scope_go ?_ | refine jumpW_r ?_ | refine jumpW_n ?_ | refine jumpW_x ?_ | refine blockW_g ?_ | refine thenW_n ?_ | refine blockW_n ?_ | refine blockW_x ?_ | refine blockW_y (by decide) ?_ | refine blockW_r ?_ | refine thenW_e (by simp; done) ?_ | refine WO_nil_i ?_ | refine WT_nil_i ?_) | (with_reducible apply W_cond_t; (case h => (simp [lenAV, indexAddrAV, q1]; done))) | (with_reducible apply W_cond_f; (case h => (simp [lenAV, indexAddrAV, q1]; done))) | ((with_reducible first | apply WO_val_i | apply WT_val_i); (case hw => (simp [lenAV, indexAddrAV, q1]; done)); (case he => (simp [lenAV, indexAddrAV, q1]; first | done | exact ⟨rfl, rfl⟩ | rfl)); (case hp => (simp [lenAV, indexAddrAV, q1]; first | done | rfl))) | ((with_reducible first | apply WO_no_i | apply WT_no_i); (case hw => (simp [lenAV, indexAddrAV, q1]; done)); (case hp => (simp [lenAV, indexAddrAV, q1]; first | done | rfl))) | ((with_reducible first | apply WO_skip_i | apply WT_skip_i); (case hw => (simp [lenAV, indexAddrAV, q1]; done)); (case he => (simp [lenAV, indexAddrAV, q1]; first | done | rfl)); (case hp => (simp [lenAV, indexAddrAV, q1]; first | done | rfl))) | ((with_reducible first | apply WO_call_i | apply WT_call_i); (case hw => (simp [lenAV, indexAddrAV, q1]; done)); (case he => (simp [lenAV, indexAddrAV, q1]; first | done | exact ⟨rfl, rfl, rfl⟩ | rfl))))
  refine W_loop_i ?_
  by_cases q2 : c = 0
  case neg =>
    repeat (first | (with_reducible first | refine W_seq_i ?_ | refine W_block_i ?_ | refine W_region_i ?_ | refine W_skip_i ?_ | refine W_label_i ?_ | refine W_ret_i ?_ | refine W_exit_i ?_ | refine W_goto_i ?_ | refine W_scope_go ?_ | refine jumpW_r ?_ | refine jumpW_n ?_ | refine jumpW_x ?_ | refine blockW_g ?_ | refine thenW_n ?_ | refine blockW_n ?_ | refine blockW_x ?_ | refine blockW_y (by decide) ?_ | refine blockW_r ?_ | refine thenW_e (by simp; done) ?_ | refine WO_nil_i ?_ | refine WT_nil_i ?_) | (with_reducible apply W_cond_t; (case h => (simp [lenAV, indexAddrAV, q2]; done))) | (with_reducible apply W_cond_f; (case h => (simp [lenAV, indexAddrAV, q2]; done))) | ((with_reducible first | apply WO_val_i | apply WT_val_i); (case hw => (simp [lenAV, indexAddrAV, q2]; done)); (case he => (simp [lenAV, indexAddrAV, q2]; first | done | exact ⟨rfl, rfl⟩ | rfl)); (case hp => (simp [lenAV, indexAddrAV, q2]; first | done | rfl))) | ((with_reducible first | apply WO_no_i | apply WT_no_i); (case hw => (simp [lenAV, indexAddrAV, q2]; done)); (case hp => (simp [lenAV, indexAddrAV, q2]; first | done | rfl))) | ((with_reducible first | apply WO_skip_i | apply WT_skip_i); (case hw => (simp [lenAV, indexAddrAV, q2]; done)); (case he => (simp [lenAV, indexAddrAV, q2]; first | done | rfl)); (case hp => (simp [lenAV, indexAddrAV, q2]; first | done | rfl))) | ((with_reducible first | apply WO_call_i | apply WT_call_i); (case hw => (simp [lenAV, indexAddrAV, q2]; done)); (case he => (simp [lenAV, indexAddrAV, q2]; first | done | exact ⟨rfl, rfl, rfl⟩ | rfl))))
    (first | apply endW_r | apply endW_n); (case h1 => (simp [Try.results28]; first | done | rfl))
    simp [first5, q0, q1, q2]
  repeat (first | (with_reducible first | refine W_seq_i ?_ | refine W_block_i ?_ | refine W_region_i ?_ | refine W_skip_i ?_ | refine W_label_i ?_ | refine W_ret_i ?_ | refine W_exit_i ?_ | refine W_goto_i ?_ | refine W_scope_go ?_ | refine jumpW_r ?_ | refine jumpW_n ?_ | refine jumpW_x ?_ | refine blockW_g ?_ | refine thenW_n ?_ | refine blockW_n ?_ | refine blockW_x ?_ | refine blockW_y (by decide) ?_ | refine blockW_r ?_ | refine thenW_e (by simp; done) ?_ | refine WO_nil_i ?_ | refine WT_nil_i ?_) | (with_reducible apply W_cond_t; (case h => (simp [lenAV, indexAddrAV, q2]; done))) | (with_reducible apply W_cond_f; (case h => (simp [lenAV, indexAddrAV, q2]; done))) | ((with_reducible first | apply WO_val_i | apply WT_val_i); (case hw => (simp [lenAV, indexAddrAV, q2]; done)); (case he => (simp [lenAV, indexAddrAV, q2]; first | done | exact ⟨rfl, rfl⟩ | rfl)); (case hp => (simp [lenAV, indexAddrAV, q2]; first | done | rfl))) | ((with_reducible first | apply WO_no_i | apply WT_no_i); (case hw => (simp [lenAV, indexAddrAV, q2]; done)); (case hp => (simp [lenAV, indexAddrAV, q2]; first | done | rfl))) | ((with_reducible first | apply WO_skip_i | apply WT_skip_i); (case hw => (simp [lenAV, indexAddrAV, q2]; done)); (case he => (simp [lenAV, indexAddrAV, q2]; first | done | rfl)); (case hp => (simp [lenAV, indexAddrAV, q2]; first | done | rfl))) | ((with_reducible first | apply WO_call_i | apply WT_call_i); (case hw => (simp [lenAV, indexAddrAV, q2]; done)); (case he => (simp [lenAV, indexAddrAV, q2]; first | done | exact ⟨rfl, rfl, rfl⟩ | rfl))))
  refine W_loop_i ?_
  by_cases q3 : d = 0
  case neg =>
    repeat (first | (with_reducible first | refine W_seq_i ?_ | refine W_block_i ?_ | refine W_region_i ?_ | refine W_skip_i ?_ | refine W_label_i ?_ | refine W_ret_i ?_ | refine W_exit_i ?_ | refine W_goto_i ?_ | refine W_scope_go ?_ | refine jumpW_r ?_ | refine jumpW_n ?_ | refine jumpW_x ?_ | refine blockW_g ?_ | refine thenW_n ?_ | refine blockW_n ?_ | refine blockW_x ?_ | refine blockW_y (by decide) ?_ | refine blockW_r ?_ | refine thenW_e (by simp; done) ?_ | refine WO_nil_i ?_ | refine WT_nil_i ?_) | (with_reducible apply W_cond_t; (case h => (simp [lenAV, indexAddrAV, q3]; done))) | (with_reducible apply W_cond_f; (case h => (simp [lenAV, indexAddrAV, q3]; done))) | ((with_reducible first | apply WO_val_i | apply WT_val_i); (case hw => (simp [lenAV, indexAddrAV, q3]; done)); (case he => (simp [lenAV, indexAddrAV, q3]; first | done | exact ⟨rfl, rfl⟩ | rfl)); (case hp => (simp [lenAV, indexAddrAV, q3]; first | done | rfl))) | ((with_reducible first | apply WO_no_i | apply WT_no_i); (case hw => (simp [lenAV, indexAddrAV, q3]; done)); (case hp => (simp [lenAV, indexAddrAV, q3]; first | done | rfl))) | ((with_reducible first | apply WO_skip_i | apply WT_skip_i); (case hw => (simp [lenAV, indexAddrAV, q3]; done)); (case he => (simp [lenAV, indexAddrAV, q3]; first | done | rfl)); (case hp => (simp [lenAV, indexAddrAV, q3]; first | done | rfl))) | ((with_reducible first | apply WO_call_i | apply WT_call_i); (case hw => (simp [lenAV, indexAddrAV, q3]; done)); (case he => (simp [lenAV, indexAddrAV, q3]; first | done | exact ⟨rfl, rfl, rfl⟩ | rfl))))
    (first | apply endW_r | apply endW_n); (case h1 => (simp [Try.results28]; first | done | rfl))
    simp [first5, q0, q1, q2, q3]
  repeat (first | (with_reducible first | refine W_seq_i ?_ | refine W_block_i ?_ | refine W_region_i ?_ | refine W_skip_i ?_ | refine W_label_i ?_ | refine W_ret_i ?_ | refine W_exit_i ?_ | refine W_goto_i ?_ | refine W_scope_go ?_ | refine jumpW_r ?_ | refine jumpW_n ?_ | refine jumpW_x ?_ | refine blockW_g ?_ | refine thenW_n ?_ | refine blockW_n ?_ | refine blockW_x ?_ | refine blockW_y (by decide) ?_ | refine blockW_r ?_ | refine thenW_e (by simp; done) ?_ | refine WO_nil_i ?_ | refine WT_nil_i ?_) | (with_reducible apply W_cond_t; (case h => (simp [lenAV, indexAddrAV, q3]; done))) | (with_reducible apply W_cond_f; (case h => (simp [lenAV, indexAddrAV, q3]; done))) | ((with_reducible first | apply WO_val_i | apply WT_val_i); (case hw => (simp [lenAV, indexAddrAV, q3]; done)); (case he => (simp [lenAV, indexAddrAV, q3]; first | done | exact ⟨rfl, rfl⟩ | rfl)); (case hp => (simp [lenAV, indexAddrAV, q3]; first | done | rfl))) | ((with_reducible first | apply WO_no_i | apply WT_no_i); (case hw => (simp [lenAV, indexAddrAV, q3]; done)); (case hp => (simp [lenAV, indexAddrAV, q3]; first | done | rfl))) | ((with_reducible first | apply WO_skip_i | apply WT_skip_i); (case hw => (simp [lenAV, indexAddrAV, q3]; done)); (case he => (simp [lenAV, indexAddrAV, q3]; first | done | rfl)); (case hp => (simp [lenAV, indexAddrAV, q3]; first | done | rfl))) | ((with_reducible first | apply WO_call_i | apply WT_call_i); (case hw => (simp [lenAV, indexAddrAV, q3]; done)); (case he => (simp [lenAV, indexAddrAV, q3]; first | done | exact ⟨rfl, rfl, rfl⟩ | rfl))))
  refine W_loop_i ?_
  by_cases q4 : e = 0
  case neg =>
    repeat (first | (with_reducible first | refine W_seq_i ?_ | refine W_block_i ?_ | refine W_region_i ?_ | refine W_skip_i ?_ | refine W_label_i ?_ | refine W_ret_i ?_ | refine W_exit_i ?_ | refine W_goto_i ?_ | refine W_scope_go ?_ | refine jumpW_r ?_ | refine jumpW_n ?_ | refine jumpW_x ?_ | refine blockW_g ?_ | refine thenW_n ?_ | refine blockW_n ?_ | refine blockW_x ?_ | refine blockW_y (by decide) ?_ | refine blockW_r ?_ | refine thenW_e (by simp; done) ?_ | refine WO_nil_i ?_ | refine WT_nil_i ?_) | (with_reducible apply W_cond_t; (case h => (simp [lenAV, indexAddrAV, q4]; done))) | (with_reducible apply W_cond_f; (case h => (simp [lenAV, indexAddrAV, q4]; done))) | ((with_reducible first | apply WO_val_i | apply WT_val_i); (case hw => (simp [lenAV, indexAddrAV, q4]; done)); (case he => (simp [lenAV, indexAddrAV, q4]; first | done | exact ⟨rfl, rfl⟩ | rfl)); (case hp => (simp [lenAV, indexAddrAV, q4]; first | done | rfl))) | ((with_reducible first | apply WO_no_i | apply WT_no_i); (case hw => (simp [lenAV, indexAddrAV, q4]; done)); (case hp => (simp [lenAV, indexAddrAV, q4]; first | done | rfl))) | ((with_reducible first | apply WO_skip_i | apply WT_skip_i); (case hw => (simp [lenAV, indexAddrAV, q4]; done)); (case he => (simp [lenAV, indexAddrAV, q4]; first | done | rfl)); (case hp => (simp [lenAV, indexAddrAV, q4]; first | done | rfl))) | ((with_reducible first | apply WO_call_i | apply WT_call_i); (case hw => (simp [lenAV, indexAddrAV, q4]; done)); (case he => (simp [lenAV, indexAddrAV, q4]; first | done | exact ⟨rfl, rfl, rfl⟩ | rfl))))
    (first | apply endW_r | apply endW_n); (case h1 => (simp [Try.results28]; first | done | rfl))
    simp [first5, q0, q1, q2, q3, q4]
  repeat (first | (with_reducible first | refine W_seq_i ?_ | refine W_block_i ?_ | refine W_region_i ?_ | refine W_skip_i ?_ | refine W_label_i ?_ | refine W_ret_i ?_ | refine W_exit_i ?_ | refine W_goto_i ?_ | refine W_scope_go ?_ | refine jumpW_r ?_ | refine jumpW_n ?_ | refine jumpW_x ?_ | refine blockW_g ?_ | refine thenW_n ?_ | refine blockW_n ?_ | refine blockW_x ?_ | refine blockW_y (by decide) ?_ | refine blockW_r ?_ | refine thenW_e (by simp; done) ?_ | refine WO_nil_i ?_ | refine WT_nil_i ?_) | (with_reducible apply W_cond_t; (case h => (simp [lenAV, indexAddrAV, q4]; done))) | (with_reducible apply W_cond_f; (case h => (simp [lenAV, indexAddrAV, q4]; done))) | ((with_reducible first | apply WO_val_i | apply WT_val_i); (case hw => (simp [lenAV, indexAddrAV, q4]; done)); (case he => (simp [lenAV, indexAddrAV, q4]; first | done | exact ⟨rfl, rfl⟩ | rfl)); (case hp => (simp [lenAV, indexAddrAV, q4]; first | done | rfl))) | ((with_reducible first | apply WO_no_i | apply WT_no_i); (case hw => (simp [lenAV, indexAddrAV, q4]; done)); (case hp => (simp [lenAV, indexAddrAV, q4]; first | done | rfl))) | ((with_reducible first | apply WO_skip_i | apply WT_skip_i); (case hw => (simp [lenAV, indexAddrAV, q4]; done)); (case he => (simp [lenAV, indexAddrAV, q4]; first | done | rfl)); (case hp => (simp [lenAV, indexAddrAV, q4]; first | done | rfl))) | ((with_reducible first | apply WO_call_i | apply WT_call_i); (case hw => (simp [lenAV, indexAddrAV, q4]; done)); (case he => (simp [lenAV, indexAddrAV, q4]; first | done | exact ⟨rfl, rfl, rfl⟩ | rfl))))
  refine W_loop_i ?_
  repeat (first | (with_reducible first | refine W_seq_i ?_ | refine W_block_i ?_ | refine W_region_i ?_ | refine W_skip_i ?_ | refine W_label_i ?_ | refine W_ret_i ?_ | refine W_exit_i ?_ | refine W_goto_i ?_ | refine W_scope_go ?_ | refine jumpW_r ?_ | refine jumpW_n ?_ | refine jumpW_x ?_ | refine blockW_g ?_ | refine thenW_n ?_ | refine blockW_n ?_ | refine blockW_x ?_ | refine blockW_y (by decide) ?_ | refine blockW_r ?_ | refine thenW_e (by simp; done) ?_ | refine WO_nil_i ?_ | refine WT_nil_i ?_) | (with_reducible apply W_cond_t; (case h => (simp [lenAV, indexAddrAV]; done))) | (with_reducible apply W_cond_f; (case h => (simp [lenAV, indexAddrAV]; done))) | ((with_reducible first | apply WO_val_i | apply WT_val_i); (case hw => (simp [lenAV, indexAddrAV]; done)); (case he => (simp [lenAV, indexAddrAV]; first | done | exact ⟨rfl, rfl⟩ | rfl)); (case hp => (simp [lenAV, indexAddrAV]; first | done | rfl))) | ((with_reducible first | apply WO_no_i | apply WT_no_i); (case hw => (simp [lenAV, indexAddrAV]; done)); (case hp => (simp [lenAV, indexAddrAV]; first | done | rfl))) | ((with_reducible first | apply WO_skip_i | apply WT_skip_i); (case hw => (simp [lenAV, indexAddrAV]; done)); (case he => (simp [lenAV, indexAddrAV]; first | done | rfl)); (case hp => (simp [lenAV, indexAddrAV]; first | done | rfl))) | ((with_reducible first | apply WO_call_i | apply WT_call_i); (case hw => (simp [lenAV, indexAddrAV]; done)); (case he => (simp [lenAV, indexAddrAV]; first | done | exact ⟨rfl, rfl, rfl⟩ | rfl))))
  (first | apply endW_r | apply endW_n); (case h1 => (simp [Try.results28]; first | done | rfl))
  simp [first5, q0, q1, q2, q3, q4]

def cmpV (a b : Ver) : Int := first5 (cmpS a.key b.key) (cmpI a.br b.br) (cmpI a.ep b.ep) (cmpI a.sq b.sq) (cmpI a.fr b.fr)

theorem compare_ver (a b : Ver) (h : Hp Fm) (hpol : h.pol 3 = false) : A Try.prog TT (.func 18) [encV a, encV b] h (fun r h' => r = .int .i64 (cmpV a b) ∧ HE h h') := by
  apply A_go Try.func18 rfl (by rfl); (case hn => (simp [Try.ntmps18]; rfl))
  repeat (first | (with_reducible first | refine W_seq_i ?_ | refine W_block_i ?_ | refine W_region_i ?_ | refine W_skip_i ?_ | refine W_label_i ?_ | refine W_ret_i ?_ | refine W_exit_i ?_ | refine W_goto_i ?_ | refine W_scope_go ?_ | refine jumpW_r ?_ | refine jumpW_n ?_ | refine jumpW_x ?_ | refine blockW_g ?_ | refine thenW_n ?_ | refine blockW_n ?_ | refine blockW_x ?_ | refine blockW_y (by decide) ?_ | refine blockW_r ?_ | refine thenW_e (by simp; done) ?_ | refine WO_nil_i ?_ | refine WT_nil_i ?_) | (with_reducible apply W_cond_t; (case h => (simp [hpol, newSeq, newSl]; done))) | (with_reducible apply W_cond_f; (case h => (simp [hpol, newSeq, newSl]; done))) | ((with_reducible first | apply WO_val_i | apply WT_val_i); (case hw => (simp [hpol, newSeq, newSl]; done)); (case he => (simp [hpol, newSeq, newSl]; first | done | exact ⟨rfl, rfl⟩ | rfl)); (case hp => (simp [hpol, newSeq, newSl]; first | done | rfl))) | ((with_reducible first | apply WO_no_i | apply WT_no_i); (case hw => (simp [hpol, newSeq, newSl]; done)); (case hp => (simp [hpol, newSeq, newSl]; first | done | rfl))) | ((with_reducible first | apply WO_skip_i | apply WT_skip_i); (case hw => (simp [hpol, newSeq, newSl]; done)); (case he => (simp [hpol, newSeq, newSl]; first | done | rfl)); (case hp => (simp [hpol, newSeq, newSl]; first | done | rfl))) | ((with_reducible first | apply WO_call_i | apply WT_call_i); (case hw => (simp [hpol, newSeq, newSl]; done)); (case he => (simp [hpol, newSeq, newSl]; first | done | exact ⟨rfl, rfl, rfl⟩ | rfl))))
  (with_reducible refine W_draw_id (pln := true) [0, 1, 2, 3, 4, 5, 6, 7, 8, 9, 10, 11, 12, 13, 14, 15, 16, 17, 18, 19, 20, 21, 22, 23, 24, 25, 26, 27, 28, 29, 30, 31, 32, 33, 34, 35] [(1, (1, [])), (3, (3, [])), (7, (7, [0])), (10, (10, [0])), (14, (14, [0, 5])), (17, (17, [0, 5])), (21, (21, [0, 5, 12])), (24, (24, [0, 5, 12])), (28, (28, [0, 5, 12, 19])), (31, (31, [0, 5, 12, 19]))] (by kernel_rfl) rfl ?_)
  repeat (first | (with_reducible first | refine W_seq_i ?_ | refine W_block_i ?_ | refine W_region_i ?_ | refine W_skip_i ?_ | refine W_label_i ?_ | refine W_ret_i ?_ | refine W_exit_i ?_ | refine W_goto_i ?_ | refine W_scope_go ?_ | refine jumpW_r ?_ | refine jumpW_n ?_ | refine jumpW_x ?_ | refine blockW_g ?_ | refine thenW_n ?_ | refine blockW_n ?_ | refine blockW_x ?_ | refine blockW_y (by decide) ?_ | refine blockW_r ?_ | refine thenW_e (by simp; done) ?_ | refine WO_nil_i ?_ | refine WT_nil_i ?_) | (with_reducible apply W_cond_t; (case h => (simp [hpol, newSeq, newSl]; done))) | (with_reducible apply W_cond_f; (case h => (simp [hpol, newSeq, newSl]; done))) | ((with_reducible first | apply WO_val_i | apply WT_val_i); (case hw => (simp [hpol, newSeq, newSl]; done)); (case he => (simp [hpol, newSeq, newSl]; first | done | exact ⟨rfl, rfl⟩ | rfl)); (case hp => (simp [hpol, newSeq, newSl]; first | done | rfl))) | ((with_reducible first | apply WO_no_i | apply WT_no_i); (case hw => (simp [hpol, newSeq, newSl]; done)); (case hp => (simp [hpol, newSeq, newSl]; first | done | rfl))) | ((with_reducible first | apply WO_skip_i | apply WT_skip_i); (case hw => (simp [hpol, newSeq, newSl]; done)); (case he => (simp [hpol, newSeq, newSl]; first | done | rfl)); (case hp => (simp [hpol, newSeq, newSl]; first | done | rfl))) | ((with_reducible first | apply WO_call_i | apply WT_call_i); (case hw => (simp [hpol, newSeq, newSl]; done)); (case he => (simp [hpol, newSeq, newSl]; first | done | exact ⟨rfl, rfl, rfl⟩ | rfl))))
  refine A.mono (compare_str a.key b.key _) ?_
  rintro _ hh ⟨rfl, rfl⟩
  refine ⟨_, by simp; first | done | rfl, ?_⟩
  repeat (first | (with_reducible first | refine W_seq_i ?_ | refine W_block_i ?_ | refine W_region_i ?_ | refine W_skip_i ?_ | refine W_label_i ?_ | refine W_ret_i ?_ | refine W_exit_i ?_ | refine W_goto_i ?_ | refine W_scope_go ?_ | refine jumpW_r ?_ | refine jumpW_n ?_ | refine jumpW_x ?_ | refine blockW_g ?_ | refine thenW_n ?_ | refine blockW_n ?_ | refine blockW_x ?_ | refine blockW_y (by decide) ?_ | refine blockW_r ?_ | refine thenW_e (by simp; done) ?_ | refine WO_nil_i ?_ | refine WT_nil_i ?_) | (with_reducible apply W_cond_t; (case h => (simp [hpol, newSeq, newSl]; done))) | (with_reducible apply W_cond_f; (case h => (simp [hpol, newSeq, newSl]; done))) | ((with_reducible first | apply WO_val_i | apply WT_val_i); (case hw => (simp [hpol, newSeq, newSl]; done)); (case he => (simp [hpol, newSeq, newSl]; first | done | exact ⟨rfl, rfl⟩ | rfl)); (case hp => (simp [hpol, newSeq, newSl]; first | done | rfl))) | ((with_reducible first | apply WO_no_i | apply WT_no_i); (case hw => (simp [hpol, newSeq, newSl]; done)); (case hp => (simp [hpol, newSeq, newSl]; first | done | rfl))) | ((with_reducible first | apply WO_skip_i | apply WT_skip_i); (case hw => (simp [hpol, newSeq, newSl]; done)); (case he => (simp [hpol, newSeq, newSl]; first | done | rfl)); (case hp => (simp [hpol, newSeq, newSl]; first | done | rfl))) | ((with_reducible first | apply WO_call_i | apply WT_call_i); (case hw => (simp [hpol, newSeq, newSl]; done)); (case he => (simp [hpol, newSeq, newSl]; first | done | exact ⟨rfl, rfl, rfl⟩ | rfl))))
  refine A.mono (compare_int a.br b.br _) ?_
  rintro _ hh ⟨rfl, rfl⟩
  refine ⟨_, by simp; first | done | rfl, ?_⟩
  repeat (first | (with_reducible first | refine W_seq_i ?_ | refine W_block_i ?_ | refine W_region_i ?_ | refine W_skip_i ?_ | refine W_label_i ?_ | refine W_ret_i ?_ | refine W_exit_i ?_ | refine W_goto_i ?_ | refine W_scope_go ?_ | refine jumpW_r ?_ | refine jumpW_n ?_ | refine jumpW_x ?_ | refine blockW_g ?_ | refine thenW_n ?_ | refine blockW_n ?_ | refine blockW_x ?_ | refine blockW_y (by decide) ?_ | refine blockW_r ?_ | refine thenW_e (by simp; done) ?_ | refine WO_nil_i ?_ | refine WT_nil_i ?_) | (with_reducible apply W_cond_t; (case h => (simp [hpol, newSeq, newSl]; done))) | (with_reducible apply W_cond_f; (case h => (simp [hpol, newSeq, newSl]; done))) | ((with_reducible first | apply WO_val_i | apply WT_val_i); (case hw => (simp [hpol, newSeq, newSl]; done)); (case he => (simp [hpol, newSeq, newSl]; first | done | exact ⟨rfl, rfl⟩ | rfl)); (case hp => (simp [hpol, newSeq, newSl]; first | done | rfl))) | ((with_reducible first | apply WO_no_i | apply WT_no_i); (case hw => (simp [hpol, newSeq, newSl]; done)); (case hp => (simp [hpol, newSeq, newSl]; first | done | rfl))) | ((with_reducible first | apply WO_skip_i | apply WT_skip_i); (case hw => (simp [hpol, newSeq, newSl]; done)); (case he => (simp [hpol, newSeq, newSl]; first | done | rfl)); (case hp => (simp [hpol, newSeq, newSl]; first | done | rfl))) | ((with_reducible first | apply WO_call_i | apply WT_call_i); (case hw => (simp [hpol, newSeq, newSl]; done)); (case he => (simp [hpol, newSeq, newSl]; first | done | exact ⟨rfl, rfl, rfl⟩ | rfl))))
  refine A.mono (compare_int a.ep b.ep _) ?_
  rintro _ hh ⟨rfl, rfl⟩
  refine ⟨_, by simp; first | done | rfl, ?_⟩
  repeat (first | (with_reducible first | refine W_seq_i ?_ | refine W_block_i ?_ | refine W_region_i ?_ | refine W_skip_i ?_ | refine W_label_i ?_ | refine W_ret_i ?_ | refine W_exit_i ?_ | refine W_goto_i ?_ | refine W_scope_go ?_ | refine jumpW_r ?_ | refine jumpW_n ?_ | refine jumpW_x ?_ | refine blockW_g ?_ | refine thenW_n ?_ | refine blockW_n ?_ | refine blockW_x ?_ | refine blockW_y (by decide) ?_ | refine blockW_r ?_ | refine thenW_e (by simp; done) ?_ | refine WO_nil_i ?_ | refine WT_nil_i ?_) | (with_reducible apply W_cond_t; (case h => (simp [hpol, newSeq, newSl]; done))) | (with_reducible apply W_cond_f; (case h => (simp [hpol, newSeq, newSl]; done))) | ((with_reducible first | apply WO_val_i | apply WT_val_i); (case hw => (simp [hpol, newSeq, newSl]; done)); (case he => (simp [hpol, newSeq, newSl]; first | done | exact ⟨rfl, rfl⟩ | rfl)); (case hp => (simp [hpol, newSeq, newSl]; first | done | rfl))) | ((with_reducible first | apply WO_no_i | apply WT_no_i); (case hw => (simp [hpol, newSeq, newSl]; done)); (case hp => (simp [hpol, newSeq, newSl]; first | done | rfl))) | ((with_reducible first | apply WO_skip_i | apply WT_skip_i); (case hw => (simp [hpol, newSeq, newSl]; done)); (case he => (simp [hpol, newSeq, newSl]; first | done | rfl)); (case hp => (simp [hpol, newSeq, newSl]; first | done | rfl))) | ((with_reducible first | apply WO_call_i | apply WT_call_i); (case hw => (simp [hpol, newSeq, newSl]; done)); (case he => (simp [hpol, newSeq, newSl]; first | done | exact ⟨rfl, rfl, rfl⟩ | rfl))))
  refine A.mono (compare_int a.sq b.sq _) ?_
  rintro _ hh ⟨rfl, rfl⟩
  refine ⟨_, by simp; first | done | rfl, ?_⟩
  repeat (first | (with_reducible first | refine W_seq_i ?_ | refine W_block_i ?_ | refine W_region_i ?_ | refine W_skip_i ?_ | refine W_label_i ?_ | refine W_ret_i ?_ | refine W_exit_i ?_ | refine W_goto_i ?_ | refine W_scope_go ?_ | refine jumpW_r ?_ | refine jumpW_n ?_ | refine jumpW_x ?_ | refine blockW_g ?_ | refine thenW_n ?_ | refine blockW_n ?_ | refine blockW_x ?_ | refine blockW_y (by decide) ?_ | refine blockW_r ?_ | refine thenW_e (by simp; done) ?_ | refine WO_nil_i ?_ | refine WT_nil_i ?_) | (with_reducible apply W_cond_t; (case h => (simp [hpol, newSeq, newSl]; done))) | (with_reducible apply W_cond_f; (case h => (simp [hpol, newSeq, newSl]; done))) | ((with_reducible first | apply WO_val_i | apply WT_val_i); (case hw => (simp [hpol, newSeq, newSl]; done)); (case he => (simp [hpol, newSeq, newSl]; first | done | exact ⟨rfl, rfl⟩ | rfl)); (case hp => (simp [hpol, newSeq, newSl]; first | done | rfl))) | ((with_reducible first | apply WO_no_i | apply WT_no_i); (case hw => (simp [hpol, newSeq, newSl]; done)); (case hp => (simp [hpol, newSeq, newSl]; first | done | rfl))) | ((with_reducible first | apply WO_skip_i | apply WT_skip_i); (case hw => (simp [hpol, newSeq, newSl]; done)); (case he => (simp [hpol, newSeq, newSl]; first | done | rfl)); (case hp => (simp [hpol, newSeq, newSl]; first | done | rfl))) | ((with_reducible first | apply WO_call_i | apply WT_call_i); (case hw => (simp [hpol, newSeq, newSl]; done)); (case he => (simp [hpol, newSeq, newSl]; first | done | exact ⟨rfl, rfl, rfl⟩ | rfl))))
  refine A.mono (compare_int a.fr b.fr _) ?_
  rintro _ hh ⟨rfl, rfl⟩
  refine ⟨_, by simp; first | done | rfl, ?_⟩
  repeat (first | (with_reducible first | refine W_seq_i ?_ | refine W_block_i ?_ | refine W_region_i ?_ | refine W_skip_i ?_ | refine W_label_i ?_ | refine W_ret_i ?_ | refine W_exit_i ?_ | refine W_goto_i ?_ | refine W_scope_go ?_ | refine jumpW_r ?_ | refine jumpW_n ?_ | refine jumpW_x ?_ | refine blockW_g ?_ | refine thenW_n ?_ | refine blockW_n ?_ | refine blockW_x ?_ | refine blockW_y (by decide) ?_ | refine blockW_r ?_ | refine thenW_e (by simp; done) ?_ | refine WO_nil_i ?_ | refine WT_nil_i ?_) | (with_reducible apply W_cond_t; (case h => (simp [hpol, newSeq, newSl]; done))) | (with_reducible apply W_cond_f; (case h => (simp [hpol, newSeq, newSl]; done))) | ((with_reducible first | apply WO_val_i | apply WT_val_i); (case hw => (simp [hpol, newSeq, newSl]; done)); (case he => (simp [hpol, newSeq, newSl]; first | done | exact ⟨rfl, rfl⟩ | rfl)); (case hp => (simp [hpol, newSeq, newSl]; first | done | rfl))) | ((with_reducible first | apply WO_no_i | apply WT_no_i); (case hw => (simp [hpol, newSeq, newSl]; done)); (case hp => (simp [hpol, newSeq, newSl]; first | done | rfl))) | ((with_reducible first | apply WO_skip_i | apply WT_skip_i); (case hw => (simp [hpol, newSeq, newSl]; done)); (case he => (simp [hpol, newSeq, newSl]; first | done | rfl)); (case hp => (simp [hpol, newSeq, newSl]; first | done | rfl))) | ((with_reducible first | apply WO_call_i | apply WT_call_i); (case hw => (simp [hpol, newSeq, newSl]; done)); (case he => (simp [hpol, newSeq, newSl]; first | done | exact ⟨rfl, rfl, rfl⟩ | rfl))))
  refine A.mono (first_ans _ _ _ _ _ _ _ _ _) ?_
  rintro _ hh ⟨rfl, rfl⟩
  refine ⟨_, by simp; first | done | rfl, ?_⟩
  repeat (first | (with_reducible first | refine W_seq_i ?_ | refine W_block_i ?_ | refine W_region_i ?_ | refine W_skip_i ?_ | refine W_label_i ?_ | refine W_ret_i ?_ | refine W_exit_i ?_ | refine W_goto_i ?_ | refine W_scope_go ?_ | refine jumpW_r ?_ | refine jumpW_n ?_ | refine jumpW_x ?_ | refine blockW_g ?_ | refine thenW_n ?_ | refine blockW_n ?_ | refine blockW_x ?_ | refine blockW_y (by decide) ?_ | refine blockW_r ?_ | refine thenW_e (by simp; done) ?_ | refine WO_nil_i ?_ | refine WT_nil_i ?_) | (with_reducible apply W_cond_t; (case h => (simp [hpol, newSeq, newSl]; done))) | (with_reducible apply W_cond_f; (case h => (simp [hpol, newSeq, newSl]; done))) | ((with_reducible first | apply WO_val_i | apply WT_val_i); (case hw => (simp [hpol, newSeq, newSl]; done)); (case he => (simp [hpol, newSeq, newSl]; first | done | exact ⟨rfl, rfl⟩ | rfl)); (case hp => (simp [hpol, newSeq, newSl]; first | done | rfl))) | ((with_reducible first | apply WO_no_i | apply WT_no_i); (case hw => (simp [hpol, newSeq, newSl]; done)); (case hp => (simp [hpol, newSeq, newSl]; first | done | rfl))) | ((with_reducible first | apply WO_skip_i | apply WT_skip_i); (case hw => (simp [hpol, newSeq, newSl]; done)); (case he => (simp [hpol, newSeq, newSl]; first | done | rfl)); (case hp => (simp [hpol, newSeq, newSl]; first | done | rfl))) | ((with_reducible first | apply WO_call_i | apply WT_call_i); (case hw => (simp [hpol, newSeq, newSl]; done)); (case he => (simp [hpol, newSeq, newSl]; first | done | exact ⟨rfl, rfl, rfl⟩ | rfl))))
  refine ⟨by simp [readSame, beqAV_self, hpol]; done, _, by simp; first | done | rfl, ?_⟩
  repeat (first | (with_reducible first | refine W_seq_i ?_ | refine W_block_i ?_ | refine W_region_i ?_ | refine W_skip_i ?_ | refine W_label_i ?_ | refine W_ret_i ?_ | refine W_exit_i ?_ | refine W_goto_i ?_ | refine W_scope_go ?_ | refine jumpW_r ?_ | refine jumpW_n ?_ | refine jumpW_x ?_ | refine blockW_g ?_ | refine thenW_n ?_ | refine blockW_n ?_ | refine blockW_x ?_ | refine blockW_y (by decide) ?_ | refine blockW_r ?_ | refine thenW_e (by simp; done) ?_ | refine WO_nil_i ?_ | refine WT_nil_i ?_) | (with_reducible apply W_cond_t; (case h => (simp [hpol, newSeq, newSl]; done))) | (with_reducible apply W_cond_f; (case h => (simp [hpol, newSeq, newSl]; done))) | ((with_reducible first | apply WO_val_i | apply WT_val_i); (case hw => (simp [hpol, newSeq, newSl]; done)); (case he => (simp [hpol, newSeq, newSl]; first | done | exact ⟨rfl, rfl⟩ | rfl)); (case hp => (simp [hpol, newSeq, newSl]; first | done | rfl))) | ((with_reducible first | apply WO_no_i | apply WT_no_i); (case hw => (simp [hpol, newSeq, newSl]; done)); (case hp => (simp [hpol, newSeq, newSl]; first | done | rfl))) | ((with_reducible first | apply WO_skip_i | apply WT_skip_i); (case hw => (simp [hpol, newSeq, newSl]; done)); (case he => (simp [hpol, newSeq, newSl]; first | done | rfl)); (case hp => (simp [hpol, newSeq, newSl]; first | done | rfl))) | ((with_reducible first | apply WO_call_i | apply WT_call_i); (case hw => (simp [hpol, newSeq, newSl]; done)); (case he => (simp [hpol, newSeq, newSl]; first | done | exact ⟨rfl, rfl, rfl⟩ | rfl))))
  (first | apply endW_r | apply endW_n); (case h1 => (simp [Try.results18]; first | done | rfl))
  refine ⟨rfl, ?_⟩
  exact (((HE.refl h).new _).new _).drew.newSl _
end Go.Vn

/- The law of a heap in a list. -/
namespace Go.Vn

section
variable {α : Type}

/-- An order: of two things one may be less. -/
structure Ord (less : α → α → Bool) : Prop where
  asym : ∀ a b, less a b = true → less b a = false
  tr : ∀ a b c, less b a = false → less c b = false → less c a = false

def par (c : Nat) : Nat := (c - 1) / 2

/-- No child is less than its parent (of those from lo on), but under x. -/
def HeapX [Inhabited α] (less : α → α → Bool) (L : List α) (n lo : Nat) (x : Option Nat) : Prop :=
  (∀ c, 0 < c → c < n → lo ≤ par c → some (par c) ≠ x → less L[c]! L[par c]! = false) ∧
  (∀ c y, 0 < c → c < n → x = some (par c) → y = par c → 0 < y → lo ≤ par y → less L[c]! L[par y]! = false)

def Heap [Inhabited α] (less : α → α → Bool) (L : List α) (n lo : Nat) : Prop := ∀ c, 0 < c → c < n → lo ≤ par c → less L[c]! L[par c]! = false

theorem heap_top [Inhabited α] {less : α → α → Bool} (o : Ord less) {L : List α} {n : Nat} (h : Heap less L n 0) (i : Nat) (hi : i < n) : less L[i]! L[0]! = false := by
  induction i using Nat.strongRecOn with
  | _ i ih =>
    by_cases hz : i = 0
    · subst hz
      cases q : less L[0]! L[0]! with
      | false => rfl
      | true => exact absurd q (by rw [o.asym _ _ q]; simp)
    · have hp : par i < i := by unfold par; omega
      exact o.tr _ _ _ (ih (par i) hp (by omega)) (h i (by omega) hi (Nat.zero_le _))

theorem getElem!_swap [Inhabited α] {L : List α} {i j : Nat} (hi : i < L.length) (hj : j < L.length) (k : Nat) : (swapL L i j)[k]! = if k = j then L[i]! else if k = i then L[j]! else L[k]! := by
  rw [swapL_eq hi hj]
  simp only [List.getElem!_eq_getElem?_getD, List.getElem?_set, List.length_set]
  by_cases h1 : k = j
  · subst h1; simp [hj, hi]
  · by_cases h2 : k = i
    · subst h2; simp [Ne.symm h1, h1, hi, hj]
    · simp [Ne.symm h1, Ne.symm h2, h1, h2]

theorem swapL_perm {L : List α} {i j : Nat} (hi : i < L.length) (hj : j < L.length) : (swapL L i j).Perm L := by
  rw [swapL_eq hi hj]
  have := List.set_set_perm hi hj
  exact this
theorem swapL_length {L : List α} {i j : Nat} : (swapL L i j).length = L.length := by
  unfold swapL; split <;> simp

theorem step_stop [Inhabited α] {less : α → α → Bool} (o : Ord less) {L : List α} {n lo x : Nat} (h : HeapX less L n lo (some x)) (hk : ∀ c, 0 < c → c < n → par c = x → less L[c]! L[x]! = false) : Heap less L n lo := by
  intro c h0 hc hlo
  by_cases hx : par c = x
  · rw [hx]; exact hk c h0 hc hx
  · exact h.1 c h0 hc hlo (by simp [hx])

theorem step_down [Inhabited α] {less : α → α → Bool} (o : Ord less) {L : List α} {n lo x j : Nat} (hn : n ≤ L.length) (hx : lo ≤ x) (h : HeapX less L n lo (some x)) (hj : j < n) (hp : par j = x) (h0 : 0 < j)
    (hm : ∀ c, 0 < c → c < n → par c = x → less L[c]! L[j]! = false) (hl : less L[j]! L[x]! = true) : HeapX less (swapL L x j) n lo (some j) := by
  have hxj : x < j := by unfold par at hp; omega
  have hxL : x < L.length := by omega
  have hjL : j < L.length := by omega
  have g := getElem!_swap hxL hjL
  have hne : x ≠ j := by omega
  constructor
  · intro c c0 hc hlo hcx
    have hcj : par c ≠ j := fun e => hcx (by rw [e])
    rw [g c, g (par c), if_neg hcj]
    have hpc : par c < c := by unfold par; omega
    by_cases e1 : c = j
    · subst e1
      rw [if_pos rfl, if_pos hp]
      exact o.asym _ _ hl
    · rw [if_neg e1]
      by_cases e2 : par c = x
      · rw [if_pos e2]
        by_cases e3 : c = x
        · omega
        · rw [if_neg e3]; exact hm c c0 hc e2
      · rw [if_neg e2]
        by_cases e3 : c = x
        · rw [if_pos e3]
          subst e3
          exact h.2 j c h0 hj (by rw [hp]) hp.symm c0 hlo
        · rw [if_neg e3]
          exact h.1 c c0 hc hlo (by simp [e2])
  · intro c y c0 hc hcj hy y0 hlo
    have hcj' : par c = j := by injection hcj with e; exact e.symm
    have hyj : y = j := hy.trans hcj'
    subst hyj
    rw [g c, g (par y), hp]
    have hcy : y < c := by unfold par at hcj'; omega
    rw [if_neg (by omega), if_neg (by omega), if_neg hne, if_pos rfl]
    have := h.1 c c0 hc (by rw [hcj']; omega) (by rw [hcj']; simp; omega)
    rwa [hcj'] at this

/-- The smaller of the children. -/
theorem child_min {less : α → α → Bool} (o : Ord less) {L : List α} {n x : Nat} (c : Nat) (h0 : 0 < c) (hc : c < n) (hp : par c = x) : c = 2 * x + 1 ∨ c = 2 * x + 2 := by
  unfold par at hp; omega

theorem ord_irrefl {less : α → α → Bool} (o : Ord less) (a : α) : less a a = false := by
  cases q : less a a with
  | false => rfl
  | true => exact absurd q (by rw [o.asym _ _ q]; simp)
end
end Go.Vn
