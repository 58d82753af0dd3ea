/- What functions of the program come to, in the value machine (a part of the proof of the claim's statement). No condition. -/
import Derived.Test.YtplcehpejjfjoaaGreatVnG1
import Derived.Test.YtplcehpejjfjoaaGreatVnG6
import Derived.Test.YtplcehpejjfjoaaGreatVnG2
set_option linter.unusedSimpArgs false
set_option linter.unusedVariables false
namespace Go.Vn

def putL : List Int → Int → List Int
  | [], n => [n]
  | a :: l, n => if a < n then a :: putL l n else if n < a then n :: a :: l else a :: l
def endsL (a b c d : Int) : List Int := putL (putL (putL (putL [] a) b) c) d
def keepI (a b c d e : Int) : Bool := decide (Has a b e) && !(decide (Has c d e))
def segs (f : Int → Bool) : List Int → List (Int × Int)
  | [] => []
  | [_] => []
  | x :: y :: l => if f x then (x, y) :: segs f (y :: l) else segs f (y :: l)
def apart (f : Int → Bool) : List Int → Prop
  | [] => True
  | x :: l => (f x = true → ∀ y ∈ l.head?, f y = false) ∧ apart f l

set_option maxHeartbeats 2000000 in
theorem minus_segs (a b c d : Int) (h1 : May a b) (h2 : May c d) : segs (keepI a b c d) (endsL a b c d) = minusS a b c d ∧ apart (keepI a b c d) (endsL a b c d) := by
  unfold May at h1 h2
  have hab : a < b := h1.2.1
  have hcd : c < d := h2.2.1
  have e1 : putL (putL [] a) b = [a, b] := by simp [putL, hab]
  unfold endsL
  rw [e1]
  have m1 : May a b := h1
  have m2 : May c d := h2
  unfold minusS
  rw [if_neg (by simp [m1])]
  have P0 : ∀ n, putL [] n = [n] := fun n => rfl
  have PC : ∀ x l n, putL (x :: l) n = if x < n then x :: putL l n else if n < x then n :: x :: l else x :: l := fun x l n => rfl
  have H1 : ∀ e, Has a b e ↔ a ≤ e ∧ e < b := fun e => by unfold Has; exact ⟨fun h => h.2, fun h => ⟨m1, h⟩⟩
  have H2 : ∀ e, Has c d e ↔ c ≤ e ∧ e < d := fun e => by unfold Has; exact ⟨fun h => h.2, fun h => ⟨m2, h⟩⟩
  have K : ∀ e, keepI a b c d e = (decide (a ≤ e ∧ e < b) && !decide (c ≤ e ∧ e < d)) := fun e => by unfold keepI; simp only [H1, H2]
  have KT : ∀ e, (keepI a b c d e = true) ↔ ((a ≤ e ∧ e < b) ∧ ¬ (c ≤ e ∧ e < d)) := fun e => by
    rw [K]; simp only [Bool.and_eq_true, decide_eq_true_eq, Bool.not_eq_true', decide_eq_false_iff_not]
  have SC : ∀ x y l, segs (keepI a b c d) (x :: y :: l) = if (a ≤ x ∧ x < b) ∧ ¬ (c ≤ x ∧ x < d) then (x, y) :: segs (keepI a b c d) (y :: l) else segs (keepI a b c d) (y :: l) := fun x y l => by
    simp only [segs, KT]
  have S1 : ∀ x, segs (keepI a b c d) [x] = [] := fun x => rfl
  obtain ⟨m, hm⟩ : ∃ m, m = max a c := ⟨_, rfl⟩
  obtain ⟨n, hn⟩ : ∃ n, n = min b d := ⟨_, rfl⟩
  rw [← hm, ← hn]
  have M1 : May m n ↔ m < n := by unfold May; omega
  have M2 : May a m ↔ a < m := by unfold May; omega
  have M3 : May n b ↔ n < b := by unfold May; omega
  simp only [M1, M2, M3]
  have A1 : ∀ f : Int → Bool, ∀ x y l, apart f (x :: y :: l) = ((f x = true → f y = false) ∧ apart f (y :: l)) := fun f x y l => by simp [apart]
  have A0 : ∀ f : Int → Bool, ∀ x, apart f [x] := fun f x => by simp [apart]
  have KA : ∀ x y, (keepI a b c d x = true → keepI a b c d y = false) ↔ ((a ≤ x ∧ x < b) ∧ ¬ (c ≤ x ∧ x < d) → ¬ ((a ≤ y ∧ y < b) ∧ ¬ (c ≤ y ∧ y < d))) := fun x y => by
    rw [KT, Bool.eq_false_iff, ne_eq, KT]
  rcases Int.lt_trichotomy a c with x1 | x1 | x1 <;> rcases Int.lt_trichotomy b c with x2 | x2 | x2 <;> rcases Int.lt_trichotomy a d with x3 | x3 | x3 <;> rcases Int.lt_trichotomy b d with x4 | x4 | x4 <;> (try (exfalso; omega))
  all_goals
    simp (disch := omega) only [P0, PC, if_pos, if_neg, SC, S1, A1, KA, A0, and_true]
    refine ⟨?_, ?_⟩
    · try simp only [List.cons_append, List.nil_append, List.append_nil, List.cons.injEq, Prod.mk.injEq, and_true, true_and]
      try omega
    · repeat' apply And.intro
      all_goals (try intros)
      all_goals (try omega)
theorem putL_mem {l : List Int} {n x : Int} (h : x ∈ putL l n) : x = n ∨ x ∈ l := by
  induction l with
  | nil => simp [putL] at h; exact .inl h
  | cons y l ih =>
    simp only [putL] at h
    split at h
    · rcases List.mem_cons.mp h with h | h
      · exact .inr (by simp [h])
      · rcases ih h with h | h
        · exact .inl h
        · exact .inr (List.mem_cons_of_mem _ h)
    · split at h
      · rcases List.mem_cons.mp h with h | h
        · exact .inl h
        · exact .inr h
      · exact .inr h
theorem putL_rise {l : List Int} {n : Int} (h : l.Pairwise (· < ·)) : (putL l n).Pairwise (· < ·) := by
  induction l with
  | nil => simp [putL]
  | cons y l ih =>
    have h1 := List.pairwise_cons.mp h
    simp only [putL]
    split
    · refine List.pairwise_cons.mpr ⟨fun x hx => ?_, ih h1.2⟩
      rcases putL_mem hx with hx | hx
      · omega
      · exact h1.1 x hx
    · split
      · rename_i q2
        refine List.pairwise_cons.mpr ⟨fun x hx => ?_, h⟩
        rcases List.mem_cons.mp hx with hx | hx
        · omega
        · have := h1.1 x hx; omega
      · exact h
theorem endsL_rise (a b c d : Int) : (endsL a b c d).Pairwise (· < ·) := putL_rise (putL_rise (putL_rise (putL_rise List.Pairwise.nil)))
theorem endsL_len (a b c d : Int) : (endsL a b c d).length ≤ 4 := by
  have k : ∀ (l : List Int) (n : Int), (putL l n).length ≤ l.length + 1 := fun l n => by
    induction l with
    | nil => simp [putL]
    | cons x l ih =>
      simp only [putL]
      split
      · simp; omega
      · split <;> simp
  have h1 := k [] a
  have h2 := k (putL [] a) b
  have h3 := k (putL (putL [] a) b) c
  have h4 := k (putL (putL (putL [] a) b) c) d
  simp only [List.length_nil] at h1
  unfold endsL; omega
theorem segs_cons (f : Int → Bool) (x y : Int) (l : List Int) : segs f (x :: y :: l) = if f x then (x, y) :: segs f (y :: l) else segs f (y :: l) := rfl
theorem apart_at {f : Int → Bool} : ∀ {l : List Int} (i : Nat) (h : i + 1 < l.length), apart f l → f l[i] = true → f l[i + 1] = false
  | x :: y :: l, 0, _, ha, hf => ha.1 hf y (by simp)
  | x :: l, i + 1, h, ha, hf => apart_at (l := l) i (by simp at h; omega) ha.2 (by simpa using hf)
end Go.Vn

set_option maxRecDepth 20000
namespace Go.Vn
open Go.Proofs

theorem has4_ans (a b t : Int) (h0 : Hp Fm) : A Tryz.prog TT (.func 48) [encS2 a b, .int .i64 t] h0 (fun r h' => r = .bool (decide (Has a b t)) ∧ HE h0 h') := by
  apply A_go Tryz.func48 rfl (by rfl); (case hn => (simp [Tryz.ntmps48]; rfl))
  repeat(first|with_reducible first|refine vmR ?_|refine vmV rfl ?_|refine vmW rfl ?_|refine vmL ?_|refine blockW_y (by decide) ?_|((with_reducible first|apply vmO|apply vmT|apply vmC);case a=>simp;with_reducible first|exact .v|exact .c|exact .t|exact .f))
  refine A.mono (may4_ans a b _) ?_
  rintro _ hh ⟨rfl, heh⟩
  have g1 : Mp.get hh.obj h0.no = some (.row [.int .i64 a, .int .i64 b]) := by rw [heh.obj _ (by simp)]; simp
  refine ⟨_, by simp; first | done | rfl, ?_⟩
  by_cases q1 : May a b
  · by_cases q2 : a ≤ t
    · by_cases q3 : t < b
      · repeat(first|with_reducible first|refine vmR ?_|refine vmV rfl ?_|refine vmW rfl ?_|refine vmL ?_|refine blockW_y (by decide) ?_|((with_reducible first|apply vmO|apply vmT|apply vmC);case a=>simp [q1, q2, q3, g1];with_reducible first|exact .v|exact .c|exact .t|exact .f))
        (first | apply endW_r | apply endW_n); (case h1 => (simp [Tryz.results48]; first | done | rfl))
        exact ⟨by simp [Has, q1, q2, q3], ((HE.refl h0).new _).trans heh⟩
      · repeat(first|with_reducible first|refine vmR ?_|refine vmV rfl ?_|refine vmW rfl ?_|refine vmL ?_|refine blockW_y (by decide) ?_|((with_reducible first|apply vmO|apply vmT|apply vmC);case a=>simp [q1, q2, q3, g1];with_reducible first|exact .v|exact .c|exact .t|exact .f))
        (first | apply endW_r | apply endW_n); (case h1 => (simp [Tryz.results48]; first | done | rfl))
        exact ⟨by simp [Has, q1, q2, q3], ((HE.refl h0).new _).trans heh⟩
    · repeat(first|with_reducible first|refine vmR ?_|refine vmV rfl ?_|refine vmW rfl ?_|refine vmL ?_|refine blockW_y (by decide) ?_|((with_reducible first|apply vmO|apply vmT|apply vmC);case a=>simp [q1, q2, g1];with_reducible first|exact .v|exact .c|exact .t|exact .f))
      (first | apply endW_r | apply endW_n); (case h1 => (simp [Tryz.results48]; first | done | rfl))
      exact ⟨by simp [Has, q1, q2], ((HE.refl h0).new _).trans heh⟩
  · repeat(first|with_reducible first|refine vmR ?_|refine vmV rfl ?_|refine vmW rfl ?_|refine vmL ?_|refine blockW_y (by decide) ?_|((with_reducible first|apply vmO|apply vmT|apply vmC);case a=>simp [q1, g1];with_reducible first|exact .v|exact .c|exact .t|exact .f))
    (first | apply endW_r | apply endW_n); (case h1 => (simp [Tryz.results48]; first | done | rfl))
    exact ⟨by simp [Has, q1], ((HE.refl h0).new _).trans heh⟩

theorem putL_app {A B : List Int} {n : Int} (h : ∀ x ∈ A, x < n) : putL (A ++ B) n = A ++ putL B n := by
  induction A with
  | nil => rfl
  | cons x A ih =>
    have := h x (by simp)
    simp only [List.cons_append, putL, if_pos this]
    rw [ih (fun y hy => h y (List.mem_cons_of_mem _ hy))]
theorem putL_len (l : List Int) (n : Int) : (putL l n).length ≤ l.length + 1 := by
  induction l with
  | nil => simp [putL]
  | cons x l ih =>
    simp only [putL]
    split
    · simp; omega
    · split <;> simp
abbrev encI (n : Int) : AV := .int .i64 n
theorem etI : ElT Tryz.prog 141 3 1 8 false (.int .i64 0) := ⟨Tryz.underlying141, z3, b3, a3, t3, rfl, rfl, fun _ => rfl, by omega, by omega⟩


set_option maxHeartbeats 2000000 in
theorem rput_ans (l : List Int) (v : AV) (hv : SV 1 (l.map encI) v) (hl : l.length ≤ 1000) (n : Int) (h0 : Hp Fm) (hp : h0.pol 3 = false) :
    A Tryz.prog TT (.func 96) [v, .int .i64 n] h0 (fun r h' => SV 1 ((putL l n).map encI) r ∧ HE h0 h') := by
  have vc := hv.cells
  have vi := hv.isCell
  have vn := hv.nm
  have vl := hv.len Tryz.underlying141
  rw [List.length_map] at vl
  apply A_go Tryz.func96 rfl (by rfl); (case hn => (simp [Tryz.ntmps96]; rfl))
  repeat(first|with_reducible first|refine vmR ?_|refine vmV rfl ?_|refine vmW rfl ?_|refine vmL ?_|refine blockW_y (by decide) ?_|((with_reducible first|apply vmO|apply vmT|apply vmC);case a=>simp [vc, vi];with_reducible first|exact .v|exact .c|exact .t|exact .f))
  refine W.mono (R := fun e s => e = .exit 0 ∧ ∃ (t : Fm AV) (h : Hp Fm) (u : AV) (dn : Bool) (o : List Int), s = ⟨t, 48, h, none⟩ ∧ tget t 1 = .int .i64 n ∧ tget t 5 = u ∧ tget t 6 = .bool dn ∧ AC h0 h 1 (o.map encI) u ∧ HE h0 h ∧ o.length ≤ l.length + 1 ∧ ((dn = false ∧ o ++ [n] = putL l n) ∨ (dn = true ∧ o = putL l n))) ?_ ?_
  · refine W_loop (fun z s => ∃ (t : Fm AV) (h : Hp Fm) (i : Nat) (u : AV) (dn : Bool) (o : List Int), s = ⟨t, 48, h, none⟩ ∧ z = l.length - i ∧ i ≤ l.length ∧ tget t 0 = v ∧ tget t 1 = .int .i64 n ∧ tget t 5 = u ∧ tget t 6 = .bool dn ∧ tget t 7 = .int .i64 i ∧ AC h0 h 1 (o.map encI) u ∧ HE h0 h ∧ o.length ≤ i + 1 ∧ ((dn = false ∧ o = l.take i ∧ ∀ x ∈ l.take i, x < n) ∨ (dn = true ∧ o ++ l.drop i = putL l n))) l.length
      ⟨_, _, 0, .nils, false, [], rfl, rfl, by omega, by simp, by simp, by simp, by simp, by simp, .inl ⟨rfl, rfl⟩, HE.refl _, by simp, .inl ⟨rfl, by simp, by simp⟩⟩ ?_
    rintro _ _ ⟨t, h, i, u, dn, o, rfl, rfl, hi, t0, t1, t5, t6, t7, hac, e1, ol, inv⟩
    by_cases q : i < l.length
    case neg =>
      have q' : ¬ ((i : Int) < l.length) := by omega
      repeat(first|with_reducible first|refine vmR ?_|refine vmV rfl ?_|refine vmW rfl ?_|refine vmL ?_|refine blockW_y (by decide) ?_|((with_reducible first|apply vmO|apply vmT|apply vmC);case a=>simp [t0, t7, vl, vn, vc, vi, q, q'];with_reducible first|exact .v|exact .c|exact .t|exact .f))
      refine ⟨rfl, _, _, u, dn, o, rfl, by simp [t1], by simp [t5], by simp [t6], hac, e1, by omega, ?_⟩
      rcases inv with ⟨rfl, rfl, hx⟩ | ⟨rfl, hx⟩
      · left
        rw [List.take_of_length_le (by omega)] at hx ⊢
        have := putL_app (B := []) hx
        rw [List.append_nil] at this
        exact ⟨rfl, this.symm⟩
      · right
        rw [List.drop_of_length_le (by omega), List.append_nil] at hx
        exact ⟨rfl, hx⟩
    have q' : (i : Int) < l.length := by omega
    obtain ⟨x, hx⟩ : ∃ x, x = l[i] := ⟨_, rfl⟩
    have ix := hv.idx (k := .i64) (i := (i : Int)) Tryz.underlying141 z3 (by omega) (by rw [List.length_map]; omega)
    replace ix : indexAddrAV Tryz.prog 141 v (.int .i64 (i : Int)) = some (.el (.int .i64 x) 0) := by rw [ix]; simp [hx]
    obtain ⟨ip, hip⟩ : ∃ ip, ip = i + 1 := ⟨_, rfl⟩
    have wip : IntKind.i64.wrap ((i : Int) + 1) = (ip : Int) := by rw [wrap64 (by omega) (by omega)]; omega
    have uc := hac.sv.cells
    have ui := hac.sv.isCell
    have hph : h.pol 3 = false := by rw [e1.pol]; exact hp
    have edr : l.drop i = x :: l.drop ip := by rw [hip, hx]; exact List.drop_eq_getElem_cons q
    have etk : l.take ip = l.take i ++ [x] := by rw [hip, List.take_succ_eq_append_getElem q, hx]
    have ell : l = l.take i ++ x :: l.drop ip := by rw [← edr]; simp
    have puts : ∀ (h : ∀ y ∈ l.take i, y < n), putL l n = l.take i ++ putL (x :: l.drop ip) n := fun h => by
      conv => lhs; rw [ell]
      exact putL_app h
    rcases inv with ⟨rfl, rfl, hlt⟩ | ⟨rfl, hinv⟩
    · have hp0 := puts hlt
      rcases Int.lt_trichotomy x n with c1 | c1 | c1
      · have c2 : ¬ (n ≤ x) := by omega
        repeat(first|with_reducible first|refine vmR ?_|refine vmV rfl ?_|refine vmW rfl ?_|refine vmL ?_|refine blockW_y (by decide) ?_|((with_reducible first|apply vmO|apply vmT|apply vmC);case a=>simp [t0, t1, t5, t6, t7, vl, vn, vc, vi, q, q', ix, c2, uc, ui, newSeq, newSl, hph];with_reducible first|exact .v|exact .c|exact .t|exact .f))
        repeat(first|with_reducible first|refine vmR ?_|refine vmV rfl ?_|refine vmW rfl ?_|refine vmL ?_|refine blockW_y (by decide) ?_|((with_reducible first|apply vmO|apply vmT|apply vmC);case a=>simp [t0, t7, t5, ix, uc, ui, newSeq, newSl, hph];with_reducible first|exact .v|exact .c|exact .t|exact .f))
        with_reducible apply WO_app_i; (case hw => (simp [t0, t7, t5, ix, uc, ui, newSeq, newSl, hph]; done)); (case ho => rfl); (case hb => rfl); (case ha => (simp [t0, t7, t5, ix, uc, ui, newSeq, newSl, hph]; first | done | exact ⟨rfl, rfl⟩ | rfl)); (case h1 => (simp; first | done | rfl)); (case h2 => (simp; first | done | rfl))
        have eb := (HE.refl h).newSl 1
        refine app_then (AC.app (h0 := h0) etI (hac.of eb) (e1.trans eb) hp (by simp; omega)) ?_
        rintro x4 h4 ⟨ac4, he4, _, _, _⟩
        have xc4 := ac4.sv.cells
        have xi4 := ac4.sv.isCell
        have em : ((l.take i)).map encI ++ [.int .i64 x] = ((l.take i) ++ [x]).map encI := by simp
        rw [em] at ac4
        refine ⟨_, by simp; first | done | rfl, ?_⟩
        repeat(first|with_reducible first|refine vmR ?_|refine vmV rfl ?_|refine vmW rfl ?_|refine vmL ?_|refine blockW_y (by decide) ?_|((with_reducible first|apply vmO|apply vmT|apply vmC);case a=>simp [t7, xc4, xi4, wip];with_reducible first|exact .v|exact .c|exact .t|exact .f))
        exact ⟨l.length - ip, by omega, _, _, ip, x4, false, _, rfl, rfl, by omega, by simp [t0], by simp [t1], by simp, by simp [t6], by simp, ac4, he4, by simp; omega, .inl ⟨rfl, by rw [etk], fun y hy => by
          rw [etk] at hy
          rcases List.mem_append.mp hy with hy | hy
          · exact hlt y hy
          · rw [List.mem_singleton.mp hy]; exact c1⟩⟩
      · subst c1
        have c2 : x ≤ x := Int.le_refl _
        have c3 : ¬ (x < x) := by omega
        repeat(first|with_reducible first|refine vmR ?_|refine vmV rfl ?_|refine vmW rfl ?_|refine vmL ?_|refine blockW_y (by decide) ?_|((with_reducible first|apply vmO|apply vmT|apply vmC);case a=>simp [t0, t1, t5, t6, t7, vl, vn, vc, vi, q, q', ix, c2, c3, uc, ui, newSeq, newSl, hph];with_reducible first|exact .v|exact .c|exact .t|exact .f))
        repeat(first|with_reducible first|refine vmR ?_|refine vmV rfl ?_|refine vmW rfl ?_|refine vmL ?_|refine blockW_y (by decide) ?_|((with_reducible first|apply vmO|apply vmT|apply vmC);case a=>simp [t0, t7, t5, ix, uc, ui, newSeq, newSl, hph];with_reducible first|exact .v|exact .c|exact .t|exact .f))
        with_reducible apply WO_app_i; (case hw => (simp [t0, t7, t5, ix, uc, ui, newSeq, newSl, hph]; done)); (case ho => rfl); (case hb => rfl); (case ha => (simp [t0, t7, t5, ix, uc, ui, newSeq, newSl, hph]; first | done | exact ⟨rfl, rfl⟩ | rfl)); (case h1 => (simp; first | done | rfl)); (case h2 => (simp; first | done | rfl))
        have eb := (HE.refl h).newSl 1
        refine app_then (AC.app (h0 := h0) etI (hac.of eb) (e1.trans eb) hp (by simp; omega)) ?_
        rintro x4 h4 ⟨ac4, he4, _, _, _⟩
        have xc4 := ac4.sv.cells
        have xi4 := ac4.sv.isCell
        have em : ((l.take i)).map encI ++ [.int .i64 x] = ((l.take i) ++ [x]).map encI := by simp
        rw [em] at ac4
        refine ⟨_, by simp; first | done | rfl, ?_⟩
        repeat(first|with_reducible first|refine vmR ?_|refine vmV rfl ?_|refine vmW rfl ?_|refine vmL ?_|refine blockW_y (by decide) ?_|((with_reducible first|apply vmO|apply vmT|apply vmC);case a=>simp [t7, xc4, xi4, wip];with_reducible first|exact .v|exact .c|exact .t|exact .f))
        exact ⟨l.length - ip, by omega, _, _, ip, x4, true, _, rfl, rfl, by omega, by simp [t0], by simp [t1], by simp, by simp, by simp, ac4, he4, by simp; omega, .inr ⟨rfl, by rw [hp0]; simp [putL]⟩⟩
      · have c2 : n ≤ x := by omega
        have c3 : n < x := c1
        repeat(first|with_reducible first|refine vmR ?_|refine vmV rfl ?_|refine vmW rfl ?_|refine vmL ?_|refine blockW_y (by decide) ?_|((with_reducible first|apply vmO|apply vmT|apply vmC);case a=>simp [t0, t1, t5, t6, t7, vl, vn, vc, vi, q, q', ix, c2, c3, uc, ui, newSeq, newSl, hph];with_reducible first|exact .v|exact .c|exact .t|exact .f))
        with_reducible apply WO_app_i; (case hw => (simp [t0, t1, t5, t6, t7, uc, ui, newSeq, newSl, hph]; done)); (case ho => rfl); (case hb => rfl); (case ha => (simp [t0, t1, t5, t6, t7, uc, ui, newSeq, newSl, hph]; first | done | exact ⟨rfl, rfl⟩ | rfl)); (case h1 => (simp; first | done | rfl)); (case h2 => (simp; first | done | rfl))
        have eb0 := (HE.refl h).newSl 1
        refine app_then (AC.app (h0 := h0) etI (hac.of eb0) (e1.trans eb0) hp (by simp; omega)) ?_
        rintro x3 h3 ⟨ac3, he3, _, _, _⟩
        have uc := ac3.sv.cells
        have ui := ac3.sv.isCell
        have hph : h3.pol 3 = false := by rw [he3.pol]; exact hp
        have em3 : (l.take i).map encI ++ [.int .i64 n] = (l.take i ++ [n]).map encI := by simp
        rw [em3] at ac3
        have hac := ac3
        have e1 := he3
        refine ⟨_, by simp; first | done | rfl, ?_⟩
        repeat(first|with_reducible first|refine vmR ?_|refine vmV rfl ?_|refine vmW rfl ?_|refine vmL ?_|refine blockW_y (by decide) ?_|((with_reducible first|apply vmO|apply vmT|apply vmC);case a=>simp [t0, t1, t5, t6, t7, ix, uc, ui, newSeq, newSl, hph];with_reducible first|exact .v|exact .c|exact .t|exact .f))
        repeat(first|with_reducible first|refine vmR ?_|refine vmV rfl ?_|refine vmW rfl ?_|refine vmL ?_|refine blockW_y (by decide) ?_|((with_reducible first|apply vmO|apply vmT|apply vmC);case a=>simp [t0, t7, t5, ix, uc, ui, newSeq, newSl, hph];with_reducible first|exact .v|exact .c|exact .t|exact .f))
        with_reducible apply WO_app_i; (case hw => (simp [t0, t7, t5, ix, uc, ui, newSeq, newSl, hph]; done)); (case ho => rfl); (case hb => rfl); (case ha => (simp [t0, t7, t5, ix, uc, ui, newSeq, newSl, hph]; first | done | exact ⟨rfl, rfl⟩ | rfl)); (case h1 => (simp; first | done | rfl)); (case h2 => (simp; first | done | rfl))
        have eb := (HE.refl h3).newSl 1
        refine app_then (AC.app (h0 := h0) etI (hac.of eb) (e1.trans eb) hp (by simp; omega)) ?_
        rintro x4 h4 ⟨ac4, he4, _, _, _⟩
        have xc4 := ac4.sv.cells
        have xi4 := ac4.sv.isCell
        have em : ((l.take i ++ [n])).map encI ++ [.int .i64 x] = ((l.take i ++ [n]) ++ [x]).map encI := by simp
        rw [em] at ac4
        refine ⟨_, by simp; first | done | rfl, ?_⟩
        repeat(first|with_reducible first|refine vmR ?_|refine vmV rfl ?_|refine vmW rfl ?_|refine vmL ?_|refine blockW_y (by decide) ?_|((with_reducible first|apply vmO|apply vmT|apply vmC);case a=>simp [t7, xc4, xi4, wip];with_reducible first|exact .v|exact .c|exact .t|exact .f))
        exact ⟨l.length - ip, by omega, _, _, ip, x4, true, _, rfl, rfl, by omega, by simp [t0], by simp [t1], by simp, by simp, by simp, ac4, he4, by simp; omega, .inr ⟨rfl, by rw [hp0]; simp [putL, c3, show ¬ x < n by omega]⟩⟩
    · repeat(first|with_reducible first|refine vmR ?_|refine vmV rfl ?_|refine vmW rfl ?_|refine vmL ?_|refine blockW_y (by decide) ?_|((with_reducible first|apply vmO|apply vmT|apply vmC);case a=>simp [t0, t1, t5, t6, t7, vl, vn, vc, vi, q, q', ix, uc, ui, newSeq, newSl, hph];with_reducible first|exact .v|exact .c|exact .t|exact .f))
      repeat(first|with_reducible first|refine vmR ?_|refine vmV rfl ?_|refine vmW rfl ?_|refine vmL ?_|refine blockW_y (by decide) ?_|((with_reducible first|apply vmO|apply vmT|apply vmC);case a=>simp [t0, t7, t5, ix, uc, ui, newSeq, newSl, hph];with_reducible first|exact .v|exact .c|exact .t|exact .f))
      with_reducible apply WO_app_i; (case hw => (simp [t0, t7, t5, ix, uc, ui, newSeq, newSl, hph]; done)); (case ho => rfl); (case hb => rfl); (case ha => (simp [t0, t7, t5, ix, uc, ui, newSeq, newSl, hph]; first | done | exact ⟨rfl, rfl⟩ | rfl)); (case h1 => (simp; first | done | rfl)); (case h2 => (simp; first | done | rfl))
      have eb := (HE.refl h).newSl 1
      refine app_then (AC.app (h0 := h0) etI (hac.of eb) (e1.trans eb) hp (by simp; omega)) ?_
      rintro x4 h4 ⟨ac4, he4, _, _, _⟩
      have xc4 := ac4.sv.cells
      have xi4 := ac4.sv.isCell
      have em : (o).map encI ++ [.int .i64 x] = (o ++ [x]).map encI := by simp
      rw [em] at ac4
      refine ⟨_, by simp; first | done | rfl, ?_⟩
      repeat(first|with_reducible first|refine vmR ?_|refine vmV rfl ?_|refine vmW rfl ?_|refine vmL ?_|refine blockW_y (by decide) ?_|((with_reducible first|apply vmO|apply vmT|apply vmC);case a=>simp [t7, xc4, xi4, wip];with_reducible first|exact .v|exact .c|exact .t|exact .f))
      exact ⟨l.length - ip, by omega, _, _, ip, x4, true, _, rfl, rfl, by omega, by simp [t0], by simp [t1], by simp, by simp [t6], by simp, ac4, he4, by simp; omega, .inr ⟨rfl, by rw [← hinv, edr]; simp⟩⟩
  rintro e s ⟨rfl, t, h, u, dn, o, rfl, t1, t5, t6, hac, e1, ol, inv⟩
  have uc := hac.sv.cells
  have ui := hac.sv.isCell
  have hph : h.pol 3 = false := by rw [e1.pol]; exact hp
  rcases inv with ⟨rfl, hx⟩ | ⟨rfl, hx⟩
  · repeat(first|with_reducible first|refine vmR ?_|refine vmV rfl ?_|refine vmW rfl ?_|refine vmL ?_|refine blockW_y (by decide) ?_|((with_reducible first|apply vmO|apply vmT|apply vmC);case a=>simp [t1, t5, t6, uc, ui, newSeq, newSl, hph];with_reducible first|exact .v|exact .c|exact .t|exact .f))
    with_reducible apply WO_app_i; (case hw => (simp [t1, t5, t6, uc, ui, newSeq, newSl, hph]; done)); (case ho => rfl); (case hb => rfl); (case ha => (simp [t1, t5, t6, uc, ui, newSeq, newSl, hph]; first | done | exact ⟨rfl, rfl⟩ | rfl)); (case h1 => (simp; first | done | rfl)); (case h2 => (simp; first | done | rfl))
    have eb0 := (HE.refl h).newSl 1
    refine app_then (AC.app (h0 := h0) etI (hac.of eb0) (e1.trans eb0) hp (by simp; omega)) ?_
    rintro x3 h3 ⟨ac3, he3, _, _, _⟩
    have uc3 := ac3.sv.cells
    have ui3 := ac3.sv.isCell
    refine ⟨_, by simp; first | done | rfl, ?_⟩
    repeat(first|with_reducible first|refine vmR ?_|refine vmV rfl ?_|refine vmW rfl ?_|refine vmL ?_|refine blockW_y (by decide) ?_|((with_reducible first|apply vmO|apply vmT|apply vmC);case a=>simp [uc3, ui3];with_reducible first|exact .v|exact .c|exact .t|exact .f))
    (first | apply endW_r | apply endW_n); (case h1 => (simp [Tryz.results96]; first | done | rfl))
    have em3 : o.map encI ++ [.int .i64 n] = (putL l n).map encI := by rw [← hx]; simp
    rw [em3] at ac3
    exact ⟨ac3.sv, he3⟩
  · repeat(first|with_reducible first|refine vmR ?_|refine vmV rfl ?_|refine vmW rfl ?_|refine vmL ?_|refine blockW_y (by decide) ?_|((with_reducible first|apply vmO|apply vmT|apply vmC);case a=>simp [t1, t5, t6, uc, ui];with_reducible first|exact .v|exact .c|exact .t|exact .f))
    (first | apply endW_r | apply endW_n); (case h1 => (simp [Tryz.results96]; first | done | rfl))
    rw [← hx]
    exact ⟨hac.sv, e1⟩

theorem ends2_ans (a b c d : Int) (v : AV) (hv : SV 2 [encS2 a b, encS2 c d] v) (h0 : Hp Fm) (hp : h0.pol 3 = false) :
    A Tryz.prog TT (.func 71) [v] h0 (fun r h' => SV 1 ((endsL a b c d).map encI) r ∧ HE h0 h') := by
  have vc := hv.cells
  have vi := hv.isCell
  have vn := hv.nm
  have vl := hv.len Tryz.underlying97
  replace vl : lenAV Tryz.prog 97 v = some (.int .i64 2) := by rw [vl]; rfl
  have ix0 := hv.idx (k := .i64) (i := 0) Tryz.underlying97 z33 (by omega) (by simp)
  have ix1 := hv.idx (k := .i64) (i := 1) Tryz.underlying97 z33 (by omega) (by simp)
  replace ix0 : indexAddrAV Tryz.prog 97 v (.int .i64 0) = some (.el (.agg [.int .i64 a, .int .i64 b]) 0) := by rw [ix0]; rfl
  replace ix1 : indexAddrAV Tryz.prog 97 v (.int .i64 1) = some (.el (.agg [.int .i64 c, .int .i64 d]) 0) := by rw [ix1]; rfl
  have w1 : IntKind.i64.wrap (0 + 1) = 1 := rfl
  have w11 : IntKind.i64.wrap 1 = 1 := rfl
  have w2 : IntKind.i64.wrap (1 + 1) = 2 := rfl
  have w22 : IntKind.i64.wrap 2 = 2 := rfl
  have l1 := putL_len [] a
  have l2 := putL_len (putL [] a) b
  have l3 := putL_len (putL (putL [] a) b) c
  simp only [List.length_nil] at l1
  apply A_go Tryz.func71 rfl (by rfl); (case hn => (simp [Tryz.ntmps71]; rfl))
  repeat(first|with_reducible first|refine vmR ?_|refine vmV rfl ?_|refine vmW rfl ?_|refine vmL ?_|refine blockW_y (by decide) ?_|((with_reducible first|apply vmO|apply vmT|apply vmC);case a=>simp [vc, vi];with_reducible first|exact .v|exact .c|exact .t|exact .f))
  refine W_loop_i ?_
  repeat(first|with_reducible first|refine vmR ?_|refine vmV rfl ?_|refine vmW rfl ?_|refine vmL ?_|refine blockW_y (by decide) ?_|((with_reducible first|apply vmO|apply vmT|apply vmC);case a=>simp [vl, vn, vc, vi];with_reducible first|exact .v|exact .c|exact .t|exact .f))
  (with_reducible refine W_draw_id (pln := true) [0, 1, 2, 3, 4, 5, 6, 7, 8, 9, 10, 11, 12, 13] [(5, (5, [])), (11, (11, [0]))] (by kernel_rfl) rfl ?_)
  repeat(first|with_reducible first|refine vmR ?_|refine vmV rfl ?_|refine vmW rfl ?_|refine vmL ?_|refine blockW_y (by decide) ?_|((with_reducible first|apply vmO|apply vmT|apply vmC);case a=>simp [ix0, vc, vi];with_reducible first|exact .v|exact .c|exact .t|exact .f))
  refine A.mono (rput_ans [] .nils (.inl ⟨rfl, rfl⟩) (by simp) a _ hp) ?_
  rintro r1 h1 ⟨s1, e1⟩
  have rc1 := s1.cells
  have ri1 := s1.isCell
  refine ⟨_, by simp; first | done | rfl, ?_⟩
  repeat(first|with_reducible first|refine vmR ?_|refine vmV rfl ?_|refine vmW rfl ?_|refine vmL ?_|refine blockW_y (by decide) ?_|((with_reducible first|apply vmO|apply vmT|apply vmC);case a=>simp [ix0, vc, vi, rc1, ri1];with_reducible first|exact .v|exact .c|exact .t|exact .f))
  refine A.mono (rput_ans _ r1 s1 (by omega) b _ (by rw [e1.pol]; exact hp)) ?_
  rintro r2 h2 ⟨s2, e2⟩
  have rc2 := s2.cells
  have ri2 := s2.isCell
  have e02 := ((HE.refl h0).drew.trans e1).trans e2
  refine ⟨_, by simp; first | done | rfl, ?_⟩
  repeat(first|with_reducible first|refine vmR ?_|refine vmV rfl ?_|refine vmW rfl ?_|refine vmL ?_|refine blockW_y (by decide) ?_|((with_reducible first|apply vmO|apply vmT|apply vmC);case a=>simp [rc2, ri2];with_reducible first|exact .v|exact .c|exact .t|exact .f))
  refine ⟨by simp [readSame, beqAV_self, ix0, vc, vi, rc1, ri1]; done, _, by simp; first | done | rfl, ?_⟩
  repeat(first|with_reducible first|refine vmR ?_|refine vmV rfl ?_|refine vmW rfl ?_|refine vmL ?_|refine blockW_y (by decide) ?_|((with_reducible first|apply vmO|apply vmT|apply vmC);case a=>simp [w1, w11];with_reducible first|exact .v|exact .c|exact .t|exact .f))
  refine W_loop_i ?_
  repeat(first|with_reducible first|refine vmR ?_|refine vmV rfl ?_|refine vmW rfl ?_|refine vmL ?_|refine blockW_y (by decide) ?_|((with_reducible first|apply vmO|apply vmT|apply vmC);case a=>simp [vl, vn, vc, vi];with_reducible first|exact .v|exact .c|exact .t|exact .f))
  (with_reducible refine W_draw_id (pln := true) [0, 1, 2, 3, 4, 5, 6, 7, 8, 9, 10, 11, 12, 13] [(5, (5, [])), (11, (11, [0]))] (by kernel_rfl) rfl ?_)
  repeat(first|with_reducible first|refine vmR ?_|refine vmV rfl ?_|refine vmW rfl ?_|refine vmL ?_|refine blockW_y (by decide) ?_|((with_reducible first|apply vmO|apply vmT|apply vmC);case a=>simp [ix1, vc, vi, rc2, ri2];with_reducible first|exact .v|exact .c|exact .t|exact .f))
  refine A.mono (rput_ans _ r2 s2 (by omega) c _ (by rw [Hp.drew, e02.pol]; exact hp)) ?_
  rintro r3 h3 ⟨s3, e3⟩
  have rc3 := s3.cells
  have ri3 := s3.isCell
  have e03 := e02.drew.trans e3
  refine ⟨_, by simp; first | done | rfl, ?_⟩
  repeat(first|with_reducible first|refine vmR ?_|refine vmV rfl ?_|refine vmW rfl ?_|refine vmL ?_|refine blockW_y (by decide) ?_|((with_reducible first|apply vmO|apply vmT|apply vmC);case a=>simp [ix1, vc, vi, rc3, ri3];with_reducible first|exact .v|exact .c|exact .t|exact .f))
  refine A.mono (rput_ans _ r3 s3 (by omega) d _ (by rw [e03.pol]; exact hp)) ?_
  rintro r4 h4 ⟨s4, e4⟩
  have rc4 := s4.cells
  have ri4 := s4.isCell
  have e04 := e03.trans e4
  refine ⟨_, by simp; first | done | rfl, ?_⟩
  repeat(first|with_reducible first|refine vmR ?_|refine vmV rfl ?_|refine vmW rfl ?_|refine vmL ?_|refine blockW_y (by decide) ?_|((with_reducible first|apply vmO|apply vmT|apply vmC);case a=>simp [rc4, ri4];with_reducible first|exact .v|exact .c|exact .t|exact .f))
  refine ⟨by simp [readSame, beqAV_self, ix1, vc, vi, rc2, ri2, rc3, ri3]; done, _, by simp; first | done | rfl, ?_⟩
  repeat(first|with_reducible first|refine vmR ?_|refine vmV rfl ?_|refine vmW rfl ?_|refine vmL ?_|refine blockW_y (by decide) ?_|((with_reducible first|apply vmO|apply vmT|apply vmC);case a=>simp [w2, w22];with_reducible first|exact .v|exact .c|exact .t|exact .f))
  refine W_loop_i ?_
  repeat(first|with_reducible first|refine vmR ?_|refine vmV rfl ?_|refine vmW rfl ?_|refine vmL ?_|refine blockW_y (by decide) ?_|((with_reducible first|apply vmO|apply vmT|apply vmC);case a=>simp [vl, vn, vc, vi, rc4, ri4];with_reducible first|exact .v|exact .c|exact .t|exact .f))
  (first | apply endW_r | apply endW_n); (case h1 => (simp [Tryz.results71]; first | done | rfl))
  exact ⟨s4, e04⟩
end Go.Vn

set_option maxRecDepth 20000
namespace Go.Vn
open Go.Proofs

theorem WT_app_i {P : Program} {T : Tab} {ops : Array Oper} {o : Oper} {rest : List Oper} {st : St Fm} {acc : List (St Fm)} {Q : List (St Fm) → Prop} {c : Call} {s x : AV} {t1 t2 : Nat} (hw : want ops st.t o = some true) (ho : o.op = .call c) (hb : c.callee = .builtin .append)
    (ha : c.args.toList.map (ev st.t) = [s, x]) (h1 : c.argTypes[0]? = some t1) (h2 : c.argTypes[1]? = some t2)
    (h : ∃ r h', appendAV P st.h t1 t2 s x = some (r, h') ∧ ∃ s', put { st with h := h' } o.dst r = some s' ∧ WT P T ops rest s' (st :: acc) Q) : WT P T ops (o :: rest) st acc Q := by
  obtain ⟨r, h', e1, s', e2, e3⟩ := h
  refine WT_val_i (v := r) (h' := h') hw ?_ e2 e3
  simp only [opEff, ho, hb, builtinAV, ha, h1, h2, Option.bind_some, e1, valh, Option.map_some]


set_option maxHeartbeats 4000000 in
theorem minus4_ans (a b c d : Int) (k2 : May c d) (h0 : Hp Fm) (hp : ∀ z, z = 3 ∨ z = 33 → h0.pol z = false) : A Tryz.prog TT (.func 40) [encS2 a b, encS2 c d] h0 (fun r h' => SV 2 ((minusS a b c d).map encSp) r ∧ HE h0 h') := by
  have hp3 := hp 3 (.inl rfl)
  have hps := hp 33 (.inr rfl)
  have z1 : h0.no ≠ h0.no + 1 := by omega
  apply A_go Tryz.func40 rfl (by rfl); (case hn => (simp [Tryz.ntmps40]; rfl))
  repeat(first|with_reducible first|refine vmR ?_|refine vmV rfl ?_|refine vmW rfl ?_|refine vmL ?_|refine blockW_y (by decide) ?_|((with_reducible first|apply vmO|apply vmT|apply vmC);case a=>simp [z1];with_reducible first|exact .v|exact .c|exact .t|exact .f))
  refine A_heap ?_
  intro hA hhA
  have eA : HE h0 hA := by rw [hhA]; exact ((HE.refl h0).new _).new _
  have g2 : Mp.get hA.obj h0.no = some (.row [.int .i64 a, .int .i64 b]) := by rw [hhA]; simp [z1]
  have g3 : Mp.get hA.obj (h0.no + 1) = some (.row [.int .i64 c, .int .i64 d]) := by rw [hhA]; simp
  have nA : h0.no + 1 < hA.no := by rw [hhA]; exact Nat.lt_succ_self _
  clear hhA
  refine A.mono (may4_ans a b hA) ?_
  rintro _ hB ⟨rfl, eB⟩
  have b2 := (eB.obj _ (by omega)).trans g2
  have b3 := (eB.obj _ nA).trans g3
  have eAB := eA.trans eB
  have nB : h0.no + 1 < hB.no := Nat.lt_of_lt_of_le nA eB.no
  refine ⟨_, by simp; first | done | rfl, ?_⟩
  by_cases k1 : May a b
  case neg =>
    repeat(first|with_reducible first|refine vmR ?_|refine vmV rfl ?_|refine vmW rfl ?_|refine vmL ?_|refine blockW_y (by decide) ?_|((with_reducible first|apply vmO|apply vmT|apply vmC);case a=>simp [k1];with_reducible first|exact .v|exact .c|exact .t|exact .f))
    (first | apply endW_r | apply endW_n); (case h1 => (simp [Tryz.results40]; first | done | rfl))
    have : minusS a b c d = [] := by unfold minusS; rw [if_pos k1]
    rw [this]
    exact ⟨.inl ⟨rfl, rfl⟩, eAB⟩
  have hpb : hB.pol 33 = false := by rw [eAB.pol]; exact hps
  repeat(first|with_reducible first|refine vmR ?_|refine vmV rfl ?_|refine vmW rfl ?_|refine vmL ?_|refine blockW_y (by decide) ?_|((with_reducible first|apply vmO|apply vmT|apply vmC);case a=>simp [k1, b2, b3, newSeq, newSl, hpb];with_reducible first|exact .v|exact .c|exact .t|exact .f))
  have ebs := (HE.refl hB).newSl 2
  refine A.mono (ends2_ans a b c d _ (.inr (.inl ⟨_, _, _, rfl⟩)) _ (by show hB.pol 3 = false; rw [eAB.pol]; exact hp3)) ?_
  rintro ve hC ⟨sv, eC⟩
  have eBC := ebs.trans eC
  obtain ⟨E, hE⟩ : ∃ E, E = endsL a b c d := ⟨_, rfl⟩
  obtain ⟨f, hf⟩ : ∃ f, f = keepI a b c d := ⟨_, rfl⟩
  obtain ⟨sg, ap⟩ := minus_segs a b c d k1 k2
  have rise := endsL_rise a b c d
  have elen := endsL_len a b c d
  rw [← hE] at sv sg ap rise elen
  rw [← hf] at sg ap
  rw [← sg]
  have ec := sv.cells
  have ei := sv.isCell
  have en := sv.nm
  have el := sv.len Tryz.underlying141
  rw [List.length_map] at el
  have c2 := (eBC.obj _ (by omega)).trans b2
  have c3 := (eBC.obj _ nB).trans b3
  have nC : h0.no + 1 < hC.no := Nat.lt_of_lt_of_le nB eBC.no
  have e0C := eAB.trans eBC
  refine ⟨_, by simp; first | done | rfl, ?_⟩
  repeat(first|with_reducible first|refine vmR ?_|refine vmV rfl ?_|refine vmW rfl ?_|refine vmL ?_|refine blockW_y (by decide) ?_|((with_reducible first|apply vmO|apply vmT|apply vmC);case a=>simp [ec, ei];with_reducible first|exact .v|exact .c|exact .t|exact .f))
  refine W_loop (fun z s => ∃ (t : Fm AV) (h : Hp Fm) (i : Nat) (u : AV) (o : List (Int × Int)), s = ⟨t, 85, h, none⟩ ∧ z = E.length - i ∧ i ≤ E.length ∧ tget t 2 = .ptr h0.no 0 ∧ tget t 3 = .ptr (h0.no + 1) 0 ∧ tget t 5 = u ∧ tget t 7 = ve ∧ tget t 8 = .int .i64 i ∧ AC h0 h 2 (o.map encSp) u ∧ HE h0 h ∧ (Mp.get h.obj h0.no = some (.row [.int .i64 a, .int .i64 b]) ∧ Mp.get h.obj (h0.no + 1) = some (.row [.int .i64 c, .int .i64 d]) ∧ h0.no + 1 < h.no) ∧ o.length ≤ i ∧ o ++ segs f (E.drop i) = segs f E ∧ (∀ p ∈ o.getLast?, ∀ hi : i < E.length, p.2 ≤ E[i] ∧ (p.2 = E[i] → f E[i] = false))) E.length
    ⟨_, _, 0, .nils, [], rfl, rfl, by omega, by simp, by simp, by simp, by simp, by simp, .inl ⟨rfl, rfl⟩, e0C, ⟨c2, c3, nC⟩, by simp, by simp, by simp⟩ ?_
  rintro _ _ ⟨t, h, i, u, o, rfl, rfl, hi, t2, t3, t5, t7, t8, hac, e1, ⟨gh2, gh3, nh⟩, ol, inv, lst⟩
  have uc := hac.sv.cells
  have ui := hac.sv.isCell
  obtain ⟨ip, hip⟩ : ∃ ip, ip = i + 1 := ⟨_, rfl⟩
  have wip : IntKind.i64.wrap ((i : Int) + 1) = (ip : Int) := by rw [wrap64 (by omega) (by omega)]; omega
  by_cases q : ip < E.length
  case neg =>
    have q' : ¬ ((ip : Int) < E.length) := by omega
    repeat(first|with_reducible first|refine vmR ?_|refine vmV rfl ?_|refine vmW rfl ?_|refine vmL ?_|refine blockW_y (by decide) ?_|((with_reducible first|apply vmO|apply vmT|apply vmC);case a=>simp [t7, t8, wip, el, en, ec, ei, q, q', t5, uc, ui];with_reducible first|exact .v|exact .c|exact .t|exact .f))
    (first | apply endW_r | apply endW_n); (case h1 => (simp [Tryz.results40]; first | done | rfl))
    have : segs f (E.drop i) = [] := by
      have : (E.drop i).length ≤ 1 := by rw [List.length_drop]; omega
      match hh : E.drop i, this with
      | [], _ => rfl
      | [x], _ => rfl
    rw [this, List.append_nil] at inv
    rw [← inv]
    exact ⟨hac.sv, e1⟩
  have q' : (ip : Int) < E.length := by omega
  have qi : i < E.length := by omega
  obtain ⟨x, hx⟩ : ∃ x, x = E[i] := ⟨_, rfl⟩
  obtain ⟨y, hy⟩ : ∃ y, y = E[ip] := ⟨_, rfl⟩
  have hxy : x < y := by rw [hx, hy]; exact List.pairwise_iff_getElem.mp rise i ip qi q (by omega)
  have edr : E.drop i = x :: y :: E.drop (ip + 1) := by
    rw [List.drop_eq_getElem_cons qi, ← hx, ← hip, List.drop_eq_getElem_cons q, ← hy]
  have edp : E.drop ip = y :: E.drop (ip + 1) := by rw [List.drop_eq_getElem_cons q, ← hy]
  have ixx := sv.idx (k := .i64) (i := (i : Int)) Tryz.underlying141 z3 (by omega) (by rw [List.length_map]; omega)
  replace ixx : indexAddrAV Tryz.prog 141 ve (.int .i64 (i : Int)) = some (.el (.int .i64 x) 0) := by rw [ixx]; simp [hx]
  have ixy := sv.idx (k := .i64) (i := (ip : Int)) Tryz.underlying141 z3 (by omega) (by rw [List.length_map]; omega)
  replace ixy : indexAddrAV Tryz.prog 141 ve (.int .i64 (ip : Int)) = some (.el (.int .i64 y) 0) := by rw [ixy]; simp [hy]
  repeat(first|with_reducible first|refine vmR ?_|refine vmV rfl ?_|refine vmW rfl ?_|refine vmL ?_|refine blockW_y (by decide) ?_|((with_reducible first|apply vmO|apply vmT|apply vmC);case a=>simp [t7, t8, wip, el, en, ec, ei, q, q'];with_reducible first|exact .v|exact .c|exact .t|exact .f))
  (with_reducible refine W_draw_id (pln := true) [0, 1, 2, 3, 4, 5, 6] [(0, (0, [])), (4, (4, []))] (by kernel_rfl) rfl ?_)
  repeat(first|with_reducible first|refine vmR ?_|refine vmV rfl ?_|refine vmW rfl ?_|refine vmL ?_|refine blockW_y (by decide) ?_|((with_reducible first|apply vmO|apply vmT|apply vmC);case a=>simp [t2, t7, t8, gh2, ixx, ec, ei];with_reducible first|exact .v|exact .c|exact .t|exact .f))
  refine A.mono (has4_ans a b x _) ?_
  rintro _ hD ⟨rfl, eD⟩
  have eD' : HE h hD := ((HE.refl h).drew).trans eD
  have gd2 := (eD'.obj _ (by omega)).trans gh2
  have gd3 := (eD'.obj _ nh).trans gh3
  refine ⟨_, by simp; first | done | rfl, ?_⟩
  repeat(first|with_reducible first|refine vmR ?_|refine vmV rfl ?_|refine vmW rfl ?_|refine vmL ?_|refine blockW_y (by decide) ?_|((with_reducible first|apply vmO|apply vmT|apply vmC);case a=>simp [t2, t7, t8, gh2, gd2, ixx, ec, ei];with_reducible first|exact .v|exact .c|exact .t|exact .f))
  refine ⟨by simp [readSame, beqAV_self, t2, t7, t8, gh2, gd2, ixx, ec, ei]; done, _, by simp; first | done | rfl, ?_⟩
  repeat(first|with_reducible first|refine vmR ?_|refine vmV rfl ?_|refine vmW rfl ?_|refine vmL ?_|refine blockW_y (by decide) ?_|((with_reducible first|apply vmO|apply vmT|apply vmC);case a=>simp;with_reducible first|exact .v|exact .c|exact .t|exact .f))
  (with_reducible refine W_draw_id (pln := true) [0, 1, 2, 3, 4, 5, 6] [(0, (0, [])), (4, (4, []))] (by kernel_rfl) rfl ?_)
  repeat(first|with_reducible first|refine vmR ?_|refine vmV rfl ?_|refine vmW rfl ?_|refine vmL ?_|refine blockW_y (by decide) ?_|((with_reducible first|apply vmO|apply vmT|apply vmC);case a=>simp [t3, t7, t8, gd3, ixx, ec, ei];with_reducible first|exact .v|exact .c|exact .t|exact .f))
  refine A.mono (has4_ans c d x _) ?_
  rintro _ hF ⟨rfl, eF⟩
  have eF' : HE hD hF := ((HE.refl hD).drew).trans eF
  have gf2 := (eF'.obj _ (Nat.lt_of_lt_of_le (by omega) eD'.no)).trans gd2
  have gf3 := (eF'.obj _ (Nat.lt_of_lt_of_le nh eD'.no)).trans gd3
  have e1F := e1.trans (eD'.trans eF')
  have ehF : Mp.get hF.obj h0.no = some (.row [.int .i64 a, .int .i64 b]) ∧ Mp.get hF.obj (h0.no + 1) = some (.row [.int .i64 c, .int .i64 d]) ∧ h0.no + 1 < hF.no := ⟨gf2, gf3, Nat.lt_of_lt_of_le nh (Nat.le_trans eD'.no eF'.no)⟩
  have hacF := hac.of (eD'.trans eF')
  refine ⟨_, by simp; first | done | rfl, ?_⟩
  repeat(first|with_reducible first|refine vmR ?_|refine vmV rfl ?_|refine vmW rfl ?_|refine vmL ?_|refine blockW_y (by decide) ?_|((with_reducible first|apply vmO|apply vmT|apply vmC);case a=>simp [t3, t7, t8, gd3, gf3, ixx, ec, ei];with_reducible first|exact .v|exact .c|exact .t|exact .f))
  refine ⟨by simp [readSame, beqAV_self, t3, t7, t8, gd3, gf3, ixx, ec, ei]; done, _, by simp; first | done | rfl, ?_⟩
  have fx : f x = (decide (Has a b x) && !(decide (Has c d x))) := by rw [hf]; rfl
  have apx : f x = true → f y = false := fun h => by
    have := apart_at i (by omega) ap (by rw [← hx]; exact h)
    simp only [← hip] at this
    rw [hy]; exact this
  have stay : ∀ p ∈ o.getLast?, ∀ hi : ip < E.length, p.2 ≤ E[ip] ∧ (p.2 = E[ip] → f E[ip] = false) := fun p hp hi2 => by
    have := (lst p hp qi).1
    rw [← hx] at this
    rw [← hy]
    exact ⟨by omega, fun e => by omega⟩
  by_cases ka : Has a b x
  case neg =>
    have fn : f x = false := by rw [fx]; simp [ka]
    repeat(first|with_reducible first|refine vmR ?_|refine vmV rfl ?_|refine vmW rfl ?_|refine vmL ?_|refine blockW_y (by decide) ?_|((with_reducible first|apply vmO|apply vmT|apply vmC);case a=>simp [ka];with_reducible first|exact .v|exact .c|exact .t|exact .f))
    repeat(first|with_reducible first|refine vmR ?_|refine vmV rfl ?_|refine vmW rfl ?_|refine vmL ?_|refine blockW_y (by decide) ?_|((with_reducible first|apply vmO|apply vmT|apply vmC);case a=>simp [t8, wip];with_reducible first|exact .v|exact .c|exact .t|exact .f))
    exact ⟨E.length - ip, by omega, _, _, ip, u, o, rfl, rfl, by omega, by simp [t2], by simp [t3], by simp [t5], by simp [t7], by simp, hacF, e1F, ehF, by omega, by rw [← inv, edr, edp, segs_cons, fn]; rfl, stay⟩
  by_cases kc : Has c d x
  case pos =>
    have fn : f x = false := by rw [fx]; simp [kc]
    repeat(first|with_reducible first|refine vmR ?_|refine vmV rfl ?_|refine vmW rfl ?_|refine vmL ?_|refine blockW_y (by decide) ?_|((with_reducible first|apply vmO|apply vmT|apply vmC);case a=>simp [ka, kc];with_reducible first|exact .v|exact .c|exact .t|exact .f))
    repeat(first|with_reducible first|refine vmR ?_|refine vmV rfl ?_|refine vmW rfl ?_|refine vmL ?_|refine blockW_y (by decide) ?_|((with_reducible first|apply vmO|apply vmT|apply vmC);case a=>simp [t8, wip];with_reducible first|exact .v|exact .c|exact .t|exact .f))
    exact ⟨E.length - ip, by omega, _, _, ip, u, o, rfl, rfl, by omega, by simp [t2], by simp [t3], by simp [t5], by simp [t7], by simp, hacF, e1F, ehF, by omega, by rw [← inv, edr, edp, segs_cons, fn]; rfl, stay⟩
  have fn : f x = true := by rw [fx]; simp [ka, kc]
  have hpF : hF.pol 33 = false := by rw [e1F.pol]; exact hps
  have el2 := hac.sv.len Tryz.underlying97
  rw [List.length_map] at el2
  have en2 := hac.sv.nm
  have ebF := ((HE.refl hF).drew).drew.newSl 1
  have newl : ∀ p ∈ (o ++ [(x, y)]).getLast?, ∀ hi : ip < E.length, p.2 ≤ E[ip] ∧ (p.2 = E[ip] → f E[ip] = false) := fun p hp hi2 => by
    simp at hp
    subst hp
    rw [← hy]
    exact ⟨Int.le_refl _, fun _ => apx fn⟩
  have news : (o ++ [(x, y)]) ++ segs f (E.drop ip) = segs f E := by rw [← inv, edr, edp, segs_cons, fn]; simp
  repeat(first|with_reducible first|refine vmR ?_|refine vmV rfl ?_|refine vmW rfl ?_|refine vmL ?_|refine blockW_y (by decide) ?_|((with_reducible first|apply vmO|apply vmT|apply vmC);case a=>simp [ka, kc];with_reducible first|exact .v|exact .c|exact .t|exact .f))
  (with_reducible refine W_draw_id (pln := true) [0, 1, 2, 3, 4, 5, 6, 7, 8, 9, 10, 11, 12, 13, 14, 15, 16] [(10, (10, [])), (14, (14, []))] (by kernel_rfl) rfl ?_)
  rcases List.eq_nil_or_concat o with rfl | ⟨o1, p, ho⟩
  · simp only [List.length_nil, Int.ofNat_zero] at el2
    repeat(first|with_reducible first|refine vmR ?_|refine vmV rfl ?_|refine vmW rfl ?_|refine vmL ?_|refine blockW_y (by decide) ?_|((with_reducible first|apply vmO|apply vmT|apply vmC);case a=>simp [t5, t7, t8, el2, en2, uc, ui];with_reducible first|exact .v|exact .c|exact .t|exact .f))
    refine ⟨by simp [readSame, beqAV_self, t5, t7, t8, el2, en2, uc, ui]; done, _, by simp; first | done | rfl, ?_⟩
    repeat(first|with_reducible first|refine vmR ?_|refine vmV rfl ?_|refine vmW rfl ?_|refine vmL ?_|refine blockW_y (by decide) ?_|((with_reducible first|apply vmO|apply vmT|apply vmC);case a=>simp;with_reducible first|exact .v|exact .c|exact .t|exact .f))
    (with_reducible refine W_draw_id (pln := true) [0, 1, 2, 3, 4, 5, 6, 7, 8, 9, 10, 11, 12, 13] [(4, (4, [])), (9, (9, []))] (by kernel_rfl) rfl ?_)
    repeat(first|with_reducible first|refine vmR ?_|refine vmV rfl ?_|refine vmW rfl ?_|refine vmL ?_|refine blockW_y (by decide) ?_|((with_reducible first|apply vmO|apply vmT|apply vmC);case a=>simp [t5, t7, t8, ixx, ixy, wip, ec, ei, uc, ui, newSeq, newSl, hpF];with_reducible first|exact .v|exact .c|exact .t|exact .f))
    with_reducible apply WT_app_i; (case hw => (simp [t5, t7, t8, ixx, ixy, wip, ec, ei, uc, ui, newSeq, newSl, hpF]; done)); (case ho => rfl); (case hb => rfl); (case ha => (simp [t5, t7, t8, ixx, ixy, wip, ec, ei, uc, ui, newSeq, newSl, hpF]; first | done | exact ⟨rfl, rfl⟩ | rfl)); (case h1 => (simp; first | done | rfl)); (case h2 => (simp; first | done | rfl))
    refine app_then (AC.app (h0 := h0) ets (hacF.of ebF) (e1F.trans ebF) hps (by first | (simp; done) | (simp; omega))) ?_
    rintro x4 h4 ⟨ac4, he4, ho4, hn4, hg4⟩
    have xc4 := ac4.sv.cells
    have xi4 := ac4.sv.isCell
    refine ⟨_, by simp; first | done | rfl, ?_⟩
    repeat(first|with_reducible first|refine vmR ?_|refine vmV rfl ?_|refine vmW rfl ?_|refine vmL ?_|refine blockW_y (by decide) ?_|((with_reducible first|apply vmO|apply vmT|apply vmC);case a=>simp [xc4, xi4];with_reducible first|exact .v|exact .c|exact .t|exact .f))
    refine ⟨by simp [readSame, beqAV_self, t5, t7, t8, ixx, ixy, wip, ec, ei, uc, ui]; done, _, by simp; first | done | rfl, ?_⟩
    repeat(first|with_reducible first|refine vmR ?_|refine vmV rfl ?_|refine vmW rfl ?_|refine vmL ?_|refine blockW_y (by decide) ?_|((with_reducible first|apply vmO|apply vmT|apply vmC);case a=>simp [t8, wip];with_reducible first|exact .v|exact .c|exact .t|exact .f))
    exact ⟨E.length - ip, by omega, _, _, ip, x4, [(x, y)], rfl, rfl, by omega, by simp [t2], by simp [t3], by simp, by simp [t7], by simp, ac4, he4, ⟨by rw [ho4]; exact gf2, by rw [ho4]; exact gf3, by rw [hn4]; exact ehF.2.2⟩, by simp; omega, news, newl⟩
  · rw [List.concat_eq_append] at ho
    subst ho
    have hpx : ¬ p.2 = x := fun e => by
      have := (lst p (by simp) qi).2 (by rw [← hx]; exact e)
      rw [← hx, fn] at this; cases this
    have ol1 : ((o1 ++ [p]).length : Int) = (o1.length : Int) + 1 := by simp
    rw [ol1] at el2
    have wl : IntKind.i64.wrap ((o1.length : Int) + 1 - 1) = (o1.length : Int) := by rw [wrap64 (by omega) (by simp at ol; omega)]; omega
    have wl2 : IntKind.i64.wrap (o1.length : Int) = (o1.length : Int) := wrap64 (by omega) (by simp at ol; omega)
    have ixu := hac.sv.idx (k := .i64) (i := (o1.length : Int)) Tryz.underlying97 z33 (by omega) (by simp)
    replace ixu : indexAddrAV Tryz.prog 97 u (.int .i64 (o1.length : Int)) = some (.el (.agg [.int .i64 p.1, .int .i64 p.2]) 0) := by rw [ixu]; simp [encSp]
    have pos1 : (0 : Int) < (o1.length : Int) + 1 := by omega
    repeat(first|with_reducible first|refine vmR ?_|refine vmV rfl ?_|refine vmW rfl ?_|refine vmL ?_|refine blockW_y (by decide) ?_|((with_reducible first|apply vmO|apply vmT|apply vmC);case a=>simp [t5, t7, t8, el2, en2, uc, ui, pos1, wl, wl2, ixu, ixx, hpx, ec, ei];with_reducible first|exact .v|exact .c|exact .t|exact .f))
    refine ⟨by simp [readSame, beqAV_self, t5, t7, t8, el2, en2, uc, ui, pos1, wl, wl2, ixu, ixx, hpx, ec, ei]; done, _, by simp; first | done | rfl, ?_⟩
    repeat(first|with_reducible first|refine vmR ?_|refine vmV rfl ?_|refine vmW rfl ?_|refine vmL ?_|refine blockW_y (by decide) ?_|((with_reducible first|apply vmO|apply vmT|apply vmC);case a=>simp;with_reducible first|exact .v|exact .c|exact .t|exact .f))
    (with_reducible refine W_draw_id (pln := true) [0, 1, 2, 3, 4, 5, 6, 7, 8, 9, 10, 11, 12, 13] [(4, (4, [])), (9, (9, []))] (by kernel_rfl) rfl ?_)
    repeat(first|with_reducible first|refine vmR ?_|refine vmV rfl ?_|refine vmW rfl ?_|refine vmL ?_|refine blockW_y (by decide) ?_|((with_reducible first|apply vmO|apply vmT|apply vmC);case a=>simp [t5, t7, t8, ixx, ixy, wip, ec, ei, uc, ui, newSeq, newSl, hpF];with_reducible first|exact .v|exact .c|exact .t|exact .f))
    with_reducible apply WT_app_i; (case hw => (simp [t5, t7, t8, ixx, ixy, wip, ec, ei, uc, ui, newSeq, newSl, hpF]; done)); (case ho => rfl); (case hb => rfl); (case ha => (simp [t5, t7, t8, ixx, ixy, wip, ec, ei, uc, ui, newSeq, newSl, hpF]; first | done | exact ⟨rfl, rfl⟩ | rfl)); (case h1 => (simp; first | done | rfl)); (case h2 => (simp; first | done | rfl))
    refine app_then (AC.app (h0 := h0) ets (hacF.of ebF) (e1F.trans ebF) hps (by first | (simp; done) | (simp; omega))) ?_
    rintro x4 h4 ⟨ac4, he4, ho4, hn4, hg4⟩
    have xc4 := ac4.sv.cells
    have xi4 := ac4.sv.isCell
    refine ⟨_, by simp; first | done | rfl, ?_⟩
    repeat(first|with_reducible first|refine vmR ?_|refine vmV rfl ?_|refine vmW rfl ?_|refine vmL ?_|refine blockW_y (by decide) ?_|((with_reducible first|apply vmO|apply vmT|apply vmC);case a=>simp [xc4, xi4];with_reducible first|exact .v|exact .c|exact .t|exact .f))
    refine ⟨by simp [readSame, beqAV_self, t5, t7, t8, ixx, ixy, wip, ec, ei, uc, ui]; done, _, by simp; first | done | rfl, ?_⟩
    repeat(first|with_reducible first|refine vmR ?_|refine vmV rfl ?_|refine vmW rfl ?_|refine vmL ?_|refine blockW_y (by decide) ?_|((with_reducible first|apply vmO|apply vmT|apply vmC);case a=>simp [t8, wip];with_reducible first|exact .v|exact .c|exact .t|exact .f))
    have em : (o1 ++ [p]).map encSp ++ [.agg [.int .i64 x, .int .i64 y]] = ((o1 ++ [p]) ++ [(x, y)]).map encSp := by simp [encSp]
    exact ⟨E.length - ip, by omega, _, _, ip, x4, (o1 ++ [p]) ++ [(x, y)], rfl, rfl, by omega, by simp [t2], by simp [t3], by simp, by simp [t7], by simp, (by rw [← em]; exact ac4), he4, ⟨by rw [ho4]; exact gf2, by rw [ho4]; exact gf3, by rw [hn4]; exact ehF.2.2⟩, by simp; omega, news, newl⟩
end Go.Vn
