/- What functions of the program come to, in the value machine (a part of the proof of the claim's statement). No condition. -/
import Derived.Test.YtbhgefhjpfnhfaaVnG6
set_option linter.unusedSimpArgs false
set_option linter.unusedVariables false
set_option maxRecDepth 20000
namespace Go.Vn
open Go.Proofs

theorem guP : (Try.prog.stoodInHeld 75 || Try.prog.eqGuardType Try.prog.depth 75) = false := by kernel_rfl
theorem guS : (Try.prog.stoodInHeld 36 || Try.prog.eqGuardType Try.prog.depth 36) = false := by kernel_rfl
theorem eqB_iff (a b : List UInt8) : eqB a b = decide (a = b) := by rw [eqB_eq]; by_cases h : a = b <;> simp [h]
theorem eql9 (d : Nat) (a b : List UInt8) : eqlAV Try.prog (d + 1) 9 (.str a) (.str b) = some (eqB a b) := by simp [eqlAV]
theorem eqlS (d : Nat) (a b x y : Int) : eqlAV Try.prog (d + 2) 36 (.agg [.int .i64 a, .int .i64 b]) (.agg [.int .i64 x, .int .i64 y]) = some (decide (a = x) && decide (b = y)) := by
  unfold eqlAV
  simp only [Try.underlying36, guS, List.toList_toArray, List.foldr_cons, List.foldr_nil]
  simp [eqlAV]
  by_cases h1 : a = x <;> by_cases h2 : b = y <;> simp [h1, h2]
theorem eqlP (x y : Pc) : eqlAV Try.prog 20 75 (encP x) (encP y) = some (decide (x = y)) := by
  obtain ⟨a1, b1, c1⟩ := x
  obtain ⟨a2, b2, c2⟩ := y
  unfold eqlAV
  simp only [Try.underlying75, guP, List.toList_toArray, List.foldr_cons, List.foldr_nil]
  simp [eql9, eqlS, eqB_iff]
  by_cases h1 : a1 = a2 <;> by_cases h2 : b1 = b2 <;> by_cases h3 : c1 = c2 <;> simp [h1, h2, h3]

theorem part3 {cs : List AV} {off : Nat} {a b c : AV} (h : partAV true 3 cs off = some (.agg [a, b, c])) : partAV false 1 cs off = some a ∧ (∀ y, splice cs (off + 1) [y] = splice cs off [a, y, c]) ∧ off + 3 ≤ cs.length := by
  unfold partAV at h
  rw [if_pos rfl] at h
  split at h
  · rename_i hl
    injection h with h
    injection h with h
    obtain ⟨D, hD⟩ : ∃ D, D = cs.drop (off + 3) := ⟨_, rfl⟩
    have hd : cs.drop off = a :: b :: c :: D := by
      have := List.take_append_drop 3 (cs.drop off)
      rw [h, List.drop_drop, ← hD] at this
      simpa using this.symm
    obtain ⟨A, hA⟩ : ∃ A, A = cs.take off := ⟨_, rfl⟩
    have hcs : cs = A ++ a :: b :: c :: D := by rw [hA, ← hd, List.take_append_drop]
    have hAl : A.length = off := by rw [hA, List.length_take]; omega
    refine ⟨?_, ?_, hl⟩
    · unfold partAV
      rw [if_neg (by simp), hcs, List.getElem?_append_right (by omega), hAl, Nat.sub_self]; rfl
    · intro y
      unfold splice
      have t1 : cs.take (off + 1) = A ++ [a] := by rw [hcs, List.take_append, hAl, List.take_of_length_le (by omega)]; simp
      have t2 : cs.take off = A := hA.symm
      have d1 : cs.drop (off + 1 + [y].length) = c :: D := by
        rw [show off + 1 + [y].length = off + 2 by rfl, ← List.drop_drop, hd]; rfl
      have d2 : cs.drop (off + [a, y, c].length) = D := by rw [hD]; rfl
      rw [t1, t2, d1, d2]; simp
  · cases h

theorem leastS_len (out : List Pc) (p : Pc) : (leastS out p).length ≤ out.length + 1 := by
  rcases snoc_cases out with rfl | ⟨m, q, rfl⟩
  · simp [leastS_nil]
  · rw [leastS_snoc]; split <;> simp
theorem least_len_go : ∀ (l out : List Pc), (l.foldl leastS out).length ≤ out.length + l.length
  | [], out => by simp
  | p :: l, out => by
    have := leastS_len out p
    have := least_len_go l (leastS out p)
    rw [List.foldl_cons, List.length_cons]; omega

set_option maxHeartbeats 4000000 in
theorem least_ans (ps : List Pc) (v : AV) (hv : SV 3 (ps.map encP) v) (hl : ps.length ≤ 16000000) (h0 : Hp Fm) :
    A Try.prog TT (.func 36) [v] h0 (fun r h' => SL 3 ((leastP ps).map encP) r ∧ HE h0 h') := by
  have vc := hv.cells
  have vd := hv.isCell
  have l1 := hv.len Try.underlying72
  rw [List.length_map] at l1
  have n1 := hv.nm
  apply A_goT Try.func36 rfl (by rfl); (case hn => (simp [Try.ntmps36]; rfl))
  obtain ⟨hq, hhq⟩ : ∃ hq : Hp Fm, hq = { h0 with pol := (· == 75) } := ⟨_, rfl⟩
  have hqp : hq.pol = (· == 75) := by rw [hhq]
  rw [← hhq]
  repeat(first|with_reducible first|refine vmR ?_|refine vmV rfl ?_|refine vmW rfl ?_|refine vmL ?_|refine blockW_y (by decide) ?_|((with_reducible first|apply vmO|apply vmT|apply vmC);case a=>simp [l1, n1];with_reducible first|exact .v|exact .c|exact .t|exact .f))
  refine W_loop (fun m s => ∃ (t : Fm AV) (h : Hp Fm) (i : Nat) (u : AV), s = ⟨t, 52, h, none⟩ ∧ m = ps.length - i ∧ i ≤ ps.length ∧ tget t 7 = v ∧ tget t 8 = .int .i64 ps.length ∧ tget t 9 = .int .i64 i ∧ tget t 3 = u ∧ RS hq.no h 3 true (((ps.take i).foldl leastS []).map encP) u ∧ HE hq h) ps.length
    ⟨_, _, 0, .nils, rfl, rfl, by omega, by simp, by simp, by simp, by simp, .inl ⟨rfl, by simp⟩, HE.refl _⟩ ?_
  rintro m s ⟨t, h, i, u, rfl, rfl, hi, t7, t8, t9, t3, hu, he⟩
  have uc := hu.cells
  have ud := hu.isCell
  by_cases qi : i < ps.length
  case neg =>
    have qn : ¬ (i < ps.length) := qi
    repeat(first|with_reducible first|refine vmR ?_|refine vmV rfl ?_|refine vmW rfl ?_|refine vmL ?_|refine blockW_y (by decide) ?_|((with_reducible first|apply vmO|apply vmT|apply vmC);case a=>simp [t7, t8, t9, t3, qi, qn, uc, ud];with_reducible first|exact .v|exact .c|exact .t|exact .f))
    (first | apply endW_r | apply endW_n); (case h1 => (simp [Try.results36]; first | done | rfl))
    rw [List.take_of_length_le (by omega)] at hu
    obtain ⟨f1, f2⟩ := hu.frz (fitPs _) (by omega) (fun e => by cases e)
    have f3 := he.x2 f2 hu.rows (fun _ e => e.elim)
    have f4 := hu.frzL (fitPs _) (by omega) (fun e => by cases e)
    simp only [t3]
    refine ⟨f4, ?_⟩
    subst hhq
    exact ⟨f3.no, f3.ng, rfl, f3.obj, f3.len⟩
  have i1 := hv.idx Try.underlying72 z75 (k := .i64) (i := i) (by simp) (by simpa using qi)
  simp only [List.getElem_map, Int.toNat_natCast] at i1
  have hal := least_len_go (ps.take i) []
  rw [List.length_take, List.length_nil] at hal
  have htk : (ps.take (i + 1)).foldl leastS [] = leastS ((ps.take i).foldl leastS []) ps[i] := by
    rw [List.take_succ_eq_append_getElem qi, List.foldl_append]; rfl
  obtain ⟨acc, hacc⟩ : ∃ acc, acc = (ps.take i).foldl leastS [] := ⟨_, rfl⟩
  obtain ⟨x, hx⟩ : ∃ x, x = ps[i] := ⟨_, rfl⟩
  rw [← hacc] at hu htk hal
  rw [← hx] at i1 htk
  have w1 : IntKind.i64.wrap ((i : Int) + 1) = ((i + 1 : Nat) : Int) := by rw [wrap64 (by omega) (by omega)]; simp
  have lu := hu.len Try.underlying72
  rw [List.length_map] at lu
  have nu := hu.nm
  repeat(first|with_reducible first|refine vmR ?_|refine vmV rfl ?_|refine vmW rfl ?_|refine vmL ?_|refine blockW_y (by decide) ?_|((with_reducible first|apply vmO|apply vmT|apply vmC);case a=>simp [t7, t8, t9, t3, qi, i1];with_reducible first|exact .v|exact .c|exact .t|exact .f))
  obtain ⟨h1, hh1⟩ : ∃ h1 : Hp Fm, h1 = { h with obj := Mp.set (Mp.set h.obj h.no (.row [.int .i64 0, .int .i64 0, .str []])) h.no (.row [.int .i64 x.fr, .int .i64 x.to, .str x.val]), no := h.no + 1 } := ⟨_, rfl⟩
  have hx1 : HE h h1 := by rw [hh1]; exact ((HE.refl h).new (.row [.int .i64 0, .int .i64 0, .str []])).set (Nat.le_refl _) _
  have g7 : Mp.get h1.obj h.no = some (.row [.int .i64 x.fr, .int .i64 x.to, .str x.val]) := by rw [hh1]; simp
  have hno : h.no < h1.no := by rw [hh1]; simp
  rw [← hh1]
  have he1 := he.trans hx1
  have hu1 := hu.he hx1
  have q1 : h1.pol 75 = true := by rw [he1.pol, hqp]; rfl
  rcases snoc_cases acc with hnil | ⟨mm, q, hsn⟩
  · have hal0 : acc.length = 0 := by rw [hnil]; rfl
    have w2 : IntKind.i64.wrap ((acc.length : Int) - 1) = -1 := by rw [hal0]; rfl
    repeat(first|with_reducible first|refine vmR ?_|refine vmV rfl ?_|refine vmW rfl ?_|refine vmL ?_|refine blockW_y (by decide) ?_|((with_reducible first|apply vmO|apply vmT|apply vmC);case a=>simp [t7, t8, t9, t3, lu, nu, w2];with_reducible first|exact .v|exact .c|exact .t|exact .f))
    (with_reducible refine W_draw_id (pln := true) [0, 1, 2, 3, 4, 5, 6, 7, 8, 9, 10, 11, 12, 13, 14, 15, 16, 17, 18, 19, 20, 21] [(6, (6, [])), (12, (12, [])), (15, (15, [])), (18, (18, []))] (by kernel_rfl) rfl ?_)
    repeat(first|with_reducible first|refine vmR ?_|refine vmV rfl ?_|refine vmW rfl ?_|refine vmL ?_|refine blockW_y (by decide) ?_|((with_reducible first|apply vmO|apply vmT|apply vmC);case a=>simp [t7, t8, t9, t3];with_reducible first|exact .v|exact .c|exact .t|exact .f))
    refine ⟨by simp [readSame, beqAV_self, t3]; done, _, by simp; first | done | rfl, ?_⟩
    repeat(first|with_reducible first|refine vmR ?_|refine vmV rfl ?_|refine vmW rfl ?_|refine vmL ?_|refine blockW_y (by decide) ?_|((with_reducible first|apply vmO|apply vmT|apply vmC);case a=>simp [t7, t8, t9, t3, g7, newSeq, q1, uc, ud];with_reducible first|exact .v|exact .c|exact .t|exact .f))
    with_reducible apply WO_app_i; (case hw => (simp [t7, t8, t9, t3, g7, newSeq, q1, uc, ud]; done)); (case ho => rfl); (case hb => rfl); (case ha => (simp [t7, t8, t9, t3, g7, newSeq, q1, uc, ud]; first | done | exact ⟨rfl, rfl⟩ | rfl)); (case h1 => (simp; first | done | rfl)); (case h2 => (simp; first | done | rfl))
    have hz1 : HE h1.drew (newRs h1.drew 3 true [.int .i64 0, .int .i64 0, .str []] 1 [encP x]).2 := HE.x2 (HE.refl _) (newRs_hx (fun _ => False) (fun _ => False) _ _ _ _ _ _) (fun _ e => e.elim) (fun _ e => e.elim)
    have hz2 := he1.drew.trans hz1
    refine app_then (RS.appN (lo := hq.no) (h := (newRs h1.drew 3 true [.int .i64 0, .int .i64 0, .str []] 1 [encP x]).2) etp (v := u) ((hu1.he (HE.refl h1).drew).he hz1) hz2.no (by rw [hz2.pol, hqp]; rfl) ((RS.fresh etp (lo := 0) (h := h1.drew) (Nat.zero_le _) 1 [encP x] (by simp)).newEls (fitPs [x]) (by omega) (fun e => by cases e)) (fitPs _) (fitPs [x]) (by simp; omega)) ?_
    rintro w4 h4 ⟨rs4, hx4, hq4, hr4⟩
    have e4 := rs4.cells
    have f4 := rs4.isCell
    refine ⟨_, by simp; first | done | rfl, ?_⟩
    repeat(first|with_reducible first|refine vmR ?_|refine vmV rfl ?_|refine vmW rfl ?_|refine vmL ?_|refine blockW_y (by decide) ?_|((with_reducible first|apply vmO|apply vmT|apply vmC);case a=>simp [t7, t8, t9, t3, e4, f4, w1];with_reducible first|exact .v|exact .c|exact .t|exact .f))
    refine ⟨_, ?_, _, _, i + 1, _, rfl, rfl, by omega, by simp [t7], by simp [t8], by simp, rfl, ?_, hz2.x2 hx4 hu.rows (fun _ e => e.elim)⟩
    · omega
    · rw [htk, show leastS acc x = acc ++ [x] by rw [hnil]; rfl, List.map_append]; simpa using rs4
  obtain ⟨k, hk⟩ : ∃ k, k = mm.length := ⟨_, rfl⟩
  have hakl : acc.length = k + 1 := by rw [hsn, hk]; simp
  have w2 : IntKind.i64.wrap ((acc.length : Int) - 1) = (k : Int) := by rw [wrap64 (by omega) (by omega)]; omega
  have hkq : acc[k]'(by omega) = q := by simp [hsn, hk]
  rcases hu with ⟨e0, hx0⟩ | ⟨o, cap, e0, hlo, hrs⟩
  · have : acc.length = 0 := by simpa using congrArg List.length hx0
    omega
  have hrs1 := hrs.he hx1
  have hon := hrs.on
  obtain ⟨cs, gr, pt, hle, hset⟩ := hrs1.at_ (fitPs _) (i := k) (by rw [List.length_map]; omega)
  simp only [List.getElem_map, hkq] at pt
  have pt' := pt
  simp only [encP] at pt
  obtain ⟨pf0, psp, pl⟩ := part3 pt
  have ix : indexAddrAV Try.prog 72 u (.int .i64 (k : Int)) = some (.ptr o (k * 3)) := by
    rw [e0, index_rs Try.underlying72 z75 (by omega) (by rw [List.length_map]; omega), Int.toNat_natCast]
  have ho : o ≠ h.no := by omega
  have ho' : h.no ≠ o := by omega
  have eq33 := eqlP q ⟨q.fr, x.fr, x.val⟩
  simp only [encP] at eq33
  have hls : leastS acc x = if q.to = x.fr ∧ q.val = x.val then mm ++ [⟨q.fr, x.to, q.val⟩] else acc ++ [x] := by rw [hsn, leastS_snoc]
  have hdec : decide (q = ⟨q.fr, x.fr, x.val⟩) = decide (q.to = x.fr ∧ q.val = x.val) := by
    obtain ⟨a, b, c⟩ := q
    simp
  rw [hdec] at eq33
  have kk : (0 : Int) ≤ (k : Int) := by omega
  repeat(first|with_reducible first|refine vmR ?_|refine vmV rfl ?_|refine vmW rfl ?_|refine vmL ?_|refine blockW_y (by decide) ?_|((with_reducible first|apply vmO|apply vmT|apply vmC);case a=>simp [t7, t8, t9, t3, lu, nu, w2];with_reducible first|exact .v|exact .c|exact .t|exact .f))
  (with_reducible refine W_draw_id (pln := true) [0, 1, 2, 3, 4, 5, 6, 7, 8, 9, 10, 11, 12, 13, 14, 15, 16, 17, 18, 19, 20, 21] [(6, (6, [])), (12, (12, [])), (15, (15, [])), (18, (18, []))] (by kernel_rfl) rfl ?_)
  by_cases qc : q.to = x.fr ∧ q.val = x.val
  case neg =>
    rw [if_neg qc] at hls
    rw [decide_eq_false qc] at eq33
    have hu : RS hq.no h 3 true (acc.map encP) u := .inr ⟨o, cap, e0, hlo, hrs⟩
    repeat(first|with_reducible first|refine vmR ?_|refine vmV rfl ?_|refine vmW rfl ?_|refine vmL ?_|refine blockW_y (by decide) ?_|((with_reducible first|apply vmO|apply vmT|apply vmC);case a=>simp [t7, t8, t9, t3, kk, ix, gr, pt, pf0, g7, eq33];with_reducible first|exact .v|exact .c|exact .t|exact .f))
    refine ⟨by simp [readSame, beqAV_self, t3]; done, _, by simp; first | done | rfl, ?_⟩
    repeat(first|with_reducible first|refine vmR ?_|refine vmV rfl ?_|refine vmW rfl ?_|refine vmL ?_|refine blockW_y (by decide) ?_|((with_reducible first|apply vmO|apply vmT|apply vmC);case a=>simp [t7, t8, t9, t3, g7, newSeq, q1, uc, ud];with_reducible first|exact .v|exact .c|exact .t|exact .f))
    with_reducible apply WO_app_i; (case hw => (simp [t7, t8, t9, t3, g7, newSeq, q1, uc, ud]; done)); (case ho => rfl); (case hb => rfl); (case ha => (simp [t7, t8, t9, t3, g7, newSeq, q1, uc, ud]; first | done | exact ⟨rfl, rfl⟩ | rfl)); (case h1 => (simp; first | done | rfl)); (case h2 => (simp; first | done | rfl))
    have hz1 : HE h1.drew (newRs h1.drew 3 true [.int .i64 0, .int .i64 0, .str []] 1 [encP x]).2 := HE.x2 (HE.refl _) (newRs_hx (fun _ => False) (fun _ => False) _ _ _ _ _ _) (fun _ e => e.elim) (fun _ e => e.elim)
    have hz2 := he1.drew.trans hz1
    refine app_then (RS.appN (lo := hq.no) (h := (newRs h1.drew 3 true [.int .i64 0, .int .i64 0, .str []] 1 [encP x]).2) etp (v := u) ((hu1.he (HE.refl h1).drew).he hz1) hz2.no (by rw [hz2.pol, hqp]; rfl) ((RS.fresh etp (lo := 0) (h := h1.drew) (Nat.zero_le _) 1 [encP x] (by simp)).newEls (fitPs [x]) (by omega) (fun e => by cases e)) (fitPs _) (fitPs [x]) (by simp; omega)) ?_
    rintro w4 h4 ⟨rs4, hx4, hq4, hr4⟩
    have e4 := rs4.cells
    have f4 := rs4.isCell
    refine ⟨_, by simp; first | done | rfl, ?_⟩
    repeat(first|with_reducible first|refine vmR ?_|refine vmV rfl ?_|refine vmW rfl ?_|refine vmL ?_|refine blockW_y (by decide) ?_|((with_reducible first|apply vmO|apply vmT|apply vmC);case a=>simp [t7, t8, t9, t3, e4, f4, w1];with_reducible first|exact .v|exact .c|exact .t|exact .f))
    refine ⟨_, ?_, _, _, i + 1, _, rfl, rfl, by omega, by simp [t7], by simp [t8], by simp, rfl, ?_, hz2.x2 hx4 hu.rows (fun _ e => e.elim)⟩
    · omega
    · rw [htk, hls, List.map_append]; simpa using rs4
  rw [if_pos qc] at hls
  rw [decide_eq_true qc] at eq33
  have hle2 : k * 3 + 1 + 1 ≤ cs.length := by omega
  repeat(first|with_reducible first|refine vmR ?_|refine vmV rfl ?_|refine vmW rfl ?_|refine vmL ?_|refine blockW_y (by decide) ?_|((with_reducible first|apply vmO|apply vmT|apply vmC);case a=>simp [t7, t8, t9, t3, kk, ix, gr, pt, pf0, g7, eq33];with_reducible first|exact .v|exact .c|exact .t|exact .f))
  refine ⟨by simp [readSame, beqAV_self, t3]; done, _, by simp; first | done | rfl, ?_⟩
  repeat(first|with_reducible first|refine vmR ?_|refine vmV rfl ?_|refine vmW rfl ?_|refine vmL ?_|refine blockW_y (by decide) ?_|((with_reducible first|apply vmO|apply vmT|apply vmC);case a=>simp [t7, t8, t9, t3, ix, gr, g7, hle2, w1];with_reducible first|exact .v|exact .c|exact .t|exact .f))
  have hk4 := hset (encP ⟨q.fr, x.to, q.val⟩) { h1.drew with obj := Mp.set h1.drew.obj o (.row (splice cs (k * 3 + 1) [.int .i64 x.to])) } (fitP _) (by rw [psp]; simp) hrs1.on
  rw [← List.map_set] at hk4
  have hst : acc.set k ⟨q.fr, x.to, q.val⟩ = mm ++ [⟨q.fr, x.to, q.val⟩] := by
    rw [hsn, List.set_append_right _ _ (by omega), hk, Nat.sub_self]; rfl
  rw [hst] at hk4
  refine ⟨_, ?_, _, _, i + 1, u, rfl, rfl, by omega, by simp [t7], by simp [t8], by simp, by simp [t3], ?_, he1.drew.set hlo _⟩
  · omega
  · rw [htk, hls]
    refine .inr ⟨o, cap, ?_, hlo, hk4⟩
    rw [e0]; simp [hsn]
end Go.Vn

set_option maxRecDepth 20000
namespace Go.Vn
open Go.Proofs

def stS (acc : List Pc) (v : Ver) : List Pc := if v.gone then withoutP acc v.fr v.to else overP acc ⟨v.fr, v.to, v.val⟩
def stF (os : List Ver) : List Pc := os.foldl stS []
end Go.Vn

set_option maxRecDepth 20000
namespace Go.Vn
open Go.Proofs

theorem backy (y a : Nat) (xs : List Ver) (v : AV) (hv : SV 8 (xs.map encV) v) (hl : xs.length ≤ 1000000) (J : Nat → Hp Fm → Prop) (K : Hp Fm → Prop) (hJ : ∀ i h, J i h → Mp.get h.obj a = some (.row [v]))
    (hy : ∀ i (hi : i < xs.length) h, J (i + 1) h → A Try.prog TT (.yield y) [.int .i64 (i : Nat), encV xs[i]] h (fun r h' => (r = .bool true ∧ J i h') ∨ (r = .bool false ∧ K h'))) (h0 : Hp Fm) (h00 : J xs.length h0) :
    A Try.prog TT (.func 44) [.yl y, .ptr a 0] h0 (fun _ h' => J 0 h' ∨ K h') := by
  have l1 := hv.len Try.underlying22
  rw [List.length_map] at l1
  have n1 := hv.nm
  have g0 := hJ _ _ h00
  obtain ⟨z, hz⟩ : ∃ z : Int, z = (xs.length : Int) - 1 := ⟨_, rfl⟩
  have w0 : IntKind.i64.wrap ((xs.length : Int) - 1) = z := by rw [wrap64 (by omega) (by omega)]; omega
  apply A_go Try.func44 rfl (by rfl); (case hn => (simp [Try.ntmps44]; rfl))
  repeat(first|with_reducible first|refine vmR ?_|refine vmV rfl ?_|refine vmW rfl ?_|refine vmL ?_|refine blockW_y (by decide) ?_|((with_reducible first|apply vmO|apply vmT|apply vmC);case a=>simp [g0, l1, n1, w0];with_reducible first|exact .v|exact .c|exact .t|exact .f))
  refine W_loop (fun m s => ∃ (t : Fm AV) (h : Hp Fm) (z : Int), s = ⟨t, 19, h, none⟩ ∧ z = (m : Int) - 1 ∧ m ≤ xs.length ∧ tget t 0 = .yl y ∧ tget t 1 = .ptr a 0 ∧ tget t 3 = .int .i64 z ∧ J m h) xs.length
    ⟨_, _, z, rfl, hz, Nat.le_refl _, by simp, by simp, by simp, h00⟩ ?_
  clear w0 hz z
  rintro m s ⟨t, h, z, rfl, hz, hm, t0, t1, t3, hj⟩
  by_cases q0 : 0 < m
  case neg =>
    have qz : ¬ (0 ≤ z) := by omega
    repeat(first|with_reducible first|refine vmR ?_|refine vmV rfl ?_|refine vmW rfl ?_|refine vmL ?_|refine blockW_y (by decide) ?_|((with_reducible first|apply vmO|apply vmT|apply vmC);case a=>simp [t0, t1, t3, qz];with_reducible first|exact .v|exact .c|exact .t|exact .f))
    (first | apply endW_r | apply endW_n); (case h1 => (simp [Try.results44]; first | done | rfl))
    left
    rw [show m = 0 by omega] at hj; exact hj
  have qz : 0 ≤ z := by omega
  obtain ⟨i, hi⟩ : ∃ i, i = m - 1 := ⟨_, rfl⟩
  have hzi : z = (i : Int) := by omega
  have hmi : m = i + 1 := by omega
  subst hzi
  have hil : i < xs.length := by omega
  have g1 := hJ _ _ hj
  have i1 := hv.idx Try.underlying22 z38 (k := .i64) (i := i) (by simp) (by simpa using hil)
  simp only [List.getElem_map, Int.toNat_natCast] at i1
  have hyi := hy i hil h (by rw [← hmi]; exact hj)
  obtain ⟨w, hw⟩ : ∃ w : Int, w = (i : Int) - 1 := ⟨_, rfl⟩
  have w1 : IntKind.i64.wrap ((i : Int) - 1) = w := by rw [wrap64 (by omega) (by omega)]; omega
  repeat(first|with_reducible first|refine vmR ?_|refine vmV rfl ?_|refine vmW rfl ?_|refine vmL ?_|refine blockW_y (by decide) ?_|((with_reducible first|apply vmO|apply vmT|apply vmC);case a=>simp [t0, t1, t3, qz, g1, i1];with_reducible first|exact .v|exact .c|exact .t|exact .f))
  refine A.mono hyi ?_
  rintro r h2 hr
  refine ⟨_, by simp; first | done | rfl, ?_⟩
  rcases hr with ⟨rfl, hj2⟩ | ⟨rfl, hk⟩
  · repeat(first|with_reducible first|refine vmR ?_|refine vmV rfl ?_|refine vmW rfl ?_|refine vmL ?_|refine blockW_y (by decide) ?_|((with_reducible first|apply vmO|apply vmT|apply vmC);case a=>simp [t0, t1, t3, w1];with_reducible first|exact .v|exact .c|exact .t|exact .f))
    exact ⟨i, by omega, _, _, w, rfl, hw, by omega, by simp [t0], by simp [t1], by simp, hj2⟩
  · repeat(first|with_reducible first|refine vmR ?_|refine vmV rfl ?_|refine vmW rfl ?_|refine vmL ?_|refine blockW_y (by decide) ?_|((with_reducible first|apply vmO|apply vmT|apply vmC);case a=>simp [t0, t1, t3];with_reducible first|exact .v|exact .c|exact .t|exact .f))
    (first | apply endW_r | apply endW_n); (case h1 => (simp [Try.results44]; first | done | rfl))
    right; exact hk

theorem seqB (v : AV) (hv : v.cells = [v] ∧ v.isCell = true) (h : Hp Fm) : A Try.prog TT (.func 27) [v] h (fun r h' => r = .fn (.func 44) [] [.ptr h.no 0] ∧ h' = { h with obj := Mp.set h.obj h.no (.row [v]), no := h.no + 1 }) := by
  obtain ⟨v1, v2⟩ := hv
  apply A_go Try.func27 rfl (by rfl); (case hn => (simp [Try.ntmps27]; rfl))
  repeat(first|with_reducible first|refine vmR ?_|refine vmV rfl ?_|refine vmW rfl ?_|refine vmL ?_|refine blockW_y (by decide) ?_|((with_reducible first|apply vmO|apply vmT|apply vmC);case a=>simp [v1, v2];with_reducible first|exact .v|exact .c|exact .t|exact .f))
  (first | apply endW_r | apply endW_n); (case h1 => (simp [Try.results27]; first | done | rfl))
  simp

def getF (os : List Ver) (t : Int) : Option (List UInt8) := match os.reverse.find? (fun v => decide (Has v.fr v.to t)) with
  | some v => if v.gone then none else some v.val
  | none => none
theorem getF_none {os : List Ver} {t : Int} (h : ∀ v ∈ os, ¬ Has v.fr v.to t) : getF os t = none := by
  unfold getF
  have : os.reverse.find? (fun v => decide (Has v.fr v.to t)) = none := by
    rw [List.find?_eq_none]; intro v hv; simpa using h v (List.mem_reverse.mp hv)
  rw [this]
theorem getF_at {os : List Ver} {t : Int} {i : Nat} (hi : i < os.length) (h1 : Has os[i].fr os[i].to t) (h2 : ∀ j (hj : j < os.length), i < j → ¬ Has os[j].fr os[j].to t) : getF os t = if os[i].gone then none else some os[i].val := by
  have e : os = os.take i ++ os[i] :: os.drop (i + 1) := by rw [List.getElem_cons_drop, List.take_append_drop]
  have hn : ((os.drop (i + 1)).reverse).find? (fun v => decide (Has v.fr v.to t)) = none := by
    rw [List.find?_eq_none]
    intro v hv
    obtain ⟨j, hj, rfl⟩ := List.getElem_of_mem (List.mem_reverse.mp hv)
    rw [List.getElem_drop]
    rw [List.length_drop] at hj
    simpa using h2 (i + 1 + j) (by omega) (by omega)
  obtain ⟨x, hx⟩ : ∃ x, x = os[i] := ⟨_, rfl⟩
  rw [← hx] at e h1 ⊢
  unfold getF
  rw [e, List.reverse_append, List.reverse_cons, List.append_assoc, List.find?_append, hn]
  simp [h1]

def outG (o : Option (List UInt8)) : AV := match o with
  | some s => .tup [.str s, .bool true]
  | none => .tup [.str [], .bool false]

set_option maxHeartbeats 4000000 in
theorem get_ans (path : List Lg) (vp : AV) (hvp : SV 2 (path.map encL) vp) (hl : path.length ≤ 1000000) (xs : List Ver) (v : AV) (hv : SL 8 (xs.map encV) v) (hxl : xs.length ≤ 20) (tm : Int) (h0 : Hp Fm) :
    A Try.prog TT (.func 12) [v, vp, .int .i64 tm] h0 (fun r h' => r = outG (getF (orderP path xs) tm) ∧ HE h0 h') := by
  apply A_go Try.func12 rfl (by rfl); (case hn => (simp [Try.ntmps12]; rfl))
  repeat(first|with_reducible first|refine vmR ?_|refine vmV rfl ?_|refine vmW rfl ?_|refine vmL ?_|refine blockW_y (by decide) ?_|((with_reducible first|apply vmO|apply vmT|apply vmC);case a=>simp;with_reducible first|exact .v|exact .c|exact .t|exact .f))
  refine A.mono (order_ans path vp hvp hl xs v hv hxl _) ?_
  rintro w h1 ⟨hw, hol, he1⟩
  obtain ⟨os, hos⟩ : ∃ os, os = orderP path xs := ⟨_, rfl⟩
  rw [← hos] at hw hol ⊢
  have g5 : Mp.get h1.obj h0.no = some (.row [.int .i64 tm]) := by rw [he1.obj _ (by show h0.no < h0.no + 1 + 1 + 1; omega)]; simp [show h0.no ≠ h0.no + 1 by omega, show h0.no ≠ h0.no + 1 + 1 by omega]
  have g6 : Mp.get h1.obj (h0.no + 1) = some (.row [.str []]) := by rw [he1.obj _ (by show h0.no + 1 < h0.no + 1 + 1 + 1; omega)]; simp [show h0.no + 1 ≠ h0.no + 1 + 1 by omega]
  have g7 : Mp.get h1.obj (h0.no + 1 + 1) = some (.row [.bool false]) := by rw [he1.obj _ (by show h0.no + 1 + 1 < h0.no + 1 + 1 + 1; omega)]; simp
  have no1 : h0.no + 1 + 1 < h1.no := Nat.lt_of_lt_of_le (by show h0.no + 1 + 1 < h0.no + 1 + 1 + 1; omega) he1.no
  have hx1 : HE h0 h1 := ⟨Nat.le_trans (by show h0.no ≤ h0.no + 1 + 1 + 1; omega) he1.no, he1.ng, he1.pol, fun q hq => by rw [he1.obj _ (by show q < h0.no + 1 + 1 + 1; omega)]; simp [show q ≠ h0.no by omega, show q ≠ h0.no + 1 by omega, show q ≠ h0.no + 1 + 1 by omega], he1.len⟩
  clear he1
  refine ⟨_, by simp; first | done | rfl, ?_⟩
  repeat(first|with_reducible first|refine vmR ?_|refine vmV rfl ?_|refine vmW rfl ?_|refine vmL ?_|refine blockW_y (by decide) ?_|((with_reducible first|apply vmO|apply vmT|apply vmC);case a=>simp;with_reducible first|exact .v|exact .c|exact .t|exact .f))
  refine A.mono (seqB w ⟨hw.sv.cells, hw.sv.isCell⟩ _) ?_
  rintro _ _ ⟨rfl, rfl⟩
  refine ⟨_, by simp; first | done | rfl, ?_⟩
  repeat(first|with_reducible first|refine vmR ?_|refine vmV rfl ?_|refine vmW rfl ?_|refine vmL ?_|refine blockW_y (by decide) ?_|((with_reducible first|apply vmO|apply vmT|apply vmC);case a=>simp;with_reducible first|exact .v|exact .c|exact .t|exact .f))
  refine W_range_i rfl (by simp [rangeE, laidF]; exact ⟨rfl, rfl, rfl⟩) ?_
  refine with_loop (h1.no + 1) _ (by simp; first | done | rfl) ?_
  intro lr hlr hget
  have wl := hw.sv
  refine A.mono (backy (h1.no + 1) h1.no os w wl (by omega)
    (fun i h => (∀ j (hj : j < os.length), i ≤ j → ¬ Has os[j].fr os[j].to tm) ∧ Mp.get h.obj h0.no = some (.row [.int .i64 tm]) ∧ Mp.get h.obj (h0.no + 1) = some (.row [.str []]) ∧ Mp.get h.obj (h0.no + 1 + 1) = some (.row [.bool false]) ∧ Mp.get h.obj h1.no = some (.row [w]) ∧ Mp.get h.obj (h1.no + 1) = some (.loop lr) ∧ h1.no + 1 < h.no ∧ HE h0 h)
    (fun h => (∃ i, ∃ hi : i < os.length, Has os[i].fr os[i].to tm ∧ (∀ j (hj : j < os.length), i < j → ¬ Has os[j].fr os[j].to tm) ∧ Mp.get h.obj (h0.no + 1) = some (.row [.str (if os[i].gone then [] else os[i].val)]) ∧ Mp.get h.obj (h0.no + 1 + 1) = some (.row [.bool (!os[i].gone)])) ∧ (∃ lr', Mp.get h.obj (h1.no + 1) = some (.loop lr') ∧ lr'.state = .done ∧ lr'.pending = some .ret) ∧ HE h0 h)
    (fun i h k => k.2.2.2.2.1) ?_ _ ?_) ?_
  · rintro i hi h ⟨kn, k5, k6, k7, kw, kl, kno, he⟩
    obtain ⟨LR, hLR⟩ : ∃ LR, LR = lr := ⟨_, rfl⟩
    subst hlr
    obtain ⟨x, hx⟩ : ∃ x, x = os[i] := ⟨_, rfl⟩
    rw [← hx]
    refine A_round kl (by simp) ?_
    have nz1 : h1.no + 1 ≠ h.no := by omega
    have nz2 : h.no ≠ h1.no + 1 := by omega
    repeat(first|with_reducible first|refine vmR ?_|refine vmV rfl ?_|refine vmW rfl ?_|refine vmL ?_|refine blockW_y (by decide) ?_|((with_reducible first|apply vmO|apply vmT|apply vmC);case a=>simp [roundT];with_reducible first|exact .v|exact .c|exact .t|exact .f))
    refine ⟨rfl, _, by simp [beginR, kl, nz1]; first | done | rfl, ?_⟩
    have hh0 := he.no
    have a1 : h0.no ≠ h.no := by omega
    have a2 : h0.no + 1 ≠ h.no := by omega
    have a3 : h0.no + 1 + 1 ≠ h.no := by omega
    have a4 : h0.no ≠ h1.no + 1 := by omega
    have a5 : h0.no + 1 ≠ h1.no + 1 := by omega
    have a6 : h0.no + 1 + 1 ≠ h1.no + 1 := by omega
    have a7 : h1.no ≠ h.no := by omega
    have a8 : h1.no ≠ h1.no + 1 := by omega
    have c1 : h0.no ≠ h1.no := by omega
    have c2 : h0.no + 1 ≠ h1.no := by omega
    have c3 : h1.no ≠ h0.no := by omega
    have c4 : h1.no ≠ h0.no + 1 := by omega
    repeat(first|with_reducible first|refine vmR ?_|refine vmV rfl ?_|refine vmW rfl ?_|refine vmL ?_|refine blockW_y (by decide) ?_|((with_reducible first|apply vmO|apply vmT|apply vmC);case a=>simp [roundT, k5, a1, a4, nz1, nz2];with_reducible first|exact .v|exact .c|exact .t|exact .f))
    refine A.mono (has_ans x.fr x.to tm _) ?_
    rintro _ hh ⟨rfl, heh⟩
    have m9 : Mp.get hh.obj h.no = some (.row [.str x.key, .int .i64 x.br, .int .i64 x.ep, .int .i64 x.sq, .int .i64 x.fr, .int .i64 x.to, .str x.val, .bool x.gone]) := by rw [heh.obj _ (by show h.no < h.no + 1; omega)]; simp [nz2]
    have m5 : Mp.get hh.obj h0.no = some (.row [.int .i64 tm]) := by rw [heh.obj _ (by show h0.no < h.no + 1; omega)]; simp [a1, a4, k5, c1, c2]
    have m6 : Mp.get hh.obj (h0.no + 1) = some (.row [.str []]) := by rw [heh.obj _ (by show h0.no + 1 < h.no + 1; omega)]; simp [a2, a5, k6, c1, c2]
    have m7 : Mp.get hh.obj (h0.no + 1 + 1) = some (.row [.bool false]) := by rw [heh.obj _ (by show h0.no + 1 + 1 < h.no + 1; omega)]; simp [a3, a6, k7, c1, c2]
    have mw : Mp.get hh.obj h1.no = some (.row [w]) := by rw [heh.obj _ (by show h1.no < h.no + 1; omega)]; simp [a7, a8, kw]
    obtain ⟨lb, hlb, hlr2⟩ : ∃ lb : ALoop Fm, Mp.get hh.obj (h1.no + 1) = some (.loop lb) ∧ ({ lb with state := .ready, pending := none } : ALoop Fm) = LR := ⟨_, by rw [heh.obj _ (by show h1.no + 1 < h.no + 1; omega)]; simp; rfl, by rw [hLR]⟩
    have hx2 : HE h0 hh := ⟨Nat.le_trans (by show h0.no ≤ h.no + 1; omega) heh.no, Nat.le_trans he.ng heh.ng, heh.pol.trans he.pol, fun q hq => by rw [heh.obj _ (by show q < h.no + 1; omega)]; simp [show q ≠ h.no by omega, show q ≠ h1.no + 1 by omega]; exact he.obj q hq, fun g hg => (heh.len g (Nat.lt_of_lt_of_le hg he.ng)).trans (he.len g hg)⟩
    have mno : h1.no + 1 < hh.no := Nat.lt_of_lt_of_le (by show h1.no + 1 < h.no + 1; omega) heh.no
    have b1 : h0.no + 1 ≠ h0.no + 1 + 1 := by omega
    have b2 : h1.no + 1 ≠ h0.no + 1 := by omega
    have b3 : h1.no + 1 ≠ h0.no + 1 + 1 := by omega
    clear heh
    refine ⟨_, by simp; first | done | rfl, ?_⟩
    by_cases qh : Has x.fr x.to tm
    case neg =>
      repeat(first|with_reducible first|refine vmR ?_|refine vmV rfl ?_|refine vmW rfl ?_|refine vmL ?_|refine blockW_y (by decide) ?_|((with_reducible first|apply vmO|apply vmT|apply vmC);case a=>simp [roundT, qh];with_reducible first|exact .v|exact .c|exact .t|exact .f))
      refine ⟨_, _, by simp only [endR, hlb]; rfl, ?_⟩
      refine .inl ⟨rfl, ?_, ?_, ?_, ?_, ?_, ?_, mno, hx2.set (by omega) _⟩
      · intro j hj hij
        by_cases e : j = i
        · subst e; rw [← hx]; exact qh
        · exact kn j hj (by omega)
      · simp [a4, m5]
      · simp [a5, m6, c1]
      · simp [a6, m7, c2]
      · simp [a8, mw]
      · simp only [Mp.get_set, if_true]; rw [hlr2, hLR]
    cases qg : x.gone
    · rw [qg] at m9
      repeat(first|with_reducible first|refine vmR ?_|refine vmV rfl ?_|refine vmW rfl ?_|refine vmL ?_|refine blockW_y (by decide) ?_|((with_reducible first|apply vmO|apply vmT|apply vmC);case a=>simp [roundT, qh, qg, m9, m6, m7, b1];with_reducible first|exact .v|exact .c|exact .t|exact .f))
      refine ⟨_, _, by simp [endR, hlb, b2, b3, c1, c2, c3, c4]; first | exact ⟨rfl, rfl⟩ | rfl, .inr ⟨rfl, ⟨i, hi, by rw [← hx]; exact qh, fun j hj hij => kn j hj (by omega), ?_, ?_⟩, ⟨_, by simp only [Mp.get_set, if_true]; rfl, rfl, rfl⟩, ?_⟩⟩
      · rw [← hx, qg]; simp [a5, b1, c1]
      · rw [← hx, qg]; simp [a6, b1, c2]
      · exact ((hx2.set (by omega) _).set (by omega) _).set (by omega) _
    · rw [qg] at m9
      repeat(first|with_reducible first|refine vmR ?_|refine vmV rfl ?_|refine vmW rfl ?_|refine vmL ?_|refine blockW_y (by decide) ?_|((with_reducible first|apply vmO|apply vmT|apply vmC);case a=>simp [roundT, qh, qg, m9, m6, m7, b1];with_reducible first|exact .v|exact .c|exact .t|exact .f))
      refine ⟨_, _, by simp [endR, hlb, b2, b3, c1, c2, c3, c4]; first | exact ⟨rfl, rfl⟩ | rfl, .inr ⟨rfl, ⟨i, hi, by rw [← hx]; exact qh, fun j hj hij => kn j hj (by omega), ?_, ?_⟩, ⟨_, by simp only [Mp.get_set, if_true]; rfl, rfl, rfl⟩, ?_⟩⟩
      · rw [← hx, qg]; simp [a5, b1, c1]
      · rw [← hx, qg]; simp [a6, b1, c2]
      · exact ((hx2.set (by omega) _).set (by omega) _).set (by omega) _
  · refine ⟨fun j hj hij => by omega, ?_, ?_, ?_, ?_, hget, by show h1.no + 1 < h1.no + 1 + 1; omega, ?_⟩
    · simp [show h0.no ≠ h1.no + 1 by omega, show h0.no ≠ h1.no by omega, g5]
    · simp [show h0.no ≠ h1.no by omega, show h0.no + 1 ≠ h1.no by omega, g6]
    · simp [show h0.no + 1 ≠ h1.no by omega, show h0.no + 1 + 1 ≠ h1.no by omega, g7]
    · simp [show h1.no ≠ h1.no + 1 by omega]
    · have := hx1.no
      exact ⟨by show h0.no ≤ h1.no + 1 + 1; omega, hx1.ng, hx1.pol, fun q hq => by simp [show q ≠ h1.no by omega, show q ≠ h1.no + 1 by omega]; exact hx1.obj q hq, hx1.len⟩
  · rintro r h2 (⟨kn, k5, k6, k7, kw, kl, kno, he⟩ | ⟨⟨i, hi, k1, k2, k6, k7⟩, ⟨lr', kl, ks, kp⟩, he⟩)
    · have hst : lr.state = .ready ∧ lr.pending = none := by subst hlr; exact ⟨rfl, rfl⟩
      refine ⟨_, _, by simp [rangeB, kl, hst.1, behind, hst.2]; exact ⟨rfl, rfl⟩, ?_⟩
      have a5 : h0.no + 1 ≠ h1.no + 1 := by omega
      have c1 : h0.no ≠ h1.no := by omega
      have c2 : h0.no + 1 ≠ h1.no := by omega
      have a6 : h0.no + 1 + 1 ≠ h1.no + 1 := by omega
      have b1 : h0.no + 1 ≠ h0.no + 1 + 1 := by omega
      repeat(first|with_reducible first|refine vmR ?_|refine vmV rfl ?_|refine vmW rfl ?_|refine vmL ?_|refine blockW_y (by decide) ?_|((with_reducible first|apply vmO|apply vmT|apply vmC);case a=>simp [k6, k7, a5, a6, b1, c1, c2];with_reducible first|exact .v|exact .c|exact .t|exact .f))
      (first | apply endW_r | apply endW_n); (case h1 => (simp [Try.results12]; first | done | rfl))
      have hn : getF os tm = none := getF_none (fun v hv => by
        obtain ⟨j, hj, rfl⟩ := List.getElem_of_mem hv
        exact kn j hj (by omega))
      refine ⟨by simp [hn, outG, b1, a5, a6, c1, c2, k6, k7], ?_⟩
      exact ((he.set (by omega) _).set (by omega) _).set (by omega) _
    · refine ⟨_, _, by simp [rangeB, kl, ks, behind, kp]; exact ⟨rfl, rfl⟩, ?_⟩
      have a5 : h0.no + 1 ≠ h1.no + 1 := by omega
      have c1 : h0.no ≠ h1.no := by omega
      have c2 : h0.no + 1 ≠ h1.no := by omega
      have a6 : h0.no + 1 + 1 ≠ h1.no + 1 := by omega
      have b1 : h0.no + 1 ≠ h0.no + 1 + 1 := by omega
      repeat(first|with_reducible first|refine vmR ?_|refine vmV rfl ?_|refine vmW rfl ?_|refine vmL ?_|refine blockW_y (by decide) ?_|((with_reducible first|apply vmO|apply vmT|apply vmC);case a=>simp [k6, k7, a5, a6, b1, c1, c2];with_reducible first|exact .v|exact .c|exact .t|exact .f))
      (first | apply endW_r | apply endW_n); (case h1 => (simp [Try.results12, k6, k7, a5, a6, c1, c2, b1]; first | done | rfl))
      have hn := getF_at hi k1 k2
      refine ⟨?_, he.set (by omega) _⟩
      rw [hn]
      cases os[i].gone <;> simp [outG]
end Go.Vn

set_option maxRecDepth 20000
namespace Go.Vn
open Go.Proofs

end Go.Vn

set_option maxRecDepth 20000
namespace Go.Vn
open Go.Proofs

theorem take_str {i : Nat} (s : List UInt8) (h : i < s.length) : sliceAV Try.prog 9 (.str s) none (some (.int .i64 (i : Int))) none = some (.str (s.take i)) := by
  have h1 : (i : Int) ≤ s.length := by omega
  simp [sliceAV, Try.underlying9, obound, bound, h1]

@[simp] theorem lenStr9 (s : List UInt8) : lenAV Try.prog 9 (.str s) = some (.int .i64 s.length) := by simp [lenAV, Try.underlying9]

def cutV (a : Ver) : Ver := { a with key := a.key.take 110, val := a.val.take 210 }

theorem cut_ans (a : Ver) (h0 : Hp Fm) : A Try.prog TT (.func 49) [encV a] h0 (fun r h' => r = encV (cutV a) ∧ HE h0 h') := by
  have n1 : h0.no ≠ h0.no + 1 := by omega
  have n2 : h0.no + 1 ≠ h0.no := by omega
  by_cases q1 : 110 < a.key.length
  · have j1 : (110 : Int) < a.key.length := by omega
    have s1 : sliceAV Try.prog 9 (.str a.key) none (some (.int .i64 110)) none = some (.str (a.key.take 110)) := take_str a.key q1
    by_cases q2 : 210 < a.val.length
    · have j2 : (210 : Int) < a.val.length := by omega
      have s2 : sliceAV Try.prog 9 (.str a.val) none (some (.int .i64 210)) none = some (.str (a.val.take 210)) := take_str a.val q2
      apply A_go Try.func49 rfl (by rfl); (case hn => (simp [Try.ntmps49]; rfl))
      repeat(first|with_reducible first|refine vmR ?_|refine vmV rfl ?_|refine vmW rfl ?_|refine vmL ?_|refine blockW_y (by decide) ?_|((with_reducible first|apply vmO|apply vmT|apply vmC);case a=>simp [q1, j1, s1, q2, j2, s2, n1, n2];with_reducible first|exact .v|exact .c|exact .t|exact .f))
      (first | apply endW_r | apply endW_n); (case h1 => (simp [Try.results49]; first | done | rfl))
      refine ⟨by simp [cutV], ?_⟩
      exact ⟨by show h0.no ≤ h0.no + 1 + 1; omega, Nat.le_refl _, rfl, fun q hq => by simp [Nat.ne_of_lt hq, Nat.ne_of_lt (Nat.lt_succ_of_lt hq)], fun _ _ => rfl⟩
    · have j2 : ¬ (210 : Int) < a.val.length := by omega
      have s2 : a.val.take 210 = a.val := List.take_of_length_le (by omega)
      apply A_go Try.func49 rfl (by rfl); (case hn => (simp [Try.ntmps49]; rfl))
      repeat(first|with_reducible first|refine vmR ?_|refine vmV rfl ?_|refine vmW rfl ?_|refine vmL ?_|refine blockW_y (by decide) ?_|((with_reducible first|apply vmO|apply vmT|apply vmC);case a=>simp [q1, j1, s1, q2, j2, n1, n2];with_reducible first|exact .v|exact .c|exact .t|exact .f))
      (first | apply endW_r | apply endW_n); (case h1 => (simp [Try.results49]; first | done | rfl))
      refine ⟨by simp [cutV, s2], ?_⟩
      exact ⟨by show h0.no ≤ h0.no + 1 + 1; omega, Nat.le_refl _, rfl, fun q hq => by simp [Nat.ne_of_lt hq, Nat.ne_of_lt (Nat.lt_succ_of_lt hq)], fun _ _ => rfl⟩
  · have j1 : ¬ (110 : Int) < a.key.length := by omega
    have s1 : a.key.take 110 = a.key := List.take_of_length_le (by omega)
    by_cases q2 : 210 < a.val.length
    · have j2 : (210 : Int) < a.val.length := by omega
      have s2 : sliceAV Try.prog 9 (.str a.val) none (some (.int .i64 210)) none = some (.str (a.val.take 210)) := take_str a.val q2
      apply A_go Try.func49 rfl (by rfl); (case hn => (simp [Try.ntmps49]; rfl))
      repeat(first|with_reducible first|refine vmR ?_|refine vmV rfl ?_|refine vmW rfl ?_|refine vmL ?_|refine blockW_y (by decide) ?_|((with_reducible first|apply vmO|apply vmT|apply vmC);case a=>simp [q1, j1, q2, j2, s2, n1, n2];with_reducible first|exact .v|exact .c|exact .t|exact .f))
      (first | apply endW_r | apply endW_n); (case h1 => (simp [Try.results49]; first | done | rfl))
      refine ⟨by simp [cutV, s1], ?_⟩
      exact ⟨by show h0.no ≤ h0.no + 1 + 1; omega, Nat.le_refl _, rfl, fun q hq => by simp [Nat.ne_of_lt hq, Nat.ne_of_lt (Nat.lt_succ_of_lt hq)], fun _ _ => rfl⟩
    · have j2 : ¬ (210 : Int) < a.val.length := by omega
      have s2 : a.val.take 210 = a.val := List.take_of_length_le (by omega)
      apply A_go Try.func49 rfl (by rfl); (case hn => (simp [Try.ntmps49]; rfl))
      repeat(first|with_reducible first|refine vmR ?_|refine vmV rfl ?_|refine vmW rfl ?_|refine vmL ?_|refine blockW_y (by decide) ?_|((with_reducible first|apply vmO|apply vmT|apply vmC);case a=>simp [q1, j1, q2, j2, n1, n2];with_reducible first|exact .v|exact .c|exact .t|exact .f))
      (first | apply endW_r | apply endW_n); (case h1 => (simp [Try.results49]; first | done | rfl))
      refine ⟨by simp [cutV, s1, s2], ?_⟩
      exact ⟨by show h0.no ≤ h0.no + 1 + 1; omega, Nat.le_refl _, rfl, fun q hq => by simp [Nat.ne_of_lt hq, Nat.ne_of_lt (Nat.lt_succ_of_lt hq)], fun _ _ => rfl⟩

end Go.Vn
