/- What functions of the program come to, in the value machine (a part of the proof of the claim's statement). No condition. -/
import Derived.Test.YtplcehpejjfjoaaGreatVnG3
set_option linter.unusedSimpArgs false
set_option linter.unusedVariables false
set_option maxRecDepth 20000
namespace Go.Vn
open Go.Proofs

theorem CmpOk.flip {E : Type} {c : E → E → Int} (k : CmpOk c) : CmpOk (fun a b => c b a) :=
  ⟨fun a b => k.anti b a, fun a b => k.zero b a, fun a b d h1 h2 => k.tr d b a h2 h1, fun a b d h1 h2 => k.tz d b a h2 h1, fun a b d h1 h2 => k.ltr d b a h2 h1, fun a b d h1 h2 => k.ltl d b a h2 h1⟩
theorem cmpO_ok (path : List Lg) : CmpOk (cmpO path) := by
  have h1 : CmpOk (fun a b : Ver => cmpI (legV path b) (legV path a)) := (cmpI_ok.pull (legV path)).flip
  have h := h1.lex ((cmpI_ok.pull Ver.ep).lex ((cmpI_ok.pull Ver.sq).lex (cmpI_ok.pull Ver.fr)))
  have e : cmpO path = (fun a b : Ver => if cmpI (legV path b) (legV path a) ≠ 0 then cmpI (legV path b) (legV path a) else if cmpI a.ep b.ep ≠ 0 then cmpI a.ep b.ep else if cmpI a.sq b.sq ≠ 0 then cmpI a.sq b.sq else cmpI a.fr b.fr) := by
    funext a b
    simp only [cmpO, orI]
    by_cases q1 : cmpI (legV path b) (legV path a) = 0 <;> by_cases q2 : cmpI a.ep b.ep = 0 <;> by_cases q3 : cmpI a.sq b.sq = 0 <;> by_cases q4 : cmpI a.fr b.fr = 0 <;> simp [q1, q2, q3, q4]
  rw [e]; exact h

theorem swap_down (sp rest : List Ver) (x : Ver) (j : Nat) (h1 : 0 < j) (h2 : j ≤ sp.length) : ((sp.take j ++ x :: (sp.drop j ++ rest)).set j (sp[j - 1]'(by omega))).set (j - 1) x = sp.take (j - 1) ++ x :: (sp.drop (j - 1) ++ rest) := by
  have e1 : sp.take j = sp.take (j - 1) ++ [sp[j - 1]'(by omega)] := by
    have := List.take_succ_eq_append_getElem (l := sp) (i := j - 1) (by omega)
    rwa [show j - 1 + 1 = j by omega] at this
  have e2 : sp.drop (j - 1) = sp[j - 1]'(by omega) :: sp.drop j := by
    rw [List.drop_eq_getElem_cons (by omega), show j - 1 + 1 = j by omega]
  have l1 : (sp.take j).length = j := by rw [List.length_take]; omega
  have l2 : (sp.take (j - 1)).length = j - 1 := by rw [List.length_take]; omega
  rw [List.set_append_right _ _ (by omega), l1, Nat.sub_self, List.set_cons_zero, e1, e2, List.append_assoc, List.set_append_right _ _ (by omega), l2, Nat.sub_self]
  simp

set_option maxHeartbeats 2000000 in
theorem inssort_ans (path : List Lg) (vp : AV) (hvp : SV 2 (path.map encL) vp) (hl : path.length ≤ 1000000) (oc : Nat) (hb : Hp Fm) (hoc : Mp.get hb.obj oc = some (.row [vp])) (hcn : oc < hb.no) (hp3 : hb.pol 3 = false) (xs : List Ver) (hxl : xs.length ≤ 1000000) (o cap : Nat) (hlo : hb.no ≤ o) (h0 : Hp Fm) (he0 : HE hb h0) (hk0 : RSat h0 8 (xs.map encV) o cap) :
    A Tryz.prog TT (.func 138) [.rs o 0 8 true xs.length cap, .int .i64 0, .int .i64 xs.length, .fn (.func 107) [] [.ptr oc 0]] h0 (fun _ h' => ∃ ys, Sorted (cmpO path) ys ∧ (∀ x, alike (cmpO path) x ys = alike (cmpO path) x xs) ∧ ys.length = xs.length ∧ RSat h' 8 (ys.map encV) o cap ∧ HE hb h') := by
  obtain ⟨n, hn⟩ : ∃ n, n = xs.length := ⟨_, rfl⟩
  rw [← hn] at hxl ⊢
  have hk := cmpO_ok path
  apply A_go Tryz.func138 rfl (by rfl); (case hn => (simp [Tryz.ntmps138]; rfl))
  repeat(first|with_reducible first|refine vmR ?_|refine vmV rfl ?_|refine vmW rfl ?_|refine vmL ?_|refine blockW_y (by decide) ?_|((with_reducible first|apply vmO|apply vmT|apply vmC);case a=>simp;with_reducible first|exact .v|exact .c|exact .t|exact .f))
  refine W_loop (fun m s => ∃ (t : Fm AV) (h : Hp Fm) (i : Nat) (ys : List Ver), s = ⟨t, 53, h, none⟩ ∧ m = n + 1 - i ∧ 1 ≤ i ∧ i ≤ n + 1 ∧ tget t 0 = .rs o 0 8 true n cap ∧ tget t 1 = .int .i64 0 ∧ tget t 2 = .int .i64 n ∧ tget t 3 = .fn (.func 107) [] [.ptr oc 0] ∧ tget t 8 = .int .i64 i ∧ ys.length = n ∧ Sorted (cmpO path) (ys.take i) ∧ (∀ x, alike (cmpO path) x (ys.take i) = alike (cmpO path) x (xs.take i)) ∧ ys.drop i = xs.drop i ∧ RSat h 8 (ys.map encV) o cap ∧ HE hb h) (n + 1 - 1)
    ⟨_, _, 1, xs, rfl, rfl, by omega, by omega, by simp, by simp, by simp, by simp, by simp, hn.symm, ?_, fun _ => rfl, rfl, hk0, he0⟩ ?_
  · cases xs with
    | nil => trivial
    | cons a l => exact ⟨(fun b hb => by cases hb), trivial⟩
  rintro m s ⟨t, h, i, ys, rfl, rfl, hi1, hin, t0, t1, t2, t3, t8, hyl, hso, hal, hdr, hk1, he⟩
  by_cases qi : i < n
  case neg =>
    have qn : ¬ (i < n) := qi
    repeat(first|with_reducible first|refine vmR ?_|refine vmV rfl ?_|refine vmW rfl ?_|refine vmL ?_|refine blockW_y (by decide) ?_|((with_reducible first|apply vmO|apply vmT|apply vmC);case a=>simp [t0, t1, t2, t3, t8, qi, qn];with_reducible first|exact .v|exact .c|exact .t|exact .f))
    (first | apply endW_r | apply endW_n); (case h1 => (simp [Tryz.results138]; first | done | rfl))
    have e1 : ys.take i = ys := List.take_of_length_le (by omega)
    have e2 : xs.take i = xs := List.take_of_length_le (by omega)
    rw [e1] at hso hal
    rw [e2] at hal
    exact ⟨ys, hso, hal, by omega, hk1, he⟩
  obtain ⟨sp, hsp⟩ : ∃ sp, sp = ys.take i := ⟨_, rfl⟩
  obtain ⟨x, hx⟩ : ∃ x, x = xs[i]'(by omega) := ⟨_, rfl⟩
  obtain ⟨rest, hrest⟩ : ∃ rest, rest = xs.drop (i + 1) := ⟨_, rfl⟩
  have hspl : sp.length = i := by rw [hsp, List.length_take]; omega
  have hys : ys = sp ++ x :: rest := by
    rw [← List.take_append_drop i ys, hdr, List.drop_eq_getElem_cons (by omega), ← hsp, hx, hrest]
  rw [← hsp] at hso hal
  have w1 : IntKind.i64.wrap ((i : Int) + 1) = ((i + 1 : Nat) : Int) := by rw [wrap64 (by omega) (by omega)]; simp
  repeat(first|with_reducible first|refine vmR ?_|refine vmV rfl ?_|refine vmW rfl ?_|refine vmL ?_|refine blockW_y (by decide) ?_|((with_reducible first|apply vmO|apply vmT|apply vmC);case a=>simp [t0, t1, t2, t3, t8, qi];with_reducible first|exact .v|exact .c|exact .t|exact .f))
  refine W_loop (fun j s => ∃ (t : Fm AV) (h : Hp Fm), s = ⟨t, 53, h, none⟩ ∧ j ≤ i ∧ tget t 0 = .rs o 0 8 true n cap ∧ tget t 1 = .int .i64 0 ∧ tget t 2 = .int .i64 n ∧ tget t 3 = .fn (.func 107) [] [.ptr oc 0] ∧ tget t 8 = .int .i64 i ∧ tget t 9 = .int .i64 j ∧ (∀ b ∈ sp.drop j, cmpO path x b < 0) ∧ RSat h 8 ((sp.take j ++ x :: (sp.drop j ++ rest)).map encV) o cap ∧ HE hb h) i
    ⟨_, _, rfl, Nat.le_refl _, by simp [t0], by simp [t1], by simp [t2], by simp [t3], by simp [t8], by simp, ?_, ?_, he⟩ ?_
  · intro b hb'
    rw [List.drop_eq_nil_of_le (by omega)] at hb'; cases hb'
  · rw [List.take_of_length_le (by omega), List.drop_eq_nil_of_le (by omega), List.nil_append, ← hys]; exact hk1
  clear t0 t1 t2 t3 t8 he hk1 t h
  rintro j s ⟨t, h, rfl, hj, t0, t1, t2, t3, t8, t9, hlt, hk2, he⟩
  have hon := hk2.on
  have hzl : (sp.take j ++ x :: (sp.drop j ++ rest)).length = n := by
    rw [List.length_append, List.length_cons, List.length_append, List.length_take, List.length_drop, hrest, List.length_drop]; omega
  have tail (hz : ∀ hn : sp.take j ≠ [], ¬ cmpO path x ((sp.take j).getLast hn) < 0) :
      Sorted (cmpO path) ((sp.take j ++ x :: (sp.drop j ++ rest)).take (i + 1)) ∧ (∀ y, alike (cmpO path) y ((sp.take j ++ x :: (sp.drop j ++ rest)).take (i + 1)) = alike (cmpO path) y (xs.take (i + 1))) ∧ (sp.take j ++ x :: (sp.drop j ++ rest)).drop (i + 1) = xs.drop (i + 1) := by
    have e : sp.take j ++ x :: (sp.drop j ++ rest) = (sp.take j ++ [x] ++ sp.drop j) ++ rest := by simp
    have el : (sp.take j ++ [x] ++ sp.drop j).length = i + 1 := by simp; omega
    obtain ⟨a1, a2⟩ := put_in hk (l := sp.take j) (m := sp.drop j) (x := x) (by rw [List.take_append_drop]; exact hso) hz hlt
    rw [e, List.take_left' el, List.drop_left' el]
    refine ⟨a1, fun y => ?_, hrest⟩
    rw [a2 y, List.take_append_drop, hal y, List.take_succ_eq_append_getElem (by omega), ← hx]
    unfold alike; rw [List.filter_append]
  by_cases qp : 0 < j
  case neg =>
    have qz : ¬ (0 < j) := qp
    obtain ⟨k1, k2, k3⟩ := tail (fun hn => absurd (show sp.take j = [] by rw [show j = 0 by omega]; rfl) hn)
    repeat(first|with_reducible first|refine vmR ?_|refine vmV rfl ?_|refine vmW rfl ?_|refine vmL ?_|refine blockW_y (by decide) ?_|((with_reducible first|apply vmO|apply vmT|apply vmC);case a=>simp [t0, t1, t2, t3, t8, t9, qp, qz];with_reducible first|exact .v|exact .c|exact .t|exact .f))
    (with_reducible refine W_draw_id (pln := true) [0, 1, 2, 3, 4, 5, 6, 7, 8, 9, 10, 11, 12, 13, 14, 15, 16] [(8, (8, [])), (13, (13, []))] (by kernel_rfl) rfl ?_)
    repeat(first|with_reducible first|refine vmR ?_|refine vmV rfl ?_|refine vmW rfl ?_|refine vmL ?_|refine blockW_y (by decide) ?_|((with_reducible first|apply vmO|apply vmT|apply vmC);case a=>simp [t0, t1, t2, t3, t8, t9, qp, qz];with_reducible first|exact .v|exact .c|exact .t|exact .f))
    refine ⟨by simp [readSame, beqAV_self, t0]; done, _, by simp; first | done | rfl, ?_⟩
    repeat(first|with_reducible first|refine vmR ?_|refine vmV rfl ?_|refine vmW rfl ?_|refine vmL ?_|refine blockW_y (by decide) ?_|((with_reducible first|apply vmO|apply vmT|apply vmC);case a=>simp [t0, t1, t2, t3, t8, t9, w1];with_reducible first|exact .v|exact .c|exact .t|exact .f))
    refine ⟨_, ?_, _, _, i + 1, _, rfl, rfl, by omega, by omega, by simp [t0], by simp [t1], by simp [t2], by simp [t3], by simp, hzl, k1, k2, k3, hk2.he (HE.refl h).drew, he.drew⟩
    omega
  obtain ⟨jm, hjm⟩ : ∃ jm, jm = j - 1 := ⟨_, rfl⟩
  have hjl : jm < sp.length := by omega
  have w2 : IntKind.i64.wrap ((j : Int) - 1) = (jm : Int) := by rw [wrap64 (by omega) (by omega)]; omega
  have ix1 : indexAddrAV Tryz.prog 64 (.rs o 0 8 true n cap) (.int .i64 (j : Int)) = some (.ptr o (j * 8)) := by
    rw [index_rs Tryz.underlying64 z117 (by omega) (by omega), Int.toNat_natCast]
  have ix2 : indexAddrAV Tryz.prog 64 (.rs o 0 8 true n cap) (.int .i64 (jm : Int)) = some (.ptr o (jm * 8)) := by
    rw [index_rs Tryz.underlying64 z117 (by omega) (by omega), Int.toNat_natCast]
  have hz1 : (sp.take j ++ x :: (sp.drop j ++ rest))[j]'(by omega) = x := by
    rw [List.getElem_append_right (by rw [List.length_take]; omega)]
    have e0 : j - (sp.take j).length = 0 := by rw [List.length_take]; omega
    simp only [e0, List.getElem_cons_zero]
  have hz2 : (sp.take j ++ x :: (sp.drop j ++ rest))[jm]'(by omega) = sp[jm] := by
    rw [List.getElem_append_left (by rw [List.length_take]; omega), List.getElem_take]
  obtain ⟨y, hy⟩ : ∃ y, y = sp[jm] := ⟨_, rfl⟩
  have hlast : ∀ hn : sp.take j ≠ [], (sp.take j).getLast hn = y := by
    intro hn
    rw [List.getLast_eq_getElem, hy]
    simp only [List.length_take, show min j sp.length = j by omega, List.getElem_take, hjm]
  obtain ⟨cs, gr, pt1, hle1, hset1⟩ := hk2.at_ (fitVs _) (i := j) (by rw [List.length_map]; omega)
  obtain ⟨cs', gr', pt2, hle2, _⟩ := hk2.at_ (fitVs _) (i := jm) (by rw [List.length_map]; omega)
  rw [gr] at gr'
  injection gr' with gr'
  injection gr' with gr'
  subst gr'
  simp only [List.getElem_map, hz1, hz2, ← hy, encV] at pt1 pt2
  repeat(first|with_reducible first|refine vmR ?_|refine vmV rfl ?_|refine vmW rfl ?_|refine vmL ?_|refine blockW_y (by decide) ?_|((with_reducible first|apply vmO|apply vmT|apply vmC);case a=>simp [t0, t1, t2, t3, t8, t9, qp];with_reducible first|exact .v|exact .c|exact .t|exact .f))
  (with_reducible refine W_draw_id (pln := true) [0, 1, 2, 3, 4, 5, 6, 7, 8, 9, 10, 11, 12, 13, 14, 15, 16] [(8, (8, [])), (13, (13, []))] (by kernel_rfl) rfl ?_)
  repeat(first|with_reducible first|refine vmR ?_|refine vmV rfl ?_|refine vmW rfl ?_|refine vmL ?_|refine blockW_y (by decide) ?_|((with_reducible first|apply vmO|apply vmT|apply vmC);case a=>simp [t0, t1, t2, t3, t8, t9, qp, w2, ix1, ix2, gr, pt1, pt2];with_reducible first|exact .v|exact .c|exact .t|exact .f))
  refine A.mono (ord2_ans path vp hvp hl x y oc _ ((he.obj _ hcn).trans hoc) (Nat.lt_of_lt_of_le hcn he.no) (by show h.pol 3 = false; rw [he.pol]; exact hp3)) ?_
  rintro _ h3 ⟨rfl, hx3'⟩
  have hx3 := (HE.refl h).drew.trans hx3'
  have he3 := he.trans hx3
  have gr3 := (hx3.obj _ hon).trans gr
  have hk3 := hk2.he hx3
  refine ⟨_, by simp; first | done | rfl, ?_⟩
  by_cases ql : cmpO path x y < 0
  case neg =>
    obtain ⟨k1, k2, k3⟩ := tail (fun hn => by rw [hlast hn]; exact ql)
    repeat(first|with_reducible first|refine vmR ?_|refine vmV rfl ?_|refine vmW rfl ?_|refine vmL ?_|refine blockW_y (by decide) ?_|((with_reducible first|apply vmO|apply vmT|apply vmC);case a=>simp [t0, t1, t2, t3, t8, t9, ql];with_reducible first|exact .v|exact .c|exact .t|exact .f))
    refine ⟨by simp [readSame, beqAV_self, t0]; done, _, by simp; first | done | rfl, ?_⟩
    repeat(first|with_reducible first|refine vmR ?_|refine vmV rfl ?_|refine vmW rfl ?_|refine vmL ?_|refine blockW_y (by decide) ?_|((with_reducible first|apply vmO|apply vmT|apply vmC);case a=>simp [t0, t1, t2, t3, t8, t9, ql, w1];with_reducible first|exact .v|exact .c|exact .t|exact .f))
    refine ⟨_, ?_, _, _, i + 1, _, rfl, rfl, by omega, by omega, by simp [t0], by simp [t1], by simp [t2], by simp [t3], by simp, hzl, k1, k2, k3, hk3, he3⟩
    omega
  repeat(first|with_reducible first|refine vmR ?_|refine vmV rfl ?_|refine vmW rfl ?_|refine vmL ?_|refine blockW_y (by decide) ?_|((with_reducible first|apply vmO|apply vmT|apply vmC);case a=>simp [t0, t1, t2, t3, t8, t9, ql];with_reducible first|exact .v|exact .c|exact .t|exact .f))
  refine ⟨by simp [readSame, beqAV_self, t0]; done, _, by simp; first | done | rfl, ?_⟩
  repeat(first|with_reducible first|refine vmR ?_|refine vmV rfl ?_|refine vmW rfl ?_|refine vmL ?_|refine blockW_y (by decide) ?_|((with_reducible first|apply vmO|apply vmT|apply vmC);case a=>simp [t0, t1, t2, t3, t8, t9, ql];with_reducible first|exact .v|exact .c|exact .t|exact .f))
  (with_reducible refine W_draw_id (pln := true) [0, 1, 2, 3, 4, 5, 6, 7, 8, 9, 10, 11, 12, 13, 14, 15, 16, 17] [(9, (9, [])), (13, (13, []))] (by kernel_rfl) rfl ?_)
  have hsl : (splice cs (j * 8) [.str y.key, .int .i64 y.br, .int .i64 y.ep, .int .i64 y.sq, .int .i64 y.fr, .int .i64 y.to, .str y.val, .bool y.gone]).length = cs.length := by
    unfold splice
    rw [List.length_append, List.length_append, List.length_take, List.length_drop]
    simp; omega
  repeat(first|with_reducible first|refine vmR ?_|refine vmV rfl ?_|refine vmW rfl ?_|refine vmL ?_|refine blockW_y (by decide) ?_|((with_reducible first|apply vmO|apply vmT|apply vmC);case a=>simp [t0, t1, t2, t3, t8, t9, w2, ix1, ix2, gr3, pt1, pt2, hle1, hle2, hsl];with_reducible first|exact .v|exact .c|exact .t|exact .f))
  refine ⟨by simp [readSame, beqAV_self, t0]; done, _, by simp; first | done | rfl, ?_⟩
  repeat(first|with_reducible first|refine vmR ?_|refine vmV rfl ?_|refine vmW rfl ?_|refine vmL ?_|refine blockW_y (by decide) ?_|((with_reducible first|apply vmO|apply vmT|apply vmC);case a=>simp [t0, t1, t2, t3, t8, t9, w2];with_reducible first|exact .v|exact .c|exact .t|exact .f))
  have hk4 := hset1 (encV y) { h3.drew with obj := Mp.set h3.obj o (.row (splice cs (j * 8) (encV y).cells)) } (fitV y) (by simp) hk3.on
  obtain ⟨cs2, gr4, _, _, hset2⟩ := hk4.at_ (fun e he => by rw [← List.map_set] at he; exact fitVs _ e he) (i := jm) (by rw [List.length_set, List.length_map]; omega)
  simp only [Mp.get_set, if_true] at gr4
  injection gr4 with gr4
  injection gr4 with gr4
  have hk5 := hset2 (encV x) { h3.drew with obj := Mp.set (Mp.set h3.obj o (.row (splice cs (j * 8) (encV y).cells))) o (.row (splice (splice cs (j * 8) (encV y).cells) (jm * 8) (encV x).cells)) } (fitV x) (by simp [← gr4]) hk3.on
  rw [← List.map_set, ← List.map_set] at hk5
  have hsw := swap_down sp rest x j qp (by omega)
  simp only [← hjm, ← hy] at hsw
  rw [hsw] at hk5
  refine ⟨jm, by omega, _, _, rfl, by omega, by simp [t0], by simp [t1], by simp [t2], by simp [t3], by simp [t8], by simp, ?_, hk5, (he3.drew.set hlo _).set hlo _⟩
  rw [List.drop_eq_getElem_cons hjl, show jm + 1 = j by omega]
  intro b hb'
  rcases List.mem_cons.mp hb' with q | q
  · rw [q, ← hy]; exact ql
  · exact hlt b q
end Go.Vn

set_option maxRecDepth 20000
namespace Go.Vn
open Go.Proofs

theorem inssort_nop (v F : AV) (a b : Nat) (ha : a ≤ 1000000) (hb : b ≤ a + 1) (h0 : Hp Fm) : A Tryz.prog TT (.func 138) [v, .int .i64 a, .int .i64 b, F] h0 (fun _ h' => h' = h0) := by
  have w1 : IntKind.i64.wrap ((a : Int) + 1) = ((a + 1 : Nat) : Int) := by rw [wrap64 (by omega) (by omega)]; simp
  have q1 : ¬ (a + 1 < b) := by omega
  have q2 : ¬ ((a : Int) + 1 < b) := by omega
  apply A_go Tryz.func138 rfl (by rfl); (case hn => (simp [Tryz.ntmps138]; rfl))
  repeat(first|with_reducible first|refine vmR ?_|refine vmV rfl ?_|refine vmW rfl ?_|refine vmL ?_|refine blockW_y (by decide) ?_|((with_reducible first|apply vmO|apply vmT|apply vmC);case a=>simp [w1];with_reducible first|exact .v|exact .c|exact .t|exact .f))
  refine W_loop_i ?_
  repeat(first|with_reducible first|refine vmR ?_|refine vmV rfl ?_|refine vmW rfl ?_|refine vmL ?_|refine blockW_y (by decide) ?_|((with_reducible first|apply vmO|apply vmT|apply vmC);case a=>simp [q1, q2];with_reducible first|exact .v|exact .c|exact .t|exact .f))
  (first | apply endW_r | apply endW_n); (case h1 => (simp [Tryz.results138]; first | done | rfl))
  rfl

theorem inssort_rs (path : List Lg) (vp : AV) (hvp : SV 2 (path.map encL) vp) (hl : path.length ≤ 1000000) (oc : Nat) (hb : Hp Fm) (hoc : Mp.get hb.obj oc = some (.row [vp])) (hcn : oc < hb.no) (hp3 : hb.pol 3 = false) (xs : List Ver) (hxl : xs.length ≤ 20) (v : AV) (h0 : Hp Fm) (he0 : HE hb h0) (hr : RS hb.no h0 8 true (xs.map encV) v) (n : Nat) (hn : n = xs.length) :
    A Tryz.prog TT (.func 138) [v, .int .i64 0, .int .i64 n, .fn (.func 107) [] [.ptr oc 0]] h0 (fun _ h' => ∃ ys, Sorted (cmpO path) ys ∧ (∀ x, alike (cmpO path) x ys = alike (cmpO path) x xs) ∧ ys.length = xs.length ∧ RS hb.no h' 8 true (ys.map encV) v ∧ HE hb h') := by
  subst hn
  rcases hr with ⟨rfl, hx⟩ | ⟨o, cap, rfl, hlo, hk⟩
  · have hx' : xs = [] := by simpa using hx
    subst hx'
    refine A.mono (inssort_nop .nils _ 0 0 (by omega) (by omega) h0) ?_
    rintro _ _ rfl
    exact ⟨[], trivial, fun _ => rfl, rfl, .inl ⟨rfl, rfl⟩, he0⟩
  · rw [List.length_map]
    refine A.mono (inssort_ans path vp hvp hl oc hb hoc hcn hp3 xs (by omega) o cap hlo h0 he0 hk) ?_
    rintro _ h' ⟨ys, k1, k2, k3, k4, k5⟩
    exact ⟨ys, k1, k2, k3, .inr ⟨o, cap, by rw [List.length_map, k3], hlo, k4⟩, k5⟩

theorem stable_ans (path : List Lg) (vp : AV) (hvp : SV 2 (path.map encL) vp) (hl : path.length ≤ 1000000) (oc : Nat) (hb : Hp Fm) (hoc : Mp.get hb.obj oc = some (.row [vp])) (hcn : oc < hb.no) (hp3 : hb.pol 3 = false) (xs : List Ver) (hxl : xs.length ≤ 20) (v : AV) (h0 : Hp Fm) (he0 : HE hb h0) (hr : RS hb.no h0 8 true (xs.map encV) v) (n : Nat) (hn : n = xs.length) :
    A Tryz.prog TT (.func 122) [v, .int .i64 n, .fn (.func 107) [] [.ptr oc 0]] h0 (fun _ h' => ∃ ys, Sorted (cmpO path) ys ∧ (∀ x, alike (cmpO path) x ys = alike (cmpO path) x xs) ∧ ys.length = xs.length ∧ RS hb.no h' 8 true (ys.map encV) v ∧ HE hb h') := by
  by_cases q : n = 20
  · subst q
    have hr20 := inssort_rs path vp hvp hl oc hb hoc hcn hp3 xs hxl v h0 he0 hr 20 hn
    apply A_go Tryz.func122 rfl (by rfl); (case hn => (simp [Tryz.ntmps122]; rfl))
    repeat(first|with_reducible first|refine vmR ?_|refine vmV rfl ?_|refine vmW rfl ?_|refine vmL ?_|refine blockW_y (by decide) ?_|((with_reducible first|apply vmO|apply vmT|apply vmC);case a=>simp;with_reducible first|exact .v|exact .c|exact .t|exact .f))
    refine W_loop_i ?_
    repeat(first|with_reducible first|refine vmR ?_|refine vmV rfl ?_|refine vmW rfl ?_|refine vmL ?_|refine blockW_y (by decide) ?_|((with_reducible first|apply vmO|apply vmT|apply vmC);case a=>simp;with_reducible first|exact .v|exact .c|exact .t|exact .f))
    refine A.mono hr20 ?_
    rintro _ h1 ⟨ys, k1, k2, k3, k4, k5⟩
    refine ⟨_, by simp; first | done | rfl, ?_⟩
    have w40 : IntKind.i64.wrap 40 = 40 := by rfl
    repeat(first|with_reducible first|refine vmR ?_|refine vmV rfl ?_|refine vmW rfl ?_|refine vmL ?_|refine blockW_y (by decide) ?_|((with_reducible first|apply vmO|apply vmT|apply vmC);case a=>simp [w40];with_reducible first|exact .v|exact .c|exact .t|exact .f))
    refine W_loop_i ?_
    repeat(first|with_reducible first|refine vmR ?_|refine vmV rfl ?_|refine vmW rfl ?_|refine vmL ?_|refine blockW_y (by decide) ?_|((with_reducible first|apply vmO|apply vmT|apply vmC);case a=>simp [w40];with_reducible first|exact .v|exact .c|exact .t|exact .f))
    have nop : A Tryz.prog TT (.func 138) [v, .int .i64 20, .int .i64 20, .fn (.func 107) [] [.ptr oc 0]] h1 (fun _ h' => h' = h1) := inssort_nop v _ 20 20 (by omega) (by omega) h1
    refine A.mono nop ?_
    rintro _ _ rfl
    refine ⟨_, by simp; first | done | rfl, ?_⟩
    repeat(first|with_reducible first|refine vmR ?_|refine vmV rfl ?_|refine vmW rfl ?_|refine vmL ?_|refine blockW_y (by decide) ?_|((with_reducible first|apply vmO|apply vmT|apply vmC);case a=>simp;with_reducible first|exact .v|exact .c|exact .t|exact .f))
    refine W_loop_i ?_
    repeat(first|with_reducible first|refine vmR ?_|refine vmV rfl ?_|refine vmW rfl ?_|refine vmL ?_|refine blockW_y (by decide) ?_|((with_reducible first|apply vmO|apply vmT|apply vmC);case a=>simp;with_reducible first|exact .v|exact .c|exact .t|exact .f))
    (first | apply endW_r | apply endW_n); (case h1 => (simp [Tryz.results122]; first | done | rfl))
    exact ⟨ys, k1, k2, k3, k4, k5⟩
  · have q1 : ¬ (20 ≤ n) := by omega
    have q2 : ¬ ((20 : Int) ≤ n) := by omega
    have q3 : ¬ ((20 : Int) < n) := by omega
    have q4 : ¬ (20 < n) := by omega
    apply A_go Tryz.func122 rfl (by rfl); (case hn => (simp [Tryz.ntmps122]; rfl))
    repeat(first|with_reducible first|refine vmR ?_|refine vmV rfl ?_|refine vmW rfl ?_|refine vmL ?_|refine blockW_y (by decide) ?_|((with_reducible first|apply vmO|apply vmT|apply vmC);case a=>simp;with_reducible first|exact .v|exact .c|exact .t|exact .f))
    refine W_loop_i ?_
    repeat(first|with_reducible first|refine vmR ?_|refine vmV rfl ?_|refine vmW rfl ?_|refine vmL ?_|refine blockW_y (by decide) ?_|((with_reducible first|apply vmO|apply vmT|apply vmC);case a=>simp [q1, q2];with_reducible first|exact .v|exact .c|exact .t|exact .f))
    refine A.mono (inssort_rs path vp hvp hl oc hb hoc hcn hp3 xs hxl v h0 he0 hr n hn) ?_
    rintro _ h1 ⟨ys, k1, k2, k3, k4, k5⟩
    refine ⟨_, by simp; first | done | rfl, ?_⟩
    repeat(first|with_reducible first|refine vmR ?_|refine vmV rfl ?_|refine vmW rfl ?_|refine vmL ?_|refine blockW_y (by decide) ?_|((with_reducible first|apply vmO|apply vmT|apply vmC);case a=>simp;with_reducible first|exact .v|exact .c|exact .t|exact .f))
    refine W_loop_i ?_
    repeat(first|with_reducible first|refine vmR ?_|refine vmV rfl ?_|refine vmW rfl ?_|refine vmL ?_|refine blockW_y (by decide) ?_|((with_reducible first|apply vmO|apply vmT|apply vmC);case a=>simp [q3, q4];with_reducible first|exact .v|exact .c|exact .t|exact .f))
    (first | apply endW_r | apply endW_n); (case h1 => (simp [Tryz.results122]; first | done | rfl))
    exact ⟨ys, k1, k2, k3, k4, k5⟩

noncomputable def orderP (path : List Lg) (xs : List Ver) : List Ver := (sort_all (cmpO_ok path) (xs.filter fun a => !unseen path a)).choose
theorem orderP_is {path : List Lg} {xs ys : List Ver} (h1 : Sorted (cmpO path) ys) (h2 : ∀ x, alike (cmpO path) x ys = alike (cmpO path) x (xs.filter fun a => !unseen path a)) : ys = orderP path xs :=
  let h := (sort_all (cmpO_ok path) (xs.filter fun a => !unseen path a)).choose_spec
  sorted_unique (cmpO_ok path) _ _ h1 h.1 (fun x => by rw [h2 x]; exact (h.2 x).symm)

theorem order_ans (path : List Lg) (vp : AV) (hvp : SV 2 (path.map encL) vp) (hl : path.length ≤ 1000000) (xs : List Ver) (v : AV) (hv : SL 8 (xs.map encV) v) (hxl : xs.length ≤ 20) (h0 : Hp Fm) :
    A Tryz.prog TT (.func 80) [v, vp] h0 (fun r h' => SL 8 ((orderP path xs).map encV) r ∧ (orderP path xs).length ≤ 20 ∧ HE h0 h') := by
  have pc := hvp.cells
  have pd := hvp.isCell
  have vc := hv.sv.cells
  have vd := hv.sv.isCell
  apply A_goT Tryz.func80 rfl (by rfl); (case hn => (simp [Tryz.ntmps80]; rfl))
  repeat(first|with_reducible first|refine vmR ?_|refine vmV rfl ?_|refine vmW rfl ?_|refine vmL ?_|refine blockW_y (by decide) ?_|((with_reducible first|apply vmO|apply vmT|apply vmC);case a=>simp [pc, pd, vc, vd];with_reducible first|exact .v|exact .c|exact .t|exact .f))
  obtain ⟨hb, hhb⟩ : ∃ hb : Hp Fm, hb = { h0 with obj := Mp.set h0.obj h0.no (.row [vp]), no := h0.no + 1, pol := (· == 117) } := ⟨_, rfl⟩
  have hoc : Mp.get hb.obj h0.no = some (.row [vp]) := by rw [hhb]; simp
  have hcn : h0.no < hb.no := by rw [hhb]; simp
  have hp3 : hb.pol 3 = false := by rw [hhb]; rfl
  have hpv : hb.pol 117 = true := by rw [hhb]; rfl
  rw [← hhb]
  refine A.mono (clonev_ans xs v hv (by omega) hb hpv) ?_
  rintro w1 h1 ⟨r1, e1⟩
  have c1 := r1.cells
  have d1 := r1.isCell
  refine ⟨_, by simp; first | done | rfl, ?_⟩
  repeat(first|with_reducible first|refine vmR ?_|refine vmV rfl ?_|refine vmW rfl ?_|refine vmL ?_|refine blockW_y (by decide) ?_|((with_reducible first|apply vmO|apply vmT|apply vmC);case a=>simp [c1, d1];with_reducible first|exact .v|exact .c|exact .t|exact .f))
  refine A.mono (delf_ans path vp hvp hl h0.no hb hoc hcn xs w1 (by omega) h1 e1 r1) ?_
  rintro w2 h2 ⟨r2, e2⟩
  have c2 := r2.cells
  have d2 := r2.isCell
  have l2 := r2.len Tryz.underlying64
  have n2 := r2.nm
  obtain ⟨fs, hfs⟩ : ∃ fs, fs = xs.filter (fun a => !unseen path a) := ⟨_, rfl⟩
  rw [← hfs] at r2 l2
  have hfl : fs.length ≤ 20 := by rw [hfs]; exact Nat.le_trans (List.length_filter_le _ _) hxl
  rw [List.length_map] at l2
  refine ⟨_, by simp; first | done | rfl, ?_⟩
  repeat(first|with_reducible first|refine vmR ?_|refine vmV rfl ?_|refine vmW rfl ?_|refine vmL ?_|refine blockW_y (by decide) ?_|((with_reducible first|apply vmO|apply vmT|apply vmC);case a=>simp [c2, d2];with_reducible first|exact .v|exact .c|exact .t|exact .f))
  have sorts : A Tryz.prog TT (.func 106) [w2, .fn (.func 107) [] [.ptr h0.no 0]] h2 (fun _ h' => ∃ ys, Sorted (cmpO path) ys ∧ (∀ x, alike (cmpO path) x ys = alike (cmpO path) x fs) ∧ ys.length = fs.length ∧ RS hb.no h' 8 true (ys.map encV) w2 ∧ HE hb h') := by
    apply A_go Tryz.func106 rfl (by rfl); (case hn => (simp [Tryz.ntmps106]; rfl))
    repeat(first|with_reducible first|refine vmR ?_|refine vmV rfl ?_|refine vmW rfl ?_|refine vmL ?_|refine blockW_y (by decide) ?_|((with_reducible first|apply vmO|apply vmT|apply vmC);case a=>simp [c2, d2, l2, n2];with_reducible first|exact .v|exact .c|exact .t|exact .f))
    refine A.mono (stable_ans path vp hvp hl h0.no hb hoc hcn hp3 fs hfl w2 h2 e2 r2 _ rfl) ?_
    rintro _ h' ⟨ys, k1, k2, k3, k4, k5⟩
    refine ⟨_, by simp; first | done | rfl, ?_⟩
    repeat(first|with_reducible first|refine vmR ?_|refine vmV rfl ?_|refine vmW rfl ?_|refine vmL ?_|refine blockW_y (by decide) ?_|((with_reducible first|apply vmO|apply vmT|apply vmC);case a=>simp;with_reducible first|exact .v|exact .c|exact .t|exact .f))
    (first | apply endW_r | apply endW_n); (case h1 => (simp [Tryz.results106]; first | done | rfl))
    exact ⟨ys, k1, k2, k3, k4, k5⟩
  refine A.mono sorts ?_
  rintro _ h3 ⟨ys, k1, k2, k3, k4, k5⟩
  refine ⟨_, by simp; first | done | rfl, ?_⟩
  repeat(first|with_reducible first|refine vmR ?_|refine vmV rfl ?_|refine vmW rfl ?_|refine vmL ?_|refine blockW_y (by decide) ?_|((with_reducible first|apply vmO|apply vmT|apply vmC);case a=>simp [c2, d2];with_reducible first|exact .v|exact .c|exact .t|exact .f))
  (first | apply endW_r | apply endW_n); (case h1 => (simp [Tryz.results80]; first | done | rfl))
  have hys : ys = orderP path xs := orderP_is k1 (fun x => by rw [k2 x, hfs])
  obtain ⟨f1, f2⟩ := k4.frz (fitVs _) (by omega) (fun e => by cases e)
  have f3 := k5.x2 f2 k4.rows (fun _ e => e.elim)
  rw [← hys]
  refine ⟨?_, by omega, ?_⟩
  · rcases k4 with ⟨hw, hx⟩ | ⟨o, cap, hw, _⟩
    · rw [hw]; exact .inl ⟨rfl, hx⟩
    · rcases f1 with ⟨z, hz⟩ | ⟨g, of_, cp, z⟩ | ⟨c, z, hz⟩
      · exact .inl ⟨z, hz⟩
      · exact .inr ⟨g, of_, cp, z⟩
      · rw [hw] at z
        simp only [Vn.frz] at z
        exfalso
        revert z
        split <;> (try split) <;> simp
  · have : HE h0 hb → True := fun _ => trivial
    refine ⟨Nat.le_trans (Nat.le_of_lt hcn) f3.no, ?_, rfl, fun q hq => ?_, fun g hg => ?_⟩
    · exact Nat.le_trans (by rw [hhb]; exact Nat.le_refl _) f3.ng
    · refine (f3.obj q (Nat.lt_trans hq hcn)).trans ?_
      rw [hhb]; simp [Nat.ne_of_lt hq]
    · refine (f3.len g (by rw [hhb]; exact hg)).trans ?_
      rw [hhb]
end Go.Vn
