/- What functions of the program come to, in the value machine (a part of the proof of the claim's statement). No condition. -/
import Derived.Test.YtpodlpemlkkojaaVnG4
import Derived.Test.YtpodlpemlkkojaaVnG2
import Derived.Test.YtpodlpemlkkojaaVnG1
import Derived.Test.YtpodlpemlkkojaaVnG8
set_option linter.unusedSimpArgs false
set_option linter.unusedVariables false
set_option maxRecDepth 20000
namespace Go.Vn
open Go.Proofs

theorem leg14_ans (xs : List Lg) (v : AV) (hv : SV 2 (xs.map encL) v) (hl : xs.length ≤ 1000000) (b e s : Int) (h0 : Hp Fm) :
    A Try.prog TT (.func 86) [v, .agg [.int .i64 b, .int .i64 e, .int .i64 s]] h0 (fun r h' => r = .int .i64 (legI xs b e) ∧ HE h0 h') := by
  have l1 := hv.len Try.underlying23
  rw [List.length_map] at l1
  have n1 := hv.nm
  have c1 := hv.cells
  have d1 := hv.isCell
  apply A_go Try.func86 rfl (by rfl); (case hn => (simp [Try.ntmps86]; rfl))
  repeat(first|with_reducible first|refine vmR ?_|refine vmV rfl ?_|refine vmW rfl ?_|refine vmL ?_|refine blockW_y (by decide) ?_|((with_reducible first|apply vmO|apply vmT|apply vmC);case a=>simp;with_reducible first|exact .v|exact .c|exact .t|exact .f))
  refine W_loop (fun m s' => ∃ (t : Fm AV) (h : Hp Fm) (i : Nat), s' = ⟨t, 31, h, none⟩ ∧ m = xs.length - i ∧ i ≤ xs.length ∧ tget t 0 = v ∧ tget t 3 = .ptr h0.no 0 ∧ tget t 5 = .int .i64 i ∧ (∀ j (hj : j < i) (hx : j < xs.length), sees b e xs[j] = false) ∧ Mp.get h.obj h0.no = some (.row [.int .i64 b, .int .i64 e, .int .i64 s]) ∧ HE h0 h) xs.length
    ⟨_, _, 0, rfl, rfl, by omega, by simp, by simp, by simp, fun j hj => absurd hj (Nat.not_lt_zero _), by simp, (HE.refl h0).new _⟩ ?_
  rintro m _ ⟨t, h, i, rfl, rfl, hi, t0, t3, t5, hn, ho, he⟩
  by_cases qi : i < xs.length
  · have i1 := hv.idx Try.underlying23 z59 (k := .i64) (i := i) (by simp) (by simpa using qi)
    simp only [List.getElem_map, Int.toNat_natCast] at i1
    have w1 : IntKind.i64.wrap ((i : Int) + 1) = ((i + 1 : Nat) : Int) := by rw [wrap64 (by omega) (by omega)]; simp
    obtain ⟨x, hx⟩ : ∃ x, x = xs[i] := ⟨_, rfl⟩
    rw [← hx] at i1
    have hnx : sees b e x = false → ∀ j (hj : j < i + 1) (hx : j < xs.length), sees b e xs[j] = false := fun k j hj hx' => by
      by_cases ej : j = i
      · subst ej; rw [← hx]; exact k
      · exact hn j (by omega) hx'
    by_cases q1 : x.b = b
    · by_cases q2 : e ≤ x.e
      · repeat(first|with_reducible first|refine vmR ?_|refine vmV rfl ?_|refine vmW rfl ?_|refine vmL ?_|refine blockW_y (by decide) ?_|((with_reducible first|apply vmO|apply vmT|apply vmC);case a=>simp [t0, t5, qi, l1, n1];with_reducible first|exact .v|exact .c|exact .t|exact .f))
        (with_reducible refine W_draw_id (pln := true) [0, 1, 2, 3, 4, 5, 6, 7, 8, 9, 10, 11, 12, 13, 14, 15, 16, 17] [(4, (4, [])), (6, (6, [])), (10, (10, [])), (15, (15, []))] (by kernel_rfl) rfl ?_)
        repeat(first|with_reducible first|refine vmR ?_|refine vmV rfl ?_|refine vmW rfl ?_|refine vmL ?_|refine blockW_y (by decide) ?_|((with_reducible first|apply vmO|apply vmT|apply vmC);case a=>simp [t0, t3, t5, i1, ho, q1, q2, c1, d1];with_reducible first|exact .v|exact .c|exact .t|exact .f))
        refine ⟨by simp [readSame, beqAV_self, t0, t3, t5, ho]; done, _, by simp; first | done | rfl, ?_⟩
        repeat(first|with_reducible first|refine vmR ?_|refine vmV rfl ?_|refine vmW rfl ?_|refine vmL ?_|refine blockW_y (by decide) ?_|((with_reducible first|apply vmO|apply vmT|apply vmC);case a=>simp [t5];with_reducible first|exact .v|exact .c|exact .t|exact .f))
        (first | apply endW_r | apply endW_n); (case h1 => (simp [Try.results86]; first | done | rfl))
        have qs : sees b e x = true := by simp [sees, q1, q2]
        rw [hx] at qs
        exact ⟨by unfold legI; rw [firstI_at qi qs fun j hj => hn j hj (by omega)], he.drew⟩
      · repeat(first|with_reducible first|refine vmR ?_|refine vmV rfl ?_|refine vmW rfl ?_|refine vmL ?_|refine blockW_y (by decide) ?_|((with_reducible first|apply vmO|apply vmT|apply vmC);case a=>simp [t0, t5, qi, l1, n1];with_reducible first|exact .v|exact .c|exact .t|exact .f))
        (with_reducible refine W_draw_id (pln := true) [0, 1, 2, 3, 4, 5, 6, 7, 8, 9, 10, 11, 12, 13, 14, 15, 16, 17] [(4, (4, [])), (6, (6, [])), (10, (10, [])), (15, (15, []))] (by kernel_rfl) rfl ?_)
        repeat(first|with_reducible first|refine vmR ?_|refine vmV rfl ?_|refine vmW rfl ?_|refine vmL ?_|refine blockW_y (by decide) ?_|((with_reducible first|apply vmO|apply vmT|apply vmC);case a=>simp [t0, t3, t5, i1, ho, q1, q2, c1, d1];with_reducible first|exact .v|exact .c|exact .t|exact .f))
        refine ⟨by simp [readSame, beqAV_self, t0, t3, t5, ho]; done, _, by simp; first | done | rfl, ?_⟩
        repeat(first|with_reducible first|refine vmR ?_|refine vmV rfl ?_|refine vmW rfl ?_|refine vmL ?_|refine blockW_y (by decide) ?_|((with_reducible first|apply vmO|apply vmT|apply vmC);case a=>simp [t5, w1];with_reducible first|exact .v|exact .c|exact .t|exact .f))
        exact ⟨xs.length - (i + 1), by omega, _, _, i + 1, rfl, rfl, by omega, by simp [t0], by simp [t3], by simp, hnx (by simp [sees, q2]), by simpa using ho, he.drew⟩
    · repeat(first|with_reducible first|refine vmR ?_|refine vmV rfl ?_|refine vmW rfl ?_|refine vmL ?_|refine blockW_y (by decide) ?_|((with_reducible first|apply vmO|apply vmT|apply vmC);case a=>simp [t0, t5, qi, l1, n1];with_reducible first|exact .v|exact .c|exact .t|exact .f))
      (with_reducible refine W_draw_id (pln := true) [0, 1, 2, 3, 4, 5, 6, 7, 8, 9, 10, 11, 12, 13, 14, 15, 16, 17] [(4, (4, [])), (6, (6, [])), (10, (10, [])), (15, (15, []))] (by kernel_rfl) rfl ?_)
      repeat(first|with_reducible first|refine vmR ?_|refine vmV rfl ?_|refine vmW rfl ?_|refine vmL ?_|refine blockW_y (by decide) ?_|((with_reducible first|apply vmO|apply vmT|apply vmC);case a=>simp [t0, t3, t5, i1, ho, q1, c1, d1];with_reducible first|exact .v|exact .c|exact .t|exact .f))
      refine ⟨by simp [readSame, beqAV_self, t0, t3, t5, ho]; done, _, by simp; first | done | rfl, ?_⟩
      repeat(first|with_reducible first|refine vmR ?_|refine vmV rfl ?_|refine vmW rfl ?_|refine vmL ?_|refine blockW_y (by decide) ?_|((with_reducible first|apply vmO|apply vmT|apply vmC);case a=>simp [t5, w1];with_reducible first|exact .v|exact .c|exact .t|exact .f))
      exact ⟨xs.length - (i + 1), by omega, _, _, i + 1, rfl, rfl, by omega, by simp [t0], by simp [t3], by simp, hnx (by simp [sees, q1]), by simpa using ho, he.drew⟩
  · have qn : ¬ (i < xs.length) := qi
    have hie : i = xs.length := by omega
    repeat(first|with_reducible first|refine vmR ?_|refine vmV rfl ?_|refine vmW rfl ?_|refine vmL ?_|refine blockW_y (by decide) ?_|((with_reducible first|apply vmO|apply vmT|apply vmC);case a=>simp [t0, t5, qi, qn, l1, n1];with_reducible first|exact .v|exact .c|exact .t|exact .f))
    (first | apply endW_r | apply endW_n); (case h1 => (simp [Try.results86]; first | done | rfl))
    refine ⟨?_, he⟩
    unfold legI
    rw [firstI_none]
    intro x hx
    obtain ⟨j, hj, rfl⟩ := List.getElem_of_mem hx
    exact hn j (by omega) hj

def ahP (a b : Ver) : Bool := if a.ep ≠ b.ep then decide (a.ep < b.ep) else if a.sq ≠ b.sq then decide (a.sq < b.sq) else decide (a.fr < b.fr)
theorem ahP_cmp {path : List Lg} {a b : Ver} (h : legV path a = legV path b) : ahP a b = true ↔ cmpO path a b < 0 := by
  unfold ahP cmpO orI orI orI orI orI
  rw [h]
  have z : cmpI (legV path b) (legV path b) = 0 := (cmpI_z _ _).mpr rfl
  rw [z, if_pos rfl]
  by_cases q1 : a.ep = b.ep
  · rw [if_neg (by simp [q1]), if_pos ((cmpI_z _ _).mpr q1)]
    by_cases q2 : a.sq = b.sq
    · rw [if_neg (by simp [q2]), if_pos ((cmpI_z _ _).mpr q2)]
      by_cases q3 : a.fr = b.fr
      · rw [if_pos ((cmpI_z _ _).mpr q3)]; simp [q3]
      · rw [if_neg (fun k => q3 ((cmpI_z _ _).mp k)), cmpI_lt]; simp
    · rw [if_pos q2, if_neg (fun k => q2 ((cmpI_z _ _).mp k)), cmpI_lt]; simp
  · rw [if_pos q1, if_neg (fun k => q1 ((cmpI_z _ _).mp k)), cmpI_lt]; simp

theorem ahead14_ans (a b : Ver) (h : Hp Fm) : A Try.prog TT (.func 87) [encV a, encV b] h (fun r h' => r = .bool (ahP a b) ∧ HE h h') := by
  have nz : h.no ≠ h.no + 1 := by omega
  have nz2 : h.no + 1 ≠ h.no := by omega
  apply A_go Try.func87 rfl (by rfl); (case hn => (simp [Try.ntmps87]; rfl))
  by_cases q1 : a.ep = b.ep
  case neg =>
    repeat(first|with_reducible first|refine vmR ?_|refine vmV rfl ?_|refine vmW rfl ?_|refine vmL ?_|refine blockW_y (by decide) ?_|((with_reducible first|apply vmO|apply vmT|apply vmC);case a=>simp [q1, nz, nz2];with_reducible first|exact .v|exact .c|exact .t|exact .f))
    (first | apply endW_r | apply endW_n); (case h1 => (simp [Try.results87]; first | done | rfl))
    exact ⟨by simp [ahP, q1], ((HE.refl h).new _).new _⟩
  by_cases q2 : a.sq = b.sq
  case neg =>
    repeat(first|with_reducible first|refine vmR ?_|refine vmV rfl ?_|refine vmW rfl ?_|refine vmL ?_|refine blockW_y (by decide) ?_|((with_reducible first|apply vmO|apply vmT|apply vmC);case a=>simp [q1, q2, nz, nz2];with_reducible first|exact .v|exact .c|exact .t|exact .f))
    (first | apply endW_r | apply endW_n); (case h1 => (simp [Try.results87]; first | done | rfl))
    exact ⟨by simp [ahP, q1, q2], ((HE.refl h).new _).new _⟩
  repeat(first|with_reducible first|refine vmR ?_|refine vmV rfl ?_|refine vmW rfl ?_|refine vmL ?_|refine blockW_y (by decide) ?_|((with_reducible first|apply vmO|apply vmT|apply vmC);case a=>simp [q1, q2, nz, nz2];with_reducible first|exact .v|exact .c|exact .t|exact .f))
  (first | apply endW_r | apply endW_n); (case h1 => (simp [Try.results87]; first | done | rfl))
  exact ⟨by simp [ahP, q1, q2], ((HE.refl h).new _).new _⟩
end Go.Vn

set_option maxRecDepth 20000
namespace Go.Vn
open Go.Proofs

theorem legV_lt (path : List Lg) (a : Ver) : legV path a < path.length := by
  unfold legV legI firstI
  cases q : path.findIdx? (sees a.br a.ep) with
  | none => simp only; omega
  | some i => simp only; have := (List.findIdx?_eq_some_iff_getElem.mp q).1; omega
theorem alike_all {E : Type} {c : E → E → Int} {x : E} {p : E → Bool} {l : List E} (h : ∀ y, c y x = 0 → p y = true) : alike c x (l.filter p) = alike c x l := by
  unfold alike
  rw [List.filter_filter]
  refine List.filter_congr fun y _ => ?_
  by_cases q : c y x = 0
  · simp [q, h y q]
  · simp [q]
theorem alike_none {E : Type} {c : E → E → Int} {x : E} {p : E → Bool} {l : List E} (h : ∀ y, c y x = 0 → p y = false) : alike c x (l.filter p) = [] := by
  unfold alike
  rw [List.filter_filter, List.filter_eq_nil_iff]
  intro y _
  by_cases q : c y x = 0
  · simp [h y q]
  · simp [q]
theorem alike_app {E : Type} {c : E → E → Int} {x : E} {l m : List E} : alike c x (l ++ m) = alike c x l ++ alike c x m := by unfold alike; rw [List.filter_append]
theorem cmpO_leg {path : List Lg} {y x : Ver} (h : cmpO path y x = 0) : legV path y = legV path x := by
  unfold cmpO orI at h
  split at h
  · rename_i q; exact ((cmpI_z _ _).mp q).symm
  · rename_i q; exact (q h).elim
theorem cmpO_gt {path : List Lg} {a x : Ver} (h : legV path x < legV path a) : ¬ cmpO path x a < 0 := by
  unfold cmpO orI
  have : ¬ cmpI (legV path a) (legV path x) = 0 := fun k => by have := (cmpI_z _ _).mp k; omega
  rw [if_neg this]
  unfold cmpI
  rw [if_neg (by omega)]
  split <;> omega

def ordS (path : List Lg) (z : Int) (i : Nat) (xs : List Ver) : List Ver := xs.filter (fun a => decide (z < legV path a)) ++ (xs.take i).filter (fun a => decide (legV path a = z))
theorem ordS_step (path : List Lg) (z : Int) (xs : List Ver) (x : Ver) : alike (cmpO path) x (ordS path z xs.length xs) = alike (cmpO path) x (ordS path (z - 1) 0 xs) := by
  unfold ordS
  rw [List.take_length, List.take_zero, List.filter_nil, List.append_nil, alike_app]
  by_cases q1 : legV path x = z
  · rw [alike_none (p := fun a => decide (z < legV path a)) (fun y hy => by rw [cmpO_leg hy, q1]; simp),
      alike_all (p := fun a => decide (legV path a = z)) (fun y hy => by rw [cmpO_leg hy, q1]; simp),
      alike_all (p := fun a => decide (z - 1 < legV path a)) (fun y hy => by rw [cmpO_leg hy, q1]; simp; omega)]
    simp
  · rw [alike_none (p := fun a => decide (legV path a = z)) (fun y hy => by rw [cmpO_leg hy]; simp [q1]), List.append_nil]
    by_cases q2 : z < legV path x
    · rw [alike_all (p := fun a => decide (z < legV path a)) (fun y hy => by rw [cmpO_leg hy]; simp [q2]),
        alike_all (p := fun a => decide (z - 1 < legV path a)) (fun y hy => by rw [cmpO_leg hy]; simp; omega)]
    · rw [alike_none (p := fun a => decide (z < legV path a)) (fun y hy => by rw [cmpO_leg hy]; simp; omega),
        alike_none (p := fun a => decide (z - 1 < legV path a)) (fun y hy => by rw [cmpO_leg hy]; simp; omega)]
theorem ordS_in (path : List Lg) (z : Int) (xs : List Ver) {i : Nat} (hi : i < xs.length) (q : legV path xs[i] = z) : ordS path z (i + 1) xs = ordS path z i xs ++ [xs[i]] := by
  unfold ordS
  rw [List.take_succ_eq_append_getElem hi, List.filter_append]
  simp [q]
theorem ordS_out (path : List Lg) (z : Int) (xs : List Ver) {i : Nat} (hi : i < xs.length) (q : legV path xs[i] ≠ z) : ordS path z (i + 1) xs = ordS path z i xs := by
  unfold ordS
  rw [List.take_succ_eq_append_getElem hi, List.filter_append]
  simp [q]

set_option maxHeartbeats 4000000 in
theorem order14_ans (path : List Lg) (vp : AV) (hvp : SV 2 (path.map encL) vp) (hl : path.length ≤ 1000) (xs : List Ver) (v : AV) (hv : SV 8 (xs.map encV) v) (hxl : xs.length ≤ 1000) (h0 : Hp Fm) (hp0 : h0.pol 39 = false) :
    A Try.prog TT (.func 70) [v, vp] h0 (fun r h' => SV 8 ((orderP path xs).map encV) r ∧ (orderP path xs).length ≤ 1000000 ∧ HE h0 h') := by
  have l1 := hv.len Try.underlying22
  rw [List.length_map] at l1
  have n1 := hv.nm
  have vc := hv.cells
  have vd := hv.isCell
  have l2 := hvp.len Try.underlying23
  rw [List.length_map] at l2
  have n2 := hvp.nm
  have pc := hvp.cells
  have pd := hvp.isCell
  obtain ⟨z, hz⟩ : ∃ z : Int, z = (path.length : Int) - 1 := ⟨_, rfl⟩
  have w0 : IntKind.i64.wrap ((path.length : Int) - 1) = z := by rw [wrap64 (by omega) (by omega)]; omega
  have hend : ∀ out : List Ver, Sorted (cmpO path) out → (∀ x, alike (cmpO path) x out = alike (cmpO path) x (ordS path (-1) 0 xs)) → out = orderP path xs := fun out k1 k2 => by
    refine orderP_is k1 fun x => ?_
    rw [k2 x]
    unfold ordS
    rw [List.take_zero, List.filter_nil, List.append_nil]
    congr 1
    refine List.filter_congr fun a _ => ?_
    unfold unseen
    by_cases q : legV path a < 0
    · simp [q]; omega
    · simp [q]; omega
  apply A_go Try.func70 rfl (by rfl); (case hn => (simp [Try.ntmps70]; rfl))
  repeat(first|with_reducible first|refine vmR ?_|refine vmV rfl ?_|refine vmW rfl ?_|refine vmL ?_|refine blockW_y (by decide) ?_|((with_reducible first|apply vmO|apply vmT|apply vmC);case a=>simp [l2, n2, w0];with_reducible first|exact .v|exact .c|exact .t|exact .f))
  refine W_loop (fun m s => ∃ (t : Fm AV) (h : Hp Fm) (z : Int) (out : List Ver) (o : AV), s = ⟨t, 72, h, none⟩ ∧ z = (m : Int) - 1 ∧ m ≤ path.length ∧ tget t 0 = v ∧ tget t 1 = vp ∧ tget t 5 = o ∧ tget t 6 = .int .i64 z ∧ SV 8 (out.map encV) o ∧ Sorted (cmpO path) out ∧ (∀ x, alike (cmpO path) x out = alike (cmpO path) x (ordS path z 0 xs)) ∧ (∀ b ∈ out, z < legV path b) ∧ out.length + 1000 * m ≤ 1000 * path.length ∧ HE h0 h) path.length
    ⟨_, _, z, [], .nils, rfl, hz, Nat.le_refl _, by simp, by simp, by simp, by simp, .inl ⟨rfl, rfl⟩, trivial, fun x => ?_, by simp, by simp, HE.refl _⟩ ?_
  · unfold ordS
    rw [List.take_zero, List.filter_nil, List.append_nil, List.filter_eq_nil_iff.mpr]
    intro a _
    have := legV_lt path a
    simp; omega
  clear w0 hz z
  rintro m s ⟨t, h, z, out, o, rfl, hz, hm, t0, t1, t5, t6, ho, hso, hal, hle, hol, he⟩
  have l3 := ho.len Try.underlying22
  rw [List.length_map] at l3
  have n3 := ho.nm
  have oc := ho.cells
  have od := ho.isCell
  by_cases q0 : 0 < m
  case neg =>
    have qz : ¬ (0 ≤ z) := by omega
    have ez : z = -1 := by omega
    repeat(first|with_reducible first|refine vmR ?_|refine vmV rfl ?_|refine vmW rfl ?_|refine vmL ?_|refine blockW_y (by decide) ?_|((with_reducible first|apply vmO|apply vmT|apply vmC);case a=>simp [t0, t1, t5, t6, qz, oc, od];with_reducible first|exact .v|exact .c|exact .t|exact .f))
    (first | apply endW_r | apply endW_n); (case h1 => (simp [Try.results70]; first | done | rfl))
    subst ez
    have := hend out hso hal
    rw [← this]
    exact ⟨by simpa using ho, by omega, he⟩
  have qz : 0 ≤ z := by omega
  repeat(first|with_reducible first|refine vmR ?_|refine vmV rfl ?_|refine vmW rfl ?_|refine vmL ?_|refine blockW_y (by decide) ?_|((with_reducible first|apply vmO|apply vmT|apply vmC);case a=>simp [t0, t1, t5, t6, qz, oc, od, l3, n3];with_reducible first|exact .v|exact .c|exact .t|exact .f))
  refine W_loop (fun m2 s => ∃ (t : Fm AV) (h : Hp Fm) (i : Nat) (out : List Ver) (o : AV), s = ⟨t, 72, h, none⟩ ∧ m2 = xs.length - i ∧ i ≤ xs.length ∧ tget t 0 = v ∧ tget t 1 = vp ∧ tget t 5 = o ∧ tget t 6 = .int .i64 z ∧ (∃ f : Nat, tget t 7 = .int .i64 (f : Int) ∧ tget t 8 = .int .i64 (i : Int) ∧ SV 8 (out.map encV) o ∧ Sorted (cmpO path) out ∧ (∀ x, alike (cmpO path) x out = alike (cmpO path) x (ordS path z i xs)) ∧ f ≤ out.length ∧ (∀ b ∈ out.take f, z < legV path b) ∧ (∀ b ∈ out.drop f, legV path b = z) ∧ out.length + 1000 * m ≤ 1000 * path.length + i) ∧ HE h0 h) xs.length
    ⟨_, _, 0, out, o, rfl, rfl, Nat.zero_le _, by simp [t0], by simp [t1], by simp [t5], by simp [t6], ⟨out.length, by simp, by simp, ho, hso, hal, Nat.le_refl _, by rw [List.take_length]; exact hle, by rw [List.drop_length]; simp, by omega⟩, he⟩ ?_
  clear l3 n3 oc od t0 t1 t5 t6 ho hso hal hle hol he o out t h
  rintro m2 s ⟨t, h, i, out, o, rfl, rfl, hi, t0, t1, t5, t6, ⟨f, t7, t8, ho, hso, hal, hf, hft, hfd, hol⟩, he⟩
  have l3 := ho.len Try.underlying22
  rw [List.length_map] at l3
  have n3 := ho.nm
  have oc := ho.cells
  have od := ho.isCell
  by_cases qi : i < xs.length
  case neg =>
    have hie : i = xs.length := by omega
    have qn : ¬ (i < xs.length) := qi
    obtain ⟨y, hy⟩ : ∃ y : Int, y = z - 1 := ⟨_, rfl⟩
    have w2 : IntKind.i64.wrap (z - 1) = y := by rw [wrap64 (by omega) (by omega)]; exact hy.symm
    repeat(first|with_reducible first|refine vmR ?_|refine vmV rfl ?_|refine vmW rfl ?_|refine vmL ?_|refine blockW_y (by decide) ?_|((with_reducible first|apply vmO|apply vmT|apply vmC);case a=>simp [t0, t1, t5, t6, t7, t8, qi, qn, l1, n1, vc, vd, w2];with_reducible first|exact .v|exact .c|exact .t|exact .f))
    refine ⟨m - 1, by omega, _, _, y, out, o, rfl, by omega, by omega, by simp [t0], by simp [t1], by simp [t5], by simp, ho, hso, fun x => ?_, fun b hb => ?_, by omega, he⟩
    · rw [hal x, hie, ordS_step, hy]
    · rw [← List.take_append_drop f out] at hb
      rcases List.mem_append.mp hb with q | q
      · have := hft b q; omega
      · have := hfd b q; omega
  have i1 := hv.idx Try.underlying22 z39 (k := .i64) (i := i) (by simp) (by simpa using qi)
  simp only [List.getElem_map, Int.toNat_natCast] at i1
  have w1 : IntKind.i64.wrap ((i : Int) + 1) = ((i + 1 : Nat) : Int) := by rw [wrap64 (by omega) (by omega)]; simp
  repeat(first|with_reducible first|refine vmR ?_|refine vmV rfl ?_|refine vmW rfl ?_|refine vmL ?_|refine blockW_y (by decide) ?_|((with_reducible first|apply vmO|apply vmT|apply vmC);case a=>simp [t0, t1, t5, t6, t7, t8, qi, l1, n1, vc, vd, pc, pd, i1];with_reducible first|exact .v|exact .c|exact .t|exact .f))
  refine A.mono (leg14_ans path vp hvp (by omega) xs[i].br xs[i].ep xs[i].sq _) ?_
  rintro _ hh ⟨rfl, heh⟩
  have elg : legI path xs[i].br xs[i].ep = legV path xs[i] := rfl
  rw [elg]
  refine ⟨_, by simp; first | done | rfl, ?_⟩
  by_cases ql : legV path xs[i] = z
  case neg =>
    repeat(first|with_reducible first|refine vmR ?_|refine vmV rfl ?_|refine vmW rfl ?_|refine vmL ?_|refine blockW_y (by decide) ?_|((with_reducible first|apply vmO|apply vmT|apply vmC);case a=>simp [t0, t1, t5, t6, t7, t8, ql, w1];with_reducible first|exact .v|exact .c|exact .t|exact .f))
    exact ⟨xs.length - (i + 1), by omega, _, _, i + 1, out, o, rfl, rfl, by omega, by simp [t0], by simp [t1], by simp [t5], by simp [t6], ⟨f, by simp [t7], by simp, ho, hso, fun x => by rw [hal x, ordS_out path z xs qi ql], hf, hft, hfd, by omega⟩, he.trans heh⟩
  repeat(first|with_reducible first|refine vmR ?_|refine vmV rfl ?_|refine vmW rfl ?_|refine vmL ?_|refine blockW_y (by decide) ?_|((with_reducible first|apply vmO|apply vmT|apply vmC);case a=>simp [t0, t1, t5, t6, t7, t8, ql, l3, n3, oc, od];with_reducible first|exact .v|exact .c|exact .t|exact .f))
  replace he := he.trans heh
  clear heh
  refine W_loop (fun p s => ∃ (t : Fm AV) (h : Hp Fm), s = ⟨t, 72, h, none⟩ ∧ f ≤ p ∧ p ≤ out.length ∧ tget t 0 = v ∧ tget t 1 = vp ∧ tget t 5 = o ∧ tget t 6 = .int .i64 z ∧ tget t 7 = .int .i64 (f : Int) ∧ tget t 8 = .int .i64 (i : Int) ∧ tget t 9 = .int .i64 (p : Int) ∧ (∀ b ∈ out.drop p, cmpO path xs[i] b < 0) ∧ HE h0 h) out.length
    ⟨_, _, rfl, hf, Nat.le_refl _, by simp [t0], by simp [t1], by simp [t5], by simp [t6], by simp [t7], by simp [t8], by simp, by rw [List.drop_length]; simp, he⟩ ?_
  clear t0 t1 t5 t6 t7 t8 he t h hh
  rintro p s ⟨t, h, rfl, hfp, hp, t0, t1, t5, t6, t7, t8, t9, hlt, he⟩
  obtain ⟨r1, s1, v1⟩ := ho.take Try.underlying22 z39 (k := .i64) (i := p) (by omega) (by rw [List.length_map]; omega)
  obtain ⟨r2, s2, v2⟩ := ho.drop Try.underlying22 z39 (k := .i64) (i := p) (by omega) (by rw [List.length_map]; omega)
  rw [Int.toNat_natCast, ← List.map_take] at v1
  rw [Int.toNat_natCast, ← List.map_drop] at v2
  have c1 := v1.cells
  have d1 := v1.isCell
  have c2 := v2.cells
  have d2 := v2.isCell
  have tail (hz : ∀ hn : out.take p ≠ [], ¬ cmpO path xs[i] ((out.take p).getLast hn) < 0) :
      Sorted (cmpO path) (out.take p ++ [xs[i]] ++ out.drop p) ∧ (∀ x, alike (cmpO path) x (out.take p ++ [xs[i]] ++ out.drop p) = alike (cmpO path) x (ordS path z (i + 1) xs)) ∧ f ≤ (out.take p ++ [xs[i]] ++ out.drop p).length ∧ (∀ b ∈ (out.take p ++ [xs[i]] ++ out.drop p).take f, z < legV path b) ∧ (∀ b ∈ (out.take p ++ [xs[i]] ++ out.drop p).drop f, legV path b = z) ∧ (out.take p ++ [xs[i]] ++ out.drop p).length + 1000 * m ≤ 1000 * path.length + (i + 1) := by
    obtain ⟨a1, a2⟩ := put_in (cmpO_ok path) (l := out.take p) (m := out.drop p) (x := xs[i]) (by rw [List.take_append_drop]; exact hso) hz hlt
    have htl : f ≤ (out.take p).length := by rw [List.length_take]; omega
    refine ⟨a1, fun x => ?_, by simp; omega, fun b hb => ?_, fun b hb => ?_, by simp; omega⟩
    · rw [a2 x, List.take_append_drop, hal x, ordS_in path z xs qi ql, alike_app]
    · rw [List.append_assoc, List.take_append_of_le_length htl, List.take_take, Nat.min_eq_left hfp] at hb
      exact hft b hb
    · rw [List.append_assoc, List.drop_append_of_le_length htl] at hb
      rcases List.mem_append.mp hb with q | q
      · refine hfd b ?_
        rw [← List.take_append_drop p out, List.drop_append_of_le_length htl]
        exact List.mem_append_left _ q
      · rcases List.mem_append.mp q with q | q
        · rw [List.mem_singleton.mp q]; exact ql
        · refine hfd b ?_
          have : out.drop p = (out.drop f).drop (p - f) := by rw [List.drop_drop]; congr 1; omega
          rw [this] at q
          exact List.mem_of_mem_drop q
  have hlast (hp1 : p - 1 < out.length) : ∀ hn : out.take p ≠ [], (out.take p).getLast hn = out[p - 1] := by
    intro hn
    rw [List.getLast_eq_getElem]
    simp only [List.length_take, show min p out.length = p by omega, List.getElem_take]
  by_cases qp : f < p
  case neg =>
    have qz' : ¬ (f < p) := qp
    have qz2 : ¬ ((f : Int) < (p : Int)) := by omega
    have hz' : ∀ hn : out.take p ≠ [], ¬ cmpO path xs[i] ((out.take p).getLast hn) < 0 := fun hn => by
      have h1 : p ≠ 0 := fun e => hn (by rw [e]; rfl)
      rw [hlast (by omega) hn]
      refine cmpO_gt ?_
      rw [ql]
      refine hft _ ?_
      rw [List.mem_take_iff_getElem]
      exact ⟨p - 1, by omega, rfl⟩
    obtain ⟨k1, k2, k4, k5, k6, k7⟩ := tail hz'
    repeat(first|with_reducible first|refine vmR ?_|refine vmV rfl ?_|refine vmW rfl ?_|refine vmL ?_|refine blockW_y (by decide) ?_|((with_reducible first|apply vmO|apply vmT|apply vmC);case a=>simp;with_reducible first|exact .v|exact .c|exact .t|exact .f))
    (with_reducible refine W_draw_id (pln := true) [0, 1, 2, 3, 4, 5, 6, 7, 8, 9, 10, 11, 12, 13, 14] [(7, (7, [])), (12, (12, []))] (by kernel_rfl) rfl ?_)
    repeat(first|with_reducible first|refine vmR ?_|refine vmV rfl ?_|refine vmW rfl ?_|refine vmL ?_|refine blockW_y (by decide) ?_|((with_reducible first|apply vmO|apply vmT|apply vmC);case a=>simp [t0, t1, t5, t6, t7, t8, t9, qp, qz', qz2];with_reducible first|exact .v|exact .c|exact .t|exact .f))
    refine ⟨by simp [readSame, beqAV_self, t0]; done, _, by simp; first | done | rfl, ?_⟩
    repeat(first|with_reducible first|refine vmR ?_|refine vmV rfl ?_|refine vmW rfl ?_|refine vmL ?_|refine blockW_y (by decide) ?_|((with_reducible first|apply vmO|apply vmT|apply vmC);case a=>simp [t0, t1, t5, t6, t7, t8, t9, s1, c1, d1];with_reducible first|exact .v|exact .c|exact .t|exact .f))
    with_reducible apply WO_app_i; (case hw => (simp [t0, t1, t5, t6, t7, t8, t9, s1, c1, d1]; done)); (case ho => rfl); (case hb => rfl); (case ha => (simp [t0, t1, t5, t6, t7, t8, t9, s1, c1, d1]; first | done | exact ⟨rfl, rfl⟩ | rfl)); (case h1 => (simp; first | done | rfl)); (case h2 => (simp; first | done | rfl))
    refine app_then (AC.appN (h0 := h0) etv (.inl ⟨rfl, rfl⟩) he.drew hp0 (SV.newEls v1) (by rw [List.length_map, List.length_take]; simp; omega)) ?_
    rintro w2 h2 ⟨ac2, he2, _, _, _⟩
    have e2 := ac2.sv.cells
    have f2 := ac2.sv.isCell
    have p2 : h2.pol 39 = false := by rw [he2.pol]; exact hp0
    refine ⟨_, by simp; first | done | rfl, ?_⟩
    repeat(first|with_reducible first|refine vmR ?_|refine vmV rfl ?_|refine vmW rfl ?_|refine vmL ?_|refine blockW_y (by decide) ?_|((with_reducible first|apply vmO|apply vmT|apply vmC);case a=>simp [t0, t1, t5, t6, t7, t8, t9, i1, e2, f2, newSeq, newSl, p2];with_reducible first|exact .v|exact .c|exact .t|exact .f))
    with_reducible apply WO_app_i; (case hw => (simp [t0, t1, t5, t6, t7, t8, t9, i1, e2, f2, newSeq, newSl, p2]; done)); (case ho => rfl); (case hb => rfl); (case ha => (simp [t0, t1, t5, t6, t7, t8, t9, i1, e2, f2, newSeq, newSl, p2]; first | done | exact ⟨rfl, rfl⟩ | rfl)); (case h1 => (simp; first | done | rfl)); (case h2 => (simp; first | done | rfl))
    refine app_then (AC.app (h0 := h0) etv (ac2.of ((HE.refl _).newSl 1)) (he2.newSl 1) hp0 (by simp; omega)) ?_
    rintro w3 h3 ⟨ac3, he3, _, _, _⟩
    have e3 := ac3.sv.cells
    have f3 := ac3.sv.isCell
    refine ⟨_, by simp; first | done | rfl, ?_⟩
    repeat(first|with_reducible first|refine vmR ?_|refine vmV rfl ?_|refine vmW rfl ?_|refine vmL ?_|refine blockW_y (by decide) ?_|((with_reducible first|apply vmO|apply vmT|apply vmC);case a=>simp [t0, t1, t5, t6, t7, t8, t9, e3, f3, s2, c2, d2];with_reducible first|exact .v|exact .c|exact .t|exact .f))
    with_reducible apply WO_app_i; (case hw => (simp [t0, t1, t5, t6, t7, t8, t9, e3, f3, s2, c2, d2]; done)); (case ho => rfl); (case hb => rfl); (case ha => (simp [t0, t1, t5, t6, t7, t8, t9, e3, f3, s2, c2, d2]; first | done | exact ⟨rfl, rfl⟩ | rfl)); (case h1 => (simp; first | done | rfl)); (case h2 => (simp; first | done | rfl))
    refine app_then (AC.appN (h0 := h0) etv ac3 he3 hp0 (SV.newEls v2) (by simp; omega)) ?_
    rintro w4 h4 ⟨ac4, he4, _, _, _⟩
    have e4 := ac4.sv.cells
    have f4 := ac4.sv.isCell
    refine ⟨_, by simp; first | done | rfl, ?_⟩
    repeat(first|with_reducible first|refine vmR ?_|refine vmV rfl ?_|refine vmW rfl ?_|refine vmL ?_|refine blockW_y (by decide) ?_|((with_reducible first|apply vmO|apply vmT|apply vmC);case a=>simp [t0, t1, t5, t6, t7, t8, t9, e4, f4, w1];with_reducible first|exact .v|exact .c|exact .t|exact .f))
    refine ⟨xs.length - (i + 1), by omega, _, _, i + 1, _, w4, rfl, rfl, by omega, by simp [t0], by simp [t1], by simp, by simp [t6], ⟨f, by simp [t7], by simp, ?_, k1, k2, k4, k5, k6, k7⟩, he4⟩
    have := ac4.sv
    simpa using this
  have hop : p - 1 < out.length := by omega
  have qp2 : (f : Int) < (p : Int) := by omega
  have i2 := ho.idx Try.underlying22 z39 (k := .i64) (i := (p - 1 : Nat)) (by omega) (by rw [List.length_map]; omega)
  simp only [List.getElem_map, Int.toNat_natCast] at i2
  have w2 : IntKind.i64.wrap ((p : Int) - 1) = ((p - 1 : Nat) : Int) := by rw [wrap64 (by omega) (by omega)]; omega
  have hlg : legV path xs[i] = legV path out[p - 1] := by
    rw [ql, hfd out[p - 1]]
    rw [List.mem_drop_iff_getElem]
    exact ⟨p - 1 - f, by omega, by congr 1; omega⟩
  have hah := ahP_cmp hlg
  repeat(first|with_reducible first|refine vmR ?_|refine vmV rfl ?_|refine vmW rfl ?_|refine vmL ?_|refine blockW_y (by decide) ?_|((with_reducible first|apply vmO|apply vmT|apply vmC);case a=>simp;with_reducible first|exact .v|exact .c|exact .t|exact .f))
  (with_reducible refine W_draw_id (pln := true) [0, 1, 2, 3, 4, 5, 6, 7, 8, 9, 10, 11, 12, 13, 14] [(7, (7, [])), (12, (12, []))] (by kernel_rfl) rfl ?_)
  repeat(first|with_reducible first|refine vmR ?_|refine vmV rfl ?_|refine vmW rfl ?_|refine vmL ?_|refine blockW_y (by decide) ?_|((with_reducible first|apply vmO|apply vmT|apply vmC);case a=>simp [t0, t1, t5, t6, t7, t8, t9, qp, qp2, i1, i2, w2, vc, vd, oc, od];with_reducible first|exact .v|exact .c|exact .t|exact .f))
  refine A.mono (ahead14_ans xs[i] out[p - 1] _) ?_
  rintro _ hh ⟨rfl, heh⟩
  refine ⟨_, by simp; first | done | rfl, ?_⟩
  cases qh : ahP xs[i] out[p - 1]
  · obtain ⟨k1, k2, k4, k5, k6, k7⟩ := tail (fun hn => by rw [hlast hop hn, ← hah, qh]; simp)
    repeat(first|with_reducible first|refine vmR ?_|refine vmV rfl ?_|refine vmW rfl ?_|refine vmL ?_|refine blockW_y (by decide) ?_|((with_reducible first|apply vmO|apply vmT|apply vmC);case a=>simp [t0, t1, t5, t6, t7, t8, t9];with_reducible first|exact .v|exact .c|exact .t|exact .f))
    refine ⟨by simp [readSame, beqAV_self, t0]; done, _, by simp; first | done | rfl, ?_⟩
    repeat(first|with_reducible first|refine vmR ?_|refine vmV rfl ?_|refine vmW rfl ?_|refine vmL ?_|refine blockW_y (by decide) ?_|((with_reducible first|apply vmO|apply vmT|apply vmC);case a=>simp [t0, t1, t5, t6, t7, t8, t9, s1, c1, d1];with_reducible first|exact .v|exact .c|exact .t|exact .f))
    with_reducible apply WO_app_i; (case hw => (simp [t0, t1, t5, t6, t7, t8, t9, s1, c1, d1]; done)); (case ho => rfl); (case hb => rfl); (case ha => (simp [t0, t1, t5, t6, t7, t8, t9, s1, c1, d1]; first | done | exact ⟨rfl, rfl⟩ | rfl)); (case h1 => (simp; first | done | rfl)); (case h2 => (simp; first | done | rfl))
    refine app_then (AC.appN (h0 := h0) etv (.inl ⟨rfl, rfl⟩) (he.drew.trans heh) hp0 (SV.newEls v1) (by rw [List.length_map, List.length_take]; simp; omega)) ?_
    rintro w2 h2 ⟨ac2, he2, _, _, _⟩
    have e2 := ac2.sv.cells
    have f2 := ac2.sv.isCell
    have p2 : h2.pol 39 = false := by rw [he2.pol]; exact hp0
    refine ⟨_, by simp; first | done | rfl, ?_⟩
    repeat(first|with_reducible first|refine vmR ?_|refine vmV rfl ?_|refine vmW rfl ?_|refine vmL ?_|refine blockW_y (by decide) ?_|((with_reducible first|apply vmO|apply vmT|apply vmC);case a=>simp [t0, t1, t5, t6, t7, t8, t9, i1, e2, f2, newSeq, newSl, p2];with_reducible first|exact .v|exact .c|exact .t|exact .f))
    with_reducible apply WO_app_i; (case hw => (simp [t0, t1, t5, t6, t7, t8, t9, i1, e2, f2, newSeq, newSl, p2]; done)); (case ho => rfl); (case hb => rfl); (case ha => (simp [t0, t1, t5, t6, t7, t8, t9, i1, e2, f2, newSeq, newSl, p2]; first | done | exact ⟨rfl, rfl⟩ | rfl)); (case h1 => (simp; first | done | rfl)); (case h2 => (simp; first | done | rfl))
    refine app_then (AC.app (h0 := h0) etv (ac2.of ((HE.refl _).newSl 1)) (he2.newSl 1) hp0 (by simp; omega)) ?_
    rintro w3 h3 ⟨ac3, he3, _, _, _⟩
    have e3 := ac3.sv.cells
    have f3 := ac3.sv.isCell
    refine ⟨_, by simp; first | done | rfl, ?_⟩
    repeat(first|with_reducible first|refine vmR ?_|refine vmV rfl ?_|refine vmW rfl ?_|refine vmL ?_|refine blockW_y (by decide) ?_|((with_reducible first|apply vmO|apply vmT|apply vmC);case a=>simp [t0, t1, t5, t6, t7, t8, t9, e3, f3, s2, c2, d2];with_reducible first|exact .v|exact .c|exact .t|exact .f))
    with_reducible apply WO_app_i; (case hw => (simp [t0, t1, t5, t6, t7, t8, t9, e3, f3, s2, c2, d2]; done)); (case ho => rfl); (case hb => rfl); (case ha => (simp [t0, t1, t5, t6, t7, t8, t9, e3, f3, s2, c2, d2]; first | done | exact ⟨rfl, rfl⟩ | rfl)); (case h1 => (simp; first | done | rfl)); (case h2 => (simp; first | done | rfl))
    refine app_then (AC.appN (h0 := h0) etv ac3 he3 hp0 (SV.newEls v2) (by simp; omega)) ?_
    rintro w4 h4 ⟨ac4, he4, _, _, _⟩
    have e4 := ac4.sv.cells
    have f4 := ac4.sv.isCell
    refine ⟨_, by simp; first | done | rfl, ?_⟩
    repeat(first|with_reducible first|refine vmR ?_|refine vmV rfl ?_|refine vmW rfl ?_|refine vmL ?_|refine blockW_y (by decide) ?_|((with_reducible first|apply vmO|apply vmT|apply vmC);case a=>simp [t0, t1, t5, t6, t7, t8, t9, e4, f4, w1];with_reducible first|exact .v|exact .c|exact .t|exact .f))
    refine ⟨xs.length - (i + 1), by omega, _, _, i + 1, _, w4, rfl, rfl, by omega, by simp [t0], by simp [t1], by simp, by simp [t6], ⟨f, by simp [t7], by simp, ?_, k1, k2, k4, k5, k6, k7⟩, he4⟩
    have := ac4.sv
    simpa using this
  · have hlt0 := hah.mp qh
    repeat(first|with_reducible first|refine vmR ?_|refine vmV rfl ?_|refine vmW rfl ?_|refine vmL ?_|refine blockW_y (by decide) ?_|((with_reducible first|apply vmO|apply vmT|apply vmC);case a=>simp [t0, t1, t5, t6, t7, t8, t9];with_reducible first|exact .v|exact .c|exact .t|exact .f))
    refine ⟨by simp [readSame, beqAV_self, t0]; done, _, by simp; first | done | rfl, ?_⟩
    repeat(first|with_reducible first|refine vmR ?_|refine vmV rfl ?_|refine vmW rfl ?_|refine vmL ?_|refine blockW_y (by decide) ?_|((with_reducible first|apply vmO|apply vmT|apply vmC);case a=>simp [t0, t1, t5, t6, t7, t8, t9, w2];with_reducible first|exact .v|exact .c|exact .t|exact .f))
    refine ⟨p - 1, by omega, _, _, rfl, by omega, by omega, by simp [t0], by simp [t1], by simp [t5], by simp [t6], by simp [t7], by simp [t8], by simp, ?_, he.drew.trans heh⟩
    rw [List.drop_eq_getElem_cons hop, show p - 1 + 1 = p by omega]
    intro b hb
    rcases List.mem_cons.mp hb with q | q
    · rw [q]; exact hlt0
    · exact hlt b q
end Go.Vn
