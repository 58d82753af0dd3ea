/- What functions of the program come to, in the value machine (a part of the proof of the claim's statement). No condition. -/
import Derived.Test.YtpodlpemlkkojaaVnI1
import Derived.Test.YtpodlpemlkkojaaVnH4
set_option linter.unusedSimpArgs false
set_option linter.unusedVariables false
set_option maxRecDepth 20000
namespace Go.Vn
open Go.Proofs

theorem has4_ans (a b t : Int) (h0 : Hp Fm) : A Try.prog TT (.func 71) [encS2 a b, .int .i64 t] h0 (fun r h' => r = .bool (decide (Has a b t)) ∧ HE h0 h') := by
  apply A_go Try.func71 rfl (by rfl); (case hn => (simp [Try.ntmps71]; rfl))
  repeat(first|with_reducible first|refine vmR ?_|refine vmV rfl ?_|refine vmW rfl ?_|refine vmL ?_|refine blockW_y (by decide) ?_|((with_reducible first|apply vmO|apply vmT|apply vmC);case a=>simp;with_reducible first|exact .v|exact .c|exact .t|exact .f))
  refine A.mono (may4_ans a b _) ?_
  rintro _ hh ⟨rfl, heh⟩
  have g1 : Mp.get hh.obj h0.no = some (.row [.int .i64 a, .int .i64 b]) := by rw [heh.obj _ (by simp)]; simp
  refine ⟨_, by simp; first | done | rfl, ?_⟩
  by_cases q1 : May a b
  · by_cases q2 : a ≤ t
    · by_cases q3 : t < b
      · repeat(first|with_reducible first|refine vmR ?_|refine vmV rfl ?_|refine vmW rfl ?_|refine vmL ?_|refine blockW_y (by decide) ?_|((with_reducible first|apply vmO|apply vmT|apply vmC);case a=>simp [q1, q2, q3, g1];with_reducible first|exact .v|exact .c|exact .t|exact .f))
        (first | apply endW_r | apply endW_n); (case h1 => (simp [Try.results71]; first | done | rfl))
        exact ⟨by simp [Has, q1, q2, q3], ((HE.refl h0).new _).trans heh⟩
      · repeat(first|with_reducible first|refine vmR ?_|refine vmV rfl ?_|refine vmW rfl ?_|refine vmL ?_|refine blockW_y (by decide) ?_|((with_reducible first|apply vmO|apply vmT|apply vmC);case a=>simp [q1, q2, q3, g1];with_reducible first|exact .v|exact .c|exact .t|exact .f))
        (first | apply endW_r | apply endW_n); (case h1 => (simp [Try.results71]; first | done | rfl))
        exact ⟨by simp [Has, q1, q2, q3], ((HE.refl h0).new _).trans heh⟩
    · repeat(first|with_reducible first|refine vmR ?_|refine vmV rfl ?_|refine vmW rfl ?_|refine vmL ?_|refine blockW_y (by decide) ?_|((with_reducible first|apply vmO|apply vmT|apply vmC);case a=>simp [q1, q2, g1];with_reducible first|exact .v|exact .c|exact .t|exact .f))
      (first | apply endW_r | apply endW_n); (case h1 => (simp [Try.results71]; first | done | rfl))
      exact ⟨by simp [Has, q1, q2], ((HE.refl h0).new _).trans heh⟩
  · repeat(first|with_reducible first|refine vmR ?_|refine vmV rfl ?_|refine vmW rfl ?_|refine vmL ?_|refine blockW_y (by decide) ?_|((with_reducible first|apply vmO|apply vmT|apply vmC);case a=>simp [q1, g1];with_reducible first|exact .v|exact .c|exact .t|exact .f))
    (first | apply endW_r | apply endW_n); (case h1 => (simp [Try.results71]; first | done | rfl))
    exact ⟨by simp [Has, q1], ((HE.refl h0).new _).trans heh⟩

def zV : Ver := ⟨[], 0, 0, 0, 0, 0, [], false⟩
def FindR (os : List Ver) (tm : Int) (x : Ver) (b : Bool) : Prop :=
  (b = true ∧ ∃ i, ∃ hi : i < os.length, Has os[i].fr os[i].to tm ∧ (∀ j (hj : j < os.length), i < j → ¬ Has os[j].fr os[j].to tm) ∧ x = os[i]) ∨ (b = false ∧ ∀ v ∈ os, ¬ Has v.fr v.to tm)

set_option maxHeartbeats 2000000 in
theorem find14_ans (path : List Lg) (vp : AV) (hvp : SV 2 (path.map encL) vp) (hl : path.length ≤ 1000) (xs : List Ver) (v : AV) (hv : SV 8 (xs.map encV) v) (hxl : xs.length ≤ 1000) (tm : Int) (h0 : Hp Fm) (hp0 : h0.pol 39 = false) :
    A Try.prog TT (.func 60) [v, vp, .int .i64 tm] h0 (fun r h' => ∃ x b, r = .tup [encV x, .bool b] ∧ FindR (orderP path xs) tm x b ∧ HE h0 h') := by
  have vc := hv.cells
  have vd := hv.isCell
  have pc := hvp.cells
  have pd := hvp.isCell
  apply A_go Try.func60 rfl (by rfl); (case hn => (simp [Try.ntmps60]; rfl))
  repeat(first|with_reducible first|refine vmR ?_|refine vmV rfl ?_|refine vmW rfl ?_|refine vmL ?_|refine blockW_y (by decide) ?_|((with_reducible first|apply vmO|apply vmT|apply vmC);case a=>simp [vc, vd, pc, pd];with_reducible first|exact .v|exact .c|exact .t|exact .f))
  refine A.mono (order14_ans path vp hvp hl xs v hv hxl _ hp0) ?_
  rintro w h1 ⟨hw, hol, he1⟩
  obtain ⟨os, hos⟩ : ∃ os, os = orderP path xs := ⟨_, rfl⟩
  rw [← hos] at hw hol ⊢
  have g6 : Mp.get h1.obj h0.no = some (.row [.str [], .int .i64 0, .int .i64 0, .int .i64 0, .int .i64 0, .int .i64 0, .str [], .bool false]) := by rw [he1.obj _ (by show h0.no < h0.no + 1; omega)]; simp
  have no1 : h0.no < h1.no := Nat.lt_of_lt_of_le (by show h0.no < h0.no + 1; omega) he1.no
  have hx1 : HE h0 h1 := ((HE.refl h0).new _).trans he1
  have l1 := hw.len Try.underlying22
  rw [List.length_map] at l1
  have n1 := hw.nm
  have wc := hw.cells
  have wd := hw.isCell
  obtain ⟨z, hz⟩ : ∃ z : Int, z = (os.length : Int) - 1 := ⟨_, rfl⟩
  have w0 : IntKind.i64.wrap ((os.length : Int) - 1) = z := by rw [wrap64 (by omega) (by omega)]; omega
  refine ⟨_, by simp; first | done | rfl, ?_⟩
  repeat(first|with_reducible first|refine vmR ?_|refine vmV rfl ?_|refine vmW rfl ?_|refine vmL ?_|refine blockW_y (by decide) ?_|((with_reducible first|apply vmO|apply vmT|apply vmC);case a=>simp [wc, wd, l1, n1, w0];with_reducible first|exact .v|exact .c|exact .t|exact .f))
  refine W_loop (fun m s => ∃ (t : Fm AV) (h : Hp Fm) (z : Int), s = ⟨t, 34, h, none⟩ ∧ z = (m : Int) - 1 ∧ m ≤ os.length ∧ tget t 2 = .int .i64 tm ∧ tget t 6 = .ptr h0.no 0 ∧ tget t 8 = w ∧ tget t 9 = .int .i64 z ∧ (∀ j (hj : j < os.length), m ≤ j → ¬ Has os[j].fr os[j].to tm) ∧ Mp.get h.obj h0.no = some (.row [.str [], .int .i64 0, .int .i64 0, .int .i64 0, .int .i64 0, .int .i64 0, .str [], .bool false]) ∧ HE h0 h ∧ h0.no < h.no) os.length
    ⟨_, _, z, rfl, hz, Nat.le_refl _, by simp, by simp, by simp, by simp, fun j hj hm => by omega, g6, hx1, no1⟩ ?_
  clear w0 hz z g6 no1 hx1 he1
  rintro m s ⟨t, h, z, rfl, hz, hm, t2, t6, t8, t9, hn, g6, he, hno⟩
  by_cases q0 : 0 < m
  case neg =>
    have qz : ¬ (0 ≤ z) := by omega
    repeat(first|with_reducible first|refine vmR ?_|refine vmV rfl ?_|refine vmW rfl ?_|refine vmL ?_|refine blockW_y (by decide) ?_|((with_reducible first|apply vmO|apply vmT|apply vmC);case a=>simp [t2, t6, t8, t9, qz, g6];with_reducible first|exact .v|exact .c|exact .t|exact .f))
    (first | apply endW_r | apply endW_n); (case h1 => (simp [Try.results60, t6, g6]; first | done | rfl))
    refine ⟨zV, false, by simp [zV], .inr ⟨rfl, fun v hv => ?_⟩, he.set (Nat.le_refl _) _⟩
    obtain ⟨j, hj, rfl⟩ := List.getElem_of_mem hv
    exact hn j hj (by omega)
  have qz : 0 ≤ z := by omega
  obtain ⟨i, hi⟩ : ∃ i, i = m - 1 := ⟨_, rfl⟩
  have hzi : z = (i : Int) := by omega
  have hmi : m = i + 1 := by omega
  subst hzi
  have hil : i < os.length := by omega
  have i1 := hw.idx Try.underlying22 z39 (k := .i64) (i := i) (by simp) (by simpa using hil)
  simp only [List.getElem_map, Int.toNat_natCast] at i1
  obtain ⟨x, hx⟩ : ∃ x, x = os[i] := ⟨_, rfl⟩
  rw [← hx] at i1
  obtain ⟨y, hy⟩ : ∃ y : Int, y = (i : Int) - 1 := ⟨_, rfl⟩
  have w1 : IntKind.i64.wrap ((i : Int) - 1) = y := by rw [wrap64 (by omega) (by omega)]; omega
  repeat(first|with_reducible first|refine vmR ?_|refine vmV rfl ?_|refine vmW rfl ?_|refine vmL ?_|refine blockW_y (by decide) ?_|((with_reducible first|apply vmO|apply vmT|apply vmC);case a=>simp [t2, t6, t8, t9, qz, i1, wc, wd];with_reducible first|exact .v|exact .c|exact .t|exact .f))
  refine A.mono (has4_ans x.fr x.to tm _) ?_
  rintro _ hh ⟨rfl, heh⟩
  have g7 := (heh.obj _ hno).trans g6
  refine ⟨_, by simp; first | done | rfl, ?_⟩
  by_cases qh : Has x.fr x.to tm
  · repeat(first|with_reducible first|refine vmR ?_|refine vmV rfl ?_|refine vmW rfl ?_|refine vmL ?_|refine blockW_y (by decide) ?_|((with_reducible first|apply vmO|apply vmT|apply vmC);case a=>simp [t2, t6, t8, t9, qh, i1, wc, wd, g7];with_reducible first|exact .v|exact .c|exact .t|exact .f))
    (first | apply endW_r | apply endW_n); (case h1 => (simp [Try.results60, t6, g7]; first | done | rfl))
    refine ⟨x, true, by simp, .inl ⟨rfl, i, hil, by rw [← hx]; exact qh, fun j hj hij => hn j hj (by omega), hx⟩, (he.trans heh).set (Nat.le_refl _) _⟩
  · repeat(first|with_reducible first|refine vmR ?_|refine vmV rfl ?_|refine vmW rfl ?_|refine vmL ?_|refine blockW_y (by decide) ?_|((with_reducible first|apply vmO|apply vmT|apply vmC);case a=>simp [t2, t6, t8, t9, qh, w1];with_reducible first|exact .v|exact .c|exact .t|exact .f))
    refine ⟨i, by omega, _, _, y, rfl, hy, by omega, by simp [t2], by simp [t6], by simp [t8], by simp, fun j hj hij => ?_, g7, he.trans heh, Nat.lt_of_lt_of_le hno heh.no⟩
    by_cases e : j = i
    · subst e; rw [← hx]; exact qh
    · exact hn j hj (by omega)

set_option maxHeartbeats 1000000 in
theorem get14_ans (path : List Lg) (vp : AV) (hvp : SV 2 (path.map encL) vp) (hl : path.length ≤ 1000) (xs : List Ver) (v : AV) (hv : SV 8 (xs.map encV) v) (hxl : xs.length ≤ 1000) (tm : Int) (h0 : Hp Fm) (hp0 : h0.pol 39 = false) :
    A Try.prog TT (.func 42) [v, vp, .int .i64 tm] h0 (fun r h' => r = outG (getF (orderP path xs) tm) ∧ HE h0 h') := by
  have vc := hv.cells
  have vd := hv.isCell
  have pc := hvp.cells
  have pd := hvp.isCell
  apply A_go Try.func42 rfl (by rfl); (case hn => (simp [Try.ntmps42]; rfl))
  repeat(first|with_reducible first|refine vmR ?_|refine vmV rfl ?_|refine vmW rfl ?_|refine vmL ?_|refine blockW_y (by decide) ?_|((with_reducible first|apply vmO|apply vmT|apply vmC);case a=>simp [vc, vd, pc, pd];with_reducible first|exact .v|exact .c|exact .t|exact .f))
  refine A.mono (find14_ans path vp hvp hl xs v hv hxl tm _ hp0) ?_
  rintro _ h1 ⟨x, b, rfl, hr, he1⟩
  refine ⟨_, by simp; first | done | rfl, ?_⟩
  obtain ⟨os, hos⟩ : ∃ os, os = orderP path xs := ⟨_, rfl⟩
  rw [← hos] at hr ⊢
  rcases hr with ⟨rfl, i, hi, k1, k2, rfl⟩ | ⟨rfl, k⟩
  · have hg := getF_at hi k1 k2
    obtain ⟨x, hx⟩ : ∃ x, x = os[i] := ⟨_, rfl⟩
    rw [← hx] at hg ⊢
    cases qg : x.gone
    · repeat(first|with_reducible first|refine vmR ?_|refine vmV rfl ?_|refine vmW rfl ?_|refine vmL ?_|refine blockW_y (by decide) ?_|((with_reducible first|apply vmO|apply vmT|apply vmC);case a=>simp [qg];with_reducible first|exact .v|exact .c|exact .t|exact .f))
      (first | apply endW_r | apply endW_n); (case h1 => (simp [Try.results42]; first | done | rfl))
      exact ⟨by rw [hg, qg]; simp [outG], (he1.new _).set he1.no _⟩
    · repeat(first|with_reducible first|refine vmR ?_|refine vmV rfl ?_|refine vmW rfl ?_|refine vmL ?_|refine blockW_y (by decide) ?_|((with_reducible first|apply vmO|apply vmT|apply vmC);case a=>simp [qg];with_reducible first|exact .v|exact .c|exact .t|exact .f))
      (first | apply endW_r | apply endW_n); (case h1 => (simp [Try.results42]; first | done | rfl))
      exact ⟨by rw [hg, qg]; simp [outG], (he1.new _).set he1.no _⟩
  · have hg := getF_none k
    repeat(first|with_reducible first|refine vmR ?_|refine vmV rfl ?_|refine vmW rfl ?_|refine vmL ?_|refine blockW_y (by decide) ?_|((with_reducible first|apply vmO|apply vmT|apply vmC);case a=>simp;with_reducible first|exact .v|exact .c|exact .t|exact .f))
    (first | apply endW_r | apply endW_n); (case h1 => (simp [Try.results42]; first | done | rfl))
    exact ⟨by rw [hg]; simp [outG], (he1.new _).set he1.no _⟩
end Go.Vn

set_option maxRecDepth 20000
namespace Go.Vn
open Go.Proofs

def Str (l : List (List UInt8)) : Prop := l.Pairwise fun a b => cmpS a b < 0
theorem cmpS_irr (a : List UInt8) : ¬ cmpS a a < 0 := by have := cmpS_anti a a; omega
theorem cmpS_trans {a b d : List UInt8} (h : cmpS a b < 0) (k : cmpS b d < 0) : cmpS a d < 0 := (cmpS_tr a b d).2.2.1 h (by omega)
theorem cmpS_eq {a b : List UInt8} (h : cmpS a b = 0) : a = b := by
  cases q : eqB a b
  · exact (cmpS_nz q h).elim
  · rw [eqB_eq] at q; exact beq_iff_eq.mp q
theorem str_ext : ∀ {l m : List (List UInt8)}, Str l → Str m → (∀ x, x ∈ l ↔ x ∈ m) → l = m
  | [], [], _, _, _ => rfl
  | [], b :: m, _, _, h => absurd ((h b).mpr List.mem_cons_self) List.not_mem_nil
  | a :: l, [], _, _, h => absurd ((h a).mp List.mem_cons_self) List.not_mem_nil
  | a :: l, b :: m, h1, h2, h => by
    obtain ⟨p1, p2⟩ := List.pairwise_cons.mp h1
    obtain ⟨q1, q2⟩ := List.pairwise_cons.mp h2
    have e : a = b := by
      rcases List.mem_cons.mp ((h a).mp List.mem_cons_self) with e | e
      · exact e
      · rcases List.mem_cons.mp ((h b).mpr List.mem_cons_self) with e' | e'
        · exact e'.symm
        · exact (cmpS_irr a (cmpS_trans (p1 b e') (q1 a e))).elim
    subst e
    congr 1
    refine str_ext p2 q2 fun x => ⟨fun hx => ?_, fun hx => ?_⟩
    · rcases List.mem_cons.mp ((h x).mp (List.mem_cons_of_mem _ hx)) with e | e
      · exact (cmpS_irr a (by have := p1 x hx; rw [e] at this; exact this)).elim
      · exact e
    · rcases List.mem_cons.mp ((h x).mpr (List.mem_cons_of_mem _ hx)) with e | e
      · exact (cmpS_irr a (by have := q1 x hx; rw [e] at this; exact this)).elim
      · exact e
theorem rising_str {l : List (List UInt8)} (h : Rising l) (hn : l.Nodup) : Str l := by
  unfold Str
  rw [List.pairwise_iff_getElem]
  intro i j hi hj hij
  have h1 := h i j (Nat.zero_le _) hij hj
  have h2 : l[i] ≠ l[j] := fun e => by
    have := (List.nodup_iff_pairwise_ne.mp hn)
    rw [List.pairwise_iff_getElem] at this
    exact this i j hi hj hij e
  have h3 : ¬ cmpS l[j] l[i] < 0 := fun k => by
    rw [cmpS_lt] at k
    unfold Le at h1
    simp only [gt, List.getD_eq_getElem?_getD, List.getElem?_eq_getElem hi, List.getElem?_eq_getElem hj, Option.getD_some] at h1
    simp [k] at h1
  have h4 := cmpS_anti l[i] l[j]
  have h5 : cmpS l[i] l[j] ≠ 0 := fun k => h2 (cmpS_eq k)
  omega
theorem str_put {l m : List (List UInt8)} {x : List UInt8} (h : Str (l ++ m)) (hl : ∀ hn : l ≠ [], cmpS (l.getLast hn) x < 0) (hm : ∀ b ∈ m, cmpS x b < 0) : Str (l ++ [x] ++ m) := by
  unfold Str at h ⊢
  rw [List.pairwise_append] at h
  obtain ⟨h1, h2, h3⟩ := h
  have hlx : ∀ a ∈ l, cmpS a x < 0 := fun a ha => by
    have hn : l ≠ [] := fun e => by rw [e] at ha; cases ha
    have e : l = l.dropLast ++ [l.getLast hn] := (List.dropLast_concat_getLast hn).symm
    rw [e] at ha h1
    rcases List.mem_append.mp ha with q | q
    · exact cmpS_trans ((List.pairwise_append.mp h1).2.2 a q _ (by simp)) (hl hn)
    · rw [List.mem_singleton.mp q]; exact hl hn
  rw [List.append_assoc, List.pairwise_append]
  refine ⟨h1, ?_, fun a ha b hb => ?_⟩
  · rw [List.singleton_append, List.pairwise_cons]; exact ⟨hm, h2⟩
  · rcases List.mem_append.mp hb with q | q
    · rw [List.mem_singleton.mp q]; exact hlx a ha
    · exact h3 a ha b q

set_option maxHeartbeats 4000000 in
theorem keys14_ans (xs : List Ver) (v : AV) (hv : SV 8 (xs.map encV) v) (hxl : xs.length ≤ 1000) (h0 : Hp Fm) (hps : h0.pol 9 = false) :
    A Try.prog TT (.func 41) [v] h0 (fun r h' => ∃ ks : List (List UInt8), SV 1 (ks.map AV.str) r ∧ Str ks ∧ (∀ k, k ∈ ks ↔ ∃ a ∈ xs, a.key = k) ∧ ks.length ≤ xs.length ∧ HE h0 h') := by
  have l1 := hv.len Try.underlying22
  rw [List.length_map] at l1
  have n1 := hv.nm
  have vc := hv.cells
  have vd := hv.isCell
  apply A_go Try.func41 rfl (by rfl); (case hn => (simp [Try.ntmps41]; rfl))
  repeat(first|with_reducible first|refine vmR ?_|refine vmV rfl ?_|refine vmW rfl ?_|refine vmL ?_|refine blockW_y (by decide) ?_|((with_reducible first|apply vmO|apply vmT|apply vmC);case a=>simp;with_reducible first|exact .v|exact .c|exact .t|exact .f))
  refine W_loop (fun m s => ∃ (t : Fm AV) (h : Hp Fm) (i : Nat) (ks : List (List UInt8)) (o : AV), s = ⟨t, 66, h, none⟩ ∧ m = xs.length - i ∧ i ≤ xs.length ∧ tget t 0 = v ∧ tget t 3 = o ∧ tget t 4 = .int .i64 i ∧ SV 1 (ks.map AV.str) o ∧ Str ks ∧ (∀ k, k ∈ ks ↔ ∃ a ∈ xs.take i, a.key = k) ∧ ks.length ≤ i ∧ HE h0 h) xs.length
    ⟨_, _, 0, [], .nils, rfl, rfl, Nat.zero_le _, by simp, by simp, by simp, .inl ⟨rfl, rfl⟩, List.Pairwise.nil, by simp, by simp, HE.refl _⟩ ?_
  rintro m s ⟨t, h, i, ks, o, rfl, rfl, hi, t0, t3, t4, ho, hst, hmem, hkl, he⟩
  have l2 := ho.len Try.underlying74
  rw [List.length_map] at l2
  have n2 := ho.nm
  have oc := ho.cells
  have od := ho.isCell
  by_cases qi : i < xs.length
  case neg =>
    have hie : i = xs.length := by omega
    have qn : ¬ (i < xs.length) := qi
    repeat(first|with_reducible first|refine vmR ?_|refine vmV rfl ?_|refine vmW rfl ?_|refine vmL ?_|refine blockW_y (by decide) ?_|((with_reducible first|apply vmO|apply vmT|apply vmC);case a=>simp [t0, t3, t4, qi, qn, l1, n1, vc, vd, oc, od];with_reducible first|exact .v|exact .c|exact .t|exact .f))
    (first | apply endW_r | apply endW_n); (case h1 => (simp [Try.results41]; first | done | rfl))
    rw [hie, List.take_length] at hmem
    exact ⟨ks, by simpa using ho, hst, hmem, by omega, he⟩
  have i1 := hv.idx Try.underlying22 z39 (k := .i64) (i := i) (by simp) (by simpa using qi)
  simp only [List.getElem_map, Int.toNat_natCast] at i1
  have w1 : IntKind.i64.wrap ((i : Int) + 1) = ((i + 1 : Nat) : Int) := by rw [wrap64 (by omega) (by omega)]; simp
  have htk : xs.take (i + 1) = xs.take i ++ [xs[i]] := List.take_succ_eq_append_getElem qi
  obtain ⟨x, hx⟩ : ∃ x, x = xs[i] := ⟨_, rfl⟩
  rw [← hx] at i1 htk
  repeat(first|with_reducible first|refine vmR ?_|refine vmV rfl ?_|refine vmW rfl ?_|refine vmL ?_|refine blockW_y (by decide) ?_|((with_reducible first|apply vmO|apply vmT|apply vmC);case a=>simp [t0, t3, t4, qi, l1, n1, vc, vd, l2, n2, oc, od];with_reducible first|exact .v|exact .c|exact .t|exact .f))
  refine W_loop (fun p s => ∃ (t : Fm AV) (h : Hp Fm), s = ⟨t, 66, h, none⟩ ∧ p ≤ ks.length ∧ tget t 0 = v ∧ tget t 3 = o ∧ tget t 4 = .int .i64 i ∧ tget t 5 = .int .i64 p ∧ (∀ b ∈ ks.drop p, cmpS x.key b < 0) ∧ HE h0 h) ks.length
    ⟨_, _, rfl, Nat.le_refl _, by simp [t0], by simp [t3], by simp [t4], by simp, by rw [List.drop_length]; simp, he⟩ ?_
  clear t0 t3 t4 he t h
  rintro p s ⟨t, h, rfl, hp, t0, t3, t4, t5, hlt, he⟩
  obtain ⟨r1, s1, v1⟩ := ho.take Try.underlying74 z9 (k := .i64) (i := p) (by omega) (by rw [List.length_map]; omega)
  obtain ⟨r2, s2, v2⟩ := ho.drop Try.underlying74 z9 (k := .i64) (i := p) (by omega) (by rw [List.length_map]; omega)
  rw [Int.toNat_natCast, ← List.map_take] at v1
  rw [Int.toNat_natCast, ← List.map_drop] at v2
  have c1 := v1.cells
  have d1 := v1.isCell
  have c2 := v2.cells
  have d2 := v2.isCell
  have tail (hz : ∀ hn : ks.take p ≠ [], cmpS ((ks.take p).getLast hn) x.key < 0) :
      Str (ks.take p ++ [x.key] ++ ks.drop p) ∧ (∀ k, k ∈ ks.take p ++ [x.key] ++ ks.drop p ↔ ∃ a ∈ xs.take (i + 1), a.key = k) ∧ (ks.take p ++ [x.key] ++ ks.drop p).length ≤ i + 1 := by
    refine ⟨str_put (by rw [List.take_append_drop]; exact hst) hz hlt, fun k => ?_, by simp; omega⟩
    have e1 : k ∈ ks.take p ++ [x.key] ++ ks.drop p ↔ k ∈ ks ∨ k = x.key := by
      conv => rhs; rw [← List.take_append_drop p ks]
      simp only [List.mem_append, List.mem_singleton]
      constructor
      · rintro ((a | a) | a)
        · exact .inl (.inl a)
        · exact .inr a
        · exact .inl (.inr a)
      · rintro ((a | a) | a)
        · exact .inl (.inl a)
        · exact .inr a
        · exact .inl (.inr a)
    rw [e1, hmem k, htk]
    constructor
    · rintro (⟨a, ha, hk⟩ | rfl)
      · exact ⟨a, List.mem_append_left _ ha, hk⟩
      · exact ⟨x, by simp, rfl⟩
    · rintro ⟨a, ha, hk⟩
      rcases List.mem_append.mp ha with q | q
      · exact .inl ⟨a, q, hk⟩
      · rw [List.mem_singleton.mp q] at hk; exact .inr hk.symm
  by_cases qp : 0 < p
  case neg =>
    have qz : ¬ (0 < p) := qp
    have hz : ∀ hn : ks.take p ≠ [], cmpS ((ks.take p).getLast hn) x.key < 0 := fun hn => absurd (show ks.take p = [] by rw [show p = 0 by omega]; rfl) hn
    obtain ⟨k1, k2, k3⟩ := tail hz
    repeat(first|with_reducible first|refine vmR ?_|refine vmV rfl ?_|refine vmW rfl ?_|refine vmL ?_|refine blockW_y (by decide) ?_|((with_reducible first|apply vmO|apply vmT|apply vmC);case a=>simp;with_reducible first|exact .v|exact .c|exact .t|exact .f))
    (with_reducible refine W_draw_id (pln := true) [0, 1, 2, 3, 4, 5, 6, 7, 8, 9, 10, 11, 12, 13, 14] [(7, (7, [])), (12, (12, []))] (by kernel_rfl) rfl ?_)
    repeat(first|with_reducible first|refine vmR ?_|refine vmV rfl ?_|refine vmW rfl ?_|refine vmL ?_|refine blockW_y (by decide) ?_|((with_reducible first|apply vmO|apply vmT|apply vmC);case a=>simp [t0, t3, t4, t5, qp, qz];with_reducible first|exact .v|exact .c|exact .t|exact .f))
    refine ⟨by simp [readSame, beqAV_self, t0]; done, _, by simp; first | done | rfl, ?_⟩
    repeat(first|with_reducible first|refine vmR ?_|refine vmV rfl ?_|refine vmW rfl ?_|refine vmL ?_|refine blockW_y (by decide) ?_|((with_reducible first|apply vmO|apply vmT|apply vmC);case a=>simp;with_reducible first|exact .v|exact .c|exact .t|exact .f))
    (with_reducible refine W_draw_id (pln := true) [0, 1, 2, 3, 4, 5, 6, 7, 8, 9, 10, 11, 12, 13, 14] [(7, (7, [])), (12, (12, []))] (by kernel_rfl) rfl ?_)
    repeat(first|with_reducible first|refine vmR ?_|refine vmV rfl ?_|refine vmW rfl ?_|refine vmL ?_|refine blockW_y (by decide) ?_|((with_reducible first|apply vmO|apply vmT|apply vmC);case a=>simp [t0, t3, t4, t5, qp, qz];with_reducible first|exact .v|exact .c|exact .t|exact .f))
    refine ⟨by simp [readSame, beqAV_self, t0]; done, _, by simp; first | done | rfl, ?_⟩
    repeat(first|with_reducible first|refine vmR ?_|refine vmV rfl ?_|refine vmW rfl ?_|refine vmL ?_|refine blockW_y (by decide) ?_|((with_reducible first|apply vmO|apply vmT|apply vmC);case a=>simp [t0, t3, t4, t5, s1, c1, d1];with_reducible first|exact .v|exact .c|exact .t|exact .f))
    with_reducible apply WO_app_i; (case hw => (simp [t0, t3, t4, t5, s1, c1, d1]; done)); (case ho => rfl); (case hb => rfl); (case ha => (simp [t0, t3, t4, t5, s1, c1, d1]; first | done | exact ⟨rfl, rfl⟩ | rfl)); (case h1 => (simp; first | done | rfl)); (case h2 => (simp; first | done | rfl))
    refine app_then (AC.appN (h0 := h0) etS (.inl ⟨rfl, rfl⟩) he.drew.drew hps (SV.newEls v1) (by rw [List.length_map, List.length_take]; simp; omega)) ?_
    rintro w2 h2 ⟨ac2, he2, _, _, _⟩
    have e2 := ac2.sv.cells
    have f2 := ac2.sv.isCell
    have p2 : h2.pol 9 = false := by rw [he2.pol]; exact hps
    refine ⟨_, by simp; first | done | rfl, ?_⟩
    repeat(first|with_reducible first|refine vmR ?_|refine vmV rfl ?_|refine vmW rfl ?_|refine vmL ?_|refine blockW_y (by decide) ?_|((with_reducible first|apply vmO|apply vmT|apply vmC);case a=>simp [t0, t3, t4, t5, i1, e2, f2, newSeq, newSl, p2];with_reducible first|exact .v|exact .c|exact .t|exact .f))
    with_reducible apply WO_app_i; (case hw => (simp [t0, t3, t4, t5, i1, e2, f2, newSeq, newSl, p2]; done)); (case ho => rfl); (case hb => rfl); (case ha => (simp [t0, t3, t4, t5, i1, e2, f2, newSeq, newSl, p2]; first | done | exact ⟨rfl, rfl⟩ | rfl)); (case h1 => (simp; first | done | rfl)); (case h2 => (simp; first | done | rfl))
    refine app_then (AC.app (h0 := h0) etS (ac2.of ((HE.refl _).newSl 1)) (he2.newSl 1) hps (by simp; omega)) ?_
    rintro w3 h3 ⟨ac3, he3, _, _, _⟩
    have e3 := ac3.sv.cells
    have f3 := ac3.sv.isCell
    refine ⟨_, by simp; first | done | rfl, ?_⟩
    repeat(first|with_reducible first|refine vmR ?_|refine vmV rfl ?_|refine vmW rfl ?_|refine vmL ?_|refine blockW_y (by decide) ?_|((with_reducible first|apply vmO|apply vmT|apply vmC);case a=>simp [t0, t3, t4, t5, e3, f3, s2, c2, d2];with_reducible first|exact .v|exact .c|exact .t|exact .f))
    with_reducible apply WO_app_i; (case hw => (simp [t0, t3, t4, t5, e3, f3, s2, c2, d2]; done)); (case ho => rfl); (case hb => rfl); (case ha => (simp [t0, t3, t4, t5, e3, f3, s2, c2, d2]; first | done | exact ⟨rfl, rfl⟩ | rfl)); (case h1 => (simp; first | done | rfl)); (case h2 => (simp; first | done | rfl))
    refine app_then (AC.appN (h0 := h0) etS ac3 he3 hps (SV.newEls v2) (by simp; omega)) ?_
    rintro w4 h4 ⟨ac4, he4, _, _, _⟩
    have e4 := ac4.sv.cells
    have f4 := ac4.sv.isCell
    refine ⟨_, by simp; first | done | rfl, ?_⟩
    repeat(first|with_reducible first|refine vmR ?_|refine vmV rfl ?_|refine vmW rfl ?_|refine vmL ?_|refine blockW_y (by decide) ?_|((with_reducible first|apply vmO|apply vmT|apply vmC);case a=>simp [t0, t3, t4, t5, e4, f4, w1];with_reducible first|exact .v|exact .c|exact .t|exact .f))
    refine ⟨xs.length - (i + 1), by omega, _, _, i + 1, _, w4, rfl, rfl, by omega, by simp [t0], by simp, by simp, ?_, k1, k2, k3, he4⟩
    have := ac4.sv
    simpa using this
  have hop : p - 1 < ks.length := by omega
  have i2 := ho.idx Try.underlying74 z9 (k := .i64) (i := (p - 1 : Nat)) (by omega) (by rw [List.length_map]; omega)
  simp only [List.getElem_map, Int.toNat_natCast] at i2
  have w2 : IntKind.i64.wrap ((p : Int) - 1) = ((p - 1 : Nat) : Int) := by rw [wrap64 (by omega) (by omega)]; omega
  have hlast : ∀ hn : ks.take p ≠ [], (ks.take p).getLast hn = ks[p - 1] := by
    intro hn
    rw [List.getLast_eq_getElem]
    simp only [List.length_take, show min p ks.length = p by omega, List.getElem_take]
  obtain ⟨y, hy⟩ : ∃ y, y = ks[p - 1] := ⟨_, rfl⟩
  have hlt2 := cmpS_lt x.key y
  rw [← hy] at i2 hlast
  cases ql : ltB x.key y
  · cases qe : eqB y x.key
    · obtain ⟨k1, k2, k3⟩ := tail (fun hn => by
        rw [hlast hn]
        have h1 := cmpS_nz qe
        have h2 := cmpS_anti y x.key
        have h3 : ¬ cmpS x.key y < 0 := fun k => by rw [hlt2, ql] at k; cases k
        omega)
      repeat(first|with_reducible first|refine vmR ?_|refine vmV rfl ?_|refine vmW rfl ?_|refine vmL ?_|refine blockW_y (by decide) ?_|((with_reducible first|apply vmO|apply vmT|apply vmC);case a=>simp;with_reducible first|exact .v|exact .c|exact .t|exact .f))
      (with_reducible refine W_draw_id (pln := true) [0, 1, 2, 3, 4, 5, 6, 7, 8, 9, 10, 11, 12, 13, 14] [(7, (7, [])), (12, (12, []))] (by kernel_rfl) rfl ?_)
      repeat(first|with_reducible first|refine vmR ?_|refine vmV rfl ?_|refine vmW rfl ?_|refine vmL ?_|refine blockW_y (by decide) ?_|((with_reducible first|apply vmO|apply vmT|apply vmC);case a=>simp [t0, t3, t4, t5, qp, i1, i2, w2, vc, vd, oc, od, ql];with_reducible first|exact .v|exact .c|exact .t|exact .f))
      refine ⟨by simp [readSame, beqAV_self, t0, t3, t4, t5]; done, _, by simp; first | done | rfl, ?_⟩
      repeat(first|with_reducible first|refine vmR ?_|refine vmV rfl ?_|refine vmW rfl ?_|refine vmL ?_|refine blockW_y (by decide) ?_|((with_reducible first|apply vmO|apply vmT|apply vmC);case a=>simp;with_reducible first|exact .v|exact .c|exact .t|exact .f))
      (with_reducible refine W_draw_id (pln := true) [0, 1, 2, 3, 4, 5, 6, 7, 8, 9, 10, 11, 12, 13, 14] [(7, (7, [])), (12, (12, []))] (by kernel_rfl) rfl ?_)
      repeat(first|with_reducible first|refine vmR ?_|refine vmV rfl ?_|refine vmW rfl ?_|refine vmL ?_|refine blockW_y (by decide) ?_|((with_reducible first|apply vmO|apply vmT|apply vmC);case a=>simp [t0, t3, t4, t5, qp, i1, i2, w2, vc, vd, oc, od, qe];with_reducible first|exact .v|exact .c|exact .t|exact .f))
      refine ⟨by simp [readSame, beqAV_self, t0, t3, t4, t5]; done, _, by simp; first | done | rfl, ?_⟩
      repeat(first|with_reducible first|refine vmR ?_|refine vmV rfl ?_|refine vmW rfl ?_|refine vmL ?_|refine blockW_y (by decide) ?_|((with_reducible first|apply vmO|apply vmT|apply vmC);case a=>simp [t0, t3, t4, t5, s1, c1, d1];with_reducible first|exact .v|exact .c|exact .t|exact .f))
      with_reducible apply WO_app_i; (case hw => (simp [t0, t3, t4, t5, s1, c1, d1]; done)); (case ho => rfl); (case hb => rfl); (case ha => (simp [t0, t3, t4, t5, s1, c1, d1]; first | done | exact ⟨rfl, rfl⟩ | rfl)); (case h1 => (simp; first | done | rfl)); (case h2 => (simp; first | done | rfl))
      refine app_then (AC.appN (h0 := h0) etS (.inl ⟨rfl, rfl⟩) he.drew.drew hps (SV.newEls v1) (by rw [List.length_map, List.length_take]; simp; omega)) ?_
      rintro w2 h2 ⟨ac2, he2, _, _, _⟩
      have e2 := ac2.sv.cells
      have f2 := ac2.sv.isCell
      have p2 : h2.pol 9 = false := by rw [he2.pol]; exact hps
      refine ⟨_, by simp; first | done | rfl, ?_⟩
      repeat(first|with_reducible first|refine vmR ?_|refine vmV rfl ?_|refine vmW rfl ?_|refine vmL ?_|refine blockW_y (by decide) ?_|((with_reducible first|apply vmO|apply vmT|apply vmC);case a=>simp [t0, t3, t4, t5, i1, e2, f2, newSeq, newSl, p2];with_reducible first|exact .v|exact .c|exact .t|exact .f))
      with_reducible apply WO_app_i; (case hw => (simp [t0, t3, t4, t5, i1, e2, f2, newSeq, newSl, p2]; done)); (case ho => rfl); (case hb => rfl); (case ha => (simp [t0, t3, t4, t5, i1, e2, f2, newSeq, newSl, p2]; first | done | exact ⟨rfl, rfl⟩ | rfl)); (case h1 => (simp; first | done | rfl)); (case h2 => (simp; first | done | rfl))
      refine app_then (AC.app (h0 := h0) etS (ac2.of ((HE.refl _).newSl 1)) (he2.newSl 1) hps (by simp; omega)) ?_
      rintro w3 h3 ⟨ac3, he3, _, _, _⟩
      have e3 := ac3.sv.cells
      have f3 := ac3.sv.isCell
      refine ⟨_, by simp; first | done | rfl, ?_⟩
      repeat(first|with_reducible first|refine vmR ?_|refine vmV rfl ?_|refine vmW rfl ?_|refine vmL ?_|refine blockW_y (by decide) ?_|((with_reducible first|apply vmO|apply vmT|apply vmC);case a=>simp [t0, t3, t4, t5, e3, f3, s2, c2, d2];with_reducible first|exact .v|exact .c|exact .t|exact .f))
      with_reducible apply WO_app_i; (case hw => (simp [t0, t3, t4, t5, e3, f3, s2, c2, d2]; done)); (case ho => rfl); (case hb => rfl); (case ha => (simp [t0, t3, t4, t5, e3, f3, s2, c2, d2]; first | done | exact ⟨rfl, rfl⟩ | rfl)); (case h1 => (simp; first | done | rfl)); (case h2 => (simp; first | done | rfl))
      refine app_then (AC.appN (h0 := h0) etS ac3 he3 hps (SV.newEls v2) (by simp; omega)) ?_
      rintro w4 h4 ⟨ac4, he4, _, _, _⟩
      have e4 := ac4.sv.cells
      have f4 := ac4.sv.isCell
      refine ⟨_, by simp; first | done | rfl, ?_⟩
      repeat(first|with_reducible first|refine vmR ?_|refine vmV rfl ?_|refine vmW rfl ?_|refine vmL ?_|refine blockW_y (by decide) ?_|((with_reducible first|apply vmO|apply vmT|apply vmC);case a=>simp [t0, t3, t4, t5, e4, f4, w1];with_reducible first|exact .v|exact .c|exact .t|exact .f))
      refine ⟨xs.length - (i + 1), by omega, _, _, i + 1, _, w4, rfl, rfl, by omega, by simp [t0], by simp, by simp, ?_, k1, k2, k3, he4⟩
      have := ac4.sv
      simpa using this
    · have hey : y = x.key := by rw [eqB_eq] at qe; exact beq_iff_eq.mp qe
      repeat(first|with_reducible first|refine vmR ?_|refine vmV rfl ?_|refine vmW rfl ?_|refine vmL ?_|refine blockW_y (by decide) ?_|((with_reducible first|apply vmO|apply vmT|apply vmC);case a=>simp;with_reducible first|exact .v|exact .c|exact .t|exact .f))
      (with_reducible refine W_draw_id (pln := true) [0, 1, 2, 3, 4, 5, 6, 7, 8, 9, 10, 11, 12, 13, 14] [(7, (7, [])), (12, (12, []))] (by kernel_rfl) rfl ?_)
      repeat(first|with_reducible first|refine vmR ?_|refine vmV rfl ?_|refine vmW rfl ?_|refine vmL ?_|refine blockW_y (by decide) ?_|((with_reducible first|apply vmO|apply vmT|apply vmC);case a=>simp [t0, t3, t4, t5, qp, i1, i2, w2, vc, vd, oc, od, ql];with_reducible first|exact .v|exact .c|exact .t|exact .f))
      refine ⟨by simp [readSame, beqAV_self, t0, t3, t4, t5]; done, _, by simp; first | done | rfl, ?_⟩
      repeat(first|with_reducible first|refine vmR ?_|refine vmV rfl ?_|refine vmW rfl ?_|refine vmL ?_|refine blockW_y (by decide) ?_|((with_reducible first|apply vmO|apply vmT|apply vmC);case a=>simp;with_reducible first|exact .v|exact .c|exact .t|exact .f))
      (with_reducible refine W_draw_id (pln := true) [0, 1, 2, 3, 4, 5, 6, 7, 8, 9, 10, 11, 12, 13, 14] [(7, (7, [])), (12, (12, []))] (by kernel_rfl) rfl ?_)
      repeat(first|with_reducible first|refine vmR ?_|refine vmV rfl ?_|refine vmW rfl ?_|refine vmL ?_|refine blockW_y (by decide) ?_|((with_reducible first|apply vmO|apply vmT|apply vmC);case a=>simp [t0, t3, t4, t5, qp, i1, i2, w2, vc, vd, oc, od, qe];with_reducible first|exact .v|exact .c|exact .t|exact .f))
      refine ⟨by simp [readSame, beqAV_self, t0, t3, t4, t5]; done, _, by simp; first | done | rfl, ?_⟩
      repeat(first|with_reducible first|refine vmR ?_|refine vmV rfl ?_|refine vmW rfl ?_|refine vmL ?_|refine blockW_y (by decide) ?_|((with_reducible first|apply vmO|apply vmT|apply vmC);case a=>simp [t0, t3, t4, t5, w1];with_reducible first|exact .v|exact .c|exact .t|exact .f))
      refine ⟨xs.length - (i + 1), by omega, _, _, i + 1, ks, o, rfl, rfl, by omega, by simp [t0], by simp [t3], by simp, ho, hst, fun k => ?_, by omega, he.drew.drew⟩
      rw [hmem k, htk]
      constructor
      · rintro ⟨a, ha, hk⟩
        exact ⟨a, List.mem_append_left _ ha, hk⟩
      · rintro ⟨a, ha, hk⟩
        rcases List.mem_append.mp ha with q | q
        · exact ⟨a, q, hk⟩
        · rw [List.mem_singleton.mp q] at hk
          exact (hmem k).mp (by rw [← hk, ← hey, hy]; exact List.getElem_mem _)
  · repeat(first|with_reducible first|refine vmR ?_|refine vmV rfl ?_|refine vmW rfl ?_|refine vmL ?_|refine blockW_y (by decide) ?_|((with_reducible first|apply vmO|apply vmT|apply vmC);case a=>simp;with_reducible first|exact .v|exact .c|exact .t|exact .f))
    (with_reducible refine W_draw_id (pln := true) [0, 1, 2, 3, 4, 5, 6, 7, 8, 9, 10, 11, 12, 13, 14] [(7, (7, [])), (12, (12, []))] (by kernel_rfl) rfl ?_)
    repeat(first|with_reducible first|refine vmR ?_|refine vmV rfl ?_|refine vmW rfl ?_|refine vmL ?_|refine blockW_y (by decide) ?_|((with_reducible first|apply vmO|apply vmT|apply vmC);case a=>simp [t0, t3, t4, t5, qp, i1, i2, w2, vc, vd, oc, od, ql];with_reducible first|exact .v|exact .c|exact .t|exact .f))
    refine ⟨by simp [readSame, beqAV_self, t0, t3, t4, t5]; done, _, by simp; first | done | rfl, ?_⟩
    repeat(first|with_reducible first|refine vmR ?_|refine vmV rfl ?_|refine vmW rfl ?_|refine vmL ?_|refine blockW_y (by decide) ?_|((with_reducible first|apply vmO|apply vmT|apply vmC);case a=>simp [t0, t3, t4, t5, w2];with_reducible first|exact .v|exact .c|exact .t|exact .f))
    refine ⟨p - 1, by omega, _, _, rfl, by omega, by simp [t0], by simp [t3], by simp [t4], by simp, ?_, he.drew⟩
    rw [List.drop_eq_getElem_cons hop, show p - 1 + 1 = p by omega, ← hy]
    intro b hb
    rcases List.mem_cons.mp hb with q | q
    · rw [q]; exact hlt2.mpr ql
    · exact hlt b q
end Go.Vn
