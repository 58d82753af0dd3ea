/- What functions of the program come to, in the value machine (a part of the proof of the claim's statement). No condition. -/
import Derived.Test.YtihkcenkpkepiaaGreatVnH3
import Derived.Test.YtihkcenkpkepiaaGreatVnG1
set_option linter.unusedSimpArgs false
set_option linter.unusedVariables false
set_option maxRecDepth 20000
namespace Go.Vn
open Go.Proofs

def vOdd (ep : Int) (v : Ver) : Bool := !VMay v || !decide (v.ep = ep)
def GMay (ep : Int) (vs : List Ver) : Bool := decide (1 ≤ ep) && decide (ep ≤ 10000) && !vs.any (vOdd ep)
def VSmall (v : Ver) : Prop := v.key.length ≤ 1000 ∧ v.val.length ≤ 1000

theorem wmay1_ans (v : Ver) (ep : Int) (rv : AV) (rg : Nat) (h0 : Hp Fm) (hl : v.key.length ≤ 100000) (hp : ∀ z, h0.pol z = false) (hg : Mp.get h0.obj rg = some (.row [.int .i64 ep, rv])) (hn : rg < h0.no) :
    A Tryz.prog TT (.func 73) [encV v, .ptr rg 0] h0 (fun r h' => r = .bool (vOdd ep v) ∧ HE h0 h') := by
  obtain ⟨key, br, e, sq, fr, to, val, gone⟩ := v
  have e0 := (HE.refl h0).new (.row [.str key, .int .i64 br, .int .i64 e, .int .i64 sq, .int .i64 fr, .int .i64 to, .str val, .bool gone])
  have no : rg ≠ h0.no := by omega
  apply A_go Tryz.func73 rfl (by rfl); (case hn => (simp [Tryz.ntmps73]; rfl))
  repeat(first|with_reducible first|refine vmR ?_|refine vmV rfl ?_|refine vmW rfl ?_|refine vmL ?_|refine blockW_y (by decide) ?_|((with_reducible first|apply vmO|apply vmT|apply vmC);case a=>simp;with_reducible first|exact .v|exact .c|exact .t|exact .f))
  refine A.mono (rmay_ans ⟨key, br, e, sq, fr, to, val, gone⟩ _ hl (by exact hp)) ?_
  rintro _ h1 ⟨rfl, e1⟩
  have e01 := e0.trans e1
  have g1 : Mp.get h1.obj h0.no = some (.row [.str key, .int .i64 br, .int .i64 e, .int .i64 sq, .int .i64 fr, .int .i64 to, .str val, .bool gone]) := (e1.obj _ (by show h0.no < h0.no + 1; omega)).trans (by simp)
  have g2 : Mp.get h1.obj rg = some (.row [.int .i64 ep, rv]) := (e01.obj _ hn).trans hg
  obtain ⟨m, hm⟩ : ∃ m, m = VMay ⟨key, br, e, sq, fr, to, val, gone⟩ := ⟨_, rfl⟩
  rw [← hm]
  have hv : vOdd ep ⟨key, br, e, sq, fr, to, val, gone⟩ = (!m || !decide (e = ep)) := by rw [hm]; rfl
  rw [hv]
  refine ⟨_, by simp; first | done | rfl, ?_⟩
  cases m with
  | false =>
    repeat(first|with_reducible first|refine vmR ?_|refine vmV rfl ?_|refine vmW rfl ?_|refine vmL ?_|refine blockW_y (by decide) ?_|((with_reducible first|apply vmO|apply vmT|apply vmC);case a=>simp [g1, g2];with_reducible first|exact .v|exact .c|exact .t|exact .f))
    (first | apply endW_r | apply endW_n); (case h1 => (simp [Tryz.results73]; first | done | rfl))
    exact ⟨by simp, e01⟩
  | true =>
    by_cases q : e = ep
    all_goals
      repeat(first|with_reducible first|refine vmR ?_|refine vmV rfl ?_|refine vmW rfl ?_|refine vmL ?_|refine blockW_y (by decide) ?_|((with_reducible first|apply vmO|apply vmT|apply vmC);case a=>simp [g1, g2, q];with_reducible first|exact .v|exact .c|exact .t|exact .f))
      (first | apply endW_r | apply endW_n); (case h1 => (simp [Tryz.results73]; first | done | rfl))
      exact ⟨by simp [q], e01⟩

theorem indexv_ans (vs : List Ver) (v : AV) (ep : Int) (rv : AV) (rg : Nat) (h0 : Hp Fm) (k : SV 8 (vs.map encV) v) (hl : vs.length ≤ 100000) (hs : ∀ v ∈ vs, v.key.length ≤ 100000) (hp : ∀ z, h0.pol z = false) (hg : Mp.get h0.obj rg = some (.row [.int .i64 ep, rv])) (hn : rg < h0.no) :
    A Tryz.prog TT (.func 95) [v, .fn (.func 73) [] [.ptr rg 0]] h0 (fun r h' => ∃ n : Int, r = .int .i64 n ∧ (decide (0 ≤ n)) = vs.any (vOdd ep) ∧ HE h0 h') := by
  have c1 := k.cells
  have i1 := k.isCell
  have n1 := k.nm
  have l1 := k.len Tryz.underlying23
  rw [List.length_map] at l1
  apply A_go Tryz.func95 rfl (by rfl); (case hn => (simp [Tryz.ntmps95]; rfl))
  repeat(first|with_reducible first|refine vmR ?_|refine vmV rfl ?_|refine vmW rfl ?_|refine vmL ?_|refine blockW_y (by decide) ?_|((with_reducible first|apply vmO|apply vmT|apply vmC);case a=>simp [c1, i1, n1, l1];with_reducible first|exact .v|exact .c|exact .t|exact .f))
  refine W_loop (fun m s => ∃ (t : Fm AV) (h : Hp Fm) (i : Nat), s = ⟨t, 19, h, none⟩ ∧ m = vs.length - i ∧ i ≤ vs.length ∧ (vs.drop i).any (vOdd ep) = vs.any (vOdd ep) ∧ tget t 0 = v ∧ tget t 1 = .fn (.func 73) [] [.ptr rg 0] ∧ tget t 7 = .int .i64 vs.length ∧ tget t 8 = .int .i64 i ∧ HE h0 h) vs.length
    ⟨_, _, 0, rfl, rfl, by omega, rfl, by simp, by simp, by simp, by simp, HE.refl h0⟩ ?_
  rintro m s ⟨t, h, i, rfl, rfl, hi, hany, t0, t1, t7, t8, he⟩
  by_cases q : i < vs.length
  case neg =>
    have q' : ¬ (i : Int) < vs.length := by omega
    have ed : vs.drop i = [] := List.drop_eq_nil_iff.mpr (by omega)
    rw [ed] at hany
    repeat(first|with_reducible first|refine vmR ?_|refine vmV rfl ?_|refine vmW rfl ?_|refine vmL ?_|refine blockW_y (by decide) ?_|((with_reducible first|apply vmO|apply vmT|apply vmC);case a=>simp [t0, t1, t7, t8, q, q'];with_reducible first|exact .v|exact .c|exact .t|exact .f))
    (first | apply endW_r | apply endW_n); (case h1 => (simp [Tryz.results95]; first | done | rfl))
    exact ⟨-1, rfl, by rw [← hany]; rfl, he⟩
  have q' : (i : Int) < vs.length := by omega
  obtain ⟨x, hx⟩ : ∃ x, x = vs[i] := ⟨_, rfl⟩
  have ed : vs.drop i = x :: vs.drop (i + 1) := by rw [hx]; exact List.drop_eq_getElem_cons q
  rw [ed, List.any_cons] at hany
  have ix := k.idx (k := .i64) (i := (i : Int)) Tryz.underlying23 z73 (by omega) (by simp; omega)
  have ig : (vs.map encV)[i]'(by simp; omega) = encV x := by simp [hx]
  simp only [Int.toNat_natCast, ig] at ix
  have hxs := hs x (by rw [hx]; exact List.getElem_mem q)
  have w1 : IntKind.i64.wrap ((i : Int) + 1) = ((i + 1 : Nat) : Int) := by rw [wrap64 (by omega) (by omega)]; simp
  have hph : ∀ z, h.pol z = false := fun z => by rw [he.pol]; exact hp z
  obtain ⟨key, br, e, sq, fr, to, val, gone⟩ := x
  have hb := hb73
  repeat(first|with_reducible first|refine vmR ?_|refine vmV rfl ?_|refine vmW rfl ?_|refine vmL ?_|refine blockW_y (by decide) ?_|((with_reducible first|apply vmO|apply vmT|apply vmC);case a=>simp [t0, t1, t7, t8, q, q', c1, i1, ix, hb];with_reducible first|exact .v|exact .c|exact .t|exact .f))
  refine A.mono (wmay1_ans ⟨key, br, e, sq, fr, to, val, gone⟩ ep rv rg h hxs hph ((he.obj _ hn).trans hg) (Nat.lt_of_lt_of_le hn he.no)) ?_
  rintro _ h2 ⟨rfl, e2⟩
  obtain ⟨o, ho⟩ : ∃ o, o = vOdd ep ⟨key, br, e, sq, fr, to, val, gone⟩ := ⟨_, rfl⟩
  rw [← ho] at hany ⊢
  refine ⟨_, by simp; first | done | rfl, ?_⟩
  cases o with
  | true =>
    repeat(first|with_reducible first|refine vmR ?_|refine vmV rfl ?_|refine vmW rfl ?_|refine vmL ?_|refine blockW_y (by decide) ?_|((with_reducible first|apply vmO|apply vmT|apply vmC);case a=>simp;with_reducible first|exact .v|exact .c|exact .t|exact .f))
    (first | apply endW_r | apply endW_n); (case h1 => (simp [Tryz.results95]; first | done | rfl))
    exact ⟨i, by simp [t8], by rw [← hany]; simp, he.trans e2⟩
  | false =>
    repeat(first|with_reducible first|refine vmR ?_|refine vmV rfl ?_|refine vmW rfl ?_|refine vmL ?_|refine blockW_y (by decide) ?_|((with_reducible first|apply vmO|apply vmT|apply vmC);case a=>simp [t0, t1, t7, t8, w1];with_reducible first|exact .v|exact .c|exact .t|exact .f))
    exact ⟨vs.length - (i + 1), by omega, _, h2, i + 1, rfl, rfl, by omega, by rw [← hany]; rfl, by simp [t0], by simp [t1], by simp [t7], by simp, he.trans e2⟩

theorem wmay_ans (ep : Int) (vs : List Ver) (rv : AV) (h0 : Hp Fm) (k : SV 8 (vs.map encV) rv) (hl : vs.length ≤ 100000) (hs : ∀ v ∈ vs, v.key.length ≤ 100000) (hp : ∀ z, h0.pol z = false) :
    A Tryz.prog TT (.func 38) [.agg [.int .i64 ep, rv]] h0 (fun r h' => r = .bool (GMay ep vs) ∧ HE h0 h') := by
  have c1 := k.cells
  have i1 := k.isCell
  have e0 := (HE.refl h0).new (.row [.int .i64 ep, rv])
  by_cases q1 : 1 ≤ ep
  case neg =>
    apply A_go Tryz.func38 rfl (by rfl); (case hn => (simp [Tryz.ntmps38]; rfl))
    repeat(first|with_reducible first|refine vmR ?_|refine vmV rfl ?_|refine vmW rfl ?_|refine vmL ?_|refine blockW_y (by decide) ?_|((with_reducible first|apply vmO|apply vmT|apply vmC);case a=>simp [c1, i1, q1];with_reducible first|exact .v|exact .c|exact .t|exact .f))
    (first | apply endW_r | apply endW_n); (case h1 => (simp [Tryz.results38]; first | done | rfl))
    exact ⟨by simp [GMay, q1], e0⟩
  by_cases q2 : ep ≤ 10000
  case neg =>
    apply A_go Tryz.func38 rfl (by rfl); (case hn => (simp [Tryz.ntmps38]; rfl))
    repeat(first|with_reducible first|refine vmR ?_|refine vmV rfl ?_|refine vmW rfl ?_|refine vmL ?_|refine blockW_y (by decide) ?_|((with_reducible first|apply vmO|apply vmT|apply vmC);case a=>simp [c1, i1, q1, q2];with_reducible first|exact .v|exact .c|exact .t|exact .f))
    (first | apply endW_r | apply endW_n); (case h1 => (simp [Tryz.results38]; first | done | rfl))
    exact ⟨by simp [GMay, q2], e0⟩
  apply A_go Tryz.func38 rfl (by rfl); (case hn => (simp [Tryz.ntmps38]; rfl))
  repeat(first|with_reducible first|refine vmR ?_|refine vmV rfl ?_|refine vmW rfl ?_|refine vmL ?_|refine blockW_y (by decide) ?_|((with_reducible first|apply vmO|apply vmT|apply vmC);case a=>simp [c1, i1, q1, q2];with_reducible first|exact .v|exact .c|exact .t|exact .f))
  apply A_go Tryz.func75 rfl (by rfl); (case hn => (simp [Tryz.ntmps75]; rfl))
  repeat(first|with_reducible first|refine vmR ?_|refine vmV rfl ?_|refine vmW rfl ?_|refine vmL ?_|refine blockW_y (by decide) ?_|((with_reducible first|apply vmO|apply vmT|apply vmC);case a=>simp [c1, i1];with_reducible first|exact .v|exact .c|exact .t|exact .f))
  refine A.mono (indexv_ans vs rv ep rv h0.no _ k hl hs (by exact hp) (by simp) (by show h0.no < h0.no + 1; omega)) ?_
  rintro _ h1 ⟨n, rfl, hn, e1⟩
  refine ⟨_, by simp; first | done | rfl, ?_⟩
  by_cases q : 0 ≤ n
  all_goals
    repeat(first|with_reducible first|refine vmR ?_|refine vmV rfl ?_|refine vmW rfl ?_|refine vmL ?_|refine blockW_y (by decide) ?_|((with_reducible first|apply vmO|apply vmT|apply vmC);case a=>simp [q];with_reducible first|exact .v|exact .c|exact .t|exact .f))
    (first | apply endW_r | apply endW_n); (case h1 => (simp [Tryz.results75]; first | done | rfl))
    refine ⟨_, by simp; first | done | rfl, ?_⟩
    repeat(first|with_reducible first|refine vmR ?_|refine vmV rfl ?_|refine vmW rfl ?_|refine vmL ?_|refine blockW_y (by decide) ?_|((with_reducible first|apply vmO|apply vmT|apply vmC);case a=>simp;with_reducible first|exact .v|exact .c|exact .t|exact .f))
    (first | apply endW_r | apply endW_n); (case h1 => (simp [Tryz.results38]; first | done | rfl))
    exact ⟨by unfold GMay; rw [← hn]; simp [q1, q2, q], e0.trans e1⟩
end Go.Vn

set_option maxRecDepth 20000
namespace Go.Vn
open Go.Proofs

def goneI (g : Bool) : Int := if g then 1 else 0
def encVb (v : Ver) : List UInt8 := encs [v.br, v.ep, v.sq, v.fr, v.to - v.fr, goneI v.gone] ++ encT [v.key, v.val]
def encL (vs : List Ver) : List UInt8 := encs [(vs.length : Int)] ++ vs.flatMap encVb
def encG (ep : Int) (vs : List Ver) : List UInt8 := encs [ep] ++ encL vs
def VNum (v : Ver) : Prop := (0 ≤ v.br ∧ v.br ≤ 15) ∧ (1 ≤ v.ep ∧ v.ep ≤ 10000) ∧ (1 ≤ v.sq ∧ v.sq ≤ 100000) ∧ SpMay v.fr v.to
theorem vmay_num {v : Ver} (h : VMay v = true) : VNum v := by
  unfold VMay at h
  simp only [Bool.and_eq_true, decide_eq_true_eq] at h
  exact ⟨h.1.1.1.1.1.2, h.1.1.1.1.2, h.1.1.1.2, h.1.1.2⟩
theorem encVb_len {v : Ver} (h : VNum v) (s : VSmall v) : (encVb v).length ≤ 2072 := by
  obtain ⟨h1, h2, h3, h4⟩ := h
  obtain ⟨s1, s2⟩ := s
  have a := encs_len [v.br, v.ep, v.sq, v.fr, v.to - v.fr, goneI v.gone] (by
    intro n hn
    unfold SpMay at h4
    simp only [List.mem_cons, List.not_mem_nil, or_false] at hn
    rcases hn with rfl | rfl | rfl | rfl | rfl | rfl <;> first | omega | (unfold goneI; split <;> omega))
  have b1 := enc7_len 8 v.key.length (by omega)
  have b2 := enc7_len 8 v.val.length (by omega)
  simp only [encVb, List.length_append, encT, List.flatMap_cons, List.flatMap_nil, List.length_nil, List.length_cons] at *
  omega
theorem flat_len {vs : List Ver} (h : ∀ v ∈ vs, VNum v ∧ VSmall v) : (vs.flatMap encVb).length ≤ 2072 * vs.length := by
  induction vs with
  | nil => simp
  | cons v vs ih =>
    have := ih fun x hx => h x (List.mem_cons_of_mem _ hx)
    have h2 := encVb_len (h v List.mem_cons_self).1 (h v List.mem_cons_self).2
    simp only [List.flatMap_cons, List.length_append, List.length_cons]
    omega

set_option maxHeartbeats 4000000 in
theorem rput_ans (b : List UInt8) (vb : AV) (v : Ver) (h0 : Hp Fm) (kb : SV 1 (b.map byteAV) vb) (hv : VNum v) (hs : VSmall v) (hb : b.length ≤ 16000000) (hp : ∀ z, h0.pol z = false) :
    A Tryz.prog TT (.func 96) [vb, encV v] h0 (fun r h' => AC h0 h' 1 ((b ++ encVb v).map byteAV) r ∧ HE h0 h') := by
  obtain ⟨key, br, ep, sq, fr, to, val, gone⟩ := v
  have hel := encVb_len hv hs
  have c1 := kb.cells
  have i1 := kb.isCell
  have e0 := (HE.refl h0).new (.row [.str key, .int .i64 br, .int .i64 ep, .int .i64 sq, .int .i64 fr, .int .i64 to, .str val, .bool gone])
  obtain ⟨h1, h2, h3, h4⟩ := hv
  obtain ⟨s1, s2⟩ := hs
  unfold SpMay at h4
  simp only at h1 h2 h3 h4 s1 s2
  have w1 : IntKind.i64.wrap (to - fr) = to - fr := wrap64 (by omega) (by omega)
  have hal := encs_len [br, ep, sq, fr, to - fr, goneI gone] (by
    intro n hn
    simp only [List.mem_cons, List.not_mem_nil, or_false] at hn
    rcases hn with rfl | rfl | rfl | rfl | rfl | rfl <;> first | omega | (unfold goneI; split <;> omega))
  simp only [List.length_cons, List.length_nil] at hal
  have key1 : A Tryz.prog TT (.func 77) [vb, .sl h0.ng 0 1 6 [.int .i64 br, .int .i64 ep, .int .i64 sq, .int .i64 fr, .int .i64 (to - fr), .int .i64 (goneI gone)]] { h0 with obj := Mp.set h0.obj h0.no (.row [.str key, .int .i64 br, .int .i64 ep, .int .i64 sq, .int .i64 fr, .int .i64 to, .str val, .bool gone]), no := h0.no + 1, len := Mp.set h0.len h0.ng 6, ng := h0.ng + 1 } (fun r h' => AC h0 h' 1 ((b ++ encs [br, ep, sq, fr, to - fr, goneI gone]).map byteAV) r ∧ HE h0 h' ∧ Mp.get h'.obj h0.no = some (.row [.str key, .int .i64 br, .int .i64 ep, .int .i64 sq, .int .i64 fr, .int .i64 to, .str val, .bool gone])) := by
    refine A.mono (vput_ans b [br, ep, sq, fr, to - fr, goneI gone] vb _ _ kb (.inr (.inl ⟨_, _, _, rfl⟩)) ?_ (by exact hp _) (by simp; omega)) ?_
    · intro n hn
      simp only [List.mem_cons, List.not_mem_nil, or_false] at hn
      rcases hn with rfl | rfl | rfl | rfl | rfl | rfl <;> first | omega | (unfold goneI; split <;> omega)
    · rintro u h' ⟨a1, e1⟩
      have e01 := (e0.newSl 6).trans e1
      exact ⟨a1.weak (by show h0.ng ≤ h0.ng + 1; omega), e01, (e1.obj _ (by show h0.no < h0.no + 1; omega)).trans (by simp)⟩
  have rest : ∀ (u : AV) (h' : Hp Fm), AC h0 h' 1 ((b ++ encs [br, ep, sq, fr, to - fr, goneI gone]).map byteAV) u → HE h0 h' → A Tryz.prog TT (.func 104) [u, .sl h'.ng 0 1 2 [.str key, .str val]] { h' with len := Mp.set h'.len h'.ng 2, ng := h'.ng + 1 } (fun r h'' => AC h0 h'' 1 ((b ++ encVb ⟨key, br, ep, sq, fr, to, val, gone⟩).map byteAV) r ∧ HE h0 h'') := by
    intro u h' a1 e1
    have b1 := enc7_len 8 key.length (by omega)
    have b2 := enc7_len 8 val.length (by omega)
    refine A.mono (vtext_ans (b ++ encs [br, ep, sq, fr, to - fr, goneI gone]) [key, val] u _ _ a1.sv (.inr (.inl ⟨_, _, _, rfl⟩)) ?_ (by intro z; show h'.pol z = false; rw [e1.pol]; exact hp z) (by simp) ?_) ?_
    · intro s hs
      simp only [List.mem_cons, List.not_mem_nil, or_false] at hs
      rcases hs with rfl | rfl <;> omega
    · simp only [List.length_append, encT, List.flatMap_cons, List.flatMap_nil, List.length_nil]
      omega
    · rintro r h'' ⟨a2, e2⟩
      have e12 := (HE.refl h').newSl 2
      exact ⟨by simpa [encVb] using a2.weak (Nat.le_trans e1.ng e12.ng), e1.trans (e12.trans e2)⟩
  cases gone with
  | false =>
    apply A_go Tryz.func96 rfl (by rfl); (case hn => (simp [Tryz.ntmps96]; rfl))
    repeat(first|with_reducible first|refine vmR ?_|refine vmV rfl ?_|refine vmW rfl ?_|refine vmL ?_|refine blockW_y (by decide) ?_|((with_reducible first|apply vmO|apply vmT|apply vmC);case a=>simp [c1, i1, w1, newSeq, newSl, hp];with_reducible first|exact .v|exact .c|exact .t|exact .f))
    refine A.mono key1 ?_
    rintro u h' ⟨a1, e1, g1⟩
    have uc := a1.sv.cells
    have ui := a1.sv.isCell
    have p1 : ∀ z, h'.pol z = false := fun z => by rw [e1.pol]; exact hp z
    refine ⟨_, by simp; first | done | rfl, ?_⟩
    repeat(first|with_reducible first|refine vmR ?_|refine vmV rfl ?_|refine vmW rfl ?_|refine vmL ?_|refine blockW_y (by decide) ?_|((with_reducible first|apply vmO|apply vmT|apply vmC);case a=>simp [uc, ui, g1, newSeq, newSl, p1];with_reducible first|exact .v|exact .c|exact .t|exact .f))
    refine A.mono (rest u h' a1 e1) ?_
    rintro r h'' ⟨a2, e2⟩
    have rc := a2.sv.cells
    have ri := a2.sv.isCell
    refine ⟨_, by simp; first | done | rfl, ?_⟩
    repeat(first|with_reducible first|refine vmR ?_|refine vmV rfl ?_|refine vmW rfl ?_|refine vmL ?_|refine blockW_y (by decide) ?_|((with_reducible first|apply vmO|apply vmT|apply vmC);case a=>simp [rc, ri];with_reducible first|exact .v|exact .c|exact .t|exact .f))
    (first | apply endW_r | apply endW_n); (case h1 => (simp [Tryz.results96]; first | done | rfl))
    exact ⟨a2, e2⟩
  | true =>
    apply A_go Tryz.func96 rfl (by rfl); (case hn => (simp [Tryz.ntmps96]; rfl))
    repeat(first|with_reducible first|refine vmR ?_|refine vmV rfl ?_|refine vmW rfl ?_|refine vmL ?_|refine blockW_y (by decide) ?_|((with_reducible first|apply vmO|apply vmT|apply vmC);case a=>simp [c1, i1, w1, newSeq, newSl, hp];with_reducible first|exact .v|exact .c|exact .t|exact .f))
    refine A.mono key1 ?_
    rintro u h' ⟨a1, e1, g1⟩
    have uc := a1.sv.cells
    have ui := a1.sv.isCell
    have p1 : ∀ z, h'.pol z = false := fun z => by rw [e1.pol]; exact hp z
    refine ⟨_, by simp; first | done | rfl, ?_⟩
    repeat(first|with_reducible first|refine vmR ?_|refine vmV rfl ?_|refine vmW rfl ?_|refine vmL ?_|refine blockW_y (by decide) ?_|((with_reducible first|apply vmO|apply vmT|apply vmC);case a=>simp [uc, ui, g1, newSeq, newSl, p1];with_reducible first|exact .v|exact .c|exact .t|exact .f))
    refine A.mono (rest u h' a1 e1) ?_
    rintro r h'' ⟨a2, e2⟩
    have rc := a2.sv.cells
    have ri := a2.sv.isCell
    refine ⟨_, by simp; first | done | rfl, ?_⟩
    repeat(first|with_reducible first|refine vmR ?_|refine vmV rfl ?_|refine vmW rfl ?_|refine vmL ?_|refine blockW_y (by decide) ?_|((with_reducible first|apply vmO|apply vmT|apply vmC);case a=>simp [rc, ri];with_reducible first|exact .v|exact .c|exact .t|exact .f))
    (first | apply endW_r | apply endW_n); (case h1 => (simp [Tryz.results96]; first | done | rfl))
    exact ⟨a2, e2⟩

set_option maxHeartbeats 4000000 in
theorem rlist_ans (vs : List Ver) (v : AV) (h0 : Hp Fm) (k : SV 8 (vs.map encV) v) (hl : vs.length ≤ 2000000) (fl : (vs.flatMap encVb).length ≤ 15000000) (hm : ∀ v ∈ vs, VMay v = true) (hs : ∀ v ∈ vs, VSmall v) (hp : ∀ z, h0.pol z = false) :
    A Tryz.prog TT (.func 76) [v] h0 (fun r h' => ∃ u, r = .tup [u, .int .i64 0] ∧ SV 1 ((encL vs).map byteAV) u ∧ HE h0 h') := by
  have c1 := k.cells
  have i1 := k.isCell
  have n1 := k.nm
  have l1 := k.len Tryz.underlying23
  rw [List.length_map] at l1
  have el := enc7_len 8 vs.length (by omega)
  apply A_go Tryz.func76 rfl (by rfl); (case hn => (simp [Tryz.ntmps76]; rfl))
  repeat(first|with_reducible first|refine vmR ?_|refine vmV rfl ?_|refine vmW rfl ?_|refine vmL ?_|refine blockW_y (by decide) ?_|((with_reducible first|apply vmO|apply vmT|apply vmC);case a=>simp [c1, i1, n1, l1, newSeq, newSl, hp];with_reducible first|exact .v|exact .c|exact .t|exact .f))
  refine A.mono (vput_ans [] [(vs.length : Int)] .nils _ _ (.inl ⟨rfl, rfl⟩) (.inr (.inl ⟨_, _, _, rfl⟩)) (by simp; omega) (by exact hp _) (by simp)) ?_
  rintro u1 h1 ⟨a1, e1⟩
  have e2 := ((HE.refl h0).newSl 1).trans e1
  have a1' : AC h0 h1 1 ((encs [(vs.length : Int)]).map byteAV) u1 := by simpa using a1.weak (by show h0.ng ≤ h0.ng + 1; omega)
  have uc := a1'.sv.cells
  have ui := a1'.sv.isCell
  refine ⟨_, by simp; first | done | rfl, ?_⟩
  repeat(first|with_reducible first|refine vmR ?_|refine vmV rfl ?_|refine vmW rfl ?_|refine vmL ?_|refine blockW_y (by decide) ?_|((with_reducible first|apply vmO|apply vmT|apply vmC);case a=>simp [c1, i1, n1, l1, uc, ui];with_reducible first|exact .v|exact .c|exact .t|exact .f))
  refine W_loop (fun m s => ∃ (t : Fm AV) (h : Hp Fm) (done rest : List Ver) (u : AV), s = ⟨t, 25, h, none⟩ ∧ m = rest.length ∧ vs = done ++ rest ∧ tget t 11 = v ∧ tget t 12 = .int .i64 vs.length ∧ tget t 13 = .int .i64 done.length ∧ tget t 4 = u ∧ AC h0 h 1 ((encs [(vs.length : Int)] ++ done.flatMap encVb).map byteAV) u ∧ HE h0 h) vs.length
    ⟨_, _, [], vs, u1, rfl, rfl, rfl, by simp, by simp, by simp, by simp, by simpa using a1', e2⟩ ?_
  clear uc ui
  rintro m s ⟨t, h, done, rest, u, rfl, rfl, hdr, t11, t12, t13, t4, hu, he⟩
  have uc := hu.sv.cells
  have ui := hu.sv.isCell
  have hlen : vs.length = done.length + rest.length := by rw [hdr]; simp
  obtain ⟨i, hi⟩ : ∃ i, i = done.length := ⟨_, rfl⟩
  rw [← hi] at t13 hlen
  cases rest with
  | nil =>
    have q : ¬ ((i : Int) < vs.length) := by simp at hlen; omega
    have q' : ¬ (i < vs.length) := by omega
    repeat(first|with_reducible first|refine vmR ?_|refine vmV rfl ?_|refine vmW rfl ?_|refine vmL ?_|refine blockW_y (by decide) ?_|((with_reducible first|apply vmO|apply vmT|apply vmC);case a=>simp [t11, t12, t13, t4, q, q', uc, ui];with_reducible first|exact .v|exact .c|exact .t|exact .f))
    (first | apply endW_r | apply endW_n); (case h1 => (simp [Tryz.results76]; first | done | rfl))
    have : done = vs := by rw [hdr]; simp
    rw [this] at hu
    exact ⟨u, by simp, hu.sv, he⟩
  | cons x rest =>
    have q : ((i : Int) < vs.length) := by simp at hlen; omega
    have q' : (i < vs.length) := by omega
    have ix := k.idx (k := .i64) (i := (i : Int)) Tryz.underlying23 z73 (by omega) (by simp; omega)
    have ig : (vs.map encV)[i]'(by simp; omega) = encV x := by simp [hdr, hi]
    simp only [Int.toNat_natCast, ig] at ix
    have hmx := hm x (by rw [hdr]; simp)
    have hsx := hs x (by rw [hdr]; simp)
    have hph : ∀ z, h.pol z = false := fun z => by rw [he.pol]; exact hp z
    have w1 : IntKind.i64.wrap ((i : Int) + 1) = ((i + 1 : Nat) : Int) := by rw [wrap64 (by omega) (by omega)]; simp
    have fd : (done.flatMap encVb).length ≤ (vs.flatMap encVb).length := by rw [hdr, List.flatMap_append, List.length_append]; omega
    have hn := vmay_num hmx
    obtain ⟨key, br, ep, sq, fr, to, val, gone⟩ := x
    obtain ⟨hb, hhb⟩ : ∃ hb : Hp Fm, hb = { h with obj := Mp.set (Mp.set h.obj h.no (.row [.str [], .int .i64 0, .int .i64 0, .int .i64 0, .int .i64 0, .int .i64 0, .str [], .bool false])) h.no (.row [.str key, .int .i64 br, .int .i64 ep, .int .i64 sq, .int .i64 fr, .int .i64 to, .str val, .bool gone]), no := h.no + 1 } := ⟨_, rfl⟩
    have eb : HE h hb := by rw [hhb]; exact ((HE.refl h).new _).set (Nat.le_refl _) _
    have gb : Mp.get hb.obj h.no = some (.row [.str key, .int .i64 br, .int .i64 ep, .int .i64 sq, .int .i64 fr, .int .i64 to, .str val, .bool gone]) := by rw [hhb]; simp
    have nb : h.no < hb.no := by rw [hhb]; show h.no < h.no + 1; omega
    have pb : ∀ z, hb.pol z = false := fun z => by rw [eb.pol]; exact hph z
    repeat(first|with_reducible first|refine vmR ?_|refine vmV rfl ?_|refine vmW rfl ?_|refine vmL ?_|refine blockW_y (by decide) ?_|((with_reducible first|apply vmO|apply vmT|apply vmC);case a=>simp [t11, t12, t13, t4, q, q', c1, i1, ix, uc, ui];with_reducible first|exact .v|exact .c|exact .t|exact .f))
    rw [← hhb]
    refine A.mono (rmay_ans ⟨key, br, ep, sq, fr, to, val, gone⟩ _ (by have := hsx.1; simp only at this ⊢; omega) pb) ?_
    rintro _ h2 ⟨rfl, e3⟩
    rw [hmx]
    have g2 : Mp.get h2.obj h.no = some (.row [.str key, .int .i64 br, .int .i64 ep, .int .i64 sq, .int .i64 fr, .int .i64 to, .str val, .bool gone]) := (e3.obj _ nb).trans gb
    have e02 := he.trans (eb.trans e3)
    have hu2 := hu.of (eb.trans e3)
    refine ⟨_, by simp; first | done | rfl, ?_⟩
    repeat(first|with_reducible first|refine vmR ?_|refine vmV rfl ?_|refine vmW rfl ?_|refine vmL ?_|refine blockW_y (by decide) ?_|((with_reducible first|apply vmO|apply vmT|apply vmC);case a=>simp [t4, uc, ui, g2];with_reducible first|exact .v|exact .c|exact .t|exact .f))
    refine A.mono (rput_ans (encs [(vs.length : Int)] ++ done.flatMap encVb) u ⟨key, br, ep, sq, fr, to, val, gone⟩ h2 hu2.sv hn hsx ?_ (fun z => by rw [e02.pol]; exact hp z)) ?_
    · simp only [List.length_append, encs, List.flatMap_cons, List.flatMap_nil, List.length_nil, Int.toNat_natCast]; omega
    rintro r h3 ⟨a3, e4⟩
    have rc := a3.sv.cells
    have ri := a3.sv.isCell
    refine ⟨_, by simp; first | done | rfl, ?_⟩
    repeat(first|with_reducible first|refine vmR ?_|refine vmV rfl ?_|refine vmW rfl ?_|refine vmL ?_|refine blockW_y (by decide) ?_|((with_reducible first|apply vmO|apply vmT|apply vmC);case a=>simp [t11, t12, t13, rc, ri, w1];with_reducible first|exact .v|exact .c|exact .t|exact .f))
    refine ⟨rest.length, by simp, _, h3, done ++ [⟨key, br, ep, sq, fr, to, val, gone⟩], rest, r, rfl, rfl, by rw [hdr]; simp, by simp [t11], by simp [t12], by simp [hi], by simp, ?_, e02.trans e4⟩
    have a4 := a3.weak e02.ng
    simpa using a4

set_option maxHeartbeats 2000000 in
theorem wwrite_big (ep : Int) (vs : List Ver) (rv : AV) (h0 : Hp Fm) (k : SV 8 (vs.map encV) rv) (hl : vs.length ≤ 2000000) (fl : (vs.flatMap encVb).length ≤ 15000000) (hep : 0 ≤ ep ∧ ep ≤ 10000) (hm : ∀ v ∈ vs, VMay v = true) (hs : ∀ v ∈ vs, VSmall v) (hp : ∀ z, h0.pol z = false) :
    A Tryz.prog TT (.func 42) [.agg [.int .i64 ep, rv]] h0 (fun r h' => SV 1 ((encG ep vs).map byteAV) r ∧ HE h0 h') := by
  have c1 := k.cells
  have i1 := k.isCell
  have e0 := (HE.refl h0).new (.row [.int .i64 ep, rv])
  have el := enc7_len 8 vs.length (by omega)
  have ee := encs_len [ep] (by simp; omega)
  apply A_go Tryz.func42 rfl (by rfl); (case hn => (simp [Tryz.ntmps42]; rfl))
  repeat(first|with_reducible first|refine vmR ?_|refine vmV rfl ?_|refine vmW rfl ?_|refine vmL ?_|refine blockW_y (by decide) ?_|((with_reducible first|apply vmO|apply vmT|apply vmC);case a=>simp [c1, i1];with_reducible first|exact .v|exact .c|exact .t|exact .f))
  refine A.mono (rlist_ans vs rv _ k hl fl hm hs (by exact hp)) ?_
  rintro _ h1 ⟨u, rfl, su, e1⟩
  have uc := su.cells
  have ui := su.isCell
  have e01 := e0.trans e1
  have g1 : Mp.get h1.obj h0.no = some (.row [.int .i64 ep, rv]) := by rw [e1.obj _ (by show h0.no < h0.no + 1; omega)]; simp
  have p1 : ∀ z, h1.pol z = false := fun z => by rw [e01.pol]; exact hp z
  refine ⟨_, by simp; first | done | rfl, ?_⟩
  repeat(first|with_reducible first|refine vmR ?_|refine vmV rfl ?_|refine vmW rfl ?_|refine vmL ?_|refine blockW_y (by decide) ?_|((with_reducible first|apply vmO|apply vmT|apply vmC);case a=>simp [uc, ui, g1, newSeq, newSl, p1];with_reducible first|exact .v|exact .c|exact .t|exact .f))
  have e2 := (HE.refl h1).newSl 1
  refine A.mono (vput_ans [] [ep] .nils _ _ (.inl ⟨rfl, rfl⟩) (.inr (.inl ⟨_, _, _, rfl⟩)) (by simp; omega) (by exact p1 _) (by simp)) ?_
  rintro y h2 ⟨a2, e3⟩
  have e12 := e2.trans e3
  have yc := a2.sv.cells
  have yi := a2.sv.isCell
  have p2 : ∀ z, h2.pol z = false := fun z => by rw [e12.pol]; exact p1 z
  refine ⟨_, by simp; first | done | rfl, ?_⟩
  repeat(first|with_reducible first|refine vmR ?_|refine vmV rfl ?_|refine vmW rfl ?_|refine vmL ?_|refine blockW_y (by decide) ?_|((with_reducible first|apply vmO|apply vmT|apply vmC);case a=>simp [uc, ui, yc, yi];with_reducible first|exact .v|exact .c|exact .t|exact .f))
  with_reducible apply WO_app_i; (case hw => (simp [uc, ui, yc, yi]; done)); (case ho => rfl); (case hb => rfl); (case ha => (simp [uc, ui, yc, yi]; first | done | exact ⟨rfl, rfl⟩ | rfl)); (case h1 => (simp; first | done | rfl)); (case h2 => (simp; first | done | rfl))
  refine app_then (AC.appN (h0 := h1) (h := h2) (new := (encL vs).map byteAV) etB (a2.weak e2.ng) e12 (p1 _) su.newEls ?_) ?_
  · simp only [List.length_map, List.nil_append, encL, List.length_append, encs, List.flatMap_cons, List.flatMap_nil, List.length_nil, Int.toNat_natCast] at ee ⊢
    simp only [List.length_cons, List.length_nil] at ee
    omega
  rintro x4 h4 ⟨ac4, he4, _, _, _⟩
  have e4 := ac4.sv.cells
  have f4 := ac4.sv.isCell
  refine ⟨_, by simp; first | done | rfl, ?_⟩
  repeat(first|with_reducible first|refine vmR ?_|refine vmV rfl ?_|refine vmW rfl ?_|refine vmL ?_|refine blockW_y (by decide) ?_|((with_reducible first|apply vmO|apply vmT|apply vmC);case a=>simp [e4, f4];with_reducible first|exact .v|exact .c|exact .t|exact .f))
  (first | apply endW_r | apply endW_n); (case h1 => (simp [Tryz.results42]; first | done | rfl))
  exact ⟨by simpa [encG] using ac4.sv, e01.trans he4⟩
theorem wwrite_ans (ep : Int) (vs : List Ver) (rv : AV) (h0 : Hp Fm) (k : SV 8 (vs.map encV) rv) (hl : vs.length ≤ 300) (hep : 0 ≤ ep ∧ ep ≤ 10000) (hm : ∀ v ∈ vs, VMay v = true) (hs : ∀ v ∈ vs, VSmall v) (hp : ∀ z, h0.pol z = false) :
    A Tryz.prog TT (.func 42) [.agg [.int .i64 ep, rv]] h0 (fun r h' => SV 1 ((encG ep vs).map byteAV) r ∧ HE h0 h') :=
  wwrite_big ep vs rv h0 k (by omega) (by have := flat_len (vs := vs) fun v hv => ⟨vmay_num (hm v hv), hs v hv⟩; omega) hep hm hs hp
end Go.Vn

set_option maxRecDepth 20000
namespace Go.Vn
open Go.Proofs

def lst (F : Nat → Int) : List Int := (List.range 32).map F
@[simp] theorem lst_len (F : Nat → Int) : (lst F).length = 32 := by simp [lst]
theorem gt_lst (F : Nat → Int) {k : Nat} (h : k < 32) : gt (lst F) k = F k := by
  rw [gt_eq (by simpa using h)]; simp [lst]
theorem lst_congr {F G : Nat → Int} (h : ∀ i, i < 32 → F i = G i) : lst F = lst G := by
  unfold lst
  exact List.map_congr_left fun i hi => h i (List.mem_range.mp hi)
theorem lst_set (F : Nat → Int) (k : Nat) (x : Int) : (lst F).set k x = lst (fun i => if i = k then x else F i) := by
  unfold lst
  apply List.ext_getElem?
  intro i
  rw [List.getElem?_set]
  simp only [List.length_map, List.length_range, List.getElem?_map, List.getElem?_range']
  by_cases q : i < 32
  · rw [List.getElem?_range q]
    by_cases r : k = i
    · subst r; simp [q]
    · simp [r, Ne.symm r]
  · have : (List.range 32)[i]? = none := by simp; omega
    rw [this]
    by_cases r : k = i
    · subst r; simp [q]
    · simp [r]
theorem encI : EncOk intAV 1 false := ⟨fun _ => .inr ⟨rfl, rfl, rfl, rfl⟩, fun _ => rfl, by omega⟩
theorem getI (F : Nat → Int) {k : Nat} (h : k < 32) : partAV false 1 (clsE intAV (lst F)) k = some (.int .i64 (F k)) := by
  have := getS encI (J := []) (l := lst F) (i := k) (by simpa using h)
  rw [Nat.mul_one, List.append_nil, gt_lst F h] at this
  exact this
theorem setI (F : Nat → Int) {k : Nat} (x : Int) (h : k < 32) : splice (clsE intAV (lst F)) k [.int .i64 x] = clsE intAV (lst (fun i => if i = k then x else F i)) := by
  have := setS encI (J := []) (l := lst F) (i := k) x (by simpa using h)
  rw [Nat.mul_one, List.append_nil, List.append_nil, lst_set] at this
  exact this
theorem clsI_len (F : Nat → Int) : (clsE intAV (lst F)).length = 32 := by rw [cls_len encI]; simp
theorem ixI (o : Nat) {i : Nat} (h : i < 32) : indexAddrAV Tryz.prog 118 (.rs o 0 1 false 32 32) (.int .i64 (i : Int)) = some (.ptr o i) := by
  rw [index_rs Tryz.underlying118 z3 (by omega) (by omega), Int.toNat_natCast, Nat.mul_one]
theorem mkI (hb : Hp Fm) (hp : hb.pol 3 = true) : makeSliceAV Tryz.prog hb 118 (.int .i64 32) (.int .i64 32) = some (.rs hb.no 0 1 false 32 32, { hb with obj := Mp.set hb.obj hb.no (.row (clsE intAV (lst fun _ => 0))), no := hb.no + 1 }) := by
  simp [makeSliceAV, newSeq, hp, newRs]
  rfl
theorem flat_int (l : List Int) : (l.map intAV).flatMap AV.cells = clsE intAV l := by
  induction l with
  | nil => rfl
  | cons a l ih => simp [clsE] at ih ⊢; exact ih
def bitN (n : Nat) (i : Nat) : Int := ((n / 2 ^ i % 2 : Nat) : Int)
theorem bitN_get (s : BitVec 32) (i : Nat) : bitN s.toNat i = bitI s i := by
  unfold bitN bitI
  have : s.getLsbD i = s.toNat.testBit i := rfl
  rw [this, Nat.testBit_eq_decide_div_mod_eq]
  have h2 : s.toNat / 2 ^ i % 2 < 2 := Nat.mod_lt _ (by omega)
  generalize s.toNat / 2 ^ i % 2 = q at *
  by_cases z : q = 1
  · subst z; rfl
  · have : q = 0 := by omega
    subst this; rfl

set_option maxHeartbeats 2000000 in
theorem bits3_ans (n : Nat) (hn : n ≤ 9223372036854775807) (h0 : Hp Fm) :
    A Tryz.prog TT (.func 89) [.int .i64 n] h0 (fun r h' => SV 1 ((lst (bitN n)).map intAV) r ∧ HE h0 h') := by
  obtain ⟨hb, hhb⟩ : ∃ hb : Hp Fm, hb = { h0 with pol := (· == 3) } := ⟨_, rfl⟩
  have f0 : ∀ h' : Hp Fm, HE hb h' → HE h0 { h' with pol := h0.pol } := fun h' k => ⟨by have := k.no; rw [hhb] at this; exact this, by have := k.ng; rw [hhb] at this; exact this, rfl, by have := k.obj; rw [hhb] at this; exact this, by have := k.len; rw [hhb] at this; exact this⟩
  have pb : hb.pol 3 = true := by rw [hhb]; rfl
  have mk := mkI hb pb
  obtain ⟨o, ho⟩ : ∃ o, o = hb.no := ⟨_, rfl⟩
  apply A_goT Tryz.func89 rfl (by rfl); (case hn => (simp [Tryz.ntmps89]; rfl))
  repeat(first|with_reducible first|refine vmR ?_|refine vmV rfl ?_|refine vmW rfl ?_|refine vmL ?_|refine blockW_y (by decide) ?_|((with_reducible first|apply vmO|apply vmT|apply vmC);case a=>simp;with_reducible first|exact .v|exact .c|exact .t|exact .f))
  rw [← hhb]
  repeat(first|with_reducible first|refine vmR ?_|refine vmV rfl ?_|refine vmW rfl ?_|refine vmL ?_|refine blockW_y (by decide) ?_|((with_reducible first|apply vmO|apply vmT|apply vmC);case a=>simp [mk];with_reducible first|exact .v|exact .c|exact .t|exact .f))
  rw [← ho]
  refine W_loop (fun m s => ∃ (t : Fm AV) (h : Hp Fm) (i : Nat), s = ⟨t, 18, h, none⟩ ∧ m = 32 - i ∧ i ≤ 32 ∧ tget t 0 = .int .i64 ((n / 2 ^ i : Nat) : Int) ∧ tget t 3 = .rs o 0 1 false 32 32 ∧ tget t 4 = .int .i64 i ∧ Mp.get h.obj o = some (.row (clsE intAV (lst fun k => if k < i then bitN n k else 0))) ∧ HE hb h ∧ o < h.no) 32
    ⟨_, _, 0, rfl, rfl, by omega, by simp, by simp, by simp, by simp, by rw [ho]; exact (HE.refl hb).new _, by rw [ho]; show hb.no < hb.no + 1; omega⟩ ?_
  rintro m s ⟨t, h, i, rfl, rfl, hi, t0, t3, t4, jr, he, hoh⟩
  by_cases q : i < 32
  case neg =>
    have q' : ¬ (i : Int) < 32 := by omega
    have ei : i = 32 := by omega
    subst ei
    repeat(first|with_reducible first|refine vmR ?_|refine vmV rfl ?_|refine vmW rfl ?_|refine vmL ?_|refine blockW_y (by decide) ?_|((with_reducible first|apply vmO|apply vmT|apply vmC);case a=>simp [t0, t3, t4, q, q'];with_reducible first|exact .v|exact .c|exact .t|exact .f))
    (first | apply endW_r | apply endW_n); (case h1 => (simp [Tryz.results89]; first | done | rfl))
    have rs : RS hb.no h 1 false ((lst (bitN n)).map intAV) (.rs o 0 1 false 32 32) := by
      refine .inr ⟨o, 32, by simp, by omega, ⟨[], ?_, by simp⟩, by simp, hoh⟩
      rw [jr, flat_int, List.append_nil]
      rw [lst_congr (F := fun k => if k < 32 then bitN n k else 0) (G := bitN n) fun k hk => if_pos hk]
    obtain ⟨z1, z2⟩ := rs.frz (fun e he => by
      obtain ⟨x, _, rfl⟩ := List.mem_map.mp he
      exact encI.fit x) (by omega) (fun _ => rfl)
    refine ⟨z1, f0 _ (he.x2 z2 ?_ (fun _ z => z.elim))⟩
    rintro q ⟨_, _, _, _, _, e⟩
    injection e with e
    omega
  have q' : (i : Int) < 32 := by omega
  have ix := ixI o q
  obtain ⟨d, hd⟩ : ∃ d, d = n / 2 ^ i := ⟨_, rfl⟩
  rw [← hd] at t0
  have hdn : d ≤ n := by rw [hd]; exact Nat.div_le_self _ _
  have r2 : Int.tmod (d : Int) 2 = bitN n i := by rw [Int.tmod_eq_emod_of_nonneg (by omega), bitN, ← hd]; omega
  obtain ⟨e, he2⟩ : ∃ e, e = n / 2 ^ (i + 1) := ⟨_, rfl⟩
  have e2 : e = d / 2 := by rw [he2, Nat.pow_succ, ← Nat.div_div_eq_div_mul, ← hd]
  have q2 : IntKind.i64.wrap ((d : Int) / 2) = (e : Int) := by rw [wrap64 (by omega) (by omega)]; omega
  have st := setI (fun k => if k < i then bitN n k else 0) (bitN n i) q
  have ln := clsI_len (fun k => if k < i then bitN n k else 0)
  have w1 : IntKind.i64.wrap ((i : Int) + 1) = ((i + 1 : Nat) : Int) := by rw [wrap64 (by omega) (by omega)]; simp
  have eF : (lst fun k => if k = i then bitN n i else if k < i then bitN n k else 0) = lst (fun k => if k < i + 1 then bitN n k else 0) := by
    refine lst_congr fun k _ => ?_
    by_cases e : k = i
    · subst e; rw [if_pos rfl, if_pos (by omega)]
    · rw [if_neg e]
      by_cases e2 : k < i
      · rw [if_pos e2, if_pos (by omega)]
      · rw [if_neg e2, if_neg (by omega)]
  rw [eF] at st
  obtain ⟨row, hrow⟩ : ∃ row, row = clsE intAV (lst fun k => if k < i then bitN n k else 0) := ⟨_, rfl⟩
  obtain ⟨row2, hrow2⟩ : ∃ row, row = clsE intAV (lst fun k => if k < i + 1 then bitN n k else 0) := ⟨_, rfl⟩
  rw [← hrow] at jr st ln
  rw [← hrow2] at st
  have ln2 : i + 1 ≤ row.length := by omega
  repeat(first|with_reducible first|refine vmR ?_|refine vmV rfl ?_|refine vmW rfl ?_|refine vmL ?_|refine blockW_y (by decide) ?_|((with_reducible first|apply vmO|apply vmT|apply vmC);case a=>simp [t0, t3, t4, q, q', ix, r2, q2, jr, st, ln2, w1];with_reducible first|exact .v|exact .c|exact .t|exact .f))
  refine ⟨32 - (i + 1), by omega, _, _, i + 1, rfl, rfl, by omega, by simp [he2], by simp [t3], by simp, by simp [hrow2], he.set (by omega) _, hoh⟩
end Go.Vn

set_option maxRecDepth 20000
namespace Go.Vn
open Go.Proofs

theorem ixIv {F : Nat → Int} {v : AV} (k : SV 1 ((lst F).map intAV) v) {i : Nat} (h : i < 32) : indexAddrAV Tryz.prog 118 v (.int .i64 (i : Int)) = some (.el (.int .i64 (F i)) 0) := by
  rw [k.idx (k := .i64) (i := (i : Int)) Tryz.underlying118 z3 (by omega) (by simpa using h)]
  simp [lst, intAV]
theorem crcAll_app (l : List UInt8) (c : UInt8) : crcAll (l ++ [c]) = crcByte (crcAll l) c := by simp [crcAll]
theorem mix_step {F G : Nat → Int} (i : Nat) : (lst fun k => if k = i then F i else if k < i then F k else G k) = lst (fun k => if k < i + 1 then F k else G k) := by
  refine lst_congr fun k _ => ?_
  by_cases e : k = i
  · subst e; rw [if_pos rfl, if_pos (by omega)]
  · rw [if_neg e]
    by_cases e2 : k < i
    · rw [if_pos e2, if_pos (by omega)]
    · rw [if_neg e2, if_neg (by omega)]
def rowI (F : Nat → Int) : List AV := clsE intAV (lst F)
theorem rowI_get (F : Nat → Int) {k : Nat} (h : k < 32) : partAV false 1 (rowI F) k = some (.int .i64 (F k)) := getI F h
theorem rowI_len (F : Nat → Int) : (rowI F).length = 32 := clsI_len F
theorem rowI_mix (F G : Nat → Int) {k : Nat} (h : k < 32) : splice (rowI fun j => if j < k then F j else G j) k [.int .i64 (F k)] = rowI (fun j => if j < k + 1 then F j else G j) := by
  unfold rowI
  rw [setI _ _ h, mix_step]
theorem rowI_congr {F G : Nat → Int} (h : ∀ i, i < 32 → F i = G i) : rowI F = rowI G := by unfold rowI; rw [lst_congr h]

set_option maxHeartbeats 8000000 in
theorem sum3_ans (b : List UInt8) (v : AV) (h0 : Hp Fm) (k : SV 1 (b.map byteAV) v) (hl : b.length ≤ 16777216 * 4) :
    A Tryz.prog TT (.func 69) [v] h0 (fun r h' => r = .int .i64 (crcSum b) ∧ HE h0 h') := by
  have c1 := k.cells
  have i1 := k.isCell
  have n1 := k.nm
  have l1 := k.len Tryz.underlying22
  rw [List.length_map] at l1
  obtain ⟨hb, hhb⟩ : ∃ hb : Hp Fm, hb = { h0 with pol := (· == 3) } := ⟨_, rfl⟩
  have f0 : ∀ h' : Hp Fm, HE hb h' → HE h0 { h' with pol := h0.pol } := fun h' k => ⟨by have := k.no; rw [hhb] at this; exact this, by have := k.ng; rw [hhb] at this; exact this, rfl, by have := k.obj; rw [hhb] at this; exact this, by have := k.len; rw [hhb] at this; exact this⟩
  have pb : hb.pol 3 = true := by rw [hhb]; rfl
  have mk := mkI hb pb
  obtain ⟨o, ho⟩ : ∃ o, o = hb.no := ⟨_, rfl⟩
  obtain ⟨pp, hpp⟩ : ∃ pp : BitVec 32, pp = 0xEDB88320#32 := ⟨_, rfl⟩
  apply A_goT Tryz.func69 rfl (by rfl); (case hn => (simp [Tryz.ntmps69]; rfl))
  repeat(first|with_reducible first|refine vmR ?_|refine vmV rfl ?_|refine vmW rfl ?_|refine vmL ?_|refine blockW_y (by decide) ?_|((with_reducible first|apply vmO|apply vmT|apply vmC);case a=>simp;with_reducible first|exact .v|exact .c|exact .t|exact .f))
  rw [← hhb]
  repeat(first|with_reducible first|refine vmR ?_|refine vmV rfl ?_|refine vmW rfl ?_|refine vmL ?_|refine blockW_y (by decide) ?_|((with_reducible first|apply vmO|apply vmT|apply vmC);case a=>simp [mk];with_reducible first|exact .v|exact .c|exact .t|exact .f))
  rw [← ho]
  refine W.mono (R := fun e s => e = .exit 0 ∧ ∃ (t : Fm AV) (h : Hp Fm), s = ⟨t, 103, h, none⟩ ∧ tget t 0 = v ∧ tget t 3 = .rs o 0 1 false 32 32 ∧ Mp.get h.obj o = some (.row (rowI (bitI (BitVec.allOnes 32)))) ∧ HE hb h ∧ o < h.no) ?_ ?_
  · refine W_loop (fun m s => ∃ (t : Fm AV) (h : Hp Fm) (i : Nat), s = ⟨t, 103, h, none⟩ ∧ m = 32 - i ∧ i ≤ 32 ∧ tget t 0 = v ∧ tget t 3 = .rs o 0 1 false 32 32 ∧ tget t 4 = .int .i64 i ∧ Mp.get h.obj o = some (.row (rowI (fun k => if k < i then (1 : Int) else 0))) ∧ HE hb h ∧ o < h.no) 32
      ⟨_, _, 0, rfl, rfl, by omega, by simp, by simp, by simp, by simp [rowI], by rw [ho]; exact (HE.refl hb).new _, by rw [ho]; show hb.no < hb.no + 1; omega⟩ ?_
    rintro m s ⟨t, h, i, rfl, rfl, hi, t0, t3, t4, jr, he, hoh⟩
    by_cases q : i < 32
    case neg =>
      have q' : ¬ (i : Int) < 32 := by omega
      repeat(first|with_reducible first|refine vmR ?_|refine vmV rfl ?_|refine vmW rfl ?_|refine vmL ?_|refine blockW_y (by decide) ?_|((with_reducible first|apply vmO|apply vmT|apply vmC);case a=>simp [t0, t3, t4, q, q'];with_reducible first|exact .v|exact .c|exact .t|exact .f))
      refine ⟨rfl, _, _, rfl, by simp [t0], by simp [t3], ?_, he, hoh⟩
      rw [jr, rowI_congr fun k hk => ?_]
      rw [bitI_ones k hk, if_pos (by omega)]
    have q' : (i : Int) < 32 := by omega
    have ix := ixI o q
    have st := rowI_mix (fun _ => 1) (fun _ => 0) q
    have ln := rowI_len (fun k => if k < i then (1 : Int) else 0)
    have w1 : IntKind.i64.wrap ((i : Int) + 1) = ((i + 1 : Nat) : Int) := by rw [wrap64 (by omega) (by omega)]; simp
    obtain ⟨row, hrow⟩ : ∃ row, row = rowI (fun k => if k < i then (1 : Int) else 0) := ⟨_, rfl⟩
    obtain ⟨row2, hrow2⟩ : ∃ row, row = rowI (fun k => if k < i + 1 then (1 : Int) else 0) := ⟨_, rfl⟩
    rw [← hrow] at jr st ln
    rw [← hrow2] at st
    have ln2 : i + 1 ≤ row.length := by omega
    repeat(first|with_reducible first|refine vmR ?_|refine vmV rfl ?_|refine vmW rfl ?_|refine vmL ?_|refine blockW_y (by decide) ?_|((with_reducible first|apply vmO|apply vmT|apply vmC);case a=>simp [t0, t3, t4, q, q', ix, jr, st, ln2, w1];with_reducible first|exact .v|exact .c|exact .t|exact .f))
    exact ⟨32 - (i + 1), by omega, _, _, i + 1, rfl, rfl, by omega, by simp [t0], by simp [t3], by simp, by simp [hrow2], he.set (by omega) _, hoh⟩
  rintro _ _ ⟨rfl, t, h, rfl, t0, t3, jr, he, hoh⟩
  repeat(first|with_reducible first|refine vmR ?_|refine vmV rfl ?_|refine vmW rfl ?_|refine vmL ?_|refine blockW_y (by decide) ?_|((with_reducible first|apply vmO|apply vmT|apply vmC);case a=>simp;with_reducible first|exact .v|exact .c|exact .t|exact .f))
  refine A.mono (bits3_ans 3988292384 (by omega) h) ?_
  rintro vp h1 ⟨svp, e1⟩
  have eqp : lst (bitN 3988292384) = lst (bitI pp) := lst_congr fun i _ => by rw [hpp, ← bitN_get]; rfl
  rw [eqp] at svp
  have pc := svp.cells
  have pi := svp.isCell
  refine ⟨_, by simp; first | done | rfl, ?_⟩
  repeat(first|with_reducible first|refine vmR ?_|refine vmV rfl ?_|refine vmW rfl ?_|refine vmL ?_|refine blockW_y (by decide) ?_|((with_reducible first|apply vmO|apply vmT|apply vmC);case a=>simp [pc, pi];with_reducible first|exact .v|exact .c|exact .t|exact .f))
  refine W.mono (R := fun e s => e = .exit 2 ∧ ∃ (t : Fm AV) (h : Hp Fm), s = ⟨t, 103, h, none⟩ ∧ tget t 3 = .rs o 0 1 false 32 32 ∧ Mp.get h.obj o = some (.row (rowI (bitI (crcAll b)))) ∧ HE hb h ∧ o < h.no) ?_ ?_
  · refine W_loop (fun m s => ∃ (t : Fm AV) (h : Hp Fm) (i : Nat), s = ⟨t, 103, h, none⟩ ∧ m = b.length - i ∧ i ≤ b.length ∧ tget t 0 = v ∧ tget t 3 = .rs o 0 1 false 32 32 ∧ tget t 5 = vp ∧ tget t 6 = .int .i64 i ∧ Mp.get h.obj o = some (.row (rowI (bitI (crcAll (b.take i))))) ∧ HE hb h ∧ o < h.no) b.length
      ⟨_, _, 0, rfl, rfl, by omega, by simp [t0], by simp [t3], by simp, by simp, (e1.obj _ hoh).trans jr, he.trans e1, Nat.lt_of_lt_of_le hoh e1.no⟩ ?_
    clear t0 t3 jr he hoh e1
    rintro m s ⟨t, h, i, rfl, rfl, hi, t0, t3, t5, t6, jr, he, hoh⟩
    by_cases q : i < b.length
    case neg =>
      have q' : ¬ (i : Int) < b.length := by omega
      rw [List.take_of_length_le (by omega)] at jr
      repeat(first|with_reducible first|refine vmR ?_|refine vmV rfl ?_|refine vmW rfl ?_|refine vmL ?_|refine blockW_y (by decide) ?_|((with_reducible first|apply vmO|apply vmT|apply vmC);case a=>simp [t0, t3, t5, t6, c1, i1, n1, l1, q, q'];with_reducible first|exact .v|exact .c|exact .t|exact .f))
      exact ⟨rfl, _, _, rfl, by simp [t3], jr, he, hoh⟩
    have q' : (i : Int) < b.length := by omega
    obtain ⟨c, hc⟩ : ∃ c : UInt8, c = b[i] := ⟨_, rfl⟩
    have et : b.take (i + 1) = b.take i ++ [c] := by rw [List.take_succ_eq_append_getElem q, hc]
    have ix := k.idx (k := .i64) (i := (i : Int)) Tryz.underlying22 z5 (by omega) (by simp; omega)
    have hcl := c.toNat_lt
    obtain ⟨cn, hcn⟩ : ∃ cn : Nat, cn = c.toNat := ⟨_, rfl⟩
    replace ix : indexAddrAV Tryz.prog 22 v (.int .i64 (i : Int)) = some (.el (.int .u8 (cn : Int)) 0) := by rw [ix]; simp [hc, hcn, byteAV]
    have wc : IntKind.i64.wrap (cn : Int) = (cn : Int) := wrap64 (by omega) (by omega)
    have w1 : IntKind.i64.wrap ((i : Int) + 1) = ((i + 1 : Nat) : Int) := by rw [wrap64 (by omega) (by omega)]; simp
    obtain ⟨s, hs⟩ : ∃ s, s = crcAll (b.take i) := ⟨_, rfl⟩
    obtain ⟨cb, hcb⟩ : ∃ cb : BitVec 32, cb = BitVec.ofNat 32 cn := ⟨_, rfl⟩
    have e2 : crcAll (b.take (i + 1)) = crcBits 8 (s ^^^ cb) := by rw [et, crcAll_app, ← hs, hcb, hcn]; rfl
    rw [← hs] at jr
    repeat(first|with_reducible first|refine vmR ?_|refine vmV rfl ?_|refine vmW rfl ?_|refine vmL ?_|refine blockW_y (by decide) ?_|((with_reducible first|apply vmO|apply vmT|apply vmC);case a=>simp [t0, t3, t5, t6, c1, i1, n1, l1, q, q', ix, wc];with_reducible first|exact .v|exact .c|exact .t|exact .f))
    refine A.mono (bits3_ans cn (by omega) h) ?_
    rintro vo h2 ⟨svo, e3⟩
    have eqo : lst (bitN cn) = lst (bitI cb) := lst_congr fun i _ => by
      rw [hcb, ← bitN_get, BitVec.toNat_ofNat, Nat.mod_eq_of_lt (by omega)]
    rw [eqo] at svo
    have oc := svo.cells
    have oi := svo.isCell
    refine ⟨_, by simp; first | done | rfl, ?_⟩
    repeat(first|with_reducible first|refine vmR ?_|refine vmV rfl ?_|refine vmW rfl ?_|refine vmL ?_|refine blockW_y (by decide) ?_|((with_reducible first|apply vmO|apply vmT|apply vmC);case a=>simp [oc, oi];with_reducible first|exact .v|exact .c|exact .t|exact .f))
    refine W.mono (R := fun e s' => e = .exit 4 ∧ ∃ (t : Fm AV) (h : Hp Fm), s' = ⟨t, 103, h, none⟩ ∧ tget t 0 = v ∧ tget t 3 = .rs o 0 1 false 32 32 ∧ tget t 5 = vp ∧ tget t 6 = .int .i64 i ∧ Mp.get h.obj o = some (.row (rowI (bitI (s ^^^ cb)))) ∧ HE hb h ∧ o < h.no) ?_ ?_
    · refine W_loop (fun m s' => ∃ (t : Fm AV) (h : Hp Fm) (j : Nat), s' = ⟨t, 103, h, none⟩ ∧ m = 32 - j ∧ j ≤ 32 ∧ tget t 0 = v ∧ tget t 3 = .rs o 0 1 false 32 32 ∧ tget t 5 = vp ∧ tget t 6 = .int .i64 i ∧ tget t 7 = vo ∧ tget t 8 = .int .i64 j ∧ Mp.get h.obj o = some (.row (rowI (fun k => if k < j then bitI (s ^^^ cb) k else bitI s k))) ∧ HE hb h ∧ o < h.no) 32
        ⟨_, _, 0, rfl, rfl, by omega, by simp [t0], by simp [t3], by simp [t5], by simp [t6], by simp, by simp, by rw [e3.obj _ hoh, jr]; rfl, he.trans e3, Nat.lt_of_lt_of_le hoh e3.no⟩ ?_
      clear t0 t3 t5 t6 jr he hoh e3
      rintro m _ ⟨t, h, j, rfl, rfl, hj, t0, t3, t5, t6, t7, t8, jr, he, hoh⟩
      by_cases q : j < 32
      case neg =>
        have q' : ¬ (j : Int) < 32 := by omega
        repeat(first|with_reducible first|refine vmR ?_|refine vmV rfl ?_|refine vmW rfl ?_|refine vmL ?_|refine blockW_y (by decide) ?_|((with_reducible first|apply vmO|apply vmT|apply vmC);case a=>simp [t0, t3, t5, t6, t7, t8, q, q'];with_reducible first|exact .v|exact .c|exact .t|exact .f))
        refine ⟨rfl, _, _, rfl, by simp [t0], by simp [t3], by simp [t5], by simp [t6], ?_, he, hoh⟩
        rw [jr, rowI_congr fun k hk => ?_]
        rw [if_pos (by omega)]
      have q' : (j : Int) < 32 := by omega
      have ix := ixI o q
      have iy := ixIv svo q
      obtain ⟨a, ha⟩ : ∃ a, a = bitI s j := ⟨_, rfl⟩
      obtain ⟨d, hd⟩ : ∃ d, d = bitI cb j := ⟨_, rfl⟩
      obtain ⟨x, hx⟩ : ∃ x, x = bitI (s ^^^ cb) j := ⟨_, rfl⟩
      have a01 := bitI_01 s j
      have d01 := bitI_01 cb j
      rw [← ha] at a01
      rw [← hd] at d01 iy
      have gg : partAV false 1 (rowI (fun k => if k < j then bitI (s ^^^ cb) k else bitI s k)) j = some (.int .i64 a) := by rw [rowI_get _ q, if_neg (by omega), ha]
      have st := rowI_mix (bitI (s ^^^ cb)) (bitI s) q
      rw [← hx] at st
      have ln := rowI_len (fun k => if k < j then bitI (s ^^^ cb) k else bitI s k)
      have wa : IntKind.i64.wrap (a + d) = a + d := wrap64 (by omega) (by omega)
      have wt : Int.tmod (a + d) 2 = x := by rw [ha, hd, hx]; exact bitI_xor s cb j
      have w1 : IntKind.i64.wrap ((j : Int) + 1) = ((j + 1 : Nat) : Int) := by rw [wrap64 (by omega) (by omega)]; simp
      obtain ⟨row, hrow⟩ : ∃ row, row = rowI (fun k => if k < j then bitI (s ^^^ cb) k else bitI s k) := ⟨_, rfl⟩
      obtain ⟨row2, hrow2⟩ : ∃ row, row = rowI (fun k => if k < j + 1 then bitI (s ^^^ cb) k else bitI s k) := ⟨_, rfl⟩
      rw [← hrow] at jr st ln gg
      rw [← hrow2] at st
      have ln2 : j + 1 ≤ row.length := by omega
      repeat(first|with_reducible first|refine vmR ?_|refine vmV rfl ?_|refine vmW rfl ?_|refine vmL ?_|refine blockW_y (by decide) ?_|((with_reducible first|apply vmO|apply vmT|apply vmC);case a=>simp [t3, t7, t8, q, q'];with_reducible first|exact .v|exact .c|exact .t|exact .f))
      (with_reducible refine W_draw_id (pln := true) [0, 1, 2, 3, 4, 5, 6, 7, 8, 9, 10, 11, 12, 13] [(5, (5, [])), (9, (9, []))] (by kernel_rfl) rfl ?_)
      repeat(first|with_reducible first|refine vmR ?_|refine vmV rfl ?_|refine vmW rfl ?_|refine vmL ?_|refine blockW_y (by decide) ?_|((with_reducible first|apply vmO|apply vmT|apply vmC);case a=>simp [t3, t7, t8, oc, oi, ix, iy, jr, gg, wa, wt, st, ln2];with_reducible first|exact .v|exact .c|exact .t|exact .f))
      refine ⟨by simp [readSame, beqAV_self, t3, t7, t8, ix, iy, jr, gg]; done, _, by simp; first | done | rfl, ?_⟩
      repeat(first|with_reducible first|refine vmR ?_|refine vmV rfl ?_|refine vmW rfl ?_|refine vmL ?_|refine blockW_y (by decide) ?_|((with_reducible first|apply vmO|apply vmT|apply vmC);case a=>simp [t8, w1];with_reducible first|exact .v|exact .c|exact .t|exact .f))
      exact ⟨32 - (j + 1), by omega, _, _, j + 1, rfl, rfl, by omega, by simp [t0], by simp [t3], by simp [t5], by simp [t6], by simp [t7], by simp, by simp [hrow2], (he.drew).set (by omega) _, hoh⟩
    clear t0 t3 t5 t6 jr he hoh e3 oc oi
    rintro _ _ ⟨rfl, t, h, rfl, t0, t3, t5, t6, jr, he, hoh⟩
    repeat(first|with_reducible first|refine vmR ?_|refine vmV rfl ?_|refine vmW rfl ?_|refine vmL ?_|refine blockW_y (by decide) ?_|((with_reducible first|apply vmO|apply vmT|apply vmC);case a=>simp;with_reducible first|exact .v|exact .c|exact .t|exact .f))
    refine W_loop (fun m s' => ∃ (t : Fm AV) (h : Hp Fm) (j : Nat) (z : BitVec 32), s' = ⟨t, 103, h, none⟩ ∧ m = 8 - j ∧ j ≤ 8 ∧ crcBits (8 - j) z = crcBits 8 (s ^^^ cb) ∧ tget t 0 = v ∧ tget t 3 = .rs o 0 1 false 32 32 ∧ tget t 5 = vp ∧ tget t 6 = .int .i64 i ∧ tget t 9 = .int .i64 j ∧ Mp.get h.obj o = some (.row (rowI (bitI z))) ∧ HE hb h ∧ o < h.no) 8
      ⟨_, _, 0, s ^^^ cb, rfl, rfl, by omega, rfl, by simp [t0], by simp [t3], by simp [t5], by simp [t6], by simp, jr, he, hoh⟩ ?_
    clear t0 t3 t5 t6 jr he hoh
    rintro m _ ⟨t, h, j, z, rfl, rfl, hj, hz, t0, t3, t5, t6, t9, jr, he, hoh⟩
    by_cases qj : j < 8
    case neg =>
      have qj' : ¬ (j : Int) < 8 := by omega
      have ej : j = 8 := by omega
      subst ej
      have hz' : z = crcBits 8 (s ^^^ cb) := hz
      repeat(first|with_reducible first|refine vmR ?_|refine vmV rfl ?_|refine vmW rfl ?_|refine vmL ?_|refine blockW_y (by decide) ?_|((with_reducible first|apply vmO|apply vmT|apply vmC);case a=>simp [t0, t3, t5, t6, t9, w1];with_reducible first|exact .v|exact .c|exact .t|exact .f))
      exact ⟨b.length - (i + 1), by omega, _, h, i + 1, rfl, rfl, by omega, by simp [t0], by simp [t3], by simp [t5], by simp, by rw [jr, e2, hz'], he, hoh⟩
    have qj' : (j : Int) < 8 := by omega
    obtain ⟨ot, hot⟩ : ∃ ot, ot = bitI z 0 := ⟨_, rfl⟩
    have o01 := bitI_01 z 0
    rw [← hot] at o01
    have ix0 := ixI o (i := 0) (by omega)
    have gg0 : partAV false 1 (rowI (bitI z)) 0 = some (.int .i64 ot) := by rw [rowI_get _ (by omega), hot]
    have wj : IntKind.i64.wrap ((j : Int) + 1) = ((j + 1 : Nat) : Int) := by rw [wrap64 (by omega) (by omega)]; simp
    simp only [Int.ofNat_zero, Int.natCast_zero] at ix0
    repeat(first|with_reducible first|refine vmR ?_|refine vmV rfl ?_|refine vmW rfl ?_|refine vmL ?_|refine blockW_y (by decide) ?_|((with_reducible first|apply vmO|apply vmT|apply vmC);case a=>simp [t0, t3, t5, t6, t9, qj, qj', ix0, jr, gg0];with_reducible first|exact .v|exact .c|exact .t|exact .f))
    refine W.mono (R := fun e s' => e = .exit 8 ∧ ∃ (t : Fm AV) (h : Hp Fm), s' = ⟨t, 103, h, none⟩ ∧ tget t 0 = v ∧ tget t 3 = .rs o 0 1 false 32 32 ∧ tget t 5 = vp ∧ tget t 6 = .int .i64 i ∧ tget t 9 = .int .i64 j ∧ tget t 10 = .int .i64 ot ∧ Mp.get h.obj o = some (.row (rowI (fun k => if k < 31 then bitI (crcBit z) k else bitI z k))) ∧ HE hb h ∧ o < h.no) ?_ ?_
    · refine W_loop (fun m s' => ∃ (t : Fm AV) (h : Hp Fm) (r : Nat), s' = ⟨t, 103, h, none⟩ ∧ m = 31 - r ∧ r ≤ 31 ∧ tget t 0 = v ∧ tget t 3 = .rs o 0 1 false 32 32 ∧ tget t 5 = vp ∧ tget t 6 = .int .i64 i ∧ tget t 9 = .int .i64 j ∧ tget t 10 = .int .i64 ot ∧ tget t 11 = .int .i64 r ∧ Mp.get h.obj o = some (.row (rowI (fun k => if k < r then bitI (crcBit z) k else bitI z k))) ∧ HE hb h ∧ o < h.no) 31
        ⟨_, _, 0, rfl, rfl, by omega, by simp [t0], by simp [t3], by simp [t5], by simp [t6], by simp [t9], by simp, by simp, by rw [jr]; rfl, he, hoh⟩ ?_
      clear t0 t3 t5 t6 t9 jr he hoh
      rintro m _ ⟨t, h, r, rfl, rfl, hr, t0, t3, t5, t6, t9, t10, t11, jr, he, hoh⟩
      by_cases q : r < 31
      case neg =>
        have q' : ¬ (r : Int) < 31 := by omega
        have er : r = 31 := by omega
        subst er
        repeat(first|with_reducible first|refine vmR ?_|refine vmV rfl ?_|refine vmW rfl ?_|refine vmL ?_|refine blockW_y (by decide) ?_|((with_reducible first|apply vmO|apply vmT|apply vmC);case a=>simp [t0, t3, t5, t6, t9, t10, t11];with_reducible first|exact .v|exact .c|exact .t|exact .f))
        exact ⟨rfl, _, _, rfl, by simp [t0], by simp [t3], by simp [t5], by simp [t6], by simp [t9], by simp [t10], jr, he, hoh⟩
      have q' : (r : Int) < 31 := by omega
      obtain ⟨r1, hr1⟩ : ∃ r1, r1 = r + 1 := ⟨_, rfl⟩
      have ixa := ixI o (i := r1) (by omega)
      have ixb := ixI o (i := r) (by omega)
      have iy := ixIv svp (i := r) (by omega)
      obtain ⟨a, ha⟩ : ∃ a, a = bitI z (r + 1) := ⟨_, rfl⟩
      obtain ⟨d, hd⟩ : ∃ d, d = bitI pp r := ⟨_, rfl⟩
      obtain ⟨x, hx⟩ : ∃ x, x = bitI (crcBit z) r := ⟨_, rfl⟩
      have a01 := bitI_01 z (r + 1)
      have d01 := bitI_01 pp r
      rw [← ha] at a01
      rw [← hd] at d01 iy
      obtain ⟨od, hod⟩ : ∃ od, od = ot * d := ⟨_, rfl⟩
      have od01 : od = 0 ∨ od = 1 := by rw [hod]; rcases o01 with q | q <;> rcases d01 with w | w <;> simp [q, w]
      have gg : partAV false 1 (rowI (fun k => if k < r then bitI (crcBit z) k else bitI z k)) r1 = some (.int .i64 a) := by rw [rowI_get _ (by omega), if_neg (by omega), ha, hr1]
      have st := rowI_mix (bitI (crcBit z)) (bitI z) (k := r) (by omega)
      rw [← hx] at st
      have ln := rowI_len (fun k => if k < r then bitI (crcBit z) k else bitI z k)
      have wm : IntKind.i64.wrap (ot * d) = od := by rw [← hod]; exact wrap64 (by omega) (by omega)
      have wa : IntKind.i64.wrap (a + od) = a + od := wrap64 (by omega) (by omega)
      have wt : Int.tmod (a + od) 2 = x := by rw [ha, hod, hot, hd, hx, hpp]; exact bitI_step z r q
      have w2 : IntKind.i64.wrap ((r : Int) + 1) = (r1 : Int) := by rw [wrap64 (by omega) (by omega)]; omega
      obtain ⟨row, hrow⟩ : ∃ row, row = rowI (fun k => if k < r then bitI (crcBit z) k else bitI z k) := ⟨_, rfl⟩
      obtain ⟨row2, hrow2⟩ : ∃ row, row = rowI (fun k => if k < r + 1 then bitI (crcBit z) k else bitI z k) := ⟨_, rfl⟩
      rw [← hrow] at jr st ln gg
      rw [← hrow2] at st
      have ln2 : r + 1 ≤ row.length := by omega
      repeat(first|with_reducible first|refine vmR ?_|refine vmV rfl ?_|refine vmW rfl ?_|refine vmL ?_|refine blockW_y (by decide) ?_|((with_reducible first|apply vmO|apply vmT|apply vmC);case a=>simp [t3, t11, q, q'];with_reducible first|exact .v|exact .c|exact .t|exact .f))
      (with_reducible refine W_draw_id (pln := true) [0, 1, 2, 3, 4, 5, 6, 7, 8, 9, 10, 11, 12, 13, 14, 15, 16] [(6, (6, [])), (11, (11, []))] (by kernel_rfl) rfl ?_)
      repeat(first|with_reducible first|refine vmR ?_|refine vmV rfl ?_|refine vmW rfl ?_|refine vmL ?_|refine blockW_y (by decide) ?_|((with_reducible first|apply vmO|apply vmT|apply vmC);case a=>simp [t3, t5, t10, t11, pc, pi, ixa, ixb, iy, jr, gg, w2, wm, wa, wt, st, ln2];with_reducible first|exact .v|exact .c|exact .t|exact .f))
      refine ⟨by simp [readSame, beqAV_self, t3, t5, t10, t11, ixa, ixb, iy, jr, gg, w2]; done, _, by simp; first | done | rfl, ?_⟩
      repeat(first|with_reducible first|refine vmR ?_|refine vmV rfl ?_|refine vmW rfl ?_|refine vmL ?_|refine blockW_y (by decide) ?_|((with_reducible first|apply vmO|apply vmT|apply vmC);case a=>simp [t11, w2];with_reducible first|exact .v|exact .c|exact .t|exact .f))
      exact ⟨31 - (r + 1), by omega, _, _, r + 1, rfl, rfl, by omega, by simp [t0], by simp [t3], by simp [t5], by simp [t6], by simp [t9], by simp [t10], by simp [hr1], by simp [hrow2], (he.drew).set (by omega) _, hoh⟩
    clear t0 t3 t5 t6 t9 jr he hoh
    rintro _ _ ⟨rfl, t, h, rfl, t0, t3, t5, t6, t9, t10, jr, he, hoh⟩
    have ixo := ixI o (i := 31) (by omega)
    have iyo := ixIv svp (i := 31) (by omega)
    obtain ⟨d, hd⟩ : ∃ d, d = bitI pp 31 := ⟨_, rfl⟩
    have d01 := bitI_01 pp 31
    rw [← hd] at d01 iyo
    obtain ⟨x, hx⟩ : ∃ x, x = bitI (crcBit z) 31 := ⟨_, rfl⟩
    have x01 := bitI_01 (crcBit z) 31
    rw [← hx] at x01
    have wm : IntKind.i64.wrap (ot * d) = x := by
      have : ot * d = x := by rw [hot, hd, hx, hpp]; exact bitI_last z
      rw [this]; exact wrap64 (by omega) (by omega)
    have st := rowI_mix (bitI (crcBit z)) (bitI z) (k := 31) (by omega)
    rw [← hx] at st
    have ln := rowI_len (fun k => if k < 31 then bitI (crcBit z) k else bitI z k)
    have efin : rowI (fun k => if k < 31 + 1 then bitI (crcBit z) k else bitI z k) = rowI (bitI (crcBit z)) := rowI_congr fun k hk => if_pos hk
    rw [efin] at st
    obtain ⟨row, hrow⟩ : ∃ row, row = rowI (fun k => if k < 31 then bitI (crcBit z) k else bitI z k) := ⟨_, rfl⟩
    obtain ⟨row2, hrow2⟩ : ∃ row, row = rowI (bitI (crcBit z)) := ⟨_, rfl⟩
    rw [← hrow] at jr st ln
    rw [← hrow2] at st
    have ln2 : 31 < row.length := by omega
    have ln3 : 32 ≤ row.length := by omega
    have ln4 : 31 + 1 ≤ row.length := by omega
    replace ixo : indexAddrAV Tryz.prog 118 (.rs o 0 1 false 32 32) (.int .i64 31) = some (.ptr o 31) := ixo
    replace iyo : indexAddrAV Tryz.prog 118 vp (.int .i64 31) = some (.el (.int .i64 d) 0) := iyo
    repeat(first|with_reducible first|refine vmR ?_|refine vmV rfl ?_|refine vmW rfl ?_|refine vmL ?_|refine blockW_y (by decide) ?_|((with_reducible first|apply vmO|apply vmT|apply vmC);case a=>simp [t3, t5, t9, t10, pc, pi, ixo, iyo, jr, wm, st, ln2, ln3, ln4, wj];with_reducible first|exact .v|exact .c|exact .t|exact .f))
    refine ⟨8 - (j + 1), by omega, _, _, j + 1, crcBit z, rfl, rfl, by omega, ?_, by simp [t0], by simp [t3], by simp [t5], by simp [t6], by simp, by simp [hrow2], he.set (by omega) _, hoh⟩
    rw [← hz, show 8 - j = (8 - (j + 1)) + 1 by omega]
    rfl
  clear t0 t3 jr he hoh e1 pc pi
  rintro _ _ ⟨rfl, t, h, rfl, t3, jr, he, hoh⟩
  repeat(first|with_reducible first|refine vmR ?_|refine vmV rfl ?_|refine vmW rfl ?_|refine vmL ?_|refine blockW_y (by decide) ?_|((with_reducible first|apply vmO|apply vmT|apply vmC);case a=>simp;with_reducible first|exact .v|exact .c|exact .t|exact .f))
  refine W_loop (fun m s' => ∃ (t : Fm AV) (i : Nat), s' = ⟨t, 103, h, none⟩ ∧ m = 32 - i ∧ i ≤ 32 ∧ tget t 3 = .rs o 0 1 false 32 32 ∧ tget t 12 = .int .i64 (worth (crcAll b) i) ∧ tget t 13 = .int .i64 ((2 ^ i : Nat) : Int) ∧ tget t 14 = .int .i64 i) 32
    ⟨_, 0, rfl, rfl, by omega, by simp [t3], by simp [worth], by simp, by simp⟩ ?_
  clear t3
  rintro m _ ⟨t, i, rfl, rfl, hi, t3, t12, t13, t14⟩
  by_cases q : i < 32
  case neg =>
    have q' : ¬ (i : Int) < 32 := by omega
    have ei : i = 32 := by omega
    subst ei
    have fw : worth (crcAll b) 32 = (crcSum b : Int) := by rw [worth_all]; rfl
    rw [fw] at t12
    repeat(first|with_reducible first|refine vmR ?_|refine vmV rfl ?_|refine vmW rfl ?_|refine vmL ?_|refine blockW_y (by decide) ?_|((with_reducible first|apply vmO|apply vmT|apply vmC);case a=>simp [t3, t12, t13, t14];with_reducible first|exact .v|exact .c|exact .t|exact .f))
    (first | apply endW_r | apply endW_n); (case h1 => (simp [Tryz.results69]; first | done | rfl))
    exact ⟨by simp [frz], by simpa [frz] using f0 h he⟩
  have q' : (i : Int) < 32 := by omega
  have ix := ixI o q
  have gg := rowI_get (bitI (crcAll b)) q
  have wsucc : worth (crcAll b) (i + 1) = worth (crcAll b) i + 2 ^ i * (1 - bitI (crcAll b) i) := rfl
  have wl := worth_mod (crcAll b) i (by omega)
  obtain ⟨a, ha⟩ : ∃ a, a = bitI (crcAll b) i := ⟨_, rfl⟩
  have a01 := bitI_01 (crcAll b) i
  rw [← ha] at a01 gg wsucc
  obtain ⟨p, hp⟩ : ∃ p : Nat, p = 2 ^ i := ⟨_, rfl⟩
  have hp32 : p ≤ 2147483648 := by rw [hp]; exact Nat.le_trans (Nat.pow_le_pow_right (by omega) (show i ≤ 31 by omega)) (by decide)
  have pc : ((2 : Int) ^ i) = (p : Int) := by rw [hp]; simp
  have pp1 : (2 ^ (i + 1) : Nat) = 2 * p := by rw [Nat.pow_succ, hp]; omega
  rw [← hp] at t13
  rw [pc] at wsucc
  obtain ⟨w, hw⟩ : ∃ w, w = worth (crcAll b) i := ⟨_, rfl⟩
  have hw2 : 0 ≤ w ∧ w < 4294967296 := by
    rw [hw, wl]
    have : (~~~crcAll b).toNat % 2 ^ i < 2 ^ i := Nat.mod_lt _ (Nat.pow_pos (by omega))
    rw [← hp] at this ⊢
    omega
  rw [← hw] at t12 wsucc
  obtain ⟨c, hc⟩ : ∃ c, c = 1 - a := ⟨_, rfl⟩
  obtain ⟨d, hd⟩ : ∃ d, d = (p : Int) * c := ⟨_, rfl⟩
  have hd2 : 0 ≤ d ∧ d ≤ 2147483648 := by
    rw [hd, hc]; rcases a01 with z | z <;> rw [z] <;> simp <;> omega
  rw [← hc, ← hd] at wsucc
  have wc : IntKind.i64.wrap (1 - a) = c := by rw [← hc]; exact wrap64 (by omega) (by omega)
  have wd : IntKind.i64.wrap ((p : Int) * c) = d := by rw [← hd]; exact wrap64 (by omega) (by omega)
  have we : IntKind.i64.wrap (w + d) = w + d := wrap64 (by omega) (by omega)
  have wp : IntKind.i64.wrap (2 * (p : Int)) = ((2 * p : Nat) : Int) := by rw [wrap64 (by omega) (by omega)]; omega
  have w1 : IntKind.i64.wrap ((i : Int) + 1) = ((i + 1 : Nat) : Int) := by rw [wrap64 (by omega) (by omega)]; simp
  repeat(first|with_reducible first|refine vmR ?_|refine vmV rfl ?_|refine vmW rfl ?_|refine vmL ?_|refine blockW_y (by decide) ?_|((with_reducible first|apply vmO|apply vmT|apply vmC);case a=>simp [t3, t12, t13, t14, q, q', ix, jr, gg, wc, wd, we, wp, w1];with_reducible first|exact .v|exact .c|exact .t|exact .f))
  exact ⟨32 - (i + 1), by omega, _, i + 1, rfl, rfl, by omega, by simp [t3], by simp [wsucc], by rw [pp1]; simp, by simp⟩
end Go.Vn
