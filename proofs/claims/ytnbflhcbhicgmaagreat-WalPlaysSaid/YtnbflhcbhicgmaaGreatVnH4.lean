/- What functions of the program come to, in the value machine (a part of the proof of the claim's statement). No condition. -/
import Derived.Test.YtnbflhcbhicgmaaGreatVnH3
import Derived.Test.YtnbflhcbhicgmaaGreatVnG1
set_option linter.unusedSimpArgs false
set_option linter.unusedVariables false
set_option maxRecDepth 20000
namespace Go.Vn
open Go.Proofs

def vOdd (ep : Int) (v : Ver) : Bool := !VMay v || !decide (v.ep = ep)
def GMay (ep : Int) (vs : List Ver) : Bool := decide (1 ≤ ep) && decide (ep ≤ 10000) && !vs.any (vOdd ep)
def VSmall (v : Ver) : Prop := v.key.length ≤ 1000 ∧ v.val.length ≤ 1000

theorem wmay1_ans (v : Ver) (ep : Int) (rv : AV) (rg : Nat) (h0 : Hp Fm) (hl : v.key.length ≤ 100000) (hp : ∀ z, h0.pol z = false) (hg : Mp.get h0.obj rg = some (.row [.int .i64 ep, rv])) (hn : rg < h0.no) :
    A Tryz.prog TT (.func 55) [encV v, .ptr rg 0] h0 (fun r h' => r = .bool (vOdd ep v) ∧ HE h0 h') := by
  obtain ⟨key, br, e, sq, fr, to, val, gone⟩ := v
  have e0 := (HE.refl h0).new (.row [.str key, .int .i64 br, .int .i64 e, .int .i64 sq, .int .i64 fr, .int .i64 to, .str val, .bool gone])
  have no : rg ≠ h0.no := by omega
  apply A_go Tryz.func55 rfl (by rfl); (case hn => (simp [Tryz.ntmps55]; rfl))
  repeat(first|with_reducible first|refine vmR ?_|refine vmV rfl ?_|refine vmW rfl ?_|refine vmL ?_|refine blockW_y (by decide) ?_|((with_reducible first|apply vmO|apply vmT|apply vmC);case a=>simp;with_reducible first|exact .v|exact .c|exact .t|exact .f))
  refine A.mono (rmay_ans ⟨key, br, e, sq, fr, to, val, gone⟩ _ hl (by exact hp)) ?_
  rintro _ h1 ⟨rfl, e1⟩
  have e01 := e0.trans e1
  have g1 : Mp.get h1.obj h0.no = some (.row [.str key, .int .i64 br, .int .i64 e, .int .i64 sq, .int .i64 fr, .int .i64 to, .str val, .bool gone]) := (e1.obj _ (by show h0.no < h0.no + 1; omega)).trans (by simp)
  have g2 : Mp.get h1.obj rg = some (.row [.int .i64 ep, rv]) := (e01.obj _ hn).trans hg
  obtain ⟨m, hm⟩ : ∃ m, m = VMay ⟨key, br, e, sq, fr, to, val, gone⟩ := ⟨_, rfl⟩
  rw [← hm]
  have hv : vOdd ep ⟨key, br, e, sq, fr, to, val, gone⟩ = (!m || !decide (e = ep)) := by rw [hm]; rfl
  rw [hv]
  refine ⟨_, by simp; first | done | rfl, ?_⟩
  cases m with
  | false =>
    repeat(first|with_reducible first|refine vmR ?_|refine vmV rfl ?_|refine vmW rfl ?_|refine vmL ?_|refine blockW_y (by decide) ?_|((with_reducible first|apply vmO|apply vmT|apply vmC);case a=>simp [g1, g2];with_reducible first|exact .v|exact .c|exact .t|exact .f))
    (first | apply endW_r | apply endW_n); (case h1 => (simp [Tryz.results55]; first | done | rfl))
    exact ⟨by simp, e01⟩
  | true =>
    by_cases q : e = ep
    all_goals
      repeat(first|with_reducible first|refine vmR ?_|refine vmV rfl ?_|refine vmW rfl ?_|refine vmL ?_|refine blockW_y (by decide) ?_|((with_reducible first|apply vmO|apply vmT|apply vmC);case a=>simp [g1, g2, q];with_reducible first|exact .v|exact .c|exact .t|exact .f))
      (first | apply endW_r | apply endW_n); (case h1 => (simp [Tryz.results55]; first | done | rfl))
      exact ⟨by simp [q], e01⟩

theorem indexv_ans (vs : List Ver) (v : AV) (ep : Int) (rv : AV) (rg : Nat) (h0 : Hp Fm) (k : SV 8 (vs.map encV) v) (hl : vs.length ≤ 100000) (hs : ∀ v ∈ vs, v.key.length ≤ 100000) (hp : ∀ z, h0.pol z = false) (hg : Mp.get h0.obj rg = some (.row [.int .i64 ep, rv])) (hn : rg < h0.no) :
    A Tryz.prog TT (.func 78) [v, .fn (.func 55) [] [.ptr rg 0]] h0 (fun r h' => ∃ n : Int, r = .int .i64 n ∧ (decide (0 ≤ n)) = vs.any (vOdd ep) ∧ HE h0 h') := by
  have c1 := k.cells
  have i1 := k.isCell
  have n1 := k.nm
  have l1 := k.len Tryz.underlying33
  rw [List.length_map] at l1
  apply A_go Tryz.func78 rfl (by rfl); (case hn => (simp [Tryz.ntmps78]; rfl))
  repeat(first|with_reducible first|refine vmR ?_|refine vmV rfl ?_|refine vmW rfl ?_|refine vmL ?_|refine blockW_y (by decide) ?_|((with_reducible first|apply vmO|apply vmT|apply vmC);case a=>simp [c1, i1, n1, l1];with_reducible first|exact .v|exact .c|exact .t|exact .f))
  refine W_loop (fun m s => ∃ (t : Fm AV) (h : Hp Fm) (i : Nat), s = ⟨t, 19, h, none⟩ ∧ m = vs.length - i ∧ i ≤ vs.length ∧ (vs.drop i).any (vOdd ep) = vs.any (vOdd ep) ∧ tget t 0 = v ∧ tget t 1 = .fn (.func 55) [] [.ptr rg 0] ∧ tget t 7 = .int .i64 vs.length ∧ tget t 8 = .int .i64 i ∧ HE h0 h) vs.length
    ⟨_, _, 0, rfl, rfl, by omega, rfl, by simp, by simp, by simp, by simp, HE.refl h0⟩ ?_
  rintro m s ⟨t, h, i, rfl, rfl, hi, hany, t0, t1, t7, t8, he⟩
  by_cases q : i < vs.length
  case neg =>
    have q' : ¬ (i : Int) < vs.length := by omega
    have ed : vs.drop i = [] := List.drop_eq_nil_iff.mpr (by omega)
    rw [ed] at hany
    repeat(first|with_reducible first|refine vmR ?_|refine vmV rfl ?_|refine vmW rfl ?_|refine vmL ?_|refine blockW_y (by decide) ?_|((with_reducible first|apply vmO|apply vmT|apply vmC);case a=>simp [t0, t1, t7, t8, q, q'];with_reducible first|exact .v|exact .c|exact .t|exact .f))
    (first | apply endW_r | apply endW_n); (case h1 => (simp [Tryz.results78]; first | done | rfl))
    exact ⟨-1, rfl, by rw [← hany]; rfl, he⟩
  have q' : (i : Int) < vs.length := by omega
  obtain ⟨x, hx⟩ : ∃ x, x = vs[i] := ⟨_, rfl⟩
  have ed : vs.drop i = x :: vs.drop (i + 1) := by rw [hx]; exact List.drop_eq_getElem_cons q
  rw [ed, List.any_cons] at hany
  have ix := k.idx (k := .i64) (i := (i : Int)) Tryz.underlying33 z69 (by omega) (by simp; omega)
  have ig : (vs.map encV)[i]'(by simp; omega) = encV x := by simp [hx]
  simp only [Int.toNat_natCast, ig] at ix
  have hxs := hs x (by rw [hx]; exact List.getElem_mem q)
  have w1 : IntKind.i64.wrap ((i : Int) + 1) = ((i + 1 : Nat) : Int) := by rw [wrap64 (by omega) (by omega)]; simp
  have hph : ∀ z, h.pol z = false := fun z => by rw [he.pol]; exact hp z
  obtain ⟨key, br, e, sq, fr, to, val, gone⟩ := x
  have hb := hb55
  repeat(first|with_reducible first|refine vmR ?_|refine vmV rfl ?_|refine vmW rfl ?_|refine vmL ?_|refine blockW_y (by decide) ?_|((with_reducible first|apply vmO|apply vmT|apply vmC);case a=>simp [t0, t1, t7, t8, q, q', c1, i1, ix, hb];with_reducible first|exact .v|exact .c|exact .t|exact .f))
  refine A.mono (wmay1_ans ⟨key, br, e, sq, fr, to, val, gone⟩ ep rv rg h hxs hph ((he.obj _ hn).trans hg) (Nat.lt_of_lt_of_le hn he.no)) ?_
  rintro _ h2 ⟨rfl, e2⟩
  obtain ⟨o, ho⟩ : ∃ o, o = vOdd ep ⟨key, br, e, sq, fr, to, val, gone⟩ := ⟨_, rfl⟩
  rw [← ho] at hany ⊢
  refine ⟨_, by simp; first | done | rfl, ?_⟩
  cases o with
  | true =>
    repeat(first|with_reducible first|refine vmR ?_|refine vmV rfl ?_|refine vmW rfl ?_|refine vmL ?_|refine blockW_y (by decide) ?_|((with_reducible first|apply vmO|apply vmT|apply vmC);case a=>simp;with_reducible first|exact .v|exact .c|exact .t|exact .f))
    (first | apply endW_r | apply endW_n); (case h1 => (simp [Tryz.results78]; first | done | rfl))
    exact ⟨i, by simp [t8], by rw [← hany]; simp, he.trans e2⟩
  | false =>
    repeat(first|with_reducible first|refine vmR ?_|refine vmV rfl ?_|refine vmW rfl ?_|refine vmL ?_|refine blockW_y (by decide) ?_|((with_reducible first|apply vmO|apply vmT|apply vmC);case a=>simp [t0, t1, t7, t8, w1];with_reducible first|exact .v|exact .c|exact .t|exact .f))
    exact ⟨vs.length - (i + 1), by omega, _, h2, i + 1, rfl, rfl, by omega, by rw [← hany]; rfl, by simp [t0], by simp [t1], by simp [t7], by simp, he.trans e2⟩

theorem wmay_ans (ep : Int) (vs : List Ver) (rv : AV) (h0 : Hp Fm) (k : SV 8 (vs.map encV) rv) (hl : vs.length ≤ 100000) (hs : ∀ v ∈ vs, v.key.length ≤ 100000) (hp : ∀ z, h0.pol z = false) :
    A Tryz.prog TT (.func 32) [.agg [.int .i64 ep, rv]] h0 (fun r h' => r = .bool (GMay ep vs) ∧ HE h0 h') := by
  have c1 := k.cells
  have i1 := k.isCell
  have e0 := (HE.refl h0).new (.row [.int .i64 ep, rv])
  by_cases q1 : 1 ≤ ep
  case neg =>
    apply A_go Tryz.func32 rfl (by rfl); (case hn => (simp [Tryz.ntmps32]; rfl))
    repeat(first|with_reducible first|refine vmR ?_|refine vmV rfl ?_|refine vmW rfl ?_|refine vmL ?_|refine blockW_y (by decide) ?_|((with_reducible first|apply vmO|apply vmT|apply vmC);case a=>simp [c1, i1, q1];with_reducible first|exact .v|exact .c|exact .t|exact .f))
    (first | apply endW_r | apply endW_n); (case h1 => (simp [Tryz.results32]; first | done | rfl))
    exact ⟨by simp [GMay, q1], e0⟩
  by_cases q2 : ep ≤ 10000
  case neg =>
    apply A_go Tryz.func32 rfl (by rfl); (case hn => (simp [Tryz.ntmps32]; rfl))
    repeat(first|with_reducible first|refine vmR ?_|refine vmV rfl ?_|refine vmW rfl ?_|refine vmL ?_|refine blockW_y (by decide) ?_|((with_reducible first|apply vmO|apply vmT|apply vmC);case a=>simp [c1, i1, q1, q2];with_reducible first|exact .v|exact .c|exact .t|exact .f))
    (first | apply endW_r | apply endW_n); (case h1 => (simp [Tryz.results32]; first | done | rfl))
    exact ⟨by simp [GMay, q2], e0⟩
  apply A_go Tryz.func32 rfl (by rfl); (case hn => (simp [Tryz.ntmps32]; rfl))
  repeat(first|with_reducible first|refine vmR ?_|refine vmV rfl ?_|refine vmW rfl ?_|refine vmL ?_|refine blockW_y (by decide) ?_|((with_reducible first|apply vmO|apply vmT|apply vmC);case a=>simp [c1, i1, q1, q2];with_reducible first|exact .v|exact .c|exact .t|exact .f))
  apply A_go Tryz.func57 rfl (by rfl); (case hn => (simp [Tryz.ntmps57]; rfl))
  repeat(first|with_reducible first|refine vmR ?_|refine vmV rfl ?_|refine vmW rfl ?_|refine vmL ?_|refine blockW_y (by decide) ?_|((with_reducible first|apply vmO|apply vmT|apply vmC);case a=>simp [c1, i1];with_reducible first|exact .v|exact .c|exact .t|exact .f))
  refine A.mono (indexv_ans vs rv ep rv h0.no _ k hl hs (by exact hp) (by simp) (by show h0.no < h0.no + 1; omega)) ?_
  rintro _ h1 ⟨n, rfl, hn, e1⟩
  refine ⟨_, by simp; first | done | rfl, ?_⟩
  by_cases q : 0 ≤ n
  all_goals
    repeat(first|with_reducible first|refine vmR ?_|refine vmV rfl ?_|refine vmW rfl ?_|refine vmL ?_|refine blockW_y (by decide) ?_|((with_reducible first|apply vmO|apply vmT|apply vmC);case a=>simp [q];with_reducible first|exact .v|exact .c|exact .t|exact .f))
    (first | apply endW_r | apply endW_n); (case h1 => (simp [Tryz.results57]; first | done | rfl))
    refine ⟨_, by simp; first | done | rfl, ?_⟩
    repeat(first|with_reducible first|refine vmR ?_|refine vmV rfl ?_|refine vmW rfl ?_|refine vmL ?_|refine blockW_y (by decide) ?_|((with_reducible first|apply vmO|apply vmT|apply vmC);case a=>simp;with_reducible first|exact .v|exact .c|exact .t|exact .f))
    (first | apply endW_r | apply endW_n); (case h1 => (simp [Tryz.results32]; first | done | rfl))
    exact ⟨by unfold GMay; rw [← hn]; simp [q1, q2, q], e0.trans e1⟩
end Go.Vn

set_option maxRecDepth 20000
namespace Go.Vn
open Go.Proofs

def goneI (g : Bool) : Int := if g then 1 else 0
def encVb (v : Ver) : List UInt8 := encs [v.br, v.ep, v.sq, v.fr, v.to - v.fr, goneI v.gone] ++ encT [v.key, v.val]
def encL (vs : List Ver) : List UInt8 := encs [(vs.length : Int)] ++ vs.flatMap encVb
def encG (ep : Int) (vs : List Ver) : List UInt8 := encs [ep] ++ encL vs
def VNum (v : Ver) : Prop := (0 ≤ v.br ∧ v.br ≤ 15) ∧ (1 ≤ v.ep ∧ v.ep ≤ 10000) ∧ (1 ≤ v.sq ∧ v.sq ≤ 100000) ∧ SpMay v.fr v.to
theorem vmay_num {v : Ver} (h : VMay v = true) : VNum v := by
  unfold VMay at h
  simp only [Bool.and_eq_true, decide_eq_true_eq] at h
  exact ⟨h.1.1.1.1.1.2, h.1.1.1.1.2, h.1.1.1.2, h.1.1.2⟩
theorem encVb_len {v : Ver} (h : VNum v) (s : VSmall v) : (encVb v).length ≤ 2072 := by
  obtain ⟨h1, h2, h3, h4⟩ := h
  obtain ⟨s1, s2⟩ := s
  have a := encs_len [v.br, v.ep, v.sq, v.fr, v.to - v.fr, goneI v.gone] (by
    intro n hn
    unfold SpMay at h4
    simp only [List.mem_cons, List.not_mem_nil, or_false] at hn
    rcases hn with rfl | rfl | rfl | rfl | rfl | rfl <;> first | omega | (unfold goneI; split <;> omega))
  have b1 := enc7_len 8 v.key.length (by omega)
  have b2 := enc7_len 8 v.val.length (by omega)
  simp only [encVb, List.length_append, encT, List.flatMap_cons, List.flatMap_nil, List.length_nil, List.length_cons] at *
  omega
theorem flat_len {vs : List Ver} (h : ∀ v ∈ vs, VNum v ∧ VSmall v) : (vs.flatMap encVb).length ≤ 2072 * vs.length := by
  induction vs with
  | nil => simp
  | cons v vs ih =>
    have := ih fun x hx => h x (List.mem_cons_of_mem _ hx)
    have h2 := encVb_len (h v List.mem_cons_self).1 (h v List.mem_cons_self).2
    simp only [List.flatMap_cons, List.length_append, List.length_cons]
    omega

set_option maxHeartbeats 4000000 in
theorem rput_ans (b : List UInt8) (vb : AV) (v : Ver) (h0 : Hp Fm) (kb : SV 1 (b.map byteAV) vb) (hv : VNum v) (hs : VSmall v) (hb : b.length ≤ 16000000) (hp : ∀ z, h0.pol z = false) :
    A Tryz.prog TT (.func 79) [vb, encV v] h0 (fun r h' => AC h0 h' 1 ((b ++ encVb v).map byteAV) r ∧ HE h0 h') := by
  obtain ⟨key, br, ep, sq, fr, to, val, gone⟩ := v
  have hel := encVb_len hv hs
  have c1 := kb.cells
  have i1 := kb.isCell
  have e0 := (HE.refl h0).new (.row [.str key, .int .i64 br, .int .i64 ep, .int .i64 sq, .int .i64 fr, .int .i64 to, .str val, .bool gone])
  obtain ⟨h1, h2, h3, h4⟩ := hv
  obtain ⟨s1, s2⟩ := hs
  unfold SpMay at h4
  simp only at h1 h2 h3 h4 s1 s2
  have w1 : IntKind.i64.wrap (to - fr) = to - fr := wrap64 (by omega) (by omega)
  have hal := encs_len [br, ep, sq, fr, to - fr, goneI gone] (by
    intro n hn
    simp only [List.mem_cons, List.not_mem_nil, or_false] at hn
    rcases hn with rfl | rfl | rfl | rfl | rfl | rfl <;> first | omega | (unfold goneI; split <;> omega))
  simp only [List.length_cons, List.length_nil] at hal
  have key1 : A Tryz.prog TT (.func 61) [vb, .sl h0.ng 0 1 6 [.int .i64 br, .int .i64 ep, .int .i64 sq, .int .i64 fr, .int .i64 (to - fr), .int .i64 (goneI gone)]] { h0 with obj := Mp.set h0.obj h0.no (.row [.str key, .int .i64 br, .int .i64 ep, .int .i64 sq, .int .i64 fr, .int .i64 to, .str val, .bool gone]), no := h0.no + 1, len := Mp.set h0.len h0.ng 6, ng := h0.ng + 1 } (fun r h' => AC h0 h' 1 ((b ++ encs [br, ep, sq, fr, to - fr, goneI gone]).map byteAV) r ∧ HE h0 h' ∧ Mp.get h'.obj h0.no = some (.row [.str key, .int .i64 br, .int .i64 ep, .int .i64 sq, .int .i64 fr, .int .i64 to, .str val, .bool gone])) := by
    refine A.mono (vput_ans b [br, ep, sq, fr, to - fr, goneI gone] vb _ _ kb (.inr (.inl ⟨_, _, _, rfl⟩)) ?_ (by exact hp _) (by simp; omega)) ?_
    · intro n hn
      simp only [List.mem_cons, List.not_mem_nil, or_false] at hn
      rcases hn with rfl | rfl | rfl | rfl | rfl | rfl <;> first | omega | (unfold goneI; split <;> omega)
    · rintro u h' ⟨a1, e1⟩
      have e01 := (e0.newSl 6).trans e1
      exact ⟨a1.weak (by show h0.ng ≤ h0.ng + 1; omega), e01, (e1.obj _ (by show h0.no < h0.no + 1; omega)).trans (by simp)⟩
  have rest : ∀ (u : AV) (h' : Hp Fm), AC h0 h' 1 ((b ++ encs [br, ep, sq, fr, to - fr, goneI gone]).map byteAV) u → HE h0 h' → A Tryz.prog TT (.func 91) [u, .sl h'.ng 0 1 2 [.str key, .str val]] { h' with len := Mp.set h'.len h'.ng 2, ng := h'.ng + 1 } (fun r h'' => AC h0 h'' 1 ((b ++ encVb ⟨key, br, ep, sq, fr, to, val, gone⟩).map byteAV) r ∧ HE h0 h'') := by
    intro u h' a1 e1
    have b1 := enc7_len 8 key.length (by omega)
    have b2 := enc7_len 8 val.length (by omega)
    refine A.mono (vtext_ans (b ++ encs [br, ep, sq, fr, to - fr, goneI gone]) [key, val] u _ _ a1.sv (.inr (.inl ⟨_, _, _, rfl⟩)) ?_ (by intro z; show h'.pol z = false; rw [e1.pol]; exact hp z) (by simp) ?_) ?_
    · intro s hs
      simp only [List.mem_cons, List.not_mem_nil, or_false] at hs
      rcases hs with rfl | rfl <;> omega
    · simp only [List.length_append, encT, List.flatMap_cons, List.flatMap_nil, List.length_nil]
      omega
    · rintro r h'' ⟨a2, e2⟩
      have e12 := (HE.refl h').newSl 2
      exact ⟨by simpa [encVb] using a2.weak (Nat.le_trans e1.ng e12.ng), e1.trans (e12.trans e2)⟩
  cases gone with
  | false =>
    apply A_go Tryz.func79 rfl (by rfl); (case hn => (simp [Tryz.ntmps79]; rfl))
    repeat(first|with_reducible first|refine vmR ?_|refine vmV rfl ?_|refine vmW rfl ?_|refine vmL ?_|refine blockW_y (by decide) ?_|((with_reducible first|apply vmO|apply vmT|apply vmC);case a=>simp [c1, i1, w1, newSeq, newSl, hp];with_reducible first|exact .v|exact .c|exact .t|exact .f))
    refine A.mono key1 ?_
    rintro u h' ⟨a1, e1, g1⟩
    have uc := a1.sv.cells
    have ui := a1.sv.isCell
    have p1 : ∀ z, h'.pol z = false := fun z => by rw [e1.pol]; exact hp z
    refine ⟨_, by simp; first | done | rfl, ?_⟩
    repeat(first|with_reducible first|refine vmR ?_|refine vmV rfl ?_|refine vmW rfl ?_|refine vmL ?_|refine blockW_y (by decide) ?_|((with_reducible first|apply vmO|apply vmT|apply vmC);case a=>simp [uc, ui, g1, newSeq, newSl, p1];with_reducible first|exact .v|exact .c|exact .t|exact .f))
    refine A.mono (rest u h' a1 e1) ?_
    rintro r h'' ⟨a2, e2⟩
    have rc := a2.sv.cells
    have ri := a2.sv.isCell
    refine ⟨_, by simp; first | done | rfl, ?_⟩
    repeat(first|with_reducible first|refine vmR ?_|refine vmV rfl ?_|refine vmW rfl ?_|refine vmL ?_|refine blockW_y (by decide) ?_|((with_reducible first|apply vmO|apply vmT|apply vmC);case a=>simp [rc, ri];with_reducible first|exact .v|exact .c|exact .t|exact .f))
    (first | apply endW_r | apply endW_n); (case h1 => (simp [Tryz.results79]; first | done | rfl))
    exact ⟨a2, e2⟩
  | true =>
    apply A_go Tryz.func79 rfl (by rfl); (case hn => (simp [Tryz.ntmps79]; rfl))
    repeat(first|with_reducible first|refine vmR ?_|refine vmV rfl ?_|refine vmW rfl ?_|refine vmL ?_|refine blockW_y (by decide) ?_|((with_reducible first|apply vmO|apply vmT|apply vmC);case a=>simp [c1, i1, w1, newSeq, newSl, hp];with_reducible first|exact .v|exact .c|exact .t|exact .f))
    refine A.mono key1 ?_
    rintro u h' ⟨a1, e1, g1⟩
    have uc := a1.sv.cells
    have ui := a1.sv.isCell
    have p1 : ∀ z, h'.pol z = false := fun z => by rw [e1.pol]; exact hp z
    refine ⟨_, by simp; first | done | rfl, ?_⟩
    repeat(first|with_reducible first|refine vmR ?_|refine vmV rfl ?_|refine vmW rfl ?_|refine vmL ?_|refine blockW_y (by decide) ?_|((with_reducible first|apply vmO|apply vmT|apply vmC);case a=>simp [uc, ui, g1, newSeq, newSl, p1];with_reducible first|exact .v|exact .c|exact .t|exact .f))
    refine A.mono (rest u h' a1 e1) ?_
    rintro r h'' ⟨a2, e2⟩
    have rc := a2.sv.cells
    have ri := a2.sv.isCell
    refine ⟨_, by simp; first | done | rfl, ?_⟩
    repeat(first|with_reducible first|refine vmR ?_|refine vmV rfl ?_|refine vmW rfl ?_|refine vmL ?_|refine blockW_y (by decide) ?_|((with_reducible first|apply vmO|apply vmT|apply vmC);case a=>simp [rc, ri];with_reducible first|exact .v|exact .c|exact .t|exact .f))
    (first | apply endW_r | apply endW_n); (case h1 => (simp [Tryz.results79]; first | done | rfl))
    exact ⟨a2, e2⟩

set_option maxHeartbeats 4000000 in
theorem rlist_ans (vs : List Ver) (v : AV) (h0 : Hp Fm) (k : SV 8 (vs.map encV) v) (hl : vs.length ≤ 2000000) (fl : (vs.flatMap encVb).length ≤ 15000000) (hm : ∀ v ∈ vs, VMay v = true) (hs : ∀ v ∈ vs, VSmall v) (hp : ∀ z, h0.pol z = false) :
    A Tryz.prog TT (.func 60) [v] h0 (fun r h' => ∃ u, r = .tup [u, .int .i64 0] ∧ SV 1 ((encL vs).map byteAV) u ∧ HE h0 h') := by
  have c1 := k.cells
  have i1 := k.isCell
  have n1 := k.nm
  have l1 := k.len Tryz.underlying33
  rw [List.length_map] at l1
  have el := enc7_len 8 vs.length (by omega)
  apply A_go Tryz.func60 rfl (by rfl); (case hn => (simp [Tryz.ntmps60]; rfl))
  repeat(first|with_reducible first|refine vmR ?_|refine vmV rfl ?_|refine vmW rfl ?_|refine vmL ?_|refine blockW_y (by decide) ?_|((with_reducible first|apply vmO|apply vmT|apply vmC);case a=>simp [c1, i1, n1, l1, newSeq, newSl, hp];with_reducible first|exact .v|exact .c|exact .t|exact .f))
  refine A.mono (vput_ans [] [(vs.length : Int)] .nils _ _ (.inl ⟨rfl, rfl⟩) (.inr (.inl ⟨_, _, _, rfl⟩)) (by simp; omega) (by exact hp _) (by simp)) ?_
  rintro u1 h1 ⟨a1, e1⟩
  have e2 := ((HE.refl h0).newSl 1).trans e1
  have a1' : AC h0 h1 1 ((encs [(vs.length : Int)]).map byteAV) u1 := by simpa using a1.weak (by show h0.ng ≤ h0.ng + 1; omega)
  have uc := a1'.sv.cells
  have ui := a1'.sv.isCell
  refine ⟨_, by simp; first | done | rfl, ?_⟩
  repeat(first|with_reducible first|refine vmR ?_|refine vmV rfl ?_|refine vmW rfl ?_|refine vmL ?_|refine blockW_y (by decide) ?_|((with_reducible first|apply vmO|apply vmT|apply vmC);case a=>simp [c1, i1, n1, l1, uc, ui];with_reducible first|exact .v|exact .c|exact .t|exact .f))
  refine W_loop (fun m s => ∃ (t : Fm AV) (h : Hp Fm) (done rest : List Ver) (u : AV), s = ⟨t, 25, h, none⟩ ∧ m = rest.length ∧ vs = done ++ rest ∧ tget t 11 = v ∧ tget t 12 = .int .i64 vs.length ∧ tget t 13 = .int .i64 done.length ∧ tget t 4 = u ∧ AC h0 h 1 ((encs [(vs.length : Int)] ++ done.flatMap encVb).map byteAV) u ∧ HE h0 h) vs.length
    ⟨_, _, [], vs, u1, rfl, rfl, rfl, by simp, by simp, by simp, by simp, by simpa using a1', e2⟩ ?_
  clear uc ui
  rintro m s ⟨t, h, done, rest, u, rfl, rfl, hdr, t11, t12, t13, t4, hu, he⟩
  have uc := hu.sv.cells
  have ui := hu.sv.isCell
  have hlen : vs.length = done.length + rest.length := by rw [hdr]; simp
  obtain ⟨i, hi⟩ : ∃ i, i = done.length := ⟨_, rfl⟩
  rw [← hi] at t13 hlen
  cases rest with
  | nil =>
    have q : ¬ ((i : Int) < vs.length) := by simp at hlen; omega
    have q' : ¬ (i < vs.length) := by omega
    repeat(first|with_reducible first|refine vmR ?_|refine vmV rfl ?_|refine vmW rfl ?_|refine vmL ?_|refine blockW_y (by decide) ?_|((with_reducible first|apply vmO|apply vmT|apply vmC);case a=>simp [t11, t12, t13, t4, q, q', uc, ui];with_reducible first|exact .v|exact .c|exact .t|exact .f))
    (first | apply endW_r | apply endW_n); (case h1 => (simp [Tryz.results60]; first | done | rfl))
    have : done = vs := by rw [hdr]; simp
    rw [this] at hu
    exact ⟨u, by simp, hu.sv, he⟩
  | cons x rest =>
    have q : ((i : Int) < vs.length) := by simp at hlen; omega
    have q' : (i < vs.length) := by omega
    have ix := k.idx (k := .i64) (i := (i : Int)) Tryz.underlying33 z69 (by omega) (by simp; omega)
    have ig : (vs.map encV)[i]'(by simp; omega) = encV x := by simp [hdr, hi]
    simp only [Int.toNat_natCast, ig] at ix
    have hmx := hm x (by rw [hdr]; simp)
    have hsx := hs x (by rw [hdr]; simp)
    have hph : ∀ z, h.pol z = false := fun z => by rw [he.pol]; exact hp z
    have w1 : IntKind.i64.wrap ((i : Int) + 1) = ((i + 1 : Nat) : Int) := by rw [wrap64 (by omega) (by omega)]; simp
    have fd : (done.flatMap encVb).length ≤ (vs.flatMap encVb).length := by rw [hdr, List.flatMap_append, List.length_append]; omega
    have hn := vmay_num hmx
    obtain ⟨key, br, ep, sq, fr, to, val, gone⟩ := x
    obtain ⟨hb, hhb⟩ : ∃ hb : Hp Fm, hb = { h with obj := Mp.set (Mp.set h.obj h.no (.row [.str [], .int .i64 0, .int .i64 0, .int .i64 0, .int .i64 0, .int .i64 0, .str [], .bool false])) h.no (.row [.str key, .int .i64 br, .int .i64 ep, .int .i64 sq, .int .i64 fr, .int .i64 to, .str val, .bool gone]), no := h.no + 1 } := ⟨_, rfl⟩
    have eb : HE h hb := by rw [hhb]; exact ((HE.refl h).new _).set (Nat.le_refl _) _
    have gb : Mp.get hb.obj h.no = some (.row [.str key, .int .i64 br, .int .i64 ep, .int .i64 sq, .int .i64 fr, .int .i64 to, .str val, .bool gone]) := by rw [hhb]; simp
    have nb : h.no < hb.no := by rw [hhb]; show h.no < h.no + 1; omega
    have pb : ∀ z, hb.pol z = false := fun z => by rw [eb.pol]; exact hph z
    repeat(first|with_reducible first|refine vmR ?_|refine vmV rfl ?_|refine vmW rfl ?_|refine vmL ?_|refine blockW_y (by decide) ?_|((with_reducible first|apply vmO|apply vmT|apply vmC);case a=>simp [t11, t12, t13, t4, q, q', c1, i1, ix, uc, ui];with_reducible first|exact .v|exact .c|exact .t|exact .f))
    rw [← hhb]
    refine A.mono (rmay_ans ⟨key, br, ep, sq, fr, to, val, gone⟩ _ (by have := hsx.1; simp only at this ⊢; omega) pb) ?_
    rintro _ h2 ⟨rfl, e3⟩
    rw [hmx]
    have g2 : Mp.get h2.obj h.no = some (.row [.str key, .int .i64 br, .int .i64 ep, .int .i64 sq, .int .i64 fr, .int .i64 to, .str val, .bool gone]) := (e3.obj _ nb).trans gb
    have e02 := he.trans (eb.trans e3)
    have hu2 := hu.of (eb.trans e3)
    refine ⟨_, by simp; first | done | rfl, ?_⟩
    repeat(first|with_reducible first|refine vmR ?_|refine vmV rfl ?_|refine vmW rfl ?_|refine vmL ?_|refine blockW_y (by decide) ?_|((with_reducible first|apply vmO|apply vmT|apply vmC);case a=>simp [t4, uc, ui, g2];with_reducible first|exact .v|exact .c|exact .t|exact .f))
    refine A.mono (rput_ans (encs [(vs.length : Int)] ++ done.flatMap encVb) u ⟨key, br, ep, sq, fr, to, val, gone⟩ h2 hu2.sv hn hsx ?_ (fun z => by rw [e02.pol]; exact hp z)) ?_
    · simp only [List.length_append, encs, List.flatMap_cons, List.flatMap_nil, List.length_nil, Int.toNat_natCast]; omega
    rintro r h3 ⟨a3, e4⟩
    have rc := a3.sv.cells
    have ri := a3.sv.isCell
    refine ⟨_, by simp; first | done | rfl, ?_⟩
    repeat(first|with_reducible first|refine vmR ?_|refine vmV rfl ?_|refine vmW rfl ?_|refine vmL ?_|refine blockW_y (by decide) ?_|((with_reducible first|apply vmO|apply vmT|apply vmC);case a=>simp [t11, t12, t13, rc, ri, w1];with_reducible first|exact .v|exact .c|exact .t|exact .f))
    refine ⟨rest.length, by simp, _, h3, done ++ [⟨key, br, ep, sq, fr, to, val, gone⟩], rest, r, rfl, rfl, by rw [hdr]; simp, by simp [t11], by simp [t12], by simp [hi], by simp, ?_, e02.trans e4⟩
    have a4 := a3.weak e02.ng
    simpa using a4

set_option maxHeartbeats 2000000 in
theorem wwrite_big (ep : Int) (vs : List Ver) (rv : AV) (h0 : Hp Fm) (k : SV 8 (vs.map encV) rv) (hl : vs.length ≤ 2000000) (fl : (vs.flatMap encVb).length ≤ 15000000) (hep : 0 ≤ ep ∧ ep ≤ 10000) (hm : ∀ v ∈ vs, VMay v = true) (hs : ∀ v ∈ vs, VSmall v) (hp : ∀ z, h0.pol z = false) :
    A Tryz.prog TT (.func 35) [.agg [.int .i64 ep, rv]] h0 (fun r h' => SV 1 ((encG ep vs).map byteAV) r ∧ HE h0 h') := by
  have c1 := k.cells
  have i1 := k.isCell
  have e0 := (HE.refl h0).new (.row [.int .i64 ep, rv])
  have el := enc7_len 8 vs.length (by omega)
  have ee := encs_len [ep] (by simp; omega)
  apply A_go Tryz.func35 rfl (by rfl); (case hn => (simp [Tryz.ntmps35]; rfl))
  repeat(first|with_reducible first|refine vmR ?_|refine vmV rfl ?_|refine vmW rfl ?_|refine vmL ?_|refine blockW_y (by decide) ?_|((with_reducible first|apply vmO|apply vmT|apply vmC);case a=>simp [c1, i1];with_reducible first|exact .v|exact .c|exact .t|exact .f))
  refine A.mono (rlist_ans vs rv _ k hl fl hm hs (by exact hp)) ?_
  rintro _ h1 ⟨u, rfl, su, e1⟩
  have uc := su.cells
  have ui := su.isCell
  have e01 := e0.trans e1
  have g1 : Mp.get h1.obj h0.no = some (.row [.int .i64 ep, rv]) := by rw [e1.obj _ (by show h0.no < h0.no + 1; omega)]; simp
  have p1 : ∀ z, h1.pol z = false := fun z => by rw [e01.pol]; exact hp z
  refine ⟨_, by simp; first | done | rfl, ?_⟩
  repeat(first|with_reducible first|refine vmR ?_|refine vmV rfl ?_|refine vmW rfl ?_|refine vmL ?_|refine blockW_y (by decide) ?_|((with_reducible first|apply vmO|apply vmT|apply vmC);case a=>simp [uc, ui, g1, newSeq, newSl, p1];with_reducible first|exact .v|exact .c|exact .t|exact .f))
  have e2 := (HE.refl h1).newSl 1
  refine A.mono (vput_ans [] [ep] .nils _ _ (.inl ⟨rfl, rfl⟩) (.inr (.inl ⟨_, _, _, rfl⟩)) (by simp; omega) (by exact p1 _) (by simp)) ?_
  rintro y h2 ⟨a2, e3⟩
  have e12 := e2.trans e3
  have yc := a2.sv.cells
  have yi := a2.sv.isCell
  have p2 : ∀ z, h2.pol z = false := fun z => by rw [e12.pol]; exact p1 z
  refine ⟨_, by simp; first | done | rfl, ?_⟩
  repeat(first|with_reducible first|refine vmR ?_|refine vmV rfl ?_|refine vmW rfl ?_|refine vmL ?_|refine blockW_y (by decide) ?_|((with_reducible first|apply vmO|apply vmT|apply vmC);case a=>simp [uc, ui, yc, yi];with_reducible first|exact .v|exact .c|exact .t|exact .f))
  with_reducible apply WO_app_i; (case hw => (simp [uc, ui, yc, yi]; done)); (case ho => rfl); (case hb => rfl); (case ha => (simp [uc, ui, yc, yi]; first | done | exact ⟨rfl, rfl⟩ | rfl)); (case h1 => (simp; first | done | rfl)); (case h2 => (simp; first | done | rfl))
  refine app_then (AC.appN (h0 := h1) (h := h2) (new := (encL vs).map byteAV) etB (a2.weak e2.ng) e12 (p1 _) su.newEls ?_) ?_
  · simp only [List.length_map, List.nil_append, encL, List.length_append, encs, List.flatMap_cons, List.flatMap_nil, List.length_nil, Int.toNat_natCast] at ee ⊢
    simp only [List.length_cons, List.length_nil] at ee
    omega
  rintro x4 h4 ⟨ac4, he4, _, _, _⟩
  have e4 := ac4.sv.cells
  have f4 := ac4.sv.isCell
  refine ⟨_, by simp; first | done | rfl, ?_⟩
  repeat(first|with_reducible first|refine vmR ?_|refine vmV rfl ?_|refine vmW rfl ?_|refine vmL ?_|refine blockW_y (by decide) ?_|((with_reducible first|apply vmO|apply vmT|apply vmC);case a=>simp [e4, f4];with_reducible first|exact .v|exact .c|exact .t|exact .f))
  (first | apply endW_r | apply endW_n); (case h1 => (simp [Tryz.results35]; first | done | rfl))
  exact ⟨by simpa [encG] using ac4.sv, e01.trans he4⟩
theorem wwrite_ans (ep : Int) (vs : List Ver) (rv : AV) (h0 : Hp Fm) (k : SV 8 (vs.map encV) rv) (hl : vs.length ≤ 300) (hep : 0 ≤ ep ∧ ep ≤ 10000) (hm : ∀ v ∈ vs, VMay v = true) (hs : ∀ v ∈ vs, VSmall v) (hp : ∀ z, h0.pol z = false) :
    A Tryz.prog TT (.func 35) [.agg [.int .i64 ep, rv]] h0 (fun r h' => SV 1 ((encG ep vs).map byteAV) r ∧ HE h0 h') :=
  wwrite_big ep vs rv h0 k (by omega) (by have := flat_len (vs := vs) fun v hv => ⟨vmay_num (hm v hv), hs v hv⟩; omega) hep hm hs hp
end Go.Vn

set_option maxRecDepth 20000
namespace Go.Vn
open Go.Proofs

def lst (F : Nat → Int) : List Int := (List.range 32).map F
@[simp] theorem lst_len (F : Nat → Int) : (lst F).length = 32 := by simp [lst]
def bitN (n : Nat) (i : Nat) : Int := ((n / 2 ^ i % 2 : Nat) : Int)
end Go.Vn

set_option maxRecDepth 20000
namespace Go.Vn
open Go.Proofs

def rowI (F : Nat → Int) : List AV := clsE intAV (lst F)
end Go.Vn
