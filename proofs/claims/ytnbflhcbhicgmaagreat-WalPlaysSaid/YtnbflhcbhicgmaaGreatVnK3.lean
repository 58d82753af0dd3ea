/- What functions of the program come to, in the value machine (a part of the proof of the claim's statement). No condition. -/
import Derived.Test.YtnbflhcbhicgmaaGreatVnK2
import Derived.Test.YtnbflhcbhicgmaaGreatVnG4
set_option linter.unusedSimpArgs false
set_option linter.unusedVariables false
set_option maxRecDepth 20000
namespace Go.Vn
open Go.Proofs
theorem GUp_lens : ∀ {last : Int} {gs : List (Int × List Ver)}, GUp last gs → ∀ g ∈ gs, g.2.length < 4611686018427387904
  | _, [], _, _, h => by cases h
  | _, a :: gs, h, g, hg => by
    rcases List.mem_cons.mp hg with e | e
    · rw [e]; exact h.2.2.2.1
    · exact GUp_lens h.2.2.2.2 g e

theorem tryW {c : Tx} {s b k : Nat} {q : Int} {R2 : List (Int × List Ver)} (hg : grP 0 (framesP c) = (R2, (fileB R2).length)) (ht : c.take (fileB R2).length = fileB R2) (hl : (fileB R2).length ≤ c.length) :
    ∃ P : Int × Dk, P = (if (grP 0 (framesP c)).2 < c.length then freshD logN (c.take (grP 0 (framesP c)).2) (oneW c s b k q (-1) false) else (oneW c s b k q (-1) false).sync logN) ∧
      ((∃ k2, P = (0, oneW (fileB R2) (fileB R2).length b k2 q (-1) false)) ∨ (q - (c.length : Int) < (fileB R2).length ∧ P = (6, oneW c s b (k + 1) q (-1) false))) := by
  refine ⟨_, rfl, ?_⟩
  rw [hg]
  simp only
  by_cases q1 : (fileB R2).length < c.length
  · rw [if_pos q1, ht, freshW]
    by_cases q2 : q - (c.length : Int) < (fileB R2).length
    · rw [if_pos q2]; exact .inr ⟨q2, rfl⟩
    · rw [if_neg q2]; exact .inl ⟨_, rfl⟩
  · rw [if_neg q1, syncWW]
    have e : c = fileB R2 := by rw [← ht, List.take_of_length_le (by omega)]
    refine .inl ⟨k, ?_⟩
    rw [e]

theorem WI.fresh {n : Nat} {R2 : List (Int × List Ver)} {b k2 : Nat} {q : Int} (hu : GUp 0 R2) (h1 : (fileB R2).length ≤ 1600 * n) (h2 : R2.length ≤ n) (hq : 0 ≤ q ∧ q ≤ 100000) : WI n R2 R2 (lastE 0 R2) false false (oneW (fileB R2) (fileB R2).length b k2 q (-1) false) :=
  ⟨hu, rfl, h1, h2, _, _, b, k2, q, -1, by omega, hq, .inl ⟨rfl, rfl, rfl, rfl, rfl⟩⟩

set_option maxHeartbeats 8000000 in
theorem woopen_ans (keep : List Int) (hk64 : ∀ x ∈ keep, -9223372036854775808 ≤ x ∧ x ≤ 9223372036854775807) (hkl : keep.length ≤ 9223372036854775807) (vk : AV) (kv : SV 1 (keep.map (AV.int .i64)) vk) (wp p m q n : Nat) (R O : List (Int × List Ver)) (last : Int) (ld dead : Bool) (D : Dk) (h0 : Hp Fm) (k : Wo h0 wp p m q n R O last ld dead D) (hn : n ≤ 25) (hp : ∀ z, h0.pol z = false) :
    A Tryz.prog TT (.func 8) [.ptr wp 0, vk] h0 (fun r h' => r = .bool true ∧ (∃ q' R' last' D', h0.no ≤ q' ∧ Wo h' wp p m q' (n + 1) R' R' last' false false D') ∧ HX (fun o => o = p ∨ o = m ∨ o = wp) (fun _ => False) h0 h') := by
  obtain ⟨gv, ov, ws, rw0, gsv, gf, hov, oc, oi⟩ := k.row
  have gc := gsv.cells
  have gi := gsv.isCell
  have kc := kv.cells
  have ki := kv.isCell
  have wn := k.wn
  have ne := k.ne
  have pn := k.dk.pn
  have mn := k.dk.mn
  have qn := k.lg.qn
  obtain ⟨hdn, hld⟩ := k.wi.down
  have wf := k.wi.wf (by omega)
  obtain ⟨c, s, b, kk, qt, R2, hD2, hs, hqt, hcl, hu2, hn2, hfl, hR2, hgr, htk⟩ := k.wi.open keep
  have hone : D.fs.length = 1 ∧ D.fs.map (·.1) = [logN] := by
    obtain ⟨c, s, b, k, q, left, _, _, ⟨_, _, _, _, rfl⟩ | ⟨_, _, g, _, _, _, _, _, _, rfl⟩⟩ := k.wi.dk <;> exact ⟨rfl, rfl⟩
  -- the disk behind Up
  have UP : ∀ h, HX (fun o => o = wp) (fun _ => False) h0 h → A Tryz.prog TT (.func 15) [.ptr p 0, vk] h (fun _ h' => DKs h' p m (oneW c s b kk qt (-1) false) ∧ DX p m h h') := fun h hx => by
    have d : DKs h p m D := by
      obtain ⟨es, a1, a2⟩ := k.dk.map
      exact ⟨(hx.obj p pn (fun z => ne.1 z.symm)).trans k.dk.row, ⟨es, (hx.obj m mn (fun z => ne.2.1 z.symm)).trans a1, a2⟩, Nat.lt_of_lt_of_le pn hx.no, Nat.lt_of_lt_of_le mn hx.no, k.dk.born⟩
    refine A.mono (up_ans keep hk64 hkl vk kv p m D wf.ok hone.1 h d) ?_
    rintro r h' ⟨u1, u2, u3⟩
    refine ⟨?_, u3⟩
    cases hb : D.down with
    | false =>
      rw [hb] at hD2
      simp only [Bool.false_eq_true, if_false] at hD2
      rw [← hD2]
      have uu := u1 hb
      rw [hb] at uu
      exact uu
    | true =>
      rw [hb] at hD2
      simp only [if_true] at hD2
      obtain ⟨l, l1, _, l2⟩ := u2 hb
      rw [hone.2] at l1
      have el : l = [logN] := List.perm_singleton.mp l1
      rw [← hD2, ← el]; exact l2
  have oK : dead = true → (∀ g ∈ O, g.2.length ≤ 9000000000000000000) ∧ O.length ≤ 9000000000000000000 := fun z => by
    have hnum := k.wi.num
    obtain ⟨c, s, b, k, q, left, _, _, ⟨_, e, _⟩ | ⟨_, _, g, hu, e, _⟩⟩ := k.wi.dk
    · rw [e] at z; cases z
    · rw [e]; exact ⟨fun g hg => by have := GUp_lens hu g hg; omega, by simp; omega⟩
  apply A_go Tryz.func8 rfl (by rfl); (case hn => (simp [Tryz.ntmps8]; rfl))
  cases dead with
  | false =>
    repeat(first|with_reducible first|refine vmR ?_|refine vmV rfl ?_|refine vmW rfl ?_|refine vmL ?_|refine blockW_y (by decide) ?_|((with_reducible first|apply vmO|apply vmT|apply vmC);case a=>simp [rw0];with_reducible first|exact .v|exact .c|exact .t|exact .f))
    refine A.mono (alive_ans p m D h0 k.dk) ?_
    rintro _ h0b ⟨rfl, eb⟩
    rw [eb]
    clear eb h0b
    refine ⟨_, by simp; first | done | rfl, ?_⟩
    repeat(first|with_reducible first|refine vmR ?_|refine vmV rfl ?_|refine vmW rfl ?_|refine vmL ?_|refine blockW_y (by decide) ?_|((with_reducible first|apply vmO|apply vmT|apply vmC);case a=>simp [hdn, rw0];with_reducible first|exact .v|exact .c|exact .t|exact .f))
    obtain ⟨hA, hhA⟩ : ∃ hA : Hp Fm, hA = { h0 with obj := Mp.set h0.obj wp (.row [.ptr p 0, .ptr q 0, gv, ov, .bool false]) } := ⟨_, rfl⟩
    rw [← hhA]
    have xA : HX (fun o => o = wp) (fun _ => False) h0 hA := by rw [hhA]; exact (HX.refl (fun o => o = wp) (fun _ => False) h0).set (fun _ => rfl) _
    have rA : Mp.get hA.obj wp = some (.row [.ptr p 0, .ptr q 0, gv, ov, .bool false]) := by rw [hhA]; simp
    have wnA : wp < hA.no := by rw [hhA]; exact wn
    repeat(first|with_reducible first|refine vmR ?_|refine vmV rfl ?_|refine vmW rfl ?_|refine vmL ?_|refine blockW_y (by decide) ?_|((with_reducible first|apply vmO|apply vmT|apply vmC);case a=>simp [rA, kc, ki];with_reducible first|exact .v|exact .c|exact .t|exact .f))
    refine A.mono (UP hA xA) ?_
    rintro rr h1 ⟨d1, x1⟩
    have r1 := (x1.obj wp wnA (fun z => by rcases z with z | z <;> omega)).trans rA
    have x01 : HX (fun o => o = p ∨ o = m ∨ o = wp) (fun _ => False) h0 h1 := (xA.mono (fun _ _ z => .inr (.inr z)) (fun _ _ z => z)).trans (x1.mono (fun _ _ z => z.elim .inl (fun y => .inr (.inl y))) (fun _ _ z => z))
    have hp1 : ∀ z, h1.pol z = false := fun z => by rw [x01.pol]; exact hp z
    refine ⟨_, by simp; first | done | rfl, ?_⟩
    repeat(first|with_reducible first|refine vmR ?_|refine vmV rfl ?_|refine vmW rfl ?_|refine vmL ?_|refine blockW_y (by decide) ?_|((with_reducible first|apply vmO|apply vmT|apply vmC);case a=>simp;with_reducible first|exact .v|exact .c|exact .t|exact .f))
    refine W_loop_i ?_
    repeat(first|with_reducible first|refine vmR ?_|refine vmV rfl ?_|refine vmW rfl ?_|refine vmL ?_|refine blockW_y (by decide) ?_|((with_reducible first|apply vmO|apply vmT|apply vmC);case a=>simp [r1];with_reducible first|exact .v|exact .c|exact .t|exact .f))
    obtain ⟨P, hP, hPc⟩ := tryW (q := qt) (s := s) (b := b) (k := kk) hgr htk hfl
    refine A.mono (wopen_ans logN c (by decide) p m _ (wf_oneW hs (by omega) (by omega) (by omega)) h1 d1 hp1 (readWW c s b kk qt (-1) (by omega)) (by omega) P hP) ?_
    rintro rv h2 ⟨dH, x2, hres⟩
    have xH : HX (fun o => o = p ∨ o = m ∨ o = wp) (fun _ => False) h0 h2 := x01.trans (x2.mono (fun _ _ z => z.elim .inl (fun y => .inr (.inl y))) (fun _ _ z => z))
    have rH := (x2.obj wp (Nat.lt_of_lt_of_le wn x01.no) (fun z => by rcases z with z | z <;> omega)).trans r1
    rcases hPc with ⟨k2, rfl⟩ | ⟨hnr, rfl⟩
    · rcases hres with ⟨_, q2, gv2, ws2, rfl, lg2, hq2, sv2, gf2⟩ | ⟨c0, _⟩
      · rw [hgr] at lg2 gf2
        simp only at lg2 gf2 dH
        have c2 := sv2.cells
        have i2 := sv2.isCell
        have wnH : wp < h2.no := Nat.lt_of_lt_of_le wn xH.no
        obtain ⟨hL, hhL⟩ : ∃ hL : Hp Fm, hL = { h2 with obj := Mp.set h2.obj wp (.row [.ptr p 0, .ptr q2 0, gv, ov, .bool false]) } := ⟨_, rfl⟩
        have xL : HX (fun o => o = p ∨ o = m ∨ o = wp) (fun _ => False) h2 hL := by rw [hhL]; exact (HX.refl (fun o => o = p ∨ o = m ∨ o = wp) (fun _ => False) h2).set (fun _ => .inr (.inr rfl)) _
        have rL : Mp.get hL.obj wp = some (.row [.ptr p 0, .ptr q2 0, gv, ov, .bool false]) := by rw [hhL]; simp
        have nL : hL.no = h2.no := by rw [hhL]
        refine ⟨_, by simp; first | done | rfl, ?_⟩
        repeat(first|with_reducible first|refine vmR ?_|refine vmV rfl ?_|refine vmW rfl ?_|refine vmL ?_|refine blockW_y (by decide) ?_|((with_reducible first|apply vmO|apply vmT|apply vmC);case a=>simp [eqlAV, c2, i2, rH];with_reducible first|exact .v|exact .c|exact .t|exact .f))
        rw [← hhL]
        repeat(first|with_reducible first|refine vmR ?_|refine vmV rfl ?_|refine vmW rfl ?_|refine vmL ?_|refine blockW_y (by decide) ?_|((with_reducible first|apply vmO|apply vmT|apply vmC);case a=>simp [rL, c2, i2, gc, gi];with_reducible first|exact .v|exact .c|exact .t|exact .f))
        refine A.mono (same15_ans R2 R ws2 ws gv2 gv hL sv2 gsv gf2 gf (by omega) (by have := k.wi.num; omega) (fun g hg => by have := GUp_lens hu2 g hg; omega) (fun g hg => by have := GUp_lens k.wi.up g hg; omega)) ?_
        rintro _ hM ⟨rfl, eM⟩
        have rM := (eM.obj _ (by omega)).trans rL
        have wnM : wp < hM.no := by have := eM.no; omega
        have fin : ∀ hZ : Hp Fm, HX (fun o => o = p ∨ o = m ∨ o = wp) (fun _ => False) hM hZ → (∀ o, o < hM.no → o ≠ wp → Mp.get hZ.obj o = Mp.get hM.obj o) → Mp.get hZ.obj wp = some (.row [.ptr p 0, .ptr q2 0, gv2, gv2, .bool false]) → (∃ q' R' last' D', h0.no ≤ q' ∧ Wo hZ wp p m q' (n + 1) R' R' last' false false D') ∧ HX (fun o => o = p ∨ o = m ∨ o = wp) (fun _ => False) h0 hZ := fun hZ xZ oZ rZ => by
          have xHM := xL.trans (eM.x _ _)
          have hq0 : h0.no ≤ q2 := Nat.le_trans x01.no hq2
          have q2n := lg2.qn
          obtain ⟨es, a1, a2⟩ := dH.map
          have pH := dH.pn
          have mH := dH.mn
          have oM : ∀ o, o < h2.no → o ≠ wp → Mp.get hM.obj o = Mp.get h2.obj o := fun o ho hw => by
            rw [eM.obj o (by omega), hhL]; simp [hw]
          have dZ : DKs hZ p m (oneW (fileB R2) (fileB R2).length b k2 qt (-1) false) :=
            ⟨(oZ p (by have := eM.no; omega) (fun z => ne.1 z.symm)).trans ((oM p pH (fun z => ne.1 z.symm)).trans dH.row), ⟨es, (oZ m (by have := eM.no; omega) (fun z => ne.2.1 z.symm)).trans ((oM m mH (fun z => ne.2.1 z.symm)).trans a1), a2⟩, by have := xZ.no; have := eM.no; omega, by have := xZ.no; have := eM.no; omega, dH.born⟩
          have lZ : LGs hZ q2 p logN (lastE 0 R2) false := ⟨(oZ q2 (by have := eM.no; omega) (by omega)).trans ((oM q2 q2n (by omega)).trans lg2.row), by have := xZ.no; have := eM.no; omega⟩
          exact ⟨⟨q2, R2, _, _, hq0, ⟨⟨gv2, gv2, ws2, rZ, sv2, gf2, (fun z => by cases z), c2, i2⟩, dZ, lZ, by have := xZ.no; omega, ⟨ne.1, ne.2.1, by omega, by omega, by omega⟩, WI.fresh hu2 (by omega) hn2 (by omega)⟩⟩, (xH.trans xHM).trans xZ⟩
        refine ⟨_, by simp; first | done | rfl, ?_⟩
        have hRR : R2 = R := hR2.elim id (fun z => by cases z.1)
        have hd1 : decide (R2 = R) = true := by simp [hRR]
        repeat(first|with_reducible first|refine vmR ?_|refine vmV rfl ?_|refine vmW rfl ?_|refine vmL ?_|refine blockW_y (by decide) ?_|((with_reducible first|apply vmO|apply vmT|apply vmC);case a=>simp [rM, hd1, c2, i2];with_reducible first|exact .v|exact .c|exact .t|exact .f))
        (first | apply endW_r | apply endW_n); (case h1 => (simp [Tryz.results8]; first | done | rfl))
        refine ⟨by simp, fin _ ?_ (fun o _ ho => by simp [ho]) (by simp)⟩
        exact (((HX.refl (fun o => o = p ∨ o = m ∨ o = wp) (fun _ => False) hM).set (fun _ => .inr (.inr rfl)) _).set (fun _ => .inr (.inr rfl)) _).set (fun _ => .inr (.inr rfl)) _
      · exact (c0 rfl).elim
    rcases hres with ⟨c0, _⟩ | ⟨_, rfl⟩
    · cases c0
    refine ⟨_, by simp; first | done | rfl, ?_⟩
    repeat(first|with_reducible first|refine vmR ?_|refine vmV rfl ?_|refine vmW rfl ?_|refine vmL ?_|refine blockW_y (by decide) ?_|((with_reducible first|apply vmO|apply vmT|apply vmC);case a=>simp [eqlAV, rH];with_reducible first|exact .v|exact .c|exact .t|exact .f))
    refine A.mono (quota_ans 100000 p m _ h2 dH) ?_
    rintro _ h3 ⟨rfl, d3, x3⟩
    have eq3 : (if (oneW c s b (kk + 1) qt (-1) false).down ∨ (100000 : Int) < 0 ∨ (16777216 : Int) < 100000 then oneW c s b (kk + 1) qt (-1) false else { oneW c s b (kk + 1) qt (-1) false with quota := 100000 }) = oneW c s b (kk + 1) 100000 (-1) false := by simp [oneW]
    simp only at d3
    rw [eq3] at d3
    have x03 : HX (fun o => o = p ∨ o = m ∨ o = wp) (fun _ => False) h0 h3 := xH.trans (x3.mono (fun _ _ z => z.elim .inl (fun y => .inr (.inl y))) (fun _ _ z => z))
    have r3 := (x3.obj wp (Nat.lt_of_lt_of_le wn xH.no) (fun z => by rcases z with z | z <;> omega)).trans rH
    have hp3 : ∀ z, h3.pol z = false := fun z => by rw [x03.pol]; exact hp z
    clear hP rH dH xH
    refine ⟨_, by simp; first | done | rfl, ?_⟩
    repeat(first|with_reducible first|refine vmR ?_|refine vmV rfl ?_|refine vmW rfl ?_|refine vmL ?_|refine blockW_y (by decide) ?_|((with_reducible first|apply vmO|apply vmT|apply vmC);case a=>simp;with_reducible first|exact .v|exact .c|exact .t|exact .f))
    refine W_loop_i ?_
    repeat(first|with_reducible first|refine vmR ?_|refine vmV rfl ?_|refine vmW rfl ?_|refine vmL ?_|refine blockW_y (by decide) ?_|((with_reducible first|apply vmO|apply vmT|apply vmC);case a=>simp [r3];with_reducible first|exact .v|exact .c|exact .t|exact .f))
    obtain ⟨P, hP, hPc⟩ := tryW (q := 100000) (s := s) (b := b) (k := kk + 1) hgr htk hfl
    refine A.mono (wopen_ans logN c (by decide) p m _ (wf_oneW hs (by omega) (by omega) (by omega)) h3 d3 hp3 (readWW c s b (kk + 1) 100000 (-1) (by omega)) (by omega) P hP) ?_
    rintro rv h4 ⟨dH, x4, hres⟩
    have xH : HX (fun o => o = p ∨ o = m ∨ o = wp) (fun _ => False) h0 h4 := x03.trans (x4.mono (fun _ _ z => z.elim .inl (fun y => .inr (.inl y))) (fun _ _ z => z))
    have rH := (x4.obj wp (Nat.lt_of_lt_of_le wn x03.no) (fun z => by rcases z with z | z <;> omega)).trans r3
    rcases hPc with ⟨k2, rfl⟩ | ⟨hnr2, rfl⟩
    · rcases hres with ⟨_, q2, gv2, ws2, rfl, lg2, hq2, sv2, gf2⟩ | ⟨c0, _⟩
      · rw [hgr] at lg2 gf2
        simp only at lg2 gf2 dH
        have c2 := sv2.cells
        have i2 := sv2.isCell
        have wnH : wp < h4.no := Nat.lt_of_lt_of_le wn xH.no
        obtain ⟨hL, hhL⟩ : ∃ hL : Hp Fm, hL = { h4 with obj := Mp.set h4.obj wp (.row [.ptr p 0, .ptr q2 0, gv, ov, .bool false]) } := ⟨_, rfl⟩
        have xL : HX (fun o => o = p ∨ o = m ∨ o = wp) (fun _ => False) h4 hL := by rw [hhL]; exact (HX.refl (fun o => o = p ∨ o = m ∨ o = wp) (fun _ => False) h4).set (fun _ => .inr (.inr rfl)) _
        have rL : Mp.get hL.obj wp = some (.row [.ptr p 0, .ptr q2 0, gv, ov, .bool false]) := by rw [hhL]; simp
        have nL : hL.no = h4.no := by rw [hhL]
        refine ⟨_, by simp; first | done | rfl, ?_⟩
        repeat(first|with_reducible first|refine vmR ?_|refine vmV rfl ?_|refine vmW rfl ?_|refine vmL ?_|refine blockW_y (by decide) ?_|((with_reducible first|apply vmO|apply vmT|apply vmC);case a=>simp [eqlAV, c2, i2, rH];with_reducible first|exact .v|exact .c|exact .t|exact .f))
        rw [← hhL]
        repeat(first|with_reducible first|refine vmR ?_|refine vmV rfl ?_|refine vmW rfl ?_|refine vmL ?_|refine blockW_y (by decide) ?_|((with_reducible first|apply vmO|apply vmT|apply vmC);case a=>simp [rL, c2, i2, gc, gi];with_reducible first|exact .v|exact .c|exact .t|exact .f))
        refine A.mono (same15_ans R2 R ws2 ws gv2 gv hL sv2 gsv gf2 gf (by omega) (by have := k.wi.num; omega) (fun g hg => by have := GUp_lens hu2 g hg; omega) (fun g hg => by have := GUp_lens k.wi.up g hg; omega)) ?_
        rintro _ hM ⟨rfl, eM⟩
        have rM := (eM.obj _ (by omega)).trans rL
        have wnM : wp < hM.no := by have := eM.no; omega
        have fin : ∀ hZ : Hp Fm, HX (fun o => o = p ∨ o = m ∨ o = wp) (fun _ => False) hM hZ → (∀ o, o < hM.no → o ≠ wp → Mp.get hZ.obj o = Mp.get hM.obj o) → Mp.get hZ.obj wp = some (.row [.ptr p 0, .ptr q2 0, gv2, gv2, .bool false]) → (∃ q' R' last' D', h0.no ≤ q' ∧ Wo hZ wp p m q' (n + 1) R' R' last' false false D') ∧ HX (fun o => o = p ∨ o = m ∨ o = wp) (fun _ => False) h0 hZ := fun hZ xZ oZ rZ => by
          have xHM := xL.trans (eM.x _ _)
          have hq0 : h0.no ≤ q2 := Nat.le_trans x03.no hq2
          have q2n := lg2.qn
          obtain ⟨es, a1, a2⟩ := dH.map
          have pH := dH.pn
          have mH := dH.mn
          have oM : ∀ o, o < h4.no → o ≠ wp → Mp.get hM.obj o = Mp.get h4.obj o := fun o ho hw => by
            rw [eM.obj o (by omega), hhL]; simp [hw]
          have dZ : DKs hZ p m (oneW (fileB R2) (fileB R2).length b k2 100000 (-1) false) :=
            ⟨(oZ p (by have := eM.no; omega) (fun z => ne.1 z.symm)).trans ((oM p pH (fun z => ne.1 z.symm)).trans dH.row), ⟨es, (oZ m (by have := eM.no; omega) (fun z => ne.2.1 z.symm)).trans ((oM m mH (fun z => ne.2.1 z.symm)).trans a1), a2⟩, by have := xZ.no; have := eM.no; omega, by have := xZ.no; have := eM.no; omega, dH.born⟩
          have lZ : LGs hZ q2 p logN (lastE 0 R2) false := ⟨(oZ q2 (by have := eM.no; omega) (by omega)).trans ((oM q2 q2n (by omega)).trans lg2.row), by have := xZ.no; have := eM.no; omega⟩
          exact ⟨⟨q2, R2, _, _, hq0, ⟨⟨gv2, gv2, ws2, rZ, sv2, gf2, (fun z => by cases z), c2, i2⟩, dZ, lZ, by have := xZ.no; omega, ⟨ne.1, ne.2.1, by omega, by omega, by omega⟩, WI.fresh hu2 (by omega) hn2 (by omega)⟩⟩, (xH.trans xHM).trans xZ⟩
        refine ⟨_, by simp; first | done | rfl, ?_⟩
        have hRR : R2 = R := hR2.elim id (fun z => by cases z.1)
        have hd1 : decide (R2 = R) = true := by simp [hRR]
        repeat(first|with_reducible first|refine vmR ?_|refine vmV rfl ?_|refine vmW rfl ?_|refine vmL ?_|refine blockW_y (by decide) ?_|((with_reducible first|apply vmO|apply vmT|apply vmC);case a=>simp [rM, hd1, c2, i2];with_reducible first|exact .v|exact .c|exact .t|exact .f))
        (first | apply endW_r | apply endW_n); (case h1 => (simp [Tryz.results8]; first | done | rfl))
        refine ⟨by simp, fin _ ?_ (fun o _ ho => by simp [ho]) (by simp)⟩
        exact (((HX.refl (fun o => o = p ∨ o = m ∨ o = wp) (fun _ => False) hM).set (fun _ => .inr (.inr rfl)) _).set (fun _ => .inr (.inr rfl)) _).set (fun _ => .inr (.inr rfl)) _
      · exact (c0 rfl).elim
    · omega
  | true =>
    repeat(first|with_reducible first|refine vmR ?_|refine vmV rfl ?_|refine vmW rfl ?_|refine vmL ?_|refine blockW_y (by decide) ?_|((with_reducible first|apply vmO|apply vmT|apply vmC);case a=>simp [rw0];with_reducible first|exact .v|exact .c|exact .t|exact .f))
    obtain ⟨hA, hhA⟩ : ∃ hA : Hp Fm, hA = { h0 with obj := Mp.set h0.obj wp (.row [.ptr p 0, .ptr q 0, gv, ov, .bool true]) } := ⟨_, rfl⟩
    rw [← hhA]
    have xA : HX (fun o => o = wp) (fun _ => False) h0 hA := by rw [hhA]; exact (HX.refl (fun o => o = wp) (fun _ => False) h0).set (fun _ => rfl) _
    have rA : Mp.get hA.obj wp = some (.row [.ptr p 0, .ptr q 0, gv, ov, .bool true]) := by rw [hhA]; simp
    have wnA : wp < hA.no := by rw [hhA]; exact wn
    repeat(first|with_reducible first|refine vmR ?_|refine vmV rfl ?_|refine vmW rfl ?_|refine vmL ?_|refine blockW_y (by decide) ?_|((with_reducible first|apply vmO|apply vmT|apply vmC);case a=>simp [rA, kc, ki];with_reducible first|exact .v|exact .c|exact .t|exact .f))
    refine A.mono (UP hA xA) ?_
    rintro rr h1 ⟨d1, x1⟩
    have r1 := (x1.obj wp wnA (fun z => by rcases z with z | z <;> omega)).trans rA
    have x01 : HX (fun o => o = p ∨ o = m ∨ o = wp) (fun _ => False) h0 h1 := (xA.mono (fun _ _ z => .inr (.inr z)) (fun _ _ z => z)).trans (x1.mono (fun _ _ z => z.elim .inl (fun y => .inr (.inl y))) (fun _ _ z => z))
    have hp1 : ∀ z, h1.pol z = false := fun z => by rw [x01.pol]; exact hp z
    refine ⟨_, by simp; first | done | rfl, ?_⟩
    repeat(first|with_reducible first|refine vmR ?_|refine vmV rfl ?_|refine vmW rfl ?_|refine vmL ?_|refine blockW_y (by decide) ?_|((with_reducible first|apply vmO|apply vmT|apply vmC);case a=>simp;with_reducible first|exact .v|exact .c|exact .t|exact .f))
    refine W_loop_i ?_
    repeat(first|with_reducible first|refine vmR ?_|refine vmV rfl ?_|refine vmW rfl ?_|refine vmL ?_|refine blockW_y (by decide) ?_|((with_reducible first|apply vmO|apply vmT|apply vmC);case a=>simp [r1];with_reducible first|exact .v|exact .c|exact .t|exact .f))
    obtain ⟨P, hP, hPc⟩ := tryW (q := qt) (s := s) (b := b) (k := kk) hgr htk hfl
    refine A.mono (wopen_ans logN c (by decide) p m _ (wf_oneW hs (by omega) (by omega) (by omega)) h1 d1 hp1 (readWW c s b kk qt (-1) (by omega)) (by omega) P hP) ?_
    rintro rv h2 ⟨dH, x2, hres⟩
    have xH : HX (fun o => o = p ∨ o = m ∨ o = wp) (fun _ => False) h0 h2 := x01.trans (x2.mono (fun _ _ z => z.elim .inl (fun y => .inr (.inl y))) (fun _ _ z => z))
    have rH := (x2.obj wp (Nat.lt_of_lt_of_le wn x01.no) (fun z => by rcases z with z | z <;> omega)).trans r1
    rcases hPc with ⟨k2, rfl⟩ | ⟨hnr, rfl⟩
    · rcases hres with ⟨_, q2, gv2, ws2, rfl, lg2, hq2, sv2, gf2⟩ | ⟨c0, _⟩
      · rw [hgr] at lg2 gf2
        simp only at lg2 gf2 dH
        have c2 := sv2.cells
        have i2 := sv2.isCell
        have wnH : wp < h2.no := Nat.lt_of_lt_of_le wn xH.no
        obtain ⟨hL, hhL⟩ : ∃ hL : Hp Fm, hL = { h2 with obj := Mp.set h2.obj wp (.row [.ptr p 0, .ptr q2 0, gv, ov, .bool true]) } := ⟨_, rfl⟩
        have xL : HX (fun o => o = p ∨ o = m ∨ o = wp) (fun _ => False) h2 hL := by rw [hhL]; exact (HX.refl (fun o => o = p ∨ o = m ∨ o = wp) (fun _ => False) h2).set (fun _ => .inr (.inr rfl)) _
        have rL : Mp.get hL.obj wp = some (.row [.ptr p 0, .ptr q2 0, gv, ov, .bool true]) := by rw [hhL]; simp
        have nL : hL.no = h2.no := by rw [hhL]
        refine ⟨_, by simp; first | done | rfl, ?_⟩
        repeat(first|with_reducible first|refine vmR ?_|refine vmV rfl ?_|refine vmW rfl ?_|refine vmL ?_|refine blockW_y (by decide) ?_|((with_reducible first|apply vmO|apply vmT|apply vmC);case a=>simp [eqlAV, c2, i2, rH];with_reducible first|exact .v|exact .c|exact .t|exact .f))
        rw [← hhL]
        repeat(first|with_reducible first|refine vmR ?_|refine vmV rfl ?_|refine vmW rfl ?_|refine vmL ?_|refine blockW_y (by decide) ?_|((with_reducible first|apply vmO|apply vmT|apply vmC);case a=>simp [rL, c2, i2, gc, gi];with_reducible first|exact .v|exact .c|exact .t|exact .f))
        refine A.mono (same15_ans R2 R ws2 ws gv2 gv hL sv2 gsv gf2 gf (by omega) (by have := k.wi.num; omega) (fun g hg => by have := GUp_lens hu2 g hg; omega) (fun g hg => by have := GUp_lens k.wi.up g hg; omega)) ?_
        rintro _ hM ⟨rfl, eM⟩
        have rM := (eM.obj _ (by omega)).trans rL
        have wnM : wp < hM.no := by have := eM.no; omega
        have fin : ∀ hZ : Hp Fm, HX (fun o => o = p ∨ o = m ∨ o = wp) (fun _ => False) hM hZ → (∀ o, o < hM.no → o ≠ wp → Mp.get hZ.obj o = Mp.get hM.obj o) → Mp.get hZ.obj wp = some (.row [.ptr p 0, .ptr q2 0, gv2, gv2, .bool false]) → (∃ q' R' last' D', h0.no ≤ q' ∧ Wo hZ wp p m q' (n + 1) R' R' last' false false D') ∧ HX (fun o => o = p ∨ o = m ∨ o = wp) (fun _ => False) h0 hZ := fun hZ xZ oZ rZ => by
          have xHM := xL.trans (eM.x _ _)
          have hq0 : h0.no ≤ q2 := Nat.le_trans x01.no hq2
          have q2n := lg2.qn
          obtain ⟨es, a1, a2⟩ := dH.map
          have pH := dH.pn
          have mH := dH.mn
          have oM : ∀ o, o < h2.no → o ≠ wp → Mp.get hM.obj o = Mp.get h2.obj o := fun o ho hw => by
            rw [eM.obj o (by omega), hhL]; simp [hw]
          have dZ : DKs hZ p m (oneW (fileB R2) (fileB R2).length b k2 qt (-1) false) :=
            ⟨(oZ p (by have := eM.no; omega) (fun z => ne.1 z.symm)).trans ((oM p pH (fun z => ne.1 z.symm)).trans dH.row), ⟨es, (oZ m (by have := eM.no; omega) (fun z => ne.2.1 z.symm)).trans ((oM m mH (fun z => ne.2.1 z.symm)).trans a1), a2⟩, by have := xZ.no; have := eM.no; omega, by have := xZ.no; have := eM.no; omega, dH.born⟩
          have lZ : LGs hZ q2 p logN (lastE 0 R2) false := ⟨(oZ q2 (by have := eM.no; omega) (by omega)).trans ((oM q2 q2n (by omega)).trans lg2.row), by have := xZ.no; have := eM.no; omega⟩
          exact ⟨⟨q2, R2, _, _, hq0, ⟨⟨gv2, gv2, ws2, rZ, sv2, gf2, (fun z => by cases z), c2, i2⟩, dZ, lZ, by have := xZ.no; omega, ⟨ne.1, ne.2.1, by omega, by omega, by omega⟩, WI.fresh hu2 (by omega) hn2 (by omega)⟩⟩, (xH.trans xHM).trans xZ⟩
        refine ⟨_, by simp; first | done | rfl, ?_⟩
        obtain ⟨os, sos, gos⟩ := hov rfl
        have hO : (∀ g ∈ O, g.2.length ≤ 9000000000000000000) ∧ O.length ≤ 9000000000000000000 := oK rfl
        repeat(first|with_reducible first|refine vmR ?_|refine vmV rfl ?_|refine vmW rfl ?_|refine vmL ?_|refine blockW_y (by decide) ?_|((with_reducible first|apply vmO|apply vmT|apply vmC);case a=>simp [rM, c2, i2, oc, oi];with_reducible first|exact .v|exact .c|exact .t|exact .f))
        refine A.mono (same15_ans R2 O ws2 os gv2 ov hM sv2 sos gf2 gos (by omega) hO.2 (fun g hg => by have := GUp_lens hu2 g hg; omega) hO.1) ?_
        rintro _ hN ⟨rfl, eN⟩
        have rN := (eN.obj _ wnM).trans rM
        refine ⟨_, by simp; first | done | rfl, ?_⟩
        have h12 : decide (R2 = R) = true ∨ (decide (R2 = R) = false ∧ decide (R2 = O) = true) := by
          by_cases z : R2 = R
          · exact .inl (by simp [z])
          · exact .inr ⟨by simp [z], by simp [hR2.resolve_left z]⟩
        obtain ⟨o1, ho1⟩ : ∃ o1, o1 = decide (R2 = R) := ⟨_, rfl⟩
        obtain ⟨o2, ho2⟩ : ∃ o2, o2 = decide (R2 = O) := ⟨_, rfl⟩
        rw [← ho1, ← ho2] at h12 ⊢
        have fin2 : ∀ hZ : Hp Fm, HX (fun o => o = p ∨ o = m ∨ o = wp) (fun _ => False) hN hZ → (∀ o, o ≠ wp → Mp.get hZ.obj o = Mp.get hN.obj o) → Mp.get hZ.obj wp = some (.row [.ptr p 0, .ptr q2 0, gv2, gv2, .bool false]) → (∃ q' R' last' D', h0.no ≤ q' ∧ Wo hZ wp p m q' (n + 1) R' R' last' false false D') ∧ HX (fun o => o = p ∨ o = m ∨ o = wp) (fun _ => False) h0 hZ := fun hZ xZ oZ rZ => fin hZ ((eN.x _ _).trans xZ) (fun o ho hw => (oZ o hw).trans (eN.obj o ho)) rZ
        rcases h12 with rfl | ⟨rfl, rfl⟩
        · repeat(first|with_reducible first|refine vmR ?_|refine vmV rfl ?_|refine vmW rfl ?_|refine vmL ?_|refine blockW_y (by decide) ?_|((with_reducible first|apply vmO|apply vmT|apply vmC);case a=>simp [rN, c2, i2];with_reducible first|exact .v|exact .c|exact .t|exact .f))
          (first | apply endW_r | apply endW_n); (case h1 => (simp [Tryz.results8]; first | done | rfl))
          refine ⟨by simp, fin2 _ ?_ (fun o ho => by simp [ho]) (by simp)⟩
          exact (((HX.refl (fun o => o = p ∨ o = m ∨ o = wp) (fun _ => False) hN).set (fun _ => .inr (.inr rfl)) _).set (fun _ => .inr (.inr rfl)) _).set (fun _ => .inr (.inr rfl)) _
        · repeat(first|with_reducible first|refine vmR ?_|refine vmV rfl ?_|refine vmW rfl ?_|refine vmL ?_|refine blockW_y (by decide) ?_|((with_reducible first|apply vmO|apply vmT|apply vmC);case a=>simp [rN, c2, i2];with_reducible first|exact .v|exact .c|exact .t|exact .f))
          (first | apply endW_r | apply endW_n); (case h1 => (simp [Tryz.results8]; first | done | rfl))
          refine ⟨by simp, fin2 _ ?_ (fun o ho => by simp [ho]) (by simp)⟩
          exact (((HX.refl (fun o => o = p ∨ o = m ∨ o = wp) (fun _ => False) hN).set (fun _ => .inr (.inr rfl)) _).set (fun _ => .inr (.inr rfl)) _).set (fun _ => .inr (.inr rfl)) _
      · exact (c0 rfl).elim
    rcases hres with ⟨c0, _⟩ | ⟨_, rfl⟩
    · cases c0
    refine ⟨_, by simp; first | done | rfl, ?_⟩
    repeat(first|with_reducible first|refine vmR ?_|refine vmV rfl ?_|refine vmW rfl ?_|refine vmL ?_|refine blockW_y (by decide) ?_|((with_reducible first|apply vmO|apply vmT|apply vmC);case a=>simp [eqlAV, rH];with_reducible first|exact .v|exact .c|exact .t|exact .f))
    refine A.mono (quota_ans 100000 p m _ h2 dH) ?_
    rintro _ h3 ⟨rfl, d3, x3⟩
    have eq3 : (if (oneW c s b (kk + 1) qt (-1) false).down ∨ (100000 : Int) < 0 ∨ (16777216 : Int) < 100000 then oneW c s b (kk + 1) qt (-1) false else { oneW c s b (kk + 1) qt (-1) false with quota := 100000 }) = oneW c s b (kk + 1) 100000 (-1) false := by simp [oneW]
    simp only at d3
    rw [eq3] at d3
    have x03 : HX (fun o => o = p ∨ o = m ∨ o = wp) (fun _ => False) h0 h3 := xH.trans (x3.mono (fun _ _ z => z.elim .inl (fun y => .inr (.inl y))) (fun _ _ z => z))
    have r3 := (x3.obj wp (Nat.lt_of_lt_of_le wn xH.no) (fun z => by rcases z with z | z <;> omega)).trans rH
    have hp3 : ∀ z, h3.pol z = false := fun z => by rw [x03.pol]; exact hp z
    clear hP rH dH xH
    refine ⟨_, by simp; first | done | rfl, ?_⟩
    repeat(first|with_reducible first|refine vmR ?_|refine vmV rfl ?_|refine vmW rfl ?_|refine vmL ?_|refine blockW_y (by decide) ?_|((with_reducible first|apply vmO|apply vmT|apply vmC);case a=>simp;with_reducible first|exact .v|exact .c|exact .t|exact .f))
    refine W_loop_i ?_
    repeat(first|with_reducible first|refine vmR ?_|refine vmV rfl ?_|refine vmW rfl ?_|refine vmL ?_|refine blockW_y (by decide) ?_|((with_reducible first|apply vmO|apply vmT|apply vmC);case a=>simp [r3];with_reducible first|exact .v|exact .c|exact .t|exact .f))
    obtain ⟨P, hP, hPc⟩ := tryW (q := 100000) (s := s) (b := b) (k := kk + 1) hgr htk hfl
    refine A.mono (wopen_ans logN c (by decide) p m _ (wf_oneW hs (by omega) (by omega) (by omega)) h3 d3 hp3 (readWW c s b (kk + 1) 100000 (-1) (by omega)) (by omega) P hP) ?_
    rintro rv h4 ⟨dH, x4, hres⟩
    have xH : HX (fun o => o = p ∨ o = m ∨ o = wp) (fun _ => False) h0 h4 := x03.trans (x4.mono (fun _ _ z => z.elim .inl (fun y => .inr (.inl y))) (fun _ _ z => z))
    have rH := (x4.obj wp (Nat.lt_of_lt_of_le wn x03.no) (fun z => by rcases z with z | z <;> omega)).trans r3
    rcases hPc with ⟨k2, rfl⟩ | ⟨hnr2, rfl⟩
    · rcases hres with ⟨_, q2, gv2, ws2, rfl, lg2, hq2, sv2, gf2⟩ | ⟨c0, _⟩
      · rw [hgr] at lg2 gf2
        simp only at lg2 gf2 dH
        have c2 := sv2.cells
        have i2 := sv2.isCell
        have wnH : wp < h4.no := Nat.lt_of_lt_of_le wn xH.no
        obtain ⟨hL, hhL⟩ : ∃ hL : Hp Fm, hL = { h4 with obj := Mp.set h4.obj wp (.row [.ptr p 0, .ptr q2 0, gv, ov, .bool true]) } := ⟨_, rfl⟩
        have xL : HX (fun o => o = p ∨ o = m ∨ o = wp) (fun _ => False) h4 hL := by rw [hhL]; exact (HX.refl (fun o => o = p ∨ o = m ∨ o = wp) (fun _ => False) h4).set (fun _ => .inr (.inr rfl)) _
        have rL : Mp.get hL.obj wp = some (.row [.ptr p 0, .ptr q2 0, gv, ov, .bool true]) := by rw [hhL]; simp
        have nL : hL.no = h4.no := by rw [hhL]
        refine ⟨_, by simp; first | done | rfl, ?_⟩
        repeat(first|with_reducible first|refine vmR ?_|refine vmV rfl ?_|refine vmW rfl ?_|refine vmL ?_|refine blockW_y (by decide) ?_|((with_reducible first|apply vmO|apply vmT|apply vmC);case a=>simp [eqlAV, c2, i2, rH];with_reducible first|exact .v|exact .c|exact .t|exact .f))
        rw [← hhL]
        repeat(first|with_reducible first|refine vmR ?_|refine vmV rfl ?_|refine vmW rfl ?_|refine vmL ?_|refine blockW_y (by decide) ?_|((with_reducible first|apply vmO|apply vmT|apply vmC);case a=>simp [rL, c2, i2, gc, gi];with_reducible first|exact .v|exact .c|exact .t|exact .f))
        refine A.mono (same15_ans R2 R ws2 ws gv2 gv hL sv2 gsv gf2 gf (by omega) (by have := k.wi.num; omega) (fun g hg => by have := GUp_lens hu2 g hg; omega) (fun g hg => by have := GUp_lens k.wi.up g hg; omega)) ?_
        rintro _ hM ⟨rfl, eM⟩
        have rM := (eM.obj _ (by omega)).trans rL
        have wnM : wp < hM.no := by have := eM.no; omega
        have fin : ∀ hZ : Hp Fm, HX (fun o => o = p ∨ o = m ∨ o = wp) (fun _ => False) hM hZ → (∀ o, o < hM.no → o ≠ wp → Mp.get hZ.obj o = Mp.get hM.obj o) → Mp.get hZ.obj wp = some (.row [.ptr p 0, .ptr q2 0, gv2, gv2, .bool false]) → (∃ q' R' last' D', h0.no ≤ q' ∧ Wo hZ wp p m q' (n + 1) R' R' last' false false D') ∧ HX (fun o => o = p ∨ o = m ∨ o = wp) (fun _ => False) h0 hZ := fun hZ xZ oZ rZ => by
          have xHM := xL.trans (eM.x _ _)
          have hq0 : h0.no ≤ q2 := Nat.le_trans x03.no hq2
          have q2n := lg2.qn
          obtain ⟨es, a1, a2⟩ := dH.map
          have pH := dH.pn
          have mH := dH.mn
          have oM : ∀ o, o < h4.no → o ≠ wp → Mp.get hM.obj o = Mp.get h4.obj o := fun o ho hw => by
            rw [eM.obj o (by omega), hhL]; simp [hw]
          have dZ : DKs hZ p m (oneW (fileB R2) (fileB R2).length b k2 100000 (-1) false) :=
            ⟨(oZ p (by have := eM.no; omega) (fun z => ne.1 z.symm)).trans ((oM p pH (fun z => ne.1 z.symm)).trans dH.row), ⟨es, (oZ m (by have := eM.no; omega) (fun z => ne.2.1 z.symm)).trans ((oM m mH (fun z => ne.2.1 z.symm)).trans a1), a2⟩, by have := xZ.no; have := eM.no; omega, by have := xZ.no; have := eM.no; omega, dH.born⟩
          have lZ : LGs hZ q2 p logN (lastE 0 R2) false := ⟨(oZ q2 (by have := eM.no; omega) (by omega)).trans ((oM q2 q2n (by omega)).trans lg2.row), by have := xZ.no; have := eM.no; omega⟩
          exact ⟨⟨q2, R2, _, _, hq0, ⟨⟨gv2, gv2, ws2, rZ, sv2, gf2, (fun z => by cases z), c2, i2⟩, dZ, lZ, by have := xZ.no; omega, ⟨ne.1, ne.2.1, by omega, by omega, by omega⟩, WI.fresh hu2 (by omega) hn2 (by omega)⟩⟩, (xH.trans xHM).trans xZ⟩
        refine ⟨_, by simp; first | done | rfl, ?_⟩
        obtain ⟨os, sos, gos⟩ := hov rfl
        have hO : (∀ g ∈ O, g.2.length ≤ 9000000000000000000) ∧ O.length ≤ 9000000000000000000 := oK rfl
        repeat(first|with_reducible first|refine vmR ?_|refine vmV rfl ?_|refine vmW rfl ?_|refine vmL ?_|refine blockW_y (by decide) ?_|((with_reducible first|apply vmO|apply vmT|apply vmC);case a=>simp [rM, c2, i2, oc, oi];with_reducible first|exact .v|exact .c|exact .t|exact .f))
        refine A.mono (same15_ans R2 O ws2 os gv2 ov hM sv2 sos gf2 gos (by omega) hO.2 (fun g hg => by have := GUp_lens hu2 g hg; omega) hO.1) ?_
        rintro _ hN ⟨rfl, eN⟩
        have rN := (eN.obj _ wnM).trans rM
        refine ⟨_, by simp; first | done | rfl, ?_⟩
        have h12 : decide (R2 = R) = true ∨ (decide (R2 = R) = false ∧ decide (R2 = O) = true) := by
          by_cases z : R2 = R
          · exact .inl (by simp [z])
          · exact .inr ⟨by simp [z], by simp [hR2.resolve_left z]⟩
        obtain ⟨o1, ho1⟩ : ∃ o1, o1 = decide (R2 = R) := ⟨_, rfl⟩
        obtain ⟨o2, ho2⟩ : ∃ o2, o2 = decide (R2 = O) := ⟨_, rfl⟩
        rw [← ho1, ← ho2] at h12 ⊢
        have fin2 : ∀ hZ : Hp Fm, HX (fun o => o = p ∨ o = m ∨ o = wp) (fun _ => False) hN hZ → (∀ o, o ≠ wp → Mp.get hZ.obj o = Mp.get hN.obj o) → Mp.get hZ.obj wp = some (.row [.ptr p 0, .ptr q2 0, gv2, gv2, .bool false]) → (∃ q' R' last' D', h0.no ≤ q' ∧ Wo hZ wp p m q' (n + 1) R' R' last' false false D') ∧ HX (fun o => o = p ∨ o = m ∨ o = wp) (fun _ => False) h0 hZ := fun hZ xZ oZ rZ => fin hZ ((eN.x _ _).trans xZ) (fun o ho hw => (oZ o hw).trans (eN.obj o ho)) rZ
        rcases h12 with rfl | ⟨rfl, rfl⟩
        · repeat(first|with_reducible first|refine vmR ?_|refine vmV rfl ?_|refine vmW rfl ?_|refine vmL ?_|refine blockW_y (by decide) ?_|((with_reducible first|apply vmO|apply vmT|apply vmC);case a=>simp [rN, c2, i2];with_reducible first|exact .v|exact .c|exact .t|exact .f))
          (first | apply endW_r | apply endW_n); (case h1 => (simp [Tryz.results8]; first | done | rfl))
          refine ⟨by simp, fin2 _ ?_ (fun o ho => by simp [ho]) (by simp)⟩
          exact (((HX.refl (fun o => o = p ∨ o = m ∨ o = wp) (fun _ => False) hN).set (fun _ => .inr (.inr rfl)) _).set (fun _ => .inr (.inr rfl)) _).set (fun _ => .inr (.inr rfl)) _
        · repeat(first|with_reducible first|refine vmR ?_|refine vmV rfl ?_|refine vmW rfl ?_|refine vmL ?_|refine blockW_y (by decide) ?_|((with_reducible first|apply vmO|apply vmT|apply vmC);case a=>simp [rN, c2, i2];with_reducible first|exact .v|exact .c|exact .t|exact .f))
          (first | apply endW_r | apply endW_n); (case h1 => (simp [Tryz.results8]; first | done | rfl))
          refine ⟨by simp, fin2 _ ?_ (fun o ho => by simp [ho]) (by simp)⟩
          exact (((HX.refl (fun o => o = p ∨ o = m ∨ o = wp) (fun _ => False) hN).set (fun _ => .inr (.inr rfl)) _).set (fun _ => .inr (.inr rfl)) _).set (fun _ => .inr (.inr rfl)) _
      · exact (c0 rfl).elim
    · omega
end Go.Vn
