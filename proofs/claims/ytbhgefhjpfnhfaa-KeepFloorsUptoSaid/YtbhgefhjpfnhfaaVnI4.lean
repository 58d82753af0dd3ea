/- What functions of the program come to, in the value machine (a part of the proof of the claim's statement). No condition. -/
import Derived.Test.YtbhgefhjpfnhfaaVnI3
set_option linter.unusedSimpArgs false
set_option linter.unusedVariables false
set_option maxRecDepth 20000
namespace Go.Vn
open Go.Proofs

def kv1 : Ver := ⟨[107], 0, 1, 1, 0, 9, [97], false⟩
def kv2 : Ver := ⟨[107], 0, 2, 1, 0, 9, [97], false⟩
def kbr (f : Int) : List Br := [⟨-1, 0, f, false⟩]
theorem kbr_ok {f : Int} (h0 : 0 ≤ f) (h1 : f ≤ 10000) : BOk (kbr f) := by
  refine ⟨fun i hi => ?_, by simp [kbr], by simp [kbr]⟩
  have : i = 0 := by simp [kbr] at hi; omega
  subst this
  exact ⟨.inl ⟨rfl, rfl, rfl⟩, ⟨by simp [kbr], by simp [kbr]⟩, by simpa [kbr] using h0, by simpa [kbr] using h1⟩
theorem kpath (f e : Int) : pathB (kbr f) 0 e = [⟨0, e⟩] := by simp [pathB, pathP, brAt, kbr]
theorem kplace {f : Int} (k : Lg) : placeS (kbr f) 3 [] k ↔ k.b = 0 ∧ f ≤ k.e ∧ k.e ≤ 3 := by
  constructor
  · rintro (⟨i, hi, _, _, ⟨h1, h2, h3⟩ | h⟩ | ⟨i, hi, _⟩)
    · have : i = 0 := by simp [kbr] at hi; omega
      subst this
      exact ⟨h1, h2, h3⟩
    · have : i = 0 := by simp [kbr] at hi; omega
      subst this
      rw [kpath] at h; cases h
    · cases hi
  · rintro ⟨h1, h2, h3⟩
    exact .inl ⟨0, by simp [kbr], by simp [kbr], rfl, .inl ⟨h1, h2, h3⟩⟩
theorem kord {e : Int} (h : 2 ≤ e) : orderP [⟨0, e⟩] [kv1, kv2] = [kv1, kv2] := by
  have l1 : legV [⟨0, e⟩] kv1 = 0 := by
    have : (1 : Int) ≤ e := by omega
    simp [legV, legI, firstI, sees, kv1, List.findIdx?, List.findIdx?.go, this]
  have l2 : legV [⟨0, e⟩] kv2 = 0 := by
    simp [legV, legI, firstI, sees, kv2, List.findIdx?, List.findIdx?.go, h]
  refine (orderP_is (ys := [kv1, kv2]) ?_ (fun x => ?_)).symm
  · refine ⟨?_, ?_, trivial⟩
    · intro b hb; rw [List.mem_singleton.mp hb]; simp only [cmpO, l1, l2]; decide
    · intro b hb; cases hb
  · have e1 : unseen [⟨0, e⟩] kv1 = false := by simp [unseen, l1]
    have e2 : unseen [⟨0, e⟩] kv2 = false := by simp [unseen, l2]
    simp [e1, e2]
theorem kord1 : orderP [⟨0, 1⟩] [kv1, kv2] = [kv1] := by
  refine (orderP_is (ys := [kv1]) ?_ (fun x => ?_)).symm
  · exact ⟨fun b hb => (by cases hb), trivial⟩
  · rfl
theorem klast2 (x : Ver) : lastS [kv1, kv2] x ↔ x = kv2 := by
  constructor
  · rintro ⟨A, B, t, e, ht, hB⟩
    cases A with
    | nil =>
      injection e with e1 e2
      subst e1; subst e2
      exact absurd ht (hB kv2 (by simp))
    | cons a A =>
      injection e with e1 e2
      cases A with
      | nil => injection e2 with e2 e3; exact e2.symm
      | cons b A => injection e2 with e2 e3; cases A <;> cases e3
  · rintro rfl
    exact ⟨[kv1], [], 0, rfl, by decide, fun w hw => by cases hw⟩
theorem klast1 (x : Ver) : lastS [kv1] x ↔ x = kv1 := by
  constructor
  · rintro ⟨A, B, t, e, ht, hB⟩
    cases A with
    | nil => injection e with e1 e2; exact e1.symm
    | cons a A => injection e with e1 e2; cases A <;> cases e2
  · rintro rfl
    exact ⟨[], [], 0, rfl, by decide, fun w hw => by cases hw⟩
theorem kne : kv1 ≠ kv2 := by decide
theorem kneed2 : needL (kbr 2) 3 [] [kv1, kv2] = [kv2] := by
  have h1 : ¬ need (kbr 2) 3 [] [kv1, kv2] kv1 := by
    rintro ⟨k, k1, k2⟩
    obtain ⟨b0, e0, e1⟩ := (kplace k).mp k1
    have : plPath (kbr 2) k = [⟨0, k.e⟩] := by unfold plPath; rw [b0]; exact kpath _ _
    rw [this, kord e0] at k2
    exact kne ((klast2 _).mp k2)
  have h2 : need (kbr 2) 3 [] [kv1, kv2] kv2 := by
    refine ⟨⟨0, 2⟩, (kplace _).mpr ⟨rfl, by decide, by decide⟩, ?_⟩
    have : plPath (kbr 2) ⟨0, 2⟩ = [⟨0, 2⟩] := kpath _ _
    rw [this, kord (by decide)]
    exact (klast2 _).mpr rfl
  simp [needL, h1, h2]
theorem kneed1 : needL (kbr 1) 3 [] [kv1, kv2] = [kv1, kv2] := by
  have h1 : need (kbr 1) 3 [] [kv1, kv2] kv1 := by
    refine ⟨⟨0, 1⟩, (kplace _).mpr ⟨rfl, by decide, by decide⟩, ?_⟩
    have : plPath (kbr 1) ⟨0, 1⟩ = [⟨0, 1⟩] := kpath _ _
    rw [this, kord1]
    exact (klast1 _).mpr rfl
  have h2 : need (kbr 1) 3 [] [kv1, kv2] kv2 := by
    refine ⟨⟨0, 2⟩, (kplace _).mpr ⟨rfl, by decide, by decide⟩, ?_⟩
    have : plPath (kbr 1) ⟨0, 2⟩ = [⟨0, 2⟩] := kpath _ _
    rw [this, kord (by decide)]
    exact (klast2 _).mpr rfl
  simp [needL, h1, h2]

set_option maxHeartbeats 4000000 in
theorem klives_ans (h0 : Hp Fm) (p1 : h0.pol 38 = false) (p2 : h0.pol 42 = true) : A Try.prog TT (.func 9) [] h0 (fun r h' => r = .bool true ∧ HE h0 h') := by
  have z1 : h0.no ≠ h0.no + 1 := by omega
  have z2 : h0.no ≠ h0.no + 1 + 1 := by omega
  have z3 : h0.no ≠ h0.no + 1 + 1 + 1 := by omega
  have z4 : h0.no + 1 ≠ h0.no + 1 + 1 := by omega
  have z5 : h0.no + 1 ≠ h0.no + 1 + 1 + 1 := by omega
  have z6 : h0.no + 1 + 1 ≠ h0.no + 1 + 1 + 1 := by omega
  apply A_go Try.func9 rfl (by rfl); (case hn => (simp [Try.ntmps9]; rfl))
  repeat(first|with_reducible first|refine vmR ?_|refine vmV rfl ?_|refine vmW rfl ?_|refine vmL ?_|refine blockW_y (by decide) ?_|((with_reducible first|apply vmO|apply vmT|apply vmC);case a=>simp [newSeq, newSl, newRs, p1, p2, z1, z2, z3, z4, z5, z6];with_reducible first|exact .v|exact .c|exact .t|exact .f))
  refine A_heap ?_
  intro ha hha
  have e0 : HE h0 ha := by
    rw [hha]
    exact (((((((((HE.refl h0).new _).set (by omega) _).new _).set (by show h0.no ≤ h0.no + 1; omega) _).set (by show h0.no ≤ h0.no + 1; omega) _).new _).new _).set (by show h0.no ≤ h0.no + 1 + 1 + 1; omega) _).newSl 2
  have g0 : Mp.get ha.obj h0.no = some (.row (encV kv1).cells) := by rw [hha]; simp [z1, z2, z3, kv1]
  have g1 : Mp.get ha.obj (h0.no + 1) = some (.row (encV kv2).cells) := by rw [hha]; simp [z4, z5, kv2]
  have g2 : Mp.get ha.obj (h0.no + 1 + 1) = some (.row [.int .i64 (-1), .int .i64 0, .int .i64 2, .bool false]) := by rw [hha]; simp [z6]
  have g3 : Mp.get ha.obj (h0.no + 1 + 1 + 1) = some (.row [.int .i64 0, .int .i64 3, .rs (h0.no + 1 + 1) 0 4 true 1 1, .nils, .nils, .str []]) := by rw [hha]; simp
  have an : ha.no = h0.no + 4 := by rw [hha]
  clear hha
  have rs : BRs h0.no ha (kbr 2) (.rs (h0.no + 1 + 1) 0 4 true 1 1) := .inr ⟨_, 1, rfl, by omega, ⟨⟨[], by rw [g2]; rfl, rfl⟩, Nat.le_refl _, by omega⟩⟩
  have N1 := needed_ans h0.no [kv1, kv2] (.sl h0.ng 0 8 2 [encV kv1, encV kv2]) (.inr ⟨_, _, _, rfl⟩) (by decide) (kbr 2) _ .nils 3 [] (kbr_ok (by decide) (by decide)) (by decide) (by decide) (.inl ⟨rfl, rfl⟩) (by decide) ha rs
  rw [kneed2] at N1
  refine A.mono N1 ?_
  rintro v1 h1 ⟨s1, e1⟩
  have c1 := s1.sv.cells
  have i1 := s1.sv.isCell
  have n1 := e1.no
  have g0 := (e1.obj _ (by omega)).trans g0
  have g1 := (e1.obj _ (by omega)).trans g1
  have g3 := (e1.obj _ (by omega)).trans g3
  have e01 := e0.trans e1
  have p11 : h1.pol 38 = false := by rw [e01.pol]; exact p1
  have p12 : h1.pol 42 = true := by rw [e01.pol]; exact p2
  have y1 : h0.no ≠ h1.no := by omega
  have y2 : h0.no + 1 ≠ h1.no := by omega
  have y3 : h0.no + 1 + 1 + 1 ≠ h1.no := by omega
  simp only [encV, cells_agg] at g0 g1
  refine ⟨_, by simp; first | done | rfl, ?_⟩
  repeat(first|with_reducible first|refine vmR ?_|refine vmV rfl ?_|refine vmW rfl ?_|refine vmL ?_|refine blockW_y (by decide) ?_|((with_reducible first|apply vmO|apply vmT|apply vmC);case a=>simp [c1, i1, g0, g1, g3, newSeq, newSl, newRs, p11, p12, y1, y2, y3, z1, z3, z5];with_reducible first|exact .v|exact .c|exact .t|exact .f))
  refine A_heap ?_
  intro hb hhb
  have eb : HE h0 hb := by
    rw [hhb]
    exact ((e01.new _).set (by omega) _).newSl 2
  have k0 : Mp.get hb.obj h0.no = some (.row (encV kv1).cells) := by rw [hhb]; simp [y1, z3, g0]
  have k1 : Mp.get hb.obj (h0.no + 1) = some (.row (encV kv2).cells) := by rw [hhb]; simp [y2, z5, g1]
  have k2 : Mp.get hb.obj h1.no = some (.row [.int .i64 (-1), .int .i64 0, .int .i64 1, .bool false]) := by rw [hhb]; simp [y3.symm]
  have bn : hb.no = h1.no + 1 := by rw [hhb]
  clear hhb
  have rs2 : BRs h0.no hb (kbr 1) (.rs h1.no 0 4 true 1 1) := .inr ⟨_, 1, rfl, by omega, ⟨⟨[], by rw [k2]; rfl, rfl⟩, Nat.le_refl _, by omega⟩⟩
  have N2 := needed_ans h0.no [kv1, kv2] (.sl h1.ng 0 8 2 [encV kv1, encV kv2]) (.inr ⟨_, _, _, rfl⟩) (by decide) (kbr 1) _ .nils 3 [] (kbr_ok (by decide) (by decide)) (by decide) (by decide) (.inl ⟨rfl, rfl⟩) (by decide) hb rs2
  rw [kneed1] at N2
  refine A.mono N2 ?_
  rintro v2 h2 ⟨s2, e2⟩
  have c2 := s2.sv.cells
  have i2 := s2.sv.isCell
  have m1 := s1.sv.nm
  have m2 := s2.sv.nm
  have l1 := s1.sv.len Try.underlying22
  have l2 := s2.sv.len Try.underlying22
  have x1 := s1.sv.idx (k := .i64) (i := 0) Try.underlying22 z38 (by omega) (by simp)
  simp only [List.map_cons, List.map_nil, List.length_cons, List.length_nil] at l1 l2
  replace x1 : indexAddrAV Try.prog 22 v1 (.int .i64 0) = some (.el (encV kv2) 0) := by rw [x1]; rfl
  have g1b := (e2.obj _ (by omega)).trans k1
  have eqv := eqlV kv2 kv2
  simp only [encV, cells_agg] at g1b x1 eqv
  refine ⟨_, by simp; first | done | rfl, ?_⟩
  repeat(first|with_reducible first|refine vmR ?_|refine vmV rfl ?_|refine vmW rfl ?_|refine vmL ?_|refine blockW_y (by decide) ?_|((with_reducible first|apply vmO|apply vmT|apply vmC);case a=>simp [c2, i2];with_reducible first|exact .v|exact .c|exact .t|exact .f))
  (with_reducible refine W_draw_id (pln := true) [0, 1, 2, 3, 4, 5, 6, 7, 8, 9, 10, 11, 12, 13, 14, 15] [(6, (6, [])), (7, (7, []))] (by kernel_rfl) rfl ?_)
  repeat(first|with_reducible first|refine vmR ?_|refine vmV rfl ?_|refine vmW rfl ?_|refine vmL ?_|refine blockW_y (by decide) ?_|((with_reducible first|apply vmO|apply vmT|apply vmC);case a=>simp [l1, l2, m1, m2, x1, g1b, eqv, c1, i1, c2, i2];with_reducible first|exact .v|exact .c|exact .t|exact .f))
  refine ⟨by simp [readSame, beqAV_self, g1b, x1, c1, c2, i1, i2]; done, _, by simp; first | done | rfl, ?_⟩
  repeat(first|with_reducible first|refine vmR ?_|refine vmV rfl ?_|refine vmW rfl ?_|refine vmL ?_|refine blockW_y (by decide) ?_|((with_reducible first|apply vmO|apply vmT|apply vmC);case a=>simp;with_reducible first|exact .v|exact .c|exact .t|exact .f))
  (first | apply endW_r | apply endW_n); (case h1 => (simp [Try.results9]; first | done | rfl))
  exact ⟨rfl, (eb.trans e2).drew⟩
end Go.Vn

set_option maxRecDepth 20000
namespace Go.Vn
open Go.Proofs

theorem filter_sub {E : Type} {p q : E → Bool} (h : ∀ x, p x = true → q x = true) : ∀ l : List E, (l.filter p).Sublist (l.filter q)
  | [] => .slnil
  | a :: l => by
    have ih := filter_sub h l
    by_cases hp : p a = true
    · have hq := h a hp
      simp only [List.filter_cons, hp, hq, if_true]
      exact ih.cons_cons a
    · by_cases hq : q a = true
      · simp only [List.filter_cons, hp, hq, if_true]
        exact ih.cons a
      · simp only [List.filter_cons, hp, hq]
        exact ih
theorem need_sub {bs bs' : List Br} {ep ep' : Int} {qs qs' : List Po} {xs : List Ver} (h : ∀ x, need bs ep qs xs x → need bs' ep' qs' xs x) : (needL bs ep qs xs).Sublist (needL bs' ep' qs' xs) := by
  unfold needL
  exact filter_sub (fun x hx => by simpa using h x (by simpa using hx)) xs
def raise (bs : List Br) (i : Nat) : List Br := bs.set i { brAt bs i with fl := (brAt bs i).fl + 1 }
theorem raise_at (bs : List Br) (i j : Nat) (hi : i < bs.length) : brAt (raise bs i) j = if j = i then { brAt bs i with fl := (brAt bs i).fl + 1 } else brAt bs j := by
  unfold raise brAt
  rw [List.getD_eq_getElem?_getD, List.getD_eq_getElem?_getD, List.getElem?_set]
  by_cases q : j = i
  · subst q; simp [hi]
  · simp [q, Ne.symm q]
theorem raise_path (bs : List Br) (i : Nat) (hi : i < bs.length) : ∀ (k b : Nat) (e : Int), pathP (raise bs i) k b e = pathP bs k b e
  | 0, _, _ => rfl
  | k + 1, b, e => by
    have e1 : (brAt (raise bs i) b).pa = (brAt bs b).pa := by rw [raise_at bs i b hi]; split <;> simp_all
    have e2 : (brAt (raise bs i) b).fk = (brAt bs b).fk := by rw [raise_at bs i b hi]; split <;> simp_all
    simp only [pathP, e1, e2, raise_path bs i hi k]
theorem brAt_eq {bs : List Br} {i : Nat} (hi : i < bs.length) : brAt bs i = bs[i] := by simp [brAt, hi]
theorem raise_ok {bs : List Br} {i : Nat} (ok : BOk bs) (hi : i < bs.length) (hf : bs[i].fl ≤ 7) : BOk (raise bs i) := by
  have hl : (raise bs i).length = bs.length := by simp [raise]
  refine ⟨fun j hj => ?_, by rw [hl]; exact ok.ge, by rw [hl]; exact ok.le⟩
  have hj' : j < bs.length := by omega
  have e : (raise bs i)[j] = brAt (raise bs i) j := (brAt_eq hj).symm
  rw [e, raise_at bs i j hi]
  have oj := ok.ok j hj'
  split
  · rename_i q
    subst q
    rw [brAt_eq hj']
    exact ⟨oj.1, oj.2.1, by show 0 ≤ bs[j].fl + 1; have := oj.2.2.1; omega, by show bs[j].fl + 1 ≤ 10000; omega⟩
  · rw [brAt_eq hj']; exact oj
theorem need_raise {bs : List Br} {ep : Int} {qs : List Po} {xs : List Ver} {i : Nat} (hi : i < bs.length) (x : Ver) (h : need (raise bs i) ep qs xs x) : need bs ep qs xs x := by
  have hl : (raise bs i).length = bs.length := by simp [raise]
  obtain ⟨k, h1, h2⟩ := h
  refine ⟨k, ?_, by
    have : plPath bs k = plPath (raise bs i) k := by unfold plPath pathB; rw [raise_path bs i hi]
    rw [this]; exact h2⟩
  rcases h1 with ⟨j, hj, a, b, c⟩ | ⟨j, hj, a, b, c, d⟩
  · have hj' : j < bs.length := by omega
    have e : (raise bs i)[j] = brAt (raise bs i) j := (brAt_eq hj).symm
    have e1 : (raise bs i)[j].dr = bs[j].dr := by
      rw [e, raise_at bs i j hi]; split
      · rename_i q; subst q; rw [brAt_eq hj']
      · rw [brAt_eq hj']
    have e2 : bs[j].fl ≤ (raise bs i)[j].fl := by
      rw [e, raise_at bs i j hi]; split
      · rename_i q; subst q; rw [brAt_eq hj']; show bs[j].fl ≤ bs[j].fl + 1; omega
      · rw [brAt_eq hj']; exact Int.le_refl _
    refine .inl ⟨j, hj', by omega, by rw [← e1]; exact b, ?_⟩
    rcases c with ⟨c1, c2, c3⟩ | c
    · exact .inl ⟨c1, by omega, c3⟩
    · refine .inr ?_
      unfold pathB at c ⊢
      rw [raise_path bs i hi] at c; exact c
  · exact .inr ⟨j, hj, a, b, by rw [← hl]; exact c, d⟩

theorem raise_row {lo : Nat} {h : Hp Fm} {bs : List Br} {v : AV} (k : BRs lo h bs v) {i : Nat} (hi : i < bs.length) : ∃ o cs, indexAddrAV Try.prog 23 v (.int .i64 (i : Int)) = some (.ptr o (i * 4)) ∧ Mp.get h.obj o = some (.row cs) ∧ partAV false 1 cs (i * 4 + 2) = some (.int .i64 bs[i].fl) ∧ i * 4 + 2 + 1 ≤ cs.length ∧ lo ≤ o ∧ o < h.no ∧
    ∀ h' : Hp Fm, Mp.get h'.obj o = some (.row (splice cs (i * 4 + 2) [.int .i64 (bs[i].fl + 1)])) → h'.no = h.no → BRs lo h' (raise bs i) v := by
  obtain ⟨o, cs, x1, x2, x3, x4, x5, x6, x7, x8, x9⟩ := BRs.at_ k hi
  rcases k with ⟨rfl, e⟩ | ⟨o', cap, rfl, hlo, kk⟩
  · have : bs = [] := by simpa using e
    subst this; simp at hi
  · obtain ⟨cs', g1, g2, g3, g4⟩ := kk.at_ (fitB _) (i := i) (by rw [List.length_map]; exact hi)
    have hoo : o' = o := by
      rw [index_rs Try.underlying23 z42 (by omega) (by rw [List.length_map]; omega)] at x1
      injection x1 with x1; injection x1
    subst hoo
    rw [x2] at g1
    injection g1 with g1; injection g1 with g1
    subst g1
    refine ⟨o', cs, x1, x2, x8, by omega, hlo, x3, fun h' hh hno => ?_⟩
    have hsp : splice cs (i * 4 + 2) [.int .i64 (bs[i].fl + 1)] = splice cs (i * 4) (encB { brAt bs i with fl := (brAt bs i).fl + 1 }).cells := by
      rw [brAt_eq hi]
      simp only [encB, cells_agg, splice, List.length_cons, List.length_nil]
      have c0 : cs[i * 4]? = some (.int .i64 bs[i].pa) := x6
      have c1 : cs[i * 4 + 1]? = some (.int .i64 bs[i].fk) := x7
      have c3 : cs[i * 4 + 3]? = some (.bool bs[i].dr) := x9
      apply List.ext_getElem?
      intro j
      simp only [List.append_assoc, List.getElem?_append, List.getElem?_take, List.length_take, List.getElem?_drop, List.length_cons, List.length_nil]
      have m1 : min (i * 4 + 2) cs.length = i * 4 + 2 := by omega
      have m2 : min (i * 4) cs.length = i * 4 := by omega
      rw [m1, m2]
      by_cases q1 : j < i * 4
      · rw [if_pos (by omega), if_pos q1, if_pos (by omega), if_pos q1]
      · by_cases q2 : j = i * 4
        · subst q2; simp [c0]
        · by_cases q3 : j = i * 4 + 1
          · subst q3; simp [c1]
          · by_cases q4 : j = i * 4 + 2
            · subst q4
              have : ¬ i * 4 + 2 < i * 4 := by omega
              simp [this]
            · by_cases q5 : j = i * 4 + 3
              · subst q5; simp [c3]
              · rw [if_neg (by omega), if_neg (by omega), if_neg q1, if_neg (by omega)]
                congr 1; omega
    have := g4 (encB { brAt bs i with fl := (brAt bs i).fl + 1 }) h' (.inl ⟨rfl, _, rfl, rfl⟩) (by rw [hh, hsp]) (by omega)
    rw [← List.map_set] at this
    exact .inr ⟨o', cap, by simp [raise], hlo, this⟩
end Go.Vn

set_option maxRecDepth 20000
namespace Go.Vn
open Go.Proofs


structure ManA (vb vp vr : AV) (lb : List Br) (ps : List Po) (ep : Int) : Prop where
  kb : SV 4 (lb.map encB) vb
  kp : SV 3 (ps.map encPo) vp
  rc : vr.cells = [vr]
  ri : vr.isCell = true
  br : ∀ b ∈ lb, BrR b
  ep : i64R ep

set_option maxHeartbeats 8000000 in
theorem kfloors_law (l : List Ver) (v : AV) (hv : SV 8 (l.map encV) v) (hl : l.length ≤ 2000000) (n ep : Int) (vb vp vr : AV) (lg : List UInt8) (lb : List Br) (ps : List Po) (K : ManA vb vp vr lb ps ep) (b : Int) (h0 : Hp Fm) (hpol : ∀ e, h0.pol e = false) :
    A Try.prog TT (.func 4) [v, .agg [.int .i64 n, .int .i64 ep, vb, vp, vr, .str lg], .int .i64 b] h0 (fun r h' => r = .bool true ∧ True) := by
  have vc := hv.cells
  have vi := hv.isCell
  have bc := K.kb.cells
  have bi := K.kb.isCell
  have pc := K.kp.cells
  have pi := K.kp.isCell
  have rc := K.rc
  have ri := K.ri
  apply A_goT Try.func4 rfl (by rfl); (case hn => (simp [Try.ntmps4]; rfl))
  repeat(first|with_reducible first|refine vmR ?_|refine vmV rfl ?_|refine vmW rfl ?_|refine vmL ?_|refine blockW_y (by decide) ?_|((with_reducible first|apply vmO|apply vmT|apply vmC);case a=>simp [vc, vi, bc, bi, pc, pi, rc, ri];with_reducible first|exact .v|exact .c|exact .t|exact .f))
  refine A_heap ?_
  intro ha hha
  have g0 : Mp.get ha.obj h0.no = some (.row [.int .i64 n, .int .i64 ep, vb, vp, vr, .str lg]) := by rw [hha]; simp
  have an : ha.no = h0.no + 1 := by rw [hha]
  have pB : ∀ e, e ≠ 42 → ha.pol e = false := fun e he => by rw [hha]; simp [he]
  have pBr : ha.pol 42 = true := by rw [hha]; rfl
  clear hha
  refine A.mono (rows_ans l v hv hl ha pB) ?_
  rintro o h1 ⟨xs, so, xl, e1⟩
  have oc := so.sv.cells
  have oi := so.sv.isCell
  have n1 := e1.no
  have g0 := (e1.obj _ (by omega)).trans g0
  refine ⟨_, by simp; first | done | rfl, ?_⟩
  repeat(first|with_reducible first|refine vmR ?_|refine vmV rfl ?_|refine vmW rfl ?_|refine vmL ?_|refine blockW_y (by decide) ?_|((with_reducible first|apply vmO|apply vmT|apply vmC);case a=>simp [oc, oi, g0, bc, bi, pc, pi, rc, ri];with_reducible first|exact .v|exact .c|exact .t|exact .f))
  refine A.mono (small_ans n ep vb vp vr lg lb ps K.kb K.kp rc ri K.br K.ep h1 (by rw [e1.pol]; exact pBr) (by rw [e1.pol]; exact pB _ (by decide))) ?_
  rintro _ h2 ⟨bs, u, qs, w, ep', rfl, sm, e2⟩
  have uc := sm.br.cells
  have ui := sm.br.isCell
  have un := sm.br.nm
  have wc := sm.ac.sv.cells
  have wi := sm.ac.sv.isCell
  have n2 := e2.no
  refine ⟨_, by simp; first | done | rfl, ?_⟩
  repeat(first|with_reducible first|refine vmR ?_|refine vmV rfl ?_|refine vmW rfl ?_|refine vmL ?_|refine blockW_y (by decide) ?_|((with_reducible first|apply vmO|apply vmT|apply vmC);case a=>simp [uc, ui, wc, wi];with_reducible first|exact .v|exact .c|exact .t|exact .f))
  refine WO_heap ?_
  intro hb hhb
  have eb : HE h2 hb := by rw [hhb]; exact ((HE.refl h2).new _).set (Nat.le_refl _) _
  have gm : Mp.get hb.obj h2.no = some (.row [.int .i64 0, .int .i64 ep', u, w, .nils, .str []]) := by rw [hhb]; simp
  have bn : hb.no = h2.no + 1 := by rw [hhb]
  clear hhb
  have rs1 : BRs h1.no hb bs u := RS.he sm.br eb
  have ul := BRs.len rs1
  have pBb : hb.pol = ha.pol := by rw [eb.pol, e2.pol, e1.pol]
  by_cases q1 : b < 0
  · repeat(first|with_reducible first|refine vmR ?_|refine vmV rfl ?_|refine vmW rfl ?_|refine vmL ?_|refine blockW_y (by decide) ?_|((with_reducible first|apply vmO|apply vmT|apply vmC);case a=>simp [q1];with_reducible first|exact .v|exact .c|exact .t|exact .f))
    refine A.mono (klives_ans hb (by rw [pBb]; exact pB _ (by decide)) (by rw [pBb]; exact pBr)) ?_
    rintro _ h8 ⟨rfl, e8⟩
    refine ⟨_, by simp; first | done | rfl, ?_⟩
    repeat(first|with_reducible first|refine vmR ?_|refine vmV rfl ?_|refine vmW rfl ?_|refine vmL ?_|refine blockW_y (by decide) ?_|((with_reducible first|apply vmO|apply vmT|apply vmC);case a=>simp;with_reducible first|exact .v|exact .c|exact .t|exact .f))
    (first | apply endW_r | apply endW_n); (case h1 => (simp [Try.results4]; first | done | rfl))
    exact ⟨by simp [frz], trivial⟩
  by_cases q2 : (bs.length : Int) ≤ b
  · repeat(first|with_reducible first|refine vmR ?_|refine vmV rfl ?_|refine vmW rfl ?_|refine vmL ?_|refine blockW_y (by decide) ?_|((with_reducible first|apply vmO|apply vmT|apply vmC);case a=>simp [q1, q2, gm, uc, ui, un, ul];with_reducible first|exact .v|exact .c|exact .t|exact .f))
    refine A.mono (klives_ans hb (by rw [pBb]; exact pB _ (by decide)) (by rw [pBb]; exact pBr)) ?_
    rintro _ h8 ⟨rfl, e8⟩
    refine ⟨_, by simp; first | done | rfl, ?_⟩
    repeat(first|with_reducible first|refine vmR ?_|refine vmV rfl ?_|refine vmW rfl ?_|refine vmL ?_|refine blockW_y (by decide) ?_|((with_reducible first|apply vmO|apply vmT|apply vmC);case a=>simp;with_reducible first|exact .v|exact .c|exact .t|exact .f))
    (first | apply endW_r | apply endW_n); (case h1 => (simp [Try.results4]; first | done | rfl))
    exact ⟨by simp [frz], trivial⟩
  obtain ⟨i, rfl⟩ : ∃ i : Nat, b = (i : Int) := ⟨b.toNat, by omega⟩
  have hi : i < bs.length := by omega
  repeat(first|with_reducible first|refine vmR ?_|refine vmV rfl ?_|refine vmW rfl ?_|refine vmL ?_|refine blockW_y (by decide) ?_|((with_reducible first|apply vmO|apply vmT|apply vmC);case a=>simp [q1, q2, gm, uc, ui, un, ul, oc, oi, wc, wi];with_reducible first|exact .v|exact .c|exact .t|exact .f))
  refine A.mono (needed_ans h1.no xs o so (by omega) bs u w ep' qs sm.ok sm.ep0 (by have := sm.ep1; omega) sm.ac.sv (by have := sm.ql; omega) hb rs1) ?_
  rintro vm h3 ⟨sm3, e3⟩
  have n3 := e3.no
  have mc := sm3.sv.cells
  have mi := sm3.sv.isCell
  have gm := (e3.obj _ (by omega)).trans gm
  have rs3 := RS.he rs1 e3
  obtain ⟨ob, cs, x1, x2, x3, x4, x5, x6, x7⟩ := raise_row rs3 hi
  have hfl := sm.fl bs[i] (List.getElem_mem hi)
  have hfl0 := (sm.ok.ok i hi).2.2.1
  have wf : IntKind.i64.wrap (bs[i].fl + 1) = bs[i].fl + 1 := wrap64 (by omega) (by omega)
  have hob : ob ≠ h2.no := by
    intro e
    rcases sm.br with ⟨z, z2⟩ | ⟨o', cap, z, _, z2⟩
    · have : bs = [] := by simpa using z2
      subst this; simp at hi
    · rw [z] at x1
      rw [index_rs Try.underlying23 z42 (by omega) (by rw [List.length_map]; omega)] at x1
      injection x1 with x1
      injection x1 with x1
      have := z2.on
      omega
  refine ⟨_, by simp; first | done | rfl, ?_⟩
  obtain ⟨f, hf⟩ : ∃ f, f = bs[i].fl := ⟨_, rfl⟩
  rw [← hf] at x3 x7 wf
  repeat(first|with_reducible first|refine vmR ?_|refine vmV rfl ?_|refine vmW rfl ?_|refine vmL ?_|refine blockW_y (by decide) ?_|((with_reducible first|apply vmO|apply vmT|apply vmC);case a=>simp [mc, mi, gm, uc, ui, x1, x2, x3, x4, wf, hob, hob.symm, oc, oi, wc, wi];with_reducible first|exact .v|exact .c|exact .t|exact .f))
  refine A_heap ?_
  intro h6 hh6
  have rs6 : BRs h1.no h6 (raise bs i) u := x7 h6 (by rw [hh6]; simp) (by rw [hh6])
  have p6 : h6.pol = ha.pol := by rw [hh6]; show h3.pol = _; rw [e3.pol, pBb]
  clear hh6
  refine A.mono (needed_ans h1.no xs o so (by omega) (raise bs i) u w ep' qs (raise_ok sm.ok hi hfl) sm.ep0 (by have := sm.ep1; omega) sm.ac.sv (by have := sm.ql; omega) h6 rs6) ?_
  rintro vf h7 ⟨sf, e7⟩
  have fc := sf.sv.cells
  have fi := sf.sv.isCell
  have fn := sf.sv.nm
  have fl := sf.sv.len Try.underlying22
  have mn := sm3.sv.nm
  have ml := sm3.sv.len Try.underlying22
  rw [List.length_map] at ml fl
  have hsub : (needL (raise bs i) ep' qs xs).Sublist (needL bs ep' qs xs) := need_sub (fun x hx => need_raise hi x hx)
  have hML : (needL bs ep' qs xs).length ≤ 12 := Nat.le_trans (List.length_filter_le _ _) xl
  have hFL := hsub.length_le
  obtain ⟨F, hF⟩ : ∃ F, F = needL (raise bs i) ep' qs xs := ⟨_, rfl⟩
  obtain ⟨M, hM⟩ : ∃ M, M = needL bs ep' qs xs := ⟨_, rfl⟩
  rw [← hF] at hsub sf fl hFL
  rw [← hM] at hsub sm3 ml hML hFL
  have sm := sm3
  refine ⟨_, by simp; first | done | rfl, ?_⟩
  repeat(first|with_reducible first|refine vmR ?_|refine vmV rfl ?_|refine vmW rfl ?_|refine vmL ?_|refine blockW_y (by decide) ?_|((with_reducible first|apply vmO|apply vmT|apply vmC);case a=>simp [fc, fi];with_reducible first|exact .v|exact .c|exact .t|exact .f))
  refine W.mono (R := fun e s => e = .exit 0 ∧ ∃ (t : Fm AV) (h : Hp Fm), s = ⟨t, 72, h, none⟩ ∧ tget t 10 = vf ∧ tget t 11 = .int .i64 F.length ∧ HE h7 h) ?_ ?_
  · refine W_loop (fun k s => ∃ (t : Fm AV) (h : Hp Fm) (i at_ : Nat), s = ⟨t, 72, h, none⟩ ∧ k = M.length - i ∧ i ≤ M.length ∧ at_ ≤ F.length ∧ (F.drop at_).Sublist (M.drop i) ∧ tget t 10 = vf ∧ tget t 9 = vm ∧ tget t 11 = .int .i64 at_ ∧ tget t 12 = .int .i64 i ∧ HE h7 h) M.length
      ⟨_, _, 0, 0, rfl, rfl, by omega, by omega, by simpa using hsub, by simp, by simp, by simp, by simp, HE.refl _⟩ ?_
    rintro _ _ ⟨t, h, i, at_, rfl, rfl, hi, ha, hs, tf, tm, ta, ti, he⟩
    by_cases q : i < M.length
    case neg =>
      have q' : ¬ ((i : Int) < M.length) := by omega
      repeat(first|with_reducible first|refine vmR ?_|refine vmV rfl ?_|refine vmW rfl ?_|refine vmL ?_|refine blockW_y (by decide) ?_|((with_reducible first|apply vmO|apply vmT|apply vmC);case a=>simp [tf, tm, ta, ti, q, q', mn, ml, mc, mi, fc, fi];with_reducible first|exact .v|exact .c|exact .t|exact .f))
      rw [List.drop_of_length_le (show M.length ≤ i by omega)] at hs
      have h0 := List.sublist_nil.mp hs
      have : F.length ≤ at_ := List.drop_eq_nil_iff.mp h0
      refine ⟨rfl, _, _, rfl, by simp [tf], by simp [ta]; omega, he⟩
    have q' : (i : Int) < M.length := by omega
    by_cases q2 : at_ < F.length
    case neg =>
      have q2' : ¬ ((at_ : Int) < F.length) := by omega
      repeat(first|with_reducible first|refine vmR ?_|refine vmV rfl ?_|refine vmW rfl ?_|refine vmL ?_|refine blockW_y (by decide) ?_|((with_reducible first|apply vmO|apply vmT|apply vmC);case a=>simp [tf, tm, ta, ti, q, q', q2, q2', mn, ml, mc, mi, fn, fl, fc, fi];with_reducible first|exact .v|exact .c|exact .t|exact .f))
      refine ⟨rfl, _, _, rfl, by simp [tf], by simp [ta]; omega, he⟩
    have q2' : (at_ : Int) < F.length := by omega
    obtain ⟨x, hx⟩ : ∃ x, x = M[i] := ⟨_, rfl⟩
    obtain ⟨y, hy⟩ : ∃ y, y = F[at_] := ⟨_, rfl⟩
    have ix := sm.sv.idx (k := .i64) (i := (i : Int)) Try.underlying22 z38 (by omega) (by rw [List.length_map]; omega)
    replace ix : indexAddrAV Try.prog 22 vm (.int .i64 (i : Int)) = some (.el (encV x) 0) := by rw [ix]; simp [hx]
    have iy := sf.sv.idx (k := .i64) (i := (at_ : Int)) Try.underlying22 z38 (by omega) (by rw [List.length_map]; omega)
    replace iy : indexAddrAV Try.prog 22 vf (.int .i64 (at_ : Int)) = some (.el (encV y) 0) := by rw [iy]; simp [hy]
    have eqv := eqlV x y
    simp only [encV] at ix iy eqv
    obtain ⟨ip, hip⟩ : ∃ ip, ip = i + 1 := ⟨_, rfl⟩
    have wip : IntKind.i64.wrap ((i : Int) + 1) = (ip : Int) := by rw [wrap64 (by omega) (by omega)]; omega
    obtain ⟨ap, hap⟩ : ∃ ap, ap = at_ + 1 := ⟨_, rfl⟩
    have wap : IntKind.i64.wrap ((at_ : Int) + 1) = (ap : Int) := by rw [wrap64 (by omega) (by omega)]; omega
    have dM : M.drop i = x :: M.drop ip := by rw [hx, hip]; exact List.drop_eq_getElem_cons q
    have dF : F.drop at_ = y :: F.drop ap := by rw [hy, hap]; exact List.drop_eq_getElem_cons q2
    rw [dM, dF] at hs
    repeat(first|with_reducible first|refine vmR ?_|refine vmV rfl ?_|refine vmW rfl ?_|refine vmL ?_|refine blockW_y (by decide) ?_|((with_reducible first|apply vmO|apply vmT|apply vmC);case a=>simp [tf, tm, ta, ti, q, q', q2, q2', mn, ml, mc, mi, fn, fl, fc, fi];with_reducible first|exact .v|exact .c|exact .t|exact .f))
    (with_reducible refine W_draw_id (pln := true) [0, 1, 2, 3, 4, 5, 6, 7, 8] [(3, (3, [])), (7, (7, []))] (by kernel_rfl) rfl ?_)
    repeat(first|with_reducible first|refine vmR ?_|refine vmV rfl ?_|refine vmW rfl ?_|refine vmL ?_|refine blockW_y (by decide) ?_|((with_reducible first|apply vmO|apply vmT|apply vmC);case a=>simp [tf, tm, ta, ti, ix, iy, eqv, mc, mi, fc, fi];with_reducible first|exact .v|exact .c|exact .t|exact .f))
    refine ⟨by simp [readSame, beqAV_self, tf, tm, ta, ti, ix, iy, mc, mi, fc, fi]; done, _, by simp; first | done | rfl, ?_⟩
    by_cases qe : x = y
    · subst qe
      repeat(first|with_reducible first|refine vmR ?_|refine vmV rfl ?_|refine vmW rfl ?_|refine vmL ?_|refine blockW_y (by decide) ?_|((with_reducible first|apply vmO|apply vmT|apply vmC);case a=>simp [ta, ti, wip, wap];with_reducible first|exact .v|exact .c|exact .t|exact .f))
      exact ⟨M.length - ip, by omega, _, _, ip, ap, rfl, rfl, by omega, by omega, List.cons_sublist_cons.mp hs, by simp [tf], by simp [tm], by simp, by simp, he.drew⟩
    · repeat(first|with_reducible first|refine vmR ?_|refine vmV rfl ?_|refine vmW rfl ?_|refine vmL ?_|refine blockW_y (by decide) ?_|((with_reducible first|apply vmO|apply vmT|apply vmC);case a=>simp [qe, ta, ti, wip];with_reducible first|exact .v|exact .c|exact .t|exact .f))
      refine ⟨M.length - ip, by omega, _, _, ip, at_, rfl, rfl, by omega, by omega, ?_, by simp [tf], by simp [tm], by simp [ta], by simp, he.drew⟩
      rw [dF]
      cases hs with
      | cons _ h => exact h
      | cons_cons _ h => exact absurd rfl qe
  rintro e s ⟨rfl, t, h, rfl, tf, ta, he⟩
  have pV : h.pol 38 = false ∧ h.pol 42 = true := by
    have e : h.pol = ha.pol := by rw [he.pol, e7.pol, p6]
    rw [e]; exact ⟨pB _ (by decide), pBr⟩
  repeat(first|with_reducible first|refine vmR ?_|refine vmV rfl ?_|refine vmW rfl ?_|refine vmL ?_|refine blockW_y (by decide) ?_|((with_reducible first|apply vmO|apply vmT|apply vmC);case a=>simp [tf, ta, fn, fl, fc, fi];with_reducible first|exact .v|exact .c|exact .t|exact .f))
  refine A.mono (klives_ans h pV.1 pV.2) ?_
  rintro _ h8 ⟨rfl, e8⟩
  refine ⟨_, by simp; first | done | rfl, ?_⟩
  repeat(first|with_reducible first|refine vmR ?_|refine vmV rfl ?_|refine vmW rfl ?_|refine vmL ?_|refine blockW_y (by decide) ?_|((with_reducible first|apply vmO|apply vmT|apply vmC);case a=>simp;with_reducible first|exact .v|exact .c|exact .t|exact .f))
  (first | apply endW_r | apply endW_n); (case h1 => (simp [Try.results4]; first | done | rfl))
  exact ⟨by simp [frz], trivial⟩
end Go.Vn
