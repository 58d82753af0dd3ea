/- What functions of the program come to, in the value machine (a part of the proof of the claim's statement). No condition. -/
import Derived.Test.YtbhgefhjpfnhfaaVnI3
set_option linter.unusedSimpArgs false
set_option linter.unusedVariables false
set_option maxRecDepth 20000
namespace Go.Vn
open Go.Proofs

def kv1 : Ver := ⟨[107], 0, 1, 1, 0, 9, [97], false⟩
def kv2 : Ver := ⟨[107], 0, 2, 1, 0, 9, [97], false⟩
def kbr (f : Int) : List Br := [⟨-1, 0, f, false⟩]
theorem kbr_ok {f : Int} (h0 : 0 ≤ f) (h1 : f ≤ 10000) : BOk (kbr f) := by
  refine ⟨fun i hi => ?_, by simp [kbr], by simp [kbr]⟩
  have : i = 0 := by simp [kbr] at hi; omega
  subst this
  exact ⟨.inl ⟨rfl, rfl, rfl⟩, ⟨by simp [kbr], by simp [kbr]⟩, by simpa [kbr] using h0, by simpa [kbr] using h1⟩
theorem kpath (f e : Int) : pathB (kbr f) 0 e = [⟨0, e⟩] := by simp [pathB, pathP, brAt, kbr]
theorem kplace {f : Int} (k : Lg) : placeS (kbr f) 3 [] k ↔ k.b = 0 ∧ f ≤ k.e ∧ k.e ≤ 3 := by
  constructor
  · rintro (⟨i, hi, _, _, ⟨h1, h2, h3⟩ | h⟩ | ⟨i, hi, _⟩)
    · have : i = 0 := by simp [kbr] at hi; omega
      subst this
      exact ⟨h1, h2, h3⟩
    · have : i = 0 := by simp [kbr] at hi; omega
      subst this
      rw [kpath] at h; cases h
    · cases hi
  · rintro ⟨h1, h2, h3⟩
    exact .inl ⟨0, by simp [kbr], by simp [kbr], rfl, .inl ⟨h1, h2, h3⟩⟩
theorem kord {e : Int} (h : 2 ≤ e) : orderP [⟨0, e⟩] [kv1, kv2] = [kv1, kv2] := by
  have l1 : legV [⟨0, e⟩] kv1 = 0 := by
    have : (1 : Int) ≤ e := by omega
    simp [legV, legI, firstI, sees, kv1, List.findIdx?, List.findIdx?.go, this]
  have l2 : legV [⟨0, e⟩] kv2 = 0 := by
    simp [legV, legI, firstI, sees, kv2, List.findIdx?, List.findIdx?.go, h]
  refine (orderP_is (ys := [kv1, kv2]) ?_ (fun x => ?_)).symm
  · refine ⟨?_, ?_, trivial⟩
    · intro b hb; rw [List.mem_singleton.mp hb]; simp only [cmpO, l1, l2]; decide
    · intro b hb; cases hb
  · have e1 : unseen [⟨0, e⟩] kv1 = false := by simp [unseen, l1]
    have e2 : unseen [⟨0, e⟩] kv2 = false := by simp [unseen, l2]
    simp [e1, e2]
theorem kord1 : orderP [⟨0, 1⟩] [kv1, kv2] = [kv1] := by
  refine (orderP_is (ys := [kv1]) ?_ (fun x => ?_)).symm
  · exact ⟨fun b hb => (by cases hb), trivial⟩
  · rfl
theorem klast2 (x : Ver) : lastS [kv1, kv2] x ↔ x = kv2 := by
  constructor
  · rintro ⟨A, B, t, e, ht, hB⟩
    cases A with
    | nil =>
      injection e with e1 e2
      subst e1; subst e2
      exact absurd ht (hB kv2 (by simp))
    | cons a A =>
      injection e with e1 e2
      cases A with
      | nil => injection e2 with e2 e3; exact e2.symm
      | cons b A => injection e2 with e2 e3; cases A <;> cases e3
  · rintro rfl
    exact ⟨[kv1], [], 0, rfl, by decide, fun w hw => by cases hw⟩
theorem klast1 (x : Ver) : lastS [kv1] x ↔ x = kv1 := by
  constructor
  · rintro ⟨A, B, t, e, ht, hB⟩
    cases A with
    | nil => injection e with e1 e2; exact e1.symm
    | cons a A => injection e with e1 e2; cases A <;> cases e2
  · rintro rfl
    exact ⟨[], [], 0, rfl, by decide, fun w hw => by cases hw⟩
theorem kne : kv1 ≠ kv2 := by decide
theorem kneed2 : needL (kbr 2) 3 [] [kv1, kv2] = [kv2] := by
  have h1 : ¬ need (kbr 2) 3 [] [kv1, kv2] kv1 := by
    rintro ⟨k, k1, k2⟩
    obtain ⟨b0, e0, e1⟩ := (kplace k).mp k1
    have : plPath (kbr 2) k = [⟨0, k.e⟩] := by unfold plPath; rw [b0]; exact kpath _ _
    rw [this, kord e0] at k2
    exact kne ((klast2 _).mp k2)
  have h2 : need (kbr 2) 3 [] [kv1, kv2] kv2 := by
    refine ⟨⟨0, 2⟩, (kplace _).mpr ⟨rfl, by decide, by decide⟩, ?_⟩
    have : plPath (kbr 2) ⟨0, 2⟩ = [⟨0, 2⟩] := kpath _ _
    rw [this, kord (by decide)]
    exact (klast2 _).mpr rfl
  simp [needL, h1, h2]
theorem kneed1 : needL (kbr 1) 3 [] [kv1, kv2] = [kv1, kv2] := by
  have h1 : need (kbr 1) 3 [] [kv1, kv2] kv1 := by
    refine ⟨⟨0, 1⟩, (kplace _).mpr ⟨rfl, by decide, by decide⟩, ?_⟩
    have : plPath (kbr 1) ⟨0, 1⟩ = [⟨0, 1⟩] := kpath _ _
    rw [this, kord1]
    exact (klast1 _).mpr rfl
  have h2 : need (kbr 1) 3 [] [kv1, kv2] kv2 := by
    refine ⟨⟨0, 2⟩, (kplace _).mpr ⟨rfl, by decide, by decide⟩, ?_⟩
    have : plPath (kbr 1) ⟨0, 2⟩ = [⟨0, 2⟩] := kpath _ _
    rw [this, kord (by decide)]
    exact (klast2 _).mpr rfl
  simp [needL, h1, h2]

set_option maxHeartbeats 4000000 in
theorem klives_ans (h0 : Hp Fm) (p1 : h0.pol 38 = false) (p2 : h0.pol 42 = true) : A Try.prog TT (.func 9) [] h0 (fun r h' => r = .bool true ∧ HE h0 h') := by
  have z1 : h0.no ≠ h0.no + 1 := by omega
  have z2 : h0.no ≠ h0.no + 1 + 1 := by omega
  have z3 : h0.no ≠ h0.no + 1 + 1 + 1 := by omega
  have z4 : h0.no + 1 ≠ h0.no + 1 + 1 := by omega
  have z5 : h0.no + 1 ≠ h0.no + 1 + 1 + 1 := by omega
  have z6 : h0.no + 1 + 1 ≠ h0.no + 1 + 1 + 1 := by omega
  apply A_go Try.func9 rfl (by rfl); (case hn => (simp [Try.ntmps9]; rfl))
  repeat(first|with_reducible first|refine vmR ?_|refine vmV rfl ?_|refine vmW rfl ?_|refine vmL ?_|refine blockW_y (by decide) ?_|((with_reducible first|apply vmO|apply vmT|apply vmC);case a=>simp [newSeq, newSl, newRs, p1, p2, z1, z2, z3, z4, z5, z6];with_reducible first|exact .v|exact .c|exact .t|exact .f))
  refine A_heap ?_
  intro ha hha
  have e0 : HE h0 ha := by
    rw [hha]
    exact (((((((((HE.refl h0).new _).set (by omega) _).new _).set (by show h0.no ≤ h0.no + 1; omega) _).set (by show h0.no ≤ h0.no + 1; omega) _).new _).new _).set (by show h0.no ≤ h0.no + 1 + 1 + 1; omega) _).newSl 2
  have g0 : Mp.get ha.obj h0.no = some (.row (encV kv1).cells) := by rw [hha]; simp [z1, z2, z3, kv1]
  have g1 : Mp.get ha.obj (h0.no + 1) = some (.row (encV kv2).cells) := by rw [hha]; simp [z4, z5, kv2]
  have g2 : Mp.get ha.obj (h0.no + 1 + 1) = some (.row [.int .i64 (-1), .int .i64 0, .int .i64 2, .bool false]) := by rw [hha]; simp [z6]
  have g3 : Mp.get ha.obj (h0.no + 1 + 1 + 1) = some (.row [.int .i64 0, .int .i64 3, .rs (h0.no + 1 + 1) 0 4 true 1 1, .nils, .nils, .str []]) := by rw [hha]; simp
  have an : ha.no = h0.no + 4 := by rw [hha]
  clear hha
  have rs : BRs h0.no ha (kbr 2) (.rs (h0.no + 1 + 1) 0 4 true 1 1) := .inr ⟨_, 1, rfl, by omega, ⟨⟨[], by rw [g2]; rfl, rfl⟩, Nat.le_refl _, by omega⟩⟩
  have N1 := needed_ans h0.no [kv1, kv2] (.sl h0.ng 0 8 2 [encV kv1, encV kv2]) (.inr ⟨_, _, _, rfl⟩) (by decide) (kbr 2) _ .nils 3 [] (kbr_ok (by decide) (by decide)) (by decide) (by decide) (.inl ⟨rfl, rfl⟩) (by decide) ha rs
  rw [kneed2] at N1
  refine A.mono N1 ?_
  rintro v1 h1 ⟨s1, e1⟩
  have c1 := s1.sv.cells
  have i1 := s1.sv.isCell
  have n1 := e1.no
  have g0 := (e1.obj _ (by omega)).trans g0
  have g1 := (e1.obj _ (by omega)).trans g1
  have g3 := (e1.obj _ (by omega)).trans g3
  have e01 := e0.trans e1
  have p11 : h1.pol 38 = false := by rw [e01.pol]; exact p1
  have p12 : h1.pol 42 = true := by rw [e01.pol]; exact p2
  have y1 : h0.no ≠ h1.no := by omega
  have y2 : h0.no + 1 ≠ h1.no := by omega
  have y3 : h0.no + 1 + 1 + 1 ≠ h1.no := by omega
  simp only [encV, cells_agg] at g0 g1
  refine ⟨_, by simp; first | done | rfl, ?_⟩
  repeat(first|with_reducible first|refine vmR ?_|refine vmV rfl ?_|refine vmW rfl ?_|refine vmL ?_|refine blockW_y (by decide) ?_|((with_reducible first|apply vmO|apply vmT|apply vmC);case a=>simp [c1, i1, g0, g1, g3, newSeq, newSl, newRs, p11, p12, y1, y2, y3, z1, z3, z5];with_reducible first|exact .v|exact .c|exact .t|exact .f))
  refine A_heap ?_
  intro hb hhb
  have eb : HE h0 hb := by
    rw [hhb]
    exact ((e01.new _).set (by omega) _).newSl 2
  have k0 : Mp.get hb.obj h0.no = some (.row (encV kv1).cells) := by rw [hhb]; simp [y1, z3, g0]
  have k1 : Mp.get hb.obj (h0.no + 1) = some (.row (encV kv2).cells) := by rw [hhb]; simp [y2, z5, g1]
  have k2 : Mp.get hb.obj h1.no = some (.row [.int .i64 (-1), .int .i64 0, .int .i64 1, .bool false]) := by rw [hhb]; simp [y3.symm]
  have bn : hb.no = h1.no + 1 := by rw [hhb]
  clear hhb
  have rs2 : BRs h0.no hb (kbr 1) (.rs h1.no 0 4 true 1 1) := .inr ⟨_, 1, rfl, by omega, ⟨⟨[], by rw [k2]; rfl, rfl⟩, Nat.le_refl _, by omega⟩⟩
  have N2 := needed_ans h0.no [kv1, kv2] (.sl h1.ng 0 8 2 [encV kv1, encV kv2]) (.inr ⟨_, _, _, rfl⟩) (by decide) (kbr 1) _ .nils 3 [] (kbr_ok (by decide) (by decide)) (by decide) (by decide) (.inl ⟨rfl, rfl⟩) (by decide) hb rs2
  rw [kneed1] at N2
  refine A.mono N2 ?_
  rintro v2 h2 ⟨s2, e2⟩
  have c2 := s2.sv.cells
  have i2 := s2.sv.isCell
  have m1 := s1.sv.nm
  have m2 := s2.sv.nm
  have l1 := s1.sv.len Try.underlying22
  have l2 := s2.sv.len Try.underlying22
  have x1 := s1.sv.idx (k := .i64) (i := 0) Try.underlying22 z38 (by omega) (by simp)
  simp only [List.map_cons, List.map_nil, List.length_cons, List.length_nil] at l1 l2
  replace x1 : indexAddrAV Try.prog 22 v1 (.int .i64 0) = some (.el (encV kv2) 0) := by rw [x1]; rfl
  have g1b := (e2.obj _ (by omega)).trans k1
  have eqv := eqlV kv2 kv2
  simp only [encV, cells_agg] at g1b x1 eqv
  refine ⟨_, by simp; first | done | rfl, ?_⟩
  repeat(first|with_reducible first|refine vmR ?_|refine vmV rfl ?_|refine vmW rfl ?_|refine vmL ?_|refine blockW_y (by decide) ?_|((with_reducible first|apply vmO|apply vmT|apply vmC);case a=>simp [c2, i2];with_reducible first|exact .v|exact .c|exact .t|exact .f))
  (with_reducible refine W_draw_id (pln := true) [0, 1, 2, 3, 4, 5, 6, 7, 8, 9, 10, 11, 12, 13, 14, 15] [(6, (6, [])), (7, (7, []))] (by kernel_rfl) rfl ?_)
  repeat(first|with_reducible first|refine vmR ?_|refine vmV rfl ?_|refine vmW rfl ?_|refine vmL ?_|refine blockW_y (by decide) ?_|((with_reducible first|apply vmO|apply vmT|apply vmC);case a=>simp [l1, l2, m1, m2, x1, g1b, eqv, c1, i1, c2, i2];with_reducible first|exact .v|exact .c|exact .t|exact .f))
  refine ⟨by simp [readSame, beqAV_self, g1b, x1, c1, c2, i1, i2]; done, _, by simp; first | done | rfl, ?_⟩
  repeat(first|with_reducible first|refine vmR ?_|refine vmV rfl ?_|refine vmW rfl ?_|refine vmL ?_|refine blockW_y (by decide) ?_|((with_reducible first|apply vmO|apply vmT|apply vmC);case a=>simp;with_reducible first|exact .v|exact .c|exact .t|exact .f))
  (first | apply endW_r | apply endW_n); (case h1 => (simp [Try.results9]; first | done | rfl))
  exact ⟨rfl, (eb.trans e2).drew⟩
end Go.Vn

set_option maxRecDepth 20000
namespace Go.Vn
open Go.Proofs

def raise (bs : List Br) (i : Nat) : List Br := bs.set i { brAt bs i with fl := (brAt bs i).fl + 1 }
end Go.Vn

set_option maxRecDepth 20000
namespace Go.Vn
open Go.Proofs


structure ManA (vb vp vr : AV) (lb : List Br) (ps : List Po) (ep : Int) : Prop where
  kb : SV 4 (lb.map encB) vb
  kp : SV 3 (ps.map encPo) vp
  rc : vr.cells = [vr]
  ri : vr.isCell = true
  br : ∀ b ∈ lb, BrR b
  ep : i64R ep

end Go.Vn
