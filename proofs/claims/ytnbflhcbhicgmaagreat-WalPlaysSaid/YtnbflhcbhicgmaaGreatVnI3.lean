/- What functions of the program come to, in the value machine (a part of the proof of the claim's statement). No condition. -/
import Derived.Test.YtnbflhcbhicgmaaGreatVnI2
set_option linter.unusedSimpArgs false
set_option linter.unusedVariables false
set_option maxRecDepth 20000
namespace Go.Vn
open Go.Proofs

theorem scan_suf {b : List UInt8} : ∀ {i n : Nat} {l : List UInt8}, scan b i = .ok (n, l) → ∃ p, b = p ++ l := by
  induction b with
  | nil => intro i n l h; unfold scan at h; split at h <;> cases h
  | cons c r ih =>
    intro i n l h
    unfold scan at h
    split at h
    · cases h
    · split at h
      · cases hs : scan r (i + 1) with
        | ok p =>
          rw [hs] at h; cases h
          obtain ⟨q, hq⟩ := ih hs
          exact ⟨c :: q, by rw [hq]; simp⟩
        | error e' => rw [hs] at h; cases h
      · split at h
        · cases h
        · cases h; exact ⟨[c], rfl⟩
theorem numP_suf {b l : List UInt8} {n : Nat} (h : numP b = .ok (n, l)) : b.drop (b.length - l.length) = l := by
  unfold numP at h
  cases hs : scan b 0 with
  | error e => rw [hs] at h; cases h
  | ok p =>
    obtain ⟨m, l'⟩ := p
    rw [hs] at h
    simp only at h
    split at h
    · cases h
    · cases h
      obtain ⟨p, hp⟩ := scan_suf hs
      rw [hp]; simp
theorem encVb_len2 {v : Ver} (h : VNum v) (s : VTiny v) : (encVb v).length ≤ 372 := by
  obtain ⟨h1, h2, h3, h4⟩ := h
  obtain ⟨s1, s2⟩ := s
  have a := encs_len [v.br, v.ep, v.sq, v.fr, v.to - v.fr, goneI v.gone] (by
    intro n hn
    unfold SpMay at h4
    simp only [List.mem_cons, List.not_mem_nil, or_false] at hn
    rcases hn with rfl | rfl | rfl | rfl | rfl | rfl <;> first | omega | (unfold goneI; split <;> omega))
  have b1 := enc7_len 8 v.key.length (by omega)
  have b2 := enc7_len 8 v.val.length (by omega)
  simp only [encVb, List.length_append, encT, List.flatMap_cons, List.flatMap_nil, List.length_nil, List.length_cons] at *
  omega
theorem flat_len2 {vs : List Ver} (h : ∀ v ∈ vs, VNum v ∧ VTiny v) : (vs.flatMap encVb).length ≤ 372 * vs.length := by
  induction vs with
  | nil => simp
  | cons v vs ih =>
    have := ih fun x hx => h x (List.mem_cons_of_mem _ hx)
    have h2 := encVb_len2 (h v List.mem_cons_self).1 (h v List.mem_cons_self).2
    simp only [List.flatMap_cons, List.length_append, List.length_cons]
    omega

def readP (b : List UInt8) : Option (Int × List Ver) := match numP b with
  | .error _ => none
  | .ok (ep, r) => match allX r with
    | .error _ => none
    | .ok vs => if GMay ep vs = true ∧ encG ep vs = b then some ((ep : Int), vs) else none
theorem readP_no {b : List UInt8} {e : Int} (h : numP b = .error e) : readP b = none := by unfold readP; rw [h]
theorem readP_er {b r : List UInt8} {m : Nat} {e : Int} (h : numP b = .ok (m, r)) (k : allX r = .error e) : readP b = none := by unfold readP; rw [h]; dsimp only; rw [k]
theorem readP_ok {b r : List UInt8} {m : Nat} {vs : List Ver} (h : numP b = .ok (m, r)) (k : allX r = .ok vs) : readP b = if GMay m vs = true ∧ encG m vs = b then some ((m : Int), vs) else none := by unfold readP; rw [h]; dsimp only; rw [k]
def ReadGR (x : Option (Int × List Ver)) (r : AV) : Prop := match x with
  | some (ep, vs) => ∃ u, r = .tup [.agg [.int .i64 ep, u], .bool true] ∧ SV 8 (vs.map encV) u
  | none => ∃ n u vs, r = .tup [.agg [.int .i64 n, u], .bool false] ∧ SV 8 ((vs : List Ver).map encV) u
theorem allX_all {b : List UInt8} {l : List Ver} (h : allX b = .ok l) : l.length * 8 ≤ b.length ∧ ∀ v ∈ l, VMay v = true ∧ VTiny v := by
  unfold allX at h
  cases hn : numP b with
  | error e => rw [hn] at h; cases h
  | ok p =>
    obtain ⟨n, r⟩ := p
    rw [hn] at h
    obtain ⟨h1, h2, h3⟩ := allL_all h
    have := (numP_len hn).1
    exact ⟨by omega, h3⟩

set_option maxHeartbeats 4000000 in
theorem wread_ans (b : List UInt8) (v : AV) (h0 : Hp Fm) (k : SV 1 (b.map byteAV) v) (hl : b.length ≤ 200000) (hp : ∀ z, h0.pol z = false) :
    A Tryz.prog TT (.func 40) [v] h0 (fun r h' => ReadGR (readP b) r ∧ HE h0 h') := by
  have c1 := k.cells
  have i1 := k.isCell
  have n1 := k.nm
  have l1 := k.len Tryz.underlying58
  rw [List.length_map] at l1
  obtain ⟨hz, hhz⟩ : ∃ hz : Hp Fm, hz = { h0 with obj := Mp.set h0.obj h0.no (.row [.int .i64 0, .nils]), no := h0.no + 1 } := ⟨_, rfl⟩
  have ez : HE h0 hz := by rw [hhz]; exact (HE.refl h0).new _
  have gz : Mp.get hz.obj h0.no = some (.row [.int .i64 0, .nils]) := by rw [hhz]; simp
  have nz : h0.no < hz.no := by rw [hhz]; show h0.no < h0.no + 1; omega
  have pz : ∀ z, hz.pol z = false := fun z => by rw [ez.pol]; exact hp z
  apply A_go Tryz.func40 rfl (by rfl); (case hn => (simp [Tryz.ntmps40]; rfl))
  repeat(first|with_reducible first|refine vmR ?_|refine vmV rfl ?_|refine vmW rfl ?_|refine vmL ?_|refine blockW_y (by decide) ?_|((with_reducible first|apply vmO|apply vmT|apply vmC);case a=>simp [c1, i1];with_reducible first|exact .v|exact .c|exact .t|exact .f))
  rw [← hhz]
  clear hhz
  refine A.mono (vread_ans b v hz k (by omega) (pz _)) ?_
  rintro _ h1 ⟨q, rfl, k1, q0, qn, e1⟩
  refine ⟨_, by simp; first | done | rfl, ?_⟩
  repeat(first|with_reducible first|refine vmR ?_|refine vmV rfl ?_|refine vmW rfl ?_|refine vmL ?_|refine blockW_y (by decide) ?_|((with_reducible first|apply vmO|apply vmT|apply vmC);case a=>simp;with_reducible first|exact .v|exact .c|exact .t|exact .f))
  refine A.mono (vnum_ans q _ h1 k1 qn) ?_
  rintro _ h2 ⟨rfl, k2, x2⟩
  have qn2 := Nat.lt_of_lt_of_le qn x2.no
  have qz : q ≠ h0.no := by omega
  have e2 : HE hz h2 := e1.x2 x2 (fun o ho => by rw [ho]; exact q0) (fun _ z => z.elim)
  obtain ⟨n, hn⟩ : ∃ n, n = (numX (.ok b)).1 := ⟨_, rfl⟩
  obtain ⟨s, hs⟩ : ∃ s, s = (numX (.ok b)).2 := ⟨_, rfl⟩
  rw [← hn]
  rw [← hs] at k2
  obtain ⟨p, hpp⟩ : ∃ p, p = h2.no := ⟨_, rfl⟩
  have pq : q ≠ p := by omega
  have pz0 : h0.no ≠ p := by have := e2.no; omega
  refine ⟨_, by simp; first | done | rfl, ?_⟩
  repeat(first|with_reducible first|refine vmR ?_|refine vmV rfl ?_|refine vmW rfl ?_|refine vmL ?_|refine blockW_y (by decide) ?_|((with_reducible first|apply vmO|apply vmT|apply vmC);case a=>simp [c1, i1, n1, l1];with_reducible first|exact .v|exact .c|exact .t|exact .f))
  rw [← hpp]
  obtain ⟨h3, hh3⟩ : ∃ h3 : Hp Fm, h3 = { h2 with obj := Mp.set (Mp.set h2.obj p (.row [.int .i64 0, .nils])) p (.row [.int .i64 n, .nils]), no := p + 1 } := ⟨_, rfl⟩
  rw [← hh3]
  have e3 : HE hz h3 := by rw [hh3, hpp]; exact (e2.new _).set e2.no _
  have g3 : Mp.get h3.obj p = some (.row [.int .i64 n, .nils]) := by rw [hh3]; simp
  have k3 : RdR h3 q s := k2.of (by rw [hh3]; simp [pq])
  have qn3 : q < h3.no := by rw [hh3]; show q < p + 1; omega
  have pn3 : p < h3.no := by rw [hh3]; show p < p + 1; omega
  clear hh3
  refine A.mono (rrest_ans q s h3 k3) ?_
  rintro _ _ ⟨rfl, eh⟩
  rw [eh]
  clear eh
  obtain ⟨rb, hrb, hrest⟩ : ∃ rb : List UInt8, rb.length ≤ b.length ∧ restOf s = ((rb.length : Nat) : Int) ∧ b.drop (b.length - rb.length) = rb ∧ ((∃ e, s = .error e ∧ rb = []) ∨ s = .ok rb) := by
    cases hnp : numP b with
    | error e =>
      have hx : numX (.ok b) = (0, .error e) := by unfold numX; simp only [hnp]
      rw [hx] at hs
      exact ⟨[], by simp, by rw [hs]; simp [restOf], by simp, .inl ⟨e, hs, rfl⟩⟩
    | ok pr =>
      obtain ⟨m, r⟩ := pr
      have hx : numX (.ok b) = (m, .ok r) := by unfold numX; simp only [hnp]
      rw [hx] at hs
      exact ⟨r, Nat.le_of_lt (numP_len hnp).1, by rw [hs]; simp [restOf], numP_suf hnp, .inr hs⟩
  obtain ⟨hr1, hr2, hr3⟩ := hrest
  rw [hr1]
  obtain ⟨d, hd⟩ : ∃ d, d = b.length - rb.length := ⟨_, rfl⟩
  rw [← hd] at hr2
  have wd : IntKind.i64.wrap ((b.length : Int) - (rb.length : Int)) = (d : Int) := by rw [wrap64 (by omega) (by omega)]; omega
  obtain ⟨rv, hrv, srv⟩ := k.drop Tryz.underlying58 z5 (k := .i64) (i := (d : Int)) (by omega) (by rw [List.length_map]; omega)
  rw [Int.toNat_natCast, ← List.map_drop, hr2] at srv
  have rc := srv.cells
  have ri := srv.isCell
  refine ⟨_, by simp; first | done | rfl, ?_⟩
  repeat(first|with_reducible first|refine vmR ?_|refine vmV rfl ?_|refine vmW rfl ?_|refine vmL ?_|refine blockW_y (by decide) ?_|((with_reducible first|apply vmO|apply vmT|apply vmC);case a=>simp [c1, i1, wd, hrv, rc, ri];with_reducible first|exact .v|exact .c|exact .t|exact .f))
  refine A.mono (rall_ans rb rv h3 srv (by omega) (fun z => by rw [e3.pol]; exact pz z)) ?_
  rintro r h4 ⟨hr, e4⟩
  have e04 := e3.trans e4
  have g4 := (e4.obj _ pn3).trans g3
  have k4 := k3.of (e4.obj _ qn3)
  have pn4 := Nat.lt_of_lt_of_le pn3 e4.no
  have qn4 := Nat.lt_of_lt_of_le qn3 e4.no
  have p4 : ∀ z, h4.pol z = false := fun z => by rw [e04.pol]; exact pz z
  have g4z := (e04.obj _ nz).trans gz
  have ph : hz.no ≤ p := by rw [hpp]; exact e2.no
  cases ha : allX rb with
  | error e =>
    rw [ha] at hr
    obtain ⟨rfl, ne⟩ := hr
    have rn : readP b = none := by
      cases hnp : numP b with
      | error e => exact readP_no hnp
      | ok pr =>
        obtain ⟨m, r⟩ := pr
        have hx : numX (.ok b) = (m, .ok r) := by unfold numX; simp only [hnp]
        rw [hx] at hs
        rcases hr3 with ⟨e, h, _⟩ | h
        · rw [h] at hs; cases hs
        · rw [h] at hs; cases hs
          exact readP_er hnp ha
    rw [rn]
    refine ⟨_, by simp; first | done | rfl, ?_⟩
    repeat(first|with_reducible first|refine vmR ?_|refine vmV rfl ?_|refine vmW rfl ?_|refine vmL ?_|refine blockW_y (by decide) ?_|((with_reducible first|apply vmO|apply vmT|apply vmC);case a=>simp [g4];with_reducible first|exact .v|exact .c|exact .t|exact .f))
    (with_reducible refine W_draw_id (pln := true) [0, 1, 2, 3, 4, 5, 6, 7, 8, 9, 10, 11, 12, 13, 14, 15, 16, 17, 18, 19] [(0, (0, [6, 11, 15, 17])), (9, (9, [])), (13, (13, []))] (by kernel_rfl) rfl ?_)
    repeat(first|with_reducible first|refine vmR ?_|refine vmV rfl ?_|refine vmW rfl ?_|refine vmL ?_|refine blockW_y (by decide) ?_|((with_reducible first|apply vmO|apply vmT|apply vmC);case a=>simp [g4, ne, g4z, pz0, Ne.symm pz0];with_reducible first|exact .v|exact .c|exact .t|exact .f))
    refine ⟨by simp [readSame, beqAV_self, g4, g4z, pz0, Ne.symm pz0]; done, _, by simp; first | done | rfl, ?_⟩
    repeat(first|with_reducible first|refine vmR ?_|refine vmV rfl ?_|refine vmW rfl ?_|refine vmL ?_|refine blockW_y (by decide) ?_|((with_reducible first|apply vmO|apply vmT|apply vmC);case a=>simp;with_reducible first|exact .v|exact .c|exact .t|exact .f))
    (first | apply endW_r | apply endW_n); (case h1 => (simp [Tryz.results40, pz0, Ne.symm pz0]; first | done | rfl))
    refine ⟨⟨n, .nils, [], rfl, .inl ⟨rfl, rfl⟩⟩, ?_⟩
    have e5 : HE h0 h4 := ez.trans e04
    exact ((e5.set (o := p) (by have := ez.no; omega) _).drew).set (o := h0.no) (Nat.le_refl _) _
  | ok vs =>
    rw [ha] at hr
    obtain ⟨u, rfl, su⟩ := hr
    have uc := su.cells
    have ui := su.isCell
    obtain ⟨hvl, hva⟩ := allX_all ha
    have e5 : HE h0 h4 := ez.trans e04
    have hph : h0.no ≤ p := by have := ez.no; omega
    obtain ⟨h5, hh5⟩ : ∃ h5 : Hp Fm, h5 = { h4 with obj := Mp.set h4.obj p (.row [.int .i64 n, u]) } := ⟨_, rfl⟩
    have g5 : Mp.get h5.obj p = some (.row [.int .i64 n, u]) := by rw [hh5]; simp
    have g5z : Mp.get h5.obj h0.no = some (.row [.int .i64 0, .nils]) := by rw [hh5]; simp [pz0]; exact g4z
    have x5 : HE h0 h5 := by rw [hh5]; exact e5.set hph _
    have k5 : RdR h5 q s := k4.of (by rw [hh5]; simp [pq])
    have pn5 : p < h5.no := by rw [hh5]; exact pn4
    have zn5 : h0.no < h5.no := by have := pn5; omega
    have p5 : ∀ z, h5.pol z = false := fun z => by rw [x5.pol]; exact hp z
    refine ⟨_, by simp; first | done | rfl, ?_⟩
    repeat(first|with_reducible first|refine vmR ?_|refine vmV rfl ?_|refine vmW rfl ?_|refine vmL ?_|refine blockW_y (by decide) ?_|((with_reducible first|apply vmO|apply vmT|apply vmC);case a=>simp [g4, uc, ui];with_reducible first|exact .v|exact .c|exact .t|exact .f))
    rw [← hh5]
    clear hh5
    (with_reducible refine W_draw_id (pln := true) [0, 1, 2, 3, 4, 5, 6, 7, 8, 9, 10, 11, 12, 13, 14, 15, 16, 17, 18, 19] [(0, (0, [6, 11, 15, 17])), (9, (9, [])), (13, (13, []))] (by kernel_rfl) rfl ?_)
    repeat(first|with_reducible first|refine vmR ?_|refine vmV rfl ?_|refine vmW rfl ?_|refine vmL ?_|refine blockW_y (by decide) ?_|((with_reducible first|apply vmO|apply vmT|apply vmC);case a=>simp [g5, uc, ui];with_reducible first|exact .v|exact .c|exact .t|exact .f))
    refine A.mono (rerr_ans q s h5.drew (k5.of rfl)) ?_
    rintro _ _ ⟨rfl, eh⟩
    rw [eh]
    clear eh
    rcases hr3 with ⟨e, hse, hre⟩ | hsr
    · rw [hse] at k5 hs ⊢
      have ne := k5.2
      have rn : readP b = none := by
        cases hnp : numP b with
        | error e => exact readP_no hnp
        | ok pr =>
          obtain ⟨m, r⟩ := pr
          have hx : numX (.ok b) = (m, .ok r) := by unfold numX; simp only [hnp]
          rw [hx] at hs; cases hs
      rw [rn]
      simp only [errOf]
      refine ⟨_, by simp; first | done | rfl, ?_⟩
      repeat(first|with_reducible first|refine vmR ?_|refine vmV rfl ?_|refine vmW rfl ?_|refine vmL ?_|refine blockW_y (by decide) ?_|((with_reducible first|apply vmO|apply vmT|apply vmC);case a=>simp [ne, g5z, uc, ui];with_reducible first|exact .v|exact .c|exact .t|exact .f))
      refine ⟨by simp [readSame, beqAV_self, g5, g5z, pz0, Ne.symm pz0]; done, _, by simp; first | done | rfl, ?_⟩
      repeat(first|with_reducible first|refine vmR ?_|refine vmV rfl ?_|refine vmW rfl ?_|refine vmL ?_|refine blockW_y (by decide) ?_|((with_reducible first|apply vmO|apply vmT|apply vmC);case a=>simp;with_reducible first|exact .v|exact .c|exact .t|exact .f))
      (first | apply endW_r | apply endW_n); (case h1 => (simp [Tryz.results40, pz0, Ne.symm pz0]; first | done | rfl))
      exact ⟨⟨n, u, vs, rfl, su⟩, x5.drew.set (o := h0.no) (Nat.le_refl _) _⟩
    rw [hsr] at k5 hs ⊢
    have hnp : numP b = .ok (n, rb) := by
      cases hnp : numP b with
      | error e =>
        have hx : numX (.ok b) = (0, .error e) := by unfold numX; simp only [hnp]
        rw [hx] at hs; cases hs
      | ok pr =>
        obtain ⟨m, r⟩ := pr
        have hx : numX (.ok b) = (m, .ok r) := by unfold numX; simp only [hnp]
        rw [hx] at hs hn
        cases hs; rw [hn]
    rw [readP_ok hnp ha]
    simp only [errOf]
    refine ⟨_, by simp; first | done | rfl, ?_⟩
    repeat(first|with_reducible first|refine vmR ?_|refine vmV rfl ?_|refine vmW rfl ?_|refine vmL ?_|refine blockW_y (by decide) ?_|((with_reducible first|apply vmO|apply vmT|apply vmC);case a=>simp [g5, uc, ui];with_reducible first|exact .v|exact .c|exact .t|exact .f))
    refine A.mono (wmay_ans n vs u h5.drew su (by omega) (fun v hv => by have := (hva v hv).2.1; omega) p5) ?_
    rintro _ h6 ⟨rfl, e6⟩
    have x6 := x5.drew.trans e6
    have g6 := (e6.obj _ (by exact pn5)).trans g5
    have g6z := (e6.obj _ (by exact zn5)).trans g5z
    have pn6 := Nat.lt_of_lt_of_le pn5 e6.no
    have zn6 := Nat.lt_of_lt_of_le zn5 e6.no
    refine ⟨_, by simp; first | done | rfl, ?_⟩
    cases hm : GMay n vs with
    | false =>
      rw [if_neg (by simp)]
      repeat(first|with_reducible first|refine vmR ?_|refine vmV rfl ?_|refine vmW rfl ?_|refine vmL ?_|refine blockW_y (by decide) ?_|((with_reducible first|apply vmO|apply vmT|apply vmC);case a=>simp [g6z, uc, ui];with_reducible first|exact .v|exact .c|exact .t|exact .f))
      refine ⟨by simp [readSame, beqAV_self, g5, g6, g6z, pz0, Ne.symm pz0]; done, _, by simp; first | done | rfl, ?_⟩
      repeat(first|with_reducible first|refine vmR ?_|refine vmV rfl ?_|refine vmW rfl ?_|refine vmL ?_|refine blockW_y (by decide) ?_|((with_reducible first|apply vmO|apply vmT|apply vmC);case a=>simp;with_reducible first|exact .v|exact .c|exact .t|exact .f))
      (first | apply endW_r | apply endW_n); (case h1 => (simp [Tryz.results40, pz0, Ne.symm pz0]; first | done | rfl))
      exact ⟨⟨n, u, vs, rfl, su⟩, x6.set (o := h0.no) (Nat.le_refl _) _⟩
    | true =>
      obtain ⟨hep, hall⟩ := gmay_all hm
      have fl2 := flat_len2 (vs := vs) fun v hv => ⟨vmay_num (hva v hv).1, (hva v hv).2⟩
      have vsm : ∀ v ∈ vs, VSmall v := fun v hv => by have := (hva v hv).2; exact ⟨by have := this.1; omega, by have := this.2; omega⟩
      repeat(first|with_reducible first|refine vmR ?_|refine vmV rfl ?_|refine vmW rfl ?_|refine vmL ?_|refine blockW_y (by decide) ?_|((with_reducible first|apply vmO|apply vmT|apply vmC);case a=>simp [g6, uc, ui];with_reducible first|exact .v|exact .c|exact .t|exact .f))
      refine A.mono (wwrite_big n vs u h6 su (by omega) (by omega) (by omega) (fun v hv => (hva v hv).1) vsm (fun z => by rw [x6.pol]; exact hp z)) ?_
      rintro y h7 ⟨sy, e7⟩
      have x7 := x6.trans e7
      have g7 := (e7.obj _ pn6).trans g6
      have g7z := (e7.obj _ zn6).trans g6z
      have pn7 := Nat.lt_of_lt_of_le pn6 e7.no
      have zn7 := Nat.lt_of_lt_of_le zn6 e7.no
      have yc := sy.cells
      have yi := sy.isCell
      have gl : (encG n vs).length ≤ 100000000 := by
        have el := enc7_len 8 vs.length (by omega)
        have ee := enc7_len 8 n (by omega)
        simp only [encG, encL, encs, List.length_append, List.flatMap_cons, List.flatMap_nil, List.length_nil, Int.toNat_natCast]
        omega
      refine ⟨_, by simp; first | done | rfl, ?_⟩
      repeat(first|with_reducible first|refine vmR ?_|refine vmV rfl ?_|refine vmW rfl ?_|refine vmL ?_|refine blockW_y (by decide) ?_|((with_reducible first|apply vmO|apply vmT|apply vmC);case a=>simp [yc, yi, c1, i1];with_reducible first|exact .v|exact .c|exact .t|exact .f))
      refine A.mono (equal_ans (encG n vs) b y v h7 sy k gl (by omega)) ?_
      rintro _ h8 ⟨rfl, e8⟩
      have x8 := x7.trans e8
      have g8 := (e8.obj _ pn7).trans g7
      have g8z := (e8.obj _ zn7).trans g7z
      refine ⟨_, by simp; first | done | rfl, ?_⟩
      by_cases qe : encG n vs = b
      · rw [if_pos ⟨rfl, qe⟩]
        repeat(first|with_reducible first|refine vmR ?_|refine vmV rfl ?_|refine vmW rfl ?_|refine vmL ?_|refine blockW_y (by decide) ?_|((with_reducible first|apply vmO|apply vmT|apply vmC);case a=>simp [g8z, uc, ui, qe];with_reducible first|exact .v|exact .c|exact .t|exact .f))
        refine ⟨by simp [readSame, beqAV_self, g5, g6, g7, g8, g8z, pz0, Ne.symm pz0]; done, _, by simp; first | done | rfl, ?_⟩
        repeat(first|with_reducible first|refine vmR ?_|refine vmV rfl ?_|refine vmW rfl ?_|refine vmL ?_|refine blockW_y (by decide) ?_|((with_reducible first|apply vmO|apply vmT|apply vmC);case a=>simp;with_reducible first|exact .v|exact .c|exact .t|exact .f))
        (first | apply endW_r | apply endW_n); (case h1 => (simp [Tryz.results40, pz0, Ne.symm pz0]; first | done | rfl))
        exact ⟨⟨u, rfl, su⟩, x8.set (o := h0.no) (Nat.le_refl _) _⟩
      · rw [if_neg (fun z => qe z.2)]
        repeat(first|with_reducible first|refine vmR ?_|refine vmV rfl ?_|refine vmW rfl ?_|refine vmL ?_|refine blockW_y (by decide) ?_|((with_reducible first|apply vmO|apply vmT|apply vmC);case a=>simp [g8z, uc, ui, qe];with_reducible first|exact .v|exact .c|exact .t|exact .f))
        refine ⟨by simp [readSame, beqAV_self, g5, g6, g7, g8, g8z, pz0, Ne.symm pz0]; done, _, by simp; first | done | rfl, ?_⟩
        repeat(first|with_reducible first|refine vmR ?_|refine vmV rfl ?_|refine vmW rfl ?_|refine vmL ?_|refine blockW_y (by decide) ?_|((with_reducible first|apply vmO|apply vmT|apply vmC);case a=>simp;with_reducible first|exact .v|exact .c|exact .t|exact .f))
        (first | apply endW_r | apply endW_n); (case h1 => (simp [Tryz.results40, pz0, Ne.symm pz0]; first | done | rfl))
        exact ⟨⟨n, u, vs, rfl, su⟩, x8.set (o := h0.no) (Nat.le_refl _) _⟩
end Go.Vn

set_option maxRecDepth 20000
namespace Go.Vn
open Go.Proofs

theorem WT_app_i {P : Program} {T : Tab} {ops : Array Oper} {o : Oper} {rest : List Oper} {st : St Fm} {acc : List (St Fm)} {Q : List (St Fm) → Prop} {c : Call} {s x : AV} {t1 t2 : Nat} (hw : want ops st.t o = some true) (ho : o.op = .call c) (hb : c.callee = .builtin .append)
    (ha : c.args.toList.map (ev st.t) = [s, x]) (h1 : c.argTypes[0]? = some t1) (h2 : c.argTypes[1]? = some t2)
    (h : ∃ r h', appendAV P st.h t1 t2 s x = some (r, h') ∧ ∃ s', put { st with h := h' } o.dst r = some s' ∧ WT P T ops rest s' (st :: acc) Q) : WT P T ops (o :: rest) st acc Q := by
  obtain ⟨r, h', e1, s', e2, e3⟩ := h
  refine WT_val_i (v := r) (h' := h') hw ?_ e2 e3
  simp only [opEff, ho, hb, builtinAV, ha, h1, h2, Option.bind_some, e1, valh, Option.map_some]

def grP : Int → List (List UInt8) → List (Int × List Ver) × Nat
  | _, [] => ([], 0)
  | last, f :: fs => match readP f with
    | none => ([], 0)
    | some (ep, vs) => if ep ≤ last then ([], 0) else ((ep, vs) :: (grP ep fs).1, f.length + 8 + (grP ep fs).2)
theorem grP_none {last : Int} {f : List UInt8} {fs : List (List UInt8)} (h : readP f = none) : grP last (f :: fs) = ([], 0) := by rw [grP, h]
theorem grP_old {last ep : Int} {vs : List Ver} {f : List UInt8} {fs : List (List UInt8)} (h : readP f = some (ep, vs)) (k : ep ≤ last) : grP last (f :: fs) = ([], 0) := by rw [grP, h]; dsimp only; rw [if_pos k]
theorem grP_new {last ep : Int} {vs : List Ver} {f : List UInt8} {fs : List (List UInt8)} (h : readP f = some (ep, vs)) (k : ¬ ep ≤ last) : grP last (f :: fs) = ((ep, vs) :: (grP ep fs).1, f.length + 8 + (grP ep fs).2) := by rw [grP, h]; dsimp only; rw [if_neg k]
theorem grP_len : ∀ (last : Int) (fs : List (List UInt8)), (grP last fs).2 ≤ lenFr fs
  | _, [] => by simp [grP]
  | last, f :: fs => by
    cases h : readP f with
    | none => rw [grP_none h]; simp
    | some p =>
      obtain ⟨ep, vs⟩ := p
      by_cases k : ep ≤ last
      · rw [grP_old h k]; simp
      · rw [grP_new h k, lenFr_cons]
        have := grP_len ep fs
        simp only; omega
def lastE : Int → List (Int × List Ver) → Int
  | l, [] => l
  | _, g :: gs => lastE g.1 gs
theorem lastE_app (l : Int) (gs : List (Int × List Ver)) (g : Int × List Ver) : lastE l (gs ++ [g]) = g.1 := by
  induction gs generalizing l with
  | nil => rfl
  | cons a gs ih => exact ih a.1
def GF : List (Int × List Ver) → List AV → Prop
  | [], [] => True
  | g :: gs, w :: ws => (∃ u, w = .agg [.int .i64 g.1, u] ∧ SV 8 (g.2.map encV) u) ∧ GF gs ws
  | _, _ => False
theorem GF.len : ∀ {gs : List (Int × List Ver)} {ws : List AV}, GF gs ws → ws.length = gs.length
  | [], [], _ => rfl
  | _ :: gs, _ :: ws, h => by simp [GF.len h.2]
  | [], _ :: _, h => h.elim
  | _ :: _, [], h => h.elim
theorem GF.app : ∀ {gs : List (Int × List Ver)} {ws : List AV} {ep : Int} {vs : List Ver} {u : AV}, GF gs ws → SV 8 (vs.map encV) u → GF (gs ++ [(ep, vs)]) (ws ++ [.agg [.int .i64 ep, u]])
  | [], [], _, _, u, _, k => ⟨⟨u, rfl, k⟩, trivial⟩
  | _ :: _, _ :: _, _, _, _, h, k => ⟨h.1, GF.app h.2 k⟩
  | [], _ :: _, _, _, _, h, _ => h.elim
  | _ :: _, [], _, _, _, h, _ => h.elim
theorem GF.at : ∀ {gs : List (Int × List Ver)} {ws : List AV} (i : Nat) (h1 : i < gs.length) (h2 : i < ws.length), GF gs ws → ∃ u, ws[i] = .agg [.int .i64 gs[i].1, u] ∧ SV 8 (gs[i].2.map encV) u
  | _ :: _, _ :: _, 0, _, _, h => h.1
  | _ :: _, _ :: _, i + 1, h1, h2, h => GF.at i (by simpa using h1) (by simpa using h2) h.2
  | [], _, _, h1, _, _ => absurd h1 (Nat.not_lt_zero _)
  | _ :: _, [], _, _, h2, _ => absurd h2 (Nat.not_lt_zero _)
theorem etG : ElT Tryz.prog 27 35 2 32 true (.agg [.int .i64 0, .nils]) := ⟨Tryz.underlying27, z35, b35, a35, t35, rfl, rfl, (fun h => by cases h), by omega, by omega⟩
theorem frame_each {b : List UInt8} {f : List UInt8} (h : f ∈ framesP b) : f.length + 8 ≤ b.length := by
  have := framesP_len b
  suffices H : ∀ l : List (List UInt8), f ∈ l → f.length + 8 ≤ lenFr l from Nat.le_trans (H _ h) this
  intro l
  induction l with
  | nil => intro h; cases h
  | cons a l ih =>
    intro h
    rw [lenFr_cons]
    rcases List.mem_cons.mp h with rfl | h
    · omega
    · have := ih h; omega
theorem lenFr_count (l : List (List UInt8)) : l.length * 8 ≤ lenFr l := by
  induction l with
  | nil => simp
  | cons a l ih => rw [lenFr_cons, List.length_cons]; omega

set_option maxHeartbeats 8000000 in
theorem wopen_ans (k cs : Tx) (hk : k.length ≤ 1000000) (p m : Nat) (D : Dk) (w : D.wf) (h0 : Hp Fm) (d : DKs h0 p m D) (hp : ∀ z, h0.pol z = false) (hr : readR k 0 16777216 D = (cs, 0)) (hcs : cs.length ≤ 200000)
    (R : Int × Dk) (hR : R = if (grP 0 (framesP cs)).2 < cs.length then freshD k (cs.take (grP 0 (framesP cs)).2) D else D.sync k) :
    A Tryz.prog TT (.func 16) [.ptr p 0, .str k] h0 (fun r h' => DKs h' p m R.2 ∧ DX p m h0 h' ∧
      ((R.1 = 0 ∧ ∃ q gv ws, r = .tup [.ptr q 0, gv, .int .i64 0] ∧ LGs h' q p k (lastE 0 (grP 0 (framesP cs)).1) false ∧ h0.no ≤ q ∧ SV 2 ws gv ∧ GF (grP 0 (framesP cs)).1 ws) ∨ (R.1 ≠ 0 ∧ r = .tup [.nilp, .nils, .int .i64 R.1]))) := by
  apply A_go Tryz.func16 rfl (by rfl); (case hn => (simp [Tryz.ntmps16]; rfl))
  repeat(first|with_reducible first|refine vmR ?_|refine vmV rfl ?_|refine vmW rfl ?_|refine vmL ?_|refine blockW_y (by decide) ?_|((with_reducible first|apply vmO|apply vmT|apply vmC);case a=>simp [eqlAV];with_reducible first|exact .v|exact .c|exact .t|exact .f))
  refine A.mono (readW k 0 16777216 p m _ w h0 d) ?_
  rintro _ h1 ⟨bv, rfl, nb, e1⟩
  rw [hr] at nb ⊢
  have nb' : SV 1 (cs.map byteAV) bv := by unfold NB at nb; rw [hp] at nb; simpa using nb
  have bc := nb'.cells
  have bi := nb'.isCell
  have bn := nb'.nm
  have bl := nb'.len Tryz.underlying58
  rw [List.length_map] at bl
  obtain ⟨q, hq⟩ : ∃ q, q = h1.no := ⟨_, rfl⟩
  obtain ⟨hg, hhg⟩ : ∃ hg : Hp Fm, hg = { h1 with obj := Mp.set h1.obj q (.row [.ptr p 0, .str k, .int .i64 0, .bool false]), no := q + 1 } := ⟨_, rfl⟩
  have eg : HE h0 hg := by rw [hhg, hq]; exact e1.new _
  have lg : LGs hg q p k 0 false := ⟨by rw [hhg]; simp, by rw [hhg]; show q < q + 1; omega⟩
  have q0 : h0.no ≤ q := by rw [hq]; exact e1.no
  refine ⟨_, by simp; first | done | rfl, ?_⟩
  repeat(first|with_reducible first|refine vmR ?_|refine vmV rfl ?_|refine vmW rfl ?_|refine vmL ?_|refine blockW_y (by decide) ?_|((with_reducible first|apply vmO|apply vmT|apply vmC);case a=>simp [bc, bi];with_reducible first|exact .v|exact .c|exact .t|exact .f))
  rw [← hq, ← hhg]
  clear hhg
  refine A.mono (frames_ans cs bv hg nb' (by omega) (fun z => by rw [eg.pol]; exact hp z)) ?_
  rintro _ h2 ⟨fv, w2, rfl, sw, f2, e2⟩
  have wc := sw.cells
  have wi := sw.isCell
  have wn := sw.nm
  have wl := sw.len Tryz.underlying80
  have fl := f2.len
  have lgl := framesP_len cs
  have lgc := lenFr_count (framesP cs)
  obtain ⟨fr, hfr⟩ : ∃ fr, fr = framesP cs := ⟨_, rfl⟩
  have fe : ∀ f ∈ fr, f.length + 8 ≤ cs.length := fun f hf => frame_each (by rw [← hfr]; exact hf)
  rw [← hfr] at f2 fl lgl lgc hR ⊢
  have lg2 := lg.he e2
  have e02 := eg.trans e2
  refine ⟨_, by simp; first | done | rfl, ?_⟩
  repeat(first|with_reducible first|refine vmR ?_|refine vmV rfl ?_|refine vmW rfl ?_|refine vmL ?_|refine blockW_y (by decide) ?_|((with_reducible first|apply vmO|apply vmT|apply vmC);case a=>simp [wc, wi, wn, wl];with_reducible first|exact .v|exact .c|exact .t|exact .f))
  refine W.mono (R := fun e s => e = .exit 0 ∧ ∃ (t : Fm AV) (h : Hp Fm) (gv : AV) (ws : List AV), s = ⟨t, 94, h, none⟩ ∧ tget t 0 = .ptr p 0 ∧ tget t 1 = .str k ∧ tget t 7 = bv ∧ tget t 9 = .ptr q 0 ∧ tget t 10 = gv ∧ tget t 11 = .int .i64 (grP 0 fr).2 ∧ SV 2 ws gv ∧ GF (grP 0 fr).1 ws ∧ HE h0 h ∧ LGs h q p k (lastE 0 (grP 0 fr).1) false) ?_ ?_
  · refine W_loop (fun mm s => ∃ (t : Fm AV) (h : Hp Fm) (i : Nat) (done : List (Int × List Ver)) (last : Int) (n : Nat) (gv : AV) (ws : List AV), s = ⟨t, 94, h, none⟩ ∧ mm = fr.length - i ∧ i ≤ fr.length ∧ done.length ≤ i ∧ last = lastE 0 done ∧ grP 0 fr = (done ++ (grP last (fr.drop i)).1, n + (grP last (fr.drop i)).2) ∧ tget t 0 = .ptr p 0 ∧ tget t 1 = .str k ∧ tget t 7 = bv ∧ tget t 9 = .ptr q 0 ∧ tget t 10 = gv ∧ tget t 11 = .int .i64 n ∧ tget t 38 = w2 ∧ tget t 39 = .int .i64 fr.length ∧ tget t 40 = .int .i64 i ∧ AC h0 h 2 ws gv ∧ GF done ws ∧ HE h0 h ∧ LGs h q p k last false) fr.length
      ⟨_, _, 0, [], 0, 0, .nils, [], rfl, rfl, by omega, by simp, rfl, by simp, by simp, by simp, by simp, by simp, by simp, by simp, by simp, by simp [fl], by simp, .inl ⟨rfl, rfl⟩, trivial, e02, lg2⟩ ?_
    rintro mm s ⟨t, h, i, done, last, n, gv, ws, rfl, rfl, hi, hdi, hla, hgr, t0, t1, t7, t9, t10, t11, t38, t39, t40, hu, gf, he, lgh⟩
    have uc := hu.sv.cells
    have ui := hu.sv.isCell
    have hph : ∀ z, h.pol z = false := fun z => by rw [he.pol]; exact hp z
    by_cases qi : i < fr.length
    case neg =>
      have qi' : ¬ (i : Int) < fr.length := by omega
      have ed : fr.drop i = [] := List.drop_eq_nil_iff.mpr (by omega)
      rw [ed, grP] at hgr
      simp only [List.append_nil, Nat.add_zero] at hgr
      repeat(first|with_reducible first|refine vmR ?_|refine vmV rfl ?_|refine vmW rfl ?_|refine vmL ?_|refine blockW_y (by decide) ?_|((with_reducible first|apply vmO|apply vmT|apply vmC);case a=>simp [t38, t39, t40, qi, qi'];with_reducible first|exact .v|exact .c|exact .t|exact .f))
      rw [hgr]
      exact ⟨rfl, _, _, gv, ws, rfl, by simp [t0], by simp [t1], by simp [t7], by simp [t9], by simp [t10], by simp [t11], hu.sv, gf, he, by rw [← hla]; exact lgh⟩
    have qi' : (i : Int) < fr.length := by omega
    have hfv : i < fv.length := by omega
    obtain ⟨f, hf⟩ : ∃ f, f = fr[i] := ⟨_, rfl⟩
    have ed : fr.drop i = f :: fr.drop (i + 1) := by rw [hf]; exact List.drop_eq_getElem_cons qi
    have svf : SV 1 (f.map byteAV) fv[i] := by rw [hf]; exact f2.at i qi hfv
    have flen := fe f (by rw [hf]; exact List.getElem_mem qi)
    have ix := sw.idx (k := .i64) (i := (i : Int)) Tryz.underlying80 z58 (by omega) (by simpa using hfv)
    obtain ⟨fa, hfa⟩ : ∃ fa, fa = fv[i] := ⟨_, rfl⟩
    simp only [Int.toNat_natCast, ← hfa] at ix
    rw [← hfa] at svf
    rw [ed] at hgr
    have fc := svf.cells
    have fi := svf.isCell
    have wi1 : IntKind.i64.wrap ((i : Int) + 1) = ((i + 1 : Nat) : Int) := by rw [wrap64 (by omega) (by omega)]; simp
    have lr := lgh.row
    have ln := lgh.qn
    repeat(first|with_reducible first|refine vmR ?_|refine vmV rfl ?_|refine vmW rfl ?_|refine vmL ?_|refine blockW_y (by decide) ?_|((with_reducible first|apply vmO|apply vmT|apply vmC);case a=>simp [t38, t39, t40, qi, qi', ix, fc, fi];with_reducible first|exact .v|exact .c|exact .t|exact .f))
    refine A.mono (wread_ans f fa h svf (by omega) hph) ?_
    rintro r h3 ⟨hr3, e3⟩
    have e03 := he.trans e3
    have lg3 := lgh.he e3
    have hu3 := hu.of e3
    have p3 : ∀ z, h3.pol z = false := fun z => by rw [e03.pol]; exact hp z
    have ln3 := lg3.qn
    have qn3 : q ≠ h3.no := by omega
    have qn3' : h3.no ≠ q := by omega
    cases hrp : readP f with
    | none =>
      rw [hrp] at hr3
      obtain ⟨n0, u, vs, rfl, su⟩ := hr3
      have c3 := su.cells
      have i3 := su.isCell
      rw [grP_none hrp] at hgr
      simp only [List.append_nil, Nat.add_zero] at hgr
      refine ⟨_, by simp; first | done | rfl, ?_⟩
      repeat(first|with_reducible first|refine vmR ?_|refine vmV rfl ?_|refine vmW rfl ?_|refine vmL ?_|refine blockW_y (by decide) ?_|((with_reducible first|apply vmO|apply vmT|apply vmC);case a=>simp [c3, i3];with_reducible first|exact .v|exact .c|exact .t|exact .f))
      (with_reducible refine W_draw_id (pln := true) [0, 1, 2, 3, 4, 5, 6, 7, 8, 9, 10] [(4, (4, [])), (8, (8, []))] (by kernel_rfl) rfl ?_)
      repeat(first|with_reducible first|refine vmR ?_|refine vmV rfl ?_|refine vmW rfl ?_|refine vmL ?_|refine blockW_y (by decide) ?_|((with_reducible first|apply vmO|apply vmT|apply vmC);case a=>simp;with_reducible first|exact .v|exact .c|exact .t|exact .f))
      refine ⟨by first | rfl | (simp; done), _, by simp; first | done | rfl, ?_⟩
      repeat(first|with_reducible first|refine vmR ?_|refine vmV rfl ?_|refine vmW rfl ?_|refine vmL ?_|refine blockW_y (by decide) ?_|((with_reducible first|apply vmO|apply vmT|apply vmC);case a=>simp;with_reducible first|exact .v|exact .c|exact .t|exact .f))
      rw [hgr]
      have e4 := ((HE.refl h3).new (.row [.int .i64 0, .nils])).set (Nat.le_refl _) (.row [.int .i64 n0, u])
      exact ⟨rfl, _, _, gv, ws, rfl, by simp [t0], by simp [t1], by simp [t7], by simp [t9], by simp [t10], by simp [t11], hu.sv, gf, (e03.trans e4).drew, by rw [← hla]; exact lg3.he e4.drew⟩
    | some pr =>
      obtain ⟨ep, vs⟩ := pr
      rw [hrp] at hr3
      obtain ⟨u, rfl, su⟩ := hr3
      have c3 := su.cells
      have i3 := su.isCell
      have lr3 := lg3.row
      obtain ⟨o, ho⟩ : ∃ o, o = h3.no := ⟨_, rfl⟩
      rw [← ho] at qn3 qn3'
      obtain ⟨h4, hh4⟩ : ∃ h4 : Hp Fm, h4 = { h3 with obj := Mp.set (Mp.set h3.obj o (.row [.int .i64 0, .nils])) o (.row [.int .i64 ep, u]), no := o + 1 } := ⟨_, rfl⟩
      have e4 : HE h3 h4 := by rw [hh4, ho]; exact ((HE.refl h3).new _).set (Nat.le_refl _) _
      have g4 : Mp.get h4.obj o = some (.row [.int .i64 ep, u]) := by rw [hh4]; simp
      have lr4 : Mp.get h4.obj q = some (.row [.ptr p 0, .str k, .int .i64 last, .bool false]) := (lg3.he e4).row
      have on4 : o < h4.no := by rw [hh4]; show o < o + 1; omega
      have e04 := e03.trans e4
      have p4 : ∀ z, h4.pol z = false := fun z => by rw [e04.pol]; exact hp z
      refine ⟨_, by simp; first | done | rfl, ?_⟩
      repeat(first|with_reducible first|refine vmR ?_|refine vmV rfl ?_|refine vmW rfl ?_|refine vmL ?_|refine blockW_y (by decide) ?_|((with_reducible first|apply vmO|apply vmT|apply vmC);case a=>simp [c3, i3];with_reducible first|exact .v|exact .c|exact .t|exact .f))
      rw [← ho, ← hh4]
      clear hh4
      by_cases qe : ep ≤ last
      · rw [grP_old hrp qe] at hgr
        simp only [List.append_nil, Nat.add_zero] at hgr
        (with_reducible refine W_draw_id (pln := true) [0, 1, 2, 3, 4, 5, 6, 7, 8, 9, 10] [(4, (4, [])), (8, (8, []))] (by kernel_rfl) rfl ?_)
        repeat(first|with_reducible first|refine vmR ?_|refine vmV rfl ?_|refine vmW rfl ?_|refine vmL ?_|refine blockW_y (by decide) ?_|((with_reducible first|apply vmO|apply vmT|apply vmC);case a=>simp [t9, g4, lr4, c3, i3, qe];with_reducible first|exact .v|exact .c|exact .t|exact .f))
        refine ⟨by simp [readSame, beqAV_self, t9, g4, lr4]; done, _, by simp; first | done | rfl, ?_⟩
        repeat(first|with_reducible first|refine vmR ?_|refine vmV rfl ?_|refine vmW rfl ?_|refine vmL ?_|refine blockW_y (by decide) ?_|((with_reducible first|apply vmO|apply vmT|apply vmC);case a=>simp;with_reducible first|exact .v|exact .c|exact .t|exact .f))
        rw [hgr]
        exact ⟨rfl, _, _, gv, ws, rfl, by simp [t0], by simp [t1], by simp [t7], by simp [t9], by simp [t10], by simp [t11], hu.sv, gf, e04.drew, by rw [← hla]; exact (lg3.he e4).he (HE.refl h4).drew⟩
      · rw [grP_new hrp qe] at hgr
        simp only at hgr
        (with_reducible refine W_draw_id (pln := true) [0, 1, 2, 3, 4, 5, 6, 7, 8, 9, 10] [(4, (4, [])), (8, (8, []))] (by kernel_rfl) rfl ?_)
        repeat(first|with_reducible first|refine vmR ?_|refine vmV rfl ?_|refine vmW rfl ?_|refine vmL ?_|refine blockW_y (by decide) ?_|((with_reducible first|apply vmO|apply vmT|apply vmC);case a=>simp [t9, g4, lr4, c3, i3, qe];with_reducible first|exact .v|exact .c|exact .t|exact .f))
        refine ⟨by simp [readSame, beqAV_self, t9, g4, lr4]; done, _, by simp; first | done | rfl, ?_⟩
        repeat(first|with_reducible first|refine vmR ?_|refine vmV rfl ?_|refine vmW rfl ?_|refine vmL ?_|refine blockW_y (by decide) ?_|((with_reducible first|apply vmO|apply vmT|apply vmC);case a=>simp;with_reducible first|exact .v|exact .c|exact .t|exact .f))
        (with_reducible refine W_draw_id (pln := true) [0, 1, 2, 3, 4, 5, 6, 7, 8, 9, 10] [(2, (2, [])), (6, (6, [0, 4]))] (by kernel_rfl) rfl ?_)
        repeat(first|with_reducible first|refine vmR ?_|refine vmV rfl ?_|refine vmW rfl ?_|refine vmL ?_|refine blockW_y (by decide) ?_|((with_reducible first|apply vmO|apply vmT|apply vmC);case a=>simp [t9, t10, uc, ui, g4, c3, i3, newSeq, newSl, p4];with_reducible first|exact .v|exact .c|exact .t|exact .f))
        with_reducible apply WT_app_i; (case hw => (simp [t9, t10, uc, ui, g4, c3, i3, newSeq, newSl, p4]; done)); (case ho => rfl); (case hb => rfl); (case ha => (simp [t9, t10, uc, ui, g4, c3, i3, newSeq, newSl, p4]; first | done | exact ⟨rfl, rfl⟩ | rfl)); (case h1 => (simp; first | done | rfl)); (case h2 => (simp; first | done | rfl))
        have en1 := ((HE.refl h4).drew).drew.newSl 1
        refine app_then (AC.app (h0 := h0) etG ((hu3.of e4).of en1) (e04.trans en1) (hp _) (by have := gf.len; simp; omega)) ?_
        rintro x5 h5 ⟨ac5, he5, ho5, hn5, _⟩
        have e5 := ac5.sv.cells
        have f5 := ac5.sv.isCell
        have g5 : Mp.get h5.obj o = some (.row [.int .i64 ep, u]) := by rw [ho5]; exact g4
        have lr5 : Mp.get h5.obj q = some (.row [.ptr p 0, .str k, .int .i64 last, .bool false]) := by rw [ho5]; exact lr4
        have qn5 : q < h5.no := by
          have : h5.no = h4.no := hn5
          rw [this]; exact Nat.lt_of_lt_of_le ln3 e4.no
        obtain ⟨h6, hh6⟩ : ∃ h6 : Hp Fm, h6 = { h5 with obj := Mp.set h5.obj q (.row [.ptr p 0, .str k, .int .i64 ep, .bool false]) } := ⟨_, rfl⟩
        have e6 : HE h0 h6 := by rw [hh6]; exact he5.set q0 _
        have a6 : AC h0 h6 2 (ws ++ [.agg [.int .i64 ep, u]]) x5 := by
          rw [hh6]; exact AC.ofX (S := fun _ => True) ac5 ((HX.refl (fun _ => True) (fun _ => False) h5).set (o := q) (fun _ => trivial) _)
        have lg6 : LGs h6 q p k ep false := ⟨by rw [hh6]; simp, by rw [hh6]; exact qn5⟩
        have p6 : ∀ z, h6.pol z = false := fun z => by rw [e6.pol]; exact hp z
        refine ⟨_, by simp; first | done | rfl, ?_⟩
        repeat(first|with_reducible first|refine vmR ?_|refine vmV rfl ?_|refine vmW rfl ?_|refine vmL ?_|refine blockW_y (by decide) ?_|((with_reducible first|apply vmO|apply vmT|apply vmC);case a=>simp [e5, f5, g5, lr5];with_reducible first|exact .v|exact .c|exact .t|exact .f))
        refine ⟨by simp [readSame, beqAV_self, t9, g4, g5, lr5, qn3, qn3']; done, _, by simp; first | done | rfl, ?_⟩
        rw [← hh6]
        clear hh6 ho5 hn5
        have G2 : (grP 0 fr).2 ≤ cs.length := Nat.le_trans (grP_len 0 fr) lgl
        rw [hgr] at G2
        simp only at G2
        obtain ⟨fl8, hfl8⟩ : ∃ fl8, fl8 = f.length + 8 := ⟨_, rfl⟩
        obtain ⟨n2, hn2⟩ : ∃ n2, n2 = n + fl8 := ⟨_, rfl⟩
        repeat(first|with_reducible first|refine vmR ?_|refine vmV rfl ?_|refine vmW rfl ?_|refine vmL ?_|refine blockW_y (by decide) ?_|((with_reducible first|apply vmO|apply vmT|apply vmC);case a=>simp [t11, fc, fi, newSeq, newSl, p6];with_reducible first|exact .v|exact .c|exact .t|exact .f))
        refine A.mono (cframe_ans f fa _ _ _ svf (by omega) (by exact p6 _)) ?_
        rintro y h7 ⟨sy, e7⟩
        have e67 := ((HE.refl h6).newSl 1).trans e7
        have yc := sy.cells
        have yi := sy.isCell
        have yn := sy.nm
        have yl := sy.len Tryz.underlying58
        rw [List.length_map, frame_len, ← hfl8] at yl
        have wn2 : IntKind.i64.wrap ((n : Int) + (fl8 : Int)) = (n2 : Int) := by rw [wrap64 (by omega) (by omega)]; omega
        refine ⟨_, by simp; first | done | rfl, ?_⟩
        repeat(first|with_reducible first|refine vmR ?_|refine vmV rfl ?_|refine vmW rfl ?_|refine vmL ?_|refine blockW_y (by decide) ?_|((with_reducible first|apply vmO|apply vmT|apply vmC);case a=>simp [yc, yi, yn, yl, wn2, t40, wi1];with_reducible first|exact .v|exact .c|exact .t|exact .f))
        refine ⟨fr.length - (i + 1), by omega, _, h7, i + 1, done ++ [(ep, vs)], ep, n2, x5, ws ++ [.agg [.int .i64 ep, u]], rfl, rfl, by omega, by simp; omega, by rw [lastE_app], ?_, by simp [t0], by simp [t1], by simp [t7], by simp [t9], by simp, by simp, by simp [t38], by simp [t39], by simp, a6.of e67, gf.app su, e6.trans e67, lg6.he e67⟩
        rw [hgr, hn2, hfl8, List.append_assoc, List.singleton_append, Nat.add_assoc n]
  rintro _ _ ⟨rfl, t, h, gv, ws, rfl, t0, t1, t7, t9, t10, t11, sg, gf, he, lgh⟩
  have gc := sg.cells
  have gi := sg.isCell
  obtain ⟨G, hG⟩ : ∃ G, G = grP 0 fr := ⟨_, rfl⟩
  rw [← hG] at t11 gf lgh hR ⊢
  have hph : ∀ z, h.pol z = false := fun z => by rw [he.pol]; exact hp z
  have dh := d.he he
  have qp : q ≠ p := by have := d.pn; omega
  have qm : q ≠ m := by have := d.mn; omega
  by_cases qn : G.2 < cs.length
  · have qn' : (G.2 : Int) < cs.length := by omega
    rw [if_pos qn] at hR
    obtain ⟨r1, s1, sv1⟩ := nb'.take Tryz.underlying58 z5 (k := .i64) (i := (G.2 : Int)) (by omega) (by rw [List.length_map]; omega)
    rw [Int.toNat_natCast, ← List.map_take] at sv1
    have d1 := sv1.cells
    have j1 := sv1.isCell
    repeat(first|with_reducible first|refine vmR ?_|refine vmV rfl ?_|refine vmW rfl ?_|refine vmL ?_|refine blockW_y (by decide) ?_|((with_reducible first|apply vmO|apply vmT|apply vmC);case a=>simp [t0, t1, t7, t11, bc, bi, bn, bl, qn, qn', s1, d1, j1];with_reducible first|exact .v|exact .c|exact .t|exact .f))
    refine A.mono (fresh_ans k (cs.take G.2) r1 hk (by rw [List.length_take]; omega) sv1 p m D w h dh hph) ?_
    rw [← hR]
    rintro _ h5 ⟨rfl, d5, x5⟩
    have lg5 := lgh.go x5 qp qm
    have x05 : DX p m h0 h5 := (he.x _ _).trans x5
    obtain ⟨z, hz⟩ : ∃ z, z = R.1 := ⟨_, rfl⟩
    rw [← hz]
    refine ⟨_, by simp; first | done | rfl, ?_⟩
    by_cases z0 : z = 0
    · repeat(first|with_reducible first|refine vmR ?_|refine vmV rfl ?_|refine vmW rfl ?_|refine vmL ?_|refine blockW_y (by decide) ?_|((with_reducible first|apply vmO|apply vmT|apply vmC);case a=>simp [z0, t9, t10, gc, gi];with_reducible first|exact .v|exact .c|exact .t|exact .f))
      (first | apply endW_r | apply endW_n); (case h1 => (simp [Tryz.results16]; first | done | rfl))
      exact ⟨d5, x05, .inl ⟨z0, q, gv, ws, by simp, lg5, q0, sg, gf⟩⟩
    · repeat(first|with_reducible first|refine vmR ?_|refine vmV rfl ?_|refine vmW rfl ?_|refine vmL ?_|refine blockW_y (by decide) ?_|((with_reducible first|apply vmO|apply vmT|apply vmC);case a=>simp [z0];with_reducible first|exact .v|exact .c|exact .t|exact .f))
      (first | apply endW_r | apply endW_n); (case h1 => (simp [Tryz.results16]; first | done | rfl))
      exact ⟨d5, x05, .inr ⟨z0, by simp⟩⟩
  · have qn' : ¬ (G.2 : Int) < cs.length := by omega
    rw [if_neg qn] at hR
    repeat(first|with_reducible first|refine vmR ?_|refine vmV rfl ?_|refine vmW rfl ?_|refine vmL ?_|refine blockW_y (by decide) ?_|((with_reducible first|apply vmO|apply vmT|apply vmC);case a=>simp [t0, t1, t7, t11, bc, bi, bn, bl, qn, qn'];with_reducible first|exact .v|exact .c|exact .t|exact .f))
    refine A.mono (syncW k p m D w h dh) ?_
    rw [← hR]
    rintro _ h5 ⟨rfl, d5, x5⟩
    have lg5 := lgh.go x5 qp qm
    have x05 : DX p m h0 h5 := (he.x _ _).trans x5
    obtain ⟨z, hz⟩ : ∃ z, z = R.1 := ⟨_, rfl⟩
    rw [← hz]
    refine ⟨_, by simp; first | done | rfl, ?_⟩
    by_cases z0 : z = 0
    · repeat(first|with_reducible first|refine vmR ?_|refine vmV rfl ?_|refine vmW rfl ?_|refine vmL ?_|refine blockW_y (by decide) ?_|((with_reducible first|apply vmO|apply vmT|apply vmC);case a=>simp [z0, t9, t10, gc, gi];with_reducible first|exact .v|exact .c|exact .t|exact .f))
      (first | apply endW_r | apply endW_n); (case h1 => (simp [Tryz.results16]; first | done | rfl))
      exact ⟨d5, x05, .inl ⟨z0, q, gv, ws, by simp, lg5, q0, sg, gf⟩⟩
    · repeat(first|with_reducible first|refine vmR ?_|refine vmV rfl ?_|refine vmW rfl ?_|refine vmL ?_|refine blockW_y (by decide) ?_|((with_reducible first|apply vmO|apply vmT|apply vmC);case a=>simp [z0];with_reducible first|exact .v|exact .c|exact .t|exact .f))
      (first | apply endW_r | apply endW_n); (case h1 => (simp [Tryz.results16]; first | done | rfl))
      exact ⟨d5, x05, .inr ⟨z0, by simp⟩⟩
end Go.Vn
