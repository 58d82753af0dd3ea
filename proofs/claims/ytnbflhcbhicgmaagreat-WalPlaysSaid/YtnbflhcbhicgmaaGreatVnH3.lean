/- What functions of the program come to, in the value machine (a part of the proof of the claim's statement). No condition. -/
import Derived.Test.YtnbflhcbhicgmaaGreatVnH2
set_option linter.unusedSimpArgs false
set_option linter.unusedVariables false
set_option maxRecDepth 20000
namespace Go.Vn
open Go.Proofs

theorem sl_mid {v : AV} {b : List UInt8} (k : SV 1 (b.map byteAV) v) (i : Nat) (hi : i + 8 ≤ b.length) : ∃ r, sliceAV Tryz.prog 58 v (some (.int .i64 (i : Int))) (some (.int .i64 ((i + 8 : Nat) : Int))) none = some r ∧ SV 1 (((b.drop i).take 8).map byteAV) r := by
  rcases k with ⟨rfl, e⟩ | ⟨g, off, cp, rfl⟩ | ⟨c, rfl, e⟩
  · have : b = [] := by simpa using e
    subst this; simp at hi
  · refine ⟨.sl g (off + i) 1 (cp - i) (((b.map byteAV).drop i).take 8), ?_, .inr (.inl ⟨_, _, _, by rw [List.map_take, List.map_drop]⟩)⟩
    have h1 : (0 : Int) ≤ (i : Int) + 8 ∧ (i : Int) + 8 ≤ b.length := by omega
    have h2 : ((i : Int) + 8).toNat = i + 8 := by omega
    simp [sliceAV, Tryz.underlying58, obound, bound, h1, h2]
  · have : b = [] := by simpa using e
    subst this; simp at hi

set_option maxHeartbeats 8000000 in
theorem read1_ans (b : List UInt8) (v : AV) (h0 : Hp Fm) (k : SV 1 (b.map byteAV) v) (hl : b.length ≤ 100000) (hp : ∀ z, h0.pol z = false) :
    A Tryz.prog TT (.func 74) [v] h0 (fun r h' => ReadR (readK b) r ∧ HE h0 h') := by
  have c1 := k.cells
  have i1 := k.isCell
  have n1 := k.nm
  have l1 := k.len Tryz.underlying58
  rw [List.length_map] at l1
  have IX : ∀ (i : Nat) (h : i < b.length), indexAddrAV Tryz.prog 58 v (.int .i64 (i : Int)) = some (.el (.int .u8 ((b[i]'h).toNat : Int)) 0) := by
    intro i h
    have ix := k.idx (k := .i64) (i := (i : Int)) Tryz.underlying58 z5 (by omega) (by simp; omega)
    rw [ix]; simp [byteAV]
  apply A_go Tryz.func74 rfl (by rfl); (case hn => (simp [Tryz.ntmps74]; rfl))
  repeat(first|with_reducible first|refine vmR ?_|refine vmV rfl ?_|refine vmW rfl ?_|refine vmL ?_|refine blockW_y (by decide) ?_|((with_reducible first|apply vmO|apply vmT|apply vmC);case a=>simp;with_reducible first|exact .v|exact .c|exact .t|exact .f))
  refine W_loop (fun m s => ∃ (t : Fm AV) (h : Hp Fm) (done : List KP) (i : Nat) (u : AV), s = ⟨t, 108, h, none⟩ ∧ m = b.length - i ∧ i ≤ b.length ∧ done.length ≤ i ∧ cmbK done (readK (b.drop i)) = readK b ∧ tget t 0 = v ∧ tget t 5 = .int .i64 i ∧ tget t 4 = u ∧ AC h0 h 3 (done.map encK) u ∧ HE h0 h) b.length
    ⟨_, _, [], 0, .nils, rfl, rfl, by omega, by simp, cmbK_nil _, by simp, by simp, by simp, .inl ⟨rfl, rfl⟩, HE.refl h0⟩ ?_
  rintro m s ⟨t, h, done, i, u, rfl, rfl, hi, hdl, hfin, t0, t5, t4, hu, he⟩
  have uc := hu.sv.cells
  have ui := hu.sv.isCell
  have hph : ∀ z, h.pol z = false := fun z => by rw [he.pol]; exact hp z
  by_cases qi : i < b.length
  case neg =>
    have qi' : ¬ (i : Int) < b.length := by omega
    have ed : b.drop i = [] := List.drop_eq_nil_iff.mpr (by omega)
    rw [ed, readK_nil] at hfin
    repeat(first|with_reducible first|refine vmR ?_|refine vmV rfl ?_|refine vmW rfl ?_|refine vmL ?_|refine blockW_y (by decide) ?_|((with_reducible first|apply vmO|apply vmT|apply vmC);case a=>simp [t0, t4, t5, c1, i1, n1, l1, uc, ui, qi, qi'];with_reducible first|exact .v|exact .c|exact .t|exact .f))
    (first | apply endW_r | apply endW_n); (case h1 => (simp [Tryz.results74]; first | done | rfl))
    rw [← hfin]
    exact ⟨⟨u, by simp, by simpa [cmbK] using hu.sv⟩, he⟩
  have qi' : (i : Int) < b.length := by omega
  obtain ⟨c, hc⟩ : ∃ c : UInt8, c = b[i] := ⟨_, rfl⟩
  have ed : b.drop i = c :: b.drop (i + 1) := by rw [hc]; exact List.drop_eq_getElem_cons qi
  rw [ed] at hfin
  have ix := IX i qi
  rw [← hc] at ix
  obtain ⟨cn, hcn⟩ : ∃ cn : Nat, cn = c.toNat := ⟨_, rfl⟩
  rw [← hcn] at ix
  obtain ⟨j, hj⟩ : ∃ j, j = i + 1 := ⟨_, rfl⟩
  have w1 : IntKind.i64.wrap ((i : Int) + 1) = (j : Int) := by rw [wrap64 (by omega) (by omega)]; omega
  rw [← hj] at hfin
  have drl : (b.drop j).length = b.length - j := List.length_drop
  by_cases q1 : cn = 1
  · have qc : c = 1 := UInt8.toNat_inj.mp (by rw [← hcn, q1]; rfl)
    subst qc
    have q1' : (cn : Int) = 1 := by omega
    obtain ⟨j8, hj8⟩ : ∃ j8, j8 = j + 8 := ⟨_, rfl⟩
    have w8 : IntKind.i64.wrap ((j : Int) + 8) = (j8 : Int) := by rw [wrap64 (by omega) (by omega)]; omega
    by_cases q8 : b.length < j8
    · have q8' : (b.length : Int) < j8 := by omega
      rw [readK_1s (by omega)] at hfin
      repeat(first|with_reducible first|refine vmR ?_|refine vmV rfl ?_|refine vmW rfl ?_|refine vmL ?_|refine blockW_y (by decide) ?_|((with_reducible first|apply vmO|apply vmT|apply vmC);case a=>simp [t0, t4, t5, c1, i1, n1, l1, uc, ui, qi, qi', ix, q1, q1', w1, w8, q8, q8'];with_reducible first|exact .v|exact .c|exact .t|exact .f))
      (first | apply endW_r | apply endW_n); (case h1 => (simp [Tryz.results74]; first | done | rfl))
      rw [← hfin]
      exact ⟨⟨by simp, by decide⟩, he⟩
    have q8' : ¬ (b.length : Int) < j8 := by omega
    rw [readK_1 (by omega), cmbK_cmbK, List.drop_drop, ← hj8] at hfin
    obtain ⟨rs, hs, svs⟩ := sl_mid k j (by omega)
    rw [← hj8] at hs
    have cs := svs.cells
    have is := svs.isCell
    repeat(first|with_reducible first|refine vmR ?_|refine vmV rfl ?_|refine vmW rfl ?_|refine vmL ?_|refine blockW_y (by decide) ?_|((with_reducible first|apply vmO|apply vmT|apply vmC);case a=>simp [t0, t4, t5, c1, i1, n1, l1, uc, ui, qi, qi', ix, q1, q1', w1, w8, q8, q8', hs];with_reducible first|exact .v|exact .c|exact .t|exact .f))
    refine A.mono (value1_ans _ rs h svs (by rw [List.length_take]; omega)) ?_
    rintro _ _ ⟨rfl, eh⟩
    rw [eh]
    obtain ⟨nn, hnn⟩ : ∃ nn : Int, nn = (val8 ((b.drop j).take 8) : Int) - 9223372036854775808 := ⟨_, rfl⟩
    rw [← hnn] at hfin ⊢
    refine ⟨_, by simp; first | done | rfl, ?_⟩
    repeat(first|with_reducible first|refine vmR ?_|refine vmV rfl ?_|refine vmW rfl ?_|refine vmL ?_|refine blockW_y (by decide) ?_|((with_reducible first|apply vmO|apply vmT|apply vmC);case a=>simp [t4, uc, ui, newSeq, newSl, hph, w8];with_reducible first|exact .v|exact .c|exact .t|exact .f))
    with_reducible apply WO_app_i; (case hw => (simp [t4, uc, ui, newSeq, newSl, hph, w8]; done)); (case ho => rfl); (case hb => rfl); (case ha => (simp [t4, uc, ui, newSeq, newSl, hph, w8]; first | done | exact ⟨rfl, rfl⟩ | rfl)); (case h1 => (simp; first | done | rfl)); (case h2 => (simp; first | done | rfl))
    refine app_then (AC.app (h0 := h0) etP (hu.of ((HE.refl h).newSl 1)) (he.newSl 1) (hp _) (by simp; omega)) ?_
    rintro x4 h4 ⟨ac4, he4, _, _, _⟩
    have e4 := ac4.sv.cells
    have f4 := ac4.sv.isCell
    refine ⟨_, by simp; first | done | rfl, ?_⟩
    repeat(first|with_reducible first|refine vmR ?_|refine vmV rfl ?_|refine vmW rfl ?_|refine vmL ?_|refine blockW_y (by decide) ?_|((with_reducible first|apply vmO|apply vmT|apply vmC);case a=>simp [t0, e4, f4, w8];with_reducible first|exact .v|exact .c|exact .t|exact .f))
    refine ⟨b.length - j8, by omega, _, h4, done ++ [⟨false, nn, []⟩], j8, x4, rfl, rfl, by omega, by simp; omega, hfin, by simp [t0], by simp, by simp, ?_, he4⟩
    have : (done ++ [(⟨false, nn, []⟩ : KP)]).map encK = done.map encK ++ [encPt false nn []] := by simp
    rw [this]; exact ac4
  have q1' : ¬ (cn : Int) = 1 := by omega
  by_cases q2 : cn = 2
  case neg =>
    have q2' : ¬ (cn : Int) = 2 := by omega
    rw [readK_x (fun z => q1 (by rw [hcn, z]; rfl)) (fun z => q2 (by rw [hcn, z]; rfl))] at hfin
    repeat(first|with_reducible first|refine vmR ?_|refine vmV rfl ?_|refine vmW rfl ?_|refine vmL ?_|refine blockW_y (by decide) ?_|((with_reducible first|apply vmO|apply vmT|apply vmC);case a=>simp [t0, t4, t5, c1, i1, n1, l1, uc, ui, qi, qi', ix, q1, q1', w1, q2, q2'];with_reducible first|exact .v|exact .c|exact .t|exact .f))
    (first | apply endW_r | apply endW_n); (case h1 => (simp [Tryz.results74]; first | done | rfl))
    rw [← hfin]
    exact ⟨⟨by simp, by decide⟩, he⟩
  have q2' : (cn : Int) = 2 := by omega
  have qc : c = 2 := UInt8.toNat_inj.mp (by rw [← hcn, q2]; rfl)
  subst qc
  repeat(first|with_reducible first|refine vmR ?_|refine vmV rfl ?_|refine vmW rfl ?_|refine vmL ?_|refine blockW_y (by decide) ?_|((with_reducible first|apply vmO|apply vmT|apply vmC);case a=>simp [t0, t4, t5, c1, i1, n1, l1, uc, ui, qi, qi', ix, q1, q1', w1, q2, q2'];with_reducible first|exact .v|exact .c|exact .t|exact .f))
  refine W_loop (fun m s => ∃ (t : Fm AV) (h' : Hp Fm) (acc : List UInt8) (i' : Nat) (over : Bool) (a : AV), s = ⟨t, 108, h', none⟩ ∧ m = b.length + 1 - i' ∧ j ≤ i' ∧ i' ≤ b.length ∧ acc.length + j ≤ i' ∧ (over = false → cmbW acc (words (b.drop i')) = words (b.drop j)) ∧ (over = true → words (b.drop j) = .ok (acc, b.drop i')) ∧ tget t 0 = v ∧ tget t 5 = .int .i64 i' ∧ tget t 4 = u ∧ tget t 7 = a ∧ tget t 8 = .bool over ∧ AC h h' 1 (acc.map byteAV) a ∧ HE h h') (b.length + 1 - j)
    ⟨_, _, [], j, false, .nils, rfl, rfl, by omega, by omega, by simp, fun _ => cmbW_nil _, fun z => (by cases z), by simp [t0], by simp, by simp [t4], by simp, by simp, .inl ⟨rfl, rfl⟩, HE.refl h⟩ ?_
  clear t0 t5 t4 t
  rintro m s ⟨t, h', acc, i', over, a, rfl, rfl, hji, hil, hal, hw0, hw1, t0, t5, t4, t7, t8, ha, he'⟩
  have ac := ha.sv.cells
  have ai := ha.sv.isCell
  have hu' := hu.of he'
  have he2 := he.trans he'
  have hph' : ∀ z, h'.pol z = false := fun z => by rw [he2.pol]; exact hp z
  cases over with
  | true =>
    have cv := fun h => conv_txt h ha.sv
    replace hw1 := hw1 rfl
    rw [readK_2 hw1, cmbK_cmbK] at hfin
    repeat(first|with_reducible first|refine vmR ?_|refine vmV rfl ?_|refine vmW rfl ?_|refine vmL ?_|refine blockW_y (by decide) ?_|((with_reducible first|apply vmO|apply vmT|apply vmC);case a=>simp [t0, t4, t5, t7, t8, ac, ai, uc, ui, cv, newSeq, newSl, hph'];with_reducible first|exact .v|exact .c|exact .t|exact .f))
    with_reducible apply WO_app_i; (case hw => (simp [t0, t4, t5, t7, t8, ac, ai, uc, ui, cv, newSeq, newSl, hph']; done)); (case ho => rfl); (case hb => rfl); (case ha => (simp [t0, t4, t5, t7, t8, ac, ai, uc, ui, cv, newSeq, newSl, hph']; first | done | exact ⟨rfl, rfl⟩ | rfl)); (case h1 => (simp; first | done | rfl)); (case h2 => (simp; first | done | rfl))
    refine app_then (AC.app (h0 := h0) etP (hu'.of ((HE.refl h').newSl 1)) (he2.newSl 1) (hp _) (by simp; omega)) ?_
    rintro x4 h4 ⟨ac4, he4, _, _, _⟩
    have e4 := ac4.sv.cells
    have f4 := ac4.sv.isCell
    refine ⟨_, by simp; first | done | rfl, ?_⟩
    repeat(first|with_reducible first|refine vmR ?_|refine vmV rfl ?_|refine vmW rfl ?_|refine vmL ?_|refine blockW_y (by decide) ?_|((with_reducible first|apply vmO|apply vmT|apply vmC);case a=>simp [e4, f4];with_reducible first|exact .v|exact .c|exact .t|exact .f))
    refine ⟨b.length - i', by omega, _, h4, done ++ [⟨true, 0, acc⟩], i', x4, rfl, rfl, by omega, by simp; omega, hfin, by simp [t0], by simp [t5], by simp, ?_, he4⟩
    have : (done ++ [(⟨true, 0, acc⟩ : KP)]).map encK = done.map encK ++ [encPt true 0 acc] := by simp
    rw [this]; exact ac4
  | false =>
  replace hw0 := hw0 rfl
  clear hw1
  by_cases p1 : b.length ≤ i'
  · have p1' : (b.length : Int) ≤ i' := by omega
    have ed2 : b.drop i' = [] := List.drop_eq_nil_iff.mpr (by omega)
    rw [ed2, words_nil] at hw0
    rw [readK_2e hw0.symm] at hfin
    repeat(first|with_reducible first|refine vmR ?_|refine vmV rfl ?_|refine vmW rfl ?_|refine vmL ?_|refine blockW_y (by decide) ?_|((with_reducible first|apply vmO|apply vmT|apply vmC);case a=>simp [t0, t4, t5, t7, t8, c1, i1, n1, l1, p1, p1'];with_reducible first|exact .v|exact .c|exact .t|exact .f))
    (first | apply endW_r | apply endW_n); (case h1 => (simp [Tryz.results74]; first | done | rfl))
    rw [← hfin]
    exact ⟨⟨by simp, by decide⟩, he2⟩
  have p1' : ¬ (b.length : Int) ≤ i' := by omega
  have hil2 : i' < b.length := by omega
  obtain ⟨d, hd⟩ : ∃ d : UInt8, d = b[i'] := ⟨_, rfl⟩
  have ed2 : b.drop i' = d :: b.drop (i' + 1) := by rw [hd]; exact List.drop_eq_getElem_cons hil2
  have jx := IX i' hil2
  rw [← hd] at jx
  obtain ⟨dn, hdn⟩ : ∃ dn : Nat, dn = d.toNat := ⟨_, rfl⟩
  rw [← hdn] at jx
  rw [ed2] at hw0
  obtain ⟨j2, hj2⟩ : ∃ j2, j2 = i' + 1 := ⟨_, rfl⟩
  obtain ⟨j3, hj3⟩ : ∃ j3, j3 = i' + 2 := ⟨_, rfl⟩
  have w2 : IntKind.i64.wrap ((i' : Int) + 1) = (j2 : Int) := by rw [wrap64 (by omega) (by omega)]; omega
  have w3 : IntKind.i64.wrap ((i' : Int) + 2) = (j3 : Int) := by rw [wrap64 (by omega) (by omega)]; omega
  rw [← hj2] at hw0
  by_cases q0 : dn = 0
  case neg =>
    have qd : d ≠ 0 := fun z => q0 (by rw [hdn, z]; rfl)
    have q0' : ¬ (dn : Int) = 0 := by omega
    rw [words_nz qd, cmbW_cmbW] at hw0
    repeat(first|with_reducible first|refine vmR ?_|refine vmV rfl ?_|refine vmW rfl ?_|refine vmL ?_|refine blockW_y (by decide) ?_|((with_reducible first|apply vmO|apply vmT|apply vmC);case a=>simp [t0, t4, t5, t7, t8, c1, i1, n1, l1, p1, p1', jx, q0, q0', ac, ai, newSeq, newSl, hph', w2];with_reducible first|exact .v|exact .c|exact .t|exact .f))
    with_reducible apply WO_app_i; (case hw => (simp [t0, t4, t5, t7, t8, c1, i1, n1, l1, p1, p1', jx, q0, q0', ac, ai, newSeq, newSl, hph', w2]; done)); (case ho => rfl); (case hb => rfl); (case ha => (simp [t0, t4, t5, t7, t8, c1, i1, n1, l1, p1, p1', jx, q0, q0', ac, ai, newSeq, newSl, hph', w2]; first | done | exact ⟨rfl, rfl⟩ | rfl)); (case h1 => (simp; first | done | rfl)); (case h2 => (simp; first | done | rfl))
    refine app_then (AC.app (h0 := h) etB (ha.of ((HE.refl h').newSl 1)) (he'.newSl 1) (hph _) (by simp; omega)) ?_
    rintro x4 h4 ⟨ac4, he4, _, _, _⟩
    have e4 := ac4.sv.cells
    have f4 := ac4.sv.isCell
    refine ⟨_, by simp; first | done | rfl, ?_⟩
    repeat(first|with_reducible first|refine vmR ?_|refine vmV rfl ?_|refine vmW rfl ?_|refine vmL ?_|refine blockW_y (by decide) ?_|((with_reducible first|apply vmO|apply vmT|apply vmC);case a=>simp [t5, e4, f4, w2];with_reducible first|exact .v|exact .c|exact .t|exact .f))
    refine ⟨b.length + 1 - j2, by omega, _, h4, acc ++ [d], j2, false, x4, rfl, rfl, by omega, by omega, by simp; omega, fun _ => hw0, fun z => (by cases z), by simp [t0], by simp, by simp [t4], by simp, by simp [t8], ?_, he4⟩
    have : (acc ++ [d]).map byteAV = acc.map byteAV ++ [.int .u8 dn] := by simp [byteAV, hdn]
    rw [this]; exact ac4
  have qd : d = 0 := by rw [q0] at hdn; exact UInt8.toNat_inj.mp hdn.symm
  subst qd
  by_cases p2 : b.length ≤ j2
  · have p2' : (b.length : Int) ≤ j2 := by omega
    have ed3 : b.drop j2 = [] := List.drop_eq_nil_iff.mpr (by omega)
    rw [ed3, words_z1] at hw0
    rw [readK_2e hw0.symm] at hfin
    repeat(first|with_reducible first|refine vmR ?_|refine vmV rfl ?_|refine vmW rfl ?_|refine vmL ?_|refine blockW_y (by decide) ?_|((with_reducible first|apply vmO|apply vmT|apply vmC);case a=>simp [t0, t4, t5, t7, t8, c1, i1, n1, l1, p1, p1', jx, q0, w2, p2, p2'];with_reducible first|exact .v|exact .c|exact .t|exact .f))
    (first | apply endW_r | apply endW_n); (case h1 => (simp [Tryz.results74]; first | done | rfl))
    rw [← hfin]
    exact ⟨⟨by simp, by decide⟩, he2⟩
  have p2' : ¬ (b.length : Int) ≤ j2 := by omega
  have hil3 : j2 < b.length := by omega
  obtain ⟨f, hf⟩ : ∃ f : UInt8, f = b[j2] := ⟨_, rfl⟩
  have ed3 : b.drop j2 = f :: b.drop j3 := by rw [show j3 = j2 + 1 by omega, hf]; exact List.drop_eq_getElem_cons hil3
  have kx := IX j2 hil3
  rw [← hf] at kx
  obtain ⟨fn, hfn⟩ : ∃ fn : Nat, fn = f.toNat := ⟨_, rfl⟩
  rw [← hfn] at kx
  rw [ed3] at hw0
  by_cases r255 : fn = 255
  · have qf : f = 255 := UInt8.toNat_inj.mp (by rw [← hfn, r255]; rfl)
    subst qf
    have r255' : (fn : Int) = 255 := by omega
    have r1 : ¬ (fn : Int) = 1 := by omega
    have r1' : ¬ fn = 1 := by omega
    rw [words_zf, cmbW_cmbW] at hw0
    repeat(first|with_reducible first|refine vmR ?_|refine vmV rfl ?_|refine vmW rfl ?_|refine vmL ?_|refine blockW_y (by decide) ?_|((with_reducible first|apply vmO|apply vmT|apply vmC);case a=>simp [t0, t4, t5, t7, t8, c1, i1, n1, l1, p1, p1', jx, q0, w2, p2, p2', kx, r255, r255', r1, r1', ac, ai, newSeq, newSl, hph'];with_reducible first|exact .v|exact .c|exact .t|exact .f))
    with_reducible apply WO_app_i; (case hw => (simp [t0, t4, t5, t7, t8, c1, i1, n1, l1, p1, p1', jx, q0, w2, p2, p2', kx, r255, r255', r1, r1', ac, ai, newSeq, newSl, hph']; done)); (case ho => rfl); (case hb => rfl); (case ha => (simp [t0, t4, t5, t7, t8, c1, i1, n1, l1, p1, p1', jx, q0, w2, p2, p2', kx, r255, r255', r1, r1', ac, ai, newSeq, newSl, hph']; first | done | exact ⟨rfl, rfl⟩ | rfl)); (case h1 => (simp; first | done | rfl)); (case h2 => (simp; first | done | rfl))
    refine app_then (AC.app (h0 := h) etB (ha.of ((HE.refl h').newSl 1)) (he'.newSl 1) (hph _) (by simp; omega)) ?_
    rintro x4 h4 ⟨ac4, he4, _, _, _⟩
    have e4 := ac4.sv.cells
    have f4 := ac4.sv.isCell
    refine ⟨_, by simp; first | done | rfl, ?_⟩
    repeat(first|with_reducible first|refine vmR ?_|refine vmV rfl ?_|refine vmW rfl ?_|refine vmL ?_|refine blockW_y (by decide) ?_|((with_reducible first|apply vmO|apply vmT|apply vmC);case a=>simp [t5, e4, f4, w3];with_reducible first|exact .v|exact .c|exact .t|exact .f))
    refine ⟨b.length + 1 - j3, by omega, _, h4, acc ++ [0], j3, false, x4, rfl, rfl, by omega, by omega, by simp; omega, fun _ => hw0, fun z => (by cases z), by simp [t0], by simp, by simp [t4], by simp, by simp, ?_, he4⟩
    have : (acc ++ [(0 : UInt8)]).map byteAV = acc.map byteAV ++ [.int .u8 0] := by simp [byteAV]
    rw [this]; exact ac4
  have r255' : ¬ (fn : Int) = 255 := by omega
  by_cases r1 : fn = 1
  · have qf : f = 1 := UInt8.toNat_inj.mp (by rw [← hfn, r1]; rfl)
    subst qf
    have r1' : (fn : Int) = 1 := by omega
    rw [words_zo] at hw0
    repeat(first|with_reducible first|refine vmR ?_|refine vmV rfl ?_|refine vmW rfl ?_|refine vmL ?_|refine blockW_y (by decide) ?_|((with_reducible first|apply vmO|apply vmT|apply vmC);case a=>simp [t0, t4, t5, t7, t8, c1, i1, n1, l1, p1, p1', jx, q0, w2, p2, p2', kx, r255, r255', r1, r1', w3];with_reducible first|exact .v|exact .c|exact .t|exact .f))
    refine ⟨b.length + 1 - j3, by omega, _, h', acc, j3, true, a, rfl, rfl, by omega, by omega, by omega, fun z => (by cases z), fun _ => (by rw [← hw0]; simp [cmbW]), by simp [t0], by simp, by simp [t4], by simp [t7], by simp, ha, he'⟩
  have r1' : ¬ (fn : Int) = 1 := by omega
  rw [words_zb (fun z => r255 (by rw [hfn, z]; rfl)) (fun z => r1 (by rw [hfn, z]; rfl))] at hw0
  rw [readK_2e hw0.symm] at hfin
  repeat(first|with_reducible first|refine vmR ?_|refine vmV rfl ?_|refine vmW rfl ?_|refine vmL ?_|refine blockW_y (by decide) ?_|((with_reducible first|apply vmO|apply vmT|apply vmC);case a=>simp [t0, t4, t5, t7, t8, c1, i1, n1, l1, p1, p1', jx, q0, w2, p2, p2', kx, r255, r255', r1, r1'];with_reducible first|exact .v|exact .c|exact .t|exact .f))
  (first | apply endW_r | apply endW_n); (case h1 => (simp [Tryz.results74]; first | done | rfl))
  rw [← hfin]
  exact ⟨⟨by simp, by decide⟩, he2⟩
end Go.Vn

set_option maxRecDepth 20000
namespace Go.Vn
open Go.Proofs

set_option maxHeartbeats 4000000 in
theorem split1_ans (k : List UInt8) (h0 : Hp Fm) (hl : k.length ≤ 100000) (hp : ∀ z, h0.pol z = false) :
    A Tryz.prog TT (.func 53) [.str k] h0 (fun r h' => SplitR k r ∧ HE h0 h') := by
  have cb := conv_b h0 k hl
  have e0 := (HE.refl h0).drew.newSl k.length
  apply A_go Tryz.func53 rfl (by rfl); (case hn => (simp [Tryz.ntmps53]; rfl))
  repeat(first|with_reducible first|refine vmR ?_|refine vmV rfl ?_|refine vmW rfl ?_|refine vmL ?_|refine blockW_y (by decide) ?_|((with_reducible first|apply vmO|apply vmT|apply vmC);case a=>simp [cb];with_reducible first|exact .v|exact .c|exact .t|exact .f))
  refine A.mono (read1_ans k _ _ (.inr (.inl ⟨_, _, _, rfl⟩)) hl (by exact hp)) ?_
  rintro r h1 ⟨hr, e1⟩
  have e01 := e0.trans e1
  have p1 : ∀ z, h1.pol z = false := fun z => by rw [e01.pol]; exact hp z
  cases hk : readK k with
  | error e =>
    rw [hk] at hr
    obtain ⟨rfl, hne⟩ := hr
    refine ⟨_, by simp; first | done | rfl, ?_⟩
    repeat(first|with_reducible first|refine vmR ?_|refine vmV rfl ?_|refine vmW rfl ?_|refine vmL ?_|refine blockW_y (by decide) ?_|((with_reducible first|apply vmO|apply vmT|apply vmC);case a=>simp [hne];with_reducible first|exact .v|exact .c|exact .t|exact .f))
    (first | apply endW_r | apply endW_n); (case h1 => (simp [Tryz.results53]; first | done | rfl))
    exact ⟨⟨0, [], e, by simp, by simp [keyOk, hk, hne]⟩, e01⟩
  | ok l =>
    rw [hk] at hr
    obtain ⟨v, rfl, sv⟩ := hr
    have c1 := sv.cells
    have i1 := sv.isCell
    have n1 := sv.nm
    have l1 := sv.len Tryz.underlying113
    rw [List.length_map] at l1
    refine ⟨_, by simp; first | done | rfl, ?_⟩
    by_cases q2 : l.length = 2
    case neg =>
      have q2' : ¬ (l.length : Int) = 2 := by omega
      have kf : keyOk k = false := by
        unfold keyOk; rw [hk]
        split
        · rename_i e; cases e; simp at q2
        · rfl
      repeat(first|with_reducible first|refine vmR ?_|refine vmV rfl ?_|refine vmW rfl ?_|refine vmL ?_|refine blockW_y (by decide) ?_|((with_reducible first|apply vmO|apply vmT|apply vmC);case a=>simp [c1, i1, n1, l1, q2, q2'];with_reducible first|exact .v|exact .c|exact .t|exact .f))
      (first | apply endW_r | apply endW_n); (case h1 => (simp [Tryz.results53]; first | done | rfl))
      exact ⟨⟨0, [], 2, by simp, by simp [kf]⟩, e01⟩
    obtain ⟨p, q, rfl⟩ : ∃ p q, l = [p, q] := by
      match l, q2 with
      | [p, q], _ => exact ⟨p, q, rfl⟩
    have ix0 := sv.idx (k := .i64) (i := 0) Tryz.underlying113 z117 (by omega) (by simp)
    have ix1 := sv.idx (k := .i64) (i := 1) Tryz.underlying113 z117 (by omega) (by simp)
    replace ix0 : indexAddrAV Tryz.prog 113 v (.int .i64 0) = some (.el (encPt p.isT p.num p.txt) 0) := by rw [ix0]; simp
    replace ix1 : indexAddrAV Tryz.prog 113 v (.int .i64 1) = some (.el (encPt q.isT q.num q.txt) 0) := by rw [ix1]; simp
    have ko : keyOk k = (!p.isT && q.isT && decide (0 ≤ p.num) && decide (p.num ≤ 3) && decide (q.txt.length ≤ 40)) := by unfold keyOk; rw [hk]
    have l2 : lenAV Tryz.prog 113 v = some (.int .i64 2) := by rw [l1]; simp
    obtain ⟨pt, pn, ps⟩ := p
    obtain ⟨qt, qn, qs⟩ := q
    simp only at ix0 ix1 ko
    clear hk sv q2
    cases pt with
    | true =>
      repeat(first|with_reducible first|refine vmR ?_|refine vmV rfl ?_|refine vmW rfl ?_|refine vmL ?_|refine blockW_y (by decide) ?_|((with_reducible first|apply vmO|apply vmT|apply vmC);case a=>simp [c1, i1, n1, l2, ix0, ix1, encPt];with_reducible first|exact .v|exact .c|exact .t|exact .f))
      (first | apply endW_r | apply endW_n); (case h1 => (simp [Tryz.results53]; first | done | rfl))
      exact ⟨⟨0, [], 2, by simp, by simp [ko]⟩, e01⟩
    | false =>
      cases qt with
      | false =>
        repeat(first|with_reducible first|refine vmR ?_|refine vmV rfl ?_|refine vmW rfl ?_|refine vmL ?_|refine blockW_y (by decide) ?_|((with_reducible first|apply vmO|apply vmT|apply vmC);case a=>simp [c1, i1, n1, l2, ix0, ix1, encPt];with_reducible first|exact .v|exact .c|exact .t|exact .f))
        (first | apply endW_r | apply endW_n); (case h1 => (simp [Tryz.results53]; first | done | rfl))
        exact ⟨⟨0, [], 2, by simp, by simp [ko]⟩, e01⟩
      | true =>
        by_cases q1a : pn < 0
        · repeat(first|with_reducible first|refine vmR ?_|refine vmV rfl ?_|refine vmW rfl ?_|refine vmL ?_|refine blockW_y (by decide) ?_|((with_reducible first|apply vmO|apply vmT|apply vmC);case a=>simp [c1, i1, n1, l2, ix0, ix1, encPt, q1a];with_reducible first|exact .v|exact .c|exact .t|exact .f))
          (first | apply endW_r | apply endW_n); (case h1 => (simp [Tryz.results53]; first | done | rfl))
          exact ⟨⟨0, [], 2, by simp, by simp [ko]; omega⟩, e01⟩
        by_cases q1b : 3 < pn
        · repeat(first|with_reducible first|refine vmR ?_|refine vmV rfl ?_|refine vmW rfl ?_|refine vmL ?_|refine blockW_y (by decide) ?_|((with_reducible first|apply vmO|apply vmT|apply vmC);case a=>simp [c1, i1, n1, l2, ix0, ix1, encPt, q1a, q1b];with_reducible first|exact .v|exact .c|exact .t|exact .f))
          (first | apply endW_r | apply endW_n); (case h1 => (simp [Tryz.results53]; first | done | rfl))
          exact ⟨⟨0, [], 2, by simp, by simp [ko]; omega⟩, e01⟩
        by_cases q3 : 40 < qs.length
        · have q3' : (40 : Int) < qs.length := by omega
          repeat(first|with_reducible first|refine vmR ?_|refine vmV rfl ?_|refine vmW rfl ?_|refine vmL ?_|refine blockW_y (by decide) ?_|((with_reducible first|apply vmO|apply vmT|apply vmC);case a=>simp [c1, i1, n1, l2, ix0, ix1, encPt, q1a, q1b, q3, q3'];with_reducible first|exact .v|exact .c|exact .t|exact .f))
          (first | apply endW_r | apply endW_n); (case h1 => (simp [Tryz.results53]; first | done | rfl))
          exact ⟨⟨0, [], 2, by simp, by simp [ko]; omega⟩, e01⟩
        have q3' : ¬ (40 : Int) < qs.length := by omega
        repeat(first|with_reducible first|refine vmR ?_|refine vmV rfl ?_|refine vmW rfl ?_|refine vmL ?_|refine blockW_y (by decide) ?_|((with_reducible first|apply vmO|apply vmT|apply vmC);case a=>simp [c1, i1, n1, l2, ix0, ix1, encPt, q1a, q1b, q3, q3'];with_reducible first|exact .v|exact .c|exact .t|exact .f))
        (with_reducible refine W_draw_id (pln := true) [0, 1, 2, 3, 4, 5, 6, 7, 8, 9, 10] [(3, (3, [])), (7, (7, []))] (by kernel_rfl) rfl ?_)
        repeat(first|with_reducible first|refine vmR ?_|refine vmV rfl ?_|refine vmW rfl ?_|refine vmL ?_|refine blockW_y (by decide) ?_|((with_reducible first|apply vmO|apply vmT|apply vmC);case a=>simp [c1, i1, n1, l2, ix0, ix1, encPt];with_reducible first|exact .v|exact .c|exact .t|exact .f))
        refine ⟨by simp [readSame, beqAV_self, c1, i1, ix0, ix1, encPt]; done, _, by simp; first | done | rfl, ?_⟩
        repeat(first|with_reducible first|refine vmR ?_|refine vmV rfl ?_|refine vmW rfl ?_|refine vmL ?_|refine blockW_y (by decide) ?_|((with_reducible first|apply vmO|apply vmT|apply vmC);case a=>simp;with_reducible first|exact .v|exact .c|exact .t|exact .f))
        (first | apply endW_r | apply endW_n); (case h1 => (simp [Tryz.results53]; first | done | rfl))
        exact ⟨⟨pn, qs, 0, by simp, by simp [ko]; omega⟩, e01.drew⟩

def VMay (v : Ver) : Bool := keyOk v.key && decide (0 ≤ v.br ∧ v.br ≤ 15) && decide (1 ≤ v.ep ∧ v.ep ≤ 10000) && decide (1 ≤ v.sq ∧ v.sq ≤ 100000) && decide (SpMay v.fr v.to) && decide (v.val.length ≤ 200) && (!v.gone || v.val.isEmpty)
theorem eqB_nil (s : List UInt8) : eqB s [] = s.isEmpty := by cases s <;> rfl
set_option maxHeartbeats 4000000 in
theorem rmay_ans (v : Ver) (h0 : Hp Fm) (hl : v.key.length ≤ 100000) (hp : ∀ z, h0.pol z = false) :
    A Tryz.prog TT (.func 56) [encV v] h0 (fun r h' => r = .bool (VMay v) ∧ HE h0 h') := by
  obtain ⟨key, br, ep, sq, fr, to, val, gone⟩ := v
  simp only at hl
  have e0 := (HE.refl h0).new (.row [.str key, .int .i64 br, .int .i64 ep, .int .i64 sq, .int .i64 fr, .int .i64 to, .str val, .bool gone])
  apply A_go Tryz.func56 rfl (by rfl); (case hn => (simp [Tryz.ntmps56]; rfl))
  repeat(first|with_reducible first|refine vmR ?_|refine vmV rfl ?_|refine vmW rfl ?_|refine vmL ?_|refine blockW_y (by decide) ?_|((with_reducible first|apply vmO|apply vmT|apply vmC);case a=>simp;with_reducible first|exact .v|exact .c|exact .t|exact .f))
  refine A.mono (osplit_ans key _ hl (by exact hp)) ?_
  rintro _ h1 ⟨⟨a, s, e, rfl, hk⟩, e1⟩
  have e01 := e0.trans e1
  have g1 : Mp.get h1.obj h0.no = some (.row [.str key, .int .i64 br, .int .i64 ep, .int .i64 sq, .int .i64 fr, .int .i64 to, .str val, .bool gone]) := (e1.obj _ (by show h0.no < h0.no + 1; omega)).trans (by simp)
  have n1 : h0.no < h1.no := Nat.lt_of_lt_of_le (by show h0.no < h0.no + 1; omega) e1.no
  clear e0 e1
  refine ⟨_, by simp; first | done | rfl, ?_⟩
  repeat(first|with_reducible first|refine vmR ?_|refine vmV rfl ?_|refine vmW rfl ?_|refine vmL ?_|refine blockW_y (by decide) ?_|((with_reducible first|apply vmO|apply vmT|apply vmC);case a=>simp [g1];with_reducible first|exact .v|exact .c|exact .t|exact .f))
  refine A.mono (rin_ans br 0 15 h1) ?_
  rintro _ _ ⟨rfl, eh⟩
  rw [eh]
  clear eh
  obtain ⟨zq1, hb1⟩ : ∃ z, z = decide (0 ≤ br ∧ br ≤ 15) := ⟨_, rfl⟩
  rw [← hb1]
  refine ⟨_, by simp; first | done | rfl, ?_⟩
  cases zq1
  case false =>
    by_cases qe : e = 0
    all_goals
      repeat(first|with_reducible first|refine vmR ?_|refine vmV rfl ?_|refine vmW rfl ?_|refine vmL ?_|refine blockW_y (by decide) ?_|((with_reducible first|apply vmO|apply vmT|apply vmC);case a=>simp [g1, qe];with_reducible first|exact .v|exact .c|exact .t|exact .f))
      (first | apply endW_r | apply endW_n); (case h1 => (simp [Tryz.results56]; first | done | rfl))
      exact ⟨by unfold VMay; simp only [← hb1]; simp, e01⟩
  repeat(first|with_reducible first|refine vmR ?_|refine vmV rfl ?_|refine vmW rfl ?_|refine vmL ?_|refine blockW_y (by decide) ?_|((with_reducible first|apply vmO|apply vmT|apply vmC);case a=>simp [g1];with_reducible first|exact .v|exact .c|exact .t|exact .f))
  refine A.mono (rin_ans ep 1 10000 h1) ?_
  rintro _ _ ⟨rfl, eh⟩
  rw [eh]
  clear eh
  obtain ⟨zq2, hb2⟩ : ∃ z, z = decide (1 ≤ ep ∧ ep ≤ 10000) := ⟨_, rfl⟩
  rw [← hb2]
  refine ⟨_, by simp; first | done | rfl, ?_⟩
  cases zq2
  case false =>
    by_cases qe : e = 0
    all_goals
      repeat(first|with_reducible first|refine vmR ?_|refine vmV rfl ?_|refine vmW rfl ?_|refine vmL ?_|refine blockW_y (by decide) ?_|((with_reducible first|apply vmO|apply vmT|apply vmC);case a=>simp [g1, qe];with_reducible first|exact .v|exact .c|exact .t|exact .f))
      (first | apply endW_r | apply endW_n); (case h1 => (simp [Tryz.results56]; first | done | rfl))
      exact ⟨by unfold VMay; simp only [← hb2]; simp, e01⟩
  repeat(first|with_reducible first|refine vmR ?_|refine vmV rfl ?_|refine vmW rfl ?_|refine vmL ?_|refine blockW_y (by decide) ?_|((with_reducible first|apply vmO|apply vmT|apply vmC);case a=>simp [g1];with_reducible first|exact .v|exact .c|exact .t|exact .f))
  refine A.mono (rin_ans sq 1 100000 h1) ?_
  rintro _ _ ⟨rfl, eh⟩
  rw [eh]
  clear eh
  obtain ⟨zq3, hb3⟩ : ∃ z, z = decide (1 ≤ sq ∧ sq ≤ 100000) := ⟨_, rfl⟩
  rw [← hb3]
  refine ⟨_, by simp; first | done | rfl, ?_⟩
  cases zq3
  case false =>
    by_cases qe : e = 0
    all_goals
      repeat(first|with_reducible first|refine vmR ?_|refine vmV rfl ?_|refine vmW rfl ?_|refine vmL ?_|refine blockW_y (by decide) ?_|((with_reducible first|apply vmO|apply vmT|apply vmC);case a=>simp [g1, qe];with_reducible first|exact .v|exact .c|exact .t|exact .f))
      (first | apply endW_r | apply endW_n); (case h1 => (simp [Tryz.results56]; first | done | rfl))
      exact ⟨by unfold VMay; simp only [← hb3]; simp, e01⟩
  by_cases qe : e = 0
  case neg =>
    have hk' : keyOk key = false := by rw [← hk]; simp [qe]
    repeat(first|with_reducible first|refine vmR ?_|refine vmV rfl ?_|refine vmW rfl ?_|refine vmL ?_|refine blockW_y (by decide) ?_|((with_reducible first|apply vmO|apply vmT|apply vmC);case a=>simp [g1, qe];with_reducible first|exact .v|exact .c|exact .t|exact .f))
    (first | apply endW_r | apply endW_n); (case h1 => (simp [Tryz.results56]; first | done | rfl))
    exact ⟨by simp [VMay, hk'], e01⟩
  have hk' : keyOk key = true := by rw [← hk]; simp [qe]
  repeat(first|with_reducible first|refine vmR ?_|refine vmV rfl ?_|refine vmW rfl ?_|refine vmL ?_|refine blockW_y (by decide) ?_|((with_reducible first|apply vmO|apply vmT|apply vmC);case a=>simp [g1, qe];with_reducible first|exact .v|exact .c|exact .t|exact .f))
  refine A.mono (smay_ans fr to h1) ?_
  rintro _ h2 ⟨rfl, e2⟩
  have g2 : Mp.get h2.obj h0.no = some (.row [.str key, .int .i64 br, .int .i64 ep, .int .i64 sq, .int .i64 fr, .int .i64 to, .str val, .bool gone]) := (e2.obj _ n1).trans g1
  have e02 := e01.trans e2
  refine ⟨_, by simp; first | done | rfl, ?_⟩
  by_cases q4 : SpMay fr to
  case neg =>
    repeat(first|with_reducible first|refine vmR ?_|refine vmV rfl ?_|refine vmW rfl ?_|refine vmL ?_|refine blockW_y (by decide) ?_|((with_reducible first|apply vmO|apply vmT|apply vmC);case a=>simp [g2, q4];with_reducible first|exact .v|exact .c|exact .t|exact .f))
    (first | apply endW_r | apply endW_n); (case h1 => (simp [Tryz.results56]; first | done | rfl))
    exact ⟨by simp [VMay, q4], e02⟩
  by_cases q5 : val.length ≤ 200
  case neg =>
    have q5' : ¬ (val.length : Int) ≤ 200 := by omega
    repeat(first|with_reducible first|refine vmR ?_|refine vmV rfl ?_|refine vmW rfl ?_|refine vmL ?_|refine blockW_y (by decide) ?_|((with_reducible first|apply vmO|apply vmT|apply vmC);case a=>simp [g2, q4, q5, q5'];with_reducible first|exact .v|exact .c|exact .t|exact .f))
    (first | apply endW_r | apply endW_n); (case h1 => (simp [Tryz.results56]; first | done | rfl))
    exact ⟨by simp [VMay, q5], e02⟩
  have q5' : (val.length : Int) ≤ 200 := by omega
  cases gone with
  | false =>
    repeat(first|with_reducible first|refine vmR ?_|refine vmV rfl ?_|refine vmW rfl ?_|refine vmL ?_|refine blockW_y (by decide) ?_|((with_reducible first|apply vmO|apply vmT|apply vmC);case a=>simp [g2, q4, q5, q5'];with_reducible first|exact .v|exact .c|exact .t|exact .f))
    (first | apply endW_r | apply endW_n); (case h1 => (simp [Tryz.results56]; first | done | rfl))
    exact ⟨by unfold VMay; simp only [← hb1, ← hb2, ← hb3]; simp [q4, q5, hk'], e02⟩
  | true =>
    repeat(first|with_reducible first|refine vmR ?_|refine vmV rfl ?_|refine vmW rfl ?_|refine vmL ?_|refine blockW_y (by decide) ?_|((with_reducible first|apply vmO|apply vmT|apply vmC);case a=>simp [g2, q4, q5, q5', eqB_nil];with_reducible first|exact .v|exact .c|exact .t|exact .f))
    (first | apply endW_r | apply endW_n); (case h1 => (simp [Tryz.results56]; first | done | rfl))
    exact ⟨by unfold VMay; simp only [← hb1, ← hb2, ← hb3]; simp [q4, q5, hk'], e02⟩

set_option maxHeartbeats 4000000 in
theorem may6_ans (v : Ver) (h0 : Hp Fm) (hl : v.key.length ≤ 100000) (hp : ∀ z, h0.pol z = false) :
    A Tryz.prog TT (.func 31) [encV v] h0 (fun r h' => r = .bool (VMay v) ∧ HE h0 h') := by
  obtain ⟨key, br, ep, sq, fr, to, val, gone⟩ := v
  simp only at hl
  have e0 := (HE.refl h0).new (.row [.str key, .int .i64 br, .int .i64 ep, .int .i64 sq, .int .i64 fr, .int .i64 to, .str val, .bool gone])
  apply A_go Tryz.func31 rfl (by rfl); (case hn => (simp [Tryz.ntmps31]; rfl))
  repeat(first|with_reducible first|refine vmR ?_|refine vmV rfl ?_|refine vmW rfl ?_|refine vmL ?_|refine blockW_y (by decide) ?_|((with_reducible first|apply vmO|apply vmT|apply vmC);case a=>simp;with_reducible first|exact .v|exact .c|exact .t|exact .f))
  refine A.mono (split1_ans key _ hl (by exact hp)) ?_
  rintro _ h1 ⟨⟨a, s, e, rfl, hk⟩, e1⟩
  have e01 := e0.trans e1
  have g1 : Mp.get h1.obj h0.no = some (.row [.str key, .int .i64 br, .int .i64 ep, .int .i64 sq, .int .i64 fr, .int .i64 to, .str val, .bool gone]) := (e1.obj _ (by show h0.no < h0.no + 1; omega)).trans (by simp)
  have n1 : h0.no < h1.no := Nat.lt_of_lt_of_le (by show h0.no < h0.no + 1; omega) e1.no
  clear e0 e1
  refine ⟨_, by simp; first | done | rfl, ?_⟩
  repeat(first|with_reducible first|refine vmR ?_|refine vmV rfl ?_|refine vmW rfl ?_|refine vmL ?_|refine blockW_y (by decide) ?_|((with_reducible first|apply vmO|apply vmT|apply vmC);case a=>simp [g1];with_reducible first|exact .v|exact .c|exact .t|exact .f))
  refine A.mono (may4_ans fr to h1) ?_
  rintro _ h2 ⟨rfl, e2⟩
  have g2 : Mp.get h2.obj h0.no = some (.row [.str key, .int .i64 br, .int .i64 ep, .int .i64 sq, .int .i64 fr, .int .i64 to, .str val, .bool gone]) := (e2.obj _ n1).trans g1
  have e02 := e01.trans e2
  refine ⟨_, by simp; first | done | rfl, ?_⟩
  by_cases qe : e = 0
  case neg =>
    have hk' : keyOk key = false := by rw [← hk]; simp [qe]
    repeat(first|with_reducible first|refine vmR ?_|refine vmV rfl ?_|refine vmW rfl ?_|refine vmL ?_|refine blockW_y (by decide) ?_|((with_reducible first|apply vmO|apply vmT|apply vmC);case a=>simp [g2, qe];with_reducible first|exact .v|exact .c|exact .t|exact .f))
    (first | apply endW_r | apply endW_n); (case h1 => (simp [Tryz.results31]; first | done | rfl))
    exact ⟨by simp [VMay, hk'], e02⟩
  have hk' : keyOk key = true := by rw [← hk]; simp [qe]
  by_cases q4 : SpMay fr to
  case neg =>
    repeat(first|with_reducible first|refine vmR ?_|refine vmV rfl ?_|refine vmW rfl ?_|refine vmL ?_|refine blockW_y (by decide) ?_|((with_reducible first|apply vmO|apply vmT|apply vmC);case a=>simp [g2, q4, qe];with_reducible first|exact .v|exact .c|exact .t|exact .f))
    (first | apply endW_r | apply endW_n); (case h1 => (simp [Tryz.results31]; first | done | rfl))
    exact ⟨by simp [VMay, q4], e02⟩
  by_cases q5 : 200 < val.length
  · have q5' : (200 : Int) < val.length := by omega
    have q5n : ¬ val.length ≤ 200 := by omega
    repeat(first|with_reducible first|refine vmR ?_|refine vmV rfl ?_|refine vmW rfl ?_|refine vmL ?_|refine blockW_y (by decide) ?_|((with_reducible first|apply vmO|apply vmT|apply vmC);case a=>simp [g2, q4, q5, q5', qe];with_reducible first|exact .v|exact .c|exact .t|exact .f))
    (first | apply endW_r | apply endW_n); (case h1 => (simp [Tryz.results31]; first | done | rfl))
    exact ⟨by simp [VMay, q5n], e02⟩
  have q5' : ¬ (200 : Int) < val.length := by omega
  have q5n : val.length ≤ 200 := by omega
  by_cases q6 : gone = true ∧ val.isEmpty = false
  · obtain ⟨rfl, q6⟩ := q6
    repeat(first|with_reducible first|refine vmR ?_|refine vmV rfl ?_|refine vmW rfl ?_|refine vmL ?_|refine blockW_y (by decide) ?_|((with_reducible first|apply vmO|apply vmT|apply vmC);case a=>simp [g2, q4, q5, q5', qe, eqB_nil, q6];with_reducible first|exact .v|exact .c|exact .t|exact .f))
    (first | apply endW_r | apply endW_n); (case h1 => (simp [Tryz.results31]; first | done | rfl))
    exact ⟨by simp [VMay, q6], e02⟩
  have q7 : (!gone || val.isEmpty) = true := by cases gone <;> simp_all
  have fin : VMay ⟨key, br, ep, sq, fr, to, val, gone⟩ = decide (((0 ≤ br ∧ br ≤ 15) ∧ (1 ≤ ep ∧ ep ≤ 10000)) ∧ (1 ≤ sq ∧ sq ≤ 100000)) := by
    simp only [VMay, hk', q4, q5n, q7, decide_true, Bool.and_true, Bool.true_and, Bool.decide_and]
  rw [fin]
  clear fin q7
  cases gone
  case true =>
    have q6' : val.isEmpty = true := by simpa using q6
    repeat(first|with_reducible first|refine vmR ?_|refine vmV rfl ?_|refine vmW rfl ?_|refine vmL ?_|refine blockW_y (by decide) ?_|((with_reducible first|apply vmO|apply vmT|apply vmC);case a=>simp [g2, q4, q5, q5', qe, eqB_nil, q6'];with_reducible first|exact .v|exact .c|exact .t|exact .f))
    by_cases q1 : 0 ≤ br
    case neg =>
      repeat(first|with_reducible first|refine vmR ?_|refine vmV rfl ?_|refine vmW rfl ?_|refine vmL ?_|refine blockW_y (by decide) ?_|((with_reducible first|apply vmO|apply vmT|apply vmC);case a=>simp [g2, q1];with_reducible first|exact .v|exact .c|exact .t|exact .f))
      (first | apply endW_r | apply endW_n); (case h1 => (simp [Tryz.results31]; first | done | rfl))
      exact ⟨by simp [q1], e02⟩
    by_cases q2 : br ≤ 15
    case neg =>
      repeat(first|with_reducible first|refine vmR ?_|refine vmV rfl ?_|refine vmW rfl ?_|refine vmL ?_|refine blockW_y (by decide) ?_|((with_reducible first|apply vmO|apply vmT|apply vmC);case a=>simp [g2, q1, q2];with_reducible first|exact .v|exact .c|exact .t|exact .f))
      (first | apply endW_r | apply endW_n); (case h1 => (simp [Tryz.results31]; first | done | rfl))
      exact ⟨by simp [q2], e02⟩
    by_cases q3 : 1 ≤ ep
    case neg =>
      repeat(first|with_reducible first|refine vmR ?_|refine vmV rfl ?_|refine vmW rfl ?_|refine vmL ?_|refine blockW_y (by decide) ?_|((with_reducible first|apply vmO|apply vmT|apply vmC);case a=>simp [g2, q1, q2, q3];with_reducible first|exact .v|exact .c|exact .t|exact .f))
      (first | apply endW_r | apply endW_n); (case h1 => (simp [Tryz.results31]; first | done | rfl))
      exact ⟨by simp [q3], e02⟩
    by_cases q8 : ep ≤ 10000
    case neg =>
      repeat(first|with_reducible first|refine vmR ?_|refine vmV rfl ?_|refine vmW rfl ?_|refine vmL ?_|refine blockW_y (by decide) ?_|((with_reducible first|apply vmO|apply vmT|apply vmC);case a=>simp [g2, q1, q2, q3, q8];with_reducible first|exact .v|exact .c|exact .t|exact .f))
      (first | apply endW_r | apply endW_n); (case h1 => (simp [Tryz.results31]; first | done | rfl))
      exact ⟨by simp [q8], e02⟩
    by_cases q9 : 1 ≤ sq
    case neg =>
      repeat(first|with_reducible first|refine vmR ?_|refine vmV rfl ?_|refine vmW rfl ?_|refine vmL ?_|refine blockW_y (by decide) ?_|((with_reducible first|apply vmO|apply vmT|apply vmC);case a=>simp [g2, q1, q2, q3, q8, q9];with_reducible first|exact .v|exact .c|exact .t|exact .f))
      (first | apply endW_r | apply endW_n); (case h1 => (simp [Tryz.results31]; first | done | rfl))
      exact ⟨by simp [q9], e02⟩
    repeat(first|with_reducible first|refine vmR ?_|refine vmV rfl ?_|refine vmW rfl ?_|refine vmL ?_|refine blockW_y (by decide) ?_|((with_reducible first|apply vmO|apply vmT|apply vmC);case a=>simp [g2, q1, q2, q3, q8, q9];with_reducible first|exact .v|exact .c|exact .t|exact .f))
    (first | apply endW_r | apply endW_n); (case h1 => (simp [Tryz.results31]; first | done | rfl))
    exact ⟨by simp [q1, q2, q3, q8, q9], e02⟩
  case false =>
    repeat(first|with_reducible first|refine vmR ?_|refine vmV rfl ?_|refine vmW rfl ?_|refine vmL ?_|refine blockW_y (by decide) ?_|((with_reducible first|apply vmO|apply vmT|apply vmC);case a=>simp [g2, q4, q5, q5', qe];with_reducible first|exact .v|exact .c|exact .t|exact .f))
    by_cases q1 : 0 ≤ br
    case neg =>
      repeat(first|with_reducible first|refine vmR ?_|refine vmV rfl ?_|refine vmW rfl ?_|refine vmL ?_|refine blockW_y (by decide) ?_|((with_reducible first|apply vmO|apply vmT|apply vmC);case a=>simp [g2, q1];with_reducible first|exact .v|exact .c|exact .t|exact .f))
      (first | apply endW_r | apply endW_n); (case h1 => (simp [Tryz.results31]; first | done | rfl))
      exact ⟨by simp [q1], e02⟩
    by_cases q2 : br ≤ 15
    case neg =>
      repeat(first|with_reducible first|refine vmR ?_|refine vmV rfl ?_|refine vmW rfl ?_|refine vmL ?_|refine blockW_y (by decide) ?_|((with_reducible first|apply vmO|apply vmT|apply vmC);case a=>simp [g2, q1, q2];with_reducible first|exact .v|exact .c|exact .t|exact .f))
      (first | apply endW_r | apply endW_n); (case h1 => (simp [Tryz.results31]; first | done | rfl))
      exact ⟨by simp [q2], e02⟩
    by_cases q3 : 1 ≤ ep
    case neg =>
      repeat(first|with_reducible first|refine vmR ?_|refine vmV rfl ?_|refine vmW rfl ?_|refine vmL ?_|refine blockW_y (by decide) ?_|((with_reducible first|apply vmO|apply vmT|apply vmC);case a=>simp [g2, q1, q2, q3];with_reducible first|exact .v|exact .c|exact .t|exact .f))
      (first | apply endW_r | apply endW_n); (case h1 => (simp [Tryz.results31]; first | done | rfl))
      exact ⟨by simp [q3], e02⟩
    by_cases q8 : ep ≤ 10000
    case neg =>
      repeat(first|with_reducible first|refine vmR ?_|refine vmV rfl ?_|refine vmW rfl ?_|refine vmL ?_|refine blockW_y (by decide) ?_|((with_reducible first|apply vmO|apply vmT|apply vmC);case a=>simp [g2, q1, q2, q3, q8];with_reducible first|exact .v|exact .c|exact .t|exact .f))
      (first | apply endW_r | apply endW_n); (case h1 => (simp [Tryz.results31]; first | done | rfl))
      exact ⟨by simp [q8], e02⟩
    by_cases q9 : 1 ≤ sq
    case neg =>
      repeat(first|with_reducible first|refine vmR ?_|refine vmV rfl ?_|refine vmW rfl ?_|refine vmL ?_|refine blockW_y (by decide) ?_|((with_reducible first|apply vmO|apply vmT|apply vmC);case a=>simp [g2, q1, q2, q3, q8, q9];with_reducible first|exact .v|exact .c|exact .t|exact .f))
      (first | apply endW_r | apply endW_n); (case h1 => (simp [Tryz.results31]; first | done | rfl))
      exact ⟨by simp [q9], e02⟩
    repeat(first|with_reducible first|refine vmR ?_|refine vmV rfl ?_|refine vmW rfl ?_|refine vmL ?_|refine blockW_y (by decide) ?_|((with_reducible first|apply vmO|apply vmT|apply vmC);case a=>simp [g2, q1, q2, q3, q8, q9];with_reducible first|exact .v|exact .c|exact .t|exact .f))
    (first | apply endW_r | apply endW_n); (case h1 => (simp [Tryz.results31]; first | done | rfl))
    exact ⟨by simp [q1, q2, q3, q8, q9], e02⟩
end Go.Vn
