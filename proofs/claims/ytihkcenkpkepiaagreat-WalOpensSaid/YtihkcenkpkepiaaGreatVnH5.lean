/- What functions of the program come to, in the value machine (a part of the proof of the claim's statement). No condition. -/
import Derived.Test.YtihkcenkpkepiaaGreatVnH4
set_option linter.unusedSimpArgs false
set_option linter.unusedVariables false
set_option maxRecDepth 20000
namespace Go.Vn
open Go.Proofs

theorem put2_nat (n : Nat) : ∀ (h0 : Hp Fm), n ≤ 9223372036854775807 → h0.pol 5 = false →
    A Tryz.prog TT (.func 33) [.int .i64 n] h0 (fun r h' => AC h0 h' 1 ((enc7 n).map byteAV) r ∧ HE h0 h') := by
  induction n using Nat.strongRecOn with
  | _ n ih =>
    intro h0 hn hp
    have q0 : ¬ (n : Int) < 0 := by omega
    by_cases q : n < 128
    · have q' : (n : Int) < 128 := by omega
      have cv : IntKind.u8.wrap (n : Int) = (n : Int) := wrap8 (by omega) (by omega)
      apply A_go Tryz.func33 rfl (by rfl); (case hn => (simp [Tryz.ntmps33]; rfl))
      repeat(first|with_reducible first|refine vmR ?_|refine vmV rfl ?_|refine vmW rfl ?_|refine vmL ?_|refine blockW_y (by decide) ?_|((with_reducible first|apply vmO|apply vmT|apply vmC);case a=>simp [q0, q, q', cv, newSeq, newSl, hp];with_reducible first|exact .v|exact .c|exact .t|exact .f))
      (first | apply endW_r | apply endW_n); (case h1 => (simp [Tryz.results33]; first | done | rfl))
      rw [enc7_lt q]
      refine ⟨.inr ⟨h0.ng, 0, 1, ?_, by simp, by simp, Nat.le_refl _⟩, (HE.refl h0).newSl 1⟩
      simp [byteAV]; omega
    · have q' : ¬ (n : Int) < 128 := by omega
      obtain ⟨c, hc⟩ : ∃ c, c = n % 128 := ⟨_, rfl⟩
      obtain ⟨d, hd⟩ : ∃ d, d = n / 128 := ⟨_, rfl⟩
      have r1 : Int.tmod (n : Int) 128 = (c : Int) := by rw [Int.tmod_eq_emod_of_nonneg (by omega)]; omega
      have w1 : IntKind.i64.wrap ((c : Int) + 128) = (c : Int) + 128 := wrap64 (by omega) (by omega)
      have cv : IntKind.u8.wrap ((c : Int) + 128) = (c : Int) + 128 := wrap8 (by omega) (by omega)
      have qd : IntKind.i64.wrap ((n : Int) / 128) = (d : Int) := by rw [wrap64 (by omega) (by omega)]; omega
      apply A_go Tryz.func33 rfl (by rfl); (case hn => (simp [Tryz.ntmps33]; rfl))
      repeat(first|with_reducible first|refine vmR ?_|refine vmV rfl ?_|refine vmW rfl ?_|refine vmL ?_|refine blockW_y (by decide) ?_|((with_reducible first|apply vmO|apply vmT|apply vmC);case a=>simp [q0, q, q', r1, w1, cv, qd, newSeq, newSl, hp];with_reducible first|exact .v|exact .c|exact .t|exact .f))
      refine A.mono (ih d (by omega) _ (by omega) (by exact hp)) ?_
      rintro u h1 ⟨a1, e1⟩
      have e01 := ((HE.refl h0).newSl 1).trans e1
      have k0 : AC h0 h1 1 [.int .u8 ((c : Int) + 128)] (.sl h0.ng 0 1 1 [.int .u8 ((c : Int) + 128)]) := by
        refine AC.of (h := { h0 with len := Mp.set h0.len h0.ng 1, ng := h0.ng + 1 }) (.inr ⟨h0.ng, 0, 1, rfl, by simp, by simp, Nat.le_refl _⟩) e1
      have uc := a1.sv.cells
      have ui := a1.sv.isCell
      refine ⟨_, by simp; first | done | rfl, ?_⟩
      have hel := enc7_len 8 d (by omega)
      repeat(first|with_reducible first|refine vmR ?_|refine vmV rfl ?_|refine vmW rfl ?_|refine vmL ?_|refine blockW_y (by decide) ?_|((with_reducible first|apply vmO|apply vmT|apply vmC);case a=>simp [uc, ui];with_reducible first|exact .v|exact .c|exact .t|exact .f))
      with_reducible apply WO_app_i; (case hw => (simp [uc, ui]; done)); (case ho => rfl); (case hb => rfl); (case ha => (simp [uc, ui]; first | done | exact ⟨rfl, rfl⟩ | rfl)); (case h1 => (simp; first | done | rfl)); (case h2 => (simp; first | done | rfl))
      refine app_then (AC.appN (h0 := h0) (new := (enc7 d).map byteAV) etB k0 e01 hp a1.sv.newEls (by simp; omega)) ?_
      rintro x4 h4 ⟨ac4, he4, _, _, _⟩
      have e4 := ac4.sv.cells
      have f4 := ac4.sv.isCell
      refine ⟨_, by simp; first | done | rfl, ?_⟩
      repeat(first|with_reducible first|refine vmR ?_|refine vmV rfl ?_|refine vmW rfl ?_|refine vmL ?_|refine blockW_y (by decide) ?_|((with_reducible first|apply vmO|apply vmT|apply vmC);case a=>simp [e4, f4];with_reducible first|exact .v|exact .c|exact .t|exact .f))
      (first | apply endW_r | apply endW_n); (case h1 => (simp [Tryz.results33]; first | done | rfl))
      refine ⟨?_, he4⟩
      rw [enc7_ge q]
      have : (UInt8.ofNat (n % 128 + 128) :: enc7 (n / 128)).map byteAV = [.int .u8 ((c : Int) + 128)] ++ (enc7 d).map byteAV := by
        rw [← hd, ← hc]; simp [byteAV]; omega
      rw [this]; exact ac4
theorem put2_ans (n : Int) (h0 : Hp Fm) (hn : 0 ≤ n ∧ n ≤ 9223372036854775807) (hp : h0.pol 5 = false) :
    A Tryz.prog TT (.func 33) [.int .i64 n] h0 (fun r h' => AC h0 h' 1 ((enc7 n.toNat).map byteAV) r ∧ HE h0 h') := by
  have := put2_nat n.toNat h0 (by omega) hp
  rwa [show ((n.toNat : Nat) : Int) = n by omega] at this

theorem text2_ans (s : List UInt8) (h0 : Hp Fm) (hs : s.length ≤ 16777216) (hp : h0.pol 5 = false) :
    A Tryz.prog TT (.func 90) [.str s] h0 (fun r h' => AC h0 h' 1 ((enc7 s.length ++ s).map byteAV) r ∧ HE h0 h') := by
  have hel := enc7_len 8 s.length (by omega)
  apply A_go Tryz.func90 rfl (by rfl); (case hn => (simp [Tryz.ntmps90]; rfl))
  repeat(first|with_reducible first|refine vmR ?_|refine vmV rfl ?_|refine vmW rfl ?_|refine vmL ?_|refine blockW_y (by decide) ?_|((with_reducible first|apply vmO|apply vmT|apply vmC);case a=>simp;with_reducible first|exact .v|exact .c|exact .t|exact .f))
  refine A.mono (put2_nat s.length h0 (by omega) hp) ?_
  rintro u h1 ⟨a1, e1⟩
  have uc := a1.sv.cells
  have ui := a1.sv.isCell
  refine ⟨_, by simp; first | done | rfl, ?_⟩
  repeat(first|with_reducible first|refine vmR ?_|refine vmV rfl ?_|refine vmW rfl ?_|refine vmL ?_|refine blockW_y (by decide) ?_|((with_reducible first|apply vmO|apply vmT|apply vmC);case a=>simp [uc, ui];with_reducible first|exact .v|exact .c|exact .t|exact .f))
  with_reducible apply WO_app_i; (case hw => (simp [uc, ui]; done)); (case ho => rfl); (case hb => rfl); (case ha => (simp [uc, ui]; first | done | exact ⟨rfl, rfl⟩ | rfl)); (case h1 => (simp; first | done | rfl)); (case h2 => (simp; first | done | rfl))
  rw [app_str]
  refine app_then (AC.appN (h0 := h0) (new := s.map byteAV) etB a1 e1 hp rfl (by simp; omega)) ?_
  rintro x4 h4 ⟨ac4, he4, _, _, _⟩
  have e4 := ac4.sv.cells
  have f4 := ac4.sv.isCell
  refine ⟨_, by simp; first | done | rfl, ?_⟩
  repeat(first|with_reducible first|refine vmR ?_|refine vmV rfl ?_|refine vmW rfl ?_|refine vmL ?_|refine blockW_y (by decide) ?_|((with_reducible first|apply vmO|apply vmT|apply vmC);case a=>simp [e4, f4];with_reducible first|exact .v|exact .c|exact .t|exact .f))
  (first | apply endW_r | apply endW_n); (case h1 => (simp [Tryz.results90]; first | done | rfl))
  exact ⟨by simpa using ac4, he4⟩

theorem four3_ans (n : Nat) (h0 : Hp Fm) (hn : n ≤ 9223372036854775807) (hp : h0.pol 5 = false) :
    A Tryz.prog TT (.func 68) [.int .i64 n] h0 (fun r h' => AC h0 h' 1 ((four n).map byteAV) r ∧ HE h0 h') := by
  obtain ⟨n1, hn1⟩ : ∃ n1, n1 = n / 256 := ⟨_, rfl⟩
  obtain ⟨n2, hn2⟩ : ∃ n2, n2 = n / 65536 := ⟨_, rfl⟩
  obtain ⟨n3, hn3⟩ : ∃ n3, n3 = n / 16777216 := ⟨_, rfl⟩
  obtain ⟨m0, hm0⟩ : ∃ m0, m0 = n % 256 := ⟨_, rfl⟩
  obtain ⟨m1, hm1⟩ : ∃ m1, m1 = n1 % 256 := ⟨_, rfl⟩
  obtain ⟨m2, hm2⟩ : ∃ m2, m2 = n2 % 256 := ⟨_, rfl⟩
  obtain ⟨m3, hm3⟩ : ∃ m3, m3 = n3 % 256 := ⟨_, rfl⟩
  have r0 : Int.tmod (n : Int) 256 = (m0 : Int) := by rw [Int.tmod_eq_emod_of_nonneg (by omega)]; omega
  have r1 : Int.tmod (n1 : Int) 256 = (m1 : Int) := by rw [Int.tmod_eq_emod_of_nonneg (by omega)]; omega
  have r2 : Int.tmod (n2 : Int) 256 = (m2 : Int) := by rw [Int.tmod_eq_emod_of_nonneg (by omega)]; omega
  have r3 : Int.tmod (n3 : Int) 256 = (m3 : Int) := by rw [Int.tmod_eq_emod_of_nonneg (by omega)]; omega
  have q1 : IntKind.i64.wrap ((n : Int) / 256) = (n1 : Int) := by rw [wrap64 (by omega) (by omega)]; omega
  have q2 : IntKind.i64.wrap ((n : Int) / 65536) = (n2 : Int) := by rw [wrap64 (by omega) (by omega)]; omega
  have q3 : IntKind.i64.wrap ((n : Int) / 16777216) = (n3 : Int) := by rw [wrap64 (by omega) (by omega)]; omega
  have c0 : IntKind.u8.wrap (m0 : Int) = (m0 : Int) := wrap8 (by omega) (by omega)
  have c1 : IntKind.u8.wrap (m1 : Int) = (m1 : Int) := wrap8 (by omega) (by omega)
  have c2 : IntKind.u8.wrap (m2 : Int) = (m2 : Int) := wrap8 (by omega) (by omega)
  have c3 : IntKind.u8.wrap (m3 : Int) = (m3 : Int) := wrap8 (by omega) (by omega)
  apply A_go Tryz.func68 rfl (by rfl); (case hn => (simp [Tryz.ntmps68]; rfl))
  repeat(first|with_reducible first|refine vmR ?_|refine vmV rfl ?_|refine vmW rfl ?_|refine vmL ?_|refine blockW_y (by decide) ?_|((with_reducible first|apply vmO|apply vmT|apply vmC);case a=>simp [r0, r1, r2, r3, q1, q2, q3, c0, c1, c2, c3, newSeq, newSl, hp];with_reducible first|exact .v|exact .c|exact .t|exact .f))
  (first | apply endW_r | apply endW_n); (case h1 => (simp [Tryz.results68]; first | done | rfl))
  refine ⟨.inr ⟨h0.ng, 0, 4, ?_, by simp, by simp, Nat.le_refl _⟩, (HE.refl h0).newSl 4⟩
  have : (four n).map byteAV = [.int .u8 m0, .int .u8 m1, .int .u8 m2, .int .u8 m3] := by
    simp [four, byteAV, hm0, hm1, hm2, hm3, hn1, hn2, hn3]
  rw [this]

theorem frame3_ans (b : List UInt8) (v : AV) (h0 : Hp Fm) (k : SV 1 (b.map byteAV) v) (hb : b.length ≤ 16777216) (hp : h0.pol 5 = false) :
    A Tryz.prog TT (.func 34) [v] h0 (fun r h' => SV 1 ((frame b).map byteAV) r ∧ HE h0 h') := by
  have c1 := k.cells
  have i1 := k.isCell
  have n1 := k.nm
  have l1 := k.len Tryz.underlying22
  rw [List.length_map] at l1
  apply A_go Tryz.func34 rfl (by rfl); (case hn => (simp [Tryz.ntmps34]; rfl))
  repeat(first|with_reducible first|refine vmR ?_|refine vmV rfl ?_|refine vmW rfl ?_|refine vmL ?_|refine blockW_y (by decide) ?_|((with_reducible first|apply vmO|apply vmT|apply vmC);case a=>simp [c1, i1, n1, l1];with_reducible first|exact .v|exact .c|exact .t|exact .f))
  refine A.mono (four3_ans b.length h0 (by omega) hp) ?_
  rintro u h1 ⟨a1, e1⟩
  have uc := a1.sv.cells
  have ui := a1.sv.isCell
  refine ⟨_, by simp; first | done | rfl, ?_⟩
  repeat(first|with_reducible first|refine vmR ?_|refine vmV rfl ?_|refine vmW rfl ?_|refine vmL ?_|refine blockW_y (by decide) ?_|((with_reducible first|apply vmO|apply vmT|apply vmC);case a=>simp [c1, i1, uc, ui];with_reducible first|exact .v|exact .c|exact .t|exact .f))
  refine A.mono (sum3_ans b v h1 k (by omega)) ?_
  rintro _ h2 ⟨rfl, e2⟩
  refine ⟨_, by simp; first | done | rfl, ?_⟩
  repeat(first|with_reducible first|refine vmR ?_|refine vmV rfl ?_|refine vmW rfl ?_|refine vmL ?_|refine blockW_y (by decide) ?_|((with_reducible first|apply vmO|apply vmT|apply vmC);case a=>simp [c1, i1, uc, ui];with_reducible first|exact .v|exact .c|exact .t|exact .f))
  have e12 := e1.trans e2
  refine A.mono (four3_ans (crcSum b) h2 (by have := crcSum_lt b; omega) (by rw [e12.pol]; exact hp)) ?_
  rintro w h3 ⟨a3, e3⟩
  have wc := a3.sv.cells
  have wi := a3.sv.isCell
  have e13 := e12.trans e3
  have a1' := a1.of (e2.trans e3)
  refine ⟨_, by simp; first | done | rfl, ?_⟩
  repeat(first|with_reducible first|refine vmR ?_|refine vmV rfl ?_|refine vmW rfl ?_|refine vmL ?_|refine blockW_y (by decide) ?_|((with_reducible first|apply vmO|apply vmT|apply vmC);case a=>simp [c1, i1, uc, ui, wc, wi];with_reducible first|exact .v|exact .c|exact .t|exact .f))
  with_reducible apply WO_app_i; (case hw => (simp [c1, i1, uc, ui, wc, wi]; done)); (case ho => rfl); (case hb => rfl); (case ha => (simp [c1, i1, uc, ui, wc, wi]; first | done | exact ⟨rfl, rfl⟩ | rfl)); (case h1 => (simp; first | done | rfl)); (case h2 => (simp; first | done | rfl))
  refine app_then (AC.appN (h0 := h0) (new := (four (crcSum b)).map byteAV) etB a1' e13 hp a3.sv.newEls (by simp)) ?_
  rintro x4 h4 ⟨ac4, he4, _, _, _⟩
  have e4 := ac4.sv.cells
  have f4 := ac4.sv.isCell
  refine ⟨_, by simp; first | done | rfl, ?_⟩
  repeat(first|with_reducible first|refine vmR ?_|refine vmV rfl ?_|refine vmW rfl ?_|refine vmL ?_|refine blockW_y (by decide) ?_|((with_reducible first|apply vmO|apply vmT|apply vmC);case a=>simp [e4, f4, c1, i1];with_reducible first|exact .v|exact .c|exact .t|exact .f))
  with_reducible apply WO_app_i; (case hw => (simp [e4, f4, c1, i1]; done)); (case ho => rfl); (case hb => rfl); (case ha => (simp [e4, f4, c1, i1]; first | done | exact ⟨rfl, rfl⟩ | rfl)); (case h1 => (simp; first | done | rfl)); (case h2 => (simp; first | done | rfl))
  refine app_then (AC.appN (h0 := h0) (new := b.map byteAV) etB ac4 he4 hp k.newEls (by simp; omega)) ?_
  rintro x5 h5 ⟨ac5, he5, _, _, _⟩
  have e5 := ac5.sv.cells
  have f5 := ac5.sv.isCell
  refine ⟨_, by simp; first | done | rfl, ?_⟩
  repeat(first|with_reducible first|refine vmR ?_|refine vmV rfl ?_|refine vmW rfl ?_|refine vmL ?_|refine blockW_y (by decide) ?_|((with_reducible first|apply vmO|apply vmT|apply vmC);case a=>simp [e5, f5];with_reducible first|exact .v|exact .c|exact .t|exact .f))
  (first | apply endW_r | apply endW_n); (case h1 => (simp [Tryz.results34]; first | done | rfl))
  exact ⟨by simpa [frame] using ac5.sv, he5⟩
end Go.Vn

set_option maxRecDepth 20000
namespace Go.Vn
open Go.Proofs

set_option maxHeartbeats 4000000 in
theorem write6_ans (v : Ver) (h0 : Hp Fm) (hv : VNum v) (hs : VSmall v) (hp : ∀ z, h0.pol z = false) :
    A Tryz.prog TT (.func 70) [encV v] h0 (fun r h' => AC h0 h' 1 ((encVb v).map byteAV) r ∧ HE h0 h') := by
  obtain ⟨key, br, ep, sq, fr, to, val, gone⟩ := v
  have hel := encVb_len hv hs
  obtain ⟨h1, h2, h3, h4⟩ := hv
  obtain ⟨s1, s2⟩ := hs
  unfold SpMay at h4
  simp only at h1 h2 h3 h4 s1 s2
  have w0 : IntKind.i64.wrap (to - fr) = to - fr := wrap64 (by omega) (by omega)
  obtain ⟨NS, hNS⟩ : ∃ NS, NS = [br, ep, sq, fr, to - fr, goneI gone] := ⟨_, rfl⟩
  have hNL : NS.length = 6 := by rw [hNS]; rfl
  have hN : ∀ n ∈ NS, 0 ≤ n ∧ n ≤ 9223372036854775807 := by
    intro n hn
    rw [hNS] at hn
    simp only [List.mem_cons, List.not_mem_nil, or_false] at hn
    rcases hn with rfl | rfl | rfl | rfl | rfl | rfl <;> first | omega | (unfold goneI; split <;> omega)
  have eV : encVb ⟨key, br, ep, sq, fr, to, val, gone⟩ = encs NS ++ (enc7 key.length ++ key) ++ (enc7 val.length ++ val) := by rw [hNS]; simp [encVb, encT]
  rw [eV] at hel ⊢
  have e0 := (HE.refl h0).new (.row [.str key, .int .i64 br, .int .i64 ep, .int .i64 sq, .int .i64 fr, .int .i64 to, .str val, .bool gone])
  obtain ⟨rw0, hrw0⟩ : ∃ rw0 : List AV, rw0 = [.str key, .int .i64 br, .int .i64 ep, .int .i64 sq, .int .i64 fr, .int .i64 to, .str val, .bool gone] := ⟨_, rfl⟩
  cases gone
  all_goals
    apply A_go Tryz.func70 rfl (by rfl); (case hn => (simp [Tryz.ntmps70]; rfl))
    repeat(first|with_reducible first|refine vmR ?_|refine vmV rfl ?_|refine vmW rfl ?_|refine vmL ?_|refine blockW_y (by decide) ?_|((with_reducible first|apply vmO|apply vmT|apply vmC);case a=>simp [w0, newSeq, newSl, hp];with_reducible first|exact .v|exact .c|exact .t|exact .f))
    refine W.mono (R := fun e s => e = .exit 0 ∧ ∃ (t : Fm AV) (h : Hp Fm) (u : AV), s = ⟨t, 53, h, none⟩ ∧ tget t 1 = .ptr h0.no 0 ∧ tget t 3 = u ∧ AC h0 h 1 ((encs NS).map byteAV) u ∧ HE h0 h ∧ Mp.get h.obj h0.no = some (.row rw0) ∧ h0.no < h.no) ?_ ?_
    · refine W_loop (fun m s => ∃ (t : Fm AV) (h : Hp Fm) (i : Nat) (u : AV), s = ⟨t, 53, h, none⟩ ∧ m = 6 - i ∧ i ≤ 6 ∧ tget t 1 = .ptr h0.no 0 ∧ tget t 3 = u ∧ tget t 5 = .sl h0.ng 0 1 6 (NS.map intAV) ∧ tget t 6 = .int .i64 i ∧ AC h0 h 1 ((encs (NS.take i)).map byteAV) u ∧ HE h0 h ∧ Mp.get h.obj h0.no = some (.row rw0) ∧ h0.no < h.no) 6
        ⟨_, _, 0, .nils, rfl, rfl, by omega, by simp, by simp, by simp [hNS, intAV, goneI], by simp, .inl ⟨rfl, rfl⟩, (e0.newSl 6), by simp [hrw0], by show h0.no < h0.no + 1; omega⟩ ?_
      rintro m s ⟨t, h, i, u, rfl, rfl, hi, t1, t3, t5, t6, hu, he, gr, gn⟩
      have uc := hu.sv.cells
      have ui := hu.sv.isCell
      have hph : ∀ z, h.pol z = false := fun z => by rw [he.pol]; exact hp z
      obtain ⟨vn, hvn⟩ : ∃ vn, vn = AV.sl h0.ng 0 1 6 (NS.map intAV) := ⟨_, rfl⟩
      have svn : SV 1 (NS.map intAV) vn := by rw [hvn]; exact .inr (.inl ⟨_, _, _, rfl⟩)
      rw [← hvn] at t5
      have vc := svn.cells
      have vi := svn.isCell
      have vm := svn.nm
      have ln := svn.len Tryz.underlying118
      rw [List.length_map, hNL] at ln
      by_cases q : i < 6
      case neg =>
        have q' : ¬ (i : Int) < 6 := by omega
        have ei : i = 6 := by omega
        subst ei
        rw [List.take_of_length_le (by omega)] at hu
        repeat(first|with_reducible first|refine vmR ?_|refine vmV rfl ?_|refine vmW rfl ?_|refine vmL ?_|refine blockW_y (by decide) ?_|((with_reducible first|apply vmO|apply vmT|apply vmC);case a=>simp [t1, t3, t5, t6, uc, ui, ln, vc, vi, vm];with_reducible first|exact .v|exact .c|exact .t|exact .f))
        exact ⟨rfl, _, _, u, rfl, by simp [t1], by simp [t3], hu, he, gr, gn⟩
      have q' : (i : Int) < 6 := by omega
      obtain ⟨n, hn⟩ : ∃ n, n = NS[i]'(by omega) := ⟨_, rfl⟩
      have ix := svn.idx (k := .i64) (i := (i : Int)) Tryz.underlying118 z3 (by omega) (by simp; omega)
      have ig : (NS.map intAV)[i]'(by simp; omega) = .int .i64 n := by simp [hn, intAV]
      simp only [Int.toNat_natCast, ig] at ix
      have hnn := hN n (by rw [hn]; exact List.getElem_mem _)
      have et : NS.take (i + 1) = NS.take i ++ [n] := by rw [List.take_succ_eq_append_getElem (by omega), hn]
      have el := encs_len (NS.take i) fun x hx => (hN x (List.mem_of_mem_take hx)).2
      rw [List.length_take] at el
      have w1 : IntKind.i64.wrap ((i : Int) + 1) = ((i + 1 : Nat) : Int) := by rw [wrap64 (by omega) (by omega)]; simp
      repeat(first|with_reducible first|refine vmR ?_|refine vmV rfl ?_|refine vmW rfl ?_|refine vmL ?_|refine blockW_y (by decide) ?_|((with_reducible first|apply vmO|apply vmT|apply vmC);case a=>simp [t1, t3, t5, t6, q, q', uc, ui, ln, ix, vc, vi, vm];with_reducible first|exact .v|exact .c|exact .t|exact .f))
      refine A.mono (put2_ans n h hnn (hph _)) ?_
      rintro w h2 ⟨a2, e2⟩
      have wc := a2.sv.cells
      have wi := a2.sv.isCell
      have hel := enc7_len 8 n.toNat (by omega)
      refine ⟨_, by simp; first | done | rfl, ?_⟩
      repeat(first|with_reducible first|refine vmR ?_|refine vmV rfl ?_|refine vmW rfl ?_|refine vmL ?_|refine blockW_y (by decide) ?_|((with_reducible first|apply vmO|apply vmT|apply vmC);case a=>simp [uc, ui, wc, wi];with_reducible first|exact .v|exact .c|exact .t|exact .f))
      with_reducible apply WO_app_i; (case hw => (simp [uc, ui, wc, wi]; done)); (case ho => rfl); (case hb => rfl); (case ha => (simp [uc, ui, wc, wi]; first | done | exact ⟨rfl, rfl⟩ | rfl)); (case h1 => (simp; first | done | rfl)); (case h2 => (simp; first | done | rfl))
      refine app_then (AC.appN (h0 := h0) (new := (enc7 n.toNat).map byteAV) etB (hu.of e2) (he.trans e2) (hp _) a2.sv.newEls (by simp; omega)) ?_
      rintro x4 h4 ⟨ac4, he4, ho4, hn4, _⟩
      have e4 := ac4.sv.cells
      have f4 := ac4.sv.isCell
      refine ⟨_, by simp; first | done | rfl, ?_⟩
      repeat(first|with_reducible first|refine vmR ?_|refine vmV rfl ?_|refine vmW rfl ?_|refine vmL ?_|refine blockW_y (by decide) ?_|((with_reducible first|apply vmO|apply vmT|apply vmC);case a=>simp [t6, e4, f4, w1];with_reducible first|exact .v|exact .c|exact .t|exact .f))
      refine ⟨6 - (i + 1), by omega, _, h4, i + 1, x4, rfl, rfl, by omega, by simp [t1], by simp, by simp [t5, hvn], by simp, ?_, he4, ?_, ?_⟩
      · rw [et, encs_app, List.map_append]; exact ac4
      · rw [ho4]; exact (e2.obj _ gn).trans gr
      · rw [hn4]; exact Nat.lt_of_lt_of_le gn e2.no
    rintro _ _ ⟨rfl, t, h, u, rfl, t1, t3, hu, he, gr, gn⟩
    have uc := hu.sv.cells
    have ui := hu.sv.isCell
    have hph : ∀ z, h.pol z = false := fun z => by rw [he.pol]; exact hp z
    rw [hrw0] at gr
    simp only [List.length_append] at hel
    repeat(first|with_reducible first|refine vmR ?_|refine vmV rfl ?_|refine vmW rfl ?_|refine vmL ?_|refine blockW_y (by decide) ?_|((with_reducible first|apply vmO|apply vmT|apply vmC);case a=>simp [t1, t3, uc, ui, gr];with_reducible first|exact .v|exact .c|exact .t|exact .f))
    refine A.mono (text2_ans key h (by omega) (hph _)) ?_
    rintro w h2 ⟨a2, e2⟩
    have wc := a2.sv.cells
    have wi := a2.sv.isCell
    have gr2 := (e2.obj _ gn).trans gr
    refine ⟨_, by simp; first | done | rfl, ?_⟩
    repeat(first|with_reducible first|refine vmR ?_|refine vmV rfl ?_|refine vmW rfl ?_|refine vmL ?_|refine blockW_y (by decide) ?_|((with_reducible first|apply vmO|apply vmT|apply vmC);case a=>simp [uc, ui, wc, wi];with_reducible first|exact .v|exact .c|exact .t|exact .f))
    with_reducible apply WO_app_i; (case hw => (simp [uc, ui, wc, wi]; done)); (case ho => rfl); (case hb => rfl); (case ha => (simp [uc, ui, wc, wi]; first | done | exact ⟨rfl, rfl⟩ | rfl)); (case h1 => (simp; first | done | rfl)); (case h2 => (simp; first | done | rfl))
    refine app_then (AC.appN (h0 := h0) (new := (enc7 key.length ++ key).map byteAV) etB (hu.of e2) (he.trans e2) (hp _) a2.sv.newEls (by simp; omega)) ?_
    rintro x4 h4 ⟨ac4, he4, ho4, hn4, _⟩
    have e4 := ac4.sv.cells
    have f4 := ac4.sv.isCell
    have gr4 := gr2
    rw [← ho4] at gr4
    have hph4 : ∀ z, h4.pol z = false := fun z => by rw [he4.pol]; exact hp z
    refine ⟨_, by simp; first | done | rfl, ?_⟩
    repeat(first|with_reducible first|refine vmR ?_|refine vmV rfl ?_|refine vmW rfl ?_|refine vmL ?_|refine blockW_y (by decide) ?_|((with_reducible first|apply vmO|apply vmT|apply vmC);case a=>simp [t1, e4, f4, gr4];with_reducible first|exact .v|exact .c|exact .t|exact .f))
    refine A.mono (text2_ans val h4 (by omega) (hph4 _)) ?_
    rintro w5 h5 ⟨a5, e5⟩
    have wc5 := a5.sv.cells
    have wi5 := a5.sv.isCell
    refine ⟨_, by simp; first | done | rfl, ?_⟩
    repeat(first|with_reducible first|refine vmR ?_|refine vmV rfl ?_|refine vmW rfl ?_|refine vmL ?_|refine blockW_y (by decide) ?_|((with_reducible first|apply vmO|apply vmT|apply vmC);case a=>simp [e4, f4, wc5, wi5];with_reducible first|exact .v|exact .c|exact .t|exact .f))
    with_reducible apply WO_app_i; (case hw => (simp [e4, f4, wc5, wi5]; done)); (case ho => rfl); (case hb => rfl); (case ha => (simp [e4, f4, wc5, wi5]; first | done | exact ⟨rfl, rfl⟩ | rfl)); (case h1 => (simp; first | done | rfl)); (case h2 => (simp; first | done | rfl))
    refine app_then (AC.appN (h0 := h0) (new := (enc7 val.length ++ val).map byteAV) etB (ac4.of e5) (he4.trans e5) (hp _) a5.sv.newEls (by simp; omega)) ?_
    rintro x6 h6 ⟨ac6, he6, _, _, _⟩
    have e6 := ac6.sv.cells
    have f6 := ac6.sv.isCell
    refine ⟨_, by simp; first | done | rfl, ?_⟩
    repeat(first|with_reducible first|refine vmR ?_|refine vmV rfl ?_|refine vmW rfl ?_|refine vmL ?_|refine blockW_y (by decide) ?_|((with_reducible first|apply vmO|apply vmT|apply vmC);case a=>simp [e6, f6];with_reducible first|exact .v|exact .c|exact .t|exact .f))
    (first | apply endW_r | apply endW_n); (case h1 => (simp [Tryz.results70]; first | done | rfl))
    exact ⟨by simpa using ac6, he6⟩
end Go.Vn

set_option maxRecDepth 20000
namespace Go.Vn
open Go.Proofs

set_option maxHeartbeats 4000000 in
theorem list6_ans (vs : List Ver) (v : AV) (h0 : Hp Fm) (k : SV 8 (vs.map encV) v) (hl : vs.length ≤ 300) (hm : ∀ v ∈ vs, VMay v = true) (hs : ∀ v ∈ vs, VSmall v) (hp : ∀ z, h0.pol z = false) :
    A Tryz.prog TT (.func 35) [v] h0 (fun r h' => SV 1 ((encL vs).map byteAV) r ∧ HE h0 h') := by
  have c1 := k.cells
  have i1 := k.isCell
  have n1 := k.nm
  have l1 := k.len Tryz.underlying23
  rw [List.length_map] at l1
  have el := enc7_len 8 vs.length (by omega)
  have ee : encs [(vs.length : Int)] = enc7 vs.length := by simp [encs]
  apply A_go Tryz.func35 rfl (by rfl); (case hn => (simp [Tryz.ntmps35]; rfl))
  repeat(first|with_reducible first|refine vmR ?_|refine vmV rfl ?_|refine vmW rfl ?_|refine vmL ?_|refine blockW_y (by decide) ?_|((with_reducible first|apply vmO|apply vmT|apply vmC);case a=>simp [c1, i1, n1, l1];with_reducible first|exact .v|exact .c|exact .t|exact .f))
  refine A.mono (put2_nat vs.length h0 (by omega) (hp _)) ?_
  rintro u1 h1 ⟨a1, e1⟩
  have uc := a1.sv.cells
  have ui := a1.sv.isCell
  refine ⟨_, by simp; first | done | rfl, ?_⟩
  repeat(first|with_reducible first|refine vmR ?_|refine vmV rfl ?_|refine vmW rfl ?_|refine vmL ?_|refine blockW_y (by decide) ?_|((with_reducible first|apply vmO|apply vmT|apply vmC);case a=>simp [uc, ui];with_reducible first|exact .v|exact .c|exact .t|exact .f))
  refine W_loop (fun m s => ∃ (t : Fm AV) (h : Hp Fm) (done rest : List Ver) (u : AV), s = ⟨t, 22, h, none⟩ ∧ m = rest.length ∧ vs = done ++ rest ∧ tget t 0 = v ∧ tget t 4 = .int .i64 done.length ∧ tget t 3 = u ∧ AC h0 h 1 ((encs [(vs.length : Int)] ++ done.flatMap encVb).map byteAV) u ∧ HE h0 h) vs.length
    ⟨_, _, [], vs, u1, rfl, rfl, rfl, by simp, by simp, by simp, by rw [ee]; simpa using a1, e1⟩ ?_
  clear uc ui
  rintro m s ⟨t, h, done, rest, u, rfl, rfl, hdr, t0, t4, t3, hu, he⟩
  have uc := hu.sv.cells
  have ui := hu.sv.isCell
  have hlen : vs.length = done.length + rest.length := by rw [hdr]; simp
  obtain ⟨i, hi⟩ : ∃ i, i = done.length := ⟨_, rfl⟩
  rw [← hi] at t4 hlen
  cases rest with
  | nil =>
    have q : ¬ ((i : Int) < vs.length) := by simp at hlen; omega
    have q' : ¬ (i < vs.length) := by omega
    repeat(first|with_reducible first|refine vmR ?_|refine vmV rfl ?_|refine vmW rfl ?_|refine vmL ?_|refine blockW_y (by decide) ?_|((with_reducible first|apply vmO|apply vmT|apply vmC);case a=>simp [t0, t3, t4, q, q', uc, ui, n1, l1, c1, i1];with_reducible first|exact .v|exact .c|exact .t|exact .f))
    (first | apply endW_r | apply endW_n); (case h1 => (simp [Tryz.results35]; first | done | rfl))
    have : done = vs := by rw [hdr]; simp
    rw [this] at hu
    exact ⟨hu.sv, he⟩
  | cons x rest =>
    have q : ((i : Int) < vs.length) := by simp at hlen; omega
    have q' : (i < vs.length) := by omega
    have ix := k.idx (k := .i64) (i := (i : Int)) Tryz.underlying23 z73 (by omega) (by simp; omega)
    have ig : (vs.map encV)[i]'(by simp; omega) = encV x := by simp [hdr, hi]
    simp only [Int.toNat_natCast, ig] at ix
    have hmx := hm x (by rw [hdr]; simp)
    have hsx := hs x (by rw [hdr]; simp)
    have hph : ∀ z, h.pol z = false := fun z => by rw [he.pol]; exact hp z
    have w1 : IntKind.i64.wrap ((i : Int) + 1) = ((i + 1 : Nat) : Int) := by rw [wrap64 (by omega) (by omega)]; simp
    have fd := flat_len (vs := done) fun v hv => ⟨vmay_num (hm v (by rw [hdr]; simp [hv])), hs v (by rw [hdr]; simp [hv])⟩
    have hn := vmay_num hmx
    have fx := encVb_len hn hsx
    obtain ⟨xb, hxb⟩ : ∃ xb, xb = encVb x := ⟨_, rfl⟩
    have WX := write6_ans x h hn hsx hph
    rw [← hxb] at WX fx
    obtain ⟨key, br, ep, sq, fr, to, val, gone⟩ := x
    repeat(first|with_reducible first|refine vmR ?_|refine vmV rfl ?_|refine vmW rfl ?_|refine vmL ?_|refine blockW_y (by decide) ?_|((with_reducible first|apply vmO|apply vmT|apply vmC);case a=>simp [t0, t3, t4, q, q', c1, i1, n1, l1, ix, uc, ui];with_reducible first|exact .v|exact .c|exact .t|exact .f))
    refine A.mono WX ?_
    rintro w h2 ⟨a2, e2⟩
    have wc := a2.sv.cells
    have wi := a2.sv.isCell
    refine ⟨_, by simp; first | done | rfl, ?_⟩
    repeat(first|with_reducible first|refine vmR ?_|refine vmV rfl ?_|refine vmW rfl ?_|refine vmL ?_|refine blockW_y (by decide) ?_|((with_reducible first|apply vmO|apply vmT|apply vmC);case a=>simp [uc, ui, wc, wi];with_reducible first|exact .v|exact .c|exact .t|exact .f))
    with_reducible apply WO_app_i; (case hw => (simp [uc, ui, wc, wi]; done)); (case ho => rfl); (case hb => rfl); (case ha => (simp [uc, ui, wc, wi]; first | done | exact ⟨rfl, rfl⟩ | rfl)); (case h1 => (simp; first | done | rfl)); (case h2 => (simp; first | done | rfl))
    refine app_then (AC.appN (h0 := h0) (new := xb.map byteAV) etB (hu.of e2) (he.trans e2) (hp _) a2.sv.newEls ?_) ?_
    · simp only [List.length_map, List.length_append, ee]; omega
    rintro x4 h4 ⟨ac4, he4, _, _, _⟩
    have e4 := ac4.sv.cells
    have f4 := ac4.sv.isCell
    refine ⟨_, by simp; first | done | rfl, ?_⟩
    repeat(first|with_reducible first|refine vmR ?_|refine vmV rfl ?_|refine vmW rfl ?_|refine vmL ?_|refine blockW_y (by decide) ?_|((with_reducible first|apply vmO|apply vmT|apply vmC);case a=>simp [t4, e4, f4, w1];with_reducible first|exact .v|exact .c|exact .t|exact .f))
    refine ⟨rest.length, by simp, _, h4, done ++ [⟨key, br, ep, sq, fr, to, val, gone⟩], rest, x4, rfl, rfl, by rw [hdr]; simp, by simp [t0], by simp [hi], by simp, ?_, he4⟩
    rw [List.flatMap_append, ← List.append_assoc, List.map_append]
    simpa [hxb] using ac4

theorem encG_len {ep : Int} {vs : List Ver} (hep : 0 ≤ ep ∧ ep ≤ 10000) (hl : vs.length ≤ 300) (hm : ∀ v ∈ vs, VMay v = true) (hs : ∀ v ∈ vs, VSmall v) : (encG ep vs).length ≤ 18 + 2072 * vs.length := by
  have fl := flat_len (vs := vs) fun v hv => ⟨vmay_num (hm v hv), hs v hv⟩
  have el := enc7_len 8 vs.length (by omega)
  have ee := enc7_len 8 ep.toNat (by omega)
  simp only [encG, encL, encs, List.length_append, List.flatMap_cons, List.flatMap_nil, List.length_nil, Int.toNat_natCast]
  omega

set_option maxHeartbeats 2000000 in
theorem write15_ans (ep : Int) (vs : List Ver) (rv : AV) (h0 : Hp Fm) (k : SV 8 (vs.map encV) rv) (hl : vs.length ≤ 300) (hep : 0 ≤ ep ∧ ep ≤ 10000) (hm : ∀ v ∈ vs, VMay v = true) (hs : ∀ v ∈ vs, VSmall v) (hp : ∀ z, h0.pol z = false) :
    A Tryz.prog TT (.func 10) [.agg [.int .i64 ep, rv]] h0 (fun r h' => SV 1 ((frame (encG ep vs)).map byteAV) r ∧ HE h0 h') := by
  have c1 := k.cells
  have i1 := k.isCell
  have gl := encG_len hep hl hm hs
  have e0 := (HE.refl h0).new (.row [.int .i64 ep, rv])
  apply A_go Tryz.func10 rfl (by rfl); (case hn => (simp [Tryz.ntmps10]; rfl))
  repeat(first|with_reducible first|refine vmR ?_|refine vmV rfl ?_|refine vmW rfl ?_|refine vmL ?_|refine blockW_y (by decide) ?_|((with_reducible first|apply vmO|apply vmT|apply vmC);case a=>simp [c1, i1];with_reducible first|exact .v|exact .c|exact .t|exact .f))
  refine A.mono (put2_ans ep _ (by omega) (by exact hp _)) ?_
  rintro u h1 ⟨a1, e1⟩
  have uc := a1.sv.cells
  have ui := a1.sv.isCell
  have e01 := e0.trans e1
  have g1 : Mp.get h1.obj h0.no = some (.row [.int .i64 ep, rv]) := by rw [e1.obj _ (by show h0.no < h0.no + 1; omega)]; simp
  have p1 : ∀ z, h1.pol z = false := fun z => by rw [e01.pol]; exact hp z
  refine ⟨_, by simp; first | done | rfl, ?_⟩
  repeat(first|with_reducible first|refine vmR ?_|refine vmV rfl ?_|refine vmW rfl ?_|refine vmL ?_|refine blockW_y (by decide) ?_|((with_reducible first|apply vmO|apply vmT|apply vmC);case a=>simp [uc, ui, g1, c1, i1];with_reducible first|exact .v|exact .c|exact .t|exact .f))
  refine A.mono (list6_ans vs rv h1 k hl hm hs p1) ?_
  rintro w h2 ⟨sw, e2⟩
  have wc := sw.cells
  have wi := sw.isCell
  refine ⟨_, by simp; first | done | rfl, ?_⟩
  have eg : encG ep vs = enc7 ep.toNat ++ encL vs := by simp [encG, encs]
  rw [eg, List.length_append] at gl
  rw [eg]
  repeat(first|with_reducible first|refine vmR ?_|refine vmV rfl ?_|refine vmW rfl ?_|refine vmL ?_|refine blockW_y (by decide) ?_|((with_reducible first|apply vmO|apply vmT|apply vmC);case a=>simp [uc, ui, wc, wi];with_reducible first|exact .v|exact .c|exact .t|exact .f))
  with_reducible apply WO_app_i; (case hw => (simp [uc, ui, wc, wi]; done)); (case ho => rfl); (case hb => rfl); (case ha => (simp [uc, ui, wc, wi]; first | done | exact ⟨rfl, rfl⟩ | rfl)); (case h1 => (simp; first | done | rfl)); (case h2 => (simp; first | done | rfl))
  have a1' : AC h0 h1 1 ((enc7 ep.toNat).map byteAV) u := a1.weak e0.ng
  refine app_then (AC.appN (h0 := h0) (new := (encL vs).map byteAV) etB (a1'.of e2) (e01.trans e2) (hp _) sw.newEls (by simp; omega)) ?_
  rintro x4 h4 ⟨ac4, he4, _, _, _⟩
  have e4 := ac4.sv.cells
  have f4 := ac4.sv.isCell
  refine ⟨_, by simp; first | done | rfl, ?_⟩
  repeat(first|with_reducible first|refine vmR ?_|refine vmV rfl ?_|refine vmW rfl ?_|refine vmL ?_|refine blockW_y (by decide) ?_|((with_reducible first|apply vmO|apply vmT|apply vmC);case a=>simp [e4, f4];with_reducible first|exact .v|exact .c|exact .t|exact .f))
  refine A.mono (frame3_ans (enc7 ep.toNat ++ encL vs) x4 h4 (by simpa using ac4.sv) (by simp; omega) (by rw [he4.pol]; exact hp _)) ?_
  rintro y h5 ⟨sy, e5⟩
  have yc := sy.cells
  have yi := sy.isCell
  refine ⟨_, by simp; first | done | rfl, ?_⟩
  repeat(first|with_reducible first|refine vmR ?_|refine vmV rfl ?_|refine vmW rfl ?_|refine vmL ?_|refine blockW_y (by decide) ?_|((with_reducible first|apply vmO|apply vmT|apply vmC);case a=>simp [yc, yi];with_reducible first|exact .v|exact .c|exact .t|exact .f))
  (first | apply endW_r | apply endW_n); (case h1 => (simp [Tryz.results10]; first | done | rfl))
  exact ⟨sy, he4.trans e5⟩

set_option maxHeartbeats 4000000 in
theorem may15_ans (ep : Int) (vs : List Ver) (rv : AV) (h0 : Hp Fm) (k : SV 8 (vs.map encV) rv) (hl : vs.length ≤ 100000) (hs : ∀ v ∈ vs, v.key.length ≤ 100000) (hp : ∀ z, h0.pol z = false) :
    A Tryz.prog TT (.func 13) [.agg [.int .i64 ep, rv]] h0 (fun r h' => r = .bool (GMay ep vs) ∧ HE h0 h') := by
  have c1 := k.cells
  have i1 := k.isCell
  have n1 := k.nm
  have l1 := k.len Tryz.underlying23
  rw [List.length_map] at l1
  have e0 := (HE.refl h0).new (.row [.int .i64 ep, rv])
  apply A_go Tryz.func13 rfl (by rfl); (case hn => (simp [Tryz.ntmps13]; rfl))
  repeat(first|with_reducible first|refine vmR ?_|refine vmV rfl ?_|refine vmW rfl ?_|refine vmL ?_|refine blockW_y (by decide) ?_|((with_reducible first|apply vmO|apply vmT|apply vmC);case a=>simp [c1, i1];with_reducible first|exact .v|exact .c|exact .t|exact .f))
  refine W_loop (fun m s => ∃ (t : Fm AV) (h : Hp Fm) (i : Nat), s = ⟨t, 40, h, none⟩ ∧ m = vs.length - i ∧ i ≤ vs.length ∧ (vs.drop i).any (vOdd ep) = vs.any (vOdd ep) ∧ tget t 1 = .ptr h0.no 0 ∧ tget t 3 = .int .i64 i ∧ HE h0 h ∧ Mp.get h.obj h0.no = some (.row [.int .i64 ep, rv]) ∧ h0.no < h.no) vs.length
    ⟨_, _, 0, rfl, rfl, by omega, rfl, by simp, by simp, e0, by simp, by show h0.no < h0.no + 1; omega⟩ ?_
  rintro m s ⟨t, h, i, rfl, rfl, hi, hany, t1, t3, he, gr, gn⟩
  by_cases q : i < vs.length
  case neg =>
    have q' : ¬ (i : Int) < vs.length := by omega
    have ed : vs.drop i = [] := List.drop_eq_nil_iff.mpr (by omega)
    rw [ed] at hany
    have hany' : vs.any (vOdd ep) = false := by rw [← hany]; rfl
    by_cases q1 : 1 ≤ ep
    · by_cases q2 : ep ≤ 10000
      all_goals
        repeat(first|with_reducible first|refine vmR ?_|refine vmV rfl ?_|refine vmW rfl ?_|refine vmL ?_|refine blockW_y (by decide) ?_|((with_reducible first|apply vmO|apply vmT|apply vmC);case a=>simp [t1, t3, gr, n1, l1, c1, i1, q, q', q1, q2];with_reducible first|exact .v|exact .c|exact .t|exact .f))
        (first | apply endW_r | apply endW_n); (case h1 => (simp [Tryz.results13]; first | done | rfl))
        exact ⟨by unfold GMay; rw [hany']; simp [q1, q2], he⟩
    · repeat(first|with_reducible first|refine vmR ?_|refine vmV rfl ?_|refine vmW rfl ?_|refine vmL ?_|refine blockW_y (by decide) ?_|((with_reducible first|apply vmO|apply vmT|apply vmC);case a=>simp [t1, t3, gr, n1, l1, c1, i1, q, q', q1];with_reducible first|exact .v|exact .c|exact .t|exact .f))
      (first | apply endW_r | apply endW_n); (case h1 => (simp [Tryz.results13]; first | done | rfl))
      exact ⟨by unfold GMay; rw [hany']; simp [q1], he⟩
  have q' : (i : Int) < vs.length := by omega
  obtain ⟨x, hx⟩ : ∃ x, x = vs[i] := ⟨_, rfl⟩
  have ed : vs.drop i = x :: vs.drop (i + 1) := by rw [hx]; exact List.drop_eq_getElem_cons q
  rw [ed, List.any_cons] at hany
  have ix := k.idx (k := .i64) (i := (i : Int)) Tryz.underlying23 z73 (by omega) (by simp; omega)
  have ig : (vs.map encV)[i]'(by simp; omega) = encV x := by simp [hx]
  simp only [Int.toNat_natCast, ig] at ix
  have hxs := hs x (by rw [hx]; exact List.getElem_mem q)
  have w1 : IntKind.i64.wrap ((i : Int) + 1) = ((i + 1 : Nat) : Int) := by rw [wrap64 (by omega) (by omega)]; simp
  have hph : ∀ z, h.pol z = false := fun z => by rw [he.pol]; exact hp z
  have hOdd : vOdd ep x = (!VMay x || !decide (x.ep = ep)) := rfl
  have MX := may6_ans x h hxs hph
  obtain ⟨mx, hmx⟩ : ∃ mx, mx = VMay x := ⟨_, rfl⟩
  rw [← hmx] at MX hOdd
  clear hxs hx ed hmx
  obtain ⟨key, br, e, sq, fr, to, val, gone⟩ := x
  repeat(first|with_reducible first|refine vmR ?_|refine vmV rfl ?_|refine vmW rfl ?_|refine vmL ?_|refine blockW_y (by decide) ?_|((with_reducible first|apply vmO|apply vmT|apply vmC);case a=>simp [t1, t3, gr, n1, l1, c1, i1, q, q', ix];with_reducible first|exact .v|exact .c|exact .t|exact .f))
  refine A.mono MX ?_
  rintro _ h2 ⟨rfl, e2⟩
  have gr2 := (e2.obj _ gn).trans gr
  have gn2 := Nat.lt_of_lt_of_le gn e2.no
  refine ⟨_, by simp; first | done | rfl, ?_⟩
  cases mx with
  | false =>
    repeat(first|with_reducible first|refine vmR ?_|refine vmV rfl ?_|refine vmW rfl ?_|refine vmL ?_|refine blockW_y (by decide) ?_|((with_reducible first|apply vmO|apply vmT|apply vmC);case a=>simp;with_reducible first|exact .v|exact .c|exact .t|exact .f))
    (with_reducible refine W_draw_id (pln := true) [0, 1, 2, 3, 4, 5, 6, 7, 8, 9, 10, 11, 12, 13] [(4, (4, [])), (9, (9, [])), (11, (11, []))] (by kernel_rfl) rfl ?_)
    repeat(first|with_reducible first|refine vmR ?_|refine vmV rfl ?_|refine vmW rfl ?_|refine vmL ?_|refine blockW_y (by decide) ?_|((with_reducible first|apply vmO|apply vmT|apply vmC);case a=>simp [t1, t3, gr2];with_reducible first|exact .v|exact .c|exact .t|exact .f))
    refine ⟨by simp [readSame, beqAV_self, t1, t3, gr2]; done, _, by simp; first | done | rfl, ?_⟩
    repeat(first|with_reducible first|refine vmR ?_|refine vmV rfl ?_|refine vmW rfl ?_|refine vmL ?_|refine blockW_y (by decide) ?_|((with_reducible first|apply vmO|apply vmT|apply vmC);case a=>simp;with_reducible first|exact .v|exact .c|exact .t|exact .f))
    (first | apply endW_r | apply endW_n); (case h1 => (simp [Tryz.results13]; first | done | rfl))
    refine ⟨?_, (he.trans e2).drew⟩
    have : vs.any (vOdd ep) = true := by rw [← hany, hOdd]; simp
    unfold GMay; rw [this]; simp
  | true =>
    by_cases qe : e = ep
    · have hO : vOdd ep ⟨key, br, e, sq, fr, to, val, gone⟩ = false := by rw [hOdd]; simp [qe]
      rw [hO, Bool.false_or] at hany
      repeat(first|with_reducible first|refine vmR ?_|refine vmV rfl ?_|refine vmW rfl ?_|refine vmL ?_|refine blockW_y (by decide) ?_|((with_reducible first|apply vmO|apply vmT|apply vmC);case a=>simp;with_reducible first|exact .v|exact .c|exact .t|exact .f))
      (with_reducible refine W_draw_id (pln := true) [0, 1, 2, 3, 4, 5, 6, 7, 8, 9, 10, 11, 12, 13] [(4, (4, [])), (9, (9, [])), (11, (11, []))] (by kernel_rfl) rfl ?_)
      repeat(first|with_reducible first|refine vmR ?_|refine vmV rfl ?_|refine vmW rfl ?_|refine vmL ?_|refine blockW_y (by decide) ?_|((with_reducible first|apply vmO|apply vmT|apply vmC);case a=>simp [t1, t3, gr2, ix, c1, i1, qe];with_reducible first|exact .v|exact .c|exact .t|exact .f))
      refine ⟨by simp [readSame, beqAV_self, t1, t3, gr2, ix]; done, _, by simp; first | done | rfl, ?_⟩
      repeat(first|with_reducible first|refine vmR ?_|refine vmV rfl ?_|refine vmW rfl ?_|refine vmL ?_|refine blockW_y (by decide) ?_|((with_reducible first|apply vmO|apply vmT|apply vmC);case a=>simp [t3, w1];with_reducible first|exact .v|exact .c|exact .t|exact .f))
      exact ⟨vs.length - (i + 1), by omega, _, _, i + 1, rfl, rfl, by omega, hany, by simp [t1], by simp, (he.trans e2).drew, gr2, gn2⟩
    · have hO : vOdd ep ⟨key, br, e, sq, fr, to, val, gone⟩ = true := by rw [hOdd]; simp [qe]
      repeat(first|with_reducible first|refine vmR ?_|refine vmV rfl ?_|refine vmW rfl ?_|refine vmL ?_|refine blockW_y (by decide) ?_|((with_reducible first|apply vmO|apply vmT|apply vmC);case a=>simp;with_reducible first|exact .v|exact .c|exact .t|exact .f))
      (with_reducible refine W_draw_id (pln := true) [0, 1, 2, 3, 4, 5, 6, 7, 8, 9, 10, 11, 12, 13] [(4, (4, [])), (9, (9, [])), (11, (11, []))] (by kernel_rfl) rfl ?_)
      repeat(first|with_reducible first|refine vmR ?_|refine vmV rfl ?_|refine vmW rfl ?_|refine vmL ?_|refine blockW_y (by decide) ?_|((with_reducible first|apply vmO|apply vmT|apply vmC);case a=>simp [t1, t3, gr2, ix, c1, i1, qe];with_reducible first|exact .v|exact .c|exact .t|exact .f))
      refine ⟨by simp [readSame, beqAV_self, t1, t3, gr2, ix]; done, _, by simp; first | done | rfl, ?_⟩
      repeat(first|with_reducible first|refine vmR ?_|refine vmV rfl ?_|refine vmW rfl ?_|refine vmL ?_|refine blockW_y (by decide) ?_|((with_reducible first|apply vmO|apply vmT|apply vmC);case a=>simp;with_reducible first|exact .v|exact .c|exact .t|exact .f))
      (first | apply endW_r | apply endW_n); (case h1 => (simp [Tryz.results13]; first | done | rfl))
      refine ⟨?_, (he.trans e2).drew⟩
      have : vs.any (vOdd ep) = true := by rw [← hany, hO]; simp
      unfold GMay; rw [this]; simp
end Go.Vn

set_option maxRecDepth 20000
namespace Go.Vn
open Go.Proofs

def cutV (v : Ver) : Ver := { v with key := v.key.take 110, val := v.val.take 210 }
theorem sl_str (s : List UInt8) (n : Nat) (h : n ≤ s.length) : sliceAV Tryz.prog 9 (.str s) none (some (.int .i64 (n : Int))) none = some (.str (s.take n)) := by
  have : (n : Int) ≤ s.length := by omega
  simp [sliceAV, obound, bound, this, Tryz.underlying9]

set_option maxHeartbeats 2000000 in
theorem cut6_ans (v : Ver) (h0 : Hp Fm) (hk : v.key.length ≤ 9223372036854775807) (hv : v.val.length ≤ 9223372036854775807) :
    A Tryz.prog TT (.func 36) [encV v] h0 (fun r h' => r = encV (cutV v) ∧ HE h0 h') := by
  obtain ⟨key, br, ep, sq, fr, to, val, gone⟩ := v
  simp only at hk hv
  obtain ⟨k2, hk2⟩ : ∃ k2, k2 = key.take 110 := ⟨_, rfl⟩
  obtain ⟨v2, hv2⟩ : ∃ v2, v2 = val.take 210 := ⟨_, rfl⟩
  have ec : cutV ⟨key, br, ep, sq, fr, to, val, gone⟩ = ⟨k2, br, ep, sq, fr, to, v2, gone⟩ := by rw [hk2, hv2]; rfl
  rw [ec]
  by_cases q1 : 110 < key.length
  · have q1' : (110 : Int) < key.length := by omega
    have s1 := sl_str key 110 (by omega)
    rw [← hk2] at s1
    simp only [Int.cast_ofNat_Int] at s1
    by_cases q2 : 210 < val.length
    · have q2' : (210 : Int) < val.length := by omega
      have s2 := sl_str val 210 (by omega)
      rw [← hv2] at s2
      simp only [Int.cast_ofNat_Int] at s2
      apply A_go Tryz.func36 rfl (by rfl); (case hn => (simp [Tryz.ntmps36]; rfl))
      repeat(first|with_reducible first|refine vmR ?_|refine vmV rfl ?_|refine vmW rfl ?_|refine vmL ?_|refine blockW_y (by decide) ?_|((with_reducible first|apply vmO|apply vmT|apply vmC);case a=>simp [q1, q1', q2, q2', s1, s2];with_reducible first|exact .v|exact .c|exact .t|exact .f))
      (first | apply endW_r | apply endW_n); (case h1 => (simp [Tryz.results36]; first | done | rfl))
      exact ⟨by simp, ((((HE.refl h0).new _).new _).set (Nat.le_refl _) _).set (Nat.le_refl _) _ |>.set (Nat.le_succ _) _⟩
    · have q2' : ¬ (210 : Int) < val.length := by omega
      have e2 : v2 = val := by rw [hv2]; exact List.take_of_length_le (by omega)
      rw [e2]
      apply A_go Tryz.func36 rfl (by rfl); (case hn => (simp [Tryz.ntmps36]; rfl))
      repeat(first|with_reducible first|refine vmR ?_|refine vmV rfl ?_|refine vmW rfl ?_|refine vmL ?_|refine blockW_y (by decide) ?_|((with_reducible first|apply vmO|apply vmT|apply vmC);case a=>simp [q1, q1', q2, q2', s1];with_reducible first|exact .v|exact .c|exact .t|exact .f))
      (first | apply endW_r | apply endW_n); (case h1 => (simp [Tryz.results36]; first | done | rfl))
      exact ⟨by simp, (((HE.refl h0).new _).new _).set (Nat.le_refl _) _ |>.set (Nat.le_succ _) _⟩
  · have q1' : ¬ (110 : Int) < key.length := by omega
    have e1 : k2 = key := by rw [hk2]; exact List.take_of_length_le (by omega)
    rw [e1]
    by_cases q2 : 210 < val.length
    · have q2' : (210 : Int) < val.length := by omega
      have s2 := sl_str val 210 (by omega)
      rw [← hv2] at s2
      simp only [Int.cast_ofNat_Int] at s2
      apply A_go Tryz.func36 rfl (by rfl); (case hn => (simp [Tryz.ntmps36]; rfl))
      repeat(first|with_reducible first|refine vmR ?_|refine vmV rfl ?_|refine vmW rfl ?_|refine vmL ?_|refine blockW_y (by decide) ?_|((with_reducible first|apply vmO|apply vmT|apply vmC);case a=>simp [q1, q1', q2, q2', s2];with_reducible first|exact .v|exact .c|exact .t|exact .f))
      (first | apply endW_r | apply endW_n); (case h1 => (simp [Tryz.results36]; first | done | rfl))
      exact ⟨by simp, (((HE.refl h0).new _).new _).set (Nat.le_refl _) _ |>.set (Nat.le_succ _) _⟩
    · have q2' : ¬ (210 : Int) < val.length := by omega
      have e2 : v2 = val := by rw [hv2]; exact List.take_of_length_le (by omega)
      rw [e2]
      apply A_go Tryz.func36 rfl (by rfl); (case hn => (simp [Tryz.ntmps36]; rfl))
      repeat(first|with_reducible first|refine vmR ?_|refine vmV rfl ?_|refine vmW rfl ?_|refine vmL ?_|refine blockW_y (by decide) ?_|((with_reducible first|apply vmO|apply vmT|apply vmC);case a=>simp [q1, q1', q2, q2'];with_reducible first|exact .v|exact .c|exact .t|exact .f))
      (first | apply endW_r | apply endW_n); (case h1 => (simp [Tryz.results36]; first | done | rfl))
      exact ⟨by simp, ((HE.refl h0).new _).new _ |>.set (Nat.le_succ _) _⟩

def atEp (ep : Int) (v : Ver) : Ver := { cutV v with ep := ep }
def cutG (ep : Int) (vs : List Ver) : List Ver := (vs.take 4).map (atEp ep)
theorem etV : ElT Tryz.prog 23 73 8 80 true (.agg [.str [], .int .i64 0, .int .i64 0, .int .i64 0, .int .i64 0, .int .i64 0, .str [], .bool false]) := ⟨Tryz.underlying23, z73, b73, a73, t73, rfl, rfl, (fun h => by cases h), by omega, by omega⟩

set_option maxHeartbeats 4000000 in
theorem cut15_ans (ep : Int) (vs : List Ver) (rv : AV) (h0 : Hp Fm) (k : SV 8 (vs.map encV) rv) (hl : vs.length ≤ 9223372036854775807) (hs : ∀ v ∈ vs, v.key.length ≤ 9223372036854775807 ∧ v.val.length ≤ 9223372036854775807) (hp : ∀ z, h0.pol z = false) :
    A Tryz.prog TT (.func 12) [.agg [.int .i64 ep, rv]] h0 (fun r h' => ∃ u, r = .agg [.int .i64 ep, u] ∧ SV 8 ((cutG ep vs).map encV) u ∧ HE h0 h') := by
  have c1 := k.cells
  have i1 := k.isCell
  have n1 := k.nm
  have l1 := k.len Tryz.underlying23
  rw [List.length_map] at l1
  obtain ⟨p1, hp1⟩ : ∃ p1, p1 = h0.no + 1 := ⟨_, rfl⟩
  obtain ⟨p2, hp2⟩ : ∃ p2, p2 = h0.no + 1 + 1 := ⟨_, rfl⟩
  have n01 : h0.no ≠ h0.no + 1 := by omega
  have n02 : h0.no ≠ h0.no + 1 + 1 := by omega
  have n12 : h0.no + 1 ≠ h0.no + 1 + 1 := by omega
  apply A_go Tryz.func12 rfl (by rfl); (case hn => (simp [Tryz.ntmps12]; rfl))
  repeat(first|with_reducible first|refine vmR ?_|refine vmV rfl ?_|refine vmW rfl ?_|refine vmL ?_|refine blockW_y (by decide) ?_|((with_reducible first|apply vmO|apply vmT|apply vmC);case a=>simp [c1, i1, n01, n02, n12];with_reducible first|exact .v|exact .c|exact .t|exact .f))
  refine W_loop (fun m s => ∃ (t : Fm AV) (h : Hp Fm) (i : Nat) (u : AV), s = ⟨t, 37, h, none⟩ ∧ m = 4 - i ∧ i ≤ 4 ∧ i ≤ vs.length ∧ tget t 1 = .ptr h0.no 0 ∧ tget t 2 = .ptr p1 0 ∧ tget t 3 = .ptr p2 0 ∧ tget t 4 = .int .i64 i ∧ AC h0 h 8 (((vs.take i).map (atEp ep)).map encV) u ∧ HE h0 h ∧ Mp.get h.obj h0.no = some (.row [.int .i64 ep, rv]) ∧ Mp.get h.obj p1 = some (.row [.int .i64 0, .nils]) ∧ Mp.get h.obj p2 = some (.row [.int .i64 ep, u]) ∧ p2 < h.no) 4
    ⟨_, _, 0, .nils, rfl, rfl, by omega, by omega, by simp, by simp [hp1], by simp [hp2], by simp, .inl ⟨rfl, rfl⟩, ((((HE.refl h0).new _).new _).new _).set (Nat.le_trans (Nat.le_succ _) (Nat.le_succ _)) _, by simp [n01, n02], by simp [hp1, n12], by simp [hp2], by rw [hp2]; show h0.no + 1 + 1 < h0.no + 1 + 1 + 1; omega⟩ ?_
  rintro m s ⟨t, h, i, u, rfl, rfl, hi4, hi, t1, t2, t3, t4, hu, he, g0, g1, g2, gn⟩
  have uc := hu.sv.cells
  have ui := hu.sv.isCell
  have e02 : h0.no ≠ p2 := by omega
  have e12 : p1 ≠ p2 := by omega
  by_cases q : i < vs.length ∧ i < 4
  case neg =>
    have q' : ¬ ((i : Int) < vs.length ∧ (i : Int) < 4) := by omega
    have fin : (vs.take i).map (atEp ep) = cutG ep vs := by
      unfold cutG
      congr 1
      by_cases z : i < 4
      · rw [List.take_of_length_le (by omega), List.take_of_length_le (by omega)]
      · have : i = 4 := by omega
        rw [this]
    rw [fin] at hu
    have er : ∀ x y, splice [AV.int .i64 0, .nils] 0 [x, y] = [x, y] := fun _ _ => rfl
    by_cases qa : i < vs.length
    · have qa' : (i : Int) < vs.length := by omega
      have qb : ¬ i < 4 := by omega
      have qb' : ¬ (i : Int) < 4 := by omega
      repeat(first|with_reducible first|refine vmR ?_|refine vmV rfl ?_|refine vmW rfl ?_|refine vmL ?_|refine blockW_y (by decide) ?_|((with_reducible first|apply vmO|apply vmT|apply vmC);case a=>simp [t1, t2, t3, t4, c1, i1, n1, l1, g0, g1, g2, qa, qa', qb, qb', uc, ui];with_reducible first|exact .v|exact .c|exact .t|exact .f))
      (first | apply endW_r | apply endW_n); (case h1 => (simp [Tryz.results12, t2]; first | done | rfl))
      exact ⟨u, by simp, hu.sv, he.set (by omega) _⟩
    · have qa' : ¬ (i : Int) < vs.length := by omega
      repeat(first|with_reducible first|refine vmR ?_|refine vmV rfl ?_|refine vmW rfl ?_|refine vmL ?_|refine blockW_y (by decide) ?_|((with_reducible first|apply vmO|apply vmT|apply vmC);case a=>simp [t1, t2, t3, t4, c1, i1, n1, l1, g0, g1, g2, qa, qa', uc, ui];with_reducible first|exact .v|exact .c|exact .t|exact .f))
      (first | apply endW_r | apply endW_n); (case h1 => (simp [Tryz.results12, t2]; first | done | rfl))
      exact ⟨u, by simp, hu.sv, he.set (by omega) _⟩
  obtain ⟨qa, qb⟩ := q
  have qa' : (i : Int) < vs.length := by omega
  have qb' : (i : Int) < 4 := by omega
  obtain ⟨x, hx⟩ : ∃ x, x = vs[i] := ⟨_, rfl⟩
  have et : (vs.take (i + 1)).map (atEp ep) = (vs.take i).map (atEp ep) ++ [atEp ep x] := by rw [List.take_succ_eq_append_getElem qa, hx, List.map_append]; rfl
  have ix := k.idx (k := .i64) (i := (i : Int)) Tryz.underlying23 z73 (by omega) (by simp; omega)
  have ig : (vs.map encV)[i]'(by simp; omega) = encV x := by simp [hx]
  simp only [Int.toNat_natCast, ig] at ix
  obtain ⟨hxs1, hxs2⟩ := hs x (by rw [hx]; exact List.getElem_mem qa)
  have w1 : IntKind.i64.wrap ((i : Int) + 1) = ((i + 1 : Nat) : Int) := by rw [wrap64 (by omega) (by omega)]; simp
  have CX := cut6_ans x h hxs1 hxs2
  have hae : atEp ep x = { cutV x with ep := ep } := rfl
  obtain ⟨y, hy⟩ : ∃ y, y = cutV x := ⟨_, rfl⟩
  rw [← hy] at CX hae
  clear hxs1 hxs2 hy hx
  obtain ⟨key, br, e, sq, fr, to, val, gone⟩ := x
  obtain ⟨key2, br2, e2, sq2, fr2, to2, val2, gone2⟩ := y
  repeat(first|with_reducible first|refine vmR ?_|refine vmV rfl ?_|refine vmW rfl ?_|refine vmL ?_|refine blockW_y (by decide) ?_|((with_reducible first|apply vmO|apply vmT|apply vmC);case a=>simp [t1, t2, t3, t4, c1, i1, n1, l1, g0, qa, qa', qb, qb', ix];with_reducible first|exact .v|exact .c|exact .t|exact .f))
  refine A.mono CX ?_
  rintro _ h2 ⟨rfl, eh⟩
  have g0' := (eh.obj _ (by omega)).trans g0
  have g1' := (eh.obj _ (by omega)).trans g1
  have g2' := (eh.obj _ gn).trans g2
  have gn' := Nat.lt_of_lt_of_le gn eh.no
  have f0 : h0.no ≠ h2.no := by omega
  have f1 : p1 ≠ h2.no := by omega
  have f2 : p2 ≠ h2.no := by omega
  have p2f : ∀ z, h2.pol z = false := fun z => by rw [(he.trans eh).pol]; exact hp z
  have en := (((HE.refl h2).new (.row [.str [], .int .i64 0, .int .i64 0, .int .i64 0, .int .i64 0, .int .i64 0, .str [], .bool false])).set (Nat.le_refl _) (.row [.str key2, .int .i64 br2, .int .i64 e2, .int .i64 sq2, .int .i64 fr2, .int .i64 to2, .str val2, .bool gone2])).set (o := h2.no) (Nat.le_refl _) (.row [.str key2, .int .i64 br2, .int .i64 ep, .int .i64 sq2, .int .i64 fr2, .int .i64 to2, .str val2, .bool gone2])
  refine ⟨_, by simp; first | done | rfl, ?_⟩
  repeat(first|with_reducible first|refine vmR ?_|refine vmV rfl ?_|refine vmW rfl ?_|refine vmL ?_|refine blockW_y (by decide) ?_|((with_reducible first|apply vmO|apply vmT|apply vmC);case a=>simp [t1, t3, g0', g2', f0, f2, uc, ui, newSeq, newSl, p2f];with_reducible first|exact .v|exact .c|exact .t|exact .f))
  with_reducible apply WO_app_i; (case hw => (simp [t1, t3, g0', g2', f0, f2, uc, ui, newSeq, newSl, p2f]; done)); (case ho => rfl); (case hb => rfl); (case ha => (simp [t1, t3, g0', g2', f0, f2, uc, ui, newSeq, newSl, p2f]; first | done | exact ⟨rfl, rfl⟩ | rfl)); (case h1 => (simp; first | done | rfl)); (case h2 => (simp; first | done | rfl))
  have hul := hu.of (eh.trans (en.newSl 1))
  refine app_then (AC.app (h0 := h0) etV hul ((he.trans eh).trans (en.newSl 1)) (hp _) (by simp; omega)) ?_
  rintro x4 h4 ⟨ac4, he4, ho4, hn4, _⟩
  have e4 := ac4.sv.cells
  have f4 := ac4.sv.isCell
  have k0 : Mp.get h4.obj h0.no = some (.row [.int .i64 ep, rv]) := by rw [ho4]; simp [f0]; exact g0'
  have k1 : Mp.get h4.obj p1 = some (.row [.int .i64 0, .nils]) := by rw [ho4]; simp [f1]; exact g1'
  have k2 : Mp.get h4.obj p2 = some (.row [.int .i64 ep, u]) := by rw [ho4]; simp [f2]; exact g2'
  have kn : p2 < h4.no := by rw [hn4]; show p2 < h2.no + 1; omega
  clear ho4 hn4
  refine ⟨_, by simp; first | done | rfl, ?_⟩
  repeat(first|with_reducible first|refine vmR ?_|refine vmV rfl ?_|refine vmW rfl ?_|refine vmL ?_|refine blockW_y (by decide) ?_|((with_reducible first|apply vmO|apply vmT|apply vmC);case a=>simp [t3, t4, k2, e4, f4, w1];with_reducible first|exact .v|exact .c|exact .t|exact .f))
  refine ⟨4 - (i + 1), by omega, _, _, i + 1, x4, rfl, rfl, by omega, by omega, by simp [t1], by simp [t2], by simp [t3], by simp, ?_, he4.set (by omega) _, by simp [e02, k0], by simp [e12, k1], by simp, kn⟩
  rw [et, List.map_append]
  rw [hae]
  refine AC.ofX (S := fun _ => True) ac4 ?_
  exact (HX.refl (fun _ => True) (fun _ => False) h4).set (o := p2) (fun _ => trivial) _
end Go.Vn
