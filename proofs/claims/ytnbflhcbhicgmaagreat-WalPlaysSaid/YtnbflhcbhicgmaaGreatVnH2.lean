/- What functions of the program come to, in the value machine (a part of the proof of the claim's statement). No condition. -/
import Derived.Test.YtnbflhcbhicgmaaGreatVnH1
set_option linter.unusedSimpArgs false
set_option linter.unusedVariables false
set_option maxRecDepth 20000
namespace Go.Vn
open Go.Proofs

theorem xorhigh (n : Nat) (h : n < 9223372036854775808) : n ^^^ 9223372036854775808 = n + 9223372036854775808 := by
  have d := Nat.xor_div_two_pow (a := n) (b := 9223372036854775808) (n := 63)
  have m := Nat.xor_mod_two_pow (a := n) (b := 9223372036854775808) (n := 63)
  have t1 : 9223372036854775808 / 2 ^ 63 = 1 := by decide
  have t2 : 9223372036854775808 % 2 ^ 63 = 0 := by decide
  rw [t1] at d
  rw [t2, Nat.xor_zero] at m
  have p : (2 : Nat) ^ 63 = 9223372036854775808 := by decide
  rw [p] at d m
  generalize n ^^^ 9223372036854775808 = x at *
  have q : n / 9223372036854775808 = 0 := by omega
  rw [q] at d
  have : (0 ^^^ 1 : Nat) = 1 := by decide
  omega
theorem writeK_app (l : List KP) (p : KP) : writeK (l ++ [p]) = writeK l ++ writeP p := by simp [writeK]
theorem esc_app (s : List UInt8) (c : UInt8) : esc (s ++ [c]) = esc s ++ (if c = 0 then [0, 255] else [c]) := by simp [esc]
theorem esc_len (s : List UInt8) : (esc s).length ≤ 2 * s.length := by
  induction s with
  | nil => simp [esc]
  | cons c s ih =>
    have : esc (c :: s) = (if c = 0 then [0, 255] else [c]) ++ esc s := by simp [esc]
    rw [this, List.length_append, List.length_cons]
    split <;> simp <;> omega
theorem bytes8_len (n : Nat) : (bytes8 n).length = 8 := by simp [bytes8]
theorem bytes8_take (n j : Nat) (h : j < 8) : (bytes8 n).take (j + 1) = (bytes8 n).take j ++ [UInt8.ofNat (n / 256 ^ (7 - j) % 256)] := by
  rw [List.take_succ_eq_append_getElem (by rw [bytes8_len]; omega)]
  simp [bytes8]
def PartOk (p : KP) : Prop := 0 ≤ p.num ∧ p.num ≤ 1000 ∧ p.txt.length ≤ 1000
theorem writeP_len {p : KP} (h : PartOk p) : (writeP p).length ≤ 2003 := by
  unfold writeP
  have := esc_len p.txt
  have := h.2.2
  split <;> simp [bytes8_len] <;> omega
theorem writeK_len {l : List KP} (h : ∀ p ∈ l, PartOk p) : (writeK l).length ≤ 2003 * l.length := by
  induction l with
  | nil => simp [writeK]
  | cons p l ih =>
    have := ih fun q hq => h q (List.mem_cons_of_mem _ hq)
    have h2 := writeP_len (h p List.mem_cons_self)
    simp only [writeK, List.flatMap_cons, List.length_append, List.length_cons] at *
    omega

set_option maxHeartbeats 4000000 in
theorem owrite_ans (l : List KP) (v : AV) (h0 : Hp Fm) (k : SV 3 (l.map encK) v) (hl : l.length ≤ 100) (hok : ∀ p ∈ l, PartOk p) (hp : ∀ z, h0.pol z = false) :
    A Tryz.prog TT (.func 100) [v] h0 (fun r h' => SV 1 ((writeK l).map byteAV) r ∧ HE h0 h') := by
  have c1 := k.cells
  have i1 := k.isCell
  have n1 := k.nm
  have l1 := k.len Tryz.underlying113
  rw [List.length_map] at l1
  apply A_go Tryz.func100 rfl (by rfl); (case hn => (simp [Tryz.ntmps100]; rfl))
  repeat(first|with_reducible first|refine vmR ?_|refine vmV rfl ?_|refine vmW rfl ?_|refine vmL ?_|refine blockW_y (by decide) ?_|((with_reducible first|apply vmO|apply vmT|apply vmC);case a=>simp [c1, i1, n1, l1];with_reducible first|exact .v|exact .c|exact .t|exact .f))
  refine W_loop (fun m s => ∃ (t : Fm AV) (h : Hp Fm) (done rest : List KP) (u : AV), s = ⟨t, 66, h, none⟩ ∧ m = rest.length ∧ l = done ++ rest ∧ tget t 9 = v ∧ tget t 10 = .int .i64 l.length ∧ tget t 11 = .int .i64 done.length ∧ tget t 3 = u ∧ AC h0 h 1 ((writeK done).map byteAV) u ∧ HE h0 h) l.length
    ⟨_, _, [], l, .nils, rfl, rfl, rfl, by simp, by simp, by simp, by simp, .inl ⟨rfl, rfl⟩, HE.refl h0⟩ ?_
  rintro m s ⟨t, h, done, rest, u, rfl, rfl, hdr, t9, t10, t11, t3, hu, he⟩
  have uc := hu.sv.cells
  have ui := hu.sv.isCell
  have hlen : l.length = done.length + rest.length := by rw [hdr]; simp
  obtain ⟨i, hi⟩ : ∃ i, i = done.length := ⟨_, rfl⟩
  rw [← hi] at t11 hlen
  cases rest with
  | nil =>
    have q : ¬ ((i : Int) < l.length) := by simp at hlen; omega
    have q' : ¬ (i < l.length) := by omega
    repeat(first|with_reducible first|refine vmR ?_|refine vmV rfl ?_|refine vmW rfl ?_|refine vmL ?_|refine blockW_y (by decide) ?_|((with_reducible first|apply vmO|apply vmT|apply vmC);case a=>simp [t9, t10, t11, t3, q, q', uc, ui];with_reducible first|exact .v|exact .c|exact .t|exact .f))
    (first | apply endW_r | apply endW_n); (case h1 => (simp [Tryz.results100]; first | done | rfl))
    rw [hdr]
    exact ⟨by simpa using hu.sv, he⟩
  | cons p rest =>
    have q : ((i : Int) < l.length) := by simp at hlen; omega
    have q' : (i < l.length) := by omega
    have hpk := hok p (by rw [hdr]; simp)
    have hdl := writeK_len (l := done) fun x hx => hok x (by rw [hdr]; simp [hx])
    have hwl : (writeK done).length ≤ 200300 := by omega
    have ix := k.idx (k := .i64) (i := (i : Int)) Tryz.underlying113 z117 (by omega) (by simp; omega)
    have ig : (l.map encK)[i]'(by simp; omega) = encPt p.isT p.num p.txt := by simp [hdr, hi]
    simp only [Int.toNat_natCast, ig] at ix
    have hph : ∀ z, h.pol z = false := fun z => by rw [he.pol]; exact hp z
    have w1 : IntKind.i64.wrap ((i : Int) + 1) = ((i + 1 : Nat) : Int) := by rw [wrap64 (by omega) (by omega)]; simp
    have eb := ((HE.refl h).new (.row [.bool false, .int .i64 0, .str []])).set (Nat.le_refl _) (.row (encPt p.isT p.num p.txt).cells)
    obtain ⟨pt, pn, ps⟩ := p
    obtain ⟨hpn0, hpn1, hps⟩ := hpk
    simp only at hpn0 hpn1 hps ix eb
    cases pt with
    | true =>
      have psl : (ps.length : Int) = ps.length := rfl
      repeat(first|with_reducible first|refine vmR ?_|refine vmV rfl ?_|refine vmW rfl ?_|refine vmL ?_|refine blockW_y (by decide) ?_|((with_reducible first|apply vmO|apply vmT|apply vmC);case a=>simp [t9, t10, t11, t3, q, q', ix, uc, ui, newSeq, newSl, hph, encPt];with_reducible first|exact .v|exact .c|exact .t|exact .f))
      with_reducible apply WO_app_i; (case hw => (simp [t9, t10, t11, t3, q, q', ix, uc, ui, newSeq, newSl, hph, encPt]; done)); (case ho => rfl); (case hb => rfl); (case ha => (simp [t9, t10, t11, t3, q, q', ix, uc, ui, newSeq, newSl, hph, encPt]; first | done | exact ⟨rfl, rfl⟩ | rfl)); (case h1 => (simp; first | done | rfl)); (case h2 => (simp; first | done | rfl))
      refine app_then (AC.app (h0 := h0) etB (hu.of (eb.newSl 1)) (he.trans (eb.newSl 1)) (hp _) (by simp; omega)) ?_
      rintro x4 h4 ⟨ac4, he4, ho4, hn4, hg4⟩
      have e4 := ac4.sv.cells
      have f4 := ac4.sv.isCell
      have g4 : Mp.get h4.obj h.no = some (.row [.bool true, .int .i64 pn, .str ps]) := by rw [ho4]; simp [encPt]
      have nn4 : h.no < h4.no := by rw [hn4]; show h.no < h.no + 1; omega
      clear ho4 hn4 hg4
      refine ⟨_, by simp; first | done | rfl, ?_⟩
      repeat(first|with_reducible first|refine vmR ?_|refine vmV rfl ?_|refine vmW rfl ?_|refine vmL ?_|refine blockW_y (by decide) ?_|((with_reducible first|apply vmO|apply vmT|apply vmC);case a=>simp [g4];with_reducible first|exact .v|exact .c|exact .t|exact .f))
      refine W_loop (fun m s => ∃ (t : Fm AV) (h' : Hp Fm) (j : Nat) (u : AV), s = ⟨t, 66, h', none⟩ ∧ m = ps.length - j ∧ j ≤ ps.length ∧ tget t 9 = v ∧ tget t 10 = .int .i64 l.length ∧ tget t 11 = .int .i64 i ∧ tget t 5 = .ptr h.no 0 ∧ tget t 22 = .int .i64 ps.length ∧ tget t 23 = .int .i64 j ∧ tget t 3 = u ∧ AC h0 h' 1 ((writeK done ++ 2 :: esc (ps.take j)).map byteAV) u ∧ HE h0 h' ∧ Mp.get h'.obj h.no = some (.row [.bool true, .int .i64 pn, .str ps])) ps.length
        ⟨_, _, 0, x4, rfl, rfl, by omega, by simp [t9], by simp [t10], by simp [t11], by simp, by simp, by simp, by simp, by simpa [esc, byteAV] using ac4, he4, g4⟩ ?_
      clear t9 t10 t11 t3 uc ui t
      rintro m s ⟨t, h', j, u', rfl, rfl, hj, t9, t10, t11, t5, t22, t23, t3, hu', he', g5⟩
      have uc := hu'.sv.cells
      have ui := hu'.sv.isCell
      have hph' : ∀ z, h'.pol z = false := fun z => by rw [he'.pol]; exact hp z
      have hel := esc_len (ps.take j)
      have htl : (ps.take j).length ≤ 1000 := by rw [List.length_take]; omega
      by_cases qj : j < ps.length
      case neg =>
        have qj' : ¬ (j : Int) < ps.length := by omega
        repeat(first|with_reducible first|refine vmR ?_|refine vmV rfl ?_|refine vmW rfl ?_|refine vmL ?_|refine blockW_y (by decide) ?_|((with_reducible first|apply vmO|apply vmT|apply vmC);case a=>simp [t9, t10, t11, t5, t22, t23, t3, qj, qj', uc, ui, newSeq, newSl, hph'];with_reducible first|exact .v|exact .c|exact .t|exact .f))
        with_reducible apply WO_app_i; (case hw => (simp [t9, t10, t11, t5, t22, t23, t3, qj, qj', uc, ui, newSeq, newSl, hph']; done)); (case ho => rfl); (case hb => rfl); (case ha => (simp [t9, t10, t11, t5, t22, t23, t3, qj, qj', uc, ui, newSeq, newSl, hph']; first | done | exact ⟨rfl, rfl⟩ | rfl)); (case h1 => (simp; first | done | rfl)); (case h2 => (simp; first | done | rfl))
        refine app_then (AC.appN (h0 := h0) (new := ([0, 1] : List UInt8).map byteAV) etB (hu'.of ((HE.refl h').newSl 2)) (he'.newSl 2) (hp _) rfl (by simp; omega)) ?_
        rintro x5 h5 ⟨ac5, he5, _, _, _⟩
        have e5 := ac5.sv.cells
        have f5 := ac5.sv.isCell
        refine ⟨_, by simp; first | done | rfl, ?_⟩
        repeat(first|with_reducible first|refine vmR ?_|refine vmV rfl ?_|refine vmW rfl ?_|refine vmL ?_|refine blockW_y (by decide) ?_|((with_reducible first|apply vmO|apply vmT|apply vmC);case a=>simp [t9, t10, t11, e5, f5, w1];with_reducible first|exact .v|exact .c|exact .t|exact .f))
        refine ⟨rest.length, by simp, _, _, done ++ [⟨true, pn, ps⟩], rest, x5, rfl, rfl, by rw [hdr]; simp, by simp [t9], by simp [t10], by simp [hi], by simp, ?_, he5⟩
        have ej : ps.take j = ps := List.take_of_length_le (by omega)
        rw [ej] at ac5
        have : (writeK (done ++ [⟨true, pn, ps⟩])).map byteAV = (writeK done ++ 2 :: esc ps).map byteAV ++ ([0, 1] : List UInt8).map byteAV := by rw [writeK_app]; simp [writeP]
        rw [this]; exact ac5
      have qj' : (j : Int) < ps.length := by omega
      obtain ⟨c, hc⟩ : ∃ c : UInt8, c = ps[j] := ⟨_, rfl⟩
      have jx : indexAV Tryz.prog 9 (.str ps) (.int .i64 (j : Int)) = some (.int .u8 (c.toNat : Int)) := by
        simp [indexAV, Tryz.underlying9, List.getElem?_eq_getElem qj, byteAV, hc]
      obtain ⟨cn, hcn⟩ : ∃ cn : Nat, cn = c.toNat := ⟨_, rfl⟩
      rw [← hcn] at jx
      have et : ps.take (j + 1) = ps.take j ++ [c] := by rw [List.take_succ_eq_append_getElem qj, hc]
      have w2 : IntKind.i64.wrap ((j : Int) + 1) = ((j + 1 : Nat) : Int) := by rw [wrap64 (by omega) (by omega)]; simp
      repeat(first|with_reducible first|refine vmR ?_|refine vmV rfl ?_|refine vmW rfl ?_|refine vmL ?_|refine blockW_y (by decide) ?_|((with_reducible first|apply vmO|apply vmT|apply vmC);case a=>simp [t9, t10, t11, t5, t22, t23, t3, qj, qj', uc, ui, newSeq, newSl, hph', g5, jx];with_reducible first|exact .v|exact .c|exact .t|exact .f))
      with_reducible apply WO_app_i; (case hw => (simp [t9, t10, t11, t5, t22, t23, t3, qj, qj', uc, ui, newSeq, newSl, hph', g5, jx]; done)); (case ho => rfl); (case hb => rfl); (case ha => (simp [t9, t10, t11, t5, t22, t23, t3, qj, qj', uc, ui, newSeq, newSl, hph', g5, jx]; first | done | exact ⟨rfl, rfl⟩ | rfl)); (case h1 => (simp; first | done | rfl)); (case h2 => (simp; first | done | rfl))
      refine app_then (AC.app (h0 := h0) etB (hu'.of ((HE.refl h').newSl 1)) (he'.newSl 1) (hp _) (by simp; omega)) ?_
      rintro x5 h5 ⟨ac5, he5, ho5, hn5, hg5⟩
      have e5 := ac5.sv.cells
      have f5 := ac5.sv.isCell
      have g6 : Mp.get h5.obj h.no = some (.row [.bool true, .int .i64 pn, .str ps]) := by rw [ho5]; exact g5
      have hph5 : ∀ z, h5.pol z = false := fun z => by rw [he5.pol]; exact hp z
      refine ⟨_, by simp; first | done | rfl, ?_⟩
      by_cases qc : cn = 0
      · have qc0 : c = 0 := by rw [qc] at hcn; exact UInt8.toNat_inj.mp hcn.symm
        repeat(first|with_reducible first|refine vmR ?_|refine vmV rfl ?_|refine vmW rfl ?_|refine vmL ?_|refine blockW_y (by decide) ?_|((with_reducible first|apply vmO|apply vmT|apply vmC);case a=>simp [t9, t10, t11, t5, t22, t23, e5, f5, g6, jx, qc, newSeq, newSl, hph5];with_reducible first|exact .v|exact .c|exact .t|exact .f))
        with_reducible apply WO_app_i; (case hw => (simp [t9, t10, t11, t5, t22, t23, e5, f5, g6, jx, qc, newSeq, newSl, hph5]; done)); (case ho => rfl); (case hb => rfl); (case ha => (simp [t9, t10, t11, t5, t22, t23, e5, f5, g6, jx, qc, newSeq, newSl, hph5]; first | done | exact ⟨rfl, rfl⟩ | rfl)); (case h1 => (simp; first | done | rfl)); (case h2 => (simp; first | done | rfl))
        refine app_then (AC.app (h0 := h0) etB (ac5.of ((HE.refl h5).newSl 1)) (he5.newSl 1) (hp _) (by simp; omega)) ?_
        rintro x6 h6 ⟨ac6, he6, ho6, hn6, _⟩
        have e6 := ac6.sv.cells
        have f6 := ac6.sv.isCell
        have g7 : Mp.get h6.obj h.no = some (.row [.bool true, .int .i64 pn, .str ps]) := by rw [ho6]; exact g6
        refine ⟨_, by simp; first | done | rfl, ?_⟩
        repeat(first|with_reducible first|refine vmR ?_|refine vmV rfl ?_|refine vmW rfl ?_|refine vmL ?_|refine blockW_y (by decide) ?_|((with_reducible first|apply vmO|apply vmT|apply vmC);case a=>simp [t9, t10, t11, t5, t22, t23, e6, f6, w2];with_reducible first|exact .v|exact .c|exact .t|exact .f))
        refine ⟨ps.length - (j + 1), by omega, _, h6, j + 1, x6, rfl, rfl, by omega, by simp [t9], by simp [t10], by simp [t11], by simp [t5], by simp [t22], by simp, by simp, ?_, he6, g7⟩
        have : (writeK done ++ 2 :: esc (ps.take (j + 1))).map byteAV = (writeK done ++ 2 :: esc (ps.take j)).map byteAV ++ [.int .u8 cn] ++ [.int .u8 255] := by
          rw [et, esc_app, qc0, qc]; simp [byteAV]
        rw [this]; exact ac6
      · have qc0 : ¬ c = 0 := fun z => qc (by rw [hcn, z]; rfl)
        repeat(first|with_reducible first|refine vmR ?_|refine vmV rfl ?_|refine vmW rfl ?_|refine vmL ?_|refine blockW_y (by decide) ?_|((with_reducible first|apply vmO|apply vmT|apply vmC);case a=>simp [t9, t10, t11, t5, t22, t23, e5, f5, g6, jx, qc, w2];with_reducible first|exact .v|exact .c|exact .t|exact .f))
        refine ⟨ps.length - (j + 1), by omega, _, h5, j + 1, x5, rfl, rfl, by omega, by simp [t9], by simp [t10], by simp [t11], by simp [t5], by simp [t22], by simp, by simp, ?_, he5, g6⟩
        have : (writeK done ++ 2 :: esc (ps.take (j + 1))).map byteAV = (writeK done ++ 2 :: esc (ps.take j)).map byteAV ++ [.int .u8 cn] := by
          rw [et, esc_app, if_neg qc0]; simp [byteAV, hcn]
        rw [this]; exact ac5
    | false =>
      obtain ⟨x, hx⟩ : ∃ x, x = pn.toNat := ⟨_, rfl⟩
      have epn : pn = (x : Int) := by omega
      subst epn
      have fc : IntKind.u64.wrap (x : Int) = (x : Int) := wrapU64 (by omega)
      obtain ⟨n, hn⟩ : ∃ n, n = x + 9223372036854775808 := ⟨_, rfl⟩
      have fx : IntKind.u64.wrap (↑(x % 2 ^ IntKind.u64.bits ^^^ 9223372036854775808 % 2 ^ IntKind.u64.bits) : Int) = (n : Int) := by
        have e1 : x % 2 ^ IntKind.u64.bits = x := Nat.mod_eq_of_lt (by simp only [IntKind.bits]; omega)
        have e2 : 9223372036854775808 % 2 ^ IntKind.u64.bits = 9223372036854775808 := by decide
        rw [e1, e2, xorhigh x (by omega), ← hn]
        exact wrapU64 (by omega)
      repeat(first|with_reducible first|refine vmR ?_|refine vmV rfl ?_|refine vmW rfl ?_|refine vmL ?_|refine blockW_y (by decide) ?_|((with_reducible first|apply vmO|apply vmT|apply vmC);case a=>simp [t9, t10, t11, t3, q, q', ix, uc, ui, newSeq, newSl, hph, encPt];with_reducible first|exact .v|exact .c|exact .t|exact .f))
      with_reducible apply WO_app_i; (case hw => (simp [t9, t10, t11, t3, q, q', ix, uc, ui, newSeq, newSl, hph, encPt]; done)); (case ho => rfl); (case hb => rfl); (case ha => (simp [t9, t10, t11, t3, q, q', ix, uc, ui, newSeq, newSl, hph, encPt]; first | done | exact ⟨rfl, rfl⟩ | rfl)); (case h1 => (simp; first | done | rfl)); (case h2 => (simp; first | done | rfl))
      refine app_then (AC.app (h0 := h0) etB (hu.of (eb.newSl 1)) (he.trans (eb.newSl 1)) (hp _) (by simp; omega)) ?_
      rintro x4 h4 ⟨ac4, he4, ho4, hn4, hg4⟩
      have e4 := ac4.sv.cells
      have f4 := ac4.sv.isCell
      have g4 : Mp.get h4.obj h.no = some (.row [.bool false, .int .i64 x, .str ps]) := by rw [ho4]; simp [encPt]
      clear ho4 hn4 hg4
      refine ⟨_, by simp; first | done | rfl, ?_⟩
      repeat(first|with_reducible first|refine vmR ?_|refine vmV rfl ?_|refine vmW rfl ?_|refine vmL ?_|refine blockW_y (by decide) ?_|((with_reducible first|apply vmO|apply vmT|apply vmC);case a=>simp [g4, fc, fx];with_reducible first|exact .v|exact .c|exact .t|exact .f))
      refine W_loop (fun m s => ∃ (t : Fm AV) (h' : Hp Fm) (j : Nat) (u : AV), s = ⟨t, 66, h', none⟩ ∧ m = 8 - j ∧ j ≤ 8 ∧ tget t 9 = v ∧ tget t 10 = .int .i64 l.length ∧ tget t 11 = .int .i64 i ∧ tget t 7 = .int .u64 n ∧ tget t 8 = .int .i64 (7 - (j : Int)) ∧ tget t 3 = u ∧ AC h0 h' 1 ((writeK done ++ 1 :: (bytes8 n).take j).map byteAV) u ∧ HE h0 h') 8
        ⟨_, _, 0, x4, rfl, rfl, by omega, by simp [t9], by simp [t10], by simp [t11], by simp, by simp, by simp, by simpa [byteAV] using ac4, he4⟩ ?_
      clear t9 t10 t11 t3 uc ui t
      rintro m s ⟨t, h', j, u', rfl, rfl, hj, t9, t10, t11, t7, t8, t3, hu', he'⟩
      have uc := hu'.sv.cells
      have ui := hu'.sv.isCell
      have hph' : ∀ z, h'.pol z = false := fun z => by rw [he'.pol]; exact hp z
      by_cases qj : j < 8
      case neg =>
        have qj' : ¬ (0 : Int) ≤ 7 - (j : Int) := by omega
        have ej : j = 8 := by omega
        subst ej
        repeat(first|with_reducible first|refine vmR ?_|refine vmV rfl ?_|refine vmW rfl ?_|refine vmL ?_|refine blockW_y (by decide) ?_|((with_reducible first|apply vmO|apply vmT|apply vmC);case a=>simp [t9, t10, t11, t7, t8, t3, uc, ui, w1];with_reducible first|exact .v|exact .c|exact .t|exact .f))
        refine ⟨rest.length, by simp, _, _, done ++ [⟨false, x, ps⟩], rest, u', rfl, rfl, by rw [hdr]; simp, by simp [t9], by simp [t10], by simp [hi], by simp [t3], ?_, he'⟩
        have : writeK (done ++ [⟨false, (x : Int), ps⟩]) = writeK done ++ 1 :: (bytes8 n).take 8 := by
          rw [writeK_app, List.take_of_length_le (by rw [bytes8_len]; omega), hn]; rfl
        rw [this]; exact hu'
      obtain ⟨r, hr⟩ : ∃ r : Nat, r = 7 - j := ⟨_, rfl⟩
      have er : (7 - (j : Int)) = (r : Int) := by omega
      rw [er] at t8
      obtain ⟨e, he8⟩ : ∃ e : Nat, e = 8 * r := ⟨_, rfl⟩
      have w2 : IntKind.i64.wrap (8 * (r : Int)) = (e : Int) := by rw [wrap64 (by omega) (by omega)]; omega
      have ne8 : ¬ (e : Int) < 0 := by omega
      have w3 : IntKind.i64.wrap ((r : Int) - 1) = 7 - ((j + 1 : Nat) : Int) := by rw [wrap64 (by omega) (by omega)]; omega
      obtain ⟨d, hd⟩ : ∃ d, d = n / 256 ^ r := ⟨_, rfl⟩
      obtain ⟨dm, hdm⟩ : ∃ dm, dm = d % 256 := ⟨_, rfl⟩
      have sh : Int.fdiv (n : Int) (2 ^ min e IntKind.u64.bits) = (d : Int) := by
        have e1 : min e IntKind.u64.bits = e := by simp only [IntKind.bits]; omega
        have e2 : (2 : Int) ^ e = ((256 ^ r : Nat) : Int) := by rw [he8, Int.pow_mul]; simp
        rw [e1, e2, Int.fdiv_eq_ediv_of_nonneg _ (Int.natCast_nonneg _), hd]; simp
      have cb : IntKind.u8.wrap (d : Int) = (dm : Int) := by rw [hdm]; exact wrap8m d
      repeat(first|with_reducible first|refine vmR ?_|refine vmV rfl ?_|refine vmW rfl ?_|refine vmL ?_|refine blockW_y (by decide) ?_|((with_reducible first|apply vmO|apply vmT|apply vmC);case a=>simp [t9, t10, t11, t7, t8, t3, uc, ui, newSeq, newSl, hph', w2, shiftBin, ne8, sh, cb];with_reducible first|exact .v|exact .c|exact .t|exact .f))
      with_reducible apply WO_app_i; (case hw => (simp [t9, t10, t11, t7, t8, t3, uc, ui, newSeq, newSl, hph', w2, shiftBin, ne8, sh, cb]; done)); (case ho => rfl); (case hb => rfl); (case ha => (simp [t9, t10, t11, t7, t8, t3, uc, ui, newSeq, newSl, hph', w2, shiftBin, ne8, sh, cb]; first | done | exact ⟨rfl, rfl⟩ | rfl)); (case h1 => (simp; first | done | rfl)); (case h2 => (simp; first | done | rfl))
      refine app_then (AC.app (h0 := h0) etB (hu'.of ((HE.refl h').newSl 1)) (he'.newSl 1) (hp _) (by simp; omega)) ?_
      rintro x5 h5 ⟨ac5, he5, _, _, _⟩
      have e5 := ac5.sv.cells
      have f5 := ac5.sv.isCell
      refine ⟨_, by simp; first | done | rfl, ?_⟩
      repeat(first|with_reducible first|refine vmR ?_|refine vmV rfl ?_|refine vmW rfl ?_|refine vmL ?_|refine blockW_y (by decide) ?_|((with_reducible first|apply vmO|apply vmT|apply vmC);case a=>simp [t9, t10, t11, t7, t8, e5, f5, w3];with_reducible first|exact .v|exact .c|exact .t|exact .f))
      refine ⟨8 - (j + 1), by omega, _, h5, j + 1, x5, rfl, rfl, by omega, by simp [t9], by simp [t10], by simp [t11], by simp [t7], by simp, by simp, ?_, he5⟩
      have : (writeK done ++ 1 :: (bytes8 n).take (j + 1)).map byteAV = (writeK done ++ 1 :: (bytes8 n).take j).map byteAV ++ [.int .u8 dm] := by
        rw [bytes8_take n j qj, ← hr, ← hd, ← hdm]; simp [byteAV]; omega
      rw [this]; exact ac5
end Go.Vn

set_option maxRecDepth 20000
namespace Go.Vn
open Go.Proofs

def keyB (n : Int) (s : List UInt8) : List UInt8 := writeK [⟨false, n, []⟩, ⟨true, 0, s⟩]
theorem okey_bad (n : Int) (s : List UInt8) (h : n < 0 ∨ 4 ≤ n) (h0 : Hp Fm) : A Tryz.prog TT (.func 90) [.int .i64 n, .str s] h0 (fun r h' => r = .tup [.str [], .int .i64 1] ∧ h' = h0) := by
  by_cases q1 : n < 0
  · apply A_go Tryz.func90 rfl (by rfl); (case hn => (simp [Tryz.ntmps90]; rfl))
    repeat(first|with_reducible first|refine vmR ?_|refine vmV rfl ?_|refine vmW rfl ?_|refine vmL ?_|refine blockW_y (by decide) ?_|((with_reducible first|apply vmO|apply vmT|apply vmC);case a=>simp [q1];with_reducible first|exact .v|exact .c|exact .t|exact .f))
    (first | apply endW_r | apply endW_n); (case h1 => (simp [Tryz.results90]; first | done | rfl))
    exact ⟨by simp, rfl⟩
  · have q2 : 4 ≤ n := by omega
    apply A_go Tryz.func90 rfl (by rfl); (case hn => (simp [Tryz.ntmps90]; rfl))
    repeat(first|with_reducible first|refine vmR ?_|refine vmV rfl ?_|refine vmW rfl ?_|refine vmL ?_|refine blockW_y (by decide) ?_|((with_reducible first|apply vmO|apply vmT|apply vmC);case a=>simp [q1, q2];with_reducible first|exact .v|exact .c|exact .t|exact .f))
    (first | apply endW_r | apply endW_n); (case h1 => (simp [Tryz.results90]; first | done | rfl))
    exact ⟨by simp, rfl⟩
theorem okey_long (n : Int) (s : List UInt8) (q1 : ¬ n < 0) (q2 : ¬ 4 ≤ n) (q3 : 40 < s.length) (h0 : Hp Fm) : A Tryz.prog TT (.func 90) [.int .i64 n, .str s] h0 (fun r h' => r = .tup [.str [], .int .i64 5] ∧ h' = h0) := by
  have q3' : (40 : Int) < s.length := by omega
  apply A_go Tryz.func90 rfl (by rfl); (case hn => (simp [Tryz.ntmps90]; rfl))
  repeat(first|with_reducible first|refine vmR ?_|refine vmV rfl ?_|refine vmW rfl ?_|refine vmL ?_|refine blockW_y (by decide) ?_|((with_reducible first|apply vmO|apply vmT|apply vmC);case a=>simp [q1, q2, q3, q3'];with_reducible first|exact .v|exact .c|exact .t|exact .f))
  (first | apply endW_r | apply endW_n); (case h1 => (simp [Tryz.results90]; first | done | rfl))
  exact ⟨by simp, rfl⟩
theorem okey_ans (n : Int) (s : List UInt8) (q1 : ¬ n < 0) (q2 : ¬ 4 ≤ n) (q3 : ¬ 40 < s.length) (h0 : Hp Fm) (hp : ∀ z, h0.pol z = false) : A Tryz.prog TT (.func 90) [.int .i64 n, .str s] h0 (fun r h' => r = .tup [.str (keyB n s), .int .i64 0] ∧ HE h0 h') := by
  have q3' : ¬ (40 : Int) < s.length := by omega
  apply A_go Tryz.func90 rfl (by rfl); (case hn => (simp [Tryz.ntmps90]; rfl))
  repeat(first|with_reducible first|refine vmR ?_|refine vmV rfl ?_|refine vmW rfl ?_|refine vmL ?_|refine blockW_y (by decide) ?_|((with_reducible first|apply vmO|apply vmT|apply vmC);case a=>simp [q1, q2, q3, q3', newSeq, newSl, hp];with_reducible first|exact .v|exact .c|exact .t|exact .f))
  have e1 := (HE.refl h0).newSl 2
  have p1 : ∀ z, ({ h0 with len := Mp.set h0.len h0.ng 2, ng := h0.ng + 1 } : Hp Fm).pol z = false := hp
  refine A.mono (owrite_ans [⟨false, n, []⟩, ⟨true, 0, s⟩] _ _ (.inr (.inl ⟨_, _, _, rfl⟩)) (by simp) ?_ p1) ?_
  · intro p hp
    simp only [List.mem_cons, List.not_mem_nil, or_false] at hp
    rcases hp with rfl | rfl <;> refine ⟨?_, ?_, ?_⟩ <;> simp <;> omega
  rintro r h1 ⟨sr, e2⟩
  have c1 := sr.cells
  have i1 := sr.isCell
  have cv := fun h => conv_txt h sr
  refine ⟨_, by simp; first | done | rfl, ?_⟩
  repeat(first|with_reducible first|refine vmR ?_|refine vmV rfl ?_|refine vmW rfl ?_|refine vmL ?_|refine blockW_y (by decide) ?_|((with_reducible first|apply vmO|apply vmT|apply vmC);case a=>simp [c1, i1, cv];with_reducible first|exact .v|exact .c|exact .t|exact .f))
  (first | apply endW_r | apply endW_n); (case h1 => (simp [Tryz.results90]; first | done | rfl))
  exact ⟨by simp [keyB], e1.trans e2⟩

theorem keyB_eq {b : List UInt8} {p q : KP} (h : readK b = .ok [p, q]) (h1 : p.isT = false) (h2 : q.isT = true) : keyB p.num q.txt = b := by
  rw [← write_read h]
  simp [keyB, writeK, writeP, h1, h2]
def SplitR (k : List UInt8) (r : AV) : Prop := ∃ a s e, r = .tup [.int .i64 a, .str s, .int .i64 e] ∧ decide (e = 0) = keyOk k

set_option maxHeartbeats 4000000 in
theorem osplit_ans (k : List UInt8) (h0 : Hp Fm) (hl : k.length ≤ 100000) (hp : ∀ z, h0.pol z = false) :
    A Tryz.prog TT (.func 75) [.str k] h0 (fun r h' => SplitR k r ∧ HE h0 h') := by
  have cb := conv_b h0 k hl
  have e0 := (HE.refl h0).drew.newSl k.length
  apply A_go Tryz.func75 rfl (by rfl); (case hn => (simp [Tryz.ntmps75]; rfl))
  repeat(first|with_reducible first|refine vmR ?_|refine vmV rfl ?_|refine vmW rfl ?_|refine vmL ?_|refine blockW_y (by decide) ?_|((with_reducible first|apply vmO|apply vmT|apply vmC);case a=>simp [cb];with_reducible first|exact .v|exact .c|exact .t|exact .f))
  refine A.mono (oread_ans k _ _ (.inr (.inl ⟨_, _, _, rfl⟩)) hl (by exact hp)) ?_
  rintro r h1 ⟨hr, e1⟩
  have e01 := e0.trans e1
  have p1 : ∀ z, h1.pol z = false := fun z => by rw [e01.pol]; exact hp z
  cases hk : readK k with
  | error e =>
    rw [hk] at hr
    obtain ⟨rfl, hne⟩ := hr
    refine ⟨_, by simp; first | done | rfl, ?_⟩
    repeat(first|with_reducible first|refine vmR ?_|refine vmV rfl ?_|refine vmW rfl ?_|refine vmL ?_|refine blockW_y (by decide) ?_|((with_reducible first|apply vmO|apply vmT|apply vmC);case a=>simp [hne];with_reducible first|exact .v|exact .c|exact .t|exact .f))
    (first | apply endW_r | apply endW_n); (case h1 => (simp [Tryz.results75]; first | done | rfl))
    exact ⟨⟨0, [], e, by simp, by simp [keyOk, hk, hne]⟩, e01⟩
  | ok l =>
    rw [hk] at hr
    obtain ⟨v, rfl, sv⟩ := hr
    have c1 := sv.cells
    have i1 := sv.isCell
    have n1 := sv.nm
    have l1 := sv.len Tryz.underlying113
    rw [List.length_map] at l1
    refine ⟨_, by simp; first | done | rfl, ?_⟩
    by_cases q2 : l.length = 2
    case neg =>
      have q2' : ¬ (l.length : Int) = 2 := by omega
      have kf : keyOk k = false := by
        unfold keyOk; rw [hk]
        split
        · rename_i e; cases e; simp at q2
        · rfl
      repeat(first|with_reducible first|refine vmR ?_|refine vmV rfl ?_|refine vmW rfl ?_|refine vmL ?_|refine blockW_y (by decide) ?_|((with_reducible first|apply vmO|apply vmT|apply vmC);case a=>simp [c1, i1, n1, l1, q2, q2'];with_reducible first|exact .v|exact .c|exact .t|exact .f))
      (first | apply endW_r | apply endW_n); (case h1 => (simp [Tryz.results75]; first | done | rfl))
      exact ⟨⟨0, [], 2, by simp, by simp [kf]⟩, e01⟩
    obtain ⟨p, q, rfl⟩ : ∃ p q, l = [p, q] := by
      match l, q2 with
      | [p, q], _ => exact ⟨p, q, rfl⟩
    have ix0 := sv.idx (k := .i64) (i := 0) Tryz.underlying113 z117 (by omega) (by simp)
    have ix1 := sv.idx (k := .i64) (i := 1) Tryz.underlying113 z117 (by omega) (by simp)
    replace ix0 : indexAddrAV Tryz.prog 113 v (.int .i64 0) = some (.el (encPt p.isT p.num p.txt) 0) := by rw [ix0]; simp
    replace ix1 : indexAddrAV Tryz.prog 113 v (.int .i64 1) = some (.el (encPt q.isT q.num q.txt) 0) := by rw [ix1]; simp
    have ko : keyOk k = (!p.isT && q.isT && decide (0 ≤ p.num) && decide (p.num ≤ 3) && decide (q.txt.length ≤ 40)) := by unfold keyOk; rw [hk]
    have l2 : lenAV Tryz.prog 113 v = some (.int .i64 2) := by rw [l1]; simp
    have ke : p.isT = false → q.isT = true → keyB p.num q.txt = k := keyB_eq hk
    obtain ⟨pt, pn, ps⟩ := p
    obtain ⟨qt, qn, qs⟩ := q
    simp only at ix0 ix1 ko ke
    clear hk sv q2
    cases pt with
    | true =>
      repeat(first|with_reducible first|refine vmR ?_|refine vmV rfl ?_|refine vmW rfl ?_|refine vmL ?_|refine blockW_y (by decide) ?_|((with_reducible first|apply vmO|apply vmT|apply vmC);case a=>simp [c1, i1, n1, l2, ix0, ix1, encPt];with_reducible first|exact .v|exact .c|exact .t|exact .f))
      (first | apply endW_r | apply endW_n); (case h1 => (simp [Tryz.results75]; first | done | rfl))
      exact ⟨⟨0, [], 2, by simp, by simp [ko]⟩, e01⟩
    | false =>
      cases qt with
      | false =>
        repeat(first|with_reducible first|refine vmR ?_|refine vmV rfl ?_|refine vmW rfl ?_|refine vmL ?_|refine blockW_y (by decide) ?_|((with_reducible first|apply vmO|apply vmT|apply vmC);case a=>simp [c1, i1, n1, l2, ix0, ix1, encPt];with_reducible first|exact .v|exact .c|exact .t|exact .f))
        (first | apply endW_r | apply endW_n); (case h1 => (simp [Tryz.results75]; first | done | rfl))
        exact ⟨⟨0, [], 2, by simp, by simp [ko]⟩, e01⟩
      | true =>
        replace ke := ke rfl rfl
        have es : eqB k k = true := by rw [eqB_dec]; simp
        repeat(first|with_reducible first|refine vmR ?_|refine vmV rfl ?_|refine vmW rfl ?_|refine vmL ?_|refine blockW_y (by decide) ?_|((with_reducible first|apply vmO|apply vmT|apply vmC);case a=>simp [c1, i1, n1, l2, ix0, ix1, encPt];with_reducible first|exact .v|exact .c|exact .t|exact .f))
        (with_reducible refine W_draw_id (pln := true) [0, 1, 2, 3, 4, 5, 6, 7, 8, 9, 10, 11, 12, 13] [(3, (3, [])), (7, (7, []))] (by kernel_rfl) rfl ?_)
        repeat(first|with_reducible first|refine vmR ?_|refine vmV rfl ?_|refine vmW rfl ?_|refine vmL ?_|refine blockW_y (by decide) ?_|((with_reducible first|apply vmO|apply vmT|apply vmC);case a=>simp [c1, i1, n1, l2, ix0, ix1, encPt];with_reducible first|exact .v|exact .c|exact .t|exact .f))
        have e2 := e01.drew
        by_cases q1 : pn < 0 ∨ 4 ≤ pn
        · refine A.mono (okey_bad pn qs q1 _) ?_
          rintro _ h2 ⟨rfl, eh⟩
          rw [eh]
          refine ⟨_, by simp; first | done | rfl, ?_⟩
          repeat(first|with_reducible first|refine vmR ?_|refine vmV rfl ?_|refine vmW rfl ?_|refine vmL ?_|refine blockW_y (by decide) ?_|((with_reducible first|apply vmO|apply vmT|apply vmC);case a=>simp [c1, i1];with_reducible first|exact .v|exact .c|exact .t|exact .f))
          refine ⟨by simp [readSame, beqAV_self, c1, i1, ix0, ix1, encPt]; done, _, by simp; first | done | rfl, ?_⟩
          repeat(first|with_reducible first|refine vmR ?_|refine vmV rfl ?_|refine vmW rfl ?_|refine vmL ?_|refine blockW_y (by decide) ?_|((with_reducible first|apply vmO|apply vmT|apply vmC);case a=>simp [eqlAV];with_reducible first|exact .v|exact .c|exact .t|exact .f))
          (first | apply endW_r | apply endW_n); (case h1 => (simp [Tryz.results75]; first | done | rfl))
          exact ⟨⟨0, [], 2, by simp, by simp [ko]; omega⟩, e2⟩
        have q1a : ¬ pn < 0 := by omega
        have q1b : ¬ 4 ≤ pn := by omega
        by_cases q3 : 40 < qs.length
        · refine A.mono (okey_long pn qs q1a q1b q3 _) ?_
          rintro _ h2 ⟨rfl, eh⟩
          rw [eh]
          refine ⟨_, by simp; first | done | rfl, ?_⟩
          repeat(first|with_reducible first|refine vmR ?_|refine vmV rfl ?_|refine vmW rfl ?_|refine vmL ?_|refine blockW_y (by decide) ?_|((with_reducible first|apply vmO|apply vmT|apply vmC);case a=>simp [c1, i1];with_reducible first|exact .v|exact .c|exact .t|exact .f))
          refine ⟨by simp [readSame, beqAV_self, c1, i1, ix0, ix1, encPt]; done, _, by simp; first | done | rfl, ?_⟩
          repeat(first|with_reducible first|refine vmR ?_|refine vmV rfl ?_|refine vmW rfl ?_|refine vmL ?_|refine blockW_y (by decide) ?_|((with_reducible first|apply vmO|apply vmT|apply vmC);case a=>simp [eqlAV];with_reducible first|exact .v|exact .c|exact .t|exact .f))
          (first | apply endW_r | apply endW_n); (case h1 => (simp [Tryz.results75]; first | done | rfl))
          exact ⟨⟨0, [], 2, by simp, by simp [ko]; omega⟩, e2⟩
        refine A.mono (okey_ans pn qs q1a q1b q3 _ (by exact p1)) ?_
        rintro _ h2 ⟨rfl, e3⟩
        rw [ke]
        refine ⟨_, by simp; first | done | rfl, ?_⟩
        repeat(first|with_reducible first|refine vmR ?_|refine vmV rfl ?_|refine vmW rfl ?_|refine vmL ?_|refine blockW_y (by decide) ?_|((with_reducible first|apply vmO|apply vmT|apply vmC);case a=>simp [c1, i1];with_reducible first|exact .v|exact .c|exact .t|exact .f))
        refine ⟨by simp [readSame, beqAV_self, c1, i1, ix0, ix1, encPt]; done, _, by simp; first | done | rfl, ?_⟩
        repeat(first|with_reducible first|refine vmR ?_|refine vmV rfl ?_|refine vmW rfl ?_|refine vmL ?_|refine blockW_y (by decide) ?_|((with_reducible first|apply vmO|apply vmT|apply vmC);case a=>simp [eqlAV, es, c1, i1];with_reducible first|exact .v|exact .c|exact .t|exact .f))
        (with_reducible refine W_draw_id (pln := true) [0, 1, 2, 3, 4, 5, 6, 7, 8, 9, 10] [(3, (3, [])), (7, (7, []))] (by kernel_rfl) rfl ?_)
        repeat(first|with_reducible first|refine vmR ?_|refine vmV rfl ?_|refine vmW rfl ?_|refine vmL ?_|refine blockW_y (by decide) ?_|((with_reducible first|apply vmO|apply vmT|apply vmC);case a=>simp [c1, i1, n1, l2, ix0, ix1, encPt];with_reducible first|exact .v|exact .c|exact .t|exact .f))
        refine ⟨by simp [readSame, beqAV_self, c1, i1, ix0, ix1, encPt]; done, _, by simp; first | done | rfl, ?_⟩
        repeat(first|with_reducible first|refine vmR ?_|refine vmV rfl ?_|refine vmW rfl ?_|refine vmL ?_|refine blockW_y (by decide) ?_|((with_reducible first|apply vmO|apply vmT|apply vmC);case a=>simp;with_reducible first|exact .v|exact .c|exact .t|exact .f))
        (first | apply endW_r | apply endW_n); (case h1 => (simp [Tryz.results75]; first | done | rfl))
        exact ⟨⟨pn, qs, 0, by simp, by simp [ko]; omega⟩, e2.trans e3.drew⟩
end Go.Vn

set_option maxRecDepth 20000
namespace Go.Vn
open Go.Proofs

theorem val8_acc (n : Nat) (b : List UInt8) : b.foldl (fun n c => n * 256 + c.toNat) n = n * 256 ^ b.length + val8 b := by
  induction b generalizing n with
  | nil => simp [val8]
  | cons c b ih =>
    have e : val8 (c :: b) = c.toNat * 256 ^ b.length + val8 b := by
      show List.foldl _ (0 * 256 + c.toNat) b = _
      rw [ih]; simp
    rw [List.foldl_cons, ih, e, List.length_cons, Nat.pow_succ, Nat.add_mul, Nat.mul_assoc, Nat.mul_comm 256, Nat.add_assoc]
theorem val8_cons (c : UInt8) (b : List UInt8) : val8 (c :: b) = c.toNat * 256 ^ b.length + val8 b := by
  show List.foldl _ (0 * 256 + c.toNat) b = _
  rw [val8_acc]; simp

set_option maxHeartbeats 1000000 in
theorem value1_ans (b : List UInt8) (v : AV) (h0 : Hp Fm) (k : SV 1 (b.map byteAV) v) (h8 : b.length = 8) :
    A Tryz.prog TT (.func 88) [v] h0 (fun r h' => r = .int .i64 ((val8 b : Int) - 9223372036854775808) ∧ h' = h0) := by
  have c1 := k.cells
  have i1 := k.isCell
  obtain ⟨x, tl, rfl⟩ : ∃ x tl, b = x :: tl := by
    cases b with
    | nil => simp at h8
    | cons x tl => exact ⟨x, tl, rfl⟩
  have htl : tl.length = 7 := by simpa using h8
  obtain ⟨xn, hxn⟩ : ∃ xn : Nat, xn = x.toNat := ⟨_, rfl⟩
  have hxl := x.toNat_lt
  obtain ⟨xm, hxm⟩ : ∃ xm : Nat, xm = xn % 128 := ⟨_, rfl⟩
  have ix0 := k.idx (k := .i64) (i := 0) Tryz.underlying58 z5 (by omega) (by simp)
  replace ix0 : indexAddrAV Tryz.prog 58 v (.int .i64 0) = some (.el (.int .u8 (xn : Int)) 0) := by rw [ix0]; simp [byteAV, hxn]
  have w0 : IntKind.i64.wrap (xn : Int) = (xn : Int) := wrap64 (by omega) (by omega)
  have r0 : Int.tmod (xn : Int) 128 = (xm : Int) := by rw [Int.tmod_eq_emod_of_nonneg (by omega)]; omega
  apply A_go Tryz.func88 rfl (by rfl); (case hn => (simp [Tryz.ntmps88]; rfl))
  repeat(first|with_reducible first|refine vmR ?_|refine vmV rfl ?_|refine vmW rfl ?_|refine vmL ?_|refine blockW_y (by decide) ?_|((with_reducible first|apply vmO|apply vmT|apply vmC);case a=>simp [c1, i1, ix0, w0, r0];with_reducible first|exact .v|exact .c|exact .t|exact .f))
  refine W_loop (fun m s => ∃ (t : Fm AV) (j n : Nat), s = ⟨t, 30, h0, none⟩ ∧ m = 7 - j ∧ j ≤ 7 ∧ n = xm * 256 ^ j + val8 (tl.take j) ∧ tget t 0 = v ∧ tget t 3 = .int .i64 n ∧ tget t 4 = .int .i64 ((j : Int) + 1)) 7
    ⟨_, 0, xm, rfl, rfl, by omega, by simp [val8], by simp, by simp, by simp⟩ ?_
  rintro m s ⟨t, j, n, rfl, rfl, hj, hn, t0, t3, t4⟩
  by_cases qj : j < 7
  case neg =>
    have ej : j = 7 := by omega
    subst ej
    rw [List.take_of_length_le (by omega)] at hn
    have e7 : val8 (x :: tl) = xn * 256 ^ 7 + val8 tl := by rw [val8_cons, htl, hxn]
    have lt := val8_lt tl
    rw [htl] at lt
    by_cases q : xn < 128
    · have q' : (xn : Int) < 128 := by omega
      obtain ⟨d, hd⟩ : ∃ d : Int, d = (n : Int) - 9223372036854775807 := ⟨_, rfl⟩
      have w1 : IntKind.i64.wrap ((n : Int) - 9223372036854775807) = d := by rw [wrap64 (by omega) (by omega)]; omega
      have w2 : IntKind.i64.wrap (d - 1) = d - 1 := wrap64 (by omega) (by omega)
      repeat(first|with_reducible first|refine vmR ?_|refine vmV rfl ?_|refine vmW rfl ?_|refine vmL ?_|refine blockW_y (by decide) ?_|((with_reducible first|apply vmO|apply vmT|apply vmC);case a=>simp [t0, t3, t4, ix0, q, q', w1, w2];with_reducible first|exact .v|exact .c|exact .t|exact .f))
      (first | apply endW_r | apply endW_n); (case h1 => (simp [Tryz.results88]; first | done | rfl))
      exact ⟨by rw [e7]; congr 1; omega, rfl⟩
    · have q' : ¬ (xn : Int) < 128 := by omega
      repeat(first|with_reducible first|refine vmR ?_|refine vmV rfl ?_|refine vmW rfl ?_|refine vmL ?_|refine blockW_y (by decide) ?_|((with_reducible first|apply vmO|apply vmT|apply vmC);case a=>simp [t0, t3, t4, ix0, q, q'];with_reducible first|exact .v|exact .c|exact .t|exact .f))
      (first | apply endW_r | apply endW_n); (case h1 => (simp [Tryz.results88]; first | done | rfl))
      exact ⟨by rw [e7]; congr 1; omega, rfl⟩
  have qj' : ((j : Int) + 1) < 8 := by omega
  obtain ⟨c, hc⟩ : ∃ c : UInt8, c = tl[j]'(by omega) := ⟨_, rfl⟩
  have hcl := c.toNat_lt
  have ix := k.idx (k := .i64) (i := (j : Int) + 1) Tryz.underlying58 z5 (by omega) (by simp; omega)
  replace ix : indexAddrAV Tryz.prog 58 v (.int .i64 ((j : Int) + 1)) = some (.el (.int .u8 (c.toNat : Int)) 0) := by
    rw [ix]; simp [byteAV, show ((j : Int) + 1).toNat = j + 1 by omega, hc]
  have et : val8 (tl.take (j + 1)) = val8 (tl.take j) * 256 + c.toNat := by
    rw [List.take_succ_eq_append_getElem (by omega), val8_app, hc]
  have p1 : xm * 256 ^ (j + 1) = xm * 256 ^ j * 256 := by rw [Nat.pow_succ, Nat.mul_assoc]
  have lt := val8_lt (tl.take j)
  rw [List.length_take, Nat.min_eq_left (by omega)] at lt
  have pj : 256 ^ j ≤ 256 ^ 6 := Nat.pow_le_pow_right (by omega) (by omega)
  have pm : xm * 256 ^ j ≤ 127 * 256 ^ 6 := Nat.mul_le_mul (by omega) pj
  obtain ⟨n1, hn1⟩ : ∃ n1, n1 = 256 * n := ⟨_, rfl⟩
  obtain ⟨n2, hn2⟩ : ∃ n2, n2 = n1 + c.toNat := ⟨_, rfl⟩
  have wc : IntKind.i64.wrap (c.toNat : Int) = (c.toNat : Int) := wrap64 (by omega) (by omega)
  have wa : IntKind.i64.wrap (256 * (n : Int)) = (n1 : Int) := by rw [wrap64 (by omega) (by omega)]; omega
  have wb : IntKind.i64.wrap ((n1 : Int) + (c.toNat : Int)) = (n2 : Int) := by rw [wrap64 (by omega) (by omega)]; omega
  have wj : IntKind.i64.wrap ((j : Int) + 1 + 1) = ((j + 1 : Nat) : Int) + 1 := by rw [wrap64 (by omega) (by omega)]; omega
  repeat(first|with_reducible first|refine vmR ?_|refine vmV rfl ?_|refine vmW rfl ?_|refine vmL ?_|refine blockW_y (by decide) ?_|((with_reducible first|apply vmO|apply vmT|apply vmC);case a=>simp [t0, t3, t4, qj', ix, wc, wa, wb, wj];with_reducible first|exact .v|exact .c|exact .t|exact .f))
  exact ⟨7 - (j + 1), by omega, _, j + 1, n2, rfl, rfl, by omega, by rw [p1, et]; omega, by simp [t0], by simp, by simp⟩
end Go.Vn
