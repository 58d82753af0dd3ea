/- Numbers in sevens of bits, sums of bits, frames: plainly. No condition. -/
import Derived.Test.YtnbflhcbhicgmaaGreatVnG1
import Derived.Test.YtnbflhcbhicgmaaGreatVnG2
import Derived.Test.YtnbflhcbhicgmaaGreatVnG4
set_option linter.unusedSimpArgs false
set_option linter.unusedVariables false
namespace Go.Vn

def enc7 (n : Nat) : List UInt8 := if h : n < 128 then [UInt8.ofNat n] else UInt8.ofNat (n % 128 + 128) :: enc7 (n / 128)
termination_by n
decreasing_by omega
theorem enc7_lt {n : Nat} (h : n < 128) : enc7 n = [UInt8.ofNat n] := by rw [enc7]; simp [h]
theorem enc7_ge {n : Nat} (h : ¬ n < 128) : enc7 n = UInt8.ofNat (n % 128 + 128) :: enc7 (n / 128) := by rw [enc7]; simp [h]

def crcBit (s : BitVec 32) : BitVec 32 := (s >>> 1) ^^^ (0xEDB88320#32 &&& -(s &&& 1#32))
def crcBits : Nat → BitVec 32 → BitVec 32
  | 0, s => s
  | n + 1, s => crcBits n (crcBit s)
def crcByte (s : BitVec 32) (b : UInt8) : BitVec 32 := crcBits 8 (s ^^^ BitVec.ofNat 32 b.toNat)
def crcAll (bs : List UInt8) : BitVec 32 := bs.foldl crcByte (BitVec.allOnes 32)
def crcSum (bs : List UInt8) : Nat := (~~~ crcAll bs).toNat
theorem crcSum_lt (bs : List UInt8) : crcSum bs < 4294967296 := (~~~ crcAll bs).isLt

def four (n : Nat) : List UInt8 := [UInt8.ofNat (n % 256), UInt8.ofNat (n / 256 % 256), UInt8.ofNat (n / 65536 % 256), UInt8.ofNat (n / 16777216 % 256)]
def frame (bs : List UInt8) : List UInt8 := four bs.length ++ four (crcSum bs) ++ bs
@[simp] theorem four_len (n : Nat) : (four n).length = 4 := rfl
@[simp] theorem frame_len (bs : List UInt8) : (frame bs).length = bs.length + 8 := by simp [frame]; omega

def bitI (s : BitVec 32) (k : Nat) : Int := if s.getLsbD k then 1 else 0
def worth (s : BitVec 32) : Nat → Int
  | 0 => 0
  | k + 1 => worth s k + 2 ^ k * (1 - bitI s k)
end Go.Vn

set_option maxRecDepth 20000
namespace Go.Vn
open Go.Proofs

def BA (bs : List UInt8) : List AV := bs.map byteAV
theorem clonea_ans (b : List UInt8) (v : AV) (h0 : Hp Fm) (k : SV 1 (b.map byteAV) v) (hl : b.length ≤ 16777216 * 4) (hp : h0.pol 5 = false) :
    A Tryz.prog TT (.func 64) [v] h0 (fun r h' => AC h0 h' 1 (b.map byteAV) r ∧ HE h0 h') := by
  have c1 := k.cells
  have i1 := k.isCell
  rcases k with ⟨rfl, e⟩ | ⟨g, off, cp, rfl⟩ | ⟨c, rfl, e⟩
  · apply A_go Tryz.func64 rfl (by rfl); (case hn => (simp [Tryz.ntmps64]; rfl))
    repeat(first|with_reducible first|refine vmR ?_|refine vmV rfl ?_|refine vmW rfl ?_|refine vmL ?_|refine blockW_y (by decide) ?_|((with_reducible first|apply vmO|apply vmT|apply vmC);case a=>simp [eqlAV];with_reducible first|exact .v|exact .c|exact .t|exact .f))
    (first | apply endW_r | apply endW_n); (case h1 => (simp [Tryz.results64]; first | done | rfl))
    exact ⟨.inl ⟨rfl, e⟩, HE.refl h0⟩
  · apply A_go Tryz.func64 rfl (by rfl); (case hn => (simp [Tryz.ntmps64]; rfl))
    repeat(first|with_reducible first|refine vmR ?_|refine vmV rfl ?_|refine vmW rfl ?_|refine vmL ?_|refine blockW_y (by decide) ?_|((with_reducible first|apply vmO|apply vmT|apply vmC);case a=>simp [eqlAV, newSeq, hp, newSl];with_reducible first|exact .v|exact .c|exact .t|exact .f))
    obtain ⟨ha, hha⟩ : ∃ ha : Hp Fm, ha = { h0 with len := Mp.set h0.len h0.ng 0, ng := h0.ng + 1 } := ⟨_, rfl⟩
    have e0 : HE h0 ha := by rw [hha]; exact (HE.refl h0).newSl 0
    rw [← hha]
    with_reducible apply WO_app_i; (case hw => (simp; done)); (case ho => rfl); (case hb => rfl); (case ha => (simp; first | done | exact ⟨rfl, rfl⟩ | rfl)); (case h1 => (simp; first | done | rfl)); (case h2 => (simp; first | done | rfl))
    refine app_then (AC.appN etB (h0 := h0) (h := ha) (acc := []) (new := b.map byteAV) (.inr ⟨h0.ng, 0, 0, rfl, by rw [hha]; simp [Mp.get_set], by rw [hha]; simp, Nat.le_refl _⟩) e0 hp rfl (by simp; omega)) ?_
    rintro u h1 ⟨k1, e1, _⟩
    have uc := k1.sv.cells
    have ui := k1.sv.isCell
    refine ⟨_, by simp; first | done | rfl, ?_⟩
    repeat(first|with_reducible first|refine vmR ?_|refine vmV rfl ?_|refine vmW rfl ?_|refine vmL ?_|refine blockW_y (by decide) ?_|((with_reducible first|apply vmO|apply vmT|apply vmC);case a=>simp [uc, ui];with_reducible first|exact .v|exact .c|exact .t|exact .f))
    (first | apply endW_r | apply endW_n); (case h1 => (simp [Tryz.results64]; first | done | rfl))
    exact ⟨by simpa using k1, e1⟩
  · have hb : b = [] := by simpa using e
    subst hb
    apply A_go Tryz.func64 rfl (by rfl); (case hn => (simp [Tryz.ntmps64]; rfl))
    repeat(first|with_reducible first|refine vmR ?_|refine vmV rfl ?_|refine vmW rfl ?_|refine vmL ?_|refine blockW_y (by decide) ?_|((with_reducible first|apply vmO|apply vmT|apply vmC);case a=>simp [eqlAV, newSeq, hp, newSl, appendAV, newEls, appendTo, isIntD];with_reducible first|exact .v|exact .c|exact .t|exact .f))
    (first | apply endW_r | apply endW_n); (case h1 => (simp [Tryz.results64]; first | done | rfl))
    exact ⟨.inr ⟨h0.ng, 0, 0, rfl, by simp [Mp.get_set], by simp, Nat.le_refl _⟩, (HE.refl h0).newSl 0⟩

theorem wrap8 {n : Int} (h0 : 0 ≤ n) (h1 : n < 256) : IntKind.u8.wrap n = n := by
  simp only [IntKind.wrap, IntKind.signed, IntKind.bits]
  simp
  omega
theorem wrap8m (k : Nat) : IntKind.u8.wrap (k : Int) = ((k % 256 : Nat) : Int) := by
  simp only [IntKind.wrap, IntKind.signed, IntKind.bits]
  simp
theorem or128 (c : Nat) (h : c < 256) : IntKind.u8.wrap (↑(c % 2 ^ IntKind.u8.bits ||| 128 % 2 ^ IntKind.u8.bits) : Int) = ((c % 128 + 128 : Nat) : Int) := by
  have e : c % 2 ^ IntKind.u8.bits = c := by simp only [IntKind.bits]; omega
  rw [e]
  have e2 : 128 % 2 ^ IntKind.u8.bits = 128 := by decide
  have e3 : ∀ c : Fin 256, c.val ||| 128 = c.val % 128 + 128 := by decide
  rw [e2, e3 ⟨c, h⟩]
  exact wrap8 (by omega) (by simp only; omega)

theorem AC.weak {h0 ha h : Hp Fm} {sz : Nat} {acc : List AV} {v : AV} (k : AC ha h sz acc v) (hg : h0.ng ≤ ha.ng) : AC h0 h sz acc v := by
  rcases k with h | ⟨g, off, cap, a, b, c, d⟩
  · exact .inl h
  · exact .inr ⟨g, off, cap, a, b, c, Nat.le_trans hg d⟩

theorem enc7_len : ∀ k n : Nat, n < 128 ^ (k + 1) → (enc7 n).length ≤ k + 1
  | 0, n, h => by rw [enc7_lt (by omega)]; simp
  | k + 1, n, h => by
    by_cases q : n < 128
    · rw [enc7_lt q]; simp
    · rw [enc7_ge q, List.length_cons]
      have := enc7_len k (n / 128) (by rw [Nat.pow_succ] at h; omega)
      omega
def encs (l : List Int) : List UInt8 := l.flatMap fun n => enc7 n.toNat
theorem encs_app (l : List Int) (n : Int) : encs (l ++ [n]) = encs l ++ enc7 n.toNat := by simp [encs]
theorem encs_len (l : List Int) (h : ∀ n ∈ l, n ≤ 9223372036854775807) : (encs l).length ≤ 9 * l.length := by
  induction l with
  | nil => simp [encs]
  | cons a l ih =>
    have := ih fun n hn => h n (List.mem_cons_of_mem _ hn)
    have h2 := enc7_len 8 a.toNat (by have := h a List.mem_cons_self; omega)
    simp only [encs, List.flatMap_cons, List.length_append, List.length_cons] at *
    omega
def intAV (n : Int) : AV := .int .i64 n

theorem vput_ans (b : List UInt8) (l : List Int) (vb vl : AV) (h0 : Hp Fm) (kb : SV 1 (b.map byteAV) vb) (kl : SV 1 (l.map intAV) vl) (hl : ∀ n ∈ l, n ≤ 9223372036854775807) (hp : h0.pol 5 = false) (hs : b.length + 9 * l.length ≤ 16777216 * 4) :
    A Tryz.prog TT (.func 61) [vb, vl] h0 (fun r h' => AC h0 h' 1 ((b ++ encs l).map byteAV) r ∧ HE h0 h') := by
  have c1 := kl.cells
  have i1 := kl.isCell
  have n1 := kl.nm
  have l1 := kl.len Tryz.underlying36
  rw [List.length_map] at l1
  apply A_go Tryz.func61 rfl (by rfl); (case hn => (simp [Tryz.ntmps61]; rfl))
  repeat(first|with_reducible first|refine vmR ?_|refine vmV rfl ?_|refine vmW rfl ?_|refine vmL ?_|refine blockW_y (by decide) ?_|((with_reducible first|apply vmO|apply vmT|apply vmC);case a=>simp;with_reducible first|exact .v|exact .c|exact .t|exact .f))
  refine A.mono (clonea_ans b vb h0 kb (by omega) hp) ?_
  rintro u1 h1 ⟨a1, e1⟩
  have uc := a1.sv.cells
  have ui := a1.sv.isCell
  refine ⟨_, by simp; first | done | rfl, ?_⟩
  repeat(first|with_reducible first|refine vmR ?_|refine vmV rfl ?_|refine vmW rfl ?_|refine vmL ?_|refine blockW_y (by decide) ?_|((with_reducible first|apply vmO|apply vmT|apply vmC);case a=>simp [uc, ui, c1, i1, l1, n1];with_reducible first|exact .v|exact .c|exact .t|exact .f))
  refine W_loop (fun m s => ∃ (t : Fm AV) (h : Hp Fm) (done rest : List Int) (u : AV), s = ⟨t, 34, h, none⟩ ∧ m = rest.length ∧ l = done ++ rest ∧ tget t 9 = vl ∧ tget t 10 = .int .i64 l.length ∧ tget t 11 = .int .i64 done.length ∧ tget t 0 = u ∧ AC h0 h 1 ((b ++ encs done).map byteAV) u ∧ HE h0 h) l.length
    ⟨_, _, [], l, u1, rfl, rfl, rfl, by simp, by simp, by simp, by simp, by simpa [encs] using a1, e1⟩ ?_
  rintro m s ⟨t, h, done, rest, u, rfl, rfl, hdr, t9, t10, t11, t0, hu, he⟩
  have uc := hu.sv.cells
  have ui := hu.sv.isCell
  have hlen : l.length = done.length + rest.length := by rw [hdr]; simp
  obtain ⟨i, hi⟩ : ∃ i, i = done.length := ⟨_, rfl⟩
  rw [← hi] at t11 hlen
  cases rest with
  | nil =>
    have q : ¬ ((i : Int) < l.length) := by simp at hlen; omega
    have q' : ¬ (i < l.length) := by omega
    repeat(first|with_reducible first|refine vmR ?_|refine vmV rfl ?_|refine vmW rfl ?_|refine vmL ?_|refine blockW_y (by decide) ?_|((with_reducible first|apply vmO|apply vmT|apply vmC);case a=>simp [t9, t10, t11, t0, q, q', uc, ui];with_reducible first|exact .v|exact .c|exact .t|exact .f))
    (first | apply endW_r | apply endW_n); (case h1 => (simp [Tryz.results61]; first | done | rfl))
    rw [hdr]
    exact ⟨by simpa using hu, he⟩
  | cons n rest =>
    have q : ((i : Int) < l.length) := by simp at hlen; omega
    have q' : (i < l.length) := by omega
    have ix := kl.idx (k := .i64) (i := (i : Int)) Tryz.underlying36 z3 (by omega) (by simp; omega)
    have ig : (l.map intAV)[i]'(by simp; omega) = .int .i64 n := by simp [hdr, hi, intAV]
    simp only [Int.toNat_natCast, ig] at ix
    have hn := hl n (by rw [hdr]; simp)
    obtain ⟨m, hm⟩ : ∃ m, m = n.toNat := ⟨_, rfl⟩
    have mx : max n 0 = (m : Int) := by omega
    have mx2 : (if n < 0 then 0 else n) = (m : Int) := by split <;> omega
    repeat(first|with_reducible first|refine vmR ?_|refine vmV rfl ?_|refine vmW rfl ?_|refine vmL ?_|refine blockW_y (by decide) ?_|((with_reducible first|apply vmO|apply vmT|apply vmC);case a=>simp [t9, t10, t11, t0, q, q', ix, uc, ui, mx, mx2];with_reducible first|exact .v|exact .c|exact .t|exact .f))
    have hdl : 9 * done.length + 9 ≤ 9 * l.length := by simp at hlen; omega
    have hel := encs_len done fun x hx => hl x (by rw [hdr]; simp [hx])
    have hml := enc7_len 8 m (by omega)
    refine W_loop (fun k s => ∃ (t : Fm AV) (h : Hp Fm) (bs : List UInt8) (u : AV), s = ⟨t, 34, h, none⟩ ∧ k ≤ 9223372036854775807 ∧ bs ++ enc7 k = (b ++ encs done) ++ enc7 m ∧ tget t 9 = vl ∧ tget t 10 = .int .i64 l.length ∧ tget t 11 = .int .i64 i ∧ tget t 6 = .int .i64 k ∧ tget t 0 = u ∧ AC h0 h 1 (bs.map byteAV) u ∧ HE h0 h) m
      ⟨_, _, _, u, rfl, by omega, rfl, by simp [t9], by simp [t10], by simp [t11], by simp, by simp [t0], hu, he⟩ ?_
    clear t9 t10 t11 t0 uc ui hu he u h t
    rintro k _ ⟨t, h, bs, u, rfl, hk, hbs, t9, t10, t11, t6, t0, hu, he⟩
    have uc := hu.sv.cells
    have ui := hu.sv.isCell
    have hph : h.pol 5 = false := by rw [he.pol]; exact hp
    have hbl : bs.length + (enc7 k).length = b.length + ((encs done).length + (enc7 m).length) := by have := congrArg List.length hbs; simpa [List.length_append] using this
    by_cases qk : k < 128
    · have qk1 : ¬ ((128 : Int) ≤ k) := by omega
      have qk2 : ¬ (128 ≤ k) := by omega
      rw [enc7_lt qk] at hbs hbl
      simp only [List.length_cons, List.length_nil] at hbl
      have cv : IntKind.u8.wrap (k : Int) = (k : Int) := wrap8 (by omega) (by omega)
      repeat(first|with_reducible first|refine vmR ?_|refine vmV rfl ?_|refine vmW rfl ?_|refine vmL ?_|refine blockW_y (by decide) ?_|((with_reducible first|apply vmO|apply vmT|apply vmC);case a=>simp [t9, t10, t11, t6, t0, qk, qk1, qk2, uc, ui, newSeq, newSl, hph, cv];with_reducible first|exact .v|exact .c|exact .t|exact .f))
      with_reducible apply WO_app_i; (case hw => (simp [t9, t10, t11, t6, t0, qk, qk1, qk2, uc, ui, newSeq, newSl, hph, cv]; done)); (case ho => rfl); (case hb => rfl); (case ha => (simp [t9, t10, t11, t6, t0, qk, qk1, qk2, uc, ui, newSeq, newSl, hph, cv]; first | done | exact ⟨rfl, rfl⟩ | rfl)); (case h1 => (simp; first | done | rfl)); (case h2 => (simp; first | done | rfl))
      refine app_then (AC.app (h0 := h0) etB (hu.of ((HE.refl h).newSl 1)) (he.newSl 1) hp (by simp; omega)) ?_
      rintro x4 h4 ⟨ac4, he4, _, _, _⟩
      have e4 := ac4.sv.cells
      have f4 := ac4.sv.isCell
      have w1 : IntKind.i64.wrap ((i : Int) + 1) = ((i + 1 : Nat) : Int) := by rw [wrap64 (by omega) (by omega)]; simp
      refine ⟨_, by simp; first | done | rfl, ?_⟩
      repeat(first|with_reducible first|refine vmR ?_|refine vmV rfl ?_|refine vmW rfl ?_|refine vmL ?_|refine blockW_y (by decide) ?_|((with_reducible first|apply vmO|apply vmT|apply vmC);case a=>simp [t9, t10, t11, t6, e4, f4, w1];with_reducible first|exact .v|exact .c|exact .t|exact .f))
      refine ⟨rest.length, by simp, _, _, done ++ [n], rest, x4, rfl, rfl, by rw [hdr]; simp, by simp [t9], by simp [t10], by simp [hi], by simp, ?_, he4⟩
      have : (b ++ encs (done ++ [n])).map byteAV = bs.map byteAV ++ [.int .u8 k] := by
        rw [encs_app, ← hm, ← List.append_assoc, ← hbs]
        simp [byteAV]; omega
      rw [this]; exact ac4
    · have qk1 : ((128 : Int) ≤ k) := by omega
      have qk2 : (128 ≤ k) := by omega
      rw [enc7_ge qk] at hbs hbl
      simp only [List.length_cons] at hbl
      have hd2 := enc7_len 8 (k / 128) (by omega)
      obtain ⟨c, hc⟩ : ∃ c, c = k % 256 := ⟨_, rfl⟩
      obtain ⟨w, hw⟩ : ∃ w, w = k % 128 + 128 := ⟨_, rfl⟩
      obtain ⟨d, hd⟩ : ∃ d, d = k / 128 := ⟨_, rfl⟩
      have cv : IntKind.u8.wrap (k : Int) = (c : Int) := by rw [hc]; exact wrap8m k
      have cw : IntKind.u8.wrap (↑(c % 2 ^ IntKind.u8.bits ||| 128 % 2 ^ IntKind.u8.bits) : Int) = (w : Int) := by rw [or128 c (by omega), hw, hc]; omega
      have sh : Int.fdiv (k : Int) (2 ^ min 7 IntKind.i64.bits) = (d : Int) := by
        have e : (2 ^ min 7 IntKind.i64.bits : Int) = ((128 : Nat) : Int) := by decide
        rw [e, Int.fdiv_eq_ediv_of_nonneg _ (by omega), hd]; omega
      repeat(first|with_reducible first|refine vmR ?_|refine vmV rfl ?_|refine vmW rfl ?_|refine vmL ?_|refine blockW_y (by decide) ?_|((with_reducible first|apply vmO|apply vmT|apply vmC);case a=>simp [t9, t10, t11, t6, t0, qk, qk1, qk2, uc, ui, newSeq, newSl, hph, cv, cw];with_reducible first|exact .v|exact .c|exact .t|exact .f))
      with_reducible apply WO_app_i; (case hw => (simp [t9, t10, t11, t6, t0, qk, qk1, qk2, uc, ui, newSeq, newSl, hph, cv, cw]; done)); (case ho => rfl); (case hb => rfl); (case ha => (simp [t9, t10, t11, t6, t0, qk, qk1, qk2, uc, ui, newSeq, newSl, hph, cv, cw]; first | done | exact ⟨rfl, rfl⟩ | rfl)); (case h1 => (simp; first | done | rfl)); (case h2 => (simp; first | done | rfl))
      refine app_then (AC.app (h0 := h0) etB (hu.of ((HE.refl h).newSl 1)) (he.newSl 1) hp (by simp; omega)) ?_
      rintro x4 h4 ⟨ac4, he4, _, _, _⟩
      have e4 := ac4.sv.cells
      have f4 := ac4.sv.isCell
      refine ⟨_, by simp; first | done | rfl, ?_⟩
      repeat(first|with_reducible first|refine vmR ?_|refine vmV rfl ?_|refine vmW rfl ?_|refine vmL ?_|refine blockW_y (by decide) ?_|((with_reducible first|apply vmO|apply vmT|apply vmC);case a=>simp [t9, t10, t11, t6, e4, f4, shiftBin, sh];with_reducible first|exact .v|exact .c|exact .t|exact .f))
      refine ⟨d, by omega, _, _, bs ++ [UInt8.ofNat w], x4, rfl, by omega, by rw [hd, hw, ← hbs]; simp, by simp [t9], by simp [t10], by simp [t11], by simp, by simp, ?_, he4⟩
      have : (bs ++ [UInt8.ofNat w]).map byteAV = bs.map byteAV ++ [.int .u8 w] := by simp [byteAV]; omega
      rw [this]; exact ac4

def strAV (s : List UInt8) : AV := .str s
def encT (l : List (List UInt8)) : List UInt8 := l.flatMap fun s => enc7 s.length ++ s
theorem encT_app (l : List (List UInt8)) (s : List UInt8) : encT (l ++ [s]) = encT l ++ (enc7 s.length ++ s) := by simp [encT]
theorem app_str (h : Hp Fm) (s x : AV) : appendAV Tryz.prog h 58 9 s x = appendAV Tryz.prog h 58 58 s x := by
  unfold appendAV
  simp [Tryz.underlying58, Tryz.underlying9, isIntD]

theorem vtext_ans (b : List UInt8) (l : List (List UInt8)) (vb vl : AV) (h0 : Hp Fm) (kb : SV 1 (b.map byteAV) vb) (kl : SV 1 (l.map strAV) vl) (hl : ∀ s ∈ l, s.length ≤ 16777216) (hp : ∀ z, h0.pol z = false) (hll : l.length ≤ 16777216) (hs : b.length + (encT l).length ≤ 16777216) :
    A Tryz.prog TT (.func 91) [vb, vl] h0 (fun r h' => AC h0 h' 1 ((b ++ encT l).map byteAV) r ∧ HE h0 h') := by
  have c1 := kl.cells
  have i1 := kl.isCell
  have n1 := kl.nm
  have l1 := kl.len Tryz.underlying74
  rw [List.length_map] at l1
  apply A_go Tryz.func91 rfl (by rfl); (case hn => (simp [Tryz.ntmps91]; rfl))
  repeat(first|with_reducible first|refine vmR ?_|refine vmV rfl ?_|refine vmW rfl ?_|refine vmL ?_|refine blockW_y (by decide) ?_|((with_reducible first|apply vmO|apply vmT|apply vmC);case a=>simp;with_reducible first|exact .v|exact .c|exact .t|exact .f))
  refine A.mono (clonea_ans b vb h0 kb (by omega) (hp _)) ?_
  rintro u1 h1 ⟨a1, e1⟩
  have uc := a1.sv.cells
  have ui := a1.sv.isCell
  refine ⟨_, by simp; first | done | rfl, ?_⟩
  repeat(first|with_reducible first|refine vmR ?_|refine vmV rfl ?_|refine vmW rfl ?_|refine vmL ?_|refine blockW_y (by decide) ?_|((with_reducible first|apply vmO|apply vmT|apply vmC);case a=>simp [uc, ui, c1, i1, l1, n1];with_reducible first|exact .v|exact .c|exact .t|exact .f))
  refine W_loop (fun m s => ∃ (t : Fm AV) (h : Hp Fm) (done rest : List (List UInt8)) (u : AV), s = ⟨t, 24, h, none⟩ ∧ m = rest.length ∧ l = done ++ rest ∧ tget t 9 = vl ∧ tget t 10 = .int .i64 l.length ∧ tget t 11 = .int .i64 done.length ∧ tget t 0 = u ∧ AC h0 h 1 ((b ++ encT done).map byteAV) u ∧ HE h0 h) l.length
    ⟨_, _, [], l, u1, rfl, rfl, rfl, by simp, by simp, by simp, by simp, by simpa [encT] using a1, e1⟩ ?_
  rintro m s ⟨t, h, done, rest, u, rfl, rfl, hdr, t9, t10, t11, t0, hu, he⟩
  have uc := hu.sv.cells
  have ui := hu.sv.isCell
  have hlen : l.length = done.length + rest.length := by rw [hdr]; simp
  obtain ⟨i, hi⟩ : ∃ i, i = done.length := ⟨_, rfl⟩
  rw [← hi] at t11 hlen
  cases rest with
  | nil =>
    have q : ¬ ((i : Int) < l.length) := by simp at hlen; omega
    have q' : ¬ (i < l.length) := by omega
    repeat(first|with_reducible first|refine vmR ?_|refine vmV rfl ?_|refine vmW rfl ?_|refine vmL ?_|refine blockW_y (by decide) ?_|((with_reducible first|apply vmO|apply vmT|apply vmC);case a=>simp [t9, t10, t11, t0, q, q', uc, ui];with_reducible first|exact .v|exact .c|exact .t|exact .f))
    (first | apply endW_r | apply endW_n); (case h1 => (simp [Tryz.results91]; first | done | rfl))
    rw [hdr]
    exact ⟨by simpa using hu, he⟩
  | cons n rest =>
    have q : ((i : Int) < l.length) := by simp at hlen; omega
    have q' : (i < l.length) := by omega
    have ix := kl.idx (k := .i64) (i := (i : Int)) Tryz.underlying74 z9 (by omega) (by simp; omega)
    have ig : (l.map strAV)[i]'(by simp; omega) = .str n := by simp [hdr, hi, strAV]
    simp only [Int.toNat_natCast, ig] at ix
    have hn := hl n (by rw [hdr]; simp)
    have hph : h.pol 3 = false := by rw [he.pol]; exact hp _
    have hee : (encT l).length = (encT done).length + ((enc7 n.length).length + n.length + (encT rest).length) := by rw [hdr]; simp [encT]; omega
    repeat(first|with_reducible first|refine vmR ?_|refine vmV rfl ?_|refine vmW rfl ?_|refine vmL ?_|refine blockW_y (by decide) ?_|((with_reducible first|apply vmO|apply vmT|apply vmC);case a=>simp [t9, t10, t11, t0, q, q', ix, uc, ui, newSeq, newSl, hph];with_reducible first|exact .v|exact .c|exact .t|exact .f))
    obtain ⟨ha, hha⟩ : ∃ ha : Hp Fm, ha = { h with len := Mp.set h.len h.ng 1, ng := h.ng + 1 } := ⟨_, rfl⟩
    have ea : HE h ha := by rw [hha]; exact (HE.refl h).newSl 1
    rw [← hha]
    refine A.mono (vput_ans (b ++ encT done) [(n.length : Int)] u _ ha hu.sv (.inr (.inl ⟨h.ng, 0, 1, rfl⟩)) (by simp; omega) (by rw [ea.pol, he.pol]; exact hp _) (by simp; omega)) ?_
    rintro u2 h2 ⟨a2, e2⟩
    have a3 : AC h0 h2 1 ((b ++ encT done ++ encs [(n.length : Int)]).map byteAV) u2 := a2.weak (Nat.le_trans he.ng ea.ng)
    have e3 := he.trans (ea.trans e2)
    have vc := a3.sv.cells
    have vi := a3.sv.isCell
    have he1 : encs [(n.length : Int)] = enc7 n.length := by simp [encs]
    rw [he1] at a3
    have w1 : IntKind.i64.wrap ((i : Int) + 1) = ((i + 1 : Nat) : Int) := by rw [wrap64 (by omega) (by omega)]; simp
    refine ⟨_, by simp; first | done | rfl, ?_⟩
    repeat(first|with_reducible first|refine vmR ?_|refine vmV rfl ?_|refine vmW rfl ?_|refine vmL ?_|refine blockW_y (by decide) ?_|((with_reducible first|apply vmO|apply vmT|apply vmC);case a=>simp [t9, t10, t11, t0, vc, vi];with_reducible first|exact .v|exact .c|exact .t|exact .f))
    with_reducible apply WO_app_i; (case hw => (simp [t9, t10, t11, t0, vc, vi]; done)); (case ho => rfl); (case hb => rfl); (case ha => (simp [t9, t10, t11, t0, vc, vi]; first | done | exact ⟨rfl, rfl⟩ | rfl)); (case h1 => (simp; first | done | rfl)); (case h2 => (simp; first | done | rfl))
    rw [app_str]
    refine app_then (AC.appN (h0 := h0) (new := n.map byteAV) etB a3 e3 (hp _) rfl (by simp; omega)) ?_
    rintro x4 h4 ⟨ac4, he4, _, _, _⟩
    have e4 := ac4.sv.cells
    have f4 := ac4.sv.isCell
    refine ⟨_, by simp; first | done | rfl, ?_⟩
    repeat(first|with_reducible first|refine vmR ?_|refine vmV rfl ?_|refine vmW rfl ?_|refine vmL ?_|refine blockW_y (by decide) ?_|((with_reducible first|apply vmO|apply vmT|apply vmC);case a=>simp [t9, t10, t11, e4, f4, w1];with_reducible first|exact .v|exact .c|exact .t|exact .f))
    refine ⟨rest.length, by simp, _, _, done ++ [n], rest, x4, rfl, rfl, by rw [hdr]; simp, by simp [t9], by simp [t10], by simp [hi], by simp, ?_, he4⟩
    rw [encT_app]; simpa using ac4
end Go.Vn

set_option maxRecDepth 20000
namespace Go.Vn
open Go.Proofs

theorem wrap32 {n : Nat} (h : n < 4294967296) : IntKind.u32.wrap (n : Int) = (n : Int) := by
  simp only [IntKind.wrap, IntKind.signed, IntKind.bits]
  simp
  omega
theorem xor32 (a c : BitVec 32) : IntKind.u32.wrap (↑(a.toNat % 2 ^ IntKind.u32.bits ^^^ c.toNat % 2 ^ IntKind.u32.bits) : Int) = ((a ^^^ c).toNat : Int) := by
  have e1 : a.toNat % 2 ^ IntKind.u32.bits = a.toNat := Nat.mod_eq_of_lt a.isLt
  have e2 : c.toNat % 2 ^ IntKind.u32.bits = c.toNat := Nat.mod_eq_of_lt c.isLt
  rw [e1, e2, ← BitVec.toNat_xor]
  exact wrap32 (a ^^^ c).isLt
theorem and32 (a c : BitVec 32) : IntKind.u32.wrap (↑(a.toNat % 2 ^ IntKind.u32.bits &&& c.toNat % 2 ^ IntKind.u32.bits) : Int) = ((a &&& c).toNat : Int) := by
  have e1 : a.toNat % 2 ^ IntKind.u32.bits = a.toNat := Nat.mod_eq_of_lt a.isLt
  have e2 : c.toNat % 2 ^ IntKind.u32.bits = c.toNat := Nat.mod_eq_of_lt c.isLt
  rw [e1, e2, ← BitVec.toNat_and]
  exact wrap32 (a &&& c).isLt
theorem neg32 (c : BitVec 32) : IntKind.u32.wrap (-(c.toNat : Int)) = ((-c).toNat : Int) := by
  have h := c.isLt
  rw [BitVec.toNat_neg]
  simp only [IntKind.wrap, IntKind.signed, IntKind.bits]
  simp
  omega
theorem not32 (s : BitVec 32) : IntKind.u32.wrap (↑(((if IntKind.u32.signed = true then (-1 : Int) else IntKind.u32.max) % 2 ^ IntKind.u32.bits).toNat ^^^ s.toNat % 2 ^ IntKind.u32.bits) : Int) = ((~~~ s).toNat : Int) := by
  have e1 : ((if IntKind.u32.signed = true then (-1 : Int) else IntKind.u32.max) % 2 ^ IntKind.u32.bits).toNat = (BitVec.allOnes 32).toNat % 2 ^ IntKind.u32.bits := by decide
  rw [e1, xor32]
  congr 2

set_option maxHeartbeats 1000000 in
theorem csum_ans (b : List UInt8) (vb : AV) (h0 : Hp Fm) (kb : SV 1 (b.map byteAV) vb) (hs : b.length ≤ 16777216 * 4) :
    A Tryz.prog TT (.func 59) [vb] h0 (fun r h' => r = .int .i64 (crcSum b) ∧ h' = h0) := by
  have c1 := kb.cells
  have i1 := kb.isCell
  have n1 := kb.nm
  have l1 := kb.len Tryz.underlying58
  rw [List.length_map] at l1
  apply A_go Tryz.func59 rfl (by rfl); (case hn => (simp [Tryz.ntmps59]; rfl))
  repeat(first|with_reducible first|refine vmR ?_|refine vmV rfl ?_|refine vmW rfl ?_|refine vmL ?_|refine blockW_y (by decide) ?_|((with_reducible first|apply vmO|apply vmT|apply vmC);case a=>simp [c1, i1, l1, n1];with_reducible first|exact .v|exact .c|exact .t|exact .f))
  refine W_loop (fun m s => ∃ (t : Fm AV) (done rest : List UInt8), s = ⟨t, 30, h0, none⟩ ∧ m = rest.length ∧ b = done ++ rest ∧ tget t 6 = vb ∧ tget t 7 = .int .i64 b.length ∧ tget t 8 = .int .i64 done.length ∧ tget t 3 = .int .u32 (crcAll done).toNat) b.length
    ⟨_, [], b, rfl, rfl, rfl, by simp, by simp, by simp, by simp [crcAll]⟩ ?_
  rintro m s ⟨t, done, rest, rfl, rfl, hdr, t6, t7, t8, t3⟩
  have hlen : b.length = done.length + rest.length := by rw [hdr]; simp
  obtain ⟨i, hi⟩ : ∃ i, i = done.length := ⟨_, rfl⟩
  rw [← hi] at t8 hlen
  obtain ⟨sn, hsn⟩ : ∃ sn, sn = (crcAll done).toNat := ⟨_, rfl⟩
  rw [← hsn] at t3
  have hsl : sn < 4294967296 := by rw [hsn]; exact (crcAll done).isLt
  cases rest with
  | nil =>
    have q : ¬ ((i : Int) < b.length) := by simp at hlen; omega
    have q' : ¬ (i < b.length) := by omega
    obtain ⟨r, hr⟩ : ∃ r, r = (~~~ crcAll done).toNat := ⟨_, rfl⟩
    have cr : IntKind.u32.wrap (↑(((if IntKind.u32.signed = true then (-1 : Int) else IntKind.u32.max) % 2 ^ IntKind.u32.bits).toNat ^^^ sn % 2 ^ IntKind.u32.bits) : Int) = (r : Int) := by rw [hsn, hr]; exact not32 _
    have hrl : r < 4294967296 := by rw [hr]; exact (~~~ crcAll done).isLt
    have cw : IntKind.i64.wrap (r : Int) = (r : Int) := wrap64 (by omega) (by omega)
    repeat(first|with_reducible first|refine vmR ?_|refine vmV rfl ?_|refine vmW rfl ?_|refine vmL ?_|refine blockW_y (by decide) ?_|((with_reducible first|apply vmO|apply vmT|apply vmC);case a=>simp [t6, t7, t8, t3, q, q', cr, cw];with_reducible first|exact .v|exact .c|exact .t|exact .f))
    (first | apply endW_r | apply endW_n); (case h1 => (simp [Tryz.results59]; first | done | rfl))
    have : done = b := by rw [hdr]; simp
    rw [← this]
    exact ⟨by rw [hr]; rfl, rfl⟩
  | cons n rest =>
    have q : ((i : Int) < b.length) := by simp at hlen; omega
    have q' : (i < b.length) := by omega
    have ix := kb.idx (k := .i64) (i := (i : Int)) Tryz.underlying58 z5 (by omega) (by simp; omega)
    have ig : (b.map byteAV)[i]'(by simp; omega) = .int .u8 n.toNat := by simp [hdr, hi, byteAV]
    simp only [Int.toNat_natCast, ig] at ix
    have hnl := n.toNat_lt
    have cn : IntKind.u32.wrap (n.toNat : Int) = (n.toNat : Int) := wrap32 (by omega)
    obtain ⟨x0, hx0⟩ : ∃ x0, x0 = (crcAll done ^^^ BitVec.ofNat 32 n.toNat).toNat := ⟨_, rfl⟩
    have cx : IntKind.u32.wrap (↑(sn % 2 ^ IntKind.u32.bits ^^^ n.toNat % 2 ^ IntKind.u32.bits) : Int) = (x0 : Int) := by
      have := xor32 (crcAll done) (BitVec.ofNat 32 n.toNat)
      rw [← hx0, ← hsn, BitVec.toNat_ofNat, Nat.mod_eq_of_lt (a := n.toNat) (by omega)] at this
      exact this
    repeat(first|with_reducible first|refine vmR ?_|refine vmV rfl ?_|refine vmW rfl ?_|refine vmL ?_|refine blockW_y (by decide) ?_|((with_reducible first|apply vmO|apply vmT|apply vmC);case a=>simp [t6, t7, t8, t3, q, q', ix, cn, cx];with_reducible first|exact .v|exact .c|exact .t|exact .f))
    refine W_loop (fun m s => ∃ (t : Fm AV) (z : BitVec 32) (j : Nat), s = ⟨t, 30, h0, none⟩ ∧ m = 8 - j ∧ j ≤ 8 ∧ crcBits (8 - j) z = crcAll (done ++ [n]) ∧ tget t 6 = vb ∧ tget t 7 = .int .i64 b.length ∧ tget t 8 = .int .i64 i ∧ tget t 16 = .int .i64 j ∧ tget t 3 = .int .u32 z.toNat) 8
      ⟨_, crcAll done ^^^ BitVec.ofNat 32 n.toNat, 0, rfl, rfl, by omega, by simp [crcAll, crcByte], by simp [t6], by simp [t7], by simp [t8], by simp, by simp [hx0]⟩ ?_
    clear t6 t7 t8 t3 t
    rintro _ _ ⟨t, z, j, rfl, rfl, hj, hz, t6, t7, t8, t16, t3⟩
    have w1 : IntKind.i64.wrap ((i : Int) + 1) = ((i + 1 : Nat) : Int) := by rw [wrap64 (by omega) (by omega)]; simp
    have w2 : IntKind.i64.wrap ((j : Int) + 1) = ((j + 1 : Nat) : Int) := by rw [wrap64 (by omega) (by omega)]; simp
    obtain ⟨zn, hzn⟩ : ∃ zn, zn = z.toNat := ⟨_, rfl⟩
    rw [← hzn] at t3
    by_cases qj : j < 8
    case neg =>
      have qj' : ¬ ((j : Int) < 8) := by omega
      repeat(first|with_reducible first|refine vmR ?_|refine vmV rfl ?_|refine vmW rfl ?_|refine vmL ?_|refine blockW_y (by decide) ?_|((with_reducible first|apply vmO|apply vmT|apply vmC);case a=>simp [t6, t7, t8, t16, t3, qj, qj', w1];with_reducible first|exact .v|exact .c|exact .t|exact .f))
      have : j = 8 := by omega
      subst this
      exact ⟨rest.length, by simp, _, done ++ [n], rest, rfl, rfl, by rw [hdr]; simp, by simp [t6], by simp [t7], by simp [hi], by simp [t3, hzn, ← hz, crcBits]⟩
    have qj' : ((j : Int) < 8) := by omega
    obtain ⟨a, ha⟩ : ∃ a, a = (z >>> 1).toNat := ⟨_, rfl⟩
    obtain ⟨c, hc⟩ : ∃ c, c = (z &&& 1#32).toNat := ⟨_, rfl⟩
    obtain ⟨d, hd⟩ : ∃ d, d = (-(z &&& 1#32)).toNat := ⟨_, rfl⟩
    obtain ⟨e, he⟩ : ∃ e, e = (0xEDB88320#32 &&& -(z &&& 1#32)).toNat := ⟨_, rfl⟩
    obtain ⟨f, hf⟩ : ∃ f, f = (crcBit z).toNat := ⟨_, rfl⟩
    have fa : Int.fdiv (zn : Int) (2 ^ min 1 IntKind.u32.bits) = (a : Int) := by
      have e : (2 ^ min 1 IntKind.u32.bits : Int) = ((2 : Nat) : Int) := by decide
      rw [e, Int.fdiv_eq_ediv_of_nonneg _ (by omega), ha, hzn, BitVec.toNat_ushiftRight, Nat.shiftRight_eq_div_pow]; omega
    have fc : IntKind.u32.wrap (↑(zn % 2 ^ IntKind.u32.bits &&& 1 % 2 ^ IntKind.u32.bits) : Int) = (c : Int) := by rw [hzn, hc]; exact and32 z 1#32
    have fd : IntKind.u32.wrap (-(c : Int)) = (d : Int) := by rw [hc, hd]; exact neg32 _
    have fe : IntKind.u32.wrap (↑(3988292384 % 2 ^ IntKind.u32.bits &&& d % 2 ^ IntKind.u32.bits) : Int) = (e : Int) := by rw [hd, he]; exact and32 0xEDB88320#32 _
    have ff : IntKind.u32.wrap (↑(a % 2 ^ IntKind.u32.bits ^^^ e % 2 ^ IntKind.u32.bits) : Int) = (f : Int) := by rw [ha, he, hf]; exact xor32 _ _
    repeat(first|with_reducible first|refine vmR ?_|refine vmV rfl ?_|refine vmW rfl ?_|refine vmL ?_|refine blockW_y (by decide) ?_|((with_reducible first|apply vmO|apply vmT|apply vmC);case a=>simp [t6, t7, t8, t16, t3, qj, qj', w2, shiftBin, fa, fc, fd, fe, ff];with_reducible first|exact .v|exact .c|exact .t|exact .f))
    refine ⟨8 - (j + 1), by omega, _, crcBit z, j + 1, rfl, rfl, by omega, ?_, by simp [t6], by simp [t7], by simp [t8], by simp, by simp [hf]⟩
    rw [← hz, show 8 - j = (8 - (j + 1)) + 1 by omega]
    rfl

theorem cput_ans (n : Nat) (acc : List AV) (v : AV) (hb h0 : Hp Fm) (k : AC hb h0 1 acc v) (he : HE hb h0) (hp : hb.pol 5 = false) (hn : n < 4294967296) (hl : acc.length ≤ 16777216 * 4) :
    A Tryz.prog TT (.func 58) [v, .int .i64 n] h0 (fun r h' => AC hb h' 1 (acc ++ (four n).map byteAV) r ∧ HE hb h') := by
  have c1 := k.sv.cells
  have i1 := k.sv.isCell
  have hph : h0.pol 5 = false := by rw [he.pol]; exact hp
  obtain ⟨n1, hn1⟩ : ∃ n1, n1 = n / 256 := ⟨_, rfl⟩
  obtain ⟨n2, hn2⟩ : ∃ n2, n2 = n / 65536 := ⟨_, rfl⟩
  obtain ⟨n3, hn3⟩ : ∃ n3, n3 = n / 16777216 := ⟨_, rfl⟩
  obtain ⟨m0, hm0⟩ : ∃ m0, m0 = n % 256 := ⟨_, rfl⟩
  obtain ⟨m1, hm1⟩ : ∃ m1, m1 = n1 % 256 := ⟨_, rfl⟩
  obtain ⟨m2, hm2⟩ : ∃ m2, m2 = n2 % 256 := ⟨_, rfl⟩
  obtain ⟨m3, hm3⟩ : ∃ m3, m3 = n3 % 256 := ⟨_, rfl⟩
  have w0 : IntKind.u8.wrap (n : Int) = (m0 : Int) := by rw [hm0]; exact wrap8m n
  have w1 : IntKind.u8.wrap (n1 : Int) = (m1 : Int) := by rw [hm1]; exact wrap8m n1
  have w2 : IntKind.u8.wrap (n2 : Int) = (m2 : Int) := by rw [hm2]; exact wrap8m n2
  have w3 : IntKind.u8.wrap (n3 : Int) = (m3 : Int) := by rw [hm3]; exact wrap8m n3
  have s1 : Int.fdiv (n : Int) (2 ^ min 8 IntKind.i64.bits) = (n1 : Int) := by
    have e : (2 ^ min 8 IntKind.i64.bits : Int) = ((256 : Nat) : Int) := by decide
    rw [e, Int.fdiv_eq_ediv_of_nonneg _ (by omega), hn1]; omega
  have s2 : Int.fdiv (n : Int) (2 ^ min 16 IntKind.i64.bits) = (n2 : Int) := by
    have e : (2 ^ min 16 IntKind.i64.bits : Int) = ((65536 : Nat) : Int) := by decide
    rw [e, Int.fdiv_eq_ediv_of_nonneg _ (by omega), hn2]; omega
  have s3 : Int.fdiv (n : Int) (2 ^ min 24 IntKind.i64.bits) = (n3 : Int) := by
    have e : (2 ^ min 24 IntKind.i64.bits : Int) = ((16777216 : Nat) : Int) := by decide
    rw [e, Int.fdiv_eq_ediv_of_nonneg _ (by omega), hn3]; omega
  apply A_go Tryz.func58 rfl (by rfl); (case hn => (simp [Tryz.ntmps58]; rfl))
  repeat(first|with_reducible first|refine vmR ?_|refine vmV rfl ?_|refine vmW rfl ?_|refine vmL ?_|refine blockW_y (by decide) ?_|((with_reducible first|apply vmO|apply vmT|apply vmC);case a=>simp [c1, i1, shiftBin, w0, w1, w2, w3, s1, s2, s3, newSeq, newSl, hph];with_reducible first|exact .v|exact .c|exact .t|exact .f))
  with_reducible apply WO_app_i; (case hw => (simp [c1, i1, shiftBin, w0, w1, w2, w3, s1, s2, s3, newSeq, newSl, hph]; done)); (case ho => rfl); (case hb => rfl); (case ha => (simp [c1, i1, shiftBin, w0, w1, w2, w3, s1, s2, s3, newSeq, newSl, hph]; first | done | exact ⟨rfl, rfl⟩ | rfl)); (case h1 => (simp; first | done | rfl)); (case h2 => (simp; first | done | rfl))
  refine app_then (AC.appN (h0 := hb) (new := (four n).map byteAV) etB (k.of ((HE.refl h0).newSl 4)) (he.newSl 4) hp ?_ (by simp; omega)) ?_
  · have : (four n).map byteAV = [.int .u8 m0, .int .u8 m1, .int .u8 m2, .int .u8 m3] := by
      simp [four, byteAV, hm0, hm1, hm2, hm3, hn1, hn2, hn3]
    rw [this]; rfl
  rintro x4 h4 ⟨ac4, he4, _, _, _⟩
  have e4 := ac4.sv.cells
  have f4 := ac4.sv.isCell
  refine ⟨_, by simp; first | done | rfl, ?_⟩
  repeat(first|with_reducible first|refine vmR ?_|refine vmV rfl ?_|refine vmW rfl ?_|refine vmL ?_|refine blockW_y (by decide) ?_|((with_reducible first|apply vmO|apply vmT|apply vmC);case a=>simp [e4, f4];with_reducible first|exact .v|exact .c|exact .t|exact .f))
  (first | apply endW_r | apply endW_n); (case h1 => (simp [Tryz.results58]; first | done | rfl))
  exact ⟨ac4, he4⟩
end Go.Vn

set_option maxRecDepth 20000
namespace Go.Vn
open Go.Proofs

set_option maxHeartbeats 1000000 in
theorem cframe_ans (b : List UInt8) (v : AV) (g cap : Nat) (h0 : Hp Fm) (kb : SV 1 (b.map byteAV) v) (hs : b.length ≤ 16777216) (hp : h0.pol 5 = false) :
    A Tryz.prog TT (.func 34) [.sl g 0 1 cap [v]] h0 (fun r h' => SV 1 ((frame b).map byteAV) r ∧ HE h0 h') := by
  have c1 := kb.cells
  have i1 := kb.isCell
  have n1 := kb.nm
  have l1 := kb.len Tryz.underlying58
  rw [List.length_map] at l1
  have p0 : partAV false 1 [v] 0 = some v := rfl
  apply A_go Tryz.func34 rfl (by rfl); (case hn => (simp [Tryz.ntmps34]; rfl))
  repeat(first|with_reducible first|refine vmR ?_|refine vmV rfl ?_|refine vmW rfl ?_|refine vmL ?_|refine blockW_y (by decide) ?_|((with_reducible first|apply vmO|apply vmT|apply vmC);case a=>simp;with_reducible first|exact .v|exact .c|exact .t|exact .f))
  refine W_loop_i ?_
  repeat(first|with_reducible first|refine vmR ?_|refine vmV rfl ?_|refine vmW rfl ?_|refine vmL ?_|refine blockW_y (by decide) ?_|((with_reducible first|apply vmO|apply vmT|apply vmC);case a=>simp [c1, i1, l1, n1];with_reducible first|exact .v|exact .c|exact .t|exact .f))
  refine A.mono (cput_ans b.length [] .nils h0 h0 (.inl ⟨rfl, rfl⟩) (HE.refl h0) hp (by omega) (by simp)) ?_
  rintro u1 h1 ⟨a1, e1⟩
  have uc := a1.sv.cells
  have ui := a1.sv.isCell
  refine ⟨_, by simp; first | done | rfl, ?_⟩
  repeat(first|with_reducible first|refine vmR ?_|refine vmV rfl ?_|refine vmW rfl ?_|refine vmL ?_|refine blockW_y (by decide) ?_|((with_reducible first|apply vmO|apply vmT|apply vmC);case a=>simp [c1, i1, l1, n1, uc, ui];with_reducible first|exact .v|exact .c|exact .t|exact .f))
  refine A.mono (csum_ans b v h1 kb (by omega)) ?_
  rintro _ _ ⟨rfl, rfl⟩
  refine ⟨_, by simp; first | done | rfl, ?_⟩
  repeat(first|with_reducible first|refine vmR ?_|refine vmV rfl ?_|refine vmW rfl ?_|refine vmL ?_|refine blockW_y (by decide) ?_|((with_reducible first|apply vmO|apply vmT|apply vmC);case a=>simp [c1, i1, l1, n1, uc, ui];with_reducible first|exact .v|exact .c|exact .t|exact .f))
  refine A.mono (cput_ans (crcSum b) _ u1 h0 _ a1 e1 hp (crcSum_lt b) (by simp)) ?_
  rintro u2 h2 ⟨a2, e2⟩
  have vc := a2.sv.cells
  have vi := a2.sv.isCell
  refine ⟨_, by simp; first | done | rfl, ?_⟩
  repeat(first|with_reducible first|refine vmR ?_|refine vmV rfl ?_|refine vmW rfl ?_|refine vmL ?_|refine blockW_y (by decide) ?_|((with_reducible first|apply vmO|apply vmT|apply vmC);case a=>simp [c1, i1, l1, n1, vc, vi];with_reducible first|exact .v|exact .c|exact .t|exact .f))
  with_reducible apply WO_app_i; (case hw => (simp [c1, i1, l1, n1, vc, vi]; done)); (case ho => rfl); (case hb => rfl); (case ha => (simp [c1, i1, l1, n1, vc, vi]; first | done | exact ⟨rfl, rfl⟩ | rfl)); (case h1 => (simp; first | done | rfl)); (case h2 => (simp; first | done | rfl))
  refine app_then (AC.appN (h0 := h0) (new := b.map byteAV) etB a2 e2 hp kb.newEls (by simp; omega)) ?_
  rintro x4 h4 ⟨ac4, he4, _, _, _⟩
  have e4 := ac4.sv.cells
  have f4 := ac4.sv.isCell
  refine ⟨_, by simp; first | done | rfl, ?_⟩
  repeat(first|with_reducible first|refine vmR ?_|refine vmV rfl ?_|refine vmW rfl ?_|refine vmL ?_|refine blockW_y (by decide) ?_|((with_reducible first|apply vmO|apply vmT|apply vmC);case a=>simp [e4, f4];with_reducible first|exact .v|exact .c|exact .t|exact .f))
  refine W_loop_i ?_
  repeat(first|with_reducible first|refine vmR ?_|refine vmV rfl ?_|refine vmW rfl ?_|refine vmL ?_|refine blockW_y (by decide) ?_|((with_reducible first|apply vmO|apply vmT|apply vmC);case a=>simp [e4, f4];with_reducible first|exact .v|exact .c|exact .t|exact .f))
  (first | apply endW_r | apply endW_n); (case h1 => (simp [Tryz.results34]; first | done | rfl))
  exact ⟨by simpa [frame] using ac4.sv, he4⟩
end Go.Vn

set_option maxRecDepth 20000
namespace Go.Vn
open Go.Proofs

def runAll : List (Dk → Int × Dk) → Dk → Int × Dk
  | [], D => (0, D)
  | f :: fs, D => if (f D).1 ≠ 0 then f D else runAll fs (f D).2
def tempN : Tx := [116, 101, 109, 112, 46, 108, 111, 103]
def freshD (k b : Tx) (D : Dk) : Int × Dk :=
  if (D.remove tempN).1 = 7 then (7, (D.remove tempN).2)
  else
    let r := runAll [fun D => D.create tempN, fun D => D.append tempN b, fun D => D.sync tempN, fun D => D.rename tempN k] (D.remove tempN).2
    if r.1 ≠ 0 ∧ r.1 ≠ 7 then (r.1, (r.2.remove tempN).2) else r

theorem removeW (k : Tx) (p m : Nat) (D : Dk) (w : D.wf) (h0 : Hp Fm) (d : DKs h0 p m D) :
    A Tryz.prog TT (.func 20) [.ptr p 0, .str k] h0 (fun r h' => r = .int .i64 (D.remove k).1 ∧ DKs h' p m (D.remove k).2 ∧ DX p m h0 h') :=
  remove_ans k p m D h0 d w.left
theorem renameW (k k2 : Tx) (hk : k2.length ≤ 1000000) (p m : Nat) (D : Dk) (w : D.wf) (h0 : Hp Fm) (d : DKs h0 p m D) :
    A Tryz.prog TT (.func 29) [.ptr p 0, .str k, .str k2] h0 (fun r h' => r = .int .i64 (D.rename k k2).1 ∧ DKs h' p m (D.rename k k2).2 ∧ DX p m h0 h') :=
  rename_ans k k2 hk p m D h0 d w.left

structure Cl where
  f : Nat
  env : List AV
  g : Dk → Int × Dk
def Cl.av (c : Cl) : AV := .fn (.func c.f) [] c.env
structure Cl.Ok (p m : Nat) (Iv : Hp Fm → Prop) (c : Cl) : Prop where
  body : hasBody Tryz.prog c.f = true
  wf : ∀ D : Dk, D.wf → (c.g D).2.wf
  ans : ∀ D : Dk, D.wf → ∀ h, DKs h p m D → Iv h → A Tryz.prog TT (.func c.f) c.env h (fun r h' => r = .int .i64 (c.g D).1 ∧ DKs h' p m (c.g D).2 ∧ DX p m h h' ∧ Iv h')
theorem runAll_wf {p m : Nat} {Iv : Hp Fm → Prop} : ∀ (cl : List Cl), (∀ c ∈ cl, c.Ok p m Iv) → ∀ D : Dk, D.wf → (runAll (cl.map Cl.g) D).2.wf
  | [], _, D, w => w
  | c :: cl, h, D, w => by
    have w1 := (h c List.mem_cons_self).wf D w
    simp only [List.map_cons, runAll]
    split
    · exact w1
    · exact runAll_wf cl (fun x hx => h x (List.mem_cons_of_mem _ hx)) _ w1

theorem wall_ans (p m : Nat) (Iv : Hp Fm → Prop) (cl : List Cl) (hcl : ∀ c ∈ cl, c.Ok p m Iv) (hl : cl.length ≤ 1000) (D : Dk) (w : D.wf) (h0 : Hp Fm) (d : DKs h0 p m D) (iv : Iv h0) (g cap : Nat) :
    A Tryz.prog TT (.func 21) [.sl g 0 1 cap (cl.map Cl.av)] h0 (fun r h' => r = .int .i64 (runAll (cl.map Cl.g) D).1 ∧ DKs h' p m (runAll (cl.map Cl.g) D).2 ∧ DX p m h0 h' ∧ Iv h') := by
  apply A_go Tryz.func21 rfl (by rfl); (case hn => (simp [Tryz.ntmps21]; rfl))
  repeat(first|with_reducible first|refine vmR ?_|refine vmV rfl ?_|refine vmW rfl ?_|refine vmL ?_|refine blockW_y (by decide) ?_|((with_reducible first|apply vmO|apply vmT|apply vmC);case a=>simp;with_reducible first|exact .v|exact .c|exact .t|exact .f))
  refine W_loop (fun k s => ∃ (t : Fm AV) (h : Hp Fm) (done rest : List Cl) (D' : Dk), s = ⟨t, 18, h, none⟩ ∧ k = rest.length ∧ cl = done ++ rest ∧ runAll (rest.map Cl.g) D' = runAll (cl.map Cl.g) D ∧ tget t 6 = .sl g 0 1 cap (cl.map Cl.av) ∧ tget t 7 = .int .i64 cl.length ∧ tget t 8 = .int .i64 done.length ∧ DKs h p m D' ∧ D'.wf ∧ DX p m h0 h ∧ Iv h) cl.length
    ⟨_, _, [], cl, D, rfl, rfl, rfl, rfl, by simp, by simp, by simp, d, w, HX.refl _ _ _, iv⟩ ?_
  rintro k s ⟨t, h, done, rest, D', rfl, rfl, hdr, hrun, t6, t7, t8, d', w', x', iv'⟩
  have hlen : cl.length = done.length + rest.length := by rw [hdr]; simp
  obtain ⟨i, hi⟩ : ∃ i, i = done.length := ⟨_, rfl⟩
  rw [← hi] at t8 hlen
  cases rest with
  | nil =>
    have q : ¬ ((i : Int) < cl.length) := by simp at hlen; omega
    have q' : ¬ (i < cl.length) := by omega
    repeat(first|with_reducible first|refine vmR ?_|refine vmV rfl ?_|refine vmW rfl ?_|refine vmL ?_|refine blockW_y (by decide) ?_|((with_reducible first|apply vmO|apply vmT|apply vmC);case a=>simp [t6, t7, t8, q, q'];with_reducible first|exact .v|exact .c|exact .t|exact .f))
    (first | apply endW_r | apply endW_n); (case h1 => (simp [Tryz.results21]; first | done | rfl))
    rw [← hrun]
    exact ⟨rfl, d', x', iv'⟩
  | cons c rest =>
    have q : ((i : Int) < cl.length) := by simp at hlen; omega
    have q' : (i < cl.length) := by omega
    have hc := hcl c (by rw [hdr]; simp)
    have sv : SV 1 (cl.map Cl.av) (.sl g 0 1 cap (cl.map Cl.av)) := .inr (.inl ⟨_, _, _, rfl⟩)
    have ix := sv.idx (k := .i64) (i := (i : Int)) Tryz.underlying87 z61 (by omega) (by simp; omega)
    have ig : (cl.map Cl.av)[i]'(by simp; omega) = .fn (.func c.f) [] c.env := by simp [hdr, hi, Cl.av]
    simp only [Int.toNat_natCast, ig] at ix
    have hb := hc.body
    have w1 : IntKind.i64.wrap ((i : Int) + 1) = ((i + 1 : Nat) : Int) := by rw [wrap64 (by omega) (by omega)]; simp
    repeat(first|with_reducible first|refine vmR ?_|refine vmV rfl ?_|refine vmW rfl ?_|refine vmL ?_|refine blockW_y (by decide) ?_|((with_reducible first|apply vmO|apply vmT|apply vmC);case a=>simp [t6, t7, t8, q, q', ix, hb];with_reducible first|exact .v|exact .c|exact .t|exact .f))
    refine A.mono (hc.ans D' w' h d' iv') ?_
    rintro _ h2 ⟨rfl, d2, x2, iv2⟩
    have w2 := hc.wf D' w'
    simp only [List.map_cons, runAll] at hrun
    obtain ⟨e, he⟩ : ∃ e, e = (c.g D').1 := ⟨_, rfl⟩
    rw [← he] at hrun ⊢
    refine ⟨_, by simp; first | done | rfl, ?_⟩
    by_cases qe : e = 0
    · rw [if_neg (by simp [qe])] at hrun
      repeat(first|with_reducible first|refine vmR ?_|refine vmV rfl ?_|refine vmW rfl ?_|refine vmL ?_|refine blockW_y (by decide) ?_|((with_reducible first|apply vmO|apply vmT|apply vmC);case a=>simp [t6, t7, t8, qe, w1];with_reducible first|exact .v|exact .c|exact .t|exact .f))
      exact ⟨rest.length, by simp, _, _, done ++ [c], rest, _, rfl, rfl, by rw [hdr]; simp, hrun, by simp [t6], by simp [t7], by simp [hi], d2, w2, x'.trans x2, iv2⟩
    · rw [if_pos qe] at hrun
      repeat(first|with_reducible first|refine vmR ?_|refine vmV rfl ?_|refine vmW rfl ?_|refine vmL ?_|refine blockW_y (by decide) ?_|((with_reducible first|apply vmO|apply vmT|apply vmC);case a=>simp [t6, t7, t8, qe];with_reducible first|exact .v|exact .c|exact .t|exact .f))
      (first | apply endW_r | apply endW_n); (case h1 => (simp [Tryz.results21]; first | done | rfl))
      rw [← hrun]
      exact ⟨by rw [he], d2, x'.trans x2, iv2⟩

structure Fr4 (rd rn rb p : Nat) (k : Tx) (b : Tx) (h : Hp Fm) : Prop where
  g1 : Mp.get h.obj rd = some (.row [.ptr p 0])
  g2 : Mp.get h.obj rn = some (.row [.str k])
  g3 : ∃ v, Mp.get h.obj rb = some (.row [v]) ∧ SV 1 (b.map byteAV) v
  pol : ∀ z, h.pol z = false
  l1 : rd < h.no
  l2 : rn < h.no
  l3 : rb < h.no
theorem Fr4.go {rd rn rb p m : Nat} {k b : Tx} {h h' : Hp Fm} (a : Fr4 rd rn rb p k b h) (x : DX p m h h') (n1 : rd ≠ p) (n2 : rd ≠ m) (n3 : rn ≠ p) (n4 : rn ≠ m) (n5 : rb ≠ p) (n6 : rb ≠ m) : Fr4 rd rn rb p k b h' :=
  ⟨(x.obj _ a.l1 (fun z => z.elim n1 n2)).trans a.g1, (x.obj _ a.l2 (fun z => z.elim n3 n4)).trans a.g2,
   let ⟨v, q, r⟩ := a.g3; ⟨v, (x.obj _ a.l3 (fun z => z.elim n5 n6)).trans q, r⟩, fun z => by rw [x.pol]; exact a.pol z,
   Nat.lt_of_lt_of_le a.l1 x.no, Nat.lt_of_lt_of_le a.l2 x.no, Nat.lt_of_lt_of_le a.l3 x.no⟩

section
variable {rd rn rb p m : Nat} {k b : Tx} (n1 : rd ≠ p) (n2 : rd ≠ m) (n3 : rn ≠ p) (n4 : rn ≠ m) (n5 : rb ≠ p) (n6 : rb ≠ m)
include n1 n2 n3 n4 n5 n6
theorem fr1_ok : (Cl.mk 22 [.ptr rd 0] fun D => D.create tempN).Ok p m (Fr4 rd rn rb p k b) := by
  refine ⟨hb22, fun D w => wf_create w _, fun D w h d a => ?_⟩
  have g1 := a.g1
  apply A_go Tryz.func22 rfl (by rfl); (case hn => (simp [Tryz.ntmps22]; rfl))
  repeat(first|with_reducible first|refine vmR ?_|refine vmV rfl ?_|refine vmW rfl ?_|refine vmL ?_|refine blockW_y (by decide) ?_|((with_reducible first|apply vmO|apply vmT|apply vmC);case a=>simp [g1];with_reducible first|exact .v|exact .c|exact .t|exact .f))
  refine A.mono (createW tempN (by decide) p m D w h d) ?_
  rintro _ h2 ⟨rfl, d2, x2⟩
  refine ⟨_, by simp; first | done | rfl, ?_⟩
  repeat(first|with_reducible first|refine vmR ?_|refine vmV rfl ?_|refine vmW rfl ?_|refine vmL ?_|refine blockW_y (by decide) ?_|((with_reducible first|apply vmO|apply vmT|apply vmC);case a=>simp;with_reducible first|exact .v|exact .c|exact .t|exact .f))
  (first | apply endW_r | apply endW_n); (case h1 => (simp [Tryz.results22]; first | done | rfl))
  exact ⟨rfl, d2, x2, a.go x2 n1 n2 n3 n4 n5 n6⟩
theorem fr2_ok (hbl : b.length ≤ 16777216) : (Cl.mk 24 [.ptr rd 0, .ptr rb 0] fun D => D.append tempN b).Ok p m (Fr4 rd rn rb p k b) := by
  refine ⟨hb24, fun D w => wf_append w _ _, fun D w h d a => ?_⟩
  have g1 := a.g1
  obtain ⟨v, g3, sv⟩ := a.g3
  have vc := sv.cells
  have vi := sv.isCell
  apply A_go Tryz.func24 rfl (by rfl); (case hn => (simp [Tryz.ntmps24]; rfl))
  repeat(first|with_reducible first|refine vmR ?_|refine vmV rfl ?_|refine vmW rfl ?_|refine vmL ?_|refine blockW_y (by decide) ?_|((with_reducible first|apply vmO|apply vmT|apply vmC);case a=>simp [g1, g3, vc, vi];with_reducible first|exact .v|exact .c|exact .t|exact .f))
  refine A.mono (appendW tempN b v hbl p m D w h d (BV.sv sv) (fun q hq => absurd hq (sv.noRow q)) (a.pol _)) ?_
  rintro _ h2 ⟨rfl, d2, x2⟩
  refine ⟨_, by simp; first | done | rfl, ?_⟩
  repeat(first|with_reducible first|refine vmR ?_|refine vmV rfl ?_|refine vmW rfl ?_|refine vmL ?_|refine blockW_y (by decide) ?_|((with_reducible first|apply vmO|apply vmT|apply vmC);case a=>simp;with_reducible first|exact .v|exact .c|exact .t|exact .f))
  (first | apply endW_r | apply endW_n); (case h1 => (simp [Tryz.results24]; first | done | rfl))
  exact ⟨rfl, d2, x2, a.go x2 n1 n2 n3 n4 n5 n6⟩
theorem fr3_ok : (Cl.mk 26 [.ptr rd 0] fun D => D.sync tempN).Ok p m (Fr4 rd rn rb p k b) := by
  refine ⟨hb26, fun D w => wf_sync w _, fun D w h d a => ?_⟩
  have g1 := a.g1
  apply A_go Tryz.func26 rfl (by rfl); (case hn => (simp [Tryz.ntmps26]; rfl))
  repeat(first|with_reducible first|refine vmR ?_|refine vmV rfl ?_|refine vmW rfl ?_|refine vmL ?_|refine blockW_y (by decide) ?_|((with_reducible first|apply vmO|apply vmT|apply vmC);case a=>simp [g1];with_reducible first|exact .v|exact .c|exact .t|exact .f))
  refine A.mono (syncW tempN p m D w h d) ?_
  rintro _ h2 ⟨rfl, d2, x2⟩
  refine ⟨_, by simp; first | done | rfl, ?_⟩
  repeat(first|with_reducible first|refine vmR ?_|refine vmV rfl ?_|refine vmW rfl ?_|refine vmL ?_|refine blockW_y (by decide) ?_|((with_reducible first|apply vmO|apply vmT|apply vmC);case a=>simp;with_reducible first|exact .v|exact .c|exact .t|exact .f))
  (first | apply endW_r | apply endW_n); (case h1 => (simp [Tryz.results26]; first | done | rfl))
  exact ⟨rfl, d2, x2, a.go x2 n1 n2 n3 n4 n5 n6⟩
theorem fr4_ok (hk : k.length ≤ 1000000) : (Cl.mk 28 [.ptr rd 0, .ptr rn 0] fun D => D.rename tempN k).Ok p m (Fr4 rd rn rb p k b) := by
  refine ⟨hb28, fun D w => wf_rename w _ _, fun D w h d a => ?_⟩
  have g1 := a.g1
  have g2 := a.g2
  apply A_go Tryz.func28 rfl (by rfl); (case hn => (simp [Tryz.ntmps28]; rfl))
  repeat(first|with_reducible first|refine vmR ?_|refine vmV rfl ?_|refine vmW rfl ?_|refine vmL ?_|refine blockW_y (by decide) ?_|((with_reducible first|apply vmO|apply vmT|apply vmC);case a=>simp [g1, g2];with_reducible first|exact .v|exact .c|exact .t|exact .f))
  refine A.mono (renameW tempN k hk p m D w h d) ?_
  rintro _ h2 ⟨rfl, d2, x2⟩
  refine ⟨_, by simp; first | done | rfl, ?_⟩
  repeat(first|with_reducible first|refine vmR ?_|refine vmV rfl ?_|refine vmW rfl ?_|refine vmL ?_|refine blockW_y (by decide) ?_|((with_reducible first|apply vmO|apply vmT|apply vmC);case a=>simp;with_reducible first|exact .v|exact .c|exact .t|exact .f))
  (first | apply endW_r | apply endW_n); (case h1 => (simp [Tryz.results28]; first | done | rfl))
  exact ⟨rfl, d2, x2, a.go x2 n1 n2 n3 n4 n5 n6⟩
end
end Go.Vn
