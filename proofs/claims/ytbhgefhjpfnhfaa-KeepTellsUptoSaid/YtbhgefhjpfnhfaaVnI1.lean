/- What functions of the program come to, in the value machine (a part of the proof of the claim's statement). No condition. -/
import Derived.Test.YtbhgefhjpfnhfaaVnG1
import Derived.Test.YtbhgefhjpfnhfaaVnG2
import Derived.Test.YtbhgefhjpfnhfaaVnG3
import Derived.Test.YtbhgefhjpfnhfaaVnGa
set_option linter.unusedSimpArgs false
set_option linter.unusedVariables false
set_option maxRecDepth 20000
namespace Go.Vn
open Go.Proofs

structure Br where
  pa : Int
  fk : Int
  fl : Int
  dr : Bool
deriving Inhabited, DecidableEq
@[simp] def encB (b : Br) : AV := .agg [.int .i64 b.pa, .int .i64 b.fk, .int .i64 b.fl, .bool b.dr]
theorem fitB (l : List Br) : ∀ e ∈ l.map encB, Fit true 4 e := fun e he => by obtain ⟨x, _, rfl⟩ := List.mem_map.mp he; exact .inl ⟨rfl, _, rfl, rfl⟩

abbrev BRs (lo : Nat) (h : Hp Fm) (bs : List Br) (v : AV) : Prop := RS lo h 4 true (bs.map encB) v

theorem BRs.len {lo : Nat} {h : Hp Fm} {bs : List Br} {v : AV} (k : BRs lo h bs v) : lenAV Try.prog 23 v = some (.int .i64 bs.length) := by
  rcases k with ⟨rfl, e⟩ | ⟨o, cap, rfl, _, _⟩
  · have : bs = [] := by simpa using e
    subst this; simp [lenAV]
  · simp [lenAV]
theorem BRs.nm {lo : Nat} {h : Hp Fm} {bs : List Br} {v : AV} (k : BRs lo h bs v) (o : Nat) : v ≠ .mp o := by
  rcases k with ⟨rfl, _⟩ | ⟨_, _, rfl, _⟩ <;> simp
theorem BRs.at_ {lo : Nat} {h : Hp Fm} {bs : List Br} {v : AV} (k : BRs lo h bs v) {i : Nat} (hi : i < bs.length) :
    ∃ o cs, indexAddrAV Try.prog 23 v (.int .i64 (i : Int)) = some (.ptr o (i * 4)) ∧ Mp.get h.obj o = some (.row cs) ∧ o < h.no ∧ lo ≤ o ∧ partAV true 4 cs (i * 4) = some (.agg [.int .i64 bs[i].pa, .int .i64 bs[i].fk, .int .i64 bs[i].fl, .bool bs[i].dr]) ∧
      partAV false 1 cs (i * 4) = some (.int .i64 bs[i].pa) ∧ partAV false 1 cs (i * 4 + 1) = some (.int .i64 bs[i].fk) ∧ partAV false 1 cs (i * 4 + 2) = some (.int .i64 bs[i].fl) ∧ partAV false 1 cs (i * 4 + 3) = some (.bool bs[i].dr) := by
  rcases k with ⟨rfl, e⟩ | ⟨o, cap, rfl, hlo, kk⟩
  · have : bs = [] := by simpa using e
    subst this; simp at hi
  · obtain ⟨cs, g1, g2, g3, _⟩ := kk.at_ (fitB _) (i := i) (by rw [List.length_map]; exact hi)
    simp only [List.getElem_map, encB] at g2
    have g4 : (cs.drop (i * 4)).take 4 = [.int .i64 bs[i].pa, .int .i64 bs[i].fk, .int .i64 bs[i].fl, .bool bs[i].dr] := by
      unfold partAV at g2
      rw [if_pos rfl, if_pos g3] at g2
      injection g2 with g2
      injection g2
    have g5 : ∀ j, j < 4 → partAV false 1 cs (i * 4 + j) = [AV.int .i64 bs[i].pa, .int .i64 bs[i].fk, .int .i64 bs[i].fl, .bool bs[i].dr][j]? := fun j hj => by
      rw [← g4, List.getElem?_take_of_lt hj, List.getElem?_drop]; rfl
    refine ⟨o, cs, ?_, g1, kk.on, hlo, g2, g5 0 (by omega), g5 1 (by omega), g5 2 (by omega), g5 3 (by omega)⟩
    rw [index_rs Try.underlying23 z42 (by omega) (by rw [List.length_map]; omega), Int.toNat_natCast]

def bOk (i : Nat) (b : Br) : Prop := ((i = 0 ∧ b.pa = -1 ∧ b.fk = 0) ∨ (0 < i ∧ 0 ≤ b.pa ∧ b.pa < i)) ∧ (0 ≤ b.fk ∧ b.fk ≤ 10000) ∧ 0 ≤ b.fl ∧ b.fl ≤ 10000
structure BOk (bs : List Br) : Prop where
  ok : ∀ (i : Nat) (hi : i < bs.length), bOk i bs[i]
  ge : 1 ≤ bs.length
  le : bs.length ≤ 16

theorem epoch_ans (n : Int) (h1 : 0 ≤ n) (h2 : n ≤ 10000) (h0 : Hp Fm) : A Try.prog TT (.func 39) [.int .i64 n] h0 (fun r h' => r = .bool true ∧ h' = h0) := by
  apply A_go Try.func39 rfl (by rfl); (case hn => (simp [Try.ntmps39]; rfl))
  repeat(first|with_reducible first|refine vmR ?_|refine vmV rfl ?_|refine vmW rfl ?_|refine vmL ?_|refine blockW_y (by decide) ?_|((with_reducible first|apply vmO|apply vmT|apply vmC);case a=>simp [h1, h2];with_reducible first|exact .v|exact .c|exact .t|exact .f))
  (first | apply endW_r | apply endW_n); (case h1 => (simp [Try.results39]; first | done | rfl))
  exact ⟨rfl, rfl⟩

set_option maxHeartbeats 1000000 in
theorem tmay_ans (lo : Nat) (bs : List Br) (v : AV) (ok : BOk bs) (h0 : Hp Fm) (k0 : BRs lo h0 bs v) :
    A Try.prog TT (.func 20) [v] h0 (fun r h' => r = .bool true ∧ HE h0 h') := by
  have l1 := k0.len
  have vc := k0.cells
  have vi := k0.isCell
  have vn := k0.nm
  have g1 : (1 : Int) ≤ bs.length := by have := ok.ge; omega
  have g2 : (bs.length : Int) ≤ 16 := by have := ok.le; omega
  have ble := ok.le
  apply A_go Try.func20 rfl (by rfl); (case hn => (simp [Try.ntmps20]; rfl))
  repeat(first|with_reducible first|refine vmR ?_|refine vmV rfl ?_|refine vmW rfl ?_|refine vmL ?_|refine blockW_y (by decide) ?_|((with_reducible first|apply vmO|apply vmT|apply vmC);case a=>simp [vc, vi, l1, vn];with_reducible first|exact .v|exact .c|exact .t|exact .f))
  refine W_loop (fun m s => ∃ (t : Fm AV) (h : Hp Fm) (i : Nat), s = ⟨t, 65, h, none⟩ ∧ m = bs.length - i ∧ i ≤ bs.length ∧ tget t 0 = v ∧ tget t 7 = v ∧ tget t 8 = .int .i64 bs.length ∧ tget t 9 = .int .i64 i ∧ HE h0 h) bs.length
    ⟨_, _, 0, rfl, rfl, by omega, by simp, by simp, by simp, by simp, HE.refl _⟩ ?_
  rintro m s ⟨t, h, i, rfl, rfl, hi, t0, t7, t8, t9, e1⟩
  by_cases q : i < bs.length
  case neg =>
    have q' : ¬ ((i : Int) < bs.length) := by omega
    repeat(first|with_reducible first|refine vmR ?_|refine vmV rfl ?_|refine vmW rfl ?_|refine vmL ?_|refine blockW_y (by decide) ?_|((with_reducible first|apply vmO|apply vmT|apply vmC);case a=>simp [t0, t7, t8, t9, q, q', vc, vi, l1, vn, g1, g2];with_reducible first|exact .v|exact .c|exact .t|exact .f))
    (first | apply endW_r | apply endW_n); (case h1 => (simp [Try.results20]; first | done | rfl))
    exact ⟨rfl, e1⟩
  have q' : ((i : Int) < bs.length) := by omega
  obtain ⟨o, cs, x1, x2, x3, _, x4, _⟩ := BRs.at_ (k0.he e1) q
  obtain ⟨b, hb⟩ : ∃ b, b = bs[i] := ⟨_, rfl⟩
  obtain ⟨ob1, ⟨ob2, ob3⟩, ob4, ob5⟩ := ok.ok i q
  rw [← hb] at x4 ob1 ob2 ob3 ob4 ob5
  obtain ⟨ip, hip⟩ : ∃ ip, ip = i + 1 := ⟨_, rfl⟩
  have wi : IntKind.i64.wrap ((i : Int) + 1) = (ip : Int) := by rw [wrap64 (by omega) (by omega)]; omega
  have nx := Nat.ne_of_gt x3
  rcases ob1 with ⟨i0, p1, p2⟩ | ⟨i0, p1, p2⟩
  · subst i0
    rw [show (0:Nat)*4 = 0 from rfl] at x1 x4
    rw [show ((0:Nat):Int) = 0 from rfl] at x1
    repeat(first|with_reducible first|refine vmR ?_|refine vmV rfl ?_|refine vmW rfl ?_|refine vmL ?_|refine blockW_y (by decide) ?_|((with_reducible first|apply vmO|apply vmT|apply vmC);case a=>simp [t0, t7, t8, t9, q, q', vc, vi, x1, x2, x4, p1, p2];with_reducible first|exact .v|exact .c|exact .t|exact .f))
    refine A.mono (epoch_ans _ ob4 ob5 _) ?_
    rintro _ _ ⟨rfl, rfl⟩
    refine ⟨_, by simp; first | done | rfl, ?_⟩
    repeat(first|with_reducible first|refine vmR ?_|refine vmV rfl ?_|refine vmW rfl ?_|refine vmL ?_|refine blockW_y (by decide) ?_|((with_reducible first|apply vmO|apply vmT|apply vmC);case a=>simp [t0, t7, t8, t9, wi];with_reducible first|exact .v|exact .c|exact .t|exact .f))
    exact ⟨bs.length - ip, by omega, _, _, ip, rfl, rfl, by omega, by simp [t0], by simp [t7], by simp [t8], by simp [hip], (e1.new _).set e1.no _⟩
  · have z0 : ¬ i = 0 := by omega
    have z1 : ¬ ((i : Int) = 0) := by omega
    have z2 : (0 : Int) < i := by omega
    repeat(first|with_reducible first|refine vmR ?_|refine vmV rfl ?_|refine vmW rfl ?_|refine vmL ?_|refine blockW_y (by decide) ?_|((with_reducible first|apply vmO|apply vmT|apply vmC);case a=>simp [t0, t7, t8, t9, q, q', vc, vi, x1, x2, x4, z0, z1, z2, i0, p1, p2];with_reducible first|exact .v|exact .c|exact .t|exact .f))
    refine A.mono (epoch_ans _ ob2 ob3 _) ?_
    rintro _ _ ⟨rfl, rfl⟩
    refine ⟨_, by simp; first | done | rfl, ?_⟩
    repeat(first|with_reducible first|refine vmR ?_|refine vmV rfl ?_|refine vmW rfl ?_|refine vmL ?_|refine blockW_y (by decide) ?_|((with_reducible first|apply vmO|apply vmT|apply vmC);case a=>simp;with_reducible first|exact .v|exact .c|exact .t|exact .f))
    refine A.mono (epoch_ans _ ob4 ob5 _) ?_
    rintro _ _ ⟨rfl, rfl⟩
    refine ⟨_, by simp; first | done | rfl, ?_⟩
    repeat(first|with_reducible first|refine vmR ?_|refine vmV rfl ?_|refine vmW rfl ?_|refine vmL ?_|refine blockW_y (by decide) ?_|((with_reducible first|apply vmO|apply vmT|apply vmC);case a=>simp [t0, t7, t8, t9, wi];with_reducible first|exact .v|exact .c|exact .t|exact .f))
    exact ⟨bs.length - ip, by omega, _, _, ip, rfl, rfl, by omega, by simp [t0], by simp [t7], by simp [t8], by simp [hip], (e1.new _).set e1.no _⟩
end Go.Vn

set_option maxRecDepth 20000
namespace Go.Vn
open Go.Proofs

def brAt (bs : List Br) (b : Nat) : Br := bs.getD b default
def minE (f e : Int) : Int := if f < e then f else e
def pathP (bs : List Br) : Nat → Nat → Int → List Lg
  | 0, _, _ => []
  | k + 1, b, e => ⟨b, e⟩ :: (if 0 ≤ (brAt bs b).pa then pathP bs k (brAt bs b).pa.toNat (minE (brAt bs b).fk e) else [])
theorem pathP_len (bs : List Br) : ∀ (k b : Nat) (e : Int), (pathP bs k b e).length ≤ k
  | 0, _, _ => by simp [pathP]
  | k + 1, b, e => by
    simp only [pathP, List.length_cons]
    split
    · have := pathP_len bs k (brAt bs b).pa.toNat (minE (brAt bs b).fk e); omega
    · simp
theorem pathP_fuel {bs : List Br} (ok : BOk bs) : ∀ (b : Nat) (k k' : Nat) (e : Int), b < bs.length → b < k → b < k' → pathP bs k b e = pathP bs k' b e := by
  intro b
  induction b using Nat.strongRecOn with
  | _ b ih =>
    intro k k' e hb h1 h2
    obtain ⟨k, rfl⟩ : ∃ n, k = n + 1 := ⟨k - 1, by omega⟩
    obtain ⟨k', rfl⟩ : ∃ n, k' = n + 1 := ⟨k' - 1, by omega⟩
    simp only [pathP]
    split
    · rename_i hp
      have o1 := (ok.ok b hb).1
      have e1 : brAt bs b = bs[b] := by simp [brAt, hb]
      rw [e1] at hp ⊢
      have : bs[b].pa.toNat < b := by omega
      rw [ih _ this k k' _ (by omega) (by omega) (by omega)]
    · rfl
def pathB (bs : List Br) (b : Nat) (e : Int) : List Lg := pathP bs (b + 1) b e

theorem etLg : ElT Try.prog 44 48 2 16 true (.agg [.int .i64 0, .int .i64 0]) := ⟨Try.underlying44, z48, b48, a48, t48, rfl, rfl, (fun h => by cases h), by omega, by omega⟩

set_option maxHeartbeats 4000000 in
theorem tpath_loop (lo : Nat) (bs : List Br) (v : AV) (ok : BOk bs) (h0 : Hp Fm) (k0 : BRs lo h0 bs v) (hp : h0.pol 48 = false) (bd : Code) (hbd : ∃ c, Try.f16.body = some (.seq c (.scope bd))) (rest : Code) (hrest : findLabel bd 0 = some rest) :
    ∀ (n b : Nat) (e : Int) (acc : List Lg) (t : Fm AV) (h : Hp Fm) (a : AV), b < n → b < bs.length → acc.length + n ≤ 100 → HE h0 h → AC h0 h 2 (acc.map encL) a → tget t 0 = v → tget t 1 = .int .i64 b → tget t 2 = .int .i64 e → tget t 7 = a →
      W Try.prog TT rest ⟨t, 42, h, none⟩ (jumpW Try.prog TT bd <| endW Try.prog Try.f16 fun r h' => AC h0 h' 2 ((acc ++ pathP bs n b e).map encL) r ∧ HE h0 h') := by
  obtain ⟨c, hb2⟩ := hbd
  have hb' : some (Code.seq c (.scope bd)) = Try.f16.body := hb2.symm
  injection hb' with hb'
  injection hb' with _ hb4
  injection hb4 with hb3
  subst hb3
  injection hrest with hrest
  subst hrest
  have vc := k0.cells
  have vi := k0.isCell
  intro n
  induction n with
  | zero => intro b e acc t h a hn; omega
  | succ n ih =>
    intro b e acc t h a hn hb hacl he hac t0 t1 t2 t7
    clear hb2
    have uc := hac.sv.cells
    have ui := hac.sv.isCell
    have hph : h.pol 48 = false := by rw [he.pol]; exact hp
    repeat(first|with_reducible first|refine vmR ?_|refine vmV rfl ?_|refine vmW rfl ?_|refine blockW_y (by decide) ?_|((with_reducible first|apply vmO|apply vmT|apply vmC);case a=>simp [t0, t1, t2, t7, vc, vi, uc, ui, newSeq, newSl, hph];with_reducible first|exact .v|exact .c|exact .t|exact .f))
    repeat(first|with_reducible first|refine vmR ?_|refine vmV rfl ?_|refine vmW rfl ?_|refine vmL ?_|refine blockW_y (by decide) ?_|((with_reducible first|apply vmO|apply vmT|apply vmC);case a=>simp [t0, t1, t2, t7, vc, vi, uc, ui, newSeq, newSl, hph];with_reducible first|exact .v|exact .c|exact .t|exact .f))
    with_reducible apply WO_app_i; (case hw => (simp [t0, t1, t2, t7, vc, vi, uc, ui, newSeq, newSl, hph]; done)); (case ho => rfl); (case hb => rfl); (case ha => (simp [t0, t1, t2, t7, vc, vi, uc, ui, newSeq, newSl, hph]; first | done | exact ⟨rfl, rfl⟩ | rfl)); (case h1 => (simp; first | done | rfl)); (case h2 => (simp; first | done | rfl))
    refine app_then (AC.app (h0 := h0) etLg (hac.of ((HE.refl h).newSl 1)) (he.newSl 1) hp (by simp; omega)) ?_
    rintro x4 h4 ⟨ac4, he4, hob, hno, _⟩
    have e4 := ac4.sv.cells
    have f4 := ac4.sv.isCell
    obtain ⟨o, cs, x1, x2, x3, _, x5, _⟩ := BRs.at_ (RS.he k0 he4) hb
    obtain ⟨B, hB⟩ : ∃ B, B = bs[b] := ⟨_, rfl⟩
    have hB2 : brAt bs b = B := by simp [brAt, hb, hB]
    obtain ⟨ob1, ob2, ob3⟩ := ok.ok b hb
    rw [← hB] at x5 ob1 ob2 ob3
    have eacc : (acc ++ [(⟨(b : Int), e⟩ : Lg)]).map encL = acc.map encL ++ [.agg [.int .i64 b, .int .i64 e]] := by simp
    rw [← eacc] at ac4
    refine ⟨_, by simp; first | done | rfl, ?_⟩
    by_cases q : 0 ≤ B.pa
    · obtain ⟨p, hpp⟩ : ∃ p : Nat, B.pa = (p : Int) := ⟨B.pa.toNat, by omega⟩
      rw [hpp] at x5
      have qp : (0 : Int) ≤ (p : Int) := by omega
      repeat(first|with_reducible first|refine vmR ?_|refine vmV rfl ?_|refine vmW rfl ?_|refine vmL ?_|refine blockW_y (by decide) ?_|((with_reducible first|apply vmO|apply vmT|apply vmC);case a=>simp [t0, t1, t2, e4, f4, x1, x2, x5, qp];with_reducible first|exact .v|exact .c|exact .t|exact .f))
      (with_reducible refine W_draw_id (pln := true) [0, 1, 2, 3, 4, 5, 6, 7] [(1, (1, [])), (4, (4, []))] (by kernel_rfl) rfl ?_)
      repeat(first|with_reducible first|refine vmR ?_|refine vmV rfl ?_|refine vmW rfl ?_|refine vmL ?_|refine blockW_y (by decide) ?_|((with_reducible first|apply vmO|apply vmT|apply vmC);case a=>simp [t0, t1, t2];with_reducible first|exact .v|exact .c|exact .t|exact .f))
      refine ⟨by simp [readSame, beqAV_self, t2]; done, _, by simp; first | done | rfl, ?_⟩
      repeat(first|with_reducible first|refine vmR ?_|refine vmV rfl ?_|refine vmW rfl ?_|refine vmL ?_|refine blockW_y (by decide) ?_|((with_reducible first|apply vmO|apply vmT|apply vmC);case a=>simp;with_reducible first|exact .v|exact .c|exact .t|exact .f))
      refine jumpW_g rfl (WS_run ?_)
      have fin : acc ++ pathP bs (n + 1) b e = (acc ++ [⟨(b : Int), e⟩]) ++ pathP bs n p (minE B.fk e) := by
        simp only [pathP, hB2, if_pos q, hpp, if_pos qp, Int.toNat_natCast, List.append_assoc, List.cons_append, List.nil_append]
      rw [fin]
      have he5 : HE h4 { h4 with obj := Mp.set (Mp.set h4.obj h4.no (.row [.int .i64 0, .int .i64 0, .int .i64 0, .bool false])) h4.no (.row [.int .i64 p, .int .i64 B.fk, .int .i64 B.fl, .bool B.dr]), no := h4.no + 1 } := ((HE.refl h4).new _).set (Nat.le_refl _) _
      refine ih p (minE B.fk e) (acc ++ [⟨(b : Int), e⟩]) _ _ x4 (by omega) (by omega) (by simp; omega) (he4.trans he5).drew (ac4.of he5.drew) ?_ ?_ ?_ ?_
      all_goals simp [t0, minE]
    · repeat(first|with_reducible first|refine vmR ?_|refine vmV rfl ?_|refine vmW rfl ?_|refine vmL ?_|refine blockW_y (by decide) ?_|((with_reducible first|apply vmO|apply vmT|apply vmC);case a=>simp [t0, t1, t2, e4, f4, x1, x2, x5, q];with_reducible first|exact .v|exact .c|exact .t|exact .f))
      (first | apply endW_r | apply endW_n); (case h1 => (simp [Try.results16]; first | done | rfl))
      have fin : acc ++ pathP bs (n + 1) b e = acc ++ [⟨(b : Int), e⟩] := by
        simp only [pathP, hB2, if_neg q]
      rw [fin]
      have he5 : HE h4 { h4 with obj := Mp.set (Mp.set h4.obj h4.no (.row [.int .i64 0, .int .i64 0, .int .i64 0, .bool false])) h4.no (.row [.int .i64 B.pa, .int .i64 B.fk, .int .i64 B.fl, .bool B.dr]), no := h4.no + 1 } := ((HE.refl h4).new _).set (Nat.le_refl _) _
      exact ⟨ac4.of he5, he4.trans he5⟩

theorem WS.mono {P : Program} {T : Tab} {b c : Code} {st : St Fm} {Q R : Ex → St Fm → Prop} (h : WS P T b c st R) (hq : ∀ e s, R e s → Q e s) : WS P T b c st Q := let ⟨e, s, h1, h2⟩ := h; ⟨e, s, h1, hq e s h2⟩
theorem jumpW_mono {P : Program} {T : Tab} {b : Code} {Q R : Ex → St Fm → Prop} (hq : ∀ e s, R e s → Q e s) : ∀ e s, jumpW P T b R e s → jumpW P T b Q e s := by
  intro e s h
  cases e with
  | goto l =>
    rw [jumpW_goto] at h ⊢
    cases hf : findLabel b l with
    | some rest => rw [hf] at h; exact WS.mono h hq
    | none => rw [hf] at h; exact hq _ _ h
  | _ => exact hq _ _ h
theorem endW_mono {P : Program} {fn : Func} {Q R : AV → Hp Fm → Prop} (hq : ∀ r h, R r h → Q r h) {e : Ex} {s : St Fm} : endW P fn R e s → endW P fn Q e s := by
  intro h
  cases e with
  | normal => obtain ⟨r, a, b⟩ := h; exact ⟨r, a, hq _ _ b⟩
  | ret => obtain ⟨r, a, b⟩ := h; exact ⟨r, a, hq _ _ b⟩
  | exit i => exact h.elim
  | goto l => exact h.elim
theorem AC.base {a b h : Hp Fm} {sz : Nat} {acc : List AV} {v : AV} (e : HE a b) (k : AC b h sz acc v) : AC a h sz acc v := by
  rcases k with k | ⟨g, off, cap, x1, x2, x3, x4⟩
  · exact .inl k
  · exact .inr ⟨g, off, cap, x1, x2, x3, Nat.le_trans e.ng x4⟩

theorem tpath_ans (lo : Nat) (bs : List Br) (v : AV) (ok : BOk bs) (b : Nat) (hb : b < bs.length) (e : Int) (h0 : Hp Fm) (k0 : BRs lo h0 bs v) (hp : h0.pol 48 = false) :
    A Try.prog TT (.func 16) [v, .int .i64 b, .int .i64 e] h0 (fun r h' => AC h0 h' 2 ((pathB bs b e).map encL) r ∧ HE h0 h') := by
  have vc := k0.cells
  have vi := k0.isCell
  have vn := k0.nm
  have l1 := k0.len
  have ble := ok.le
  have q1 : ¬ ((b : Int) < 0) := by omega
  have q2 : ¬ ((bs.length : Int) ≤ b) := by omega
  have q3 : ¬ (bs.length ≤ b) := by omega
  apply A_go Try.func16 rfl (by rfl); (case hn => (simp [Try.ntmps16]; rfl))
  repeat(first|with_reducible first|refine vmR ?_|refine vmV rfl ?_|refine vmW rfl ?_|refine vmL ?_|refine blockW_y (by decide) ?_|((with_reducible first|apply vmO|apply vmT|apply vmC);case a=>simp [vc, vi];with_reducible first|exact .v|exact .c|exact .t|exact .f))
  refine A.mono (tmay_ans lo bs v ok h0 k0) ?_
  rintro _ h1 ⟨rfl, e1⟩
  refine ⟨_, by simp; first | done | rfl, ?_⟩
  repeat(first|with_reducible first|refine vmR ?_|refine vmV rfl ?_|refine vmW rfl ?_|refine blockW_y (by decide) ?_|((with_reducible first|apply vmO|apply vmT|apply vmC);case a=>simp [vc, vi, vn, l1, q1, q2, q3];with_reducible first|exact .v|exact .c|exact .t|exact .f))
  refine W_label_i (thenW_n ?_)
  refine W_skip_seq ?_
  refine W.mono (tpath_loop lo bs v ok h1 (RS.he k0 e1) (by rw [e1.pol]; exact hp) _ ⟨_, rfl⟩ _ rfl (b + 1) b e [] _ _ .nils (by omega) hb (by simp; omega) (HE.refl _) (.inl ⟨rfl, rfl⟩) ?_ ?_ ?_ ?_) (jumpW_mono fun ee s => endW_mono fun r h' ⟨z1, z2⟩ => ⟨AC.base e1 z1, e1.trans z2⟩)
  all_goals simp
end Go.Vn

set_option maxRecDepth 20000
namespace Go.Vn
open Go.Proofs

set_option maxHeartbeats 1000000 in
theorem rmay_ans (lo : Nat) (bs : List Br) (v : AV) (ok : BOk bs) (h0 : Hp Fm) (k0 : BRs lo h0 bs v) :
    A Try.prog TT (.func 26) [v] h0 (fun r h' => r = .bool true ∧ HE h0 h') := by
  have l1 := k0.len
  have vc := k0.cells
  have vi := k0.isCell
  have vn := k0.nm
  have g1 : ¬ (bs.length : Int) < 1 := by have := ok.ge; omega
  have g2 : ¬ (16 : Int) < bs.length := by have := ok.le; omega
  have g3 : ¬ bs.length < 1 := by have := ok.ge; omega
  have g4 : ¬ 16 < bs.length := by have := ok.le; omega
  have g5 : ¬ bs = [] := fun z => by have := ok.ge; rw [z] at this; simp at this
  have ble := ok.le
  apply A_go Try.func26 rfl (by rfl); (case hn => (simp [Try.ntmps26]; rfl))
  repeat(first|with_reducible first|refine vmR ?_|refine vmV rfl ?_|refine vmW rfl ?_|refine vmL ?_|refine blockW_y (by decide) ?_|((with_reducible first|apply vmO|apply vmT|apply vmC);case a=>simp [vc, vi, l1, vn, g1, g2, g3, g4, g5];with_reducible first|exact .v|exact .c|exact .t|exact .f))
  refine W_loop (fun m s => ∃ (t : Fm AV) (h : Hp Fm) (i : Nat), s = ⟨t, 66, h, none⟩ ∧ m = bs.length - i ∧ i ≤ bs.length ∧ tget t 0 = v ∧ tget t 3 = .int .i64 i ∧ HE h0 h) bs.length
    ⟨_, _, 0, rfl, rfl, by omega, by simp, by simp, HE.refl _⟩ ?_
  rintro m s ⟨t, h, i, rfl, rfl, hi, t0, t3, e1⟩
  by_cases q : i < bs.length
  case neg =>
    have q' : ¬ ((i : Int) < bs.length) := by omega
    repeat(first|with_reducible first|refine vmR ?_|refine vmV rfl ?_|refine vmW rfl ?_|refine vmL ?_|refine blockW_y (by decide) ?_|((with_reducible first|apply vmO|apply vmT|apply vmC);case a=>simp [t0, t3, q, q', vc, vi, l1, vn];with_reducible first|exact .v|exact .c|exact .t|exact .f))
    (first | apply endW_r | apply endW_n); (case h1 => (simp [Try.results26]; first | done | rfl))
    exact ⟨rfl, e1⟩
  have q' : ((i : Int) < bs.length) := by omega
  obtain ⟨o, cs, x1, x2, x3, _, x4, _⟩ := BRs.at_ (RS.he k0 e1) q
  obtain ⟨b, hb⟩ : ∃ b, b = bs[i] := ⟨_, rfl⟩
  obtain ⟨ob1, ⟨ob2, ob3⟩, ob4, ob5⟩ := ok.ok i q
  rw [← hb] at x4 ob1 ob2 ob3 ob4 ob5
  obtain ⟨ip, hip⟩ : ∃ ip, ip = i + 1 := ⟨_, rfl⟩
  have wi : IntKind.i64.wrap ((i : Int) + 1) = (ip : Int) := by rw [wrap64 (by omega) (by omega)]; omega
  have c1 : ¬ b.fl < 0 := by omega
  have c2 : ¬ 10000 < b.fl := by omega
  have c3 : ¬ b.fk < 0 := by omega
  have c4 : ¬ 10000 < b.fk := by omega
  rcases ob1 with ⟨i0, p1, p2⟩ | ⟨i0, p1, p2⟩
  · subst i0
    rw [show (0:Nat)*4 = 0 from rfl] at x1 x4
    rw [show ((0:Nat):Int) = 0 from rfl] at x1
    repeat(first|with_reducible first|refine vmR ?_|refine vmV rfl ?_|refine vmW rfl ?_|refine vmL ?_|refine blockW_y (by decide) ?_|((with_reducible first|apply vmO|apply vmT|apply vmC);case a=>simp [t0, t3, q, q', vc, vi, l1, vn, x1, x2, x4];with_reducible first|exact .v|exact .c|exact .t|exact .f))
    repeat(first|with_reducible first|refine vmR ?_|refine vmV rfl ?_|refine vmW rfl ?_|refine vmL ?_|refine blockW_y (by decide) ?_|((with_reducible first|apply vmO|apply vmT|apply vmC);case a=>simp [t0, t3, c1, c2, c3, c4];with_reducible first|exact .v|exact .c|exact .t|exact .f))
    repeat(first|with_reducible first|refine vmR ?_|refine vmV rfl ?_|refine vmW rfl ?_|refine vmL ?_|refine blockW_y (by decide) ?_|((with_reducible first|apply vmO|apply vmT|apply vmC);case a=>simp [t0, t3, p1, p2, wi];with_reducible first|exact .v|exact .c|exact .t|exact .f))
    exact ⟨bs.length - ip, by omega, _, _, ip, rfl, rfl, by omega, by simp [t0], by simp [hip], (e1.new _).set e1.no _⟩
  · have z0 : ¬ i = 0 := by omega
    have z1 : ¬ ((i : Int) = 0) := by omega
    have z2 : (0 : Int) < i := by omega
    have z3 : ¬ b.pa < 0 := by omega
    have z4 : ¬ (i : Int) ≤ b.pa := by omega
    repeat(first|with_reducible first|refine vmR ?_|refine vmV rfl ?_|refine vmW rfl ?_|refine vmL ?_|refine blockW_y (by decide) ?_|((with_reducible first|apply vmO|apply vmT|apply vmC);case a=>simp [t0, t3, q, q', vc, vi, l1, vn, x1, x2, x4];with_reducible first|exact .v|exact .c|exact .t|exact .f))
    repeat(first|with_reducible first|refine vmR ?_|refine vmV rfl ?_|refine vmW rfl ?_|refine vmL ?_|refine blockW_y (by decide) ?_|((with_reducible first|apply vmO|apply vmT|apply vmC);case a=>simp [t0, t3, c1, c2, c3, c4];with_reducible first|exact .v|exact .c|exact .t|exact .f))
    repeat(first|with_reducible first|refine vmR ?_|refine vmV rfl ?_|refine vmW rfl ?_|refine vmL ?_|refine blockW_y (by decide) ?_|((with_reducible first|apply vmO|apply vmT|apply vmC);case a=>simp [t0, t3, z0, z1, z2, z3, z4, i0, wi];with_reducible first|exact .v|exact .c|exact .t|exact .f))
    exact ⟨bs.length - ip, by omega, _, _, ip, rfl, rfl, by omega, by simp [t0], by simp [hip], (e1.new _).set e1.no _⟩

set_option maxHeartbeats 1000000 in
theorem rpath_ans (lo : Nat) (bs : List Br) (v : AV) (ok : BOk bs) : ∀ (b : Nat) (hb : b < bs.length) (e : Int) (h0 : Hp Fm) (k0 : BRs lo h0 bs v) (hp : h0.pol 48 = false),
    A Try.prog TT (.func 11) [v, .int .i64 b, .int .i64 e] h0 (fun r h' => SL 2 ((pathB bs b e).map encL) r ∧ HE h0 h') := by
  intro b
  induction b using Nat.strongRecOn with
  | _ b ih =>
  intro hb e h0 k0 hp
  have vc := k0.cells
  have vi := k0.isCell
  have vn := k0.nm
  have l1 := k0.len
  have ble := ok.le
  have q1 : ¬ ((b : Int) < 0) := by omega
  have q2 : ¬ ((bs.length : Int) ≤ b) := by omega
  have q3 : ¬ (bs.length ≤ b) := by omega
  apply A_go Try.func11 rfl (by rfl); (case hn => (simp [Try.ntmps11]; rfl))
  repeat(first|with_reducible first|refine vmR ?_|refine vmV rfl ?_|refine vmW rfl ?_|refine vmL ?_|refine blockW_y (by decide) ?_|((with_reducible first|apply vmO|apply vmT|apply vmC);case a=>simp [vc, vi];with_reducible first|exact .v|exact .c|exact .t|exact .f))
  refine A.mono (rmay_ans lo bs v ok h0 k0) ?_
  rintro _ h1 ⟨rfl, e1⟩
  have p1 : h1.pol 48 = false := by rw [e1.pol]; exact hp
  have k1 := RS.he k0 e1
  obtain ⟨o, cs, x1, x2, x3, _, _, x5, x6, _⟩ := BRs.at_ k1 hb
  obtain ⟨B, hB⟩ : ∃ B, B = bs[b] := ⟨_, rfl⟩
  have hB2 : brAt bs b = B := by simp [brAt, hb, hB]
  obtain ⟨ob1, ob2, ob3⟩ := ok.ok b hb
  rw [← hB] at x5 x6 ob1 ob2 ob3
  refine ⟨_, by simp; first | done | rfl, ?_⟩
  by_cases q : B.pa < 0
  · repeat(first|with_reducible first|refine vmR ?_|refine vmV rfl ?_|refine vmW rfl ?_|refine vmL ?_|refine blockW_y (by decide) ?_|((with_reducible first|apply vmO|apply vmT|apply vmC);case a=>simp [vc, vi, vn, l1, q1, q2, q3, newSeq, newSl, p1, x1, x2, x5, q];with_reducible first|exact .v|exact .c|exact .t|exact .f))
    (first | apply endW_r | apply endW_n); (case h1 => (simp [Try.results11]; first | done | rfl))
    have : ¬ 0 ≤ B.pa := by omega
    have hz : (pathB bs b e).map encL = [.agg [.int .i64 b, .int .i64 e]] := by
      simp only [pathB, pathP, hB2, if_neg this, List.map_cons, List.map_nil, encL]
    rw [hz]
    exact ⟨.inr ⟨_, _, _, rfl⟩, e1.newSl _⟩
  · obtain ⟨p, hpp⟩ : ∃ p : Nat, B.pa = (p : Int) := ⟨B.pa.toNat, by omega⟩
    rw [hpp] at x5 q
    have hpb : p < b := by omega
    have fin : pathB bs b e = ⟨b, e⟩ :: pathB bs p (minE B.fk e) := by
      have : 0 ≤ B.pa := by omega
      unfold pathB
      rw [pathP, hB2, if_pos this, hpp, Int.toNat_natCast, pathP_fuel ok p b (p + 1) _ (by omega) hpb (by omega)]
    have pl := pathP_len bs (p + 1) p (minE B.fk e)
    by_cases qf : B.fk < e
    · have mE : minE B.fk e = B.fk := by simp [minE, qf]
      repeat(first|with_reducible first|refine vmR ?_|refine vmV rfl ?_|refine vmW rfl ?_|refine vmL ?_|refine blockW_y (by decide) ?_|((with_reducible first|apply vmO|apply vmT|apply vmC);case a=>simp [vc, vi, vn, l1, q1, q2, q3, newSeq, newSl, p1, x1, x2, x5, x6, q, qf];with_reducible first|exact .v|exact .c|exact .t|exact .f))
      refine A.mono (ih p hpb (by omega) B.fk _ (RS.he k1 ((HE.refl _).newSl _)) p1) ?_
      rintro r h2 ⟨r1, e2⟩
      have rc := r1.sv.cells
      have ri := r1.sv.isCell
      refine ⟨_, by simp; first | done | rfl, ?_⟩
      with_reducible apply WO_app_i; (case hw => (simp [rc, ri]; done)); (case ho => rfl); (case hb => rfl); (case ha => (simp [rc, ri]; first | done | exact ⟨rfl, rfl⟩ | rfl)); (case h1 => (simp; first | done | rfl)); (case h2 => (simp; first | done | rfl))
      refine app_then (AC.appN etLg (h0 := h1) (acc := [.agg [.int .i64 b, .int .i64 e]]) (.inr ⟨_, _, _, rfl, by rw [e2.len _ (by show h1.ng < h1.ng + 1; omega)]; simp, by have := e2.ng; exact this, Nat.le_refl _⟩) (((HE.refl h1).newSl _).trans e2) p1 (SV.newEls r1.sv) (by rw [← mE]; simp [pathB]; omega)) ?_
      rintro u h3 ⟨a3, e3, _, _, _⟩
      have uc := a3.sv.cells
      have ui := a3.sv.isCell
      refine ⟨_, by simp; first | done | rfl, ?_⟩
      repeat(first|with_reducible first|refine vmR ?_|refine vmV rfl ?_|refine vmW rfl ?_|refine vmL ?_|refine blockW_y (by decide) ?_|((with_reducible first|apply vmO|apply vmT|apply vmC);case a=>simp [uc, ui];with_reducible first|exact .v|exact .c|exact .t|exact .f))
      (first | apply endW_r | apply endW_n); (case h1 => (simp [Try.results11]; first | done | rfl))
      rw [fin, mE]
      refine ⟨?_, e1.trans e3⟩
      rcases a3 with ⟨a, b⟩ | ⟨g, off, cap, a, _⟩
      · simp at b
      · exact .inr ⟨_, _, _, a⟩
    · have mE : minE B.fk e = e := by simp [minE, qf]
      repeat(first|with_reducible first|refine vmR ?_|refine vmV rfl ?_|refine vmW rfl ?_|refine vmL ?_|refine blockW_y (by decide) ?_|((with_reducible first|apply vmO|apply vmT|apply vmC);case a=>simp [vc, vi, vn, l1, q1, q2, q3, newSeq, newSl, p1, x1, x2, x5, x6, q, qf];with_reducible first|exact .v|exact .c|exact .t|exact .f))
      refine A.mono (ih p hpb (by omega) e _ (RS.he k1 ((HE.refl _).newSl _)) p1) ?_
      rintro r h2 ⟨r1, e2⟩
      have rc := r1.sv.cells
      have ri := r1.sv.isCell
      refine ⟨_, by simp; first | done | rfl, ?_⟩
      with_reducible apply WO_app_i; (case hw => (simp [rc, ri]; done)); (case ho => rfl); (case hb => rfl); (case ha => (simp [rc, ri]; first | done | exact ⟨rfl, rfl⟩ | rfl)); (case h1 => (simp; first | done | rfl)); (case h2 => (simp; first | done | rfl))
      refine app_then (AC.appN etLg (h0 := h1) (acc := [.agg [.int .i64 b, .int .i64 e]]) (.inr ⟨_, _, _, rfl, by rw [e2.len _ (by show h1.ng < h1.ng + 1; omega)]; simp, by have := e2.ng; exact this, Nat.le_refl _⟩) (((HE.refl h1).newSl _).trans e2) p1 (SV.newEls r1.sv) (by rw [← mE]; simp [pathB]; omega)) ?_
      rintro u h3 ⟨a3, e3, _, _, _⟩
      have uc := a3.sv.cells
      have ui := a3.sv.isCell
      refine ⟨_, by simp; first | done | rfl, ?_⟩
      repeat(first|with_reducible first|refine vmR ?_|refine vmV rfl ?_|refine vmW rfl ?_|refine vmL ?_|refine blockW_y (by decide) ?_|((with_reducible first|apply vmO|apply vmT|apply vmC);case a=>simp [uc, ui];with_reducible first|exact .v|exact .c|exact .t|exact .f))
      (first | apply endW_r | apply endW_n); (case h1 => (simp [Try.results11]; first | done | rfl))
      rw [fin, mE]
      refine ⟨?_, e1.trans e3⟩
      rcases a3 with ⟨a, b⟩ | ⟨g, off, cap, a, _⟩
      · simp at b
      · exact .inr ⟨_, _, _, a⟩

theorem round_ans (n m : Int) (hn : -9223372036854775808 ≤ n ∧ n ≤ 9223372036854775807) (hm : 0 < m) (h0 : Hp Fm) : A Try.prog TT (.func 33) [.int .i64 n, .int .i64 m] h0 (fun r h' => ∃ k : Int, r = .int .i64 k ∧ 0 ≤ k ∧ k < m ∧ h' = h0) := by
  have mz : ¬ m = 0 := by omega
  by_cases q : n < 0
  · have w1 : IntKind.i64.wrap (n + 1) = n + 1 := wrap64 (by omega) (by omega)
    have w2 : IntKind.i64.wrap (0 - (n + 1)) = 0 - (n + 1) := wrap64 (by omega) (by omega)
    have w3 : IntKind.i64.wrap (-(n + 1)) = -(n + 1) := wrap64 (by omega) (by omega)
    apply A_go Try.func33 rfl (by rfl); (case hn => (simp [Try.ntmps33]; rfl))
    repeat(first|with_reducible first|refine vmR ?_|refine vmV rfl ?_|refine vmW rfl ?_|refine vmL ?_|refine blockW_y (by decide) ?_|((with_reducible first|apply vmO|apply vmT|apply vmC);case a=>simp [q, w1, w2, w3, mz];with_reducible first|exact .v|exact .c|exact .t|exact .f))
    (first | apply endW_r | apply endW_n); (case h1 => (simp [Try.results33]; first | done | rfl))
    refine ⟨_, rfl, ?_, ?_, rfl⟩
    · rw [← Int.neg_tmod]; exact Int.tmod_nonneg _ (by omega)
    · rw [← Int.neg_tmod]; exact Int.tmod_lt_of_pos _ hm
  · apply A_go Try.func33 rfl (by rfl); (case hn => (simp [Try.ntmps33]; rfl))
    repeat(first|with_reducible first|refine vmR ?_|refine vmV rfl ?_|refine vmW rfl ?_|refine vmL ?_|refine blockW_y (by decide) ?_|((with_reducible first|apply vmO|apply vmT|apply vmC);case a=>simp [q, mz];with_reducible first|exact .v|exact .c|exact .t|exact .f))
    (first | apply endW_r | apply endW_n); (case h1 => (simp [Try.results33]; first | done | rfl))
    exact ⟨_, rfl, by first | exact Int.tmod_nonneg _ (by omega) | exact Int.tmod_nonneg m (by omega), by first | exact Int.tmod_lt_of_pos _ hm | (have := Int.tmod_lt_of_pos m (b := n) (by omega); omega), rfl⟩
end Go.Vn

set_option maxRecDepth 20000
namespace Go.Vn
open Go.Proofs

theorem etBr : ElT Try.prog 23 42 4 32 true (.agg [.int .i64 0, .int .i64 0, .int .i64 0, .bool false]) := ⟨Try.underlying23, z42, b42, a42, t42, rfl, rfl, (fun h => by cases h), by omega, by omega⟩
structure Po where
  nm : List UInt8
  br : Int
  ep : Int
deriving Inhabited
@[simp] def encPo (p : Po) : AV := .agg [.str p.nm, .int .i64 p.br, .int .i64 p.ep]
theorem etPo : ElT Try.prog 24 29 3 32 true (.agg [.str [], .int .i64 0, .int .i64 0]) := ⟨Try.underlying24, z29, b29, a29, t29, rfl, rfl, (fun h => by cases h), by omega, by omega⟩

def i64R (n : Int) : Prop := -9223372036854775808 ≤ n ∧ n ≤ 9223372036854775807
def BrR (b : Br) : Prop := i64R b.pa ∧ i64R b.fk ∧ i64R b.fl

theorem BOk.snoc {bs : List Br} (ok : BOk bs) {b : Br} (hb : bOk bs.length b) (hl : bs.length < 16) : BOk (bs ++ [b]) := by
  refine ⟨fun i hi => ?_, by simp, by simp; omega⟩
  rw [List.getElem_append]
  split
  · exact ok.ok i _
  · rename_i h
    have e : i = bs.length := by simp at hi; omega
    subst e
    simpa using hb

set_option maxHeartbeats 2000000 in
theorem good11_ans (l : List Br) (v : AV) (hv : SV 4 (l.map encB) v) (hr : ∀ b ∈ l, BrR b) (h0 : Hp Fm) (hp : h0.pol 42 = true) :
    A Try.prog TT (.func 14) [v] h0 (fun r h' => ∃ bs, BOk bs ∧ bs.length ≤ 8 ∧ (∀ b ∈ bs, b.fl ≤ 7) ∧ BRs h0.no h' bs r ∧ HE h0 h') := by
  have vc := hv.cells
  have vi := hv.isCell
  have vn := hv.nm
  have l1 := hv.len Try.underlying23
  rw [List.length_map] at l1
  obtain ⟨b0, hb0⟩ : ∃ b0 : Br, b0 = ⟨-1, 0, 0, false⟩ := ⟨_, rfl⟩
  have ok0 : BOk [b0] := by
    refine ⟨fun i hi => ?_, by simp, by simp⟩
    have : i = 0 := by simp at hi; omega
    subst this
    rw [hb0]
    exact ⟨.inl ⟨rfl, rfl, rfl⟩, ⟨by simp, by simp⟩, by simp, by simp⟩
  apply A_go Try.func14 rfl (by rfl); (case hn => (simp [Try.ntmps14]; rfl))
  repeat(first|with_reducible first|refine vmR ?_|refine vmV rfl ?_|refine vmW rfl ?_|refine vmL ?_|refine blockW_y (by decide) ?_|((with_reducible first|apply vmO|apply vmT|apply vmC);case a=>simp [newSeq, newRs, hp];with_reducible first|exact .v|exact .c|exact .t|exact .f))
  have rs0 := RS.fresh (lo := h0.no) etBr (h := h0) (Nat.le_refl _) 1 [encB b0] (by simp)
  rw [hb0] at rs0
  obtain ⟨ha, hha⟩ : ∃ ha : Hp Fm, ha = { h0 with obj := Mp.set h0.obj h0.no (.row [.int .i64 (-1), .int .i64 0, .int .i64 0, .bool false]), no := h0.no + 1 } := ⟨_, rfl⟩
  have e0 : HE h0 ha := by rw [hha]; exact (HE.refl h0).new _
  have rs1 : BRs h0.no ha [b0] (.rs h0.no 0 4 true 1 1) := by rw [hha, hb0]; exact rs0
  rw [← hha]
  refine W_loop (fun m s => ∃ (t : Fm AV) (h : Hp Fm) (i : Nat) (bs : List Br) (u : AV), s = ⟨t, 41, h, none⟩ ∧ m = 7 - i ∧ i ≤ l.length ∧ i ≤ 7 ∧ bs.length = i + 1 ∧ BOk bs ∧ (∀ b ∈ bs, b.fl ≤ 7) ∧ BRs h0.no h bs u ∧ tget t 0 = v ∧ tget t 3 = u ∧ tget t 4 = .int .i64 i ∧ HE h0 h) 7
    ⟨_, _, 0, [b0], _, rfl, rfl, by omega, by omega, rfl, ok0, by simp [hb0], rs1, by simp, by simp, by simp, e0⟩ ?_
  rintro m s ⟨t, h, i, bs, u, rfl, rfl, hi, hi7, hbl, ok, hfl, rs, t0, t3, t4, e1⟩
  have uc := rs.cells
  have ui := rs.isCell
  have un := rs.nm
  have ul := BRs.len rs
  by_cases q : i < l.length
  case neg =>
    have q' : ¬ ((i : Int) < l.length) := by omega
    repeat(first|with_reducible first|refine vmR ?_|refine vmV rfl ?_|refine vmW rfl ?_|refine vmL ?_|refine blockW_y (by decide) ?_|((with_reducible first|apply vmO|apply vmT|apply vmC);case a=>simp [t0, t3, t4, q, q', vc, vi, l1, vn];with_reducible first|exact .v|exact .c|exact .t|exact .f))
    repeat(first|with_reducible first|refine vmR ?_|refine vmV rfl ?_|refine vmW rfl ?_|refine vmL ?_|refine blockW_y (by decide) ?_|((with_reducible first|apply vmO|apply vmT|apply vmC);case a=>simp [t3, uc, ui];with_reducible first|exact .v|exact .c|exact .t|exact .f))
    (first | apply endW_r | apply endW_n); (case h1 => (simp [Try.results14]; first | done | rfl))
    exact ⟨bs, ok, by omega, hfl, rs, e1⟩
  have q' : ((i : Int) < l.length) := by omega
  by_cases q7 : i < 7
  case neg =>
    have q7' : ¬ ((i : Int) < 7) := by omega
    repeat(first|with_reducible first|refine vmR ?_|refine vmV rfl ?_|refine vmW rfl ?_|refine vmL ?_|refine blockW_y (by decide) ?_|((with_reducible first|apply vmO|apply vmT|apply vmC);case a=>simp [t0, t3, t4, q, q', q7, q7', vc, vi, l1, vn];with_reducible first|exact .v|exact .c|exact .t|exact .f))
    repeat(first|with_reducible first|refine vmR ?_|refine vmV rfl ?_|refine vmW rfl ?_|refine vmL ?_|refine blockW_y (by decide) ?_|((with_reducible first|apply vmO|apply vmT|apply vmC);case a=>simp [t3, uc, ui];with_reducible first|exact .v|exact .c|exact .t|exact .f))
    (first | apply endW_r | apply endW_n); (case h1 => (simp [Try.results14]; first | done | rfl))
    exact ⟨bs, ok, by omega, hfl, rs, e1⟩
  have q7' : ((i : Int) < 7) := by omega
  obtain ⟨x, hx⟩ : ∃ x, x = l[i] := ⟨_, rfl⟩
  have ix := hv.idx (k := .i64) (i := (i : Int)) Try.underlying23 z42 (by omega) (by rw [List.length_map]; omega)
  replace ix : indexAddrAV Try.prog 23 v (.int .i64 (i : Int)) = some (.el (.agg [.int .i64 x.pa, .int .i64 x.fk, .int .i64 x.fl, .bool x.dr]) 0) := by rw [ix]; simp [hx]
  obtain ⟨xr1, xr2, xr3⟩ := hr x (by rw [hx]; exact List.getElem_mem q)
  obtain ⟨ip, hip⟩ : ∃ ip, ip = i + 1 := ⟨_, rfl⟩
  have wi : IntKind.i64.wrap ((i : Int) + 1) = (ip : Int) := by rw [wrap64 (by omega) (by omega)]; omega
  repeat(first|with_reducible first|refine vmR ?_|refine vmV rfl ?_|refine vmW rfl ?_|refine vmL ?_|refine blockW_y (by decide) ?_|((with_reducible first|apply vmO|apply vmT|apply vmC);case a=>simp [t0, t3, t4, q, q', q7, q7', vc, vi, l1, vn, ix];with_reducible first|exact .v|exact .c|exact .t|exact .f))
  obtain ⟨hb, hhb⟩ : ∃ hb : Hp Fm, hb = { h with obj := Mp.set (Mp.set h.obj h.no (.row [.int .i64 0, .int .i64 0, .int .i64 0, .bool false])) h.no (.row [.int .i64 x.pa, .int .i64 x.fk, .int .i64 x.fl, .bool x.dr]), no := h.no + 1 } := ⟨_, rfl⟩
  have eb : HE h hb := by rw [hhb]; exact ((HE.refl h).new _).set (Nat.le_refl _) _
  have gb : Mp.get hb.obj h.no = some (.row [.int .i64 x.pa, .int .i64 x.fk, .int .i64 x.fl, .bool x.dr]) := by rw [hhb]; simp
  rw [← hhb]
  repeat(first|with_reducible first|refine vmR ?_|refine vmV rfl ?_|refine vmW rfl ?_|refine vmL ?_|refine blockW_y (by decide) ?_|((with_reducible first|apply vmO|apply vmT|apply vmC);case a=>simp [t0, t3, t4, gb, uc, ui, un, ul];with_reducible first|exact .v|exact .c|exact .t|exact .f))
  refine A.mono (round_ans x.pa bs.length xr1 (by omega) _) ?_
  rintro _ hh ⟨y1, rfl, y10, y11, ehh⟩
  rw [ehh]
  clear ehh hh
  refine ⟨_, by simp; first | done | rfl, ?_⟩
  repeat(first|with_reducible first|refine vmR ?_|refine vmV rfl ?_|refine vmW rfl ?_|refine vmL ?_|refine blockW_y (by decide) ?_|((with_reducible first|apply vmO|apply vmT|apply vmC);case a=>simp [gb];with_reducible first|exact .v|exact .c|exact .t|exact .f))
  refine A.mono (round_ans x.fk 12 xr2 (by omega) _) ?_
  rintro _ hh ⟨y2, rfl, y20, y21, ehh⟩
  rw [ehh]
  clear ehh hh
  refine ⟨_, by simp; first | done | rfl, ?_⟩
  repeat(first|with_reducible first|refine vmR ?_|refine vmV rfl ?_|refine vmW rfl ?_|refine vmL ?_|refine blockW_y (by decide) ?_|((with_reducible first|apply vmO|apply vmT|apply vmC);case a=>simp [gb];with_reducible first|exact .v|exact .c|exact .t|exact .f))
  refine A.mono (round_ans x.fl 8 xr3 (by omega) _) ?_
  rintro _ hh ⟨y3, rfl, y30, y31, ehh⟩
  rw [ehh]
  clear ehh hh
  refine ⟨_, by simp; first | done | rfl, ?_⟩
  have hpb : hb.pol 42 = true := by rw [(e1.trans eb).pol]; exact hp
  have hbn : hb.no = h.no + 1 := by rw [hhb]
  have hnn : ¬ (hb.no = h.no) := by omega
  have hnn' : ¬ (h.no = hb.no) := by omega
  repeat(first|with_reducible first|refine vmR ?_|refine vmV rfl ?_|refine vmW rfl ?_|refine vmL ?_|refine blockW_y (by decide) ?_|((with_reducible first|apply vmO|apply vmT|apply vmC);case a=>simp [t3, gb, newSeq, newRs, hpb, hnn, hnn'];with_reducible first|exact .v|exact .c|exact .t|exact .f))
  obtain ⟨z, hz⟩ : ∃ z : Br, z = ⟨y1, y2, y3, x.dr⟩ := ⟨_, rfl⟩
  obtain ⟨hc, hhc⟩ : ∃ hc : Hp Fm, hc = { hb with obj := Mp.set (Mp.set (Mp.set (Mp.set hb.obj h.no (.row [.int .i64 y1, .int .i64 x.fk, .int .i64 x.fl, .bool x.dr])) h.no (.row [.int .i64 y1, .int .i64 y2, .int .i64 x.fl, .bool x.dr])) h.no (.row [.int .i64 y1, .int .i64 y2, .int .i64 y3, .bool x.dr])) hb.no (.row [.int .i64 y1, .int .i64 y2, .int .i64 y3, .bool x.dr]), no := hb.no + 1 } := ⟨_, rfl⟩
  rw [← hhc]
  have hno : h.no < hb.no := by omega
  have ec : HE h hc := by rw [hhc]; exact (((eb.set (Nat.le_refl _) _).set (Nat.le_refl _) _).set (Nat.le_refl _) _).new _
  have nB : Vn.newEls hc 4 true (.rs hb.no 0 4 true 1 1) = some [encB z] := by simp [newEls, rsEls, hhc, chunkAV, hz]
  have e2 := e1.trans ec
  have rs2 := RS.he rs ec
  have hpc : hc.pol 42 = true := by rw [e2.pol]; exact hp
  with_reducible apply WO_app_i; (case hw => (simp [t3]; done)); (case ho => rfl); (case hb => rfl); (case ha => (simp [t3]; first | done | exact ⟨rfl, rfl⟩ | rfl)); (case h1 => (simp; first | done | rfl)); (case h2 => (simp; first | done | rfl))
  refine app_then (RS.appN etBr rs2 e2.no hpc nB (fitB _) (fun e he => by rw [List.mem_singleton.mp he]; exact .inl ⟨rfl, _, rfl, rfl⟩) (by simp; omega)) ?_
  rintro w h3 ⟨rs3, x3, p3, q3⟩
  have wc := rs3.cells
  have wi' := rs3.isCell
  refine ⟨_, by simp; first | done | rfl, ?_⟩
  repeat(first|with_reducible first|refine vmR ?_|refine vmV rfl ?_|refine vmW rfl ?_|refine vmL ?_|refine blockW_y (by decide) ?_|((with_reducible first|apply vmO|apply vmT|apply vmC);case a=>simp [t4, wc, wi', wi];with_reducible first|exact .v|exact .c|exact .t|exact .f))
  have okz : bOk bs.length z := by
    rw [hz]
    refine ⟨.inr ⟨by omega, by simp; omega, by simp; omega⟩, ⟨by simp; omega, by simp; omega⟩, by simp; omega, by simp; omega⟩
  refine ⟨7 - ip, by omega, _, _, ip, bs ++ [z], w, rfl, rfl, by omega, by omega, by simp; omega, ok.snoc okz (by omega), ?_, ?_, by simp [t0], by simp, by simp, ?_⟩
  · intro b hb
    rcases List.mem_append.mp hb with hb | hb
    · exact hfl b hb
    · rw [List.mem_singleton.mp hb, hz]; show y3 ≤ 7; omega
  · show RS h0.no h3 4 true ((bs ++ [z]).map encB) w
    rw [List.map_append]; exact rs3
  · exact e2.x2 x3 (fun q hq => by have := rs2.rows q hq; omega) (fun _ z => z.elim)
end Go.Vn

set_option maxRecDepth 20000
namespace Go.Vn
open Go.Proofs

theorem WT_app_i {P : Program} {T : Tab} {ops : Array Oper} {o : Oper} {rest : List Oper} {st : St Fm} {acc : List (St Fm)} {Q : List (St Fm) → Prop} {c : Call} {s x : AV} {t1 t2 : Nat} (hw : want ops st.t o = some true) (ho : o.op = .call c) (hb : c.callee = .builtin .append)
    (ha : c.args.toList.map (ev st.t) = [s, x]) (h1 : c.argTypes[0]? = some t1) (h2 : c.argTypes[1]? = some t2)
    (h : ∃ r h', appendAV P st.h t1 t2 s x = some (r, h') ∧ ∃ s', put { st with h := h' } o.dst r = some s' ∧ WT P T ops rest s' (st :: acc) Q) : WT P T ops (o :: rest) st acc Q := by
  obtain ⟨r, h', e1, s', e2, e3⟩ := h
  refine WT_val_i (v := r) (h' := h') hw ?_ e2 e3
  simp only [opEff, ho, hb, builtinAV, ha, h1, h2, Option.bind_some, e1, valh, Option.map_some]

structure Sm (lo : Nat) (h0 h' : Hp Fm) (bs : List Br) (u : AV) (qs : List Po) (w : AV) (ep : Int) : Prop where
  ep0 : 0 ≤ ep
  ep1 : ep < 13
  ok : BOk bs
  le : bs.length ≤ 8
  fl : ∀ b ∈ bs, b.fl ≤ 7
  br : BRs lo h' bs u
  ac : AC h0 h' 3 (qs.map encPo) w
  ql : qs.length ≤ 4

set_option maxHeartbeats 4000000 in
theorem small_ans (n ep : Int) (vb vp vr : AV) (lg : List UInt8) (l : List Br) (ps : List Po) (kb : SV 4 (l.map encB) vb) (kp : SV 3 (ps.map encPo) vp) (rc : vr.cells = [vr]) (ri : vr.isCell = true) (hr : ∀ b ∈ l, BrR b) (hep : i64R ep) (h0 : Hp Fm) (hp : h0.pol 42 = true) (hp2 : h0.pol 29 = false) :
    A Try.prog TT (.func 7) [.agg [.int .i64 n, .int .i64 ep, vb, vp, vr, .str lg]] h0 (fun r h' => ∃ bs u qs w ep', r = .agg [.int .i64 0, .int .i64 ep', u, w, .nils, .str []] ∧ Sm h0.no h0 h' bs u qs w ep' ∧ HE h0 h') := by
  have bc := kb.cells
  have bi := kb.isCell
  have pc := kp.cells
  have pi := kp.isCell
  have pn := kp.nm
  have pl := kp.len Try.underlying24
  rw [List.length_map] at pl
  obtain ⟨hep1, hep2⟩ := hep
  apply A_go Try.func7 rfl (by rfl); (case hn => (simp [Try.ntmps7]; rfl))
  repeat(first|with_reducible first|refine vmR ?_|refine vmV rfl ?_|refine vmW rfl ?_|refine vmL ?_|refine blockW_y (by decide) ?_|((with_reducible first|apply vmO|apply vmT|apply vmC);case a=>simp [bc, bi, pc, pi, rc, ri];with_reducible first|exact .v|exact .c|exact .t|exact .f))
  obtain ⟨ha, hha⟩ : ∃ ha : Hp Fm, ha = { h0 with obj := Mp.set (Mp.set h0.obj h0.no (.row [.int .i64 n, .int .i64 ep, vb, vp, vr, .str lg])) (h0.no + 1) (.row [.int .i64 0, .int .i64 0, .nils, .nils, .nils, .str []]), no := h0.no + 1 + 1 } := ⟨_, rfl⟩
  have e0 : HE h0 ha := by rw [hha]; exact ((HE.refl h0).new _).new _
  have n1 : h0.no ≠ h0.no + 1 := by omega
  have g0 : Mp.get ha.obj h0.no = some (.row [.int .i64 n, .int .i64 ep, vb, vp, vr, .str lg]) := by rw [hha]; simp [n1]
  have g1 : Mp.get ha.obj (h0.no + 1) = some (.row [.int .i64 0, .int .i64 0, .nils, .nils, .nils, .str []]) := by rw [hha]; simp
  have an : ha.no = h0.no + 2 := by rw [hha]
  have dn : ha.drew.no = h0.no + 2 := an
  rw [← hha]
  clear hha
  (with_reducible refine W_draw_id (pln := false) [0, 1, 2, 3, 4, 5, 6, 7] [(1, (1, [])), (4, (4, [0]))] (by kernel_rfl) rfl ?_)
  repeat(first|with_reducible first|refine vmR ?_|refine vmV rfl ?_|refine vmW rfl ?_|refine vmL ?_|refine blockW_y (by decide) ?_|((with_reducible first|apply vmO|apply vmT|apply vmC);case a=>simp [g0, bc, bi];with_reducible first|exact .v|exact .c|exact .t|exact .f))
  refine A.mono (good11_ans l vb kb hr _ (by show ha.pol _ = _; rw [e0.pol]; exact hp)) ?_
  rintro u h1 ⟨bs, ok, bl, fl, rs, e1⟩
  replace e1 : HE ha h1 := ((HE.refl ha).drew).trans e1
  have uc := rs.cells
  have ui := rs.isCell
  have g0' := (e1.obj _ (by omega)).trans g0
  have g1' := (e1.obj _ (by omega)).trans g1
  refine ⟨_, by simp; first | done | rfl, ?_⟩
  repeat(first|with_reducible first|refine vmR ?_|refine vmV rfl ?_|refine vmW rfl ?_|refine vmL ?_|refine blockW_y (by decide) ?_|((with_reducible first|apply vmO|apply vmT|apply vmC);case a=>simp [g0', uc, ui, bc, bi];with_reducible first|exact .v|exact .c|exact .t|exact .f))
  refine ⟨by simp [readSame, beqAV_self, g0, g0', bc, bi, uc, ui]; done, _, by simp; first | done | rfl, ?_⟩
  have n1h := e1.no
  obtain ⟨q, hq⟩ : ∃ q, q = h1.no := ⟨_, rfl⟩
  obtain ⟨hb, hhb⟩ : ∃ hb : Hp Fm, hb = { h1 with obj := Mp.set (Mp.set h1.obj h1.no (.row [.int .i64 0, .int .i64 0, .nils, .nils, .nils, .str []])) h1.no (.row [.int .i64 0, .int .i64 ep, u, .nils, .nils, .str []]), no := h1.no + 1 } := ⟨_, rfl⟩
  have eb : HE h1 hb := by rw [hhb]; exact ((HE.refl h1).new _).set (Nat.le_refl _) _
  have gq : Mp.get hb.obj q = some (.row [.int .i64 0, .int .i64 ep, u, .nils, .nils, .str []]) := by rw [hhb, hq]; simp
  have g0b := (eb.obj _ (by omega)).trans g0'
  have g1b := (eb.obj _ (by omega)).trans g1'
  have qn : q < hb.no := by rw [hhb, hq]; simp
  have rsb := RS.he rs eb
  have e2 := (e0.trans e1).trans eb
  rw [← hhb, ← hq]
  refine thenW_n ?_
  refine W_seq_i ?_
  refine W.mono (R := fun e s => e = .normal ∧ ∃ (t : Fm AV) (h : Hp Fm) (ep2 : Int), s = ⟨t, 45, h, none⟩ ∧ 0 ≤ ep2 ∧ ep2 ≤ 9223372036854775807 ∧ tget t 1 = .ptr h0.no 0 ∧ tget t 2 = .ptr (h0.no + 1) 0 ∧ tget t 3 = .ptr q 0 ∧ Mp.get h.obj q = some (.row [.int .i64 0, .int .i64 ep2, u, .nils, .nils, .str []]) ∧ HX (fun o => o = q) (fun _ => False) hb h) ?_ ?_
  · by_cases qe : ep < 0
    · have w1 : IntKind.i64.wrap (ep + 1) = ep + 1 := wrap64 (by omega) (by omega)
      have w2 : IntKind.i64.wrap (0 - (ep + 1)) = 0 - (ep + 1) := wrap64 (by omega) (by omega)
      have w3 : IntKind.i64.wrap (-(ep + 1)) = -(ep + 1) := wrap64 (by omega) (by omega)
      repeat(first|with_reducible first|refine vmR ?_|refine vmV rfl ?_|refine vmW rfl ?_|refine vmL ?_|refine blockW_y (by decide) ?_|((with_reducible first|apply vmO|apply vmT|apply vmC);case a=>simp [gq, qe, w1, w2, w3];with_reducible first|exact .v|exact .c|exact .t|exact .f))
      exact ⟨rfl, _, _, -(ep + 1), rfl, by omega, by omega, by simp, by simp, by simp [hq], by simp, (HX.refl (fun o => o = q) (fun _ => False) hb).set (fun _ => rfl) _⟩
    · repeat(first|with_reducible first|refine vmR ?_|refine vmV rfl ?_|refine vmW rfl ?_|refine vmL ?_|refine blockW_y (by decide) ?_|((with_reducible first|apply vmO|apply vmT|apply vmC);case a=>simp [gq, qe];with_reducible first|exact .v|exact .c|exact .t|exact .f))
      exact ⟨rfl, _, _, ep, rfl, by omega, by omega, by simp, by simp, by simp [hq], gq, HX.refl _ _ _⟩
  rintro e s ⟨rfl, t, h, ep2, rfl, ep20, ep21, t1, t2, t3, gq2, x2⟩
  have m1 : 0 ≤ ep2.tmod 13 := Int.tmod_nonneg _ ep20
  have m2 : ep2.tmod 13 < 13 := Int.tmod_lt_of_pos _ (by omega)
  obtain ⟨ep', hep'⟩ : ∃ ep', ep' = ep2.tmod 13 := ⟨_, rfl⟩
  rw [← hep'] at m1 m2
  have hq0 : h0.no + 2 ≤ q := by omega
  have e3 : HE h0 h := e2.x2 x2 (fun o ho => by omega) (fun _ z => z.elim)
  have rsh : BRs h0.no h bs u := (rsb.of x2 (fun o ho => by
    rcases rs with ⟨z, _⟩ | ⟨o', cap, z, _, z2⟩
    · rw [z] at ho; obtain ⟨_, _, _, _, _, z⟩ := ho; cases z
    · rw [z] at ho
      obtain ⟨_, _, _, _, _, z⟩ := ho
      injection z with z
      have := z2.on
      omega)).lo (by omega)
  have rq : ∀ o, isRow u o → o ≠ q := fun o ho => by
    rcases rs with ⟨z, _⟩ | ⟨o', cap, z, _, z2⟩
    · rw [z] at ho; obtain ⟨_, _, _, _, _, z⟩ := ho; cases z
    · rw [z] at ho
      obtain ⟨_, _, _, _, _, z⟩ := ho
      injection z with z
      have := z2.on
      omega
  have rq1 : ∀ o, isRow u o → ¬ (o = h0.no + 1) := fun o ho => by
    have := rs.rows o ho
    omega
  have g0h := (x2.obj _ (by omega) (by omega)).trans g0b
  have g1h := (x2.obj _ (by omega) (by omega)).trans g1b
  have qh : q < h.no := Nat.lt_of_lt_of_le qn x2.no
  repeat(first|with_reducible first|refine vmR ?_|refine vmV rfl ?_|refine vmW rfl ?_|refine vmL ?_|refine blockW_y (by decide) ?_|((with_reducible first|apply vmO|apply vmT|apply vmC);case a=>simp [t1, t2, t3, gq2, ← hep'];with_reducible first|exact .v|exact .c|exact .t|exact .f))
  refine W_loop (fun m s => ∃ (t : Fm AV) (h : Hp Fm) (i : Nat) (qs : List Po) (w : AV), s = ⟨t, 45, h, none⟩ ∧ m = 4 - i ∧ i ≤ ps.length ∧ i ≤ 4 ∧ qs.length = i ∧ tget t 1 = .ptr h0.no 0 ∧ tget t 2 = .ptr (h0.no + 1) 0 ∧ tget t 3 = .ptr q 0 ∧ tget t 4 = .int .i64 i ∧ Mp.get h.obj q = some (.row [.int .i64 0, .int .i64 ep', u, w, .nils, .str []]) ∧ Mp.get h.obj h0.no = some (.row [.int .i64 n, .int .i64 ep, vb, vp, vr, .str lg]) ∧ Mp.get h.obj (h0.no + 1) = some (.row [.int .i64 0, .int .i64 0, .nils, .nils, .nils, .str []]) ∧ AC h0 h 3 (qs.map encPo) w ∧ BRs h0.no h bs u ∧ HE h0 h ∧ q < h.no) 4
    ⟨_, _, 0, [], .nils, rfl, rfl, by omega, by omega, rfl, by simp [t1], by simp [t2], by simp [t3], by simp, by simp, ?_, ?_, .inl ⟨rfl, rfl⟩, ?_, e3.set (by omega) _, qh⟩ ?_
  · have : h0.no ≠ q := by omega
    simp [this, g0h]
  · have : h0.no + 1 ≠ q := by omega
    simp [this, g1h]
  · exact rsh.of (((HX.refl (fun o => o = q) (fun _ => False) h).set (fun _ => rfl) _)) rq
  clear rsh g0h g1h gq2 x2 e3 t1 t2 t3 qh h t
  rintro m s ⟨t, h, i, qs, w, rfl, rfl, hi, hi4, hql, t1, t2, t3, t4, gq, g0, g1h, ac, rsh, e3, qh⟩
  have wc := ac.sv.cells
  have wi := ac.sv.isCell
  have zq : h0.no ≠ q := by omega
  have zq1 : h0.no + 1 ≠ q := by omega
  have zq2 : q ≠ h0.no + 1 := by omega
  have zq3 : q ≠ h0.no := by omega
  have fin : ∀ t' : Fm AV, tget t' 1 = .ptr h0.no 0 → tget t' 2 = .ptr (h0.no + 1) 0 → tget t' 3 = .ptr q 0 → True := fun _ _ _ _ => trivial
  clear fin
  by_cases qa : i < ps.length
  case neg =>
    have qa' : ¬ ((i : Int) < ps.length) := by omega
    repeat(first|with_reducible first|refine vmR ?_|refine vmV rfl ?_|refine vmW rfl ?_|refine vmL ?_|refine blockW_y (by decide) ?_|((with_reducible first|apply vmO|apply vmT|apply vmC);case a=>simp [t1, t2, t3, t4, g0, qa, qa', pn, pl, pc, pi];with_reducible first|exact .v|exact .c|exact .t|exact .f))
    repeat(first|with_reducible first|refine vmR ?_|refine vmV rfl ?_|refine vmW rfl ?_|refine vmL ?_|refine blockW_y (by decide) ?_|((with_reducible first|apply vmO|apply vmT|apply vmC);case a=>simp [t1, t2, t3, gq, g1h, wc, wi, uc, ui];with_reducible first|exact .v|exact .c|exact .t|exact .f))
    (first | apply endW_r | apply endW_n); (case h1 => (simp [Try.results7, t2]; first | done | rfl))
    exact ⟨bs, u, qs, w, ep', rfl, ⟨m1, m2, ok, bl, fl, rsh.of (((HX.refl (fun o => o = h0.no + 1) (fun _ => False) h).set (fun _ => rfl) _)) (fun o ho => rq1 o ho), ac, by omega⟩, e3.set (by omega) _⟩
  have qa' : (i : Int) < ps.length := by omega
  by_cases q4 : i < 4
  case neg =>
    have q4' : ¬ ((i : Int) < 4) := by omega
    repeat(first|with_reducible first|refine vmR ?_|refine vmV rfl ?_|refine vmW rfl ?_|refine vmL ?_|refine blockW_y (by decide) ?_|((with_reducible first|apply vmO|apply vmT|apply vmC);case a=>simp [t1, t2, t3, t4, g0, qa, qa', q4, q4', pn, pl, pc, pi];with_reducible first|exact .v|exact .c|exact .t|exact .f))
    repeat(first|with_reducible first|refine vmR ?_|refine vmV rfl ?_|refine vmW rfl ?_|refine vmL ?_|refine blockW_y (by decide) ?_|((with_reducible first|apply vmO|apply vmT|apply vmC);case a=>simp [t1, t2, t3, gq, g1h, wc, wi, uc, ui];with_reducible first|exact .v|exact .c|exact .t|exact .f))
    (first | apply endW_r | apply endW_n); (case h1 => (simp [Try.results7, t2]; first | done | rfl))
    exact ⟨bs, u, qs, w, ep', rfl, ⟨m1, m2, ok, bl, fl, rsh.of (((HX.refl (fun o => o = h0.no + 1) (fun _ => False) h).set (fun _ => rfl) _)) (fun o ho => rq1 o ho), ac, by omega⟩, e3.set (by omega) _⟩
  have q4' : (i : Int) < 4 := by omega
  obtain ⟨x, hx⟩ : ∃ x, x = ps[i] := ⟨_, rfl⟩
  have ix := kp.idx (k := .i64) (i := (i : Int)) Try.underlying24 z29 (by omega) (by rw [List.length_map]; omega)
  replace ix : indexAddrAV Try.prog 24 vp (.int .i64 (i : Int)) = some (.el (.agg [.str x.nm, .int .i64 x.br, .int .i64 x.ep]) 0) := by rw [ix]; simp [hx]
  obtain ⟨ip, hip⟩ : ∃ ip, ip = i + 1 := ⟨_, rfl⟩
  have wi1 : IntKind.i64.wrap ((i : Int) + 1) = (ip : Int) := by rw [wrap64 (by omega) (by omega)]; omega
  have hpp : h.pol 29 = false := by rw [e3.pol]; exact hp2
  repeat(first|with_reducible first|refine vmR ?_|refine vmV rfl ?_|refine vmW rfl ?_|refine vmL ?_|refine blockW_y (by decide) ?_|((with_reducible first|apply vmO|apply vmT|apply vmC);case a=>simp [t1, t2, t3, t4, g0, qa, qa', q4, q4', pn, pl, pc, pi];with_reducible first|exact .v|exact .c|exact .t|exact .f))
  (with_reducible refine W_draw_id (pln := true) [0, 1, 2, 3, 4, 5, 6, 7, 8, 9, 10] [(1, (1, [8])), (3, (3, [])), (6, (6, []))] (by kernel_rfl) rfl ?_)
  repeat(first|with_reducible first|refine vmR ?_|refine vmV rfl ?_|refine vmW rfl ?_|refine vmL ?_|refine blockW_y (by decide) ?_|((with_reducible first|apply vmO|apply vmT|apply vmC);case a=>simp [t1, t2, t3, t4, g0, gq, ix, pc, pi, wc, wi, newSeq, newSl, hpp];with_reducible first|exact .v|exact .c|exact .t|exact .f))
  with_reducible apply WT_app_i; (case hw => (simp [t1, t2, t3, t4, g0, gq, ix, pc, pi, wc, wi, newSeq, newSl, hpp]; done)); (case ho => rfl); (case hb => rfl); (case ha => (simp [t1, t2, t3, t4, g0, gq, ix, pc, pi, wc, wi, newSeq, newSl, hpp]; first | done | exact ⟨rfl, rfl⟩ | rfl)); (case h1 => (simp; first | done | rfl)); (case h2 => (simp; first | done | rfl))
  have en1 := ((HE.refl h).drew).newSl 1
  refine app_then (AC.app (h0 := h0) etPo (ac.of en1) (e3.trans en1) hp2 (by simp; omega)) ?_
  rintro x5 h5 ⟨ac5, he5, ho5, hn5, hg5⟩
  have e5 := ac5.sv.cells
  have f5 := ac5.sv.isCell
  have gq5 : Mp.get h5.obj q = some (.row [.int .i64 0, .int .i64 ep', u, w, .nils, .str []]) := by rw [ho5]; exact gq
  have g05 : Mp.get h5.obj h0.no = some (.row [.int .i64 n, .int .i64 ep, vb, vp, vr, .str lg]) := by rw [ho5]; exact g0
  refine ⟨_, by simp; first | done | rfl, ?_⟩
  repeat(first|with_reducible first|refine vmR ?_|refine vmV rfl ?_|refine vmW rfl ?_|refine vmL ?_|refine blockW_y (by decide) ?_|((with_reducible first|apply vmO|apply vmT|apply vmC);case a=>simp [gq5, e5, f5, t3];with_reducible first|exact .v|exact .c|exact .t|exact .f))
  refine ⟨by simp [readSame, beqAV_self, t1, t2, t3, t4, g0, gq, gq5, g05, pc, pi, wc, wi, e5, f5, ix]; done, _, by simp; first | done | rfl, ?_⟩
  repeat(first|with_reducible first|refine vmR ?_|refine vmV rfl ?_|refine vmW rfl ?_|refine vmL ?_|refine blockW_y (by decide) ?_|((with_reducible first|apply vmO|apply vmT|apply vmC);case a=>simp [t4, wi1];with_reducible first|exact .v|exact .c|exact .t|exact .f))
  refine ⟨4 - ip, by omega, _, _, ip, qs ++ [x], x5, rfl, rfl, by omega, by omega, by simp; omega, by simp [t1], by simp [t2], by simp [t3], by simp, by simp, by simp [zq, g05], ?_, ?_, ?_, he5.set (by omega) _, ?_⟩
  · have g15 := g1h
    rw [← (show h5.obj = h.obj from ho5)] at g15
    simp [zq1, g15]
  · rw [List.map_append]; exact ac5
  · refine rsh.of (S := fun o => o = q) (G := fun _ => True) ⟨?_, ?_, ?_, ?_, fun _ _ z => absurd trivial z⟩ rq
    · show h.no ≤ h5.no; have : h5.no = h.no := hn5; omega
    · show h.ng ≤ h5.ng; have : h.ng + 1 ≤ h5.ng := hg5; omega
    · show h5.pol = h.pol; rw [he5.pol, e3.pol]
    · intro o _ hoq
      have : h5.obj = h.obj := ho5
      simp [this, hoq]
  · show q < h5.no; have : h5.no = h.no := hn5; omega
end Go.Vn

set_option maxRecDepth 20000
namespace Go.Vn
open Go.Proofs

set_option maxHeartbeats 2000000 in
theorem rows_ans (l : List Ver) (v : AV) (hv : SV 8 (l.map encV) v) (hl : l.length ≤ 2000000) (h0 : Hp Fm) (hpol : ∀ e, e ≠ 42 → h0.pol e = false) :
    A Try.prog TT (.func 6) [v] h0 (fun r h' => ∃ out : List Ver, SL 8 (out.map encV) r ∧ out.length ≤ 12 ∧ HE h0 h') := by
  have vc := hv.cells
  have vi := hv.isCell
  have vn := hv.nm
  have l1 := hv.len Try.underlying22
  rw [List.length_map] at l1
  have hp := hpol 38 (by decide)
  apply A_go Try.func6 rfl (by rfl); (case hn => (simp [Try.ntmps6]; rfl))
  repeat(first|with_reducible first|refine vmR ?_|refine vmV rfl ?_|refine vmW rfl ?_|refine vmL ?_|refine blockW_y (by decide) ?_|((with_reducible first|apply vmO|apply vmT|apply vmC);case a=>simp [vc, vi];with_reducible first|exact .v|exact .c|exact .t|exact .f))
  refine W_loop (fun m s => ∃ (t : Fm AV) (h : Hp Fm) (i : Nat) (own : List Ver) (u : AV), s = ⟨t, 30, h, none⟩ ∧ m = l.length - i ∧ i ≤ l.length ∧ own.length ≤ i ∧ AC h0 h 8 (own.map encV) u ∧ tget t 0 = v ∧ tget t 3 = u ∧ tget t 4 = .int .i64 i ∧ HE h0 h) l.length
    ⟨_, _, 0, [], .nils, rfl, rfl, by omega, by simp, .inl ⟨rfl, rfl⟩, by simp, by simp, by simp, HE.refl _⟩ ?_
  rintro m s ⟨t, h, i, own, u, rfl, rfl, hi, hol, ac, t0, t3, t4, e1⟩
  have uc := ac.sv.cells
  have ui := ac.sv.isCell
  by_cases q : i < l.length
  case neg =>
    have q' : ¬ ((i : Int) < l.length) := by omega
    repeat(first|with_reducible first|refine vmR ?_|refine vmV rfl ?_|refine vmW rfl ?_|refine vmL ?_|refine blockW_y (by decide) ?_|((with_reducible first|apply vmO|apply vmT|apply vmC);case a=>simp [t0, t3, t4, q, q', vc, vi, l1, vn, uc, ui];with_reducible first|exact .v|exact .c|exact .t|exact .f))
    refine A.mono (block_ans own u ac.sv (by omega) _ (fun e he => by rw [e1.pol]; exact hpol e he)) ?_
    rintro r h2 ⟨out, o1, o2, _, _, e2⟩
    have rc := o1.sv.cells
    have ri := o1.sv.isCell
    refine ⟨_, by simp; first | done | rfl, ?_⟩
    repeat(first|with_reducible first|refine vmR ?_|refine vmV rfl ?_|refine vmW rfl ?_|refine vmL ?_|refine blockW_y (by decide) ?_|((with_reducible first|apply vmO|apply vmT|apply vmC);case a=>simp [rc, ri];with_reducible first|exact .v|exact .c|exact .t|exact .f))
    (first | apply endW_r | apply endW_n); (case h1 => (simp [Try.results6]; first | done | rfl))
    exact ⟨out, o1, o2, e1.trans e2⟩
  have q' : ((i : Int) < l.length) := by omega
  obtain ⟨x, hx⟩ : ∃ x, x = l[i] := ⟨_, rfl⟩
  obtain ⟨y, hy⟩ : ∃ y, y = l[0]'(by omega) := ⟨_, rfl⟩
  have ix := hv.idx (k := .i64) (i := (i : Int)) Try.underlying22 z38 (by omega) (by rw [List.length_map]; omega)
  replace ix : indexAddrAV Try.prog 22 v (.int .i64 (i : Int)) = some (.el (encV x) 0) := by rw [ix]; simp [hx]
  have iy := hv.idx (k := .i64) (i := 0) Try.underlying22 z38 (by omega) (by rw [List.length_map]; simp; omega)
  replace iy : indexAddrAV Try.prog 22 v (.int .i64 0) = some (.el (encV y) 0) := by rw [iy]; simp [hy]
  simp only [encV] at ix iy
  obtain ⟨ip, hip⟩ : ∃ ip, ip = i + 1 := ⟨_, rfl⟩
  have wi1 : IntKind.i64.wrap ((i : Int) + 1) = (ip : Int) := by rw [wrap64 (by omega) (by omega)]; omega
  have hph : h.pol 38 = false := by rw [e1.pol]; exact hp
  repeat(first|with_reducible first|refine vmR ?_|refine vmV rfl ?_|refine vmW rfl ?_|refine vmL ?_|refine blockW_y (by decide) ?_|((with_reducible first|apply vmO|apply vmT|apply vmC);case a=>simp [t0, t3, t4, q, q', vc, vi, l1, vn];with_reducible first|exact .v|exact .c|exact .t|exact .f))
  (with_reducible refine W_draw_id (pln := true) [0, 1, 2, 3, 4, 5, 6, 7, 8, 9] [(4, (4, [])), (8, (8, []))] (by kernel_rfl) rfl ?_)
  repeat(first|with_reducible first|refine vmR ?_|refine vmV rfl ?_|refine vmW rfl ?_|refine vmL ?_|refine blockW_y (by decide) ?_|((with_reducible first|apply vmO|apply vmT|apply vmC);case a=>simp [t0, t3, t4, ix, iy, vc, vi];with_reducible first|exact .v|exact .c|exact .t|exact .f))
  refine ⟨by simp [readSame, beqAV_self, t0, t3, t4, ix, iy, vc, vi]; done, _, by simp; first | done | rfl, ?_⟩
  cases qe : eqB x.key y.key with
  | false =>
    repeat(first|with_reducible first|refine vmR ?_|refine vmV rfl ?_|refine vmW rfl ?_|refine vmL ?_|refine blockW_y (by decide) ?_|((with_reducible first|apply vmO|apply vmT|apply vmC);case a=>simp [qe, t4, wi1];with_reducible first|exact .v|exact .c|exact .t|exact .f))
    exact ⟨l.length - ip, by omega, _, _, ip, own, u, rfl, rfl, by omega, by omega, ac, by simp [t0], by simp [t3], by simp, e1.drew⟩
  | true =>
    repeat(first|with_reducible first|refine vmR ?_|refine vmV rfl ?_|refine vmW rfl ?_|refine vmL ?_|refine blockW_y (by decide) ?_|((with_reducible first|apply vmO|apply vmT|apply vmC);case a=>simp [qe, t0, t3, t4, ix, vc, vi, uc, ui, newSeq, newSl, hph];with_reducible first|exact .v|exact .c|exact .t|exact .f))
    with_reducible apply WO_app_i; (case hw => (simp [t0, t3, t4, ix, vc, vi, uc, ui, newSeq, newSl, hph]; done)); (case ho => rfl); (case hb => rfl); (case ha => (simp [t0, t3, t4, ix, vc, vi, uc, ui, newSeq, newSl, hph]; first | done | exact ⟨rfl, rfl⟩ | rfl)); (case h1 => (simp; first | done | rfl)); (case h2 => (simp; first | done | rfl))
    have en1 := ((HE.refl h).drew).newSl 1
    refine app_then (AC.app (h0 := h0) etv (ac.of en1) (e1.trans en1) hp (by simp; omega)) ?_
    rintro x5 h5 ⟨ac5, he5, ho5, hn5, hg5⟩
    have e5 := ac5.sv.cells
    have f5 := ac5.sv.isCell
    refine ⟨_, by simp; first | done | rfl, ?_⟩
    repeat(first|with_reducible first|refine vmR ?_|refine vmV rfl ?_|refine vmW rfl ?_|refine vmL ?_|refine blockW_y (by decide) ?_|((with_reducible first|apply vmO|apply vmT|apply vmC);case a=>simp [e5, f5, t4, wi1];with_reducible first|exact .v|exact .c|exact .t|exact .f))
    refine ⟨l.length - ip, by omega, _, _, ip, own ++ [x], x5, rfl, rfl, by omega, by simp; omega, ?_, by simp [t0], by simp, by simp, he5⟩
    rw [List.map_append]; exact ac5
end Go.Vn

set_option maxRecDepth 20000
namespace Go.Vn
open Go.Proofs

theorem guL : (Try.prog.stoodInHeld 48 || Try.prog.eqGuardType Try.prog.depth 48) = false := by kernel_rfl
theorem eqlI3 (d : Nat) (a b : Int) : eqlAV Try.prog (d + 1) 3 (.int .i64 a) (.int .i64 b) = some (decide (a = b)) := by simp [eqlAV]
theorem eqlL (x y : Lg) : eqlAV Try.prog 20 48 (encL x) (encL y) = some (decide (x = y)) := by
  obtain ⟨a, b⟩ := x
  obtain ⟨c, d⟩ := y
  unfold eqlAV
  simp only [encL, Try.underlying48, guL, List.toList_toArray, List.foldr_cons, List.foldr_nil]
  simp [eqlI3]
  by_cases h1 : a = c <;> by_cases h2 : b = d <;> simp [h1, h2]
theorem guST : (Try.prog.stoodInHeld 34 || Try.prog.eqGuardType Try.prog.depth 34) = false := by kernel_rfl
theorem guSP : (Try.prog.stoodInHeld 36 || Try.prog.eqGuardType Try.prog.depth 36) = false := by kernel_rfl
theorem eqlST (d : Nat) (a b c x y z : Int) : eqlAV Try.prog (d + 2) 34 (.agg [.int .i64 a, .int .i64 b, .int .i64 c]) (.agg [.int .i64 x, .int .i64 y, .int .i64 z]) = some (decide (a = x) && decide (b = y) && decide (c = z)) := by
  unfold eqlAV
  simp only [Try.underlying34, guST, List.toList_toArray, List.foldr_cons, List.foldr_nil]
  simp [eqlAV]
  by_cases h1 : a = x <;> by_cases h2 : b = y <;> by_cases h3 : c = z <;> simp [h1, h2, h3]
theorem eqlSP (d : Nat) (a b x y : Int) : eqlAV Try.prog (d + 2) 36 (.agg [.int .i64 a, .int .i64 b]) (.agg [.int .i64 x, .int .i64 y]) = some (decide (a = x) && decide (b = y)) := by
  unfold eqlAV
  simp only [Try.underlying36, guSP, List.toList_toArray, List.foldr_cons, List.foldr_nil]
  simp [eqlAV]
  by_cases h1 : a = x <;> by_cases h2 : b = y <;> simp [h1, h2]
theorem eqlTX (d : Nat) (a b : List UInt8) : eqlAV Try.prog (d + 1) 9 (.str a) (.str b) = some (eqB a b) := by simp [eqlAV, Try.underlying9]
theorem eqlBO (d : Nat) (a b : Bool) : eqlAV Try.prog (d + 1) 4 (.bool a) (.bool b) = some (a == b) := by simp [eqlAV]
theorem eqlV (x y : Ver) : eqlAV Try.prog 20 38 (encV x) (encV y) = some (decide (x = y)) := by
  obtain ⟨k1, b1, e1, s1, f1, t1, v1, g1⟩ := x
  obtain ⟨k2, b2, e2, s2, f2, t2, v2, g2⟩ := y
  unfold eqlAV
  simp only [Try.underlying38, guV, List.toList_toArray, List.foldr_cons, List.foldr_nil]
  simp [eqlTX, eqlBO, eqlST, eqlSP, eqB_iff]
  by_cases h1 : k1 = k2 <;> by_cases h2 : b1 = b2 <;> by_cases h3 : e1 = e2 <;> by_cases h4 : s1 = s2 <;> by_cases h5 : f1 = f2 <;> by_cases h6 : t1 = t2 <;> by_cases h7 : v1 = v2 <;> by_cases h8 : g1 = g2 <;> simp [h1, h2, h3, h4, h5, h6, h7, h8]

theorem keyL : MK.KeyOk Try.prog 48 encL where
  ck := fun k => by simp [checkAV, Try.underlying48, partAV]
  eq := eqlL
  bk := fun k => by simp [beqK, beqSs, beqS]
theorem keyV : MK.KeyOk Try.prog 38 encV where
  ck := fun k => by simp [checkAV, Try.underlying38, Try.underlying34, Try.underlying36, partAV]
  eq := eqlV
  bk := fun k => by simp [beqK, beqSs, beqS, eqB_dec]

def OneR (_ : Unit) (v : AV) : Prop := v = .int .i64 1
structure MSet {K : Type} [DecidableEq K] (E : K → AV) (h : Hp Fm) (m : Nat) (S : K → Prop) (n : Nat) (fs : MK.Ents K Unit) (es : List (AV × AV × Nat)) (clk : Nat) : Prop where
  map : Mp.get h.obj m = some (.mp es clk)
  en : MK.EntsR E OneR fs es
  born : MK.Born clk fs
  mem : ∀ k, (MK.lookF k fs).isSome = true ↔ S k
  nd : (fs.map (·.1)).Nodup
  le : fs.length ≤ n
def MS {K : Type} [DecidableEq K] (E : K → AV) (h : Hp Fm) (m : Nat) (S : K → Prop) (n : Nat) : Prop := ∃ fs es clk, MSet E h m S n fs es clk

section
variable {K : Type} [DecidableEq K] {E : K → AV} {h h' : Hp Fm} {m n : Nat} {S : K → Prop}
theorem MS.of (k : MS E h m S n) (hh : Mp.get h'.obj m = Mp.get h.obj m) : MS E h' m S n := by
  obtain ⟨fs, es, clk, a, b, c, d, e, f⟩ := k
  exact ⟨fs, es, clk, hh.trans a, b, c, d, e, f⟩
theorem MS.iff (k : MS E h m S n) {S' : K → Prop} (hs : ∀ x, S x ↔ S' x) : MS E h m S' n := by
  obtain ⟨fs, es, clk, a, b, c, d, e, f⟩ := k
  exact ⟨fs, es, clk, a, b, c, fun x => (d x).trans (hs x), e, f⟩
theorem MS.le (k : MS E h m S n) {n' : Nat} (hn : n ≤ n') : MS E h m S n' := by
  obtain ⟨fs, es, clk, a, b, c, d, e, f⟩ := k
  exact ⟨fs, es, clk, a, b, c, d, e, by omega⟩
theorem lookF_mem {α : Type} : ∀ {fs : MK.Ents K α} {k : K}, (MK.lookF k fs).isSome = true ↔ k ∈ fs.map (·.1)
  | [], k => by simp [MK.lookF]
  | f :: fs, k => by
    simp only [MK.lookF, List.map_cons, List.mem_cons]
    by_cases q : f.1 = k
    · simp [q]
    · rw [if_neg q, lookF_mem]
      constructor
      · exact .inr
      · rintro (z | z)
        · exact absurd z.symm q
        · exact z
theorem setF_keys {α : Type} (k : K) (a : α) (clk : Nat) : ∀ (fs : MK.Ents K α), (MK.setF k a clk fs).map (·.1) = if (MK.lookF k fs).isSome then fs.map (·.1) else fs.map (·.1) ++ [k]
  | [] => rfl
  | f :: fs => by
    simp only [MK.setF, MK.lookF]
    by_cases q : f.1 = k
    · simp [q]
    · simp only [if_neg q, List.map_cons, setF_keys k a clk fs]
      cases (MK.lookF k fs).isSome <;> simp
theorem MS.empty {clk : Nat} (hm : Mp.get h.obj m = some (.mp [] clk)) : MS E h m (fun _ => False) 0 :=
  ⟨[], [], clk, hm, trivial, ⟨by simp, by simp⟩, fun k => by simp [MK.lookF], by simp, by simp⟩
theorem MS.put {P : Program} {t kt et : Nat} (ht : P.underlying t = some (.map kt et)) (hu : MK.KeyOk P kt E) (k : MS E h m S n) (x : K) :
    ∃ es' clk', mapUpdateAV P h t (.mp m) (E x) (.int .i64 1) = some { h with obj := Mp.set h.obj m (.mp es' clk') } ∧ MS E { h with obj := Mp.set h.obj m (.mp es' clk') } m (fun y => S y ∨ y = x) (n + 1) := by
  obtain ⟨fs, es, clk, a, b, c, d, e, f⟩ := k
  obtain ⟨es', h1, h2⟩ := MK.update_ans ht hu a b (a := ()) (k := x) (v := .int .i64 1) rfl
  refine ⟨es', _, h2, MK.setF x () clk fs, es', _, by simp, h1, c.set x (), fun y => ?_, ?_, ?_⟩
  · rw [MK.lookF_setF]
    by_cases q : y = x
    · simp [q]
    · simp [q, d y]
  · rw [setF_keys]
    split
    · exact e
    · rename_i hn
      rw [List.nodup_append]
      refine ⟨e, by simp, fun p hp q hq => ?_⟩
      rw [List.mem_singleton.mp hq]
      intro z
      exact hn (lookF_mem.mpr (z ▸ hp))
  · have := congrArg List.length (setF_keys x () clk fs)
    rw [List.length_map] at this
    rw [this]
    split <;> simp <;> omega
theorem MS.look {P : Program} {t kt et : Nat} (ht : P.underlying t = some (.map kt et)) (hu : MK.KeyOk P kt E) (hz : tzero P et = some (.int .i64 0)) (k : MS E h m S n) (x : K) :
    ∃ z : Int, lookupAV P h t (.mp m) (E x) false = some (.int .i64 z) ∧ (z = 0 ↔ ¬ S x) := by
  obtain ⟨fs, es, clk, a, b, c, d, e, f⟩ := k
  cases hl : MK.lookF x fs with
  | none =>
    refine ⟨0, by rw [MK.lookup_none ht hu hz a b hl]; rfl, ?_⟩
    rw [← d x, hl]; simp
  | some u =>
    obtain ⟨v, v1, v2⟩ := MK.lookup_some ht hu a b hl
    refine ⟨1, by rw [v2, v1]; rfl, ?_⟩
    rw [← d x, hl]; simp
end
end Go.Vn
