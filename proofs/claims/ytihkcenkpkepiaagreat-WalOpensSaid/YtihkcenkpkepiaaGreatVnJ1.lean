/- What functions of the program come to, in the value machine (a part of the proof of the claim's statement). No condition. -/
import Derived.Test.YtihkcenkpkepiaaGreatVnI4
set_option linter.unusedSimpArgs false
set_option linter.unusedVariables false
set_option maxRecDepth 20000
namespace Go.Vn
open Go.Proofs

theorem scan_can {b : List UInt8} : ∀ {i n : Nat} {l : List UInt8}, scan b i = .ok (n, l) → (0 < i → n ≠ 0) ∧ b = enc7 n ++ l := by
  induction b with
  | nil => intro i n l h; unfold scan at h; split at h <;> cases h
  | cons c r ih =>
    intro i n l h
    have hc := c.toNat_lt
    unfold scan at h
    split at h
    · cases h
    · split at h
      · rename_i h1
        cases hs : scan r (i + 1) with
        | error e => rw [hs] at h; cases h
        | ok p =>
          obtain ⟨m, l'⟩ := p
          rw [hs] at h
          cases h
          obtain ⟨h2, h3⟩ := ih hs
          have h2 := h2 (by omega)
          refine ⟨fun _ => by omega, ?_⟩
          rw [enc7_ge (by omega)]
          have e1 : (c.toNat % 128 + 128 * m) % 128 + 128 = c.toNat := by omega
          have e2 : (c.toNat % 128 + 128 * m) / 128 = m := by omega
          rw [e1, e2, List.cons_append, ← h3]
          simp
      · split at h
        · cases h
        · rename_i h1 h2
          cases h
          refine ⟨fun hi hz => h2 ⟨hz, hi⟩, ?_⟩
          rw [enc7_lt (by omega)]
          simp
theorem numP_can {b l : List UInt8} {n : Nat} (h : numP b = .ok (n, l)) : b = enc7 n ++ l := by
  unfold numP at h
  cases hs : scan b 0 with
  | error e => rw [hs] at h; cases h
  | ok p =>
    obtain ⟨m, l'⟩ := p
    rw [hs] at h
    simp only at h
    split at h
    · cases h
    · cases h; exact (scan_can hs).2
theorem numX_can {s : RdS} {r : List UInt8} (h : (numX s).2 = .ok r) : ∃ b, s = .ok b ∧ b = enc7 (numX s).1 ++ r := by
  cases s with
  | error e => simp [numX] at h
  | ok b =>
    cases hn : numP b with
    | error e =>
      have : numX (.ok b) = (0, .error e) := by unfold numX; simp only [hn]
      rw [this] at h; cases h
    | ok p =>
      obtain ⟨n, l⟩ := p
      have : numX (.ok b) = (n, .ok l) := by unfold numX; simp only [hn]
      rw [this] at h ⊢; cases h
      exact ⟨b, rfl, numP_can hn⟩
theorem textX_can {m : Nat} {s : RdS} {r : List UInt8} (h : (textX m s).2 = .ok r) : ∃ b, s = .ok b ∧ b = enc7 (textX m s).1.length ++ ((textX m s).1 ++ r) := by
  unfold textX at h ⊢
  cases hn : (numX s).2 with
  | error e => rw [hn] at h; cases h
  | ok b =>
    obtain ⟨b0, e0, h0⟩ := numX_can hn
    rw [hn] at h
    simp only at h ⊢
    split at h
    · cases h
    · rename_i q1
      split at h
      · cases h
      · rename_i q2
        cases h
        rw [if_neg q1, if_neg q2]
        refine ⟨b0, e0, ?_⟩
        simp only [List.take_append_drop, List.length_take]
        rw [Nat.min_eq_left (by omega)]
        exact h0
theorem verX_can {b r : List UInt8} {v : Ver} (h : verX (.ok b) = (.ok v, .ok r)) : b = encVb v ++ r := by
  unfold verX at h
  cases hv : (verV (.ok b)).2.2 with
  | error e => rw [hv] at h; cases h
  | ok r' =>
    rw [hv] at h
    simp only at h
    split at h
    · cases h
    · rename_i q
      cases h
      rw [encVb_eq]
      unfold verV at hv q ⊢
      simp only at hv q ⊢
      obtain ⟨b8, e8, l8⟩ := textX_can hv
      obtain ⟨b7, e7, l7⟩ := textX_can e8
      obtain ⟨b6, e6, l6⟩ := numX_can e7
      obtain ⟨b5, e5, l5⟩ := numX_can e6
      obtain ⟨b4, e4, l4⟩ := numX_can e5
      obtain ⟨b3, e3, l3⟩ := numX_can e4
      obtain ⟨b2, e2, l2⟩ := numX_can e3
      obtain ⟨b1, e1, l1⟩ := numX_can e2
      cases e1
      have hg : ∀ g : Nat, ¬ 1 < g → (goneI (decide (g = 1))).toNat = g := by
        intro g hg
        have : g = 0 ∨ g = 1 := by omega
        rcases this with rfl | rfl <;> rfl
      have hg' := hg _ (fun z => q (.inl z))
      rw [hg']
      have hsub : ∀ a c : Nat, ((a : Int) + (c : Int) - (a : Int)).toNat = c := fun a c => by omega
      simp only [Int.toNat_natCast]
      rw [hsub, ← l8, ← l7, ← l6, ← l5, ← l4, ← l3, ← l2, ← l1]
theorem allL_can : ∀ {n : Nat} {b : List UInt8} {l : List Ver}, allL n b = .ok l → b = l.flatMap encVb
  | 0, b, l, h => by
    unfold allL at h
    split at h
    · rename_i hb; cases h; exact List.length_eq_zero_iff.mp hb
    · cases h
  | n + 1, b, l, h => by
    cases hx : verX (.ok b) with
    | mk x s =>
      cases x with
      | error e => rw [allL_er hx] at h; cases h
      | ok v =>
        obtain ⟨r, rfl, h1, h2, h3⟩ := verX_ok hx
        have := allL_ok (n := n) hx []
        rw [cmbA_nil, h] at this
        cases hr : allL n r with
        | error e => rw [hr] at this; cases this
        | ok l' =>
          rw [hr] at this
          cases this
          rw [verX_can hx, allL_can hr]
          simp
theorem allX_can {b : List UInt8} {l : List Ver} (h : allX b = .ok l) : b = encL l := by
  unfold allX at h
  cases hn : numP b with
  | error e => rw [hn] at h; cases h
  | ok p =>
    obtain ⟨n, r⟩ := p
    rw [hn] at h
    simp only at h
    have h1 := (allL_all h).1
    rw [numP_can hn, allL_can h]
    simp [encL, encs, h1]
theorem readP_can {b r : List UInt8} {m : Nat} {vs : List Ver} (h : numP b = .ok (m, r)) (k : allX r = .ok vs) : readP b = if GMay m vs = true then some ((m : Int), vs) else none := by
  rw [readP_ok h k]
  have : encG m vs = b := by
    rw [numP_can h, allX_can k]
    simp [encG, encs]
  by_cases g : GMay m vs = true
  · rw [if_pos ⟨g, this⟩, if_pos g]
  · rw [if_neg (fun z => g z.1), if_neg g]

def lead : List UInt8 → Nat
  | [] => 0
  | c :: r => if 128 ≤ c.toNat then lead r + 1 else 0
def val7 : List UInt8 → Nat
  | [] => 0
  | c :: r => c.toNat % 128 + 128 * val7 r
theorem lead_le : ∀ b : List UInt8, lead b ≤ b.length
  | [] => by simp [lead]
  | c :: r => by
    have := lead_le r
    unfold lead
    split <;> simp <;> omega
theorem lead_ge : ∀ {b : List UInt8} {j : Nat} (h : j < lead b), 128 ≤ (b[j]'(Nat.lt_of_lt_of_le h (lead_le b))).toNat
  | [], j, h => by simp [lead] at h
  | c :: r, 0, h => by
    unfold lead at h
    split at h
    · rename_i q; exact q
    · omega
  | c :: r, j + 1, h => by
    have h' := h
    unfold lead at h'
    split at h'
    · exact lead_ge (b := r) (by omega)
    · omega
theorem lead_lt : ∀ {b : List UInt8} (h : lead b < b.length), (b[lead b]).toNat < 128
  | [], h => by simp at h
  | c :: r, h => by
    by_cases q : 128 ≤ c.toNat
    · have e : lead (c :: r) = lead r + 1 := by simp [lead, q]
      have hr : lead r < r.length := by rw [e] at h; simpa using h
      have := lead_lt hr
      simp only [e, List.getElem_cons_succ]
      exact this
    · have e : lead (c :: r) = 0 := by simp [lead, q]
      simp only [e, List.getElem_cons_zero]
      omega
theorem scan_lead : ∀ (b : List UInt8) (i : Nat), i ≤ 9 → scan b i = if 9 ≤ i + lead b then .error 2 else if h : lead b < b.length then (if (b[lead b]).toNat = 0 ∧ 0 < i + lead b then .error 2 else .ok (val7 (b.take (lead b + 1)), b.drop (lead b + 1))) else .error 3
  | [], i, hi => by
    unfold scan
    by_cases q : i = 9
    · rw [if_pos q, if_pos (by simp [lead]; omega)]
    · rw [if_neg q, if_neg (by simp [lead]; omega), dif_neg (by simp)]
  | c :: r, i, hi => by
    have hc := c.toNat_lt
    unfold scan
    by_cases q9 : i = 9
    · rw [if_pos q9, if_pos (by omega)]
    rw [if_neg q9]
    by_cases q : 128 ≤ c.toNat
    · have e : lead (c :: r) = lead r + 1 := by simp [lead, q]
      rw [if_pos q, scan_lead r (i + 1) (by omega)]
      simp only [e]
      by_cases h9 : 9 ≤ i + (lead r + 1)
      · rw [if_pos h9, if_pos (by omega)]
      · rw [if_neg h9, if_neg (by omega)]
        by_cases hl : lead r < r.length
        · rw [dif_pos hl, dif_pos (by simpa using hl)]
          simp only [List.getElem_cons_succ]
          by_cases hz : (r[lead r]).toNat = 0
          · rw [if_pos ⟨hz, by omega⟩, if_pos ⟨hz, by omega⟩]
          · rw [if_neg (fun z => hz z.1), if_neg (fun z => hz z.1)]
            simp [val7]
        · rw [dif_neg hl, dif_neg (by simpa using hl)]
    · have e : lead (c :: r) = 0 := by simp [lead, q]
      rw [if_neg q]
      simp only [e]
      by_cases hz : c.toNat = 0 ∧ 0 < i
      · rw [if_pos hz, if_neg (by omega), dif_pos (by simp)]
        simp only [List.getElem_cons_zero, Nat.add_zero]
        rw [if_pos hz]
      · rw [if_neg hz, if_neg (by omega), dif_pos (by simp)]
        simp only [List.getElem_cons_zero, Nat.add_zero]
        rw [if_neg hz]
        simp [val7, Nat.mod_eq_of_lt (Nat.lt_of_not_le q)]
theorem enc7_lo : ∀ (k n : Nat), 128 ^ k ≤ n → k + 1 ≤ (enc7 n).length
  | 0, n, _ => by
    by_cases q : n < 128
    · rw [enc7_lt q]; simp
    · rw [enc7_ge q]; simp
  | k + 1, n, h => by
    have : 128 ≤ n := by
      have : 0 < 128 ^ k := Nat.pow_pos (by omega)
      rw [Nat.pow_succ] at h; omega
    rw [enc7_ge (by omega), List.length_cons]
    have := enc7_lo k (n / 128) (by rw [Nat.pow_succ] at h; exact (Nat.le_div_iff_mul_le (by omega)).mpr h)
    omega
theorem val7_lt : ∀ (b : List UInt8), val7 b < 128 ^ b.length
  | [] => by simp [val7]
  | c :: r => by
    have := val7_lt r
    rw [val7, List.length_cons, Nat.pow_succ]
    omega
theorem val7_app (b : List UInt8) (c : UInt8) : val7 (b ++ [c]) = val7 b + 128 ^ b.length * (c.toNat % 128) := by
  induction b with
  | nil => simp [val7]
  | cons a b ih =>
    rw [List.cons_append, val7, ih, val7, List.length_cons, Nat.pow_succ, Nat.mul_add, ← Nat.add_assoc, Nat.mul_comm (128 ^ b.length) 128, Nat.mul_assoc]
theorem val7_len {b : List UInt8} {c : UInt8} (hc : c.toNat < 128) : (enc7 (val7 (b ++ [c]))).length = b.length + 1 ↔ ¬ (c.toNat = 0 ∧ 0 < b.length) := by
  have e := val7_app b c
  have hb := val7_lt b
  rw [Nat.mod_eq_of_lt hc] at e
  have up : (enc7 (val7 (b ++ [c]))).length ≤ b.length + 1 := enc7_len _ _ (by have := val7_lt (b ++ [c]); simpa using this)
  constructor
  · intro h ⟨hz, hp⟩
    rw [hz, Nat.mul_zero, Nat.add_zero] at e
    obtain ⟨k, hk⟩ : ∃ k, b.length = k + 1 := ⟨b.length - 1, by omega⟩
    have := enc7_len k (val7 (b ++ [c])) (by rw [e, ← hk]; exact hb)
    omega
  · intro h
    by_cases hz : c.toNat = 0
    · have : b.length = 0 := by
        by_cases q : 0 < b.length
        · exact absurd ⟨hz, q⟩ h
        · omega
      have b0 : b = [] := List.length_eq_zero_iff.mp this
      subst b0
      simp [val7, hz, enc7_lt]
    · have lo : 128 ^ b.length ≤ val7 (b ++ [c]) := by
        rw [e]
        have : 128 ^ b.length * 1 ≤ 128 ^ b.length * c.toNat := Nat.mul_le_mul_left _ (by omega)
        omega
      have := enc7_lo b.length _ lo
      omega
end Go.Vn

set_option maxRecDepth 20000
namespace Go.Vn
open Go.Proofs

def Rd2 (h : Hp Fm) (q : Nat) (b0 : List UInt8) (bv : AV) (s : RdS) : Prop := ∃ i : Nat, i ≤ b0.length ∧ match s with
  | .ok cur => Mp.get h.obj q = some (.row [bv, .int .i64 i, .int .i64 0]) ∧ cur = b0.drop i
  | .error e => Mp.get h.obj q = some (.row [bv, .int .i64 i, .int .i64 e]) ∧ e ≠ 0
theorem Rd2.of {h h' : Hp Fm} {q : Nat} {b0 : List UInt8} {bv : AV} {s : RdS} (k : Rd2 h q b0 bv s) (e : Mp.get h'.obj q = Mp.get h.obj q) : Rd2 h' q b0 bv s := by
  obtain ⟨i, hi, k⟩ := k
  cases s with
  | ok b => exact ⟨i, hi, e.trans k.1, k.2⟩
  | error x => exact ⟨i, hi, e.trans k.1, k.2⟩

theorem r2fail_ans (q : Nat) (bv : AV) (i e : Int) (h0 : Hp Fm) (hg : Mp.get h0.obj q = some (.row [bv, .int .i64 i, .int .i64 0])) :
    A Tryz.prog TT (.func 86) [.ptr q 0, .int .i64 e] h0 (fun _ h' => Mp.get h'.obj q = some (.row [bv, .int .i64 i, .int .i64 e]) ∧ HX (fun o => o = q) (fun _ => False) h0 h') := by
  apply A_go Tryz.func86 rfl (by rfl); (case hn => (simp [Tryz.ntmps86]; rfl))
  repeat(first|with_reducible first|refine vmR ?_|refine vmV rfl ?_|refine vmW rfl ?_|refine vmL ?_|refine blockW_y (by decide) ?_|((with_reducible first|apply vmO|apply vmT|apply vmC);case a=>simp [hg];with_reducible first|exact .v|exact .c|exact .t|exact .f))
  (first | apply endW_r | apply endW_n); (case h1 => (simp [Tryz.results86]; first | done | rfl))
  exact ⟨by simp, (HX.refl (fun o => o = q) (fun _ => False) h0).set (fun _ => rfl) _⟩

set_option maxHeartbeats 4000000 in
theorem r2num_ans (q : Nat) (b0 : List UInt8) (bv : AV) (sv : SV 1 (b0.map byteAV) bv) (hl : b0.length ≤ 16777216) (s : RdS) (h0 : Hp Fm) (k : Rd2 h0 q b0 bv s) (qn : q < h0.no) (hp : ∀ z, h0.pol z = false) :
    A Tryz.prog TT (.func 66) [.ptr q 0] h0 (fun r h' => r = .int .i64 ((numX s).1 : Int) ∧ Rd2 h' q b0 bv (numX s).2 ∧ HX (fun o => o = q) (fun _ => False) h0 h') := by
  have c1 := sv.cells
  have i1 := sv.isCell
  have n1 := sv.nm
  have l1 := sv.len Tryz.underlying22
  rw [List.length_map] at l1
  obtain ⟨i, hi, k⟩ := k
  cases s with
  | error e =>
    obtain ⟨g, ne⟩ := k
    apply A_go Tryz.func66 rfl (by rfl); (case hn => (simp [Tryz.ntmps66]; rfl))
    repeat(first|with_reducible first|refine vmR ?_|refine vmV rfl ?_|refine vmW rfl ?_|refine vmL ?_|refine blockW_y (by decide) ?_|((with_reducible first|apply vmO|apply vmT|apply vmC);case a=>simp [g, ne];with_reducible first|exact .v|exact .c|exact .t|exact .f))
    (first | apply endW_r | apply endW_n); (case h1 => (simp [Tryz.results66]; first | done | rfl))
    exact ⟨by simp [numX], ⟨i, hi, g, ne⟩, HX.refl _ _ _⟩
  | ok cur =>
    obtain ⟨g, hcur⟩ := k
    have cl : cur.length = b0.length - i := by rw [hcur, List.length_drop]
    have ll := lead_le cur
    have SC := scan_lead cur 0 (by omega)
    simp only [Nat.zero_add] at SC
    obtain ⟨ld, hld⟩ : ∃ ld, ld = lead cur := ⟨_, rfl⟩
    have IX : ∀ (j : Nat) (hj : j < cur.length), indexAddrAV Tryz.prog 22 bv (.int .i64 ((i + j : Nat) : Int)) = some (.el (.int .u8 ((cur[j]).toNat : Int)) 0) := by
      intro j hj
      have ix := sv.idx (k := .i64) (i := ((i + j : Nat) : Int)) Tryz.underlying22 z5 (by omega) (by simp; omega)
      rw [ix]
      simp only [Int.toNat_natCast, List.getElem_map, byteAV]
      congr 5
      subst hcur
      rw [List.getElem_drop]
    obtain ⟨K, hK⟩ : ∃ K, K = min ld 9 := ⟨_, rfl⟩
    apply A_go Tryz.func66 rfl (by rfl); (case hn => (simp [Tryz.ntmps66]; rfl))
    repeat(first|with_reducible first|refine vmR ?_|refine vmV rfl ?_|refine vmW rfl ?_|refine vmL ?_|refine blockW_y (by decide) ?_|((with_reducible first|apply vmO|apply vmT|apply vmC);case a=>simp [g];with_reducible first|exact .v|exact .c|exact .t|exact .f))
    refine W.mono (R := fun e s => e = .exit 0 ∧ ∃ (t : Fm AV) (h : Hp Fm), s = ⟨t, 107, h, none⟩ ∧ tget t 0 = .ptr q 0 ∧ tget t 3 = .int .i64 K ∧ HE h0 h) ?_ ?_
    · refine W_loop (fun m s => ∃ (t : Fm AV) (h : Hp Fm) (k : Nat), s = ⟨t, 107, h, none⟩ ∧ m = K - k ∧ k ≤ K ∧ tget t 0 = .ptr q 0 ∧ tget t 3 = .int .i64 k ∧ HE h0 h) K
        ⟨_, _, 0, rfl, by omega, by omega, by simp, by simp, HE.refl h0⟩ ?_
      rintro m s ⟨t, h, k, rfl, rfl, hk, t0, t3, he⟩
      have gr := (he.obj _ qn).trans g
      obtain ⟨ik, hik⟩ : ∃ ik, ik = i + k := ⟨_, rfl⟩
      have wik : IntKind.i64.wrap ((i : Int) + (k : Int)) = (ik : Int) := by rw [wrap64 (by omega) (by omega)]; omega
      have wk1 : IntKind.i64.wrap ((k : Int) + 1) = ((k + 1 : Nat) : Int) := by rw [wrap64 (by omega) (by omega)]; omega
      by_cases qk : k < K
      · have hkl : k < lead cur := by omega
        have ge := lead_ge hkl
        have q1 : (ik : Int) < b0.length := by omega
        have q1' : ik < b0.length := by omega
        have q2 : (k : Int) < 9 := by omega
        have q2' : k < 9 := by omega
        have ix := IX k (by omega)
        rw [← hik] at ix
        obtain ⟨cn, hcn⟩ : ∃ cn : Nat, cn = (cur[k]'(by omega)).toNat := ⟨_, rfl⟩
        rw [← hcn] at ix ge
        have q3 : (128 : Int) ≤ cn := by omega
        repeat(first|with_reducible first|refine vmR ?_|refine vmV rfl ?_|refine vmW rfl ?_|refine vmL ?_|refine blockW_y (by decide) ?_|((with_reducible first|apply vmO|apply vmT|apply vmC);case a=>simp;with_reducible first|exact .v|exact .c|exact .t|exact .f))
        (with_reducible refine W_draw_id (pln := true) [0, 1, 2, 3, 4, 5, 6, 7, 8, 9, 10, 11, 12, 13, 14, 15, 16, 17, 18, 19, 20, 21, 22, 23, 24, 25, 26, 27, 28, 29, 30] [(3, (3, [])), (9, (9, [])), (20, (20, [])), (24, (24, [])), (28, (28, []))] (by kernel_rfl) rfl ?_)
        repeat(first|with_reducible first|refine vmR ?_|refine vmV rfl ?_|refine vmW rfl ?_|refine vmL ?_|refine blockW_y (by decide) ?_|((with_reducible first|apply vmO|apply vmT|apply vmC);case a=>simp [t0, t3, gr, c1, i1, n1, l1, wik, q1, q1', q2, q2', ix, q3, ge];with_reducible first|exact .v|exact .c|exact .t|exact .f))
        refine ⟨by simp [readSame, beqAV_self, t0, t3, gr, wik, ix]; done, _, by simp; first | done | rfl, ?_⟩
        repeat(first|with_reducible first|refine vmR ?_|refine vmV rfl ?_|refine vmW rfl ?_|refine vmL ?_|refine blockW_y (by decide) ?_|((with_reducible first|apply vmO|apply vmT|apply vmC);case a=>simp [t3, wk1];with_reducible first|exact .v|exact .c|exact .t|exact .f))
        exact ⟨K - (k + 1), by omega, _, _, k + 1, rfl, rfl, by omega, by simp [t0], by simp, he.drew⟩
      · have ek : k = K := by omega
        by_cases q1 : ik < b0.length
        · have q1' : (ik : Int) < b0.length := by omega
          by_cases q2 : k < 9
          · have q2' : (k : Int) < 9 := by omega
            have kld : k = lead cur := by omega
            have hkc : lead cur < cur.length := by omega
            have lt := lead_lt hkc
            obtain ⟨cn, hcn⟩ : ∃ cn : Nat, cn = (cur[lead cur]).toNat := ⟨_, rfl⟩
            have eik : i + lead cur = ik := by omega
            have ix' : indexAddrAV Tryz.prog 22 bv (.int .i64 (ik : Int)) = some (.el (.int .u8 (cn : Int)) 0) := by
              have := IX (lead cur) hkc
              rw [eik] at this
              rw [this, hcn]
            rw [← hcn] at lt
            have q3 : ¬ (128 : Int) ≤ cn := by omega
            have q3' : ¬ 128 ≤ cn := by omega
            repeat(first|with_reducible first|refine vmR ?_|refine vmV rfl ?_|refine vmW rfl ?_|refine vmL ?_|refine blockW_y (by decide) ?_|((with_reducible first|apply vmO|apply vmT|apply vmC);case a=>simp;with_reducible first|exact .v|exact .c|exact .t|exact .f))
            (with_reducible refine W_draw_id (pln := true) [0, 1, 2, 3, 4, 5, 6, 7, 8, 9, 10, 11, 12, 13, 14, 15, 16, 17, 18, 19, 20, 21, 22, 23, 24, 25, 26, 27, 28, 29, 30] [(3, (3, [])), (9, (9, [])), (20, (20, [])), (24, (24, [])), (28, (28, []))] (by kernel_rfl) rfl ?_)
            repeat(first|with_reducible first|refine vmR ?_|refine vmV rfl ?_|refine vmW rfl ?_|refine vmL ?_|refine blockW_y (by decide) ?_|((with_reducible first|apply vmO|apply vmT|apply vmC);case a=>simp [t0, t3, gr, c1, i1, n1, l1, wik, q1, q1', q2, q2', ix', q3, q3'];with_reducible first|exact .v|exact .c|exact .t|exact .f))
            refine ⟨by simp [readSame, beqAV_self, t0, t3, gr, wik, ix']; done, _, by simp; first | done | rfl, ?_⟩
            repeat(first|with_reducible first|refine vmR ?_|refine vmV rfl ?_|refine vmW rfl ?_|refine vmL ?_|refine blockW_y (by decide) ?_|((with_reducible first|apply vmO|apply vmT|apply vmC);case a=>simp;with_reducible first|exact .v|exact .c|exact .t|exact .f))
            exact ⟨rfl, _, _, rfl, by simp [t0], by simp [t3, ek], he.drew⟩
          · have q2' : ¬ (k : Int) < 9 := by omega
            repeat(first|with_reducible first|refine vmR ?_|refine vmV rfl ?_|refine vmW rfl ?_|refine vmL ?_|refine blockW_y (by decide) ?_|((with_reducible first|apply vmO|apply vmT|apply vmC);case a=>simp;with_reducible first|exact .v|exact .c|exact .t|exact .f))
            (with_reducible refine W_draw_id (pln := true) [0, 1, 2, 3, 4, 5, 6, 7, 8, 9, 10, 11, 12, 13, 14, 15, 16, 17, 18, 19, 20, 21, 22, 23, 24, 25, 26, 27, 28, 29, 30] [(3, (3, [])), (9, (9, [])), (20, (20, [])), (24, (24, [])), (28, (28, []))] (by kernel_rfl) rfl ?_)
            repeat(first|with_reducible first|refine vmR ?_|refine vmV rfl ?_|refine vmW rfl ?_|refine vmL ?_|refine blockW_y (by decide) ?_|((with_reducible first|apply vmO|apply vmT|apply vmC);case a=>simp [t0, t3, gr, c1, i1, n1, l1, wik, q1, q1', q2, q2'];with_reducible first|exact .v|exact .c|exact .t|exact .f))
            refine ⟨by simp [readSame, beqAV_self, t0, t3, gr, wik]; done, _, by simp; first | done | rfl, ?_⟩
            repeat(first|with_reducible first|refine vmR ?_|refine vmV rfl ?_|refine vmW rfl ?_|refine vmL ?_|refine blockW_y (by decide) ?_|((with_reducible first|apply vmO|apply vmT|apply vmC);case a=>simp;with_reducible first|exact .v|exact .c|exact .t|exact .f))
            exact ⟨rfl, _, _, rfl, by simp [t0], by simp [t3, ek], he.drew⟩
        · have q1' : ¬ (ik : Int) < b0.length := by omega
          repeat(first|with_reducible first|refine vmR ?_|refine vmV rfl ?_|refine vmW rfl ?_|refine vmL ?_|refine blockW_y (by decide) ?_|((with_reducible first|apply vmO|apply vmT|apply vmC);case a=>simp;with_reducible first|exact .v|exact .c|exact .t|exact .f))
          (with_reducible refine W_draw_id (pln := true) [0, 1, 2, 3, 4, 5, 6, 7, 8, 9, 10, 11, 12, 13, 14, 15, 16, 17, 18, 19, 20, 21, 22, 23, 24, 25, 26, 27, 28, 29, 30] [(3, (3, [])), (9, (9, [])), (20, (20, [])), (24, (24, [])), (28, (28, []))] (by kernel_rfl) rfl ?_)
          repeat(first|with_reducible first|refine vmR ?_|refine vmV rfl ?_|refine vmW rfl ?_|refine vmL ?_|refine blockW_y (by decide) ?_|((with_reducible first|apply vmO|apply vmT|apply vmC);case a=>simp [t0, t3, gr, c1, i1, n1, l1, wik, q1, q1'];with_reducible first|exact .v|exact .c|exact .t|exact .f))
          refine ⟨by simp [readSame, beqAV_self, t0, t3, gr, wik]; done, _, by simp; first | done | rfl, ?_⟩
          repeat(first|with_reducible first|refine vmR ?_|refine vmV rfl ?_|refine vmW rfl ?_|refine vmL ?_|refine blockW_y (by decide) ?_|((with_reducible first|apply vmO|apply vmT|apply vmC);case a=>simp;with_reducible first|exact .v|exact .c|exact .t|exact .f))
          exact ⟨rfl, _, _, rfl, by simp [t0], by simp [t3, ek], he.drew⟩
    rintro _ _ ⟨rfl, t, h, rfl, t0, t3, he⟩
    have gr := (he.obj _ qn).trans g
    have qnh := Nat.lt_of_lt_of_le qn he.no
    have FX : ∀ (e : Int), numP cur = .error e → numX (.ok cur) = (0, .error e) := fun e h => by unfold numX; simp only [h]
    by_cases q9 : 9 ≤ ld
    · have eK : K = 9 := by omega
      have q9' : (K : Int) = 9 := by omega
      have en : numP cur = .error 2 := by unfold numP; rw [SC, if_pos (by omega)]
      rw [FX 2 en]
      repeat(first|with_reducible first|refine vmR ?_|refine vmV rfl ?_|refine vmW rfl ?_|refine vmL ?_|refine blockW_y (by decide) ?_|((with_reducible first|apply vmO|apply vmT|apply vmC);case a=>simp [t0, t3, eK, q9'];with_reducible first|exact .v|exact .c|exact .t|exact .f))
      refine A.mono (r2fail_ans q bv i 2 h gr) ?_
      rintro r h2 ⟨g2, x2⟩
      refine ⟨_, by simp; first | done | rfl, ?_⟩
      repeat(first|with_reducible first|refine vmR ?_|refine vmV rfl ?_|refine vmW rfl ?_|refine vmL ?_|refine blockW_y (by decide) ?_|((with_reducible first|apply vmO|apply vmT|apply vmC);case a=>simp;with_reducible first|exact .v|exact .c|exact .t|exact .f))
      (first | apply endW_r | apply endW_n); (case h1 => (simp [Tryz.results66]; first | done | rfl))
      exact ⟨by simp, ⟨i, hi, g2, by decide⟩, (he.x _ _).trans x2⟩
    have q9n : ¬ K = 9 := by omega
    have q9' : ¬ (K : Int) = 9 := by omega
    have eK : K = ld := by omega
    rw [if_neg (by omega)] at SC
    obtain ⟨ik, hik⟩ : ∃ ik, ik = i + K := ⟨_, rfl⟩
    have wik : IntKind.i64.wrap ((i : Int) + (K : Int)) = (ik : Int) := by rw [wrap64 (by omega) (by omega)]; omega
    by_cases qs : ld < cur.length
    case neg =>
      have q1 : b0.length ≤ ik := by omega
      have q1' : (b0.length : Int) ≤ ik := by omega
      rw [dif_neg (by rw [← hld]; exact qs)] at SC
      have en : numP cur = .error 3 := by unfold numP; rw [SC]
      rw [FX 3 en]
      repeat(first|with_reducible first|refine vmR ?_|refine vmV rfl ?_|refine vmW rfl ?_|refine vmL ?_|refine blockW_y (by decide) ?_|((with_reducible first|apply vmO|apply vmT|apply vmC);case a=>simp [t0, t3, q9n, q9'];with_reducible first|exact .v|exact .c|exact .t|exact .f))
      (with_reducible refine W_draw_id (pln := true) [0, 1, 2, 3, 4, 5, 6, 7, 8, 9, 10, 11] [(3, (3, [])), (9, (9, []))] (by kernel_rfl) rfl ?_)
      repeat(first|with_reducible first|refine vmR ?_|refine vmV rfl ?_|refine vmW rfl ?_|refine vmL ?_|refine blockW_y (by decide) ?_|((with_reducible first|apply vmO|apply vmT|apply vmC);case a=>simp [t0, t3, gr, c1, i1, n1, l1, wik, q1, q1'];with_reducible first|exact .v|exact .c|exact .t|exact .f))
      refine ⟨by simp [readSame, beqAV_self, t0, t3, gr, wik]; done, _, by simp; first | done | rfl, ?_⟩
      repeat(first|with_reducible first|refine vmR ?_|refine vmV rfl ?_|refine vmW rfl ?_|refine vmL ?_|refine blockW_y (by decide) ?_|((with_reducible first|apply vmO|apply vmT|apply vmC);case a=>simp [t0];with_reducible first|exact .v|exact .c|exact .t|exact .f))
      refine A.mono (r2fail_ans q bv i 3 h.drew gr) ?_
      rintro r h2 ⟨g2, x2⟩
      refine ⟨_, by simp; first | done | rfl, ?_⟩
      repeat(first|with_reducible first|refine vmR ?_|refine vmV rfl ?_|refine vmW rfl ?_|refine vmL ?_|refine blockW_y (by decide) ?_|((with_reducible first|apply vmO|apply vmT|apply vmC);case a=>simp;with_reducible first|exact .v|exact .c|exact .t|exact .f))
      (first | apply endW_r | apply endW_n); (case h1 => (simp [Tryz.results66]; first | done | rfl))
      exact ⟨by simp, ⟨i, hi, g2, by decide⟩, (he.drew.x _ _).trans x2⟩
    have q1 : ¬ b0.length ≤ ik := by omega
    have q1' : ¬ (b0.length : Int) ≤ ik := by omega
    have hlc : lead cur < cur.length := by rw [← hld]; exact qs
    rw [dif_pos hlc] at SC
    have lt := lead_lt hlc
    obtain ⟨c, hc⟩ : ∃ c, c = cur[lead cur] := ⟨_, rfl⟩
    rw [← hc] at SC lt
    have et : cur.take (lead cur + 1) = cur.take (lead cur) ++ [c] := by rw [List.take_succ_eq_append_getElem hlc, hc]
    obtain ⟨T, hT⟩ : ∃ T, T = cur.take (lead cur + 1) := ⟨_, rfl⟩
    have Tl : T.length = K + 1 := by rw [hT, List.length_take, Nat.min_eq_left (by omega), eK, hld]
    have tkl : (cur.take (lead cur)).length = K := by rw [List.length_take, Nat.min_eq_left (by omega), eK, hld]
    have VL := val7_len (b := cur.take (lead cur)) lt
    rw [← et, ← hT, tkl] at VL
    rw [← hT] at SC
    obtain ⟨N, hN⟩ : ∃ N, N = val7 T := ⟨_, rfl⟩
    rw [← hN] at VL SC
    have NL : N < 128 ^ 9 := by
      rw [hN]
      refine Nat.lt_of_lt_of_le (val7_lt T) (Nat.pow_le_pow_right (by omega) (by omega))
    repeat(first|with_reducible first|refine vmR ?_|refine vmV rfl ?_|refine vmW rfl ?_|refine vmL ?_|refine blockW_y (by decide) ?_|((with_reducible first|apply vmO|apply vmT|apply vmC);case a=>simp [t0, t3, q9n, q9'];with_reducible first|exact .v|exact .c|exact .t|exact .f))
    (with_reducible refine W_draw_id (pln := true) [0, 1, 2, 3, 4, 5, 6, 7, 8, 9, 10, 11] [(3, (3, [])), (9, (9, []))] (by kernel_rfl) rfl ?_)
    repeat(first|with_reducible first|refine vmR ?_|refine vmV rfl ?_|refine vmW rfl ?_|refine vmL ?_|refine blockW_y (by decide) ?_|((with_reducible first|apply vmO|apply vmT|apply vmC);case a=>simp [t0, t3, gr, c1, i1, n1, l1, wik, q1, q1'];with_reducible first|exact .v|exact .c|exact .t|exact .f))
    refine ⟨by simp [readSame, beqAV_self, t0, t3, gr, wik]; done, _, by simp; first | done | rfl, ?_⟩
    repeat(first|with_reducible first|refine vmR ?_|refine vmV rfl ?_|refine vmW rfl ?_|refine vmL ?_|refine blockW_y (by decide) ?_|((with_reducible first|apply vmO|apply vmT|apply vmC);case a=>simp [t3];with_reducible first|exact .v|exact .c|exact .t|exact .f))
    refine W.mono (R := fun e s => e = .exit 2 ∧ ∃ (t : Fm AV) (h : Hp Fm), s = ⟨t, 107, h, none⟩ ∧ tget t 0 = .ptr q 0 ∧ tget t 3 = .int .i64 K ∧ tget t 4 = .int .i64 N ∧ HE h0 h) ?_ ?_
    · refine W_loop (fun m s => ∃ (t : Fm AV) (h : Hp Fm) (j : Nat), s = ⟨t, 107, h, none⟩ ∧ m = j ∧ j ≤ K + 1 ∧ tget t 0 = .ptr q 0 ∧ tget t 3 = .int .i64 K ∧ tget t 4 = .int .i64 (val7 (T.drop j) : Nat) ∧ tget t 5 = .int .i64 ((j : Int) - 1) ∧ HE h0 h) (K + 1)
        ⟨_, _, K + 1, rfl, rfl, by omega, by simp [t0], by simp [t3], by simp [List.drop_eq_nil_iff.mpr (show T.length ≤ K + 1 by omega), val7], by simp, he.drew⟩ ?_
      clear t0 t3 gr he qnh
      rintro mm s ⟨t, h, j, rfl, hmj, hj, t0, t3, t4, t5, he⟩
      have gr := (he.obj _ qn).trans g
      by_cases qj : j = 0
      · subst qj
        repeat(first|with_reducible first|refine vmR ?_|refine vmV rfl ?_|refine vmW rfl ?_|refine vmL ?_|refine blockW_y (by decide) ?_|((with_reducible first|apply vmO|apply vmT|apply vmC);case a=>simp [t5];with_reducible first|exact .v|exact .c|exact .t|exact .f))
        exact ⟨rfl, _, _, rfl, by simp [t0], by simp [t3], by simp [t4, hN], he⟩
      obtain ⟨j', hj'⟩ : ∃ j', j = j' + 1 := ⟨j - 1, by omega⟩
      subst hj'
      have ej : ((j' + 1 : Nat) : Int) - 1 = (j' : Int) := by omega
      rw [ej] at t5
      have hjc : j' < cur.length := by omega
      have ix := IX j' hjc
      obtain ⟨cn, hcn⟩ : ∃ cn : Nat, cn = (cur[j']).toNat := ⟨_, rfl⟩
      have hcl := (cur[j']).toNat_lt
      rw [← hcn] at ix hcl
      obtain ⟨ij, hij⟩ : ∃ ij, ij = i + j' := ⟨_, rfl⟩
      rw [← hij] at ix
      have wij : IntKind.i64.wrap ((i : Int) + (j' : Int)) = (ij : Int) := by rw [wrap64 (by omega) (by omega)]; omega
      have ed : T.drop j' = cur[j'] :: T.drop (j' + 1) := by
        rw [List.drop_eq_getElem_cons (by omega)]
        congr 1
        subst hT
        rw [List.getElem_take]
      have vd : val7 (T.drop j') = cn % 128 + 128 * val7 (T.drop (j' + 1)) := by rw [ed, val7, hcn]
      have vl : val7 (T.drop j') < 128 ^ 9 := by
        refine Nat.lt_of_lt_of_le (val7_lt _) (Nat.pow_le_pow_right (by omega) ?_)
        rw [List.length_drop]; omega
      obtain ⟨n0, hn0⟩ : ∃ n0, n0 = val7 (T.drop (j' + 1)) := ⟨_, rfl⟩
      obtain ⟨cm, hcm⟩ : ∃ cm, cm = cn % 128 := ⟨_, rfl⟩
      rw [← hn0, ← hcm] at vd
      rw [← hn0] at t4
      obtain ⟨n128, hn128⟩ : ∃ n128, n128 = 128 * n0 := ⟨_, rfl⟩
      obtain ⟨nn, hnn⟩ : ∃ nn, nn = val7 (T.drop j') := ⟨_, rfl⟩
      rw [← hnn] at vd vl
      have w1 : IntKind.i64.wrap (128 * (n0 : Int)) = (n128 : Int) := by rw [wrap64 (by omega) (by omega)]; omega
      have w2 : IntKind.i64.wrap (cn : Int) = (cn : Int) := wrap64 (by omega) (by omega)
      have w3 : Int.tmod (cn : Int) 128 = (cm : Int) := by rw [Int.tmod_eq_emod_of_nonneg (by omega)]; omega
      have w4 : IntKind.i64.wrap ((n128 : Int) + (cm : Int)) = (nn : Int) := by rw [wrap64 (by omega) (by omega)]; omega
      have w5 : IntKind.i64.wrap ((j' : Int) - 1) = (j' : Int) - 1 := wrap64 (by omega) (by omega)
      have q0 : (0 : Int) ≤ j' := by omega
      repeat(first|with_reducible first|refine vmR ?_|refine vmV rfl ?_|refine vmW rfl ?_|refine vmL ?_|refine blockW_y (by decide) ?_|((with_reducible first|apply vmO|apply vmT|apply vmC);case a=>simp [t5, q0];with_reducible first|exact .v|exact .c|exact .t|exact .f))
      (with_reducible refine W_draw_id (pln := true) [0, 1, 2, 3, 4, 5, 6, 7, 8, 9, 10, 11, 12, 13, 14, 15, 16, 17] [(5, (5, [])), (9, (9, [])), (13, (13, []))] (by kernel_rfl) rfl ?_)
      repeat(first|with_reducible first|refine vmR ?_|refine vmV rfl ?_|refine vmW rfl ?_|refine vmL ?_|refine blockW_y (by decide) ?_|((with_reducible first|apply vmO|apply vmT|apply vmC);case a=>simp [t0, t3, t4, t5, gr, c1, i1, ix, wij, w1, w2, w3, w4];with_reducible first|exact .v|exact .c|exact .t|exact .f))
      refine ⟨by simp [readSame, beqAV_self, t0, t3, t4, t5, gr, ix, wij]; done, _, by simp; first | done | rfl, ?_⟩
      repeat(first|with_reducible first|refine vmR ?_|refine vmV rfl ?_|refine vmW rfl ?_|refine vmL ?_|refine blockW_y (by decide) ?_|((with_reducible first|apply vmO|apply vmT|apply vmC);case a=>simp [t5, w5];with_reducible first|exact .v|exact .c|exact .t|exact .f))
      exact ⟨j', by omega, _, _, j', rfl, rfl, by omega, by simp [t0], by simp [t3], by simp [hnn], by simp, he.drew⟩
    clear t0 t3 gr he qnh
    rintro _ _ ⟨rfl, t, h, rfl, t0, t3, t4, he⟩
    have gr := (he.obj _ qn).trans g
    have qnh := Nat.lt_of_lt_of_le qn he.no
    by_cases qb : 4611686018427387904 ≤ N
    · have qb' : (4611686018427387904 : Int) ≤ N := by omega
      have en : numP cur = .error 2 := by
        unfold numP
        rw [SC]
        by_cases z : c.toNat = 0 ∧ 0 < lead cur
        · rw [if_pos z]
        · rw [if_neg z]; dsimp only; rw [if_pos qb]
      rw [FX 2 en]
      repeat(first|with_reducible first|refine vmR ?_|refine vmV rfl ?_|refine vmW rfl ?_|refine vmL ?_|refine blockW_y (by decide) ?_|((with_reducible first|apply vmO|apply vmT|apply vmC);case a=>simp [t0, t3, t4, qb, qb'];with_reducible first|exact .v|exact .c|exact .t|exact .f))
      refine A.mono (r2fail_ans q bv i 2 h gr) ?_
      rintro r h2 ⟨g2, x2⟩
      refine ⟨_, by simp; first | done | rfl, ?_⟩
      repeat(first|with_reducible first|refine vmR ?_|refine vmV rfl ?_|refine vmW rfl ?_|refine vmL ?_|refine blockW_y (by decide) ?_|((with_reducible first|apply vmO|apply vmT|apply vmC);case a=>simp;with_reducible first|exact .v|exact .c|exact .t|exact .f))
      (first | apply endW_r | apply endW_n); (case h1 => (simp [Tryz.results66]; first | done | rfl))
      exact ⟨by simp, ⟨i, hi, g2, by decide⟩, (he.x _ _).trans x2⟩
    have qb' : ¬ (4611686018427387904 : Int) ≤ N := by omega
    obtain ⟨K1, hK1⟩ : ∃ K1, K1 = K + 1 := ⟨_, rfl⟩
    have wK1 : IntKind.i64.wrap ((K : Int) + 1) = (K1 : Int) := by rw [wrap64 (by omega) (by omega)]; omega
    repeat(first|with_reducible first|refine vmR ?_|refine vmV rfl ?_|refine vmW rfl ?_|refine vmL ?_|refine blockW_y (by decide) ?_|((with_reducible first|apply vmO|apply vmT|apply vmC);case a=>simp [t0, t3, t4, qb, qb'];with_reducible first|exact .v|exact .c|exact .t|exact .f))
    refine A.mono (put2_nat N h (by omega) (by rw [he.pol]; exact hp _)) ?_
    rintro u h2 ⟨a2, e2⟩
    have uc := a2.sv.cells
    have ui := a2.sv.isCell
    have un := a2.sv.nm
    have ul := a2.sv.len Tryz.underlying22
    rw [List.length_map] at ul
    have he2 := he.trans e2
    have gr2 := (he2.obj _ qn).trans g
    refine ⟨_, by simp; first | done | rfl, ?_⟩
    by_cases qc : (enc7 N).length = K1
    · have qc' : ((enc7 N).length : Int) = K1 := by omega
      rw [hK1] at qc
      have nz := VL.mp qc
      have en : numP cur = .ok (N, cur.drop (lead cur + 1)) := by
        unfold numP
        rw [SC, if_neg (by rw [← hld, ← eK]; exact nz)]
        dsimp only
        rw [if_neg qb]
      have ex : numX (.ok cur) = (N, .ok (cur.drop (lead cur + 1))) := by unfold numX; simp only [en]
      rw [ex]
      rw [← hK1] at qc
      obtain ⟨ik1, hik1⟩ : ∃ ik1, ik1 = ik + 1 := ⟨_, rfl⟩
      have wik1 : IntKind.i64.wrap ((ik : Int) + 1) = (ik1 : Int) := by rw [wrap64 (by omega) (by omega)]; omega
      repeat(first|with_reducible first|refine vmR ?_|refine vmV rfl ?_|refine vmW rfl ?_|refine vmL ?_|refine blockW_y (by decide) ?_|((with_reducible first|apply vmO|apply vmT|apply vmC);case a=>simp [t0, t3, t4, uc, ui, un, ul, wK1, qc, qc', gr2, wik, wik1];with_reducible first|exact .v|exact .c|exact .t|exact .f))
      (first | apply endW_r | apply endW_n); (case h1 => (simp [Tryz.results66]; first | done | rfl))
      refine ⟨by simp, ⟨ik1, by omega, by simp, ?_⟩, HX.set (S := fun o => o = q) (he2.x (fun o => o = q) (fun _ => False)) (fun _ => rfl) _⟩
      rw [hcur, List.drop_drop]
      congr 1
      rw [← hcur]; omega
    · have qc' : ¬ ((enc7 N).length : Int) = K1 := by omega
      rw [hK1] at qc
      have nz := fun z => qc (VL.mpr z)
      have en : numP cur = .error 2 := by
        unfold numP
        rw [SC, if_pos (by rw [← hld, ← eK]; exact Classical.not_not.mp nz)]
      rw [FX 2 en]
      rw [← hK1] at qc
      repeat(first|with_reducible first|refine vmR ?_|refine vmV rfl ?_|refine vmW rfl ?_|refine vmL ?_|refine blockW_y (by decide) ?_|((with_reducible first|apply vmO|apply vmT|apply vmC);case a=>simp [t0, t3, t4, uc, ui, un, ul, wK1, qc, qc'];with_reducible first|exact .v|exact .c|exact .t|exact .f))
      refine A.mono (r2fail_ans q bv i 2 h2 gr2) ?_
      rintro r h3 ⟨g3, x3⟩
      refine ⟨_, by simp; first | done | rfl, ?_⟩
      repeat(first|with_reducible first|refine vmR ?_|refine vmV rfl ?_|refine vmW rfl ?_|refine vmL ?_|refine blockW_y (by decide) ?_|((with_reducible first|apply vmO|apply vmT|apply vmC);case a=>simp;with_reducible first|exact .v|exact .c|exact .t|exact .f))
      (first | apply endW_r | apply endW_n); (case h1 => (simp [Tryz.results66]; first | done | rfl))
      exact ⟨by simp, ⟨i, hi, g3, by decide⟩, (he2.x _ _).trans x3⟩
end Go.Vn
