/- What functions of the program come to, in the value machine (a part of the proof of the claim's statement). No condition. -/
import Derived.Test.YtnbflhcbhicgmaaGreatVnI3
set_option linter.unusedSimpArgs false
set_option linter.unusedVariables false
set_option maxRecDepth 20000
namespace Go.Vn
open Go.Proofs

theorem scan_enc (n : Nat) : ∀ (i : Nat) (r : List UInt8), i ≤ 8 → n < 128 ^ (9 - i) → (i = 0 ∨ n ≠ 0) → scan (enc7 n ++ r) i = .ok (n, r) := by
  induction n using Nat.strongRecOn with
  | _ n ih =>
    intro i r hi hn h0
    by_cases q : n < 128
    · rw [enc7_lt q]
      have e : (UInt8.ofNat n).toNat = n := by simp; omega
      show scan (UInt8.ofNat n :: r) i = _
      rw [scan, if_neg (by omega), e, if_neg (by omega), if_neg (by omega)]
    · rw [enc7_ge q]
      have e : (UInt8.ofNat (n % 128 + 128)).toNat = n % 128 + 128 := by simp; omega
      have hi8 : i ≠ 8 := by intro z; subst z; simp at hn; omega
      have ep : 128 ^ (9 - i) = 128 ^ (9 - (i + 1)) * 128 := by rw [show 9 - i = (9 - (i + 1)) + 1 by omega, Nat.pow_succ]
      rw [ep] at hn
      have := ih (n / 128) (by omega) (i + 1) r (by omega) (Nat.div_lt_of_lt_mul (by omega)) (by omega)
      show scan (UInt8.ofNat (n % 128 + 128) :: (enc7 (n / 128) ++ r)) i = _
      rw [scan, if_neg (by omega), e, if_pos (by omega), this]
      simp only
      congr 2
      omega
theorem numP_enc {n : Nat} (h : n < 4611686018427387904) (r : List UInt8) : numP (enc7 n ++ r) = .ok (n, r) := by
  unfold numP
  rw [scan_enc n 0 r (by omega) (by have : (128 : Nat) ^ (9 - 0) = 9223372036854775808 := by decide
                                    omega) (.inl rfl)]
  dsimp only
  rw [if_neg (by omega)]
theorem numX_enc {n : Nat} (h : n < 4611686018427387904) (r : List UInt8) : numX (.ok (enc7 n ++ r)) = (n, .ok r) := by
  unfold numX; simp only [numP_enc h]
theorem textX_enc {m : Nat} {s : List UInt8} (h : s.length ≤ m) (hs : s.length < 4611686018427387904) (r : List UInt8) : textX m (.ok (enc7 s.length ++ (s ++ r))) = (s, .ok r) := by
  unfold textX
  rw [numX_enc hs]
  dsimp only
  rw [if_neg (by omega), if_neg (by rw [List.length_append]; omega)]
  simp
theorem encVb_eq (v : Ver) (r : List UInt8) : encVb v ++ r = enc7 v.br.toNat ++ (enc7 v.ep.toNat ++ (enc7 v.sq.toNat ++ (enc7 v.fr.toNat ++ (enc7 (v.to - v.fr).toNat ++ (enc7 (goneI v.gone).toNat ++ (enc7 v.key.length ++ (v.key ++ (enc7 v.val.length ++ (v.val ++ r))))))))) := by
  simp [encVb, encs, encT]
theorem verX_enc {v : Ver} (hm : VMay v = true) (ht : VTiny v) (r : List UInt8) : verX (.ok (encVb v ++ r)) = (.ok v, .ok r) := by
  obtain ⟨h1, h2, h3, h4⟩ := vmay_num hm
  unfold SpMay at h4
  obtain ⟨t1, t2⟩ := ht
  have hg : (goneI v.gone).toNat ≤ 1 := by unfold goneI; split <;> decide
  have e : verV (.ok (encVb v ++ r)) = (v, (goneI v.gone).toNat, .ok r) := by
    rw [encVb_eq]
    unfold verV
    simp only
    rw [numX_enc (by omega)]
    dsimp only
    rw [numX_enc (by omega)]
    dsimp only
    rw [numX_enc (by omega)]
    dsimp only
    rw [numX_enc (by omega)]
    dsimp only
    rw [numX_enc (by omega)]
    dsimp only
    rw [numX_enc (by omega)]
    dsimp only
    rw [textX_enc t1 (by omega)]
    dsimp only
    rw [textX_enc t2 (by omega)]
    obtain ⟨key, br, ep, sq, fr, to, val, gone⟩ := v
    simp only at h1 h2 h3 h4 ⊢
    have a1 : ((br.toNat : Nat) : Int) = br := by omega
    have a2 : ((ep.toNat : Nat) : Int) = ep := by omega
    have a3 : ((sq.toNat : Nat) : Int) = sq := by omega
    have a4 : ((fr.toNat : Nat) : Int) = fr := by omega
    have a5 : ((fr.toNat : Nat) : Int) + (((to - fr).toNat : Nat) : Int) = to := by omega
    have a6 : decide ((goneI gone).toNat = 1) = gone := by cases gone <;> rfl
    rw [a5, a1, a2, a3, a4, a6]
  unfold verX
  rw [e]
  dsimp only
  rw [if_neg (by rw [hm]; simp; omega)]
theorem allL_enc : ∀ (vs : List Ver), (∀ v ∈ vs, VMay v = true ∧ VTiny v) → allL vs.length (vs.flatMap encVb) = .ok vs
  | [], _ => rfl
  | v :: vs, h => by
    have hv := h v List.mem_cons_self
    have := allL_ok (n := vs.length) (verX_enc hv.1 hv.2 (vs.flatMap encVb)) []
    rw [cmbA_nil, allL_enc vs fun x hx => h x (List.mem_cons_of_mem _ hx)] at this
    rw [List.length_cons, List.flatMap_cons, this]
    rfl
theorem allX_enc {vs : List Ver} (h : ∀ v ∈ vs, VMay v = true ∧ VTiny v) (hl : vs.length < 4611686018427387904) : allX (encL vs) = .ok vs := by
  have e : encL vs = enc7 vs.length ++ vs.flatMap encVb := by simp [encL, encs]
  unfold allX
  rw [e, numP_enc hl]
  exact allL_enc vs h
theorem readK_two {k : List UInt8} {p q : KP} (h : readK k = .ok [p, q]) (h1 : p.isT = false) (h2 : q.isT = true) (h3 : q.txt.length ≤ 40) : k.length ≤ 92 := by
  have := write_read h
  rw [← this]
  have e := esc_len q.txt
  simp only [writeK, writeP, h1, h2, List.flatMap_cons, List.flatMap_nil, List.length_append, List.length_cons, List.length_nil, Bool.false_eq_true, if_false, if_true, bytes8_len]
  omega
theorem vmay_tiny {v : Ver} (h : VMay v = true) : VTiny v := by
  unfold VMay at h
  simp only [Bool.and_eq_true, decide_eq_true_eq] at h
  refine ⟨?_, h.1.2⟩
  have hk := h.1.1.1.1.1.1
  unfold keyOk at hk
  split at hk
  · rename_i p q hr
    simp only [Bool.and_eq_true, decide_eq_true_eq, Bool.not_eq_true'] at hk
    have := readK_two hr hk.1.1.1.1 hk.1.1.1.2 hk.2
    omega
  · cases hk
theorem readP_enc {ep : Int} {vs : List Ver} (h : GMay ep vs = true) (hl : vs.length < 4611686018427387904) : readP (encG ep vs) = some (ep, vs) := by
  obtain ⟨h1, h2⟩ := gmay_all h
  have e : encG ep vs = enc7 ep.toNat ++ encL vs := by simp [encG, encs]
  have en : numP (encG ep vs) = .ok (ep.toNat, encL vs) := by rw [e]; exact numP_enc (by omega) _
  have ei : ((ep.toNat : Nat) : Int) = ep := by omega
  rw [readP_ok en (allX_enc (fun v hv => ⟨(h2 v hv).1, vmay_tiny (h2 v hv).1⟩) hl), ei, if_pos ⟨h, rfl⟩]
theorem oneP_frame {b : List UInt8} (h : b.length < 4294967296) (r : List UInt8) : oneP (frame b ++ r) = some (b, r) := by
  have e : frame b ++ r = four b.length ++ (four (crcSum b) ++ (b ++ r)) := by simp [frame]
  have n1 : num4 (frame b ++ r) = b.length := by rw [e]; exact num4_four h _
  have d4 : (frame b ++ r).drop 4 = four (crcSum b) ++ (b ++ r) := by rw [e]; rfl
  have d8 : (frame b ++ r).drop 8 = b ++ r := by rw [show (8 : Nat) = 4 + 4 by rfl, ← List.drop_drop, d4]; rfl
  have n2 : num4 ((frame b ++ r).drop 4) = crcSum b := by rw [d4]; exact num4_four (crcSum_lt b) _
  unfold oneP
  rw [n1, n2, d8]
  have l : (frame b ++ r).length = b.length + 8 + r.length := by rw [List.length_append, frame_len]
  rw [if_neg (by rw [l]; omega), List.take_left, if_pos rfl]
  congr 2
  rw [show 8 + b.length = 8 + b.length by rfl, ← List.drop_drop, d8, List.drop_left]
def fileB (gs : List (Int × List Ver)) : List UInt8 := gs.flatMap fun g => frame (encG g.1 g.2)
def GUp : Int → List (Int × List Ver) → Prop
  | _, [] => True
  | last, g :: gs => last < g.1 ∧ GMay g.1 g.2 = true ∧ (encG g.1 g.2).length < 4294967296 ∧ g.2.length < 4611686018427387904 ∧ GUp g.1 gs
theorem oneP_nil : oneP [] = none := by unfold oneP; rw [if_pos (.inl (by simp))]
theorem grP_file : ∀ (last : Int) (gs : List (Int × List Ver)), GUp last gs → grP last (framesP (fileB gs)) = (gs, (fileB gs).length)
  | _, [], _ => by
    have : fileB [] = [] := rfl
    rw [this, framesP_none oneP_nil]; rfl
  | last, g :: gs, h => by
    obtain ⟨h1, h2, h3, h4, h5⟩ := h
    have e : fileB (g :: gs) = frame (encG g.1 g.2) ++ fileB gs := by simp [fileB]
    rw [e, framesP_some (oneP_frame h3 _), grP_new (readP_enc h2 h4) (by omega), grP_file g.1 gs h5, List.length_append, frame_len]
theorem fileB_app (gs : List (Int × List Ver)) (g : Int × List Ver) : fileB (gs ++ [g]) = fileB gs ++ frame (encG g.1 g.2) := by simp [fileB]
theorem GUp_app : ∀ {last : Int} {gs : List (Int × List Ver)} {g : Int × List Ver}, GUp last gs → lastE last gs < g.1 → GMay g.1 g.2 = true → (encG g.1 g.2).length < 4294967296 → g.2.length < 4611686018427387904 → GUp last (gs ++ [g])
  | _, [], _, _, h1, h2, h3, h4 => ⟨h1, h2, h3, h4, trivial⟩
  | _, a :: gs, _, h, h1, h2, h3, h4 => ⟨h.1, h.2.1, h.2.2.1, h.2.2.2.1, GUp_app h.2.2.2.2 h1 h2 h3 h4⟩
end Go.Vn

set_option maxRecDepth 20000
namespace Go.Vn
open Go.Proofs
theorem guV : (Tryz.prog.stoodInHeld 69 || Tryz.prog.eqGuardType Tryz.prog.depth 69) = false := by kernel_rfl
theorem guST : (Tryz.prog.stoodInHeld 65 || Tryz.prog.eqGuardType Tryz.prog.depth 65) = false := by kernel_rfl
theorem guSP : (Tryz.prog.stoodInHeld 67 || Tryz.prog.eqGuardType Tryz.prog.depth 67) = false := by kernel_rfl
theorem eqlST (d : Nat) (a b c x y z : Int) : eqlAV Tryz.prog (d + 2) 65 (.agg [.int .i64 a, .int .i64 b, .int .i64 c]) (.agg [.int .i64 x, .int .i64 y, .int .i64 z]) = some (decide (a = x) && decide (b = y) && decide (c = z)) := by
  unfold eqlAV
  simp only [Tryz.underlying65, guST, List.toList_toArray, List.foldr_cons, List.foldr_nil]
  simp [eqlAV]
  by_cases h1 : a = x <;> by_cases h2 : b = y <;> by_cases h3 : c = z <;> simp [h1, h2, h3]
theorem eqlSP (d : Nat) (a b x y : Int) : eqlAV Tryz.prog (d + 2) 67 (.agg [.int .i64 a, .int .i64 b]) (.agg [.int .i64 x, .int .i64 y]) = some (decide (a = x) && decide (b = y)) := by
  unfold eqlAV
  simp only [Tryz.underlying67, guSP, List.toList_toArray, List.foldr_cons, List.foldr_nil]
  simp [eqlAV]
  by_cases h1 : a = x <;> by_cases h2 : b = y <;> simp [h1, h2]
theorem eqlTX (d : Nat) (a b : List UInt8) : eqlAV Tryz.prog (d + 1) 9 (.str a) (.str b) = some (eqB a b) := by simp [eqlAV, Tryz.underlying9]
theorem eqlBO (d : Nat) (a b : Bool) : eqlAV Tryz.prog (d + 1) 4 (.bool a) (.bool b) = some (a == b) := by simp [eqlAV]
theorem eqB_iff (a b : List UInt8) : eqB a b = decide (a = b) := by rw [eqB_eq]; by_cases h : a = b <;> simp [h]
theorem eqlV (x y : Ver) : eqlAV Tryz.prog 20 69 (encV x) (encV y) = some (decide (x = y)) := by
  obtain ⟨k1, b1, e1, s1, f1, t1, v1, g1⟩ := x
  obtain ⟨k2, b2, e2, s2, f2, t2, v2, g2⟩ := y
  unfold eqlAV
  simp only [Tryz.underlying69, guV, List.toList_toArray, List.foldr_cons, List.foldr_nil]
  simp [eqlTX, eqlBO, eqlST, eqlSP, eqB_iff]
  by_cases h1 : k1 = k2 <;> by_cases h2 : b1 = b2 <;> by_cases h3 : e1 = e2 <;> by_cases h4 : s1 = s2 <;> by_cases h5 : f1 = f2 <;> by_cases h6 : t1 = t2 <;> by_cases h7 : v1 = v2 <;> by_cases h8 : g1 = g2 <;> simp [h1, h2, h3, h4, h5, h6, h7, h8]

set_option maxHeartbeats 1000000 in
theorem same6_ans (a b : List Ver) (u v : AV) (h0 : Hp Fm) (ka : SV 8 (a.map encV) u) (kb : SV 8 (b.map encV) v) (hl : a.length ≤ 9000000000000000000) (hl2 : b.length ≤ 9000000000000000000) :
    A Tryz.prog TT (.func 41) [u, v] h0 (fun r h' => r = .bool (decide (a = b)) ∧ HE h0 h') := by
  have c1 := ka.cells
  have i1 := ka.isCell
  have n1 := ka.nm
  have l1 := ka.len Tryz.underlying33
  rw [List.length_map] at l1
  have c2 := kb.cells
  have i2 := kb.isCell
  have n2 := kb.nm
  have l2 := kb.len Tryz.underlying33
  rw [List.length_map] at l2
  by_cases ql : a.length = b.length
  case neg =>
    have ql' : ¬ (a.length : Int) = b.length := by omega
    have ne : ¬ a = b := fun z => ql (by rw [z])
    apply A_go Tryz.func41 rfl (by rfl); (case hn => (simp [Tryz.ntmps41]; rfl))
    repeat(first|with_reducible first|refine vmR ?_|refine vmV rfl ?_|refine vmW rfl ?_|refine vmL ?_|refine blockW_y (by decide) ?_|((with_reducible first|apply vmO|apply vmT|apply vmC);case a=>simp [c1, i1, n1, l1, c2, i2, n2, l2, ql, ql'];with_reducible first|exact .v|exact .c|exact .t|exact .f))
    (first | apply endW_r | apply endW_n); (case h1 => (simp [Tryz.results41]; first | done | rfl))
    exact ⟨by simp [ne], HE.refl h0⟩
  rw [← ql] at l2
  apply A_go Tryz.func41 rfl (by rfl); (case hn => (simp [Tryz.ntmps41]; rfl))
  repeat(first|with_reducible first|refine vmR ?_|refine vmV rfl ?_|refine vmW rfl ?_|refine vmL ?_|refine blockW_y (by decide) ?_|((with_reducible first|apply vmO|apply vmT|apply vmC);case a=>simp [c1, i1, n1, l1, c2, i2, n2, l2];with_reducible first|exact .v|exact .c|exact .t|exact .f))
  refine W_loop (fun m s => ∃ (t : Fm AV) (h : Hp Fm) (i : Nat), s = ⟨t, 26, h, none⟩ ∧ m = a.length - i ∧ i ≤ a.length ∧ decide (a.drop i = b.drop i) = decide (a = b) ∧ tget t 0 = u ∧ tget t 1 = v ∧ tget t 5 = .int .i64 i ∧ HE h0 h) a.length
    ⟨_, _, 0, rfl, rfl, by omega, rfl, by simp, by simp, by simp, HE.refl h0⟩ ?_
  rintro m s ⟨t, h, i, rfl, rfl, hi, hd, t0, t1, t5, he⟩
  by_cases q : i < a.length
  case neg =>
    have q' : ¬ (i : Int) < a.length := by omega
    repeat(first|with_reducible first|refine vmR ?_|refine vmV rfl ?_|refine vmW rfl ?_|refine vmL ?_|refine blockW_y (by decide) ?_|((with_reducible first|apply vmO|apply vmT|apply vmC);case a=>simp [t0, t1, t5, q, q', n1, l1, c1, i1];with_reducible first|exact .v|exact .c|exact .t|exact .f))
    (first | apply endW_r | apply endW_n); (case h1 => (simp [Tryz.results41]; first | done | rfl))
    rw [← hd, List.drop_eq_nil_iff.mpr (by omega), List.drop_eq_nil_iff.mpr (by omega)]
    exact ⟨by simp, he⟩
  have q' : (i : Int) < a.length := by omega
  have ix := ka.idx (k := .i64) (i := (i : Int)) Tryz.underlying33 z69 (by omega) (by simp; omega)
  have iy := kb.idx (k := .i64) (i := (i : Int)) Tryz.underlying33 z69 (by omega) (by simp; omega)
  have e1 : a.drop i = a[i] :: a.drop (i + 1) := List.drop_eq_getElem_cons q
  have e2 : b.drop i = b[i]'(by omega) :: b.drop (i + 1) := List.drop_eq_getElem_cons (by omega)
  rw [e1, e2] at hd
  obtain ⟨x, hx⟩ : ∃ x, x = a[i] := ⟨_, rfl⟩
  obtain ⟨y, hy⟩ : ∃ y, y = b[i]'(by omega) := ⟨_, rfl⟩
  have igx : (a.map encV)[i]'(by simp; omega) = encV x := by simp [hx]
  have igy : (b.map encV)[i]'(by simp; omega) = encV y := by simp [hy]
  simp only [Int.toNat_natCast, igx] at ix
  simp only [Int.toNat_natCast, igy] at iy
  rw [← hx, ← hy] at hd
  have w1 : IntKind.i64.wrap ((i : Int) + 1) = ((i + 1 : Nat) : Int) := by rw [wrap64 (by omega) (by omega)]; simp
  have eq := eqlV x y
  have hxy : (x = y) = (x = y) := rfl
  obtain ⟨o, ho⟩ : ∃ o, o = decide (x = y) := ⟨_, rfl⟩
  rw [← ho] at eq
  obtain ⟨k1, b1, e1', s1, f1, t1', v1, g1⟩ := x
  obtain ⟨k2, b2, e2', s2, f2, t2', v2, g2⟩ := y
  simp only [encV] at eq
  cases o with
  | true =>
    have exy := of_decide_eq_true ho.symm
    repeat(first|with_reducible first|refine vmR ?_|refine vmV rfl ?_|refine vmW rfl ?_|refine vmL ?_|refine blockW_y (by decide) ?_|((with_reducible first|apply vmO|apply vmT|apply vmC);case a=>simp [t0, t1, t5, q, q', n1, l1, c1, i1];with_reducible first|exact .v|exact .c|exact .t|exact .f))
    (with_reducible refine W_draw_id (pln := true) [0, 1, 2, 3, 4, 5, 6, 7, 8] [(3, (3, [])), (7, (7, []))] (by kernel_rfl) rfl ?_)
    repeat(first|with_reducible first|refine vmR ?_|refine vmV rfl ?_|refine vmW rfl ?_|refine vmL ?_|refine blockW_y (by decide) ?_|((with_reducible first|apply vmO|apply vmT|apply vmC);case a=>simp [t0, t1, t5, c1, i1, c2, i2, ix, iy, eq];with_reducible first|exact .v|exact .c|exact .t|exact .f))
    refine ⟨by simp [readSame, beqAV_self, t0, t1, ix, iy]; done, _, by simp; first | done | rfl, ?_⟩
    repeat(first|with_reducible first|refine vmR ?_|refine vmV rfl ?_|refine vmW rfl ?_|refine vmL ?_|refine blockW_y (by decide) ?_|((with_reducible first|apply vmO|apply vmT|apply vmC);case a=>simp [t5, w1];with_reducible first|exact .v|exact .c|exact .t|exact .f))
    refine ⟨a.length - (i + 1), by omega, _, _, i + 1, rfl, rfl, by omega, ?_, by simp [t0], by simp [t1], by simp, he.drew⟩
    rw [← hd, exy]; simp
  | false =>
    have nxy := of_decide_eq_false ho.symm
    repeat(first|with_reducible first|refine vmR ?_|refine vmV rfl ?_|refine vmW rfl ?_|refine vmL ?_|refine blockW_y (by decide) ?_|((with_reducible first|apply vmO|apply vmT|apply vmC);case a=>simp [t0, t1, t5, q, q', n1, l1, c1, i1];with_reducible first|exact .v|exact .c|exact .t|exact .f))
    (with_reducible refine W_draw_id (pln := true) [0, 1, 2, 3, 4, 5, 6, 7, 8] [(3, (3, [])), (7, (7, []))] (by kernel_rfl) rfl ?_)
    repeat(first|with_reducible first|refine vmR ?_|refine vmV rfl ?_|refine vmW rfl ?_|refine vmL ?_|refine blockW_y (by decide) ?_|((with_reducible first|apply vmO|apply vmT|apply vmC);case a=>simp [t0, t1, t5, c1, i1, c2, i2, ix, iy, eq];with_reducible first|exact .v|exact .c|exact .t|exact .f))
    refine ⟨by simp [readSame, beqAV_self, t0, t1, ix, iy]; done, _, by simp; first | done | rfl, ?_⟩
    repeat(first|with_reducible first|refine vmR ?_|refine vmV rfl ?_|refine vmW rfl ?_|refine vmL ?_|refine blockW_y (by decide) ?_|((with_reducible first|apply vmO|apply vmT|apply vmC);case a=>simp;with_reducible first|exact .v|exact .c|exact .t|exact .f))
    (first | apply endW_r | apply endW_n); (case h1 => (simp [Tryz.results41]; first | done | rfl))
    refine ⟨?_, he.drew⟩
    rw [← hd, decide_eq_false]
    intro z
    exact nxy (List.cons.inj z).1

set_option maxHeartbeats 1000000 in
theorem same15_ans (a b : List (Int × List Ver)) (wa wb : List AV) (u v : AV) (h0 : Hp Fm) (ka : SV 2 wa u) (kb : SV 2 wb v) (ga : GF a wa) (gb : GF b wb) (hl : a.length ≤ 9000000000000000000) (hl2 : b.length ≤ 9000000000000000000) (hla : ∀ g ∈ a, g.2.length ≤ 9000000000000000000) (hlb : ∀ g ∈ b, g.2.length ≤ 9000000000000000000) :
    A Tryz.prog TT (.func 18) [u, v] h0 (fun r h' => r = .bool (decide (a = b)) ∧ HE h0 h') := by
  have c1 := ka.cells
  have i1 := ka.isCell
  have n1 := ka.nm
  have l1 := ka.len Tryz.underlying27
  have c2 := kb.cells
  have i2 := kb.isCell
  have n2 := kb.nm
  have l2 := kb.len Tryz.underlying27
  have la := ga.len
  have lb := gb.len
  rw [la] at l1
  rw [lb] at l2
  by_cases ql : a.length = b.length
  case neg =>
    have ql' : ¬ (a.length : Int) = b.length := by omega
    have ne : ¬ a = b := fun z => ql (by rw [z])
    apply A_go Tryz.func18 rfl (by rfl); (case hn => (simp [Tryz.ntmps18]; rfl))
    repeat(first|with_reducible first|refine vmR ?_|refine vmV rfl ?_|refine vmW rfl ?_|refine vmL ?_|refine blockW_y (by decide) ?_|((with_reducible first|apply vmO|apply vmT|apply vmC);case a=>simp [c1, i1, n1, l1, c2, i2, n2, l2, ql, ql'];with_reducible first|exact .v|exact .c|exact .t|exact .f))
    (first | apply endW_r | apply endW_n); (case h1 => (simp [Tryz.results18]; first | done | rfl))
    exact ⟨by simp [ne], HE.refl h0⟩
  rw [← ql] at l2
  apply A_go Tryz.func18 rfl (by rfl); (case hn => (simp [Tryz.ntmps18]; rfl))
  repeat(first|with_reducible first|refine vmR ?_|refine vmV rfl ?_|refine vmW rfl ?_|refine vmL ?_|refine blockW_y (by decide) ?_|((with_reducible first|apply vmO|apply vmT|apply vmC);case a=>simp [c1, i1, n1, l1, c2, i2, n2, l2];with_reducible first|exact .v|exact .c|exact .t|exact .f))
  refine W_loop (fun m s => ∃ (t : Fm AV) (h : Hp Fm) (i : Nat), s = ⟨t, 44, h, none⟩ ∧ m = a.length - i ∧ i ≤ a.length ∧ decide (a.drop i = b.drop i) = decide (a = b) ∧ tget t 0 = u ∧ tget t 1 = v ∧ tget t 5 = .int .i64 i ∧ HE h0 h) a.length
    ⟨_, _, 0, rfl, rfl, by omega, rfl, by simp, by simp, by simp, HE.refl h0⟩ ?_
  rintro m s ⟨t, h, i, rfl, rfl, hi, hd, t0, t1, t5, he⟩
  by_cases q : i < a.length
  case neg =>
    have q' : ¬ (i : Int) < a.length := by omega
    repeat(first|with_reducible first|refine vmR ?_|refine vmV rfl ?_|refine vmW rfl ?_|refine vmL ?_|refine blockW_y (by decide) ?_|((with_reducible first|apply vmO|apply vmT|apply vmC);case a=>simp [t0, t1, t5, q, q', n1, l1, c1, i1];with_reducible first|exact .v|exact .c|exact .t|exact .f))
    (first | apply endW_r | apply endW_n); (case h1 => (simp [Tryz.results18]; first | done | rfl))
    rw [← hd, List.drop_eq_nil_iff.mpr (by omega), List.drop_eq_nil_iff.mpr (by omega)]
    exact ⟨by simp, he⟩
  have q' : (i : Int) < a.length := by omega
  have qb : i < b.length := by omega
  have ix := ka.idx (k := .i64) (i := (i : Int)) Tryz.underlying27 z35 (by omega) (by simpa [la] using q)
  have iy := kb.idx (k := .i64) (i := (i : Int)) Tryz.underlying27 z35 (by omega) (by simpa [lb] using qb)
  have e1 : a.drop i = a[i] :: a.drop (i + 1) := List.drop_eq_getElem_cons q
  have e2 : b.drop i = b[i]'(by omega) :: b.drop (i + 1) := List.drop_eq_getElem_cons (by omega)
  rw [e1, e2] at hd
  obtain ⟨ua, ea, sa⟩ := ga.at i q (by omega)
  obtain ⟨ub, eb, sb⟩ := gb.at i qb (by omega)
  simp only [Int.toNat_natCast, ea] at ix
  simp only [Int.toNat_natCast, eb] at iy
  have hva := hla _ (List.getElem_mem q)
  have hvb := hlb _ (List.getElem_mem qb)
  obtain ⟨x, hx⟩ : ∃ x, x = a[i] := ⟨_, rfl⟩
  obtain ⟨y, hy⟩ : ∃ y, y = b[i]'(by omega) := ⟨_, rfl⟩
  rw [← hx] at hd ix sa hva
  rw [← hy] at hd iy sb hvb
  obtain ⟨ex, vx⟩ := x
  obtain ⟨ey, vy⟩ := y
  simp only at ix iy sa sb hva hvb
  have d1 := sa.cells
  have j1 := sa.isCell
  have d2 := sb.cells
  have j2 := sb.isCell
  have w1 : IntKind.i64.wrap ((i : Int) + 1) = ((i + 1 : Nat) : Int) := by rw [wrap64 (by omega) (by omega)]; simp
  repeat(first|with_reducible first|refine vmR ?_|refine vmV rfl ?_|refine vmW rfl ?_|refine vmL ?_|refine blockW_y (by decide) ?_|((with_reducible first|apply vmO|apply vmT|apply vmC);case a=>simp [t0, t1, t5, q, q', n1, l1, c1, i1];with_reducible first|exact .v|exact .c|exact .t|exact .f))
  (with_reducible refine W_draw_id (pln := true) [0, 1, 2, 3, 4, 5, 6, 7, 8, 9, 10, 11] [(4, (4, [])), (9, (9, []))] (by kernel_rfl) rfl ?_)
  repeat(first|with_reducible first|refine vmR ?_|refine vmV rfl ?_|refine vmW rfl ?_|refine vmL ?_|refine blockW_y (by decide) ?_|((with_reducible first|apply vmO|apply vmT|apply vmC);case a=>simp [t0, t1, t5, c1, i1, c2, i2, ix, iy, d1, j1, d2, j2];with_reducible first|exact .v|exact .c|exact .t|exact .f))
  refine A.mono (same6_ans vx vy ua ub h.drew sa sb hva hvb) ?_
  rintro _ h2 ⟨rfl, e2⟩
  have e02 := he.drew.trans e2
  obtain ⟨o, ho⟩ : ∃ o, o = decide (vx = vy) := ⟨_, rfl⟩
  rw [← ho]
  refine ⟨_, by simp; first | done | rfl, ?_⟩
  repeat(first|with_reducible first|refine vmR ?_|refine vmV rfl ?_|refine vmW rfl ?_|refine vmL ?_|refine blockW_y (by decide) ?_|((with_reducible first|apply vmO|apply vmT|apply vmC);case a=>simp;with_reducible first|exact .v|exact .c|exact .t|exact .f))
  refine ⟨by simp [readSame, beqAV_self, t0, t1, t5, ix, iy]; done, _, by simp; first | done | rfl, ?_⟩
  repeat(first|with_reducible first|refine vmR ?_|refine vmV rfl ?_|refine vmW rfl ?_|refine vmL ?_|refine blockW_y (by decide) ?_|((with_reducible first|apply vmO|apply vmT|apply vmC);case a=>simp;with_reducible first|exact .v|exact .c|exact .t|exact .f))
  (with_reducible refine W_draw_id (pln := true) [0, 1, 2, 3, 4, 5, 6, 7, 8, 9, 10, 11, 12, 13, 14] [(4, (4, [])), (9, (9, []))] (by kernel_rfl) rfl ?_)
  by_cases qe : ex = ey
  · cases o with
    | true =>
      have exy := of_decide_eq_true ho.symm
      repeat(first|with_reducible first|refine vmR ?_|refine vmV rfl ?_|refine vmW rfl ?_|refine vmL ?_|refine blockW_y (by decide) ?_|((with_reducible first|apply vmO|apply vmT|apply vmC);case a=>simp [t0, t1, t5, c1, i1, c2, i2, ix, iy, qe];with_reducible first|exact .v|exact .c|exact .t|exact .f))
      refine ⟨by simp [readSame, beqAV_self, t0, t1, ix, iy]; done, _, by simp; first | done | rfl, ?_⟩
      repeat(first|with_reducible first|refine vmR ?_|refine vmV rfl ?_|refine vmW rfl ?_|refine vmL ?_|refine blockW_y (by decide) ?_|((with_reducible first|apply vmO|apply vmT|apply vmC);case a=>simp [t5, w1];with_reducible first|exact .v|exact .c|exact .t|exact .f))
      refine ⟨a.length - (i + 1), by omega, _, _, i + 1, rfl, rfl, by omega, ?_, by simp [t0], by simp [t1], by simp, e02.drew⟩
      rw [← hd, exy, qe]; simp
    | false =>
      have nxy := of_decide_eq_false ho.symm
      repeat(first|with_reducible first|refine vmR ?_|refine vmV rfl ?_|refine vmW rfl ?_|refine vmL ?_|refine blockW_y (by decide) ?_|((with_reducible first|apply vmO|apply vmT|apply vmC);case a=>simp [t0, t1, t5, c1, i1, c2, i2, ix, iy, qe];with_reducible first|exact .v|exact .c|exact .t|exact .f))
      refine ⟨by simp [readSame, beqAV_self, t0, t1, ix, iy]; done, _, by simp; first | done | rfl, ?_⟩
      repeat(first|with_reducible first|refine vmR ?_|refine vmV rfl ?_|refine vmW rfl ?_|refine vmL ?_|refine blockW_y (by decide) ?_|((with_reducible first|apply vmO|apply vmT|apply vmC);case a=>simp;with_reducible first|exact .v|exact .c|exact .t|exact .f))
      (first | apply endW_r | apply endW_n); (case h1 => (simp [Tryz.results18]; first | done | rfl))
      refine ⟨?_, e02.drew⟩
      rw [← hd, decide_eq_false]
      intro z
      exact nxy (Prod.mk.inj (List.cons.inj z).1).2
  · repeat(first|with_reducible first|refine vmR ?_|refine vmV rfl ?_|refine vmW rfl ?_|refine vmL ?_|refine blockW_y (by decide) ?_|((with_reducible first|apply vmO|apply vmT|apply vmC);case a=>simp [t0, t1, t5, c1, i1, c2, i2, ix, iy, qe];with_reducible first|exact .v|exact .c|exact .t|exact .f))
    refine ⟨by simp [readSame, beqAV_self, t0, t1, ix, iy]; done, _, by simp; first | done | rfl, ?_⟩
    repeat(first|with_reducible first|refine vmR ?_|refine vmV rfl ?_|refine vmW rfl ?_|refine vmL ?_|refine blockW_y (by decide) ?_|((with_reducible first|apply vmO|apply vmT|apply vmC);case a=>simp;with_reducible first|exact .v|exact .c|exact .t|exact .f))
    (first | apply endW_r | apply endW_n); (case h1 => (simp [Tryz.results18]; first | done | rfl))
    refine ⟨?_, e02.drew⟩
    rw [← hd, decide_eq_false]
    intro z
    exact qe (Prod.mk.inj (List.cons.inj z).1).1
end Go.Vn
