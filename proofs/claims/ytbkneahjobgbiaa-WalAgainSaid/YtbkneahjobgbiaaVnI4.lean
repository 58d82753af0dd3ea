/- What functions of the program come to, in the value machine (a part of the proof of the claim's statement). No condition. -/
import Derived.Test.YtbkneahjobgbiaaVnI3
set_option linter.unusedSimpArgs false
set_option linter.unusedVariables false
set_option maxRecDepth 20000
namespace Go.Vn
open Go.Proofs

theorem scan_enc (n : Nat) : ∀ (i : Nat) (r : List UInt8), i ≤ 8 → n < 128 ^ (9 - i) → (i = 0 ∨ n ≠ 0) → scan (enc7 n ++ r) i = .ok (n, r) := by
  induction n using Nat.strongRecOn with
  | _ n ih =>
    intro i r hi hn h0
    by_cases q : n < 128
    · rw [enc7_lt q]
      have e : (UInt8.ofNat n).toNat = n := by simp; omega
      show scan (UInt8.ofNat n :: r) i = _
      rw [scan, if_neg (by omega), e, if_neg (by omega), if_neg (by omega)]
    · rw [enc7_ge q]
      have e : (UInt8.ofNat (n % 128 + 128)).toNat = n % 128 + 128 := by simp; omega
      have hi8 : i ≠ 8 := by intro z; subst z; simp at hn; omega
      have ep : 128 ^ (9 - i) = 128 ^ (9 - (i + 1)) * 128 := by rw [show 9 - i = (9 - (i + 1)) + 1 by omega, Nat.pow_succ]
      rw [ep] at hn
      have := ih (n / 128) (by omega) (i + 1) r (by omega) (Nat.div_lt_of_lt_mul (by omega)) (by omega)
      show scan (UInt8.ofNat (n % 128 + 128) :: (enc7 (n / 128) ++ r)) i = _
      rw [scan, if_neg (by omega), e, if_pos (by omega), this]
      simp only
      congr 2
      omega
theorem numP_enc {n : Nat} (h : n < 4611686018427387904) (r : List UInt8) : numP (enc7 n ++ r) = .ok (n, r) := by
  unfold numP
  rw [scan_enc n 0 r (by omega) (by have : (128 : Nat) ^ (9 - 0) = 9223372036854775808 := by decide
                                    omega) (.inl rfl)]
  dsimp only
  rw [if_neg (by omega)]
theorem numX_enc {n : Nat} (h : n < 4611686018427387904) (r : List UInt8) : numX (.ok (enc7 n ++ r)) = (n, .ok r) := by
  unfold numX; simp only [numP_enc h]
theorem textX_enc {m : Nat} {s : List UInt8} (h : s.length ≤ m) (hs : s.length < 4611686018427387904) (r : List UInt8) : textX m (.ok (enc7 s.length ++ (s ++ r))) = (s, .ok r) := by
  unfold textX
  rw [numX_enc hs]
  dsimp only
  rw [if_neg (by omega), if_neg (by rw [List.length_append]; omega)]
  simp
theorem encVb_eq (v : Ver) (r : List UInt8) : encVb v ++ r = enc7 v.br.toNat ++ (enc7 v.ep.toNat ++ (enc7 v.sq.toNat ++ (enc7 v.fr.toNat ++ (enc7 (v.to - v.fr).toNat ++ (enc7 (goneI v.gone).toNat ++ (enc7 v.key.length ++ (v.key ++ (enc7 v.val.length ++ (v.val ++ r))))))))) := by
  simp [encVb, encs, encT]
theorem verX_enc {v : Ver} (hm : VMay v = true) (ht : VTiny v) (r : List UInt8) : verX (.ok (encVb v ++ r)) = (.ok v, .ok r) := by
  obtain ⟨h1, h2, h3, h4⟩ := vmay_num hm
  unfold SpMay at h4
  obtain ⟨t1, t2⟩ := ht
  have hg : (goneI v.gone).toNat ≤ 1 := by unfold goneI; split <;> decide
  have e : verV (.ok (encVb v ++ r)) = (v, (goneI v.gone).toNat, .ok r) := by
    rw [encVb_eq]
    unfold verV
    simp only
    rw [numX_enc (by omega)]
    dsimp only
    rw [numX_enc (by omega)]
    dsimp only
    rw [numX_enc (by omega)]
    dsimp only
    rw [numX_enc (by omega)]
    dsimp only
    rw [numX_enc (by omega)]
    dsimp only
    rw [numX_enc (by omega)]
    dsimp only
    rw [textX_enc t1 (by omega)]
    dsimp only
    rw [textX_enc t2 (by omega)]
    obtain ⟨key, br, ep, sq, fr, to, val, gone⟩ := v
    simp only at h1 h2 h3 h4 ⊢
    have a1 : ((br.toNat : Nat) : Int) = br := by omega
    have a2 : ((ep.toNat : Nat) : Int) = ep := by omega
    have a3 : ((sq.toNat : Nat) : Int) = sq := by omega
    have a4 : ((fr.toNat : Nat) : Int) = fr := by omega
    have a5 : ((fr.toNat : Nat) : Int) + (((to - fr).toNat : Nat) : Int) = to := by omega
    have a6 : decide ((goneI gone).toNat = 1) = gone := by cases gone <;> rfl
    rw [a5, a1, a2, a3, a4, a6]
  unfold verX
  rw [e]
  dsimp only
  rw [if_neg (by rw [hm]; simp; omega)]
theorem allL_enc : ∀ (vs : List Ver), (∀ v ∈ vs, VMay v = true ∧ VTiny v) → allL vs.length (vs.flatMap encVb) = .ok vs
  | [], _ => rfl
  | v :: vs, h => by
    have hv := h v List.mem_cons_self
    have := allL_ok (n := vs.length) (verX_enc hv.1 hv.2 (vs.flatMap encVb)) []
    rw [cmbA_nil, allL_enc vs fun x hx => h x (List.mem_cons_of_mem _ hx)] at this
    rw [List.length_cons, List.flatMap_cons, this]
    rfl
theorem allX_enc {vs : List Ver} (h : ∀ v ∈ vs, VMay v = true ∧ VTiny v) (hl : vs.length < 4611686018427387904) : allX (encL vs) = .ok vs := by
  have e : encL vs = enc7 vs.length ++ vs.flatMap encVb := by simp [encL, encs]
  unfold allX
  rw [e, numP_enc hl]
  exact allL_enc vs h
theorem readK_two {k : List UInt8} {p q : KP} (h : readK k = .ok [p, q]) (h1 : p.isT = false) (h2 : q.isT = true) (h3 : q.txt.length ≤ 40) : k.length ≤ 92 := by
  have := write_read h
  rw [← this]
  have e := esc_len q.txt
  simp only [writeK, writeP, h1, h2, List.flatMap_cons, List.flatMap_nil, List.length_append, List.length_cons, List.length_nil, Bool.false_eq_true, if_false, if_true, bytes8_len]
  omega
theorem vmay_tiny {v : Ver} (h : VMay v = true) : VTiny v := by
  unfold VMay at h
  simp only [Bool.and_eq_true, decide_eq_true_eq] at h
  refine ⟨?_, h.1.2⟩
  have hk := h.1.1.1.1.1.1
  unfold keyOk at hk
  split at hk
  · rename_i p q hr
    simp only [Bool.and_eq_true, decide_eq_true_eq, Bool.not_eq_true'] at hk
    have := readK_two hr hk.1.1.1.1 hk.1.1.1.2 hk.2
    omega
  · cases hk
theorem readP_enc {ep : Int} {vs : List Ver} (h : GMay ep vs = true) (hl : vs.length < 4611686018427387904) : readP (encG ep vs) = some (ep, vs) := by
  obtain ⟨h1, h2⟩ := gmay_all h
  have e : encG ep vs = enc7 ep.toNat ++ encL vs := by simp [encG, encs]
  have en : numP (encG ep vs) = .ok (ep.toNat, encL vs) := by rw [e]; exact numP_enc (by omega) _
  have ei : ((ep.toNat : Nat) : Int) = ep := by omega
  rw [readP_ok en (allX_enc (fun v hv => ⟨(h2 v hv).1, vmay_tiny (h2 v hv).1⟩) hl), ei, if_pos ⟨h, rfl⟩]
theorem oneP_frame {b : List UInt8} (h : b.length < 4294967296) (r : List UInt8) : oneP (frame b ++ r) = some (b, r) := by
  have e : frame b ++ r = four b.length ++ (four (crcSum b) ++ (b ++ r)) := by simp [frame]
  have n1 : num4 (frame b ++ r) = b.length := by rw [e]; exact num4_four h _
  have d4 : (frame b ++ r).drop 4 = four (crcSum b) ++ (b ++ r) := by rw [e]; rfl
  have d8 : (frame b ++ r).drop 8 = b ++ r := by rw [show (8 : Nat) = 4 + 4 by rfl, ← List.drop_drop, d4]; rfl
  have n2 : num4 ((frame b ++ r).drop 4) = crcSum b := by rw [d4]; exact num4_four (crcSum_lt b) _
  unfold oneP
  rw [n1, n2, d8]
  have l : (frame b ++ r).length = b.length + 8 + r.length := by rw [List.length_append, frame_len]
  rw [if_neg (by rw [l]; omega), List.take_left, if_pos rfl]
  congr 2
  rw [show 8 + b.length = 8 + b.length by rfl, ← List.drop_drop, d8, List.drop_left]
/-- A file of groups. -/
def fileB (gs : List (Int × List Ver)) : List UInt8 := gs.flatMap fun g => frame (encG g.1 g.2)
/-- Groups that rise. -/
def GUp : Int → List (Int × List Ver) → Prop
  | _, [] => True
  | last, g :: gs => last < g.1 ∧ GMay g.1 g.2 = true ∧ (encG g.1 g.2).length < 4294967296 ∧ g.2.length < 4611686018427387904 ∧ GUp g.1 gs
theorem oneP_nil : oneP [] = none := by unfold oneP; rw [if_pos (.inl (by simp))]
theorem grP_file : ∀ (last : Int) (gs : List (Int × List Ver)), GUp last gs → grP last (framesP (fileB gs)) = (gs, (fileB gs).length)
  | _, [], _ => by
    have : fileB [] = [] := rfl
    rw [this, framesP_none oneP_nil]; rfl
  | last, g :: gs, h => by
    obtain ⟨h1, h2, h3, h4, h5⟩ := h
    have e : fileB (g :: gs) = frame (encG g.1 g.2) ++ fileB gs := by simp [fileB]
    rw [e, framesP_some (oneP_frame h3 _), grP_new (readP_enc h2 h4) (by omega), grP_file g.1 gs h5, List.length_append, frame_len]
theorem fileB_app (gs : List (Int × List Ver)) (g : Int × List Ver) : fileB (gs ++ [g]) = fileB gs ++ frame (encG g.1 g.2) := by simp [fileB]
theorem GUp_app : ∀ {last : Int} {gs : List (Int × List Ver)} {g : Int × List Ver}, GUp last gs → lastE last gs < g.1 → GMay g.1 g.2 = true → (encG g.1 g.2).length < 4294967296 → g.2.length < 4611686018427387904 → GUp last (gs ++ [g])
  | _, [], _, _, h1, h2, h3, h4 => ⟨h1, h2, h3, h4, trivial⟩
  | _, a :: gs, _, h, h1, h2, h3, h4 => ⟨h.1, h.2.1, h.2.2.1, h.2.2.2.1, GUp_app h.2.2.2.2 h1 h2 h3 h4⟩
end Go.Vn

set_option maxRecDepth 20000
namespace Go.Vn
open Go.Proofs
theorem guV : (Try.prog.stoodInHeld 58 || Try.prog.eqGuardType Try.prog.depth 58) = false := by kernel_rfl
theorem guST : (Try.prog.stoodInHeld 54 || Try.prog.eqGuardType Try.prog.depth 54) = false := by kernel_rfl
theorem guSP : (Try.prog.stoodInHeld 56 || Try.prog.eqGuardType Try.prog.depth 56) = false := by kernel_rfl
theorem eqlST (d : Nat) (a b c x y z : Int) : eqlAV Try.prog (d + 2) 54 (.agg [.int .i64 a, .int .i64 b, .int .i64 c]) (.agg [.int .i64 x, .int .i64 y, .int .i64 z]) = some (decide (a = x) && decide (b = y) && decide (c = z)) := by
  unfold eqlAV
  simp only [Try.underlying54, guST, List.toList_toArray, List.foldr_cons, List.foldr_nil]
  simp [eqlAV]
  by_cases h1 : a = x <;> by_cases h2 : b = y <;> by_cases h3 : c = z <;> simp [h1, h2, h3]
theorem eqlSP (d : Nat) (a b x y : Int) : eqlAV Try.prog (d + 2) 56 (.agg [.int .i64 a, .int .i64 b]) (.agg [.int .i64 x, .int .i64 y]) = some (decide (a = x) && decide (b = y)) := by
  unfold eqlAV
  simp only [Try.underlying56, guSP, List.toList_toArray, List.foldr_cons, List.foldr_nil]
  simp [eqlAV]
  by_cases h1 : a = x <;> by_cases h2 : b = y <;> simp [h1, h2]
theorem eqlTX (d : Nat) (a b : List UInt8) : eqlAV Try.prog (d + 1) 9 (.str a) (.str b) = some (eqB a b) := by simp [eqlAV, Try.underlying9]
theorem eqlBO (d : Nat) (a b : Bool) : eqlAV Try.prog (d + 1) 4 (.bool a) (.bool b) = some (a == b) := by simp [eqlAV]
theorem eqB_iff (a b : List UInt8) : eqB a b = decide (a = b) := by rw [eqB_eq]; by_cases h : a = b <;> simp [h]
theorem eqlV (x y : Ver) : eqlAV Try.prog 20 58 (encV x) (encV y) = some (decide (x = y)) := by
  obtain ⟨k1, b1, e1, s1, f1, t1, v1, g1⟩ := x
  obtain ⟨k2, b2, e2, s2, f2, t2, v2, g2⟩ := y
  unfold eqlAV
  simp only [Try.underlying58, guV, List.toList_toArray, List.foldr_cons, List.foldr_nil]
  simp [eqlTX, eqlBO, eqlST, eqlSP, eqB_iff]
  by_cases h1 : k1 = k2 <;> by_cases h2 : b1 = b2 <;> by_cases h3 : e1 = e2 <;> by_cases h4 : s1 = s2 <;> by_cases h5 : f1 = f2 <;> by_cases h6 : t1 = t2 <;> by_cases h7 : v1 = v2 <;> by_cases h8 : g1 = g2 <;> simp [h1, h2, h3, h4, h5, h6, h7, h8]

set_option maxHeartbeats 1000000 in
theorem same6_ans (a b : List Ver) (u v : AV) (h0 : Hp Fm) (ka : SV 8 (a.map encV) u) (kb : SV 8 (b.map encV) v) (hl : a.length ≤ 9000000000000000000) (hl2 : b.length ≤ 9000000000000000000) :
    A Try.prog TT (.func 41) [u, v] h0 (fun r h' => r = .bool (decide (a = b)) ∧ HE h0 h') := by
  have c1 := ka.cells
  have i1 := ka.isCell
  have n1 := ka.nm
  have l1 := ka.len Try.underlying30
  rw [List.length_map] at l1
  have c2 := kb.cells
  have i2 := kb.isCell
  have n2 := kb.nm
  have l2 := kb.len Try.underlying30
  rw [List.length_map] at l2
  by_cases ql : a.length = b.length
  case neg =>
    have ql' : ¬ (a.length : Int) = b.length := by omega
    have ne : ¬ a = b := fun z => ql (by rw [z])
    apply A_go Try.func41 rfl (by rfl); (case hn => (simp [Try.ntmps41]; rfl))
    repeat (first|with_reducible refine vmR ?_|with_reducible refine vmV rfl ?_|with_reducible refine vmW rfl ?_|with_reducible refine blockW_y (by decide) ?_|with_reducible refine vmL ?_|((with_reducible first|apply vmO|apply vmT);(case a=>simp [c1, i1, n1, l1, c2, i2, n2, l2, ql, ql'];with_reducible first|exact .v|exact .c))|((with_reducible apply vmC);(case e=>simp [c1, i1, n1, l1, c2, i2, n2, l2, ql, ql'];with_reducible first|exact .t|exact .f)))
    (first | apply endW_r | apply endW_n); (case h1 => (simp [Try.results41]; first | done | rfl))
    exact ⟨by simp [ne], HE.refl h0⟩
  rw [← ql] at l2
  apply A_go Try.func41 rfl (by rfl); (case hn => (simp [Try.ntmps41]; rfl))
  repeat (first|with_reducible refine vmR ?_|with_reducible refine vmV rfl ?_|with_reducible refine vmW rfl ?_|with_reducible refine blockW_y (by decide) ?_|with_reducible refine vmL ?_|((with_reducible first|apply vmO|apply vmT);(case a=>simp [c1, i1, n1, l1, c2, i2, n2, l2];with_reducible first|exact .v|exact .c))|((with_reducible apply vmC);(case e=>simp [c1, i1, n1, l1, c2, i2, n2, l2];with_reducible first|exact .t|exact .f)))
  refine W_loop (fun m s => ∃ (t : Fm AV) (h : Hp Fm) (i : Nat), s = ⟨t, 26, h, none⟩ ∧ m = a.length - i ∧ i ≤ a.length ∧ decide (a.drop i = b.drop i) = decide (a = b) ∧ tget t 0 = u ∧ tget t 1 = v ∧ tget t 5 = .int .i64 i ∧ HE h0 h) a.length
    ⟨_, _, 0, rfl, rfl, by omega, rfl, by simp, by simp, by simp, HE.refl h0⟩ ?_
  rintro m s ⟨t, h, i, rfl, rfl, hi, hd, t0, t1, t5, he⟩
  by_cases q : i < a.length
  case neg =>
    have q' : ¬ (i : Int) < a.length := by omega
    repeat (first|with_reducible refine vmR ?_|with_reducible refine vmV rfl ?_|with_reducible refine vmW rfl ?_|with_reducible refine blockW_y (by decide) ?_|with_reducible refine vmL ?_|((with_reducible first|apply vmO|apply vmT);(case a=>simp [t0, t1, t5, q, q', n1, l1, c1, i1];with_reducible first|exact .v|exact .c))|((with_reducible apply vmC);(case e=>simp [t0, t1, t5, q, q', n1, l1, c1, i1];with_reducible first|exact .t|exact .f)))
    (first | apply endW_r | apply endW_n); (case h1 => (simp [Try.results41]; first | done | rfl))
    rw [← hd, List.drop_eq_nil_iff.mpr (by omega), List.drop_eq_nil_iff.mpr (by omega)]
    exact ⟨by simp, he⟩
  have q' : (i : Int) < a.length := by omega
  have ix := ka.idx (k := .i64) (i := (i : Int)) Try.underlying30 z58 (by omega) (by simp; omega)
  have iy := kb.idx (k := .i64) (i := (i : Int)) Try.underlying30 z58 (by omega) (by simp; omega)
  have e1 : a.drop i = a[i] :: a.drop (i + 1) := List.drop_eq_getElem_cons q
  have e2 : b.drop i = b[i]'(by omega) :: b.drop (i + 1) := List.drop_eq_getElem_cons (by omega)
  rw [e1, e2] at hd
  obtain ⟨x, hx⟩ : ∃ x, x = a[i] := ⟨_, rfl⟩
  obtain ⟨y, hy⟩ : ∃ y, y = b[i]'(by omega) := ⟨_, rfl⟩
  have igx : (a.map encV)[i]'(by simp; omega) = encV x := by simp [hx]
  have igy : (b.map encV)[i]'(by simp; omega) = encV y := by simp [hy]
  simp only [Int.toNat_natCast, igx] at ix
  simp only [Int.toNat_natCast, igy] at iy
  rw [← hx, ← hy] at hd
  have w1 : IntKind.i64.wrap ((i : Int) + 1) = ((i + 1 : Nat) : Int) := by rw [wrap64 (by omega) (by omega)]; simp
  have eq := eqlV x y
  have hxy : (x = y) = (x = y) := rfl
  obtain ⟨o, ho⟩ : ∃ o, o = decide (x = y) := ⟨_, rfl⟩
  rw [← ho] at eq
  obtain ⟨k1, b1, e1', s1, f1, t1', v1, g1⟩ := x
  obtain ⟨k2, b2, e2', s2, f2, t2', v2, g2⟩ := y
  simp only [encV] at eq
  cases o with
  | true =>
    have exy := of_decide_eq_true ho.symm
    repeat (first|with_reducible refine vmR ?_|with_reducible refine vmV rfl ?_|with_reducible refine vmW rfl ?_|with_reducible refine blockW_y (by decide) ?_|with_reducible refine vmL ?_|((with_reducible first|apply vmO|apply vmT);(case a=>simp [t0, t1, t5, q, q', n1, l1, c1, i1];with_reducible first|exact .v|exact .c))|((with_reducible apply vmC);(case e=>simp [t0, t1, t5, q, q', n1, l1, c1, i1];with_reducible first|exact .t|exact .f)))
    (with_reducible refine W_draw_id (pln := true) [0, 1, 2, 3, 4, 5, 6, 7, 8] [(3, (3, [])), (7, (7, []))] (by kernel_rfl) rfl ?_)
    repeat (first|with_reducible refine vmR ?_|with_reducible refine vmV rfl ?_|with_reducible refine vmW rfl ?_|with_reducible refine blockW_y (by decide) ?_|with_reducible refine vmL ?_|((with_reducible first|apply vmO|apply vmT);(case a=>simp [t0, t1, t5, c1, i1, c2, i2, ix, iy, eq];with_reducible first|exact .v|exact .c))|((with_reducible apply vmC);(case e=>simp [t0, t1, t5, c1, i1, c2, i2, ix, iy, eq];with_reducible first|exact .t|exact .f)))
    refine ⟨by simp [readSame, beqAV_self, t0, t1, ix, iy]; done, _, by simp; first | done | rfl, ?_⟩
    repeat (first|with_reducible refine vmR ?_|with_reducible refine vmV rfl ?_|with_reducible refine vmW rfl ?_|with_reducible refine blockW_y (by decide) ?_|with_reducible refine vmL ?_|((with_reducible first|apply vmO|apply vmT);(case a=>simp [t5, w1];with_reducible first|exact .v|exact .c))|((with_reducible apply vmC);(case e=>simp [t5, w1];with_reducible first|exact .t|exact .f)))
    refine ⟨a.length - (i + 1), by omega, _, _, i + 1, rfl, rfl, by omega, ?_, by simp [t0], by simp [t1], by simp, he.drew⟩
    rw [← hd, exy]; simp
  | false =>
    have nxy := of_decide_eq_false ho.symm
    repeat (first|with_reducible refine vmR ?_|with_reducible refine vmV rfl ?_|with_reducible refine vmW rfl ?_|with_reducible refine blockW_y (by decide) ?_|with_reducible refine vmL ?_|((with_reducible first|apply vmO|apply vmT);(case a=>simp [t0, t1, t5, q, q', n1, l1, c1, i1];with_reducible first|exact .v|exact .c))|((with_reducible apply vmC);(case e=>simp [t0, t1, t5, q, q', n1, l1, c1, i1];with_reducible first|exact .t|exact .f)))
    (with_reducible refine W_draw_id (pln := true) [0, 1, 2, 3, 4, 5, 6, 7, 8] [(3, (3, [])), (7, (7, []))] (by kernel_rfl) rfl ?_)
    repeat (first|with_reducible refine vmR ?_|with_reducible refine vmV rfl ?_|with_reducible refine vmW rfl ?_|with_reducible refine blockW_y (by decide) ?_|with_reducible refine vmL ?_|((with_reducible first|apply vmO|apply vmT);(case a=>simp [t0, t1, t5, c1, i1, c2, i2, ix, iy, eq];with_reducible first|exact .v|exact .c))|((with_reducible apply vmC);(case e=>simp [t0, t1, t5, c1, i1, c2, i2, ix, iy, eq];with_reducible first|exact .t|exact .f)))
    refine ⟨by simp [readSame, beqAV_self, t0, t1, ix, iy]; done, _, by simp; first | done | rfl, ?_⟩
    repeat (first|with_reducible refine vmR ?_|with_reducible refine vmV rfl ?_|with_reducible refine vmW rfl ?_|with_reducible refine blockW_y (by decide) ?_|with_reducible refine vmL ?_|((with_reducible first|apply vmO|apply vmT);(case a=>simp;with_reducible first|exact .v|exact .c))|((with_reducible apply vmC);(case e=>simp;with_reducible first|exact .t|exact .f)))
    (first | apply endW_r | apply endW_n); (case h1 => (simp [Try.results41]; first | done | rfl))
    refine ⟨?_, he.drew⟩
    rw [← hd, decide_eq_false]
    intro z
    exact nxy (List.cons.inj z).1

set_option maxHeartbeats 1000000 in
theorem same15_ans (a b : List (Int × List Ver)) (wa wb : List AV) (u v : AV) (h0 : Hp Fm) (ka : SV 2 wa u) (kb : SV 2 wb v) (ga : GF a wa) (gb : GF b wb) (hl : a.length ≤ 9000000000000000000) (hl2 : b.length ≤ 9000000000000000000) (hla : ∀ g ∈ a, g.2.length ≤ 9000000000000000000) (hlb : ∀ g ∈ b, g.2.length ≤ 9000000000000000000) :
    A Try.prog TT (.func 17) [u, v] h0 (fun r h' => r = .bool (decide (a = b)) ∧ HE h0 h') := by
  have c1 := ka.cells
  have i1 := ka.isCell
  have n1 := ka.nm
  have l1 := ka.len Try.underlying22
  have c2 := kb.cells
  have i2 := kb.isCell
  have n2 := kb.nm
  have l2 := kb.len Try.underlying22
  have la := ga.len
  have lb := gb.len
  rw [la] at l1
  rw [lb] at l2
  by_cases ql : a.length = b.length
  case neg =>
    have ql' : ¬ (a.length : Int) = b.length := by omega
    have ne : ¬ a = b := fun z => ql (by rw [z])
    apply A_go Try.func17 rfl (by rfl); (case hn => (simp [Try.ntmps17]; rfl))
    repeat (first|with_reducible refine vmR ?_|with_reducible refine vmV rfl ?_|with_reducible refine vmW rfl ?_|with_reducible refine blockW_y (by decide) ?_|with_reducible refine vmL ?_|((with_reducible first|apply vmO|apply vmT);(case a=>simp [c1, i1, n1, l1, c2, i2, n2, l2, ql, ql'];with_reducible first|exact .v|exact .c))|((with_reducible apply vmC);(case e=>simp [c1, i1, n1, l1, c2, i2, n2, l2, ql, ql'];with_reducible first|exact .t|exact .f)))
    (first | apply endW_r | apply endW_n); (case h1 => (simp [Try.results17]; first | done | rfl))
    exact ⟨by simp [ne], HE.refl h0⟩
  rw [← ql] at l2
  apply A_go Try.func17 rfl (by rfl); (case hn => (simp [Try.ntmps17]; rfl))
  repeat (first|with_reducible refine vmR ?_|with_reducible refine vmV rfl ?_|with_reducible refine vmW rfl ?_|with_reducible refine blockW_y (by decide) ?_|with_reducible refine vmL ?_|((with_reducible first|apply vmO|apply vmT);(case a=>simp [c1, i1, n1, l1, c2, i2, n2, l2];with_reducible first|exact .v|exact .c))|((with_reducible apply vmC);(case e=>simp [c1, i1, n1, l1, c2, i2, n2, l2];with_reducible first|exact .t|exact .f)))
  refine W_loop (fun m s => ∃ (t : Fm AV) (h : Hp Fm) (i : Nat), s = ⟨t, 44, h, none⟩ ∧ m = a.length - i ∧ i ≤ a.length ∧ decide (a.drop i = b.drop i) = decide (a = b) ∧ tget t 0 = u ∧ tget t 1 = v ∧ tget t 5 = .int .i64 i ∧ HE h0 h) a.length
    ⟨_, _, 0, rfl, rfl, by omega, rfl, by simp, by simp, by simp, HE.refl h0⟩ ?_
  rintro m s ⟨t, h, i, rfl, rfl, hi, hd, t0, t1, t5, he⟩
  by_cases q : i < a.length
  case neg =>
    have q' : ¬ (i : Int) < a.length := by omega
    repeat (first|with_reducible refine vmR ?_|with_reducible refine vmV rfl ?_|with_reducible refine vmW rfl ?_|with_reducible refine blockW_y (by decide) ?_|with_reducible refine vmL ?_|((with_reducible first|apply vmO|apply vmT);(case a=>simp [t0, t1, t5, q, q', n1, l1, c1, i1];with_reducible first|exact .v|exact .c))|((with_reducible apply vmC);(case e=>simp [t0, t1, t5, q, q', n1, l1, c1, i1];with_reducible first|exact .t|exact .f)))
    (first | apply endW_r | apply endW_n); (case h1 => (simp [Try.results17]; first | done | rfl))
    rw [← hd, List.drop_eq_nil_iff.mpr (by omega), List.drop_eq_nil_iff.mpr (by omega)]
    exact ⟨by simp, he⟩
  have q' : (i : Int) < a.length := by omega
  have qb : i < b.length := by omega
  have ix := ka.idx (k := .i64) (i := (i : Int)) Try.underlying22 z32 (by omega) (by simpa [la] using q)
  have iy := kb.idx (k := .i64) (i := (i : Int)) Try.underlying22 z32 (by omega) (by simpa [lb] using qb)
  have e1 : a.drop i = a[i] :: a.drop (i + 1) := List.drop_eq_getElem_cons q
  have e2 : b.drop i = b[i]'(by omega) :: b.drop (i + 1) := List.drop_eq_getElem_cons (by omega)
  rw [e1, e2] at hd
  obtain ⟨ua, ea, sa⟩ := ga.at i q (by omega)
  obtain ⟨ub, eb, sb⟩ := gb.at i qb (by omega)
  simp only [Int.toNat_natCast, ea] at ix
  simp only [Int.toNat_natCast, eb] at iy
  have hva := hla _ (List.getElem_mem q)
  have hvb := hlb _ (List.getElem_mem qb)
  obtain ⟨x, hx⟩ : ∃ x, x = a[i] := ⟨_, rfl⟩
  obtain ⟨y, hy⟩ : ∃ y, y = b[i]'(by omega) := ⟨_, rfl⟩
  rw [← hx] at hd ix sa hva
  rw [← hy] at hd iy sb hvb
  obtain ⟨ex, vx⟩ := x
  obtain ⟨ey, vy⟩ := y
  simp only at ix iy sa sb hva hvb
  have d1 := sa.cells
  have j1 := sa.isCell
  have d2 := sb.cells
  have j2 := sb.isCell
  have w1 : IntKind.i64.wrap ((i : Int) + 1) = ((i + 1 : Nat) : Int) := by rw [wrap64 (by omega) (by omega)]; simp
  repeat (first|with_reducible refine vmR ?_|with_reducible refine vmV rfl ?_|with_reducible refine vmW rfl ?_|with_reducible refine blockW_y (by decide) ?_|with_reducible refine vmL ?_|((with_reducible first|apply vmO|apply vmT);(case a=>simp [t0, t1, t5, q, q', n1, l1, c1, i1];with_reducible first|exact .v|exact .c))|((with_reducible apply vmC);(case e=>simp [t0, t1, t5, q, q', n1, l1, c1, i1];with_reducible first|exact .t|exact .f)))
  (with_reducible refine W_draw_id (pln := true) [0, 1, 2, 3, 4, 5, 6, 7, 8, 9, 10, 11] [(4, (4, [])), (9, (9, []))] (by kernel_rfl) rfl ?_)
  repeat (first|with_reducible refine vmR ?_|with_reducible refine vmV rfl ?_|with_reducible refine vmW rfl ?_|with_reducible refine blockW_y (by decide) ?_|with_reducible refine vmL ?_|((with_reducible first|apply vmO|apply vmT);(case a=>simp [t0, t1, t5, c1, i1, c2, i2, ix, iy, d1, j1, d2, j2];with_reducible first|exact .v|exact .c))|((with_reducible apply vmC);(case e=>simp [t0, t1, t5, c1, i1, c2, i2, ix, iy, d1, j1, d2, j2];with_reducible first|exact .t|exact .f)))
  refine A.mono (same6_ans vx vy ua ub h.drew sa sb hva hvb) ?_
  rintro _ h2 ⟨rfl, e2⟩
  have e02 := he.drew.trans e2
  obtain ⟨o, ho⟩ : ∃ o, o = decide (vx = vy) := ⟨_, rfl⟩
  rw [← ho]
  refine ⟨_, by simp; first | done | rfl, ?_⟩
  repeat (first|with_reducible refine vmR ?_|with_reducible refine vmV rfl ?_|with_reducible refine vmW rfl ?_|with_reducible refine blockW_y (by decide) ?_|with_reducible refine vmL ?_|((with_reducible first|apply vmO|apply vmT);(case a=>simp;with_reducible first|exact .v|exact .c))|((with_reducible apply vmC);(case e=>simp;with_reducible first|exact .t|exact .f)))
  refine ⟨by simp [readSame, beqAV_self, t0, t1, t5, ix, iy]; done, _, by simp; first | done | rfl, ?_⟩
  repeat (first|with_reducible refine vmR ?_|with_reducible refine vmV rfl ?_|with_reducible refine vmW rfl ?_|with_reducible refine blockW_y (by decide) ?_|with_reducible refine vmL ?_|((with_reducible first|apply vmO|apply vmT);(case a=>simp;with_reducible first|exact .v|exact .c))|((with_reducible apply vmC);(case e=>simp;with_reducible first|exact .t|exact .f)))
  (with_reducible refine W_draw_id (pln := true) [0, 1, 2, 3, 4, 5, 6, 7, 8, 9, 10, 11, 12, 13, 14] [(4, (4, [])), (9, (9, []))] (by kernel_rfl) rfl ?_)
  by_cases qe : ex = ey
  · cases o with
    | true =>
      have exy := of_decide_eq_true ho.symm
      repeat (first|with_reducible refine vmR ?_|with_reducible refine vmV rfl ?_|with_reducible refine vmW rfl ?_|with_reducible refine blockW_y (by decide) ?_|with_reducible refine vmL ?_|((with_reducible first|apply vmO|apply vmT);(case a=>simp [t0, t1, t5, c1, i1, c2, i2, ix, iy, qe];with_reducible first|exact .v|exact .c))|((with_reducible apply vmC);(case e=>simp [t0, t1, t5, c1, i1, c2, i2, ix, iy, qe];with_reducible first|exact .t|exact .f)))
      refine ⟨by simp [readSame, beqAV_self, t0, t1, ix, iy]; done, _, by simp; first | done | rfl, ?_⟩
      repeat (first|with_reducible refine vmR ?_|with_reducible refine vmV rfl ?_|with_reducible refine vmW rfl ?_|with_reducible refine blockW_y (by decide) ?_|with_reducible refine vmL ?_|((with_reducible first|apply vmO|apply vmT);(case a=>simp [t5, w1];with_reducible first|exact .v|exact .c))|((with_reducible apply vmC);(case e=>simp [t5, w1];with_reducible first|exact .t|exact .f)))
      refine ⟨a.length - (i + 1), by omega, _, _, i + 1, rfl, rfl, by omega, ?_, by simp [t0], by simp [t1], by simp, e02.drew⟩
      rw [← hd, exy, qe]; simp
    | false =>
      have nxy := of_decide_eq_false ho.symm
      repeat (first|with_reducible refine vmR ?_|with_reducible refine vmV rfl ?_|with_reducible refine vmW rfl ?_|with_reducible refine blockW_y (by decide) ?_|with_reducible refine vmL ?_|((with_reducible first|apply vmO|apply vmT);(case a=>simp [t0, t1, t5, c1, i1, c2, i2, ix, iy, qe];with_reducible first|exact .v|exact .c))|((with_reducible apply vmC);(case e=>simp [t0, t1, t5, c1, i1, c2, i2, ix, iy, qe];with_reducible first|exact .t|exact .f)))
      refine ⟨by simp [readSame, beqAV_self, t0, t1, ix, iy]; done, _, by simp; first | done | rfl, ?_⟩
      repeat (first|with_reducible refine vmR ?_|with_reducible refine vmV rfl ?_|with_reducible refine vmW rfl ?_|with_reducible refine blockW_y (by decide) ?_|with_reducible refine vmL ?_|((with_reducible first|apply vmO|apply vmT);(case a=>simp;with_reducible first|exact .v|exact .c))|((with_reducible apply vmC);(case e=>simp;with_reducible first|exact .t|exact .f)))
      (first | apply endW_r | apply endW_n); (case h1 => (simp [Try.results17]; first | done | rfl))
      refine ⟨?_, e02.drew⟩
      rw [← hd, decide_eq_false]
      intro z
      exact nxy (Prod.mk.inj (List.cons.inj z).1).2
  · repeat (first|with_reducible refine vmR ?_|with_reducible refine vmV rfl ?_|with_reducible refine vmW rfl ?_|with_reducible refine blockW_y (by decide) ?_|with_reducible refine vmL ?_|((with_reducible first|apply vmO|apply vmT);(case a=>simp [t0, t1, t5, c1, i1, c2, i2, ix, iy, qe];with_reducible first|exact .v|exact .c))|((with_reducible apply vmC);(case e=>simp [t0, t1, t5, c1, i1, c2, i2, ix, iy, qe];with_reducible first|exact .t|exact .f)))
    refine ⟨by simp [readSame, beqAV_self, t0, t1, ix, iy]; done, _, by simp; first | done | rfl, ?_⟩
    repeat (first|with_reducible refine vmR ?_|with_reducible refine vmV rfl ?_|with_reducible refine vmW rfl ?_|with_reducible refine blockW_y (by decide) ?_|with_reducible refine vmL ?_|((with_reducible first|apply vmO|apply vmT);(case a=>simp;with_reducible first|exact .v|exact .c))|((with_reducible apply vmC);(case e=>simp;with_reducible first|exact .t|exact .f)))
    (first | apply endW_r | apply endW_n); (case h1 => (simp [Try.results17]; first | done | rfl))
    refine ⟨?_, e02.drew⟩
    rw [← hd, decide_eq_false]
    intro z
    exact qe (Prod.mk.inj (List.cons.inj z).1).1
end Go.Vn

set_option maxRecDepth 20000
namespace Go.Vn
open Go.Proofs

theorem read_fileD (cs : Tx) (h : cs.length ≤ 16777216) : readR logN 0 16777216 (fileD cs) = (cs, 0) := by
  simp only [readR, fileD, oneD, lookF]
  simp
  exact List.take_of_length_le (by omega)
theorem sync_fileD (cs : Tx) : (fileD cs).sync logN = (0, fileD cs) := by
  simp [Dk.sync, Dk.deed, has, lookF, fileD, oneD, Dk.tick, Dk.syn, setF, Dk.put, clkF]

set_option maxHeartbeats 8000000 in
theorem walagain_law (l : List Gr) (v : AV) (hv : SV 2 (l.map encGr) v) (hl : l.length ≤ 9223372036854775807) (hok : ∀ g ∈ l, GrOk g) (h0 : Hp Fm) (hp : ∀ z, h0.pol z = false) :
    A Try.prog TT (.func 5) [v] h0 (fun r h' => r = .bool true ∧ HE h0 h') := by
  have c1 := hv.cells
  have i1 := hv.isCell
  have n1 := hv.nm
  have l1 := hv.len Try.underlying22
  rw [List.length_map] at l1
  apply A_go Try.func5 rfl (by rfl); (case hn => (simp [Try.ntmps5]; rfl))
  repeat (first|with_reducible refine vmR ?_|with_reducible refine vmV rfl ?_|with_reducible refine vmW rfl ?_|with_reducible refine blockW_y (by decide) ?_|with_reducible refine vmL ?_|((with_reducible first|apply vmO|apply vmT);(case a=>simp;with_reducible first|exact .v|exact .c))|((with_reducible apply vmC);(case e=>simp;with_reducible first|exact .t|exact .f)))
  refine A.mono (new_ans 100000 h0 (by omega)) ?_
  rintro _ h1 ⟨p, m, rfl, d1, e1, pn, mn⟩
  have w1 := wf_new 100000 (by omega)
  have p1 : ∀ z, h1.pol z = false := fun z => by rw [e1.pol]; exact hp z
  refine ⟨_, by simp; first | done | rfl, ?_⟩
  repeat (first|with_reducible refine vmR ?_|with_reducible refine vmV rfl ?_|with_reducible refine vmW rfl ?_|with_reducible refine blockW_y (by decide) ?_|with_reducible refine vmL ?_|((with_reducible first|apply vmO|apply vmT);(case a=>simp;with_reducible first|exact .v|exact .c))|((with_reducible apply vmC);(case e=>simp;with_reducible first|exact .t|exact .f)))
  refine A.mono (wcreate_ans logN (by decide) p m _ w1 h1 d1 p1) ?_
  rintro r h2 ⟨d2, x2, hr⟩
  have w2 := wf_fresh w1 logN []
  have fr := fresh_new logN named_log 100000 (by omega)
  rw [fr] at d2 w2 hr
  rcases hr with ⟨_, q, rfl, lg, hq⟩ | ⟨z, _⟩
  case inr => exact absurd rfl z
  have n5 : q ≠ p := by have := d1.pn; omega
  have n6 : q ≠ m := by have := d1.mn; omega
  have qn : h0.no ≤ q := by have := e1.no; omega
  have e2 : HE h0 h2 := e1.x2 x2 (fun o ho => by rcases ho with rfl | rfl <;> assumption) (fun _ z => z.elim)
  refine ⟨_, by simp; first | done | rfl, ?_⟩
  repeat (first|with_reducible refine vmR ?_|with_reducible refine vmV rfl ?_|with_reducible refine vmW rfl ?_|with_reducible refine blockW_y (by decide) ?_|with_reducible refine vmL ?_|((with_reducible first|apply vmO|apply vmT);(case a=>simp [eqlAV];with_reducible first|exact .v|exact .c))|((with_reducible apply vmC);(case e=>simp [eqlAV];with_reducible first|exact .t|exact .f)))
  refine W.mono (R := fun e s => e = .exit 0 ∧ ∃ (t : Fm AV) (h : Hp Fm), s = ⟨t, 84, h, none⟩ ∧ HE h0 h) ?_ ?_
  · refine W_loop (fun mm s => ∃ (t : Fm AV) (h : Hp Fm) (i : Nat) (gs : List (Int × List Ver)) (q : Nat) (u : AV) (ws : List AV), s = ⟨t, 84, h, none⟩ ∧ mm = 5 - i ∧ i ≤ 5 ∧ i ≤ l.length ∧ gs.length ≤ i ∧ (fileB gs).length ≤ i * 8400 ∧ GUp 0 gs ∧ (∀ g ∈ gs, g.2.length ≤ 4) ∧ tget t 0 = v ∧ tget t 3 = .ptr p 0 ∧ tget t 4 = .ptr q 0 ∧ tget t 6 = u ∧ tget t 7 = .int .i64 (lastE 0 gs) ∧ tget t 8 = .int .i64 i ∧ AC h0 h 2 ws u ∧ GF gs ws ∧ HE h0 h ∧ DKs h p m (fileD (fileB gs)) ∧ (fileD (fileB gs)).wf ∧ LGs h q p logN (lastE 0 gs) false ∧ q ≠ p ∧ q ≠ m ∧ h0.no ≤ q) 5
      ⟨_, _, 0, [], q, .nils, [], rfl, rfl, by omega, by omega, by simp, by simp [fileB], trivial, by simp, by simp, by simp, by simp, by simp, by simp [lastE], by simp, .inl ⟨rfl, rfl⟩, trivial, e2, d2, w2, lg, n5, n6, qn⟩ ?_
    clear n5 n6 qn lg hq e2
    rintro mm s ⟨t, h, i, gs, q, u, ws, rfl, rfl, hi5, hi, hgl, hcl, hup, hvl, t0, t3, t4, t6, t7, t8, hu, gf, he, dk, wk, lgk, n5, n6, qn⟩
    have uc := hu.sv.cells
    have ui := hu.sv.isCell
    have hph : ∀ z, h.pol z = false := fun z => by rw [he.pol]; exact hp z
    by_cases qq : i < l.length ∧ i < 5
    case neg =>
      by_cases qa : i < l.length
      · have qa' : (i : Int) < l.length := by omega
        have qb : ¬ i < 5 := by omega
        have qb' : ¬ (i : Int) < 5 := by omega
        repeat (first|with_reducible refine vmR ?_|with_reducible refine vmV rfl ?_|with_reducible refine vmW rfl ?_|with_reducible refine blockW_y (by decide) ?_|with_reducible refine vmL ?_|((with_reducible first|apply vmO|apply vmT);(case a=>simp [t0, t8, c1, i1, n1, l1, qa, qa', qb, qb'];with_reducible first|exact .v|exact .c))|((with_reducible apply vmC);(case e=>simp [t0, t8, c1, i1, n1, l1, qa, qa', qb, qb'];with_reducible first|exact .t|exact .f)))
        exact ⟨rfl, _, _, rfl, he⟩
      · have qa' : ¬ (i : Int) < l.length := by omega
        repeat (first|with_reducible refine vmR ?_|with_reducible refine vmV rfl ?_|with_reducible refine vmW rfl ?_|with_reducible refine blockW_y (by decide) ?_|with_reducible refine vmL ?_|((with_reducible first|apply vmO|apply vmT);(case a=>simp [t0, t8, c1, i1, n1, l1, qa, qa'];with_reducible first|exact .v|exact .c))|((with_reducible apply vmC);(case e=>simp [t0, t8, c1, i1, n1, l1, qa, qa'];with_reducible first|exact .t|exact .f)))
        exact ⟨rfl, _, _, rfl, he⟩
    obtain ⟨qa, qb⟩ := qq
    have qa' : (i : Int) < l.length := by omega
    have qb' : (i : Int) < 5 := by omega
    obtain ⟨x, hx⟩ : ∃ x, x = l[i] := ⟨_, rfl⟩
    have ix := hv.idx (k := .i64) (i := (i : Int)) Try.underlying22 z32 (by omega) (by simp; omega)
    have ig : (l.map encGr)[i]'(by simp; omega) = encGr x := by simp [hx]
    simp only [Int.toNat_natCast, ig] at ix
    have gx := hok x (by rw [hx]; exact List.getElem_mem qa)
    have wi : IntKind.i64.wrap ((i : Int) + 1) = ((i + 1 : Nat) : Int) := by rw [wrap64 (by omega) (by omega)]; simp
    clear hx
    obtain ⟨ep, rv, vs⟩ := x
    obtain ⟨gsv, glen, gbig, gi⟩ := gx
    simp only at gsv glen gbig gi
    obtain ⟨last, hlast⟩ : ∃ last, last = lastE 0 gs := ⟨_, rfl⟩
    rw [← hlast] at t7 lgk
    repeat (first|with_reducible refine vmR ?_|with_reducible refine vmV rfl ?_|with_reducible refine vmW rfl ?_|with_reducible refine blockW_y (by decide) ?_|with_reducible refine vmL ?_|((with_reducible first|apply vmO|apply vmT);(case a=>simp [t0, t8, c1, i1, n1, l1, qa, qa', qb, qb', ix];with_reducible first|exact .v|exact .c))|((with_reducible apply vmC);(case e=>simp [t0, t8, c1, i1, n1, l1, qa, qa', qb, qb', ix];with_reducible first|exact .t|exact .f)))
    refine A.mono (cut15_ans ep vs rv h gsv glen gbig hph) ?_
    rintro _ h3 ⟨u3, rfl, s3, e3⟩
    have c3 := s3.cells
    have i3 := s3.isCell
    have cl := cut_len (ep := ep) (vs := vs)
    have csm := cut_small (ep := ep) (vs := vs)
    obtain ⟨cv, hcv⟩ : ∃ cv, cv = cutG ep vs := ⟨_, rfl⟩
    rw [← hcv] at s3 cl csm
    obtain ⟨hs, hhs⟩ : ∃ hs : Hp Fm, hs = { h3 with obj := Mp.set (Mp.set h3.obj h3.no (.row [.int .i64 0, .nils])) h3.no (.row [.int .i64 ep, u3]), no := h3.no + 1 } := ⟨_, rfl⟩
    have es : HE h3 hs := by rw [hhs]; exact ((HE.refl h3).new _).set (Nat.le_refl _) _
    have gs0 : Mp.get hs.obj h3.no = some (.row [.int .i64 ep, u3]) := by rw [hhs]; simp
    have gn : h3.no < hs.no := by rw [hhs]; show h3.no < h3.no + 1; omega
    have e3s := e3.trans es
    have es0 := he.trans e3s
    have psf : ∀ z, hs.pol z = false := fun z => by rw [es0.pol]; exact hp z
    have np : h3.no ≠ p := by have := dk.pn; have := e3.no; omega
    have nm : h3.no ≠ m := by have := dk.mn; have := e3.no; omega
    have nq : h3.no ≠ q := by have := lgk.qn; have := e3.no; omega
    refine ⟨_, by simp; first | done | rfl, ?_⟩
    repeat (first|with_reducible refine vmR ?_|with_reducible refine vmV rfl ?_|with_reducible refine vmW rfl ?_|with_reducible refine blockW_y (by decide) ?_|with_reducible refine vmL ?_|((with_reducible first|apply vmO|apply vmT);(case a=>simp [t4, c3, i3];with_reducible first|exact .v|exact .c))|((with_reducible apply vmC);(case e=>simp [t4, c3, i3];with_reducible first|exact .t|exact .f)))
    rw [← hhs]
    clear hhs
    repeat (first|with_reducible refine vmR ?_|with_reducible refine vmV rfl ?_|with_reducible refine vmW rfl ?_|with_reducible refine blockW_y (by decide) ?_|with_reducible refine vmL ?_|((with_reducible first|apply vmO|apply vmT);(case a=>simp [gs0, c3, i3];with_reducible first|exact .v|exact .c))|((with_reducible apply vmC);(case e=>simp [gs0, c3, i3];with_reducible first|exact .t|exact .f)))
    refine A.mono (may15_ans ep cv u3 hs s3 (by omega) (fun v hv => by have := (csm v hv).1; omega) psf) ?_
    rintro _ h5 ⟨rfl, e5⟩
    have e35 := e3s.trans e5
    have e05 := he.trans e35
    have g5 := (e5.obj _ gn).trans gs0
    have gn5 := Nat.lt_of_lt_of_le gn e5.no
    have d5 := dk.he e35
    have lg5 := lgk.he e35
    have hu5 := hu.of e35
    have p5 : ∀ z, h5.pol z = false := fun z => by rw [e05.pol]; exact hp z
    have OPEN : ∀ (gs' : List (Int × List Ver)) (h : Hp Fm), GUp 0 gs' → (fileB gs').length ≤ 50000 → HE h0 h → DKs h p m (fileD (fileB gs')) → (fileD (fileB gs')).wf → A Try.prog TT (.func 14) [.ptr p 0, .str logN] h (fun r h' => DKs h' p m (fileD (fileB gs')) ∧ HX (fun o => o = p ∨ o = m) (fun _ => False) h h' ∧ ∃ q gv ws, r = .tup [.ptr q 0, gv, .int .i64 0] ∧ LGs h' q p logN (lastE 0 gs') false ∧ h.no ≤ q ∧ SV 2 ws gv ∧ GF gs' ws) := by
      intro gs' h hup hln he dk wk
      have hgr := grP_file 0 gs' hup
      refine A.mono (wopen_ans logN (fileB gs') (by decide) p m _ wk h dk (fun z => by rw [he.pol]; exact hp z) (read_fileD _ (by omega)) (by omega) (0, fileD (fileB gs')) (by rw [hgr, if_neg (Nat.lt_irrefl _), sync_fileD])) ?_
      rintro r h' ⟨dk', x', hh⟩
      rcases hh with ⟨_, q, gv, ws, hr, hlg, hq, hsv, hgf⟩ | ⟨z, _⟩
      · rw [hgr] at hlg hgf
        exact ⟨dk', x', q, gv, ws, hr, hlg, hq, hsv, hgf⟩
      · exact absurd rfl z
    have room : (fileB gs).length + 8400 ≤ 100000 := by omega
    refine ⟨_, by simp; first | done | rfl, ?_⟩
    by_cases yes : GMay ep cv = true ∧ last < ep
    · obtain ⟨hg, hlt⟩ := yes
      obtain ⟨hep, hall⟩ := gmay_all hg
      have gl := encG_len (ep := ep) (vs := cv) ⟨by omega, hep.2⟩ (by omega) (fun v hv => (hall v hv).1) csm
      have hlt' : ¬ ep ≤ last := by omega
      rw [hg]
      repeat (first|with_reducible refine vmR ?_|with_reducible refine vmV rfl ?_|with_reducible refine vmW rfl ?_|with_reducible refine blockW_y (by decide) ?_|with_reducible refine vmL ?_|((with_reducible first|apply vmO|apply vmT);(case a=>simp [t7, g5, c3, i3, hlt, t4];with_reducible first|exact .v|exact .c))|((with_reducible apply vmC);(case e=>simp [t7, g5, c3, i3, hlt, t4];with_reducible first|exact .t|exact .f)))
      refine A.mono (wapp_ans ep cv u3 (fileB gs) last h5 s3 cl csm p5 p m q wk d5 lg5 n5 n6 room) ?_
      rintro r4 h4 ⟨hr4, x4⟩
      rcases hr4 with ⟨z, _⟩ | ⟨_, _, rfl, d4, w4, lg4⟩
      · exfalso
        rcases z with z | z
        · rw [hg] at z; cases z
        · omega
      have g4 : Mp.get h4.obj h3.no = some (.row [.int .i64 ep, u3]) := (x4.obj _ gn5 (fun z => by rcases z with z | z | z <;> contradiction)).trans g5
      have hu4 := AC.ofX hu5 x4
      have he4 : HE h0 h4 := e05.x2 x4 (fun o ho => by rcases ho with rfl | rfl | rfl <;> assumption) (fun _ z => z.elim)
      have p4 : ∀ z, h4.pol z = false := fun z => by rw [he4.pol]; exact hp z
      refine ⟨_, by simp; first | done | rfl, ?_⟩
      repeat (first|with_reducible refine vmR ?_|with_reducible refine vmV rfl ?_|with_reducible refine vmW rfl ?_|with_reducible refine blockW_y (by decide) ?_|with_reducible refine vmL ?_|((with_reducible first|apply vmO|apply vmT);(case a=>simp [eqlAV, t6, g4, c3, i3, uc, ui, newSeq, newSl, p4];with_reducible first|exact .v|exact .c))|((with_reducible apply vmC);(case e=>simp [eqlAV, t6, g4, c3, i3, uc, ui, newSeq, newSl, p4];with_reducible first|exact .t|exact .f)))
      with_reducible apply WO_app_i; (case hw => (simp [eqlAV, t6, g4, c3, i3, uc, ui, newSeq, newSl, p4]; done)); (case ho => rfl); (case hb => rfl); (case ha => (simp [eqlAV, t6, g4, c3, i3, uc, ui, newSeq, newSl, p4]; first | done | exact ⟨rfl, rfl⟩ | rfl)); (case h1 => (simp; first | done | rfl)); (case h2 => (simp; first | done | rfl))
      have en1 := (HE.refl h4).newSl 1
      refine app_then (AC.app (h0 := h0) etG (hu4.of en1) (he4.trans en1) (hp _) (by have := gf.len; simp; omega)) ?_
      rintro x7 h7 ⟨ac7, he7, ho7, hn7, hg7⟩
      have e7 := ac7.sv.cells
      have f7 := ac7.sv.isCell
      have g7 : Mp.get h7.obj h3.no = some (.row [.int .i64 ep, u3]) := by rw [ho7]; exact g4
      have cs2 : fileB gs ++ frame (encG ep cv) = fileB (gs ++ [(ep, cv)]) := by rw [fileB_app]
      rw [cs2] at d4 w4
      have d7 : DKs h7 p m (fileD (fileB (gs ++ [(ep, cv)]))) := by
        obtain ⟨row, ⟨es, a1, a2⟩, a3, a4, a5⟩ := d4
        exact ⟨by rw [ho7]; exact row, ⟨es, by rw [ho7]; exact a1, a2⟩, by rw [hn7]; exact a3, by rw [hn7]; exact a4, a5⟩
      have up7 : GUp 0 (gs ++ [(ep, cv)]) := GUp_app hup (by rw [← hlast]; exact hlt) hg (by show (encG ep cv).length < _; omega) (by show cv.length < _; omega)
      have len7 : (fileB (gs ++ [(ep, cv)])).length ≤ (i + 1) * 8400 := by
        rw [fileB_app, List.length_append, frame_len]; simp only; omega
      have gf7 := gf.app (ep := ep) (vs := cv) s3
      have vl7 : ∀ g ∈ gs ++ [(ep, cv)], g.2.length ≤ 4 := by
        intro g hg
        rcases List.mem_append.mp hg with z | z
        · exact hvl g z
        · rw [List.mem_singleton.mp z]; exact cl
      have gl7 : (gs ++ [(ep, cv)]).length ≤ i + 1 := by simp; omega
      have la7 : lastE 0 (gs ++ [(ep, cv)]) = ep := lastE_app _ _ _
      obtain ⟨gs2, hgs2⟩ : ∃ gs2, gs2 = gs ++ [(ep, cv)] := ⟨_, rfl⟩
      rw [← hgs2] at d7 w4 up7 len7 gf7 vl7 gl7 la7
      refine ⟨_, by simp; first | done | rfl, ?_⟩
      repeat (first|with_reducible refine vmR ?_|with_reducible refine vmV rfl ?_|with_reducible refine vmW rfl ?_|with_reducible refine blockW_y (by decide) ?_|with_reducible refine vmL ?_|((with_reducible first|apply vmO|apply vmT);(case a=>simp [e7, f7, g7, t3];with_reducible first|exact .v|exact .c))|((with_reducible apply vmC);(case e=>simp [e7, f7, g7, t3];with_reducible first|exact .t|exact .f)))
      refine A.mono (OPEN gs2 h7 up7 (by omega) he7 d7 w4) ?_
      rintro _ h8 ⟨d8, x8, q8, gv, ws8, rfl, lg8, hq8, sg8, gf8⟩
      have gc := sg8.cells
      have gi := sg8.isCell
      have he8 : HE h0 h8 := he7.x2 x8 (fun o ho => by rcases ho with rfl | rfl <;> assumption) (fun _ z => z.elim)
      refine ⟨_, by simp; first | done | rfl, ?_⟩
      repeat (first|with_reducible refine vmR ?_|with_reducible refine vmV rfl ?_|with_reducible refine vmW rfl ?_|with_reducible refine blockW_y (by decide) ?_|with_reducible refine vmL ?_|((with_reducible first|apply vmO|apply vmT);(case a=>simp [eqlAV, gc, gi, e7, f7];with_reducible first|exact .v|exact .c))|((with_reducible apply vmC);(case e=>simp [eqlAV, gc, gi, e7, f7];with_reducible first|exact .t|exact .f)))
      refine A.mono (same15_ans gs2 gs2 ws8 _ gv x7 h8 sg8 ac7.sv gf8 gf7 (by omega) (by omega) (fun g hg => by have := vl7 g hg; omega) (fun g hg => by have := vl7 g hg; omega)) ?_
      rintro _ h9 ⟨rfl, e9⟩
      rw [decide_eq_true (rfl : gs2 = gs2)]
      refine ⟨_, by simp; first | done | rfl, ?_⟩
      repeat (first|with_reducible refine vmR ?_|with_reducible refine vmV rfl ?_|with_reducible refine vmW rfl ?_|with_reducible refine blockW_y (by decide) ?_|with_reducible refine vmL ?_|((with_reducible first|apply vmO|apply vmT);(case a=>simp [t8, wi];with_reducible first|exact .v|exact .c))|((with_reducible apply vmC);(case e=>simp [t8, wi];with_reducible first|exact .t|exact .f)))
      refine ⟨5 - (i + 1), by omega, _, h9, i + 1, gs2, q8, x7, _, rfl, rfl, by omega, by omega, gl7, len7, up7, vl7, by simp [t0], by simp [t3], by simp, by simp, by simp [la7], by simp, (AC.ofX ac7 x8).of e9, gf7, he8.trans e9, d8.he e9, w4, lg8.he e9, ?_, ?_, ?_⟩
      · have := d7.pn; omega
      · have := d7.mn; omega
      · have := he7.no; omega
    · have no : GMay ep cv = false ∨ ep ≤ last := by
        cases hg : GMay ep cv with
        | false => exact .inl rfl
        | true => exact .inr (by rcases Int.lt_or_le last ep with z | z; · exact absurd ⟨hg, z⟩ yes
                                 · exact z)
      have APP := wapp_ans ep cv u3 (fileB gs) last h5 s3 cl csm p5 p m q wk d5 lg5 n5 n6 room
      have step : ∀ (r4 : AV) (h4 : Hp Fm), HX (fun o => o = p ∨ o = m ∨ o = q) (fun _ => False) h5 h4 → HE h0 h4 ∧ AC h0 h4 2 ws u ∧ (∀ z, h4.pol z = false) := by
        intro r4 h4 x4
        have he4 : HE h0 h4 := e05.x2 x4 (fun o ho => by rcases ho with rfl | rfl | rfl <;> assumption) (fun _ z => z.elim)
        exact ⟨he4, AC.ofX hu5 x4, fun z => by rw [he4.pol]; exact hp z⟩
      cases hg : GMay ep cv with
      | false =>
        repeat (first|with_reducible refine vmR ?_|with_reducible refine vmV rfl ?_|with_reducible refine vmW rfl ?_|with_reducible refine blockW_y (by decide) ?_|with_reducible refine vmL ?_|((with_reducible first|apply vmO|apply vmT);(case a=>simp [g5, c3, i3, t4];with_reducible first|exact .v|exact .c))|((with_reducible apply vmC);(case e=>simp [g5, c3, i3, t4];with_reducible first|exact .t|exact .f)))
        refine A.mono APP ?_
        rintro r4 h4 ⟨hr4, x4⟩
        obtain ⟨he4, hu4, p4⟩ := step r4 h4 x4
        rcases hr4 with ⟨_, rfl, d4, lg4⟩ | ⟨z1, z2, _⟩
        case inr => exact (yes ⟨z1, z2⟩).elim
        refine ⟨_, by simp; first | done | rfl, ?_⟩
        repeat (first|with_reducible refine vmR ?_|with_reducible refine vmV rfl ?_|with_reducible refine vmW rfl ?_|with_reducible refine blockW_y (by decide) ?_|with_reducible refine vmL ?_|((with_reducible first|apply vmO|apply vmT);(case a=>simp [eqlAV, t3];with_reducible first|exact .v|exact .c))|((with_reducible apply vmC);(case e=>simp [eqlAV, t3];with_reducible first|exact .t|exact .f)))
        refine A.mono (OPEN gs h4 hup (by omega) he4 d4 wk) ?_
        rintro _ h8 ⟨d8, x8, q8, gv, ws8, rfl, lg8, hq8, sg8, gf8⟩
        have gc := sg8.cells
        have gi := sg8.isCell
        have he8 : HE h0 h8 := he4.x2 x8 (fun o ho => by rcases ho with rfl | rfl <;> assumption) (fun _ z => z.elim)
        refine ⟨_, by simp; first | done | rfl, ?_⟩
        repeat (first|with_reducible refine vmR ?_|with_reducible refine vmV rfl ?_|with_reducible refine vmW rfl ?_|with_reducible refine blockW_y (by decide) ?_|with_reducible refine vmL ?_|((with_reducible first|apply vmO|apply vmT);(case a=>simp [eqlAV, gc, gi, t6, uc, ui];with_reducible first|exact .v|exact .c))|((with_reducible apply vmC);(case e=>simp [eqlAV, gc, gi, t6, uc, ui];with_reducible first|exact .t|exact .f)))
        refine A.mono (same15_ans gs gs ws8 _ gv u h8 sg8 hu4.sv gf8 gf (by omega) (by omega) (fun g hg => by have := hvl g hg; omega) (fun g hg => by have := hvl g hg; omega)) ?_
        rintro _ h9 ⟨rfl, e9⟩
        rw [decide_eq_true (rfl : gs = gs)]
        refine ⟨_, by simp; first | done | rfl, ?_⟩
        repeat (first|with_reducible refine vmR ?_|with_reducible refine vmV rfl ?_|with_reducible refine vmW rfl ?_|with_reducible refine blockW_y (by decide) ?_|with_reducible refine vmL ?_|((with_reducible first|apply vmO|apply vmT);(case a=>simp [t8, wi];with_reducible first|exact .v|exact .c))|((with_reducible apply vmC);(case e=>simp [t8, wi];with_reducible first|exact .t|exact .f)))
        refine ⟨5 - (i + 1), by omega, _, h9, i + 1, gs, q8, u, ws, rfl, rfl, by omega, by omega, by omega, by omega, hup, hvl, by simp [t0], by simp [t3], by simp, by simp [t6], by simp [t7, hlast], by simp, (AC.ofX hu4 x8).of e9, gf, he8.trans e9, d8.he e9, wk, lg8.he e9, ?_, ?_, ?_⟩
        · have := d4.pn; omega
        · have := d4.mn; omega
        · have := he4.no; omega
      | true =>
        have qe : ep ≤ last := by rcases no with z | z; · rw [hg] at z; cases z
                                  · exact z
        have qe' : ¬ last < ep := by omega
        repeat (first|with_reducible refine vmR ?_|with_reducible refine vmV rfl ?_|with_reducible refine vmW rfl ?_|with_reducible refine blockW_y (by decide) ?_|with_reducible refine vmL ?_|((with_reducible first|apply vmO|apply vmT);(case a=>simp [t7, g5, c3, i3, qe', t4];with_reducible first|exact .v|exact .c))|((with_reducible apply vmC);(case e=>simp [t7, g5, c3, i3, qe', t4];with_reducible first|exact .t|exact .f)))
        refine A.mono APP ?_
        rintro r4 h4 ⟨hr4, x4⟩
        obtain ⟨he4, hu4, p4⟩ := step r4 h4 x4
        rcases hr4 with ⟨_, rfl, d4, lg4⟩ | ⟨z1, z2, _⟩
        case inr => exact (yes ⟨z1, z2⟩).elim
        refine ⟨_, by simp; first | done | rfl, ?_⟩
        repeat (first|with_reducible refine vmR ?_|with_reducible refine vmV rfl ?_|with_reducible refine vmW rfl ?_|with_reducible refine blockW_y (by decide) ?_|with_reducible refine vmL ?_|((with_reducible first|apply vmO|apply vmT);(case a=>simp [eqlAV, t3];with_reducible first|exact .v|exact .c))|((with_reducible apply vmC);(case e=>simp [eqlAV, t3];with_reducible first|exact .t|exact .f)))
        refine A.mono (OPEN gs h4 hup (by omega) he4 d4 wk) ?_
        rintro _ h8 ⟨d8, x8, q8, gv, ws8, rfl, lg8, hq8, sg8, gf8⟩
        have gc := sg8.cells
        have gi := sg8.isCell
        have he8 : HE h0 h8 := he4.x2 x8 (fun o ho => by rcases ho with rfl | rfl <;> assumption) (fun _ z => z.elim)
        refine ⟨_, by simp; first | done | rfl, ?_⟩
        repeat (first|with_reducible refine vmR ?_|with_reducible refine vmV rfl ?_|with_reducible refine vmW rfl ?_|with_reducible refine blockW_y (by decide) ?_|with_reducible refine vmL ?_|((with_reducible first|apply vmO|apply vmT);(case a=>simp [eqlAV, gc, gi, t6, uc, ui];with_reducible first|exact .v|exact .c))|((with_reducible apply vmC);(case e=>simp [eqlAV, gc, gi, t6, uc, ui];with_reducible first|exact .t|exact .f)))
        refine A.mono (same15_ans gs gs ws8 _ gv u h8 sg8 hu4.sv gf8 gf (by omega) (by omega) (fun g hg => by have := hvl g hg; omega) (fun g hg => by have := hvl g hg; omega)) ?_
        rintro _ h9 ⟨rfl, e9⟩
        rw [decide_eq_true (rfl : gs = gs)]
        refine ⟨_, by simp; first | done | rfl, ?_⟩
        repeat (first|with_reducible refine vmR ?_|with_reducible refine vmV rfl ?_|with_reducible refine vmW rfl ?_|with_reducible refine blockW_y (by decide) ?_|with_reducible refine vmL ?_|((with_reducible first|apply vmO|apply vmT);(case a=>simp [t8, wi];with_reducible first|exact .v|exact .c))|((with_reducible apply vmC);(case e=>simp [t8, wi];with_reducible first|exact .t|exact .f)))
        refine ⟨5 - (i + 1), by omega, _, h9, i + 1, gs, q8, u, ws, rfl, rfl, by omega, by omega, by omega, by omega, hup, hvl, by simp [t0], by simp [t3], by simp, by simp [t6], by simp [t7, hlast], by simp, (AC.ofX hu4 x8).of e9, gf, he8.trans e9, d8.he e9, wk, lg8.he e9, ?_, ?_, ?_⟩
        · have := d4.pn; omega
        · have := d4.mn; omega
        · have := he4.no; omega
  rintro _ _ ⟨rfl, t, h, rfl, he⟩
  repeat (first|with_reducible refine vmR ?_|with_reducible refine vmV rfl ?_|with_reducible refine vmW rfl ?_|with_reducible refine blockW_y (by decide) ?_|with_reducible refine vmL ?_|((with_reducible first|apply vmO|apply vmT);(case a=>simp;with_reducible first|exact .v|exact .c))|((with_reducible apply vmC);(case e=>simp;with_reducible first|exact .t|exact .f)))
  refine A.mono (wlives_ans h (fun z => by rw [he.pol]; exact hp z)) ?_
  rintro _ h4 ⟨rfl, e4⟩
  refine ⟨_, by simp; first | done | rfl, ?_⟩
  repeat (first|with_reducible refine vmR ?_|with_reducible refine vmV rfl ?_|with_reducible refine vmW rfl ?_|with_reducible refine blockW_y (by decide) ?_|with_reducible refine vmL ?_|((with_reducible first|apply vmO|apply vmT);(case a=>simp;with_reducible first|exact .v|exact .c))|((with_reducible apply vmC);(case e=>simp;with_reducible first|exact .t|exact .f)))
  (first | apply endW_r | apply endW_n); (case h1 => (simp [Try.results5]; first | done | rfl))
  exact ⟨rfl, he.trans e4⟩
end Go.Vn
