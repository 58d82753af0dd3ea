/- What functions of the program come to, in the value machine (a part of the proof of the claim's statement). No condition. -/
import Derived.Test.YtnbflhcbhicgmaaGreatVnI4
set_option linter.unusedSimpArgs false
set_option linter.unusedVariables false
set_option maxRecDepth 20000
namespace Go.Vn
open Go.Proofs

def oneW (c : Tx) (s b k : Nat) (q left : Int) (down : Bool) : Dk := ⟨[(logN, (c, s), b)], k, q, left, down⟩
theorem wf_oneW {c : Tx} {s b k : Nat} {q left : Int} {down : Bool} (h1 : s ≤ c.length) (h2 : c.length ≤ 16777216) (h3 : -1 ≤ left ∧ left ≤ 9223372036854775807) (h4 : 0 ≤ q ∧ q ≤ 16777216) : (oneW c s b k q left down).wf :=
  ⟨by simp [oneW]; exact h1, by simp [oneW, used]; exact h2, by simp [oneW], h3, h4⟩
theorem temp_log : ¬ (logN = tempN) := by decide
theorem log_temp : ¬ (tempN = logN) := by decide

theorem walW (c : Tx) (s b k : Nat) (q left ep last : Int) (bs : Tx) (hep : last < ep) (hl : -1 ≤ left) :
    walApp true ep last false logN bs (oneW c s b k q left false) = (6, last, false, oneW c s b k q left false) ∨
    walApp true ep last false logN bs (oneW c s b k q left false) = (7, last, true, oneW (c ++ frame bs) s b k q (-1) true) ∨
    ∃ l2, (-1 ≤ l2 ∧ l2 ≤ left) ∧ walApp true ep last false logN bs (oneW c s b k q left false) = (0, ep, false, oneW (c ++ frame bs) (c ++ frame bs).length b k q l2 false) := by
  have h1 : ¬ ep ≤ last := by omega
  by_cases q1 : q - (c.length : Int) < (bs.length : Int) + 8
  · left
    simp [walApp, runAll, Dk.append, Dk.deed, appE, has, lookF, oneW, used, h1, q1]
  · by_cases q2 : left = 0
    · right; left
      subst q2
      simp [walApp, runAll, Dk.append, Dk.deed, appE, has, lookF, oneW, used, h1, q1, Dk.app, Dk.put, Dk.cut, setF, clkF]
    · by_cases q3 : left = 1
      · right; left
        subst q3
        simp [walApp, runAll, Dk.append, Dk.sync, Dk.deed, appE, has, lookF, oneW, used, h1, q1, Dk.app, Dk.put, Dk.cut, Dk.tick, setF, clkF]
      · right; right
        by_cases q4 : left < 0
        · have e : left = -1 := by omega
          subst e
          refine ⟨-1, by omega, ?_⟩
          simp [walApp, runAll, Dk.append, Dk.sync, Dk.deed, appE, has, lookF, oneW, used, h1, q1, Dk.app, Dk.syn, Dk.put, Dk.cut, Dk.tick, setF, clkF]
        · have e1 : 0 < left := by omega
          have e2 : 0 < left - 1 := by omega
          have e3 : ¬ left - 1 = 0 := by omega
          have e4 : ¬ left ≤ 1 := by omega
          have e5 : 1 < left := by omega
          refine ⟨left - 1 - 1, by omega, ?_⟩
          simp [walApp, runAll, Dk.append, Dk.sync, Dk.deed, appE, has, lookF, oneW, used, h1, q1, q2, Dk.app, Dk.syn, Dk.put, Dk.cut, Dk.tick, setF, clkF, e1, e2, e3, e4, e5]

theorem freshW (c ds : Tx) (s b k : Nat) (q : Int) :
    freshD logN ds (oneW c s b k q (-1) false) = if q - (c.length : Int) < ds.length then (6, oneW c s b (k + 1) q (-1) false) else (0, oneW ds ds.length b (k + 1) q (-1) false) := by
  have n1 : namedP tempN = true := named_temp
  have n2 := named_log
  by_cases q1 : q - (c.length : Int) < ds.length
  · rw [if_pos q1]
    simp [freshD, runAll, Dk.remove, Dk.create, Dk.append, Dk.sync, Dk.rename, Dk.deed, appE, has, lookF, Dk.tick, Dk.app, Dk.put, setF, clkF, used, Dk.syn, Dk.ren, Dk.del, delF, oneW, n1, n2, temp_log, log_temp, q1]
  · rw [if_neg q1]
    simp [freshD, runAll, Dk.remove, Dk.create, Dk.append, Dk.sync, Dk.rename, Dk.deed, appE, has, lookF, Dk.tick, Dk.app, Dk.put, setF, clkF, used, Dk.syn, Dk.ren, Dk.del, delF, oneW, n1, n2, temp_log, log_temp, q1]
theorem syncWW (c : Tx) (s b k : Nat) (q : Int) : (oneW c s b k q (-1) false).sync logN = (0, oneW c c.length b k q (-1) false) := by
  simp [Dk.sync, Dk.deed, has, lookF, Dk.tick, Dk.syn, Dk.put, setF, clkF, oneW]
theorem readWW (c : Tx) (s b k : Nat) (q l : Int) (h : c.length ≤ 16777216) : readR logN 0 16777216 (oneW c s b k q l false) = (c, 0) := by
  simp only [readR, oneW, lookF]
  simp
  exact List.take_of_length_le (by omega)
theorem upW (keep : List Int) (c : Tx) (s b k : Nat) (q l : Int) (h : s ≤ c.length) : ∃ n, s ≤ n ∧ n ≤ c.length ∧ Dk.up keep [logN] (oneW c s b k q l true) = oneW (c.take n) n b k q (-1) false := by
  by_cases q1 : s < c.length
  · refine ⟨s + keepN keep 0 % (c.length - s + 1), by omega, ?_, ?_⟩
    · have := Nat.mod_lt (keepN keep 0) (show 0 < c.length - s + 1 by omega); omega
    · simp [Dk.up, upStep, oneW, lookF, q1, Dk.put, setF, clkF]
  · have e : s = c.length := by omega
    refine ⟨s, Nat.le_refl _, h, ?_⟩
    rw [e, List.take_length]
    simp [Dk.up, upStep, oneW, lookF]

theorem num4_pre {t r : List UInt8} (h : 4 ≤ t.length) : num4 (t ++ r) = num4 t := by
  obtain ⟨a, b, c, d, u, rfl⟩ : ∃ a b c d u, t = a :: b :: c :: d :: u := by
    match t, h with
    | a :: b :: c :: d :: u, _ => exact ⟨a, b, c, d, u, rfl⟩
  rfl
theorem oneP_torn {b : List UInt8} (hb : b.length < 4294967296) {j : Nat} (hj : j < (frame b).length) : oneP ((frame b).take j) = none := by
  have hl : ((frame b).take j).length = j := by rw [List.length_take]; omega
  unfold oneP
  by_cases q : j < 8
  · rw [if_pos (.inl (by omega))]
  · have e : num4 ((frame b).take j) = b.length := by
      have h1 : num4 (frame b) = b.length := by
        have : frame b = four b.length ++ (four (crcSum b) ++ b) := by simp [frame]
        rw [this]; exact num4_four hb _
      rw [← List.take_append_drop j (frame b), num4_pre (by omega)] at h1
      exact h1
    rw [frame_len] at hj
    rw [if_pos (.inr (by rw [e, hl]; omega))]
theorem grP_torn : ∀ (last : Int) (gs : List (Int × List Ver)) (t : List UInt8), GUp last gs → oneP t = none → grP last (framesP (fileB gs ++ t)) = (gs, (fileB gs).length)
  | _, [], t, _, ht => by
    have : fileB [] = [] := rfl
    rw [this, List.nil_append, framesP_none ht]; rfl
  | last, g :: gs, t, h, ht => by
    obtain ⟨h1, h2, h3, h4, h5⟩ := h
    have e : fileB (g :: gs) ++ t = frame (encG g.1 g.2) ++ (fileB gs ++ t) := by simp [fileB]
    have e2 : fileB (g :: gs) = frame (encG g.1 g.2) ++ fileB gs := by simp [fileB]
    rw [e, framesP_some (oneP_frame h3 _), grP_new (readP_enc h2 h4) (by omega), grP_torn g.1 gs t h5 ht, e2, List.length_append, frame_len]

theorem encG_len2 {ep : Int} {vs : List Ver} (h : GMay ep vs = true) (hl : vs.length ≤ 4) : (frame (encG ep vs)).length ≤ 1600 := by
  obtain ⟨⟨e1, e2⟩, hm⟩ := gmay_all h
  have fl := flat_len2 (vs := vs) fun v hv => ⟨vmay_num (hm v hv).1, vmay_tiny (hm v hv).1⟩
  have el := enc7_len 8 vs.length (by omega)
  have ee := enc7_len 8 ep.toNat (by omega)
  rw [frame_len]
  simp only [encG, encL, encs, List.length_append, List.flatMap_cons, List.flatMap_nil, List.length_nil, Int.toNat_natCast]
  omega

structure WI (n : Nat) (R O : List (Int × List Ver)) (last : Int) (ld dead : Bool) (D : Dk) : Prop where
  up : GUp 0 R
  la : last = lastE 0 R
  len : (fileB R).length ≤ 1600 * n
  num : R.length ≤ n
  dk : ∃ c s b k q left, (-1 ≤ left ∧ left ≤ 9223372036854775807) ∧ (0 ≤ q ∧ q ≤ 100000) ∧ ((ld = false ∧ dead = false ∧ c = fileB R ∧ s = c.length ∧ D = oneW c s b k q left false) ∨
    (ld = true ∧ dead = true ∧ ∃ g, GUp 0 (R ++ [g]) ∧ O = R ++ [g] ∧ (frame (encG g.1 g.2)).length ≤ 1600 ∧ (encG g.1 g.2).length < 4294967296 ∧ c = fileB R ++ frame (encG g.1 g.2) ∧ s = (fileB R).length ∧ D = oneW c s b k q left true))
theorem WI.down {n : Nat} {R O : List (Int × List Ver)} {last : Int} {ld dead : Bool} {D : Dk} (h : WI n R O last ld dead D) : D.down = dead ∧ ld = dead := by
  obtain ⟨c, s, b, k, q, left, _, _, ⟨rfl, rfl, _, _, rfl⟩ | ⟨rfl, rfl, g, _, _, _, _, _, _, rfl⟩⟩ := h.dk
  · exact ⟨rfl, rfl⟩
  · exact ⟨rfl, rfl⟩
theorem WI.wf {n : Nat} {R O : List (Int × List Ver)} {last : Int} {ld dead : Bool} {D : Dk} (h : WI n R O last ld dead D) (hn : n ≤ 25) : D.wf := by
  have hl := h.len
  obtain ⟨c, s, b, k, q, left, h1, h2, ⟨_, _, h3, h4, rfl⟩ | ⟨_, _, g, _, _, h5, _, h3, h4, rfl⟩⟩ := h.dk
  · exact wf_oneW (by omega) (by rw [h3]; omega) h1 (by omega)
  · exact wf_oneW (by rw [h3, h4, List.length_append]; omega) (by rw [h3, List.length_append]; omega) h1 (by omega)
theorem WI.arm {n : Nat} {R O : List (Int × List Ver)} {last : Int} {ld dead : Bool} {D : Dk} (h : WI n R O last ld dead D) (a : Int) (ha : a ≤ 9223372036854775807) : WI (n + 1) R O last ld dead { D with left := if a < -1 then -1 else a } := by
  refine ⟨h.up, h.la, by have := h.len; omega, by have := h.num; omega, ?_⟩
  obtain ⟨c, s, b, k, q, left, h1, h2, ⟨a1, a2, a3, a4, rfl⟩ | ⟨a1, a2, g, a3, a4, a5, a6, a7, a8, rfl⟩⟩ := h.dk
  · exact ⟨c, s, b, k, q, _, by split <;> omega, h2, .inl ⟨a1, a2, a3, a4, rfl⟩⟩
  · exact ⟨c, s, b, k, q, _, by split <;> omega, h2, .inr ⟨a1, a2, g, a3, a4, a5, a6, a7, a8, rfl⟩⟩
theorem WI.app {n : Nat} {R O : List (Int × List Ver)} {last : Int} {D : Dk} (h : WI n R O last false false D) {ep : Int} {vs : List Ver} (hm : GMay ep vs = true) (hv : vs.length ≤ 4) (hep : last < ep) (O2 : List (Int × List Ver)) :
    ((walApp true ep last false logN (encG ep vs) D).1 = 6 ∧ WI (n + 1) R O2 (walApp true ep last false logN (encG ep vs) D).2.1 (walApp true ep last false logN (encG ep vs) D).2.2.1 false (walApp true ep last false logN (encG ep vs) D).2.2.2) ∨
    ((walApp true ep last false logN (encG ep vs) D).1 = 7 ∧ WI (n + 1) R (R ++ [(ep, vs)]) (walApp true ep last false logN (encG ep vs) D).2.1 (walApp true ep last false logN (encG ep vs) D).2.2.1 true (walApp true ep last false logN (encG ep vs) D).2.2.2) ∨
    ((walApp true ep last false logN (encG ep vs) D).1 = 0 ∧ WI (n + 1) (R ++ [(ep, vs)]) O2 (walApp true ep last false logN (encG ep vs) D).2.1 (walApp true ep last false logN (encG ep vs) D).2.2.1 false (walApp true ep last false logN (encG ep vs) D).2.2.2) := by
  have hl := h.len
  have hn := h.num
  have fl := encG_len2 hm hv
  have fl2 := fl
  rw [frame_len] at fl2
  have hu : GUp 0 (R ++ [(ep, vs)]) := GUp_app h.up (by rw [← h.la]; exact hep) hm (by show (encG ep vs).length < _; omega) (by show vs.length < _; omega)
  have hla : lastE 0 (R ++ [(ep, vs)]) = ep := by
    have : ∀ (gs : List (Int × List Ver)) (l : Int), lastE l (gs ++ [(ep, vs)]) = ep := by
      intro gs
      induction gs with
      | nil => intro l; rfl
      | cons g gs ih => intro l; exact ih _
    exact this R 0
  obtain ⟨c, s, b, k, q, left, h1, h2, ⟨_, _, h3, h4, rfl⟩ | ⟨e, _⟩⟩ := h.dk
  · rcases walW c s b k q left ep last (encG ep vs) hep h1.1 with e | e | ⟨l2, hl2, e⟩
    · rw [e]
      exact .inl ⟨rfl, h.up, h.la, by omega, by omega, c, s, b, k, q, left, h1, h2, .inl ⟨rfl, rfl, h3, h4, rfl⟩⟩
    · rw [e]
      exact .inr (.inl ⟨rfl, h.up, h.la, by omega, by omega, _, s, b, k, q, -1, by omega, h2, .inr ⟨rfl, rfl, (ep, vs), hu, rfl, fl, by show (encG ep vs).length < _; omega, by rw [h3], by rw [h4, h3], rfl⟩⟩)
    · rw [e]
      refine .inr (.inr ⟨rfl, hu, hla.symm, ?_, by simp; omega, _, _, b, k, q, l2, by omega, h2, .inl ⟨rfl, rfl, ?_, rfl, rfl⟩⟩)
      · rw [fileB_app, List.length_append]; show _ + (frame (encG ep vs)).length ≤ _; omega
      · rw [fileB_app, h3]
  · cases e
theorem WI.open {n : Nat} {R O : List (Int × List Ver)} {last : Int} {ld dead : Bool} {D : Dk} (h : WI n R O last ld dead D) (keep : List Int) :
    ∃ c s b k q R2, (if D.down then Dk.up keep [logN] D else { D with left := -1 }) = oneW c s b k q (-1) false ∧ s ≤ c.length ∧ (0 ≤ q ∧ q ≤ 100000) ∧ c.length ≤ 1600 * (n + 1) ∧
      GUp 0 R2 ∧ R2.length ≤ n + 1 ∧ (fileB R2).length ≤ c.length ∧ (R2 = R ∨ (dead = true ∧ R2 = O)) ∧ grP 0 (framesP c) = (R2, (fileB R2).length) ∧ c.take (fileB R2).length = fileB R2 := by
  have hl := h.len
  have hn := h.num
  obtain ⟨c, s, b, k, q, left, h1, h2, ⟨_, _, rfl, h4, rfl⟩ | ⟨_, e2, g, h5, h6, h7, h8, rfl, rfl, rfl⟩⟩ := h.dk
  · refine ⟨fileB R, s, b, k, q, R, by simp [oneW], by omega, h2, by omega, h.up, by omega, Nat.le_refl _, .inl rfl, grP_file 0 R h.up, List.take_length⟩
  · obtain ⟨m, m1, m2, m3⟩ := upW keep (fileB R ++ frame (encG g.1 g.2)) (fileB R).length b k q left (by simp)
    have e0 : (if (oneW (fileB R ++ frame (encG g.1 g.2)) (fileB R).length b k q left true).down then Dk.up keep [logN] (oneW (fileB R ++ frame (encG g.1 g.2)) (fileB R).length b k q left true) else { (oneW (fileB R ++ frame (encG g.1 g.2)) (fileB R).length b k q left true) with left := -1 }) = oneW ((fileB R ++ frame (encG g.1 g.2)).take m) m b k q (-1) false := by
      have hd : (oneW (fileB R ++ frame (encG g.1 g.2)) (fileB R).length b k q left true).down = true := rfl
      rw [if_pos hd, m3]
    have hml : ((fileB R ++ frame (encG g.1 g.2)).take m).length = m := by rw [List.length_take]; omega
    have ht : (fileB R ++ frame (encG g.1 g.2)).take m = fileB R ++ (frame (encG g.1 g.2)).take (m - (fileB R).length) := by
      rw [List.take_append, List.take_of_length_le m1]
    rw [List.length_append] at m2
    by_cases q1 : m = (fileB R).length + (frame (encG g.1 g.2)).length
    · have hw : (fileB R ++ frame (encG g.1 g.2)).take m = fileB (R ++ [g]) := by
        rw [ht, fileB_app, List.take_of_length_le (by omega)]
      refine ⟨_, m, b, k, q, R ++ [g], e0, by omega, h2, by omega, h5, by simp; omega, by rw [← hw]; exact Nat.le_refl _, .inr ⟨e2, h6.symm⟩, ?_, ?_⟩
      · rw [hw]; exact grP_file 0 _ h5
      · rw [hw, List.take_length]
    · refine ⟨_, m, b, k, q, R, e0, by omega, h2, by omega, h.up, by omega, by omega, .inl rfl, ?_, ?_⟩
      · rw [ht]; exact grP_torn 0 R _ h.up (oneP_torn h8 (by omega))
      · rw [ht, List.take_left]
end Go.Vn

set_option maxRecDepth 20000
namespace Go.Vn
open Go.Proofs

theorem wapG_ans (ep : Int) (vs : List Ver) (rv : AV) (last : Int) (ld : Bool) (D : Dk) (h0 : Hp Fm) (k : SV 8 (vs.map encV) rv) (hl : vs.length ≤ 4) (hs : ∀ v ∈ vs, VSmall v) (hp : ∀ z, h0.pol z = false) (p m q : Nat) (w : D.wf) (d : DKs h0 p m D) (lg : LGs h0 q p logN last ld) (n5 : q ≠ p) (n6 : q ≠ m) :
    A Tryz.prog TT (.func 14) [.ptr q 0, .agg [.int .i64 ep, rv]] h0 (fun r h' => r = .int .i64 (walApp (GMay ep vs) ep last ld logN (encG ep vs) D).1 ∧ DKs h' p m (walApp (GMay ep vs) ep last ld logN (encG ep vs) D).2.2.2 ∧ LGs h' q p logN (walApp (GMay ep vs) ep last ld logN (encG ep vs) D).2.1 (walApp (GMay ep vs) ep last ld logN (encG ep vs) D).2.2.1 ∧ HX (fun o => o = p ∨ o = m ∨ o = q) (fun _ => False) h0 h') := by
  have c1 := k.cells
  have i1 := k.isCell
  cases hg : GMay ep vs with
  | false =>
    refine A.mono (wappend_ans false ep last ld logN [] rv (by simp) c1 i1 p m q _ w h0 d lg n5 n6 hp (fun h hp' => by rw [← hg]; exact wmay_ans ep vs rv h k (by omega) (fun v hv => by have := (hs v hv).1; omega) hp') (fun z => by cases z)) ?_
    have e : walApp false ep last ld logN (encG ep vs) D = walApp false ep last ld logN [] D := by simp [walApp]
    rw [e]
    rintro _ h1 ⟨rfl, d1, _, lg1, x1⟩
    exact ⟨rfl, d1, lg1, x1⟩
  | true =>
    obtain ⟨h1, h2⟩ := gmay_all hg
    have gl := encG_len (ep := ep) (vs := vs) ⟨by omega, h1.2⟩ (by omega) (fun v hv => (h2 v hv).1) hs
    refine A.mono (wappend_ans true ep last ld logN (encG ep vs) rv (by omega) c1 i1 p m q _ w h0 d lg n5 n6 hp (fun h hp' => by rw [← hg]; exact wmay_ans ep vs rv h k (by omega) (fun v hv => by have := (hs v hv).1; omega) hp') (fun _ h hp' => wwrite_ans ep vs rv h k (by omega) (by omega) (fun v hv => (h2 v hv).1) hs hp')) ?_
    rintro _ h1 ⟨rfl, d1, _, lg1, x1⟩
    exact ⟨rfl, d1, lg1, x1⟩

theorem lastE_get : ∀ (gs : List (Int × List Ver)) (l : Int) (h : 0 < gs.length), lastE l gs = (gs[gs.length - 1]'(by omega)).1
  | [g], l, _ => rfl
  | g :: g2 :: gs, l, _ => by
    have := lastE_get (g2 :: gs) g.1 (by simp)
    show lastE g.1 (g2 :: gs) = _
    rw [this]
    simp

structure Wo (h : Hp Fm) (wp p m q n : Nat) (R O : List (Int × List Ver)) (last : Int) (ld dead : Bool) (D : Dk) : Prop where
  row : ∃ gv ov ws, Mp.get h.obj wp = some (.row [.ptr p 0, .ptr q 0, gv, ov, .bool dead]) ∧ SV 2 ws gv ∧ GF R ws ∧ (dead = true → ∃ os, SV 2 os ov ∧ GF O os) ∧ ov.cells = [ov] ∧ ov.isCell = true
  dk : DKs h p m D
  lg : LGs h q p logN last ld
  wn : wp < h.no
  ne : wp ≠ p ∧ wp ≠ m ∧ wp ≠ q ∧ q ≠ p ∧ q ≠ m
  wi : WI n R O last ld dead D
theorem WI.dead {n : Nat} {R O : List (Int × List Ver)} {last : Int} {ld dead : Bool} {D : Dk} (h : WI n R O last ld dead D) : WI (n + 1) R O last ld dead D :=
  ⟨h.up, h.la, by have := h.len; omega, by have := h.num; omega, h.dk⟩
end Go.Vn
