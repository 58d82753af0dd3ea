/- What functions of the program come to, in the value machine (a part of the proof of the claim's statement). No condition. -/
import Derived.Test.YtplcehpejjfjoaaGreatVnK2
import Derived.Test.YtplcehpejjfjoaaGreatVnG7
import Derived.Test.YtplcehpejjfjoaaGreatVnI5
set_option linter.unusedSimpArgs false
set_option linter.unusedVariables false
set_option maxRecDepth 20000
namespace Go.Vn
open Go.Proofs

theorem meth_rows (v : AV) : methodAV Tryz.prog 25 v "Rows" = some (52, v) := by kernel_rfl
theorem inv_rows (h : Hp Fm) (v : AV) (args : List AV) : invokeFn Tryz.prog h (.ifc 25 v) "Rows" args = some (.enter (.func 52) (v :: args) h) := by simp [invokeFn, meth_rows]

theorem last0 (h : Hp Fm) (g pm lo : Nat) (bs : List Br) (ep sq : Int) (lv : AV) (gr : Mp.get h.obj g = some (.row [.ifc 25 (.ptr pm 0), .int .i64 ep, .int .i64 sq, lv])) (gn : g < h.no) (me : MemE h pm bs lo) (key : Bs) (hp : h.pol 187 = false) :
    A Tryz.prog TT (.func 46) [.ptr g 0, .int .i64 0, .str key] h (fun r h' => r = .agg [.int .i64 0, .int .i64 0, .int .i64 0] ∧ HE h h') := by
  have gh : g ≠ h.no := Nat.ne_of_lt gn
  apply A_go Tryz.func46 rfl (by rfl); (case hn => (simp [Tryz.ntmps46]; rfl))
  repeat(first|with_reducible first|refine vmR ?_|refine vmV rfl ?_|refine vmW rfl ?_|refine vmL ?_|refine blockW_y (by decide) ?_|((with_reducible first|apply vmO|apply vmT|apply vmC);case a=>simp [gr, gh, inv_rows];with_reducible first|exact .v|exact .c|exact .t|exact .f))
  refine A_heap ?_
  intro hA hhA
  have eA : HE h hA := by rw [hhA]; exact (HE.refl h).new _
  have gA : Mp.get hA.obj h.no = some (.row [.int .i64 0, .int .i64 0, .int .i64 0]) := by rw [hhA]; simp
  have nA : h.no < hA.no := by rw [hhA]; exact Nat.lt_succ_self _
  clear hhA
  refine A.mono (mrows0 key pm lo bs hA (me.he eA) (by rw [eA.pol]; exact hp)) ?_
  rintro r hB ⟨sv, eB⟩
  have rc := sv.cells
  have ri := sv.isCell
  have rn := sv.nm
  have rl := sv.len Tryz.underlying64
  simp only [List.length_nil, Int.ofNat_zero] at rl
  have gB := (eB.obj _ nA).trans gA
  refine ⟨_, by simp; first | done | rfl, ?_⟩
  repeat(first|with_reducible first|refine vmR ?_|refine vmV rfl ?_|refine vmW rfl ?_|refine vmL ?_|refine blockW_y (by decide) ?_|((with_reducible first|apply vmO|apply vmT|apply vmC);case a=>simp [rc, ri, rn, rl, gB];with_reducible first|exact .v|exact .c|exact .t|exact .f))
  (first | apply endW_r | apply endW_n); (case h1 => (simp [Tryz.results46, gB]; first | done | rfl))
  exact ⟨rfl, (eA.trans eB).set (Nat.le_refl _) _⟩

def outS : Option (List UInt8) → AV
  | some s => .tup [.str (s.drop 1), .bool (decide (s.take 1 = [43]))]
  | none => .tup [.str [], .bool false]

set_option maxHeartbeats 2000000 in
theorem sees0 (h : Hp Fm) (g pm lo : Nat) (bs : List Br) (ep sq : Int) (lv : AV) (gr : Mp.get h.obj g = some (.row [.ifc 25 (.ptr pm 0), .int .i64 ep, .int .i64 sq, lv])) (gn : g < h.no) (me : MemE h pm bs lo) (xp xm clk : Nat) (st ops a1 a2 a3 : Int) (rdv scv : AV) (wr : Ents (List Pc)) (es : List (AV × AV × Nat))
    (tr : Mp.get h.obj xp = some (.row [.int .i64 0, .int .i64 st, .int .i64 ops, .int .i64 a1, .int .i64 a2, .int .i64 a3, .mp xm, rdv, scv])) (tmp : Mp.get h.obj xm = some (.mp es clk)) (ten : EntsR PcR wr es) (pn : xp < h.no) (mn : xm < h.no) (key : Bs) (tm : Int) (hp : h.pol 187 = false)
    (pcs : List Pc) (hpcs : pcs = (lookF key wr).getD []) (hl : pcs.length ≤ 16000000) (hne : ∀ s, atP pcs tm = some s → 1 ≤ s.length) :
    A Tryz.prog TT (.func 47) [.ptr g 0, .ptr xp 0, .str key, .int .i64 tm] h (fun r h' => r = outS (atP pcs tm) ∧ HE h h') := by
  obtain ⟨v, hv, lk⟩ : ∃ v, SL 3 (pcs.map encP) v ∧ ∀ h1 : Hp Fm, Mp.get h1.obj xm = some (.mp es clk) → lookupAV Tryz.prog h1 79 (.mp xm) (.str key) false = some v := by
    cases hl : lookF key wr with
    | none =>
      have lk := look_none (m := xm) (clk := clk) (k := key) Tryz.underlying79 Tryz.underlying9 t42 ten hl
      exact ⟨.nils, .inl ⟨rfl, by simp [hpcs, hl]⟩, fun h1 hm => lk h1 false hm⟩
    | some ps =>
      obtain ⟨v, hv, lk⟩ := look_some (m := xm) (clk := clk) (k := key) Tryz.underlying79 Tryz.underlying9 ten hl
      exact ⟨v, by rw [hpcs, hl]; exact hv, fun h1 hm => lk h1 false hm⟩
  have vc := hv.sv.cells
  have vi := hv.sv.isCell
  apply A_go Tryz.func47 rfl (by rfl); (case hn => (simp [Tryz.ntmps47]; rfl))
  repeat(first|with_reducible first|refine vmR ?_|refine vmV rfl ?_|refine vmW rfl ?_|refine vmL ?_|refine blockW_y (by decide) ?_|((with_reducible first|apply vmO|apply vmT|apply vmC);case a=>simp;with_reducible first|exact .v|exact .c|exact .t|exact .f))
  refine W_heap ?_
  intro hA hhA
  have eA : HE h hA := by rw [hhA]; exact (((HE.refl h).new _).new _).new _
  have g7 : Mp.get hA.obj h.no = some (.row [.int .i64 tm]) := by rw [hhA]; simp [show h.no ≠ h.no + 1 by omega, show h.no ≠ h.no + 1 + 1 by omega]
  have g8 : Mp.get hA.obj (h.no + 1) = some (.row [.str []]) := by rw [hhA]; simp [show h.no + 1 ≠ h.no + 1 + 1 by omega]
  have g9 : Mp.get hA.obj (h.no + 1 + 1) = some (.row [.bool false]) := by rw [hhA]; simp
  have nA : h.no + 1 + 1 < hA.no := by rw [hhA]; exact Nat.lt_succ_self _
  clear hhA
  have trA := (eA.obj _ pn).trans tr
  have tmA := (eA.obj _ mn).trans tmp
  have lkA := lk hA.drew tmA
  (with_reducible refine W_draw_id (pln := true) [0, 1, 2, 3, 4, 5, 6, 7, 8, 9, 10, 11, 12] [(3, (3, [])), (5, (5, [])), (6, (6, []))] (by kernel_rfl) rfl ?_)
  repeat(first|with_reducible first|refine vmR ?_|refine vmV rfl ?_|refine vmW rfl ?_|refine vmL ?_|refine blockW_y (by decide) ?_|((with_reducible first|apply vmO|apply vmT|apply vmC);case a=>simp [trA, g7, lkA, vc, vi];with_reducible first|exact .v|exact .c|exact .t|exact .f))
  refine A.mono (at_ans pcs v hv.sv hl tm _) ?_
  rintro _ hB ⟨rfl, eB⟩
  have eAB : HE hA hB := ((HE.refl hA).drew).trans eB
  refine ⟨_, by simp; first | done | rfl, ?_⟩
  have trB := (eAB.obj _ (Nat.lt_of_lt_of_le pn eA.no)).trans trA
  have tmB := (eAB.obj _ (Nat.lt_of_lt_of_le mn eA.no)).trans tmA
  have lkB := lk hB tmB
  have b7 := (eAB.obj _ (by omega)).trans g7
  have b8 := (eAB.obj _ (by omega)).trans g8
  have b9 := (eAB.obj _ (by omega)).trans g9
  have nB := eAB.no
  cases hat : atP pcs tm with
  | some s =>
    have hs := hne s hat
    have sl1 := sl_lo s 1 hs
    have sl2 := sl_hi s 1 hs
    have e1 : ((1 : Nat) : Int) = 1 := rfl
    rw [e1] at sl1 sl2
    simp only [outG]
    repeat(first|with_reducible first|refine vmR ?_|refine vmV rfl ?_|refine vmW rfl ?_|refine vmL ?_|refine blockW_y (by decide) ?_|((with_reducible first|apply vmO|apply vmT|apply vmC);case a=>simp [trA, trB, g7, b7, lkA, lkB, vc, vi];with_reducible first|exact .v|exact .c|exact .t|exact .f))
    refine ⟨by simp [readSame, beqAV_self, trA, trB, g7, b7, lkA, lkB, vc, vi]; done, _, by simp; first | done | rfl, ?_⟩
    repeat(first|with_reducible first|refine vmR ?_|refine vmV rfl ?_|refine vmW rfl ?_|refine vmL ?_|refine blockW_y (by decide) ?_|((with_reducible first|apply vmO|apply vmT|apply vmC);case a=>simp;with_reducible first|exact .v|exact .c|exact .t|exact .f))
    (with_reducible refine W_draw_id (pln := true) [0, 1, 2, 3, 4, 5, 6] [] (by kernel_rfl) rfl ?_)
    have b89 : h.no + 1 ≠ h.no + 1 + 1 := by omega
    have b98 : h.no + 1 + 1 ≠ h.no + 1 := by omega
    repeat(first|with_reducible first|refine vmR ?_|refine vmV rfl ?_|refine vmW rfl ?_|refine vmL ?_|refine blockW_y (by decide) ?_|((with_reducible first|apply vmO|apply vmT|apply vmC);case a=>simp [sl1, sl2, b8, b9, b89, b98];with_reducible first|exact .v|exact .c|exact .t|exact .f))
    refine ⟨by simp [readSame, beqAV_self, sl1, sl2, b8, b9, b89, b98]; done, _, by simp; first | done | rfl, ?_⟩
    repeat(first|with_reducible first|refine vmR ?_|refine vmV rfl ?_|refine vmW rfl ?_|refine vmL ?_|refine blockW_y (by decide) ?_|((with_reducible first|apply vmO|apply vmT|apply vmC);case a=>simp;with_reducible first|exact .v|exact .c|exact .t|exact .f))
    (first | apply endW_r | apply endW_n); (case h1 => (simp [Tryz.results47, b89]; first | done | rfl))
    refine ⟨?_, (((eA.trans eAB).drew).set (o := h.no + 1) (by omega) _).set (o := h.no + 1 + 1) (by omega) _⟩
    simp only [outS]
    rw [eqB_dec, List.drop_one]
  | none =>
    simp only [outG]
    repeat(first|with_reducible first|refine vmR ?_|refine vmV rfl ?_|refine vmW rfl ?_|refine vmL ?_|refine blockW_y (by decide) ?_|((with_reducible first|apply vmO|apply vmT|apply vmC);case a=>simp [trA, trB, g7, b7, lkA, lkB, vc, vi];with_reducible first|exact .v|exact .c|exact .t|exact .f))
    refine ⟨by simp [readSame, beqAV_self, trA, trB, g7, b7, lkA, lkB, vc, vi]; done, _, by simp; first | done | rfl, ?_⟩
    repeat(first|with_reducible first|refine vmR ?_|refine vmV rfl ?_|refine vmW rfl ?_|refine vmL ?_|refine blockW_y (by decide) ?_|((with_reducible first|apply vmO|apply vmT|apply vmC);case a=>simp;with_reducible first|exact .v|exact .c|exact .t|exact .f))
    (with_reducible refine W_draw_id (pln := true) [0, 1, 2, 3, 4, 5, 6, 7, 8, 9, 10, 11, 12] [(3, (3, [])), (7, (7, []))] (by kernel_rfl) rfl ?_)
    have grB := ((eA.trans eAB).obj _ gn).trans gr
    have meB := me.he (eA.trans eAB)
    repeat(first|with_reducible first|refine vmR ?_|refine vmV rfl ?_|refine vmW rfl ?_|refine vmL ?_|refine blockW_y (by decide) ?_|((with_reducible first|apply vmO|apply vmT|apply vmC);case a=>simp [grB, trB, inv_rows];with_reducible first|exact .v|exact .c|exact .t|exact .f))
    refine A.mono (mrows0 key pm lo bs _ (meB.he (HE.refl hB).drew) (by rw [Hp.drew]; rw [(eA.trans eAB).pol]; exact hp)) ?_
    rintro w hC ⟨sv, eC⟩
    have rc := sv.cells
    have ri := sv.isCell
    refine ⟨_, by simp; first | done | rfl, ?_⟩
    repeat(first|with_reducible first|refine vmR ?_|refine vmV rfl ?_|refine vmW rfl ?_|refine vmL ?_|refine blockW_y (by decide) ?_|((with_reducible first|apply vmO|apply vmT|apply vmC);case a=>simp [rc, ri];with_reducible first|exact .v|exact .c|exact .t|exact .f))
    refine A.mono (seqB w ⟨rc, ri⟩ _) ?_
    rintro _ _ ⟨rfl, rfl⟩
    refine ⟨_, by simp; first | done | rfl, ?_⟩
    repeat(first|with_reducible first|refine vmR ?_|refine vmV rfl ?_|refine vmW rfl ?_|refine vmL ?_|refine blockW_y (by decide) ?_|((with_reducible first|apply vmO|apply vmT|apply vmC);case a=>simp [grB, trB, b7];with_reducible first|exact .v|exact .c|exact .t|exact .f))
    refine ⟨by simp [readSame, beqAV_self, grB, trB, b7]; done, _, by simp; first | done | rfl, ?_⟩
    repeat(first|with_reducible first|refine vmR ?_|refine vmV rfl ?_|refine vmW rfl ?_|refine vmL ?_|refine blockW_y (by decide) ?_|((with_reducible first|apply vmO|apply vmT|apply vmC);case a=>simp;with_reducible first|exact .v|exact .c|exact .t|exact .f))
    have e0C : HE h hC := (eA.trans eAB).trans (((HE.refl hB).drew).trans eC)
    have nC : hB.no ≤ hC.no := eC.no
    have d8 := (eC.obj _ (show h.no + 1 < hB.no by omega)).trans b8
    have d9 := (eC.obj _ (show h.no + 1 + 1 < hB.no by omega)).trans b9
    have z8 : h.no + 1 ≠ hC.no := by omega
    have z9 : h.no + 1 + 1 ≠ hC.no := by omega
    have z81 : h.no + 1 ≠ hC.no + 1 := by omega
    have z91 : h.no + 1 + 1 ≠ hC.no + 1 := by omega
    have zc : hC.no ≠ hC.no + 1 := by omega
    refine W_range_i rfl (by simp [rangeE, laidF]; exact ⟨rfl, rfl, rfl⟩) ?_
    refine with_loop (hC.no + 1) _ (by simp; first | done | rfl) ?_
    intro lr hlr hget
    refine A.mono (backy (hC.no + 1) hC.no [] w (by simpa using sv) (by simp)
      (fun _ hh => Mp.get hh.obj hC.no = some (.row [w]) ∧ Mp.get hh.obj (hC.no + 1) = some (.loop lr) ∧ Mp.get hh.obj (h.no + 1) = some (.row [.str []]) ∧ Mp.get hh.obj (h.no + 1 + 1) = some (.row [.bool false]) ∧ HE h hh)
      (fun _ => False) (fun i hh k => k.1) (fun i hi => absurd hi (by simp)) _ ?_) ?_
    · refine ⟨?_, hget, ?_, ?_, ?_⟩
      · simp [zc]
      · simp [z8, z81, d8, show ¬ h.no = hC.no by omega, show ¬ h.no + 1 = hC.no by omega]
      · simp [z9, z91, d9, show ¬ h.no = hC.no by omega, show ¬ h.no + 1 = hC.no by omega]
      · have := e0C.no
        exact ⟨by show h.no ≤ hC.no + 1 + 1; omega, e0C.ng, e0C.pol, fun q hq => by simp [show q ≠ hC.no by omega, show q ≠ hC.no + 1 by omega]; exact e0C.obj q hq, e0C.len⟩
    · rintro r h2 (⟨kw, kl, k8, k9, he⟩ | k)
      case inr => exact k.elim
      have hst : lr.state = .ready ∧ lr.pending = none := by subst hlr; exact ⟨rfl, rfl⟩
      refine ⟨_, _, by simp [rangeB, kl, hst.1, behind, hst.2]; exact ⟨rfl, rfl⟩, ?_⟩
      have b89 : h.no + 1 ≠ h.no + 1 + 1 := by omega
      have b98 : h.no + 1 + 1 ≠ h.no + 1 := by omega
      have z0 : ¬ h.no = hC.no := by omega
      have z01 : ¬ h.no + 1 = hC.no := by omega
      repeat(first|with_reducible first|refine vmR ?_|refine vmV rfl ?_|refine vmW rfl ?_|refine vmL ?_|refine blockW_y (by decide) ?_|((with_reducible first|apply vmO|apply vmT|apply vmC);case a=>simp [k8, k9, z8, z9, z81, z91, b89, b98, z0, z01];with_reducible first|exact .v|exact .c|exact .t|exact .f))
      (first | apply endW_r | apply endW_n); (case h1 => (simp [Tryz.results47, b89]; first | done | rfl))
      exact ⟨rfl, ((he.set (o := hC.no + 1) (by omega) _).set (o := h.no + 1) (by omega) _).set (o := h.no + 1 + 1) (by omega) _⟩
end Go.Vn

set_option maxRecDepth 20000
namespace Go.Vn
open Go.Proofs

theorem gone_ans (h0 h : Hp Fm) (g pm : Nat) (ep sq : Int) (xs : List Tr) (lv : AV) (lg : List Nat) (k : EngH h0 h g pm ep sq xs lv lg) (i : Int) (hi64 : -9223372036854775808 ≤ i ∧ i ≤ 9223372036854775807) (hxl : xs.length ≤ 1000000)
    (key : Bs) (hkl : key.length ≤ 100000) (f u : Int) (hops : ∀ x ∈ xs, 0 ≤ x.ops) (hps : ∀ x ∈ xs, ∀ ps, lookF key x.wr = some ps → ps.length ≤ 4000000) :
    A Tryz.prog TT (.func 15) [.ptr g 0, .int .i64 i, .str key, .agg [.int .i64 f, .int .i64 u]] h (fun r h' => ∃ h1, HE h h1 ∧ WrR h0 h1 g pm ep sq xs lv lg i key ⟨f, u, [45]⟩ r h') := by
  apply A_go Tryz.func15 rfl (by rfl); (case hn => (simp [Tryz.ntmps15]; rfl))
  repeat(first|with_reducible first|refine vmR ?_|refine vmV rfl ?_|refine vmW rfl ?_|refine vmL ?_|refine blockW_y (by decide) ?_|((with_reducible first|apply vmO|apply vmT|apply vmC);case a=>simp;with_reducible first|exact .v|exact .c|exact .t|exact .f))
  refine A_heap ?_
  intro hA hhA
  have eA : HE h hA := by rw [hhA]; exact (HE.refl h).new _
  clear hhA
  refine A.mono (write_ans h0 hA g pm ep sq xs lv lg (k.of eA) i hi64 hxl key hkl ⟨f, u, [45]⟩ (by simp) hops hps) ?_
  intro r hB hw
  have hr : ∃ n, r = .int .i64 n := by
    rcases hw with ⟨_, h, _⟩ | ⟨_, _, h, _⟩ | ⟨_, _, h, _⟩ <;> exact ⟨_, h⟩
  obtain ⟨n, rfl⟩ := hr
  refine ⟨_, by simp; first | done | rfl, ?_⟩
  repeat(first|with_reducible first|refine vmR ?_|refine vmV rfl ?_|refine vmW rfl ?_|refine vmL ?_|refine blockW_y (by decide) ?_|((with_reducible first|apply vmO|apply vmT|apply vmC);case a=>simp;with_reducible first|exact .v|exact .c|exact .t|exact .f))
  (first | apply endW_r | apply endW_n); (case h1 => (simp [Tryz.results15]; first | done | rfl))
  exact ⟨hA, eA, hw⟩

def timeOk (t : Int) : Bool := decide (0 ≤ t) && decide (t < 1099511627776)
theorem timed_ans (t : Int) (h0 : Hp Fm) : A Tryz.prog TT (.func 43) [.int .i64 t] h0 (fun r h' => r = .bool (timeOk t) ∧ h' = h0) := by
  apply A_go Tryz.func43 rfl (by rfl); (case hn => (simp [Tryz.ntmps43]; rfl))
  by_cases q1 : 0 ≤ t
  · by_cases q2 : t < 1099511627776
    · repeat(first|with_reducible first|refine vmR ?_|refine vmV rfl ?_|refine vmW rfl ?_|refine vmL ?_|refine blockW_y (by decide) ?_|((with_reducible first|apply vmO|apply vmT|apply vmC);case a=>simp [q1, q2];with_reducible first|exact .v|exact .c|exact .t|exact .f))
      (first | apply endW_r | apply endW_n); (case h1 => (simp [Tryz.results43]; first | done | rfl))
      exact ⟨by simp [timeOk, q1, q2], rfl⟩
    · repeat(first|with_reducible first|refine vmR ?_|refine vmV rfl ?_|refine vmW rfl ?_|refine vmL ?_|refine blockW_y (by decide) ?_|((with_reducible first|apply vmO|apply vmT|apply vmC);case a=>simp [q1, q2];with_reducible first|exact .v|exact .c|exact .t|exact .f))
      (first | apply endW_r | apply endW_n); (case h1 => (simp [Tryz.results43]; first | done | rfl))
      exact ⟨by simp [timeOk, q1, q2], rfl⟩
  · repeat(first|with_reducible first|refine vmR ?_|refine vmV rfl ?_|refine vmW rfl ?_|refine vmL ?_|refine blockW_y (by decide) ?_|((with_reducible first|apply vmO|apply vmT|apply vmC);case a=>simp [q1];with_reducible first|exact .v|exact .c|exact .t|exact .f))
    (first | apply endW_r | apply endW_n); (case h1 => (simp [Tryz.results43]; first | done | rfl))
    exact ⟨by simp [timeOk, q1], rfl⟩
theorem contseen_nil (fv : AV) (hc : fv.cells = [fv] ∧ fv.isCell = true) (h0 : Hp Fm) : A Tryz.prog TT (.func 44) [.nils, fv] h0 (fun r h' => r = .bool false ∧ h' = h0) := by
  obtain ⟨c1, c2⟩ := hc
  have idx : A Tryz.prog TT (.func 73) [.nils, fv] h0 (fun r h' => r = .int .i64 (-1) ∧ h' = h0) := by
    apply A_go Tryz.func73 rfl (by rfl); (case hn => (simp [Tryz.ntmps73]; rfl))
    repeat(first|with_reducible first|refine vmR ?_|refine vmV rfl ?_|refine vmW rfl ?_|refine vmL ?_|refine blockW_y (by decide) ?_|((with_reducible first|apply vmO|apply vmT|apply vmC);case a=>simp [c1, c2];with_reducible first|exact .v|exact .c|exact .t|exact .f))
    refine W_loop_i ?_
    repeat(first|with_reducible first|refine vmR ?_|refine vmV rfl ?_|refine vmW rfl ?_|refine vmL ?_|refine blockW_y (by decide) ?_|((with_reducible first|apply vmO|apply vmT|apply vmC);case a=>simp;with_reducible first|exact .v|exact .c|exact .t|exact .f))
    (first | apply endW_r | apply endW_n); (case h1 => (simp [Tryz.results73]; first | done | rfl))
    exact ⟨rfl, rfl⟩
  apply A_go Tryz.func44 rfl (by rfl); (case hn => (simp [Tryz.ntmps44]; rfl))
  repeat(first|with_reducible first|refine vmR ?_|refine vmV rfl ?_|refine vmW rfl ?_|refine vmL ?_|refine blockW_y (by decide) ?_|((with_reducible first|apply vmO|apply vmT|apply vmC);case a=>simp [c1, c2];with_reducible first|exact .v|exact .c|exact .t|exact .f))
  refine A.mono idx ?_
  rintro _ h2 ⟨rfl, e2⟩
  rw [e2]
  refine ⟨_, by simp; first | done | rfl, ?_⟩
  repeat(first|with_reducible first|refine vmR ?_|refine vmV rfl ?_|refine vmW rfl ?_|refine vmL ?_|refine blockW_y (by decide) ?_|((with_reducible first|apply vmO|apply vmT|apply vmC);case a=>simp;with_reducible first|exact .v|exact .c|exact .t|exact .f))
  (first | apply endW_r | apply endW_n); (case h1 => (simp [Tryz.results44]; first | done | rfl))
  exact ⟨rfl, rfl⟩
theorem etSeen : ElT Tryz.prog 80 101 4 40 true (.agg [.str [], .int .i64 0, .int .i64 0, .int .i64 0]) := ⟨Tryz.underlying80, z101, b101, a101, t101, rfl, rfl, (fun h => by cases h), by omega, by omega⟩

def outT : Option (List UInt8) → Int → AV
  | some s, e => .tup [.str (s.drop 1), .bool (decide (s.take 1 = [43])), .int .i64 e]
  | none, e => .tup [.str [], .bool false, .int .i64 e]

set_option maxHeartbeats 4000000 in
theorem get0_ans (hM h : Hp Fm) (g pm lo : Nat) (bs : List Br) (me : MemE hM pm bs lo) (ep sq : Int) (xs : List Tr) (lv : AV) (lg : List Nat) (k : EngH hM h g pm ep sq xs lv lg) (j : Nat) (hj : j < xs.length) (hxl : xs.length ≤ 1000000)
    (key : Bs) (hkl : key.length ≤ 100000) (tm : Int) (hp : hM.pol 187 = false) (hp2 : hM.pol 101 = false)
    (x : Tr) (ex : x = xs[j]) (hst : x.st = 1) (hop : 0 ≤ x.ops ∧ x.ops < 40) (hbr : x.br = 0) (hrd : x.rd = []) (hrg : x.rg = [])
    (pcs : List Pc) (hpcs : pcs = (lookF key x.wr).getD []) (hl : pcs.length ≤ 16000000) (hne : ∀ s, atP pcs tm = some s → 1 ≤ s.length) :
    A Tryz.prog TT (.func 19) [.ptr g 0, .int .i64 ((j : Int) + 1), .str key, .int .i64 tm] h (fun r h' => ((keyOk key && timeOk tm) = false ∧ r = outT none 1 ∨ (keyOk key && timeOk tm) = true ∧ r = outT (atP pcs tm) 0) ∧ h'.pol = h.pol) := by
  have hmem : x ∈ xs := by rw [ex]; exact List.getElem_mem _
  have xg := k.p_ne hmem
  have oe : openE xs ((j : Int) + 1) = 0 := by
    have gx : xs.getD ((j : Int) + 1 - 1).toNat default = x := by
      rw [show ((j : Int) + 1 - 1).toNat = j by omega, List.getD_eq_getElem?_getD, List.getElem?_eq_getElem hj, ex]; rfl
    unfold openE findR
    rw [gx]
    simp [hst, hop.2]
    omega
  apply A_go Tryz.func19 rfl (by rfl); (case hn => (simp [Tryz.ntmps19]; rfl))
  repeat(first|with_reducible first|refine vmR ?_|refine vmV rfl ?_|refine vmW rfl ?_|refine vmL ?_|refine blockW_y (by decide) ?_|((with_reducible first|apply vmO|apply vmT|apply vmC);case a=>simp;with_reducible first|exact .v|exact .c|exact .t|exact .f))
  refine A_heap ?_
  intro hA hhA
  have eA : HE h hA := by rw [hhA]; exact (HE.refl h).new _
  have g6 : Mp.get hA.obj h.no = some (.row [.str key]) := by rw [hhA]; simp
  have nA : h.no < hA.no := by rw [hhA]; exact Nat.lt_succ_self _
  clear hhA
  have kA := k.of eA
  refine A.mono (open_ans hM hA g pm ep sq xs lv lg kA ((j : Int) + 1) (by omega) hxl) ?_
  rintro _ h1 ⟨eh, ⟨f1, _⟩ | ⟨f1, j', hj', ej, s1, so, rfl⟩⟩
  · exact absurd oe f1
  rw [eh]
  clear eh h1
  have : j' = j := by omega
  subst this
  rw [← ex]
  refine ⟨_, by simp; first | done | rfl, ?_⟩
  repeat(first|with_reducible first|refine vmR ?_|refine vmV rfl ?_|refine vmW rfl ?_|refine vmL ?_|refine blockW_y (by decide) ?_|((with_reducible first|apply vmO|apply vmT|apply vmC);case a=>simp [g6];with_reducible first|exact .v|exact .c|exact .t|exact .f))
  refine A.mono (keyed_ans key hkl hA) ?_
  rintro _ hB ⟨rfl, eB⟩
  have gB := (eB.obj _ nA).trans g6
  have eAB := eA.trans eB
  refine ⟨_, by simp; first | done | rfl, ?_⟩
  cases qk : keyOk key with
  | false =>
    repeat(first|with_reducible first|refine vmR ?_|refine vmV rfl ?_|refine vmW rfl ?_|refine vmL ?_|refine blockW_y (by decide) ?_|((with_reducible first|apply vmO|apply vmT|apply vmC);case a=>simp [gB];with_reducible first|exact .v|exact .c|exact .t|exact .f))
    (first | apply endW_r | apply endW_n); (case h1 => (simp [Tryz.results19]; first | done | rfl))
    exact ⟨.inl ⟨by simp [qk], rfl⟩, eAB.pol⟩
  | true =>
  repeat(first|with_reducible first|refine vmR ?_|refine vmV rfl ?_|refine vmW rfl ?_|refine vmL ?_|refine blockW_y (by decide) ?_|((with_reducible first|apply vmO|apply vmT|apply vmC);case a=>simp [gB];with_reducible first|exact .v|exact .c|exact .t|exact .f))
  refine A.mono (timed_ans tm hB) ?_
  rintro _ hC ⟨rfl, ehC⟩
  rw [ehC]
  clear ehC hC
  refine ⟨_, by simp; first | done | rfl, ?_⟩
  cases qt : timeOk tm with
  | false =>
    repeat(first|with_reducible first|refine vmR ?_|refine vmV rfl ?_|refine vmW rfl ?_|refine vmL ?_|refine blockW_y (by decide) ?_|((with_reducible first|apply vmO|apply vmT|apply vmC);case a=>simp [gB];with_reducible first|exact .v|exact .c|exact .t|exact .f))
    (first | apply endW_r | apply endW_n); (case h1 => (simp [Tryz.results19]; first | done | rfl))
    exact ⟨.inl ⟨by simp [qk, qt], rfl⟩, eAB.pol⟩
  | true =>
  have kB := k.of eAB
  obtain ⟨esB, rdB, scB, slB, TB⟩ := kB.tr x hmem
  have trB := TB.row
  have rdn : rdB.cells = [rdB] ∧ rdB.isCell = true := ⟨TB.rd.sv.cells, TB.rd.sv.isCell⟩
  have w1 : IntKind.i64.wrap (x.ops + 1) = x.ops + 1 := wrap64 (by omega) (by omega)
  have acr := TB.rd
  rw [hrd] at acr
  have rdnil : rdB = .nils := by
    rcases acr with ⟨z, _⟩ | ⟨_, _, _, _, _, _, z⟩
    · exact z
    · rw [hrg] at z; cases z
  subst rdnil
  rw [hbr] at trB
  have np : h.no ≠ x.p := fun z => by
    obtain ⟨_, _, _, _, T⟩ := k.tr x hmem
    have := T.pn; omega
  have nB : h.no < hB.no := Nat.lt_of_lt_of_le nA eB.no
  repeat(first|with_reducible first|refine vmR ?_|refine vmV rfl ?_|refine vmW rfl ?_|refine vmL ?_|refine blockW_y (by decide) ?_|((with_reducible first|apply vmO|apply vmT|apply vmC);case a=>simp [gB, trB, w1, np];with_reducible first|exact .v|exact .c|exact .t|exact .f))
  refine A_heap ?_
  intro hD hhD
  have xD : HX (fun o => o = x.p) (fun _ => False) hB hD := by rw [hhD]; exact HX.set1 (h' := hB) rfl
  have eM : HE hM hD := by rw [hhD]; exact kB.he.set (kB.lo _ (List.mem_cons_of_mem _ (objsT_mem hmem).1)) _
  have trD : Mp.get hD.obj x.p = some (.row [.int .i64 0, .int .i64 x.st, .int .i64 (x.ops + 1), .int .i64 x.at_.b, .int .i64 x.at_.e, .int .i64 x.at_.s, .mp x.m, .nils, scB]) := by rw [hhD]; simp
  have nDB : hD.no = hB.no := by rw [hhD]
  have pDB : hD.pol = hB.pol := by rw [hhD]
  clear hhD
  have gD := (xD.obj _ nB np).trans gB
  have grD := (xD.obj _ kB.gn (fun e => xg.1 e.symm)).trans kB.row
  have tmD := (xD.obj _ TB.mn (fun e => xg.2.2 e.symm)).trans TB.map
  have meD := me.he eM
  refine A.mono (contseen_nil _ ⟨rfl, rfl⟩ hD) ?_
  rintro _ hE ⟨rfl, ehE⟩
  rw [ehE]
  clear ehE hE
  refine ⟨_, by simp; first | done | rfl, ?_⟩
  repeat(first|with_reducible first|refine vmR ?_|refine vmV rfl ?_|refine vmW rfl ?_|refine vmL ?_|refine blockW_y (by decide) ?_|((with_reducible first|apply vmO|apply vmT|apply vmC);case a=>simp;with_reducible first|exact .v|exact .c|exact .t|exact .f))
  (with_reducible refine W_draw_id (pln := true) [0, 1, 2, 3, 4, 5, 6, 7, 8, 9, 10, 11, 12, 13, 14, 15, 16, 17, 18] [(4, (4, [13, 15])), (5, (5, [13])), (10, (10, [])), (11, (11, []))] (by kernel_rfl) rfl ?_)
  repeat(first|with_reducible first|refine vmR ?_|refine vmV rfl ?_|refine vmW rfl ?_|refine vmL ?_|refine blockW_y (by decide) ?_|((with_reducible first|apply vmO|apply vmT|apply vmC);case a=>simp [gD, trD];with_reducible first|exact .v|exact .c|exact .t|exact .f))
  refine A.mono (last0 hD.drew g pm lo bs ep sq lv grD (by show g < hD.no; rw [nDB]; exact kB.gn) (meD.he (HE.refl hD).drew) key (by show hD.pol 187 = false; rw [eM.pol]; exact hp)) ?_
  rintro _ hF ⟨rfl, eF⟩
  have eF' : HE hD hF := ((HE.refl hD).drew).trans eF
  have trF := (eF'.obj _ (by rw [nDB]; exact TB.pn)).trans trD
  have gF := (eF'.obj _ (by rw [nDB]; exact nB)).trans gD
  have hpF : hF.pol 101 = false := by rw [eF'.pol, eM.pol]; exact hp2
  refine ⟨_, by simp; first | done | rfl, ?_⟩
  repeat(first|with_reducible first|refine vmR ?_|refine vmV rfl ?_|refine vmW rfl ?_|refine vmL ?_|refine blockW_y (by decide) ?_|((with_reducible first|apply vmO|apply vmT|apply vmC);case a=>simp [gD, trD, gF, trF, newSeq, newSl, hpF];with_reducible first|exact .v|exact .c|exact .t|exact .f))
  with_reducible apply WT_app_i; (case hw => (simp [gD, trD, gF, trF, newSeq, newSl, hpF]; done)); (case ho => rfl); (case hb => rfl); (case ha => (simp [gD, trD, gF, trF, newSeq, newSl, hpF]; first | done | exact ⟨rfl, rfl⟩ | rfl)); (case h1 => (simp; first | done | rfl)); (case h2 => (simp; first | done | rfl))
  have ebF := (HE.refl hF).newSl 1
  refine app_then (AC.app (h0 := hF) (acc := []) etSeen (.inl ⟨rfl, rfl⟩) ebF hpF (by simp)) ?_
  rintro x4 h4 ⟨ac4, he4, ho4, hn4, hg4⟩
  have xc4 := ac4.sv.cells
  have xi4 := ac4.sv.isCell
  have nFD : hD.no ≤ hF.no := eF'.no
  have tr4 := (he4.obj _ (by have := TB.pn; omega)).trans trF
  have g4 := (he4.obj _ (by omega)).trans gF
  refine ⟨_, by simp; first | done | rfl, ?_⟩
  have eM4 : HE hM h4 := (eM.trans eF').trans he4
  repeat(first|with_reducible first|refine vmR ?_|refine vmV rfl ?_|refine vmW rfl ?_|refine vmL ?_|refine blockW_y (by decide) ?_|((with_reducible first|apply vmO|apply vmT|apply vmC);case a=>simp [xc4, xi4, gD, trD, gF, trF, g4, tr4];with_reducible first|exact .v|exact .c|exact .t|exact .f))
  refine ⟨by simp [readSame, beqAV_self, xc4, xi4, gD, trD, gF, trF, g4, tr4, np]; done, _, by simp; first | done | rfl, ?_⟩
  refine W_heap ?_
  intro hI hhI
  have xI : HX (fun o => o = x.p) (fun _ => False) h4 hI := by rw [hhI]; exact HX.set1 (h' := h4) rfl
  have eMI : HE hM hI := by rw [hhI]; exact eM4.set (kB.lo _ (List.mem_cons_of_mem _ (objsT_mem hmem).1)) _
  have trI : Mp.get hI.obj x.p = some (.row [.int .i64 0, .int .i64 x.st, .int .i64 (x.ops + 1), .int .i64 x.at_.b, .int .i64 x.at_.e, .int .i64 x.at_.s, .mp x.m, x4, scB]) := by rw [hhI]; simp
  have nI : hI.no = h4.no := by rw [hhI]
  clear hhI
  have eD4 := eF'.trans he4
  have gnD : g < hD.no := by rw [nDB]; exact kB.gn
  have mnD : x.m < hD.no := by rw [nDB]; exact TB.mn
  have pnD : x.p < hD.no := by rw [nDB]; exact TB.pn
  have n4 := eD4.no
  have grI := (xI.obj _ (by omega) (fun e => xg.1 e.symm)).trans ((eD4.obj _ gnD).trans grD)
  have tmI := (xI.obj _ (by omega) (fun e => xg.2.2 e.symm)).trans ((eD4.obj _ mnD).trans tmD)
  have gI := (xI.obj _ (show h.no < h4.no by omega) np).trans g4
  repeat(first|with_reducible first|refine vmR ?_|refine vmV rfl ?_|refine vmW rfl ?_|refine vmL ?_|refine blockW_y (by decide) ?_|((with_reducible first|apply vmO|apply vmT|apply vmC);case a=>simp [gI];with_reducible first|exact .v|exact .c|exact .t|exact .f))
  refine A.mono (sees0 hI g pm lo bs ep sq lv grI (by omega) (me.he eMI) x.p x.m x.clk x.st (x.ops + 1) x.at_.b x.at_.e x.at_.s x4 scB x.wr esB trI tmI TB.en (by omega) (by omega) key tm (by rw [eMI.pol]; exact hp) pcs hpcs hl hne) ?_
  rintro _ hJ ⟨rfl, eJ⟩
  refine ⟨_, by simp; first | done | rfl, ?_⟩
  have pj : hJ.pol = h.pol := by rw [eJ.pol, eMI.pol]; exact k.he.pol.symm
  cases hat : atP pcs tm with
  | none =>
    simp only [outS]
    repeat(first|with_reducible first|refine vmR ?_|refine vmV rfl ?_|refine vmW rfl ?_|refine vmL ?_|refine blockW_y (by decide) ?_|((with_reducible first|apply vmO|apply vmT|apply vmC);case a=>simp;with_reducible first|exact .v|exact .c|exact .t|exact .f))
    (first | apply endW_r | apply endW_n); (case h1 => (simp [Tryz.results19]; first | done | rfl))
    exact ⟨.inr ⟨by simp [qk, qt], rfl⟩, pj⟩
  | some s =>
    simp only [outS]
    repeat(first|with_reducible first|refine vmR ?_|refine vmV rfl ?_|refine vmW rfl ?_|refine vmL ?_|refine blockW_y (by decide) ?_|((with_reducible first|apply vmO|apply vmT|apply vmC);case a=>simp;with_reducible first|exact .v|exact .c|exact .t|exact .f))
    (first | apply endW_r | apply endW_n); (case h1 => (simp [Tryz.results19]; first | done | rfl))
    exact ⟨.inr ⟨by simp [qk, qt], by simp [outT]⟩, pj⟩
end Go.Vn

set_option maxRecDepth 20000
namespace Go.Vn
open Go.Proofs

def stripO : Option (List UInt8) → Option (List UInt8)
  | some s => if s.take 1 = [43] then some (s.drop 1) else none
  | none => none
def Wof (x : Tr) (K : Bs) : List Pc := (lookF K x.wr).getD []
structure Own (x : Tr) (K : Bs) (P : List Pc) (n : Nat) : Prop where
  st : x.st = 1
  br : x.br = 0
  rd : x.rd = []
  rg : x.rg = []
  o0 : 0 ≤ x.ops
  o1 : x.ops ≤ n
  len : ∀ key ps, lookF key x.wr = some ps → ps.length + 1 ≤ 2 ^ n
  plen : P.length + 1 ≤ 2 ^ n
  rel : ∀ t, stripO (atP (Wof x K) t) = atP P t
  tag : ∀ t s, atP (Wof x K) t = some s → s.take 1 = [43] ∨ s = [45]
theorem Own.up {x : Tr} {K : Bs} {P : List Pc} {n : Nat} (o : Own x K P n) : Own x K P (n + 1) := by
  have e : (2 : Nat) ^ (n + 1) = 2 * 2 ^ n := by rw [Nat.pow_succ]; omega
  exact ⟨o.st, o.br, o.rd, o.rg, o.o0, by have := o.o1; omega, fun k ps h => by have := o.len k ps h; omega, by have := o.plen; omega, o.rel, o.tag⟩
theorem Own.put {x : Tr} {K : Bs} {P : List Pc} {n : Nat} (o : Own x K P n) (key : Bs) (p : Pc) (P' : List Pc) (h1 : P'.length ≤ 2 * P.length + 1)
    (h2 : key = K → ∀ t, atP P' t = if Has p.fr p.to t then stripO (some p.val) else atP P t) (h3 : key ≠ K → P' = P) (ht : p.val.take 1 = [43] ∨ p.val = [45]) : Own (putT x key p) K P' (n + 1) := by
  have e : (2 : Nat) ^ (n + 1) = 2 * 2 ^ n := by rw [Nat.pow_succ]; omega
  have pl := o.plen
  have wof : Wof (putT x key p) K = if K = key then overP (Wof x K) p else Wof x K := by
    unfold Wof putT
    simp only [lookF_setF]
    split
    · rename_i h; subst h; rfl
    · rfl
  refine ⟨o.st, o.br, o.rd, o.rg, ?_, ?_, fun k ps h => ?_, by omega, fun t => ?_, fun t s h => ?_⟩
  · show 0 ≤ x.ops + 1
    have := o.o0; omega
  · show x.ops + 1 ≤ ((n + 1 : Nat) : Int)
    have := o.o1; omega
  · simp only [putT, lookF_setF] at h
    split at h
    · injection h with h
      rw [← h]
      have := overP_len ((lookF key x.wr).getD []) p
      cases hk : lookF key x.wr with
      | none => rw [hk] at this; simp only [Option.getD_none, List.length_nil] at this ⊢; have : 1 ≤ 2 ^ n := Nat.one_le_two_pow; omega
      | some ps0 => rw [hk] at this; simp only [Option.getD_some] at this ⊢; have := o.len key ps0 hk; omega
    · have := o.len k ps h; omega
  · rw [wof]
    by_cases hk : key = K
    · rw [if_pos hk.symm, over_at, h2 hk t]
      split
      · rfl
      · exact o.rel t
    · rw [if_neg (fun z => hk z.symm), h3 hk]
      exact o.rel t
  · rw [wof] at h
    by_cases hk : key = K
    · rw [if_pos hk.symm, over_at] at h
      split at h
      · injection h with h; rw [← h]; exact ht
      · exact o.tag t s h
    · rw [if_neg (fun z => hk z.symm)] at h
      exact o.tag t s h

theorem own_wr {hM h h' : Hp Fm} {g pm : Nat} {x : Tr} {lv : AV} {lg : List Nat} {key : Bs} {p : Pc} {r : AV} (k : EngH hM h g pm 1 0 [x] lv lg) (hst : x.st = 1) (hop : x.ops < 40) (hw : WrR hM h g pm 1 0 [x] lv lg 1 key p r h') :
    (okW key p = false ∧ r = .int .i64 1 ∧ EngH hM h' g pm 1 0 [x] lv lg) ∨ (okW key p = true ∧ r = .int .i64 0 ∧ EngH hM h' g pm 1 0 [putT x key p] lv lg) := by
  have oe : openE [x] 1 = 0 := by simp [openE, findR, hst, hop]
  rcases hw with ⟨z, _⟩ | ⟨_, a, b, c⟩ | ⟨_, a, b, j, hj, ej, c, _⟩
  · exact absurd oe z
  · exact .inl ⟨a, b, k.of c⟩
  · have : j = 0 := by simp at hj; omega
    subst this
    exact .inr ⟨a, b, by simpa using c⟩
theorem okW_may {key : Bs} {p : Pc} (h : okW key p = true) : May p.fr p.to := by
  simp only [okW, Bool.and_eq_true, decide_eq_true_eq] at h
  exact h.1.2

theorem obegin2_ans (h0 : Hp Fm) (hp : h0.pol 93 = true) :
    A Tryz.prog TT (.func 8) [.nils] h0 (fun r h' => ∃ g e pm bs hM, r = .tup [.ptr g 0, .ptr e 0, .ptr pm 0] ∧ EngH hM h' g pm 1 0 [] .nils [] ∧ MemE hM pm bs h0.no ∧ hM.pol = h0.pol) := by
  apply A_go Tryz.func8 rfl (by rfl); (case hn => (simp [Tryz.ntmps8]; rfl))
  repeat(first|with_reducible first|refine vmR ?_|refine vmV rfl ?_|refine vmW rfl ?_|refine vmL ?_|refine blockW_y (by decide) ?_|((with_reducible first|apply vmO|apply vmT|apply vmC);case a=>simp;with_reducible first|exact .v|exact .c|exact .t|exact .f))
  refine A.mono (good11_ans [] .nils (.inl ⟨rfl, rfl⟩) (fun _ h => by cases h) h0 hp) ?_
  rintro v h1 ⟨bs, ok, bl, fl, rs, e1⟩
  have vc := rs.cells
  have vi := rs.isCell
  refine ⟨_, by simp; first | done | rfl, ?_⟩
  repeat(first|with_reducible first|refine vmR ?_|refine vmV rfl ?_|refine vmW rfl ?_|refine vmL ?_|refine blockW_y (by decide) ?_|((with_reducible first|apply vmO|apply vmT|apply vmC);case a=>simp [vc, vi];with_reducible first|exact .v|exact .c|exact .t|exact .f))
  refine A.mono (newmem_ans h0.no bs v ok h1 rs e1.no (by rw [e1.pol]; exact hp)) ?_
  rintro _ h2 ⟨pm, rfl, me, e2⟩
  refine ⟨_, by simp; first | done | rfl, ?_⟩
  have new : A Tryz.prog TT (.func 28) [.ifc 25 (.ptr pm 0), .int .i64 1] h2 (fun r h' => r = .ptr h2.no 0 ∧ Mp.get h'.obj h2.no = some (.row [.ifc 25 (.ptr pm 0), .int .i64 1, .int .i64 0, .nils]) ∧ h'.no = h2.no + 1 ∧ HE h2 h') := by
    apply A_go Tryz.func28 rfl (by rfl); (case hn => (simp [Tryz.ntmps28]; rfl))
    repeat(first|with_reducible first|refine vmR ?_|refine vmV rfl ?_|refine vmW rfl ?_|refine vmL ?_|refine blockW_y (by decide) ?_|((with_reducible first|apply vmO|apply vmT|apply vmC);case a=>simp;with_reducible first|exact .v|exact .c|exact .t|exact .f))
    (first | apply endW_r | apply endW_n); (case h1 => (simp [Tryz.results28]; first | done | rfl))
    exact ⟨rfl, by simp, rfl, (HE.refl h2).new _⟩
  repeat(first|with_reducible first|refine vmR ?_|refine vmV rfl ?_|refine vmW rfl ?_|refine vmL ?_|refine blockW_y (by decide) ?_|((with_reducible first|apply vmO|apply vmT|apply vmC);case a=>simp [eqlAV];with_reducible first|exact .v|exact .c|exact .t|exact .f))
  refine A.mono new ?_
  rintro _ h3 ⟨rfl, gr, n3, e3⟩
  refine ⟨_, by simp; first | done | rfl, ?_⟩
  repeat(first|with_reducible first|refine vmR ?_|refine vmV rfl ?_|refine vmW rfl ?_|refine vmL ?_|refine blockW_y (by decide) ?_|((with_reducible first|apply vmO|apply vmT|apply vmC);case a=>simp [vc, vi];with_reducible first|exact .v|exact .c|exact .t|exact .f))
  (first | apply endW_r | apply endW_n); (case h1 => (simp [Tryz.results8]; first | done | rfl))
  have e4 : ∀ r, HE h3 { h3 with obj := Mp.set h3.obj h3.no r, no := h3.no + 1 } := fun r => (HE.refl h3).new _
  refine ⟨h2.no, h3.no, pm, bs, h2, rfl, ⟨?_, .inl ⟨rfl, rfl, rfl⟩, (fun x hx => by cases hx), by simp [objsT], by simp [grpsT], ?_, ?_, ?_, e3.trans (e4 _)⟩, MemE.lo me e1.no, e2.pol.trans e1.pol⟩
  · exact ((e4 _).obj _ (by omega)).trans gr
  · show h2.no < h3.no + 1; omega
  · intro o ho
    simp [objsT] at ho
    rw [ho]
    exact Nat.le_refl _
  · intro q hq; simp [grpsT] at hq
end Go.Vn
