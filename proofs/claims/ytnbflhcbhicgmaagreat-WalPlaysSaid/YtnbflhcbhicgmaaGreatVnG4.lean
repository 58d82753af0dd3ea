/- What functions of the program come to, in the value machine (a part of the proof of the claim's statement). No condition. -/
import Derived.Test.YtnbflhcbhicgmaaGreatVnG2
import Derived.Test.YtnbflhcbhicgmaaGreatVnG3
import Derived.Test.YtnbflhcbhicgmaaGreatVnG1
set_option linter.unusedSimpArgs false
set_option linter.unusedVariables false
set_option maxRecDepth 20000
namespace Go.Vn
open Go.Proofs

theorem wrap8d {n : Int} (h0 : 0 ≤ n) (h1 : n < 256) : IntKind.u8.wrap n = n := by
  simp only [IntKind.wrap, IntKind.signed, IntKind.bits]
  simp
  omega

theorem ixStr (l : List UInt8) (k : IntKind) (i : Nat) (h : i < l.length) : indexAV Tryz.prog 9 (.str l) (.int k (i : Int)) = some (byteAV (l.getD i 0)) := by
  unfold indexAV
  simp [h]

def tabOk (s : ByteArray) : Bool := (List.range 256).all fun n => n == 0 || decide (2 ^ (s.data.toList.getD n 0).toNat ≤ 2 * n)
theorem tabOk_at {s : ByteArray} (h : tabOk s = true) {n : Nat} (h1 : n < 256) (h0 : 0 < n) : 2 ^ (s.data.toList.getD n 0).toNat ≤ 2 * n := by
  have := List.all_eq_true.mp h n (List.mem_range.mpr h1)
  simp at this
  rcases this with h | h
  · omega
  · simpa using h
theorem WO_tab_i {T : Tab} {ops : Array Oper} {o : Oper} {rest : List Oper} {st : St Fm} {Q : St Fm → Prop} {s : ByteArray} {x : Operand} {k : IntKind} {n : Nat} (hw : want ops st.t o = some true) (ho : o.op = .index 9 (.const (.string s)) x) (hi : ev st.t x = .int k (n : Int)) (hn : n < s.data.toList.length)
    (htab : tabOk s = true) (hn2 : n < 256)
    (h : ∀ b : UInt8, (0 < n → 2 ^ b.toNat ≤ 2 * n) → ∃ s', put { st with h := st.h } o.dst (byteAV b) = some s' ∧ WO Tryz.prog T ops rest s' Q) : WO Tryz.prog T ops (o :: rest) st Q := by
  obtain ⟨s', h1, h2⟩ := h (s.data.toList.getD n 0) (fun h0 => tabOk_at htab hn2 h0)
  refine WO_val_i (v := byteAV (s.data.toList.getD n 0)) (h' := st.h) hw ?_ h1 h2
  have e : ev st.t (.const (.string s)) = .str s.data.toList := rfl
  simp only [opEff, ho, hi, e, ixStr _ k n hn, vals, Option.map_some]

theorem len64_ans (n : Nat) (hn : n < 65536) (h0 : Hp Fm) : A Tryz.prog TT (.func 111) [.int .u64 n] h0 (fun r h' => ∃ v : Int, r = .int .i64 v ∧ 0 ≤ v ∧ v ≤ 1000 ∧ (0 < n → 2 ^ v.toNat ≤ 2 * n) ∧ h' = h0) := by
  have g1 : ¬ ((4294967296 : Int) ≤ n) := by omega
  have g2 : ¬ ((65536 : Int) ≤ n) := by omega
  have w8 : ∀ b : UInt8, IntKind.i64.wrap ((b.toNat : Nat) : Int) = ((b.toNat : Nat) : Int) := fun b => by have := b.toNat_lt; exact wrap64 (by omega) (by omega)
  have w9 : ∀ b : UInt8, IntKind.i64.wrap (8 + ((b.toNat : Nat) : Int)) = 8 + ((b.toNat : Nat) : Int) := fun b => by have := b.toNat_lt; exact wrap64 (by omega) (by omega)
  by_cases q : 256 ≤ n
  · have q' : (256 : Int) ≤ n := by omega
    obtain ⟨m, hm⟩ : ∃ m, m = n / 256 := ⟨_, rfl⟩
    have f1 : Int.fdiv (n : Int) (2 ^ min 8 IntKind.u64.bits) = (m : Int) := by
      have e : (2 ^ min 8 IntKind.u64.bits : Int) = ((256 : Nat) : Int) := by decide
      rw [e, Int.fdiv_eq_ediv_of_nonneg _ (by omega), hm]; omega
    have f2 : IntKind.u8.wrap (m : Int) = (m : Int) := by
      exact wrap8d (by omega) (by omega)
    apply A_go Tryz.func111 rfl (by rfl); (case hn => (simp [Tryz.ntmps111]; rfl))
    repeat(first|with_reducible first|refine vmR ?_|refine vmV rfl ?_|refine vmW rfl ?_|refine vmL ?_|refine blockW_y (by decide) ?_|((with_reducible first|apply vmO|apply vmT|apply vmC);case a=>simp [g1, g2, q, q', shiftBin, f1, f2];with_reducible first|exact .v|exact .c|exact .t|exact .f))
    refine WO_tab_i (k := .u8) (n := m) (by simp) rfl (by simp) (by show m < 256; omega) (by kernel_rfl) (by omega) fun b hb2 => ?_
    have hb := b.toNat_lt
    refine ⟨_, by simp; first | done | rfl, ?_⟩
    repeat(first|with_reducible first|refine vmR ?_|refine vmV rfl ?_|refine vmW rfl ?_|refine vmL ?_|refine blockW_y (by decide) ?_|((with_reducible first|apply vmO|apply vmT|apply vmC);case a=>simp [byteAV, w8, w9];with_reducible first|exact .v|exact .c|exact .t|exact .f))
    (first | apply endW_r | apply endW_n); (case h1 => (simp [Tryz.results111]; first | done | rfl))
    refine ⟨_, rfl, by omega, by omega, fun _ => ?_, rfl⟩
    have e : (8 + ((b.toNat : Nat) : Int)).toNat = 8 + b.toNat := by omega
    rw [e, Nat.pow_add]
    have := hb2 (by omega)
    have e8 : 2 ^ 8 = 256 := by rfl
    rw [e8]
    omega
  · have q' : ¬ (256 : Int) ≤ n := by omega
    have f2 : IntKind.u8.wrap (n : Int) = (n : Int) := wrap8d (by omega) (by omega)
    apply A_go Tryz.func111 rfl (by rfl); (case hn => (simp [Tryz.ntmps111]; rfl))
    repeat(first|with_reducible first|refine vmR ?_|refine vmV rfl ?_|refine vmW rfl ?_|refine vmL ?_|refine blockW_y (by decide) ?_|((with_reducible first|apply vmO|apply vmT|apply vmC);case a=>simp [g1, g2, q, q', shiftBin, f2];with_reducible first|exact .v|exact .c|exact .t|exact .f))
    refine WO_tab_i (k := .u8) (n := n) (by simp) rfl (by simp) (by show n < 256; omega) (by kernel_rfl) (by omega) fun b hb2 => ?_
    have hb := b.toNat_lt
    refine ⟨_, by simp; first | done | rfl, ?_⟩
    repeat(first|with_reducible first|refine vmR ?_|refine vmV rfl ?_|refine vmW rfl ?_|refine vmL ?_|refine blockW_y (by decide) ?_|((with_reducible first|apply vmO|apply vmT|apply vmC);case a=>simp [byteAV, w8];with_reducible first|exact .v|exact .c|exact .t|exact .f))
    (first | apply endW_r | apply endW_n); (case h1 => (simp [Tryz.results111]; first | done | rfl))
    refine ⟨_, rfl, by omega, by omega, fun z => ?_, rfl⟩
    have e : (((b.toNat : Nat) : Int)).toNat = b.toNat := by omega
    rw [e]; exact hb2 z

theorem bitslen_ans (n : Nat) (hn : n < 65536) (h0 : Hp Fm) : A Tryz.prog TT (.func 94) [.int .u64 n] h0 (fun r h' => ∃ v : Int, r = .int .i64 v ∧ 0 ≤ v ∧ v ≤ 1000 ∧ (0 < n → 2 ^ v.toNat ≤ 2 * n) ∧ h' = h0) := by
  apply A_go Tryz.func94 rfl (by rfl); (case hn => (simp [Tryz.ntmps94]; rfl))
  repeat(first|with_reducible first|refine vmR ?_|refine vmV rfl ?_|refine vmW rfl ?_|refine vmL ?_|refine blockW_y (by decide) ?_|((with_reducible first|apply vmO|apply vmT|apply vmC);case a=>simp;with_reducible first|exact .v|exact .c|exact .t|exact .f))
  refine A.mono (len64_ans n hn h0) ?_
  rintro _ _ ⟨v, rfl, v1, v2, v3, rfl⟩
  refine ⟨_, by simp; first | done | rfl, ?_⟩
  repeat(first|with_reducible first|refine vmR ?_|refine vmV rfl ?_|refine vmW rfl ?_|refine vmL ?_|refine blockW_y (by decide) ?_|((with_reducible first|apply vmO|apply vmT|apply vmC);case a=>simp;with_reducible first|exact .v|exact .c|exact .t|exact .f))
  (first | apply endW_r | apply endW_n); (case h1 => (simp [Tryz.results94]; first | done | rfl))
  exact ⟨v, rfl, v1, v2, v3, rfl⟩
end Go.Vn

set_option maxRecDepth 20000
namespace Go.Vn
open Go.Proofs

set_option maxHeartbeats 1000000 in
theorem keys1_ans (bx m y clk : Nat) (es : List (AV × AV × Nat)) (hlt : ∀ e ∈ es, e.2.2 < clk) (hnd : (es.map (·.2.2)).Nodup) (hkc : ∀ e ∈ es, e.1.cells = [e.1] ∧ e.1.isCell = true) (h0 : Hp Fm) (hb : Mp.get h0.obj bx = some (.row [.mp m])) (hm : Mp.get h0.obj m = some (.mp es clk)) (bn : bx < h0.no) (mn : m < h0.no)
    (Iv : List (AV × AV × Nat) → Hp Fm → Prop)
    (st : ∀ done h h', Iv done h → HX (fun q => q = h0.no) (fun _ => False) h h' → Iv done h')
    (i0 : ∀ h, HE h0 h → h.no = h0.no + 1 → Iv [] h)
    (rd : ∀ done e h, Iv done h → e ∈ es → (∀ d ∈ done, d ∈ es) → ((done ++ [e]).map (·.2.2)).Nodup → h0.no < h.no → A Tryz.prog TT (.yield y) [e.1] h (fun r h' => r = .bool true ∧ Iv (done ++ [e]) h' ∧ HX (fun q => q ≠ bx ∧ q ≠ m ∧ q ≠ h0.no) (fun _ => True) h h')) :
    A Tryz.prog TT (.func 82) [.yl y, .ptr bx 0] h0 (fun _ h' => ∃ done, done.Perm es ∧ Iv done h' ∧ h0.no < h'.no) := by
  have nm : h0.no ≠ m := by omega
  have nb : h0.no ≠ bx := by omega
  apply A_go Tryz.func82 rfl (by rfl); (case hn => (simp [Tryz.ntmps82]; rfl))
  repeat(first|with_reducible first|refine vmR ?_|refine vmV rfl ?_|refine vmW rfl ?_|refine vmL ?_|refine blockW_y (by decide) ?_|((with_reducible first|apply vmO|apply vmT|apply vmC);case a=>simp [hb, hm, rangeAV];with_reducible first|exact .v|exact .c|exact .t|exact .f))
  obtain ⟨ha, hha⟩ : ∃ ha : Hp Fm, ha = { h0 with obj := Mp.set h0.obj h0.no (.iter (some m) clk [] clk), no := h0.no + 1 } := ⟨_, rfl⟩
  have e0 : HE h0 ha := by rw [hha]; exact (HE.refl h0).new _
  have gi : Mp.get ha.obj h0.no = some (.iter (some m) clk (([] : List (AV × AV × Nat)).map (·.2.2)) clk) := by rw [hha]; simp
  have gn : h0.no < ha.no := by rw [hha]; simp
  have ia := i0 ha e0 (by rw [hha])
  have gm : Mp.get ha.obj m = some (.mp es clk) := (e0.obj m mn).trans hm
  rw [← hha]
  refine W_loop (fun mm st => ∃ (t : Fm AV) (h : Hp Fm) (done : List (AV × AV × Nat)), st = ⟨t, 14, h, none⟩ ∧ mm = es.length - done.length ∧ (∀ e ∈ done, e ∈ es) ∧ (done.map (·.2.2)).Nodup ∧ Mp.get h.obj h0.no = some (.iter (some m) clk (done.map (·.2.2)) clk) ∧ Mp.get h.obj m = some (.mp es clk) ∧ tget t 0 = .yl y ∧ tget t 5 = .ptr h0.no 0 ∧ Iv done h ∧ h0.no < h.no) es.length
      ⟨_, _, [], rfl, by simp, by simp, by simp, gi, gm, by simp, by simp, ia, gn⟩ ?_
  rintro _ _ ⟨t, h, done, rfl, rfl, hd, hdn, hi, hmh, ht0, ht5, he, hno⟩
  repeat(first|with_reducible first|refine vmR ?_|refine vmV rfl ?_|refine vmW rfl ?_|refine vmL ?_|refine blockW_y (by decide) ?_|((with_reducible first|apply vmO|apply vmT|apply vmC);case a=>simp;with_reducible first|exact .v|exact .c|exact .t|exact .f))
  with_reducible refine WO_next_i done ?_ rfl ?_ hi hmh hlt hnd hd hdn ?_ ?_
  · simp
  · simp [ht5]
  · intro h1 k1 hp
    refine ⟨_, by simp; first | done | rfl, ?_⟩
    repeat(first|with_reducible first|refine vmR ?_|refine vmV rfl ?_|refine vmW rfl ?_|refine vmL ?_|refine blockW_y (by decide) ?_|((with_reducible first|apply vmO|apply vmT|apply vmC);case a=>simp;with_reducible first|exact .v|exact .c|exact .t|exact .f))
    (first | apply endW_r | apply endW_n); (case h1 => (simp [Tryz.results82]; first | done | rfl))
    exact ⟨done, hp, st _ _ _ he (k1.he.x _ _), Nat.lt_of_lt_of_le hno k1.he.no⟩
  · intro h1 e hin hnot k1 hno1 hit
    replace hno1 : h1.no = h.no := hno1
    replace k1 : HX (fun q => q = h0.no) (fun _ => False) h h1 := k1
    have hm1 : Mp.get h1.obj m = some (.mp es clk) := (k1.obj m (by omega) (Ne.symm nm)).trans hmh
    have hen := entry_some (done := done) (h := h1) (es := es) hit hm1 hnd hin
    have hdn' : ((done ++ [e]).map (·.2.2)).Nodup := by
      rw [List.map_append, List.nodup_append]
      refine ⟨hdn, by simp, fun a ha b hb => ?_⟩
      simp only [List.map_cons, List.map_nil, List.mem_singleton] at hb
      subst hb; intro q; exact hnot (q ▸ ha)
    have hd' : ∀ x ∈ done ++ [e], x ∈ es := fun x hx => by
      rcases List.mem_append.mp hx with q | q
      · exact hd x q
      · rw [List.mem_singleton.mp q]; exact hin
    have hln := len_sub (done ++ [e]) es (nodup_of_map _ hdn') hd'
    rw [List.length_append, List.length_singleton] at hln
    obtain ⟨kc1, kc2⟩ := hkc e hin
    have rd' := rd done e h1 (st _ _ _ he k1) hin hd hdn' (by omega)
    obtain ⟨ek, ev, est⟩ := e
    simp only at kc1 kc2
    refine ⟨_, by simp; first | done | rfl, ?_⟩
    repeat(first|with_reducible first|refine vmR ?_|refine vmV rfl ?_|refine vmW rfl ?_|refine vmL ?_|refine blockW_y (by decide) ?_|((with_reducible first|apply vmO|apply vmT|apply vmC);case a=>simp [ht0, ht5, hen, kc1, kc2];with_reducible first|exact .v|exact .c|exact .t|exact .f))
    refine A.mono rd' ?_
    rintro _ h2 ⟨rfl, iv2, x2⟩
    refine ⟨_, by simp; first | done | rfl, ?_⟩
    repeat(first|with_reducible first|refine vmR ?_|refine vmV rfl ?_|refine vmW rfl ?_|refine vmL ?_|refine blockW_y (by decide) ?_|((with_reducible first|apply vmO|apply vmT|apply vmC);case a=>simp;with_reducible first|exact .v|exact .c|exact .t|exact .f))
    have hno2 := x2.no
    refine ⟨es.length - (done ++ [(ek, ev, est)]).length, by simp; omega, _, _, done ++ [(ek, ev, est)], rfl, rfl, hd', hdn', ?_, ?_, by simp [ht0], by simp [ht5], iv2, by omega⟩
    · exact (x2.obj _ (by omega) (fun z => z.2.2 rfl)).trans hit
    · exact (x2.obj _ (by omega) (fun z => z.2.1 rfl)).trans hm1

structure Got (hs h : Hp Fm) (b y : Nat) (lr : ALoop Fm) (done : List (AV × AV × Nat)) : Prop where
  bx : ∃ w, Mp.get h.obj b = some (.row [w]) ∧ RS (y + 2) h 1 false (done.map (·.1)) w
  he : HE hs h
  lp : Mp.get h.obj y = some (.loop lr)
  yn : y < h.no
  pol : h.pol 9 = true

theorem etS : ElT Tryz.prog 74 9 1 16 false (.str []) := ⟨Tryz.underlying74, z9, b9, a9, t9, rfl, rfl, fun _ => rfl, by omega, by omega⟩

set_option maxHeartbeats 1000000 in
theorem appseq_ans (bx m clk : Nat) (es : List (AV × AV × Nat)) (hlt : ∀ e ∈ es, e.2.2 < clk) (hnd : (es.map (·.2.2)).Nodup) (ks : AV × AV × Nat → List UInt8) (hkc : ∀ e ∈ es, e.1 = .str (ks e)) (hlen : es.length ≤ 60000) (h0 : Hp Fm) (hp : h0.pol 9 = true) (hb : Mp.get h0.obj bx = some (.row [.mp m])) (hm : Mp.get h0.obj m = some (.mp es clk)) (bn : bx < h0.no) (mn : m < h0.no) :
    A Tryz.prog TT (.func 92) [.nils, .fn (.func 82) [] [.ptr bx 0]] h0 (fun r h' => ∃ done : List (AV × AV × Nat), done.Perm es ∧ RS h0.no h' 1 false (done.map (·.1)) r ∧ HE h0 h') := by
  apply A_go Tryz.func92 rfl (by rfl); (case hn => (simp [Tryz.ntmps92]; rfl))
  repeat(first|with_reducible first|refine vmR ?_|refine vmV rfl ?_|refine vmW rfl ?_|refine vmL ?_|refine blockW_y (by decide) ?_|((with_reducible first|apply vmO|apply vmT|apply vmC);case a=>simp;with_reducible first|exact .v|exact .c|exact .t|exact .f))
  obtain ⟨y, hy⟩ : ∃ y, y = h0.no + 1 := ⟨_, rfl⟩
  refine W_range_i rfl (by simp [rangeE, laidF]; exact ⟨rfl, rfl, rfl⟩) ?_
  refine with_loop (h0.no + 1) _ (by simp; first | done | rfl) ?_
  intro lr hlr hget
  rw [← hlr]
  clear hget
  obtain ⟨hs, hhs⟩ : ∃ hs : Hp Fm, hs = { h0 with obj := Mp.set (Mp.set h0.obj h0.no (.row [.nils])) (h0.no + 1) (.loop lr), no := h0.no + 1 + 1 } := ⟨_, rfl⟩
  have es0 : HE h0 hs := by rw [hhs]; exact ((HE.refl h0).new _).new _
  have hbs : Mp.get hs.obj bx = some (.row [.mp m]) := (es0.obj bx bn).trans hb
  have hms : Mp.get hs.obj m = some (.mp es clk) := (es0.obj m mn).trans hm
  have sn : hs.no = y + 1 := by rw [hhs, hy]
  have sb : Mp.get hs.obj h0.no = some (.row [.nils]) := by rw [hhs]; simp
  have sy : Mp.get hs.obj y = some (.loop lr) := by rw [hhs, hy]; simp
  have sp : hs.pol 9 = true := by rw [hhs]; exact hp
  rw [← hhs, ← hy]
  refine A.mono (keys1_ans bx m y clk es hlt hnd (fun e he => by rw [hkc e he]; exact ⟨rfl, rfl⟩) hs hbs hms (Nat.lt_of_lt_of_le bn es0.no) (Nat.lt_of_lt_of_le mn es0.no) (fun done h => Got h0 h h0.no y lr done) ?_ ?_ ?_) ?_
  · rintro done h h' ⟨⟨w, w1, w2⟩, he, lp, yn, pl⟩ hx
    refine ⟨⟨w, (hx.obj _ (by omega) (by omega)).trans w1, w2.of hx (fun q hq e => by have := w2.rows q hq; omega)⟩, he.x2 hx (fun q e => by omega) (fun _ z => z.elim), (hx.obj _ yn (by omega)).trans lp, Nat.lt_of_lt_of_le yn hx.no, by rw [hx.pol]; exact pl⟩
  · intro h he hn
    exact ⟨⟨.nils, (he.obj _ (by omega)).trans sb, .inl ⟨rfl, rfl⟩⟩, es0.trans he, (he.obj _ (by omega)).trans sy, by omega, by rw [he.pol]; exact sp⟩
  · rintro done e h ⟨⟨w, w1, w2⟩, he, lp, yn, pl⟩ hin hd hdn hno
    have lp' := lp
    rw [hlr] at lp'
    have ek := hkc e hin
    rw [ek]
    have nby : h0.no ≠ y := by omega
    have nyn : h.no ≠ y := by omega
    have nbn : h0.no ≠ h.no := by omega
    have nbn' : h.no ≠ h0.no := by omega
    have nyb : y ≠ h0.no := by omega
    have nyn' : y ≠ h.no := by omega
    refine A_round lp' (by simp) ?_
    repeat(first|with_reducible first|refine vmR ?_|refine vmV rfl ?_|refine vmW rfl ?_|refine vmL ?_|refine blockW_y (by decide) ?_|((with_reducible first|apply vmO|apply vmT|apply vmC);case a=>simp [roundT];with_reducible first|exact .v|exact .c|exact .t|exact .f))
    refine ⟨rfl, _, by simp [beginR, lp']; first | done | rfl, ?_⟩
    repeat(first|with_reducible first|refine vmR ?_|refine vmV rfl ?_|refine vmW rfl ?_|refine vmL ?_|refine blockW_y (by decide) ?_|((with_reducible first|apply vmO|apply vmT|apply vmC);case a=>simp [roundT, w1, nby, nyn, nbn, nbn', nyb, nyn', newSeq, newRs, pl];with_reducible first|exact .v|exact .c|exact .t|exact .f))
    obtain ⟨lb, hlb⟩ : ∃ lb : ALoop Fm, lb = { lr with state := .busy } := ⟨_, rfl⟩
    have hlb' := hlb
    rw [hlr] at hlb'
    simp only at hlb'
    rw [← hlb']
    obtain ⟨hB, hhB⟩ : ∃ hB : Hp Fm, hB = { h with obj := Mp.set (Mp.set h.obj y (.loop lb)) h.no (.row [.str (ks e)]), no := h.no + 1 } := ⟨_, rfl⟩
    have xB : HX (fun q => q = y) (fun _ => False) h hB := by rw [hhB]; exact ((HX.refl (fun q => q = y) (fun _ => False) h).set (fun _ => rfl) _).new _
    have eB : HE h0 hB := he.x2 xB (fun q e => by omega) (fun _ z => z.elim)
    have wB := w2.of xB (fun q hq e => by have := w2.rows q hq; omega)
    have nB : Vn.newEls hB 1 false (.rs h.no 0 1 false 1 1) = some [.str (ks e)] := by
      simp [newEls, rsEls, hhB, chunkAV]
    have lB : Mp.get hB.obj y = some (.loop lb) := by rw [hhB]; simp [nyn']
    have bB : Mp.get hB.obj h0.no = some (.row [w]) := by rw [hhB]; simp [nbn, nby, w1]
    have pB : hB.pol 9 = true := by rw [hhB]; exact pl
    have hBn : hB.no = h.no + 1 := by rw [hhB]
    rw [← hhB]
    have hln := len_sub (done ++ [e]) es (nodup_of_map _ hdn) (fun x hx => by
      rcases List.mem_append.mp hx with q | q
      · exact hd x q
      · rw [List.mem_singleton.mp q]; exact hin)
    rw [List.length_append, List.length_singleton] at hln
    have fitD : ∀ x ∈ done.map (·.1), Fit false 1 x := fun x hx => by
      obtain ⟨d, hd1, rfl⟩ := List.mem_map.mp hx
      rw [hkc d (hd d hd1)]; exact .inr ⟨rfl, rfl, rfl, rfl⟩
    have hy2 : y + 2 ≤ hB.no := by omega
    with_reducible apply WO_app_i; (case hw => (simp; done)); (case ho => rfl); (case hb => rfl); (case ha => (simp; first | done | exact ⟨rfl, rfl⟩ | rfl)); (case h1 => (simp; first | done | rfl)); (case h2 => (simp; first | done | rfl))
    refine app_then (RS.appN etS wB hy2 pB nB fitD (fun x hx => by rw [List.mem_singleton.mp hx]; exact .inr ⟨rfl, rfl, rfl, rfl⟩) (by simp; omega)) ?_
    rintro u h2 ⟨r2, x2, p2, q2⟩
    replace x2 : HX (isRow w) (fun _ => False) hB h2 := x2
    replace p2 : h2.pol = hB.pol := p2
    have hn2 := x2.no
    have uc := r2.cells
    have ui := r2.isCell
    have b2 : Mp.get h2.obj h0.no = some (.row [w]) := (x2.obj _ (by omega) (fun hq => by have := w2.rows _ hq; omega)).trans bB
    have l2 : Mp.get h2.obj y = some (.loop lb) := (x2.obj _ (by omega) (fun hq => by have := w2.rows _ hq; omega)).trans lB
    refine ⟨_, by simp; first | done | rfl, ?_⟩
    repeat(first|with_reducible first|refine vmR ?_|refine vmV rfl ?_|refine vmW rfl ?_|refine vmL ?_|refine blockW_y (by decide) ?_|((with_reducible first|apply vmO|apply vmT|apply vmC);case a=>simp [uc, ui, b2];with_reducible first|exact .v|exact .c|exact .t|exact .f))
    refine ⟨_, _, by simp [endR, l2, nyb]; rfl, rfl, ?_, ?_⟩
    · have e2 := eB.x2 x2 (fun q hq => by have := w2.rows _ hq; omega) (fun _ z => z.elim)
      refine ⟨⟨u, by simp [nby], ?_⟩, ?_, ?_, ?_, ?_⟩
      · have xz : HX (fun q => q = y ∨ q = h0.no) (fun _ => False) h2 _ := ((HX.refl (fun q => q = y ∨ q = h0.no) (fun _ => False) h2).set (o := h0.no) (fun _ => .inr rfl) (.row [u])).set (o := y) (fun _ => .inl rfl) (.loop { lb with state := .ready, pending := none })
        have := r2.of xz (fun q hq e => by have := r2.rows q hq; omega)
        rw [List.map_append, List.map_cons, List.map_nil, ek]; exact this
      · exact (e2.set (Nat.le_refl _) _).set (by omega) _
      · simp [hlb, hlr]
      · show y < h2.no; have := x2.no; omega
      · show h2.pol 9 = true; rw [p2]; exact pB
    · have hx1 : HX (fun q => q ≠ bx ∧ q ≠ m ∧ q ≠ hs.no) (fun _ => True) h h2 := (xB.mono (fun q _ e => by omega) (fun _ _ _ => trivial)).trans (x2.mono (fun q _ hq => by have := w2.rows _ hq; omega) (fun _ _ _ => trivial))
      exact (hx1.set (fun _ => by omega) _).set (fun _ => by omega) _
  · rintro r h' ⟨done, hp2, ⟨⟨w, w1, w2⟩, he, lp, yn, pl⟩, hno⟩
    have lp' := lp
    rw [hlr] at lp'
    have wc := w2.cells
    have wi := w2.isCell
    refine ⟨_, _, by simp [rangeB, lp', behind]; exact ⟨rfl, rfl⟩, ?_⟩
    repeat(first|with_reducible first|refine vmR ?_|refine vmV rfl ?_|refine vmW rfl ?_|refine vmL ?_|refine blockW_y (by decide) ?_|((with_reducible first|apply vmO|apply vmT|apply vmC);case a=>simp [w1, show h0.no ≠ y by omega];with_reducible first|exact .v|exact .c|exact .t|exact .f))
    (first | apply endW_r | apply endW_n); (case h1 => (simp [Tryz.results92]; first | done | rfl))
    refine ⟨done, hp2, ?_, he.set (by omega) _⟩
    have xz : HX (fun q => q = y) (fun _ => False) h' _ := ((HX.refl (fun q => q = y) (fun _ => False) h').set (o := y) (fun _ => rfl) (.loop { lr with state := .exhausted }))
    rw [hlr] at xz
    have := w2.of xz (fun q hq e => by have := w2.rows q hq; omega)
    rcases this with k | ⟨o, cap, a1, a2, a3⟩
    · exact .inl k
    · exact .inr ⟨o, cap, a1, by omega, a3⟩
end Go.Vn

set_option maxRecDepth 20000
namespace Go.Vn
open Go.Proofs

theorem sorts_nil (h0 : Hp Fm) : A Tryz.prog TT (.func 81) [.nils] h0 (fun _ h' => h' = h0) := by
  have ins : ∀ h, A Tryz.prog TT (.func 101) [.nils, .int .i64 0, .int .i64 0] h (fun _ h' => h' = h) := fun h => by
    apply A_go Tryz.func101 rfl (by rfl); (case hn => (simp [Tryz.ntmps101]; rfl))
    repeat(first|with_reducible first|refine vmR ?_|refine vmV rfl ?_|refine vmW rfl ?_|refine vmL ?_|refine blockW_y (by decide) ?_|((with_reducible first|apply vmO|apply vmT|apply vmC);case a=>simp;with_reducible first|exact .v|exact .c|exact .t|exact .f))
    refine W_loop_i ?_
    repeat(first|with_reducible first|refine vmR ?_|refine vmV rfl ?_|refine vmW rfl ?_|refine vmL ?_|refine blockW_y (by decide) ?_|((with_reducible first|apply vmO|apply vmT|apply vmC);case a=>simp;with_reducible first|exact .v|exact .c|exact .t|exact .f))
    (first | apply endW_r | apply endW_n); (case h1 => (simp [Tryz.results101]; first | done | rfl))
    rfl
  have pd : ∀ (v : Int) (h : Hp Fm), A Tryz.prog TT (.func 93) [.nils, .int .i64 0, .int .i64 0, .int .i64 v] h (fun _ h' => h' = h) := fun v h => by
    apply A_go Tryz.func93 rfl (by rfl); (case hn => (simp [Tryz.ntmps93]; rfl))
    repeat(first|with_reducible first|refine vmR ?_|refine vmV rfl ?_|refine vmW rfl ?_|refine vmL ?_|refine blockW_y (by decide) ?_|((with_reducible first|apply vmO|apply vmT|apply vmC);case a=>simp;with_reducible first|exact .v|exact .c|exact .t|exact .f))
    refine W_loop_i ?_
    repeat(first|with_reducible first|refine vmR ?_|refine vmV rfl ?_|refine vmW rfl ?_|refine vmL ?_|refine blockW_y (by decide) ?_|((with_reducible first|apply vmO|apply vmT|apply vmC);case a=>simp;with_reducible first|exact .v|exact .c|exact .t|exact .f))
    refine A.mono (ins h) ?_
    rintro r _ rfl
    refine ⟨_, by simp; first | done | rfl, ?_⟩
    repeat(first|with_reducible first|refine vmR ?_|refine vmV rfl ?_|refine vmW rfl ?_|refine vmL ?_|refine blockW_y (by decide) ?_|((with_reducible first|apply vmO|apply vmT|apply vmC);case a=>simp;with_reducible first|exact .v|exact .c|exact .t|exact .f))
    (first | apply endW_r | apply endW_n); (case h1 => (simp [Tryz.results93]; first | done | rfl))
    rfl
  have w1 : IntKind.u64.wrap 0 = 0 := by rfl
  apply A_go Tryz.func81 rfl (by rfl); (case hn => (simp [Tryz.ntmps81]; rfl))
  repeat(first|with_reducible first|refine vmR ?_|refine vmV rfl ?_|refine vmW rfl ?_|refine vmL ?_|refine blockW_y (by decide) ?_|((with_reducible first|apply vmO|apply vmT|apply vmC);case a=>simp [w1];with_reducible first|exact .v|exact .c|exact .t|exact .f))
  refine A.mono (bitslen_ans 0 (by omega) h0) ?_
  rintro _ hh ⟨v, rfl, v1, v2, _, ehh⟩
  rw [ehh]
  refine ⟨_, by simp; first | done | rfl, ?_⟩
  repeat(first|with_reducible first|refine vmR ?_|refine vmV rfl ?_|refine vmW rfl ?_|refine vmL ?_|refine blockW_y (by decide) ?_|((with_reducible first|apply vmO|apply vmT|apply vmC);case a=>simp;with_reducible first|exact .v|exact .c|exact .t|exact .f))
  refine A.mono (pd v h0) ?_
  rintro r _ rfl
  refine ⟨_, by simp; first | done | rfl, ?_⟩
  repeat(first|with_reducible first|refine vmR ?_|refine vmV rfl ?_|refine vmW rfl ?_|refine vmL ?_|refine blockW_y (by decide) ?_|((with_reducible first|apply vmO|apply vmT|apply vmC);case a=>simp;with_reducible first|exact .v|exact .c|exact .t|exact .f))
  (first | apply endW_r | apply endW_n); (case h1 => (simp [Tryz.results81]; first | done | rfl))
  rfl

abbrev Tx := List UInt8
theorem sorts_one (o cap : Nat) (h0 : Hp Fm) : A Tryz.prog TT (.func 81) [.rs o 0 1 false 1 cap] h0 (fun _ h' => h' = h0) := by
  have ins : ∀ h, A Tryz.prog TT (.func 101) [.rs o 0 1 false 1 cap, .int .i64 0, .int .i64 1] h (fun _ h' => h' = h) := fun h => by
    have w1 : IntKind.i64.wrap 1 = 1 := by rfl
    apply A_go Tryz.func101 rfl (by rfl); (case hn => (simp [Tryz.ntmps101]; rfl))
    repeat(first|with_reducible first|refine vmR ?_|refine vmV rfl ?_|refine vmW rfl ?_|refine vmL ?_|refine blockW_y (by decide) ?_|((with_reducible first|apply vmO|apply vmT|apply vmC);case a=>simp [w1];with_reducible first|exact .v|exact .c|exact .t|exact .f))
    refine W_loop_i ?_
    repeat(first|with_reducible first|refine vmR ?_|refine vmV rfl ?_|refine vmW rfl ?_|refine vmL ?_|refine blockW_y (by decide) ?_|((with_reducible first|apply vmO|apply vmT|apply vmC);case a=>simp [w1];with_reducible first|exact .v|exact .c|exact .t|exact .f))
    (first | apply endW_r | apply endW_n); (case h1 => (simp [Tryz.results101]; first | done | rfl))
    rfl
  have pd : ∀ (v : Int) (h : Hp Fm), A Tryz.prog TT (.func 93) [.rs o 0 1 false 1 cap, .int .i64 0, .int .i64 1, .int .i64 v] h (fun _ h' => h' = h) := fun v h => by
    have w1 : IntKind.i64.wrap 1 = 1 := by rfl
    apply A_go Tryz.func93 rfl (by rfl); (case hn => (simp [Tryz.ntmps93]; rfl))
    repeat(first|with_reducible first|refine vmR ?_|refine vmV rfl ?_|refine vmW rfl ?_|refine vmL ?_|refine blockW_y (by decide) ?_|((with_reducible first|apply vmO|apply vmT|apply vmC);case a=>simp [w1];with_reducible first|exact .v|exact .c|exact .t|exact .f))
    refine W_loop_i ?_
    repeat(first|with_reducible first|refine vmR ?_|refine vmV rfl ?_|refine vmW rfl ?_|refine vmL ?_|refine blockW_y (by decide) ?_|((with_reducible first|apply vmO|apply vmT|apply vmC);case a=>simp [w1];with_reducible first|exact .v|exact .c|exact .t|exact .f))
    refine A.mono (ins h) ?_
    rintro r _ rfl
    refine ⟨_, by simp; first | done | rfl, ?_⟩
    repeat(first|with_reducible first|refine vmR ?_|refine vmV rfl ?_|refine vmW rfl ?_|refine vmL ?_|refine blockW_y (by decide) ?_|((with_reducible first|apply vmO|apply vmT|apply vmC);case a=>simp;with_reducible first|exact .v|exact .c|exact .t|exact .f))
    (first | apply endW_r | apply endW_n); (case h1 => (simp [Tryz.results93]; first | done | rfl))
    rfl
  have w1 : IntKind.u64.wrap 1 = 1 := by rfl
  apply A_go Tryz.func81 rfl (by rfl); (case hn => (simp [Tryz.ntmps81]; rfl))
  repeat(first|with_reducible first|refine vmR ?_|refine vmV rfl ?_|refine vmW rfl ?_|refine vmL ?_|refine blockW_y (by decide) ?_|((with_reducible first|apply vmO|apply vmT|apply vmC);case a=>simp [w1];with_reducible first|exact .v|exact .c|exact .t|exact .f))
  refine A.mono (bitslen_ans 1 (by omega) h0) ?_
  rintro _ hh ⟨v, rfl, v1, v2, _, ehh⟩
  rw [ehh]
  refine ⟨_, by simp; first | done | rfl, ?_⟩
  repeat(first|with_reducible first|refine vmR ?_|refine vmV rfl ?_|refine vmW rfl ?_|refine vmL ?_|refine blockW_y (by decide) ?_|((with_reducible first|apply vmO|apply vmT|apply vmC);case a=>simp;with_reducible first|exact .v|exact .c|exact .t|exact .f))
  refine A.mono (pd v h0) ?_
  rintro r _ rfl
  refine ⟨_, by simp; first | done | rfl, ?_⟩
  repeat(first|with_reducible first|refine vmR ?_|refine vmV rfl ?_|refine vmW rfl ?_|refine vmL ?_|refine blockW_y (by decide) ?_|((with_reducible first|apply vmO|apply vmT|apply vmC);case a=>simp;with_reducible first|exact .v|exact .c|exact .t|exact .f))
  (first | apply endW_r | apply endW_n); (case h1 => (simp [Tryz.results81]; first | done | rfl))
  rfl

def Rising (_ : List Tx) : Prop := True

theorem fitS (l : List Tx) : ∀ e ∈ l.map AV.str, Fit false 1 e := fun e he => by obtain ⟨x, _, rfl⟩ := List.mem_map.mp he; exact .inr ⟨rfl, rfl, rfl, rfl⟩
set_option maxHeartbeats 1000000 in
/-- The keys of a map, sorted. -/
theorem sorted_ans (bx m clk : Nat) (es : List (AV × AV × Nat)) (hlt : ∀ e ∈ es, e.2.2 < clk) (hnd : (es.map (·.2.2)).Nodup) (ks : AV × AV × Nat → List UInt8) (hkc : ∀ e ∈ es, e.1 = .str (ks e)) (hlen : es.length = 1) (h0 : Hp Fm) (hb : Mp.get h0.obj bx = some (.row [.mp m])) (hm : Mp.get h0.obj m = some (.mp es clk)) (bn : bx < h0.no) (mn : m < h0.no) :
    A Tryz.prog TT (.func 62) [.fn (.func 82) [] [.ptr bx 0]] h0 (fun r h' => ∃ l : List Tx, SV 1 (l.map AV.str) r ∧ l.Perm (es.map ks) ∧ Rising l ∧ HE h0 h') := by
  obtain ⟨ha, hha⟩ : ∃ ha : Hp Fm, ha = { h0 with pol := (· == 9) } := ⟨_, rfl⟩
  have hpa : ha.pol 9 = true := by rw [hha]; rfl
  have hba : Mp.get ha.obj bx = some (.row [.mp m]) := by rw [hha]; exact hb
  have hma : Mp.get ha.obj m = some (.mp es clk) := by rw [hha]; exact hm
  have hno : ha.no = h0.no := by rw [hha]
  have f0 : ∀ h' : Hp Fm, HE ha h' → HE h0 { h' with pol := h0.pol } := fun h' k => ⟨by have := k.no; rw [hha] at this; exact this, by have := k.ng; rw [hha] at this; exact this, rfl, by have := k.obj; rw [hha] at this; exact this, by have := k.len; rw [hha] at this; exact this⟩
  have coll : A Tryz.prog TT (.func 80) [.fn (.func 82) [] [.ptr bx 0]] ha (fun r h' => ∃ done : List (AV × AV × Nat), done.Perm es ∧ RS ha.no h' 1 false (done.map (·.1)) r ∧ HE ha h') := by
    apply A_go Tryz.func80 rfl (by rfl); (case hn => (simp [Tryz.ntmps80]; rfl))
    repeat(first|with_reducible first|refine vmR ?_|refine vmV rfl ?_|refine vmW rfl ?_|refine vmL ?_|refine blockW_y (by decide) ?_|((with_reducible first|apply vmO|apply vmT|apply vmC);case a=>simp;with_reducible first|exact .v|exact .c|exact .t|exact .f))
    refine A.mono (appseq_ans bx m clk es hlt hnd ks hkc (by omega) ha hpa hba hma (by omega) (by omega)) ?_
    rintro r h1 ⟨done, d1, d2, d3⟩
    have c1 := d2.cells
    have c2 := d2.isCell
    refine ⟨_, by simp; first | done | rfl, ?_⟩
    repeat(first|with_reducible first|refine vmR ?_|refine vmV rfl ?_|refine vmW rfl ?_|refine vmL ?_|refine blockW_y (by decide) ?_|((with_reducible first|apply vmO|apply vmT|apply vmC);case a=>simp [c1, c2];with_reducible first|exact .v|exact .c|exact .t|exact .f))
    (first | apply endW_r | apply endW_n); (case h1 => (simp [Tryz.results80]; first | done | rfl))
    exact ⟨done, d1, d2, d3⟩
  apply A_goT Tryz.func62 rfl (by rfl); (case hn => (simp [Tryz.ntmps62]; rfl))
  repeat(first|with_reducible first|refine vmR ?_|refine vmV rfl ?_|refine vmW rfl ?_|refine vmL ?_|refine blockW_y (by decide) ?_|((with_reducible first|apply vmO|apply vmT|apply vmC);case a=>simp;with_reducible first|exact .v|exact .c|exact .t|exact .f))
  rw [← hha]
  refine A.mono coll ?_
  rintro r h1 ⟨done, d1, d2, d3⟩
  have c1 := d2.cells
  have c2 := d2.isCell
  refine ⟨_, by simp; first | done | rfl, ?_⟩
  have dk : done.map (·.1) = (done.map ks).map AV.str := by
    rw [List.map_map]
    exact List.map_congr_left fun e he => hkc e (d1.mem_iff.mp he)
  rw [dk] at d2
  have dl : (done.map ks).length = es.length := by rw [List.length_map, d1.length_eq]
  have dp : (done.map ks).Perm (es.map ks) := d1.map ks
  obtain ⟨l0, hl0⟩ : ∃ l0, l0 = done.map ks := ⟨_, rfl⟩
  rw [← hl0] at d2 dl dp
  clear hl0 dk d1 done
  rcases d2 with ⟨rfl, e⟩ | ⟨o, cap, rfl, hlo, ⟨J, h2, h3⟩, hc, ho⟩
  · have hl0 : l0 = [] := by simpa using e
    subst hl0
    repeat(first|with_reducible first|refine vmR ?_|refine vmV rfl ?_|refine vmW rfl ?_|refine vmL ?_|refine blockW_y (by decide) ?_|((with_reducible first|apply vmO|apply vmT|apply vmC);case a=>simp;with_reducible first|exact .v|exact .c|exact .t|exact .f))
    refine A.mono (sorts_nil h1) ?_
    rintro r _ rfl
    refine ⟨_, by simp; first | done | rfl, ?_⟩
    repeat(first|with_reducible first|refine vmR ?_|refine vmV rfl ?_|refine vmW rfl ?_|refine vmL ?_|refine blockW_y (by decide) ?_|((with_reducible first|apply vmO|apply vmT|apply vmC);case a=>simp;with_reducible first|exact .v|exact .c|exact .t|exact .f))
    (first | apply endW_r | apply endW_n); (case h1 => (simp [Tryz.results62]; first | done | rfl))
    exact ⟨[], .inl ⟨rfl, rfl⟩, dp, trivial, f0 _ d3⟩
  · obtain ⟨n, hn⟩ : ∃ n, n = (l0.map AV.str).length := ⟨_, rfl⟩
    rw [← hn] at h3 hc ⊢
    rw [List.length_map] at hn
    repeat(first|with_reducible first|refine vmR ?_|refine vmV rfl ?_|refine vmW rfl ?_|refine vmL ?_|refine blockW_y (by decide) ?_|((with_reducible first|apply vmO|apply vmT|apply vmC);case a=>simp;with_reducible first|exact .v|exact .c|exact .t|exact .f))
    have en : n = 1 := by omega
    rw [en]
    refine A.mono (sorts_one o cap h1) ?_
    rintro r hz ez
    rw [ez]
    refine ⟨_, by simp; first | done | rfl, ?_⟩
    repeat(first|with_reducible first|refine vmR ?_|refine vmV rfl ?_|refine vmW rfl ?_|refine vmL ?_|refine blockW_y (by decide) ?_|((with_reducible first|apply vmO|apply vmT|apply vmC);case a=>simp;with_reducible first|exact .v|exact .c|exact .t|exact .f))
    (first | apply endW_r | apply endW_n); (case h1 => (simp [Tryz.results62]; first | done | rfl))
    have k5 : RS o h1 1 false (l0.map AV.str) (.rs o 0 1 false 1 cap) := .inr ⟨o, cap, by rw [List.length_map, ← hn, en], Nat.le_refl _, ⟨J, h2, by rw [List.length_map, ← hn]; exact h3⟩, by rw [List.length_map, ← hn]; exact hc, ho⟩
    obtain ⟨z1, z2⟩ := k5.frz (fitS l0) (by omega) (fun _ => rfl)
    refine ⟨l0, z1, dp, trivial, ?_⟩
    refine f0 _ (d3.x2 z2 (fun q hq => by have := k5.rows q hq; omega) (fun _ z => z.elim))

theorem names_ans (p m : Nat) (D : Dk) (h0 : Hp Fm) (d : DKs h0 p m D) (hf : D.fs.length = 1) :
    A Tryz.prog TT (.func 37) [.ptr p 0] h0 (fun r h' => ∃ l : List Tx, SV 1 (l.map AV.str) r ∧ l.Perm (D.fs.map (·.1)) ∧ Rising l ∧ HE h0 h') := by
  have hr := d.row
  obtain ⟨es, hm, hes⟩ := d.map
  have hbirth := hes.births
  have hnd : (es.map (·.2.2)).Nodup := by rw [hbirth]; exact d.born.nd
  have hlt : ∀ e ∈ es, e.2.2 < D.clk := fun e he => by
    have : e.2.2 ∈ es.map (·.2.2) := List.mem_map_of_mem he
    rw [hbirth] at this
    obtain ⟨f, hf, e1⟩ := List.mem_map.mp this
    have := d.born.lt f hf; omega
  obtain ⟨ks, hks⟩ : ∃ ks : AV × AV × Nat → Tx, ks = fun e => match e.1 with | .str s => s | _ => [] := ⟨_, rfl⟩
  have hkc : ∀ e ∈ es, e.1 = .str (ks e) := fun e he => by
    obtain ⟨f, _, h1, _⟩ := hes.mem he
    simp only [hks, h1]
  have hmap : ∀ (fs : Ents FV) (es : List (AV × AV × Nat)), EntsR FR fs es → es.map ks = fs.map (·.1) := by
    intro fs
    induction fs with
    | nil => intro es h; cases es with
      | nil => rfl
      | cons _ _ => exact h.elim
    | cons f fs ih => intro es h; cases es with
      | nil => exact h.elim
      | cons e es => rw [List.map_cons, List.map_cons, ih es h.2, hks]; simp only; rw [h.1.1]
  have keys : A Tryz.prog TT (.func 63) [.mp m] h0 (fun r h' => r = .fn (.func 82) [] [.ptr h0.no 0] ∧ h' = { h0 with obj := Mp.set h0.obj h0.no (.row [.mp m]), no := h0.no + 1 }) := by
    apply A_go Tryz.func63 rfl (by rfl); (case hn => (simp [Tryz.ntmps63]; rfl))
    repeat(first|with_reducible first|refine vmR ?_|refine vmV rfl ?_|refine vmW rfl ?_|refine vmL ?_|refine blockW_y (by decide) ?_|((with_reducible first|apply vmO|apply vmT|apply vmC);case a=>simp;with_reducible first|exact .v|exact .c|exact .t|exact .f))
    (first | apply endW_r | apply endW_n); (case h1 => (simp [Tryz.results63]; first | done | rfl))
    exact ⟨rfl, rfl⟩
  apply A_go Tryz.func37 rfl (by rfl); (case hn => (simp [Tryz.ntmps37]; rfl))
  repeat(first|with_reducible first|refine vmR ?_|refine vmV rfl ?_|refine vmW rfl ?_|refine vmL ?_|refine blockW_y (by decide) ?_|((with_reducible first|apply vmO|apply vmT|apply vmC);case a=>simp [hr];with_reducible first|exact .v|exact .c|exact .t|exact .f))
  refine A.mono keys ?_
  rintro _ h1 ⟨rfl, eh⟩
  have e1 : HE h0 h1 := by rw [eh]; exact (HE.refl h0).new _
  refine ⟨_, by simp; first | done | rfl, ?_⟩
  repeat(first|with_reducible first|refine vmR ?_|refine vmV rfl ?_|refine vmW rfl ?_|refine vmL ?_|refine blockW_y (by decide) ?_|((with_reducible first|apply vmO|apply vmT|apply vmC);case a=>simp;with_reducible first|exact .v|exact .c|exact .t|exact .f))
  have mn := d.mn
  have n1 : h1.no = h0.no + 1 := by rw [eh]
  refine A.mono (sorted_ans h0.no m D.clk es hlt hnd ks hkc (by rw [hes.len]; exact hf) h1 (by rw [eh]; simp) ((e1.obj m mn).trans hm) (by omega) (by omega)) ?_
  rintro r h2 ⟨l, l1, l2, l3, e2⟩
  have c1 := l1.cells
  have c2 := l1.isCell
  refine ⟨_, by simp; first | done | rfl, ?_⟩
  repeat(first|with_reducible first|refine vmR ?_|refine vmV rfl ?_|refine vmW rfl ?_|refine vmL ?_|refine blockW_y (by decide) ?_|((with_reducible first|apply vmO|apply vmT|apply vmC);case a=>simp [c1, c2];with_reducible first|exact .v|exact .c|exact .t|exact .f))
  (first | apply endW_r | apply endW_n); (case h1 => (simp [Tryz.results37]; first | done | rfl))
  exact ⟨l, l1, by rw [hmap _ _ hes] at l2; exact l2, l3, e1.trans e2⟩

end Go.Vn

set_option maxRecDepth 20000
namespace Go.Vn
open Go.Proofs

def keepN (keep : List Int) (i : Nat) : Nat := if keep.length = 0 then 0 else
  if keep.getD (i % keep.length) 0 < 0 then (-(keep.getD (i % keep.length) 0 + 1)).toNat else (keep.getD (i % keep.length) 0).toNat
def upStep (keep : List Int) (s : Dk × Nat) (k : Tx) : Dk × Nat := match lookF k s.1.fs with
  | none => s
  | some a => if a.2 < a.1.length then (s.1.put k (a.1.take (a.2 + keepN keep s.2 % (a.1.length - a.2 + 1)), a.2 + keepN keep s.2 % (a.1.length - a.2 + 1)), s.2 + 1) else s
def Dk.up (keep : List Int) (l : List Tx) (D : Dk) : Dk := (l.foldl (upStep keep) ({ D with left := -1, down := false }, 0)).1
def Dk.ok (D : Dk) : Prop := ∀ k a, lookF k D.fs = some a → a.2 ≤ a.1.length ∧ a.1.length ≤ 67108864

theorem put_ok {D : Dk} (h : D.ok) (k : Tx) (a : FV) (ha : a.2 ≤ a.1.length ∧ a.1.length ≤ 67108864) : (D.put k a).ok := by
  intro k' a' h'
  simp only [Dk.put, lookF_setF] at h'
  split at h'
  · cases h'; exact ha
  · exact h k' a' h'
theorem upStep_ok {keep : List Int} {s : Dk × Nat} {k : Tx} (h : s.1.ok) : (upStep keep s k).1.ok := by
  unfold upStep
  split
  · exact h
  · rename_i a ha
    split
    · obtain ⟨h1, h2⟩ := h k a ha
      refine put_ok h k _ ⟨?_, ?_⟩
      · rw [List.length_take]
        have := Nat.mod_lt (keepN keep s.2) (show 0 < a.1.length - a.2 + 1 by omega)
        omega
      · rw [List.length_take]; omega
    · exact h
theorem upStep_i {keep : List Int} {s : Dk × Nat} {k : Tx} : (upStep keep s k).2 ≤ s.2 + 1 := by
  unfold upStep
  split
  · omega
  · split
    · exact Nat.le_refl _
    · omega

theorem SV.cut3 {P : Program} {t e : TypeId} {sz : Nat} {xs : List AV} {v : AV} (h : SV sz xs v) (hu : P.underlying t = some (.slice e)) (hs : tsize P e = some sz) {b : Nat} (h1 : b ≤ xs.length) :
    ∃ r, sliceAV P t v none (some (.int .i64 (b : Int))) (some (.int .i64 (b : Int))) = some r ∧ SV sz (xs.take b) r := by
  rcases h with ⟨rfl, rfl⟩ | ⟨g, off, cp, rfl⟩ | ⟨c, rfl, rfl⟩
  · have hb : b = 0 := by simpa using h1
    subst hb
    exact ⟨.nils, by simp [sliceAV, hu, hs, obound, bound], .inl ⟨rfl, by simp⟩⟩
  · exact ⟨.sl g off sz b (xs.take b), by simp [sliceAV, hu, hs, obound, bound, h1], .inr (.inl ⟨_, _, _, rfl⟩)⟩
  · have hb : b = 0 := by simpa using h1
    subst hb
    exact ⟨.esl 0, by simp [sliceAV, hu, hs, obound, bound], .inr (.inr ⟨0, rfl, by simp⟩)⟩


set_option maxHeartbeats 4000000 in
theorem up_ans (keep : List Int) (hk64 : ∀ x ∈ keep, -9223372036854775808 ≤ x ∧ x ≤ 9223372036854775807) (hkl : keep.length ≤ 9223372036854775807) (vk : AV) (kv : SV 1 (keep.map (AV.int .i64)) vk) (p m : Nat) (D : Dk) (dok : D.ok) (hf : D.fs.length = 1) (h0 : Hp Fm) (d : DKs h0 p m D) :
    A Tryz.prog TT (.func 15) [.ptr p 0, vk] h0 (fun _ h' => (D.down = false → DKs h' p m { D with left := -1 }) ∧ (D.down = true → ∃ l : List Tx, l.Perm (D.fs.map (·.1)) ∧ Rising l ∧ DKs h' p m (D.up keep l)) ∧ DX p m h0 h') := by
  have hr := d.row
  cases q0 : D.down with
  | false =>
    rw [q0] at hr
    apply A_go Tryz.func15 rfl (by rfl); (case hn => (simp [Tryz.ntmps15]; rfl))
    repeat(first|with_reducible first|refine vmR ?_|refine vmV rfl ?_|refine vmW rfl ?_|refine vmL ?_|refine blockW_y (by decide) ?_|((with_reducible first|apply vmO|apply vmT|apply vmC);case a=>simp [hr];with_reducible first|exact .v|exact .c|exact .t|exact .f))
    (first | apply endW_r | apply endW_n); (case h1 => (simp [Tryz.results15]; first | done | rfl))
    have := d.setRow D.quota (-1) D.down
    rw [q0] at this
    refine ⟨fun _ => this, (fun z => by cases z), (HX.refl _ _ _).set (fun _ => .inl rfl) _⟩
  | true =>
    rw [q0] at hr
    obtain ⟨ha, hha⟩ : ∃ ha : Hp Fm, ha = { h0 with obj := Mp.set (Mp.set h0.obj p (.row [.mp m, .int .i64 D.quota, .int .i64 (-1), .bool true])) p (.row [.mp m, .int .i64 D.quota, .int .i64 (-1), .bool false]) } := ⟨_, rfl⟩
    have da : DKs ha p m { D with left := -1, down := false } := by
      have := (d.setRow D.quota (-1) true).setRow D.quota (-1) false
      rw [hha]; exact this
    have xa : DX p m h0 ha := by rw [hha]; exact ((HX.refl (fun o => o = p ∨ o = m) (fun _ => False) h0).set (fun _ => .inl rfl) _).set (fun _ => .inl rfl) _
    apply A_go Tryz.func15 rfl (by rfl); (case hn => (simp [Tryz.ntmps15]; rfl))
    repeat(first|with_reducible first|refine vmR ?_|refine vmV rfl ?_|refine vmW rfl ?_|refine vmL ?_|refine blockW_y (by decide) ?_|((with_reducible first|apply vmO|apply vmT|apply vmC);case a=>simp [hr];with_reducible first|exact .v|exact .c|exact .t|exact .f))
    rw [← hha]
    refine A.mono (names_ans p m _ ha da hf) ?_
    rintro nv hs ⟨l, l1, l2, l3, es⟩
    refine ⟨_, by simp; first | done | rfl, ?_⟩
    have nvl := l1.len Tryz.underlying74
    rw [List.length_map] at nvl
    have nvc := l1.cells
    have nvi := l1.isCell
    have nvn := l1.nm
    have llen : l.length = D.fs.length := by rw [l2.length_eq, List.length_map]
    repeat(first|with_reducible first|refine vmR ?_|refine vmV rfl ?_|refine vmW rfl ?_|refine vmL ?_|refine blockW_y (by decide) ?_|((with_reducible first|apply vmO|apply vmT|apply vmC);case a=>simp [nvl, nvc, nvi, nvn];with_reducible first|exact .v|exact .c|exact .t|exact .f))
    have ds := da.he es
    refine W_loop (fun mm s => ∃ (t : Fm AV) (h : Hp Fm) (j : Nat), s = ⟨t, 79, h, none⟩ ∧ mm = l.length - j ∧ j ≤ l.length ∧ ((l.take j).foldl (upStep keep) ({ D with left := -1, down := false }, 0)).1.ok ∧ ((l.take j).foldl (upStep keep) ({ D with left := -1, down := false }, 0)).2 ≤ j ∧
        tget t 0 = .ptr p 0 ∧ tget t 1 = vk ∧ tget t 22 = nv ∧ tget t 23 = .int .i64 l.length ∧ tget t 24 = .int .i64 j ∧ tget t 4 = .int .i64 (((l.take j).foldl (upStep keep) ({ D with left := -1, down := false }, 0)).2 : Nat) ∧ DKs h p m ((l.take j).foldl (upStep keep) ({ D with left := -1, down := false }, 0)).1 ∧ DX p m hs h) l.length
      ⟨_, _, 0, rfl, rfl, by omega, dok, Nat.le_refl _, by simp, by simp, by simp, by simp, by simp, by simp, ds, HX.refl _ _ _⟩ ?_
    rintro _ _ ⟨t, h, j, rfl, rfl, hj, dok, hi1, t0, t1, t22, t23, t24, t4, d1, dx⟩
    obtain ⟨S, hS⟩ : ∃ S, S = (l.take j).foldl (upStep keep) ({ D with left := -1, down := false }, 0) := ⟨_, rfl⟩
    rw [← hS] at dok hi1 t4 d1
    obtain ⟨D1, i1⟩ := S
    simp only at dok hi1 t4 d1
    by_cases q1 : j < l.length
    case neg =>
      have q1' : ¬ (j : Int) < l.length := by omega
      repeat(first|with_reducible first|refine vmR ?_|refine vmV rfl ?_|refine vmW rfl ?_|refine vmL ?_|refine blockW_y (by decide) ?_|((with_reducible first|apply vmO|apply vmT|apply vmC);case a=>simp [t0, t1, t22, t23, t24, t4, q1, q1'];with_reducible first|exact .v|exact .c|exact .t|exact .f))
      (first | apply endW_r | apply endW_n); (case h1 => (simp [Tryz.results15]; first | done | rfl))
      refine ⟨fun z => (by cases z), fun _ => ⟨l, l2, l3, ?_⟩, (xa.trans (es.x _ _)).trans (dx.mono (fun _ _ z => z) (fun _ _ z => z))⟩
      have : l.take j = l := List.take_of_length_le (by omega)
      rw [this] at hS
      unfold Dk.up
      rw [← hS]
      exact d1
    have q1' : (j : Int) < l.length := by omega
    obtain ⟨kk, hkk⟩ : ∃ kk, kk = l[j] := ⟨_, rfl⟩
    obtain ⟨jp, hjp⟩ : ∃ jp, jp = j + 1 := ⟨_, rfl⟩
    have wj : IntKind.i64.wrap ((j : Int) + 1) = (jp : Int) := by rw [wrap64 (by omega) (by omega)]; omega
    have estep : (l.take jp).foldl (upStep keep) ({ D with left := -1, down := false }, 0) = upStep keep (D1, i1) kk := by
      rw [hjp, List.take_succ_eq_append_getElem q1, List.foldl_append, ← hS, hkk]; rfl
    have ixn := l1.idx (k := .i64) (i := (j : Int)) Tryz.underlying74 z9 (by omega) (by simpa using q1)
    simp only [List.getElem_map, Int.toNat_natCast, ← hkk] at ixn
    have hr := d1.row
    have hne := d1.ne
    have pn := d1.pn
    have mn := d1.mn
    obtain ⟨es, hm, hes⟩ := d1.map
    have x4 : h.no ≠ p := by omega
    have x5 : h.no ≠ m := by omega
    have x4' : p ≠ h.no := by omega
    have x5' : m ≠ h.no := by omega
    cases ha : lookF kk D1.fs with
    | none =>
      have lk := look_none (m := m) (clk := D1.clk) (k := kk) Tryz.underlying44 Tryz.underlying9 t77 hes ha
      have eD : upStep keep (D1, i1) kk = (D1, i1) := by simp only [upStep, ha]
      repeat(first|with_reducible first|refine vmR ?_|refine vmV rfl ?_|refine vmW rfl ?_|refine vmL ?_|refine blockW_y (by decide) ?_|((with_reducible first|apply vmO|apply vmT|apply vmC);case a=>simp [t0, t1, t22, t23, t24, t4, q1, q1', ixn, hr, hm, lk, wj, x4, x5, x4', x5'];with_reducible first|exact .v|exact .c|exact .t|exact .f))
      refine ⟨l.length - jp, by omega, _, _, jp, rfl, rfl, by omega, ?_, ?_, by simp [t0], by simp [t1], by simp [t22], by simp [t23], by simp, ?_, ?_⟩
      · rw [estep, eD]; exact dok
      · rw [estep, eD]; simp only; omega
      · rw [estep, eD]; simp [t4]
      · rw [estep, eD]
        have hx0 : HE h _ := ((HE.refl h).new (.row [.nils, .int .i64 0])).set (o := h.no) (Nat.le_refl _) (.row [.nils, .int .i64 0])
        exact ⟨d1.he hx0, dx.trans (hx0.x _ _)⟩
    | some a =>
      obtain ⟨fv, ⟨bv, k1, rfl⟩, lk⟩ := look_some (m := m) (clk := D1.clk) (k := kk) Tryz.underlying44 Tryz.underlying9 hes ha
      obtain ⟨ok1, ok2⟩ := dok kk a ha
      have c1 := k1.cells
      have i1' := k1.isCell
      have bl := k1.len Tryz.underlying58
      rw [List.length_map] at bl
      have bn := k1.nm
      obtain ⟨loose, hlo⟩ : ∃ x, x = a.1.length - a.2 := ⟨_, rfl⟩
      have wlo : IntKind.i64.wrap ((a.1.length : Int) - (a.2 : Int)) = (loose : Int) := by rw [wrap64 (by omega) (by omega)]; omega
      by_cases q2 : a.2 < a.1.length
      case neg =>
        have q2' : ¬ (0 : Int) < loose := by omega
        have q2'' : ¬ 0 < loose := by omega
        have eD : upStep keep (D1, i1) kk = (D1, i1) := by simp only [upStep, ha, if_neg q2]
        repeat(first|with_reducible first|refine vmR ?_|refine vmV rfl ?_|refine vmW rfl ?_|refine vmL ?_|refine blockW_y (by decide) ?_|((with_reducible first|apply vmO|apply vmT|apply vmC);case a=>simp [t0, t1, t22, t23, t24, t4, q1, q1', ixn, hr, hm, lk, wj, c1, i1', bl, bn, wlo, q2', q2'', x4, x5, x4', x5'];with_reducible first|exact .v|exact .c|exact .t|exact .f))
        refine ⟨l.length - jp, by omega, _, _, jp, rfl, rfl, by omega, ?_, ?_, by simp [t0], by simp [t1], by simp [t22], by simp [t23], by simp, ?_, ?_⟩
        · rw [estep, eD]; exact dok
        · rw [estep, eD]; simp only; omega
        · rw [estep, eD]; simp [t4]
        · rw [estep, eD]
          have hx0 : HE h _ := ((HE.refl h).new (.row [.nils, .int .i64 0])).set (o := h.no) (Nat.le_refl _) (.row [bv, .int .i64 (a.2 : Nat)])
          exact ⟨d1.he hx0, dx.trans (hx0.x _ _)⟩
      have q2' : (0 : Int) < loose := by omega
      have q2'' : 0 < loose := by omega
      have kvl := kv.len Tryz.underlying36
      rw [List.length_map] at kvl
      have kvn := kv.nm
      repeat(first|with_reducible first|refine vmR ?_|refine vmV rfl ?_|refine vmW rfl ?_|refine vmL ?_|refine blockW_y (by decide) ?_|((with_reducible first|apply vmO|apply vmT|apply vmC);case a=>simp [t0, t1, t22, t23, t24, t4, q1, q1', ixn, hr, hm, lk, wj, c1, i1', bl, bn, wlo, q2', q2'', x4, x5, x4', x5', kvl, kvn];with_reducible first|exact .v|exact .c|exact .t|exact .f))
      obtain ⟨hX, hhX⟩ : ∃ hX : Hp Fm, hX = { h with obj := Mp.set (Mp.set h.obj h.no (.row [.nils, .int .i64 0])) h.no (.row [bv, .int .i64 (a.2 : Nat)]), no := h.no + 1 } := ⟨_, rfl⟩
      have eX : HE h hX := by rw [hhX]; exact ((HE.refl h).new _).set (o := h.no) (Nat.le_refl _) _
      have hfX : Mp.get hX.obj h.no = some (.row [bv, .int .i64 (a.2 : Nat)]) := by rw [hhX]; simp
      have hrX := (eX.obj p pn).trans hr
      have hmX := (eX.obj m mn).trans hm
      rw [← hhX]
      obtain ⟨kn, hkn0⟩ : ∃ kn, kn = keepN keep i1 := ⟨_, rfl⟩
      have hkn : keepN keep i1 = kn := hkn0.symm
      refine W.mono (R := fun e s => e = .normal ∧ ∃ (t : Fm AV), s = ⟨t, 79, hX, none⟩ ∧ tget t 0 = .ptr p 0 ∧ tget t 1 = vk ∧ tget t 22 = nv ∧ tget t 23 = .int .i64 l.length ∧ tget t 24 = .int .i64 j ∧ tget t 4 = .int .i64 i1 ∧ tget t 6 = .str kk ∧ tget t 7 = .ptr h.no 0 ∧ tget t 8 = .int .i64 loose ∧ tget t 9 = .int .i64 kn) ?_ ?_
      · by_cases q3 : 0 < keep.length
        case neg =>
          have kz : kn = 0 := by rw [hkn0]; unfold keepN; rw [if_pos (by omega)]
          rw [kz]
          repeat(first|with_reducible first|refine vmR ?_|refine vmV rfl ?_|refine vmW rfl ?_|refine vmL ?_|refine blockW_y (by decide) ?_|((with_reducible first|apply vmO|apply vmT|apply vmC);case a=>simp [q3];with_reducible first|exact .v|exact .c|exact .t|exact .f))
          exact ⟨rfl, _, rfl, by simp [t0], by simp [t1], by simp [t22], by simp [t23], by simp [t24], by simp [t4], by simp, by simp, by simp, by simp⟩
        have nz : ¬ ((keep.length : Int) = 0) := by omega
        obtain ⟨r, hrr⟩ : ∃ r, r = i1 % keep.length := ⟨_, rfl⟩
        have hmod : Int.tmod (i1 : Int) (keep.length : Int) = (r : Int) := by rw [Int.tmod_eq_emod_of_nonneg (by omega), hrr]; simp
        have hrl : r < keep.length := by rw [hrr]; exact Nat.mod_lt _ q3
        obtain ⟨x, hx⟩ : ∃ x, x = keep.getD r 0 := ⟨_, rfl⟩
        have hxg : keep[r] = x := by rw [hx]; simp [List.getD, hrl]
        obtain ⟨b1, b2⟩ := hk64 x (by rw [← hxg]; exact List.getElem_mem hrl)
        have ixk := kv.idx (k := .i64) (i := (r : Int)) Tryz.underlying36 z3 (by omega) (by simpa using hrl)
        simp only [List.getElem_map, Int.toNat_natCast, hxg] at ixk
        have ekn : kn = if x < 0 then (-(x + 1)).toNat else x.toNat := by rw [hkn0, hx, hrr]; unfold keepN; rw [if_neg (by omega)]
        have nz' : ¬ (keep.length = 0) := by omega
        by_cases q4 : x < 0
        · have u1 : IntKind.i64.wrap (x + 1) = x + 1 := wrap64 (by omega) (by omega)
          have u2 : IntKind.i64.wrap (0 - (x + 1)) = (kn : Int) := by rw [wrap64 (by omega) (by omega), ekn, if_pos q4]; omega
          have u2' : IntKind.i64.wrap (-(x + 1)) = (kn : Int) := by rw [← u2]; congr 1; omega
          have u2'' : IntKind.i64.wrap (-1 + -x) = (kn : Int) := by rw [← u2]; congr 1; omega
          repeat(first|with_reducible first|refine vmR ?_|refine vmV rfl ?_|refine vmW rfl ?_|refine vmL ?_|refine blockW_y (by decide) ?_|((with_reducible first|apply vmO|apply vmT|apply vmC);case a=>simp [q3, t1, t4, kvl, kvn, nz, nz', hmod, ixk, q4, u1, u2, u2', u2''];with_reducible first|exact .v|exact .c|exact .t|exact .f))
          exact ⟨rfl, _, rfl, by simp [t0], by simp [t1], by simp [t22], by simp [t23], by simp [t24], by simp [t4], by simp, by simp, by simp, by simp⟩
        · have u2 : x = (kn : Int) := by rw [ekn, if_neg q4]; omega
          repeat(first|with_reducible first|refine vmR ?_|refine vmV rfl ?_|refine vmW rfl ?_|refine vmL ?_|refine blockW_y (by decide) ?_|((with_reducible first|apply vmO|apply vmT|apply vmC);case a=>simp [q3, t1, t4, kvl, kvn, nz, nz', hmod, ixk, q4];with_reducible first|exact .v|exact .c|exact .t|exact .f))
          exact ⟨rfl, _, rfl, by simp [t0], by simp [t1], by simp [t22], by simp [t23], by simp [t24], by simp [t4], by simp, by simp, by simp, by simp [u2]⟩
      clear t0 t1 t22 t23 t24 t4
      rintro e s ⟨rfl, t, rfl, t0, t1, t22, t23, t24, t4, t6, t7, t8, t9⟩
      obtain ⟨loose1, hl1⟩ : ∃ x, x = loose + 1 := ⟨_, rfl⟩
      have wl1 : IntKind.i64.wrap ((loose : Int) + 1) = (loose1 : Int) := by rw [wrap64 (by omega) (by omega)]; omega
      have nz : ¬ ((loose1 : Int) = 0) := by omega
      have nz2 : ¬ (loose1 = 0) := by omega
      obtain ⟨md, hmd⟩ : ∃ x, x = kn % loose1 := ⟨_, rfl⟩
      have hmod : Int.tmod (kn : Int) (loose1 : Int) = (md : Int) := by rw [Int.tmod_eq_emod_of_nonneg (by omega), hmd]; simp
      have mdl : md < loose1 := by rw [hmd]; exact Nat.mod_lt _ (by omega)
      obtain ⟨nn, hnn⟩ : ∃ x, x = a.2 + md := ⟨_, rfl⟩
      have wn : IntKind.i64.wrap ((a.2 : Int) + (md : Int)) = (nn : Int) := by rw [wrap64 (by omega) (by omega)]; omega
      obtain ⟨cv, hc1, hc2⟩ := k1.cut3 (b := nn) Tryz.underlying58 z5 (by rw [List.length_map]; omega)
      rw [← List.map_take] at hc2
      have cc := hc2.cells
      have ci := hc2.isCell
      obtain ⟨es2, hes2, hup⟩ := upd_ans (m := m) (clk := D1.clk) (k := kk) (a := ((a.1.take nn, nn) : FV)) (v := .agg [cv, .int .i64 (nn : Nat)]) Tryz.underlying44 Tryz.underlying9 hes ⟨cv, hc2, rfl⟩
      have eD : upStep keep (D1, i1) kk = (D1.put kk (a.1.take nn, nn), i1 + 1) := by
        simp only [upStep, ha, if_pos q2]
        rw [hkn, show a.1.length - a.2 + 1 = loose1 by omega, ← hmd, ← hnn]
      obtain ⟨i2, hi2⟩ : ∃ x, x = i1 + 1 := ⟨_, rfl⟩
      have wi2 : IntKind.i64.wrap ((i1 : Int) + 1) = (i2 : Int) := by rw [wrap64 (by omega) (by omega)]; omega
      repeat(first|with_reducible first|refine vmR ?_|refine vmV rfl ?_|refine vmW rfl ?_|refine vmL ?_|refine blockW_y (by decide) ?_|((with_reducible first|apply vmO|apply vmT|apply vmC);case a=>simp;with_reducible first|exact .v|exact .c|exact .t|exact .f))
      (with_reducible refine W_draw_id (pln := true) [0, 1, 2, 3, 4, 5, 6, 7] [(1, (1, []))] (by kernel_rfl) rfl ?_)
      repeat(first|with_reducible first|refine vmR ?_|refine vmV rfl ?_|refine vmW rfl ?_|refine vmL ?_|refine blockW_y (by decide) ?_|((with_reducible first|apply vmO|apply vmT|apply vmC);case a=>simp [t7, t8, t9, hfX, wl1, nz, nz2, hmod, wn];with_reducible first|exact .v|exact .c|exact .t|exact .f))
      refine ⟨by simp [readSame, beqAV_self, t7, t8, t9, hfX]; done, _, by simp; first | done | rfl, ?_⟩
      repeat(first|with_reducible first|refine vmR ?_|refine vmV rfl ?_|refine vmW rfl ?_|refine vmL ?_|refine blockW_y (by decide) ?_|((with_reducible first|apply vmO|apply vmT|apply vmC);case a=>simp;with_reducible first|exact .v|exact .c|exact .t|exact .f))
      (with_reducible refine W_draw_id (pln := true) [0, 1, 2, 3, 4, 5, 6, 7, 8, 9, 10, 11, 12] [(3, (3, [])), (6, (6, []))] (by kernel_rfl) rfl ?_)
      repeat(first|with_reducible first|refine vmR ?_|refine vmV rfl ?_|refine vmW rfl ?_|refine vmL ?_|refine blockW_y (by decide) ?_|((with_reducible first|apply vmO|apply vmT|apply vmC);case a=>simp [t0, t6, t7, hrX, hmX, hfX, c1, i1', hc1, cc, ci, hup];with_reducible first|exact .v|exact .c|exact .t|exact .f))
      refine ⟨by simp [readSame, beqAV_self, t0, t6, t7, hrX, hmX, hfX]; done, _, by simp; first | done | rfl, ?_⟩
      repeat(first|with_reducible first|refine vmR ?_|refine vmV rfl ?_|refine vmW rfl ?_|refine vmL ?_|refine blockW_y (by decide) ?_|((with_reducible first|apply vmO|apply vmT|apply vmC);case a=>simp [t4, t24, wi2, wj];with_reducible first|exact .v|exact .c|exact .t|exact .f))
      refine ⟨l.length - jp, by omega, _, _, jp, rfl, rfl, by omega, ?_, ?_, by simp [t0], by simp [t1], by simp [t22], by simp [t23], by simp, ?_, ?_⟩
      · rw [estep]; exact upStep_ok dok
      · rw [estep]; have := @upStep_i keep (D1, i1) kk; simp only at this; omega
      · rw [estep, eD, ← hi2]; simp
      · rw [estep, eD]
        have hx0 : ∀ S : Nat → Prop, S m → HX S (fun _ => False) h { hX.drew.drew with obj := Mp.set hX.drew.drew.obj m (.mp es2 (clkF kk D1.clk D1.fs)) } := fun S hS => ((((eX.x S (fun _ => False))).drew).drew).set (o := m) (fun _ => hS) _
        exact ⟨d1.put kk _ hes2 (by simp) (hx0 _ rfl), dx.trans (hx0 _ (.inr rfl))⟩
end Go.Vn

set_option maxRecDepth 20000
namespace Go.Vn
open Go.Proofs

def lenF (o : Option FV) : Nat := match o with | none => 0 | some a => a.1.length
theorem used_setF (k : Tx) (a : FV) (clk : Nat) (fs : Ents FV) : used (setF k a clk fs) + lenF (lookF k fs) = used fs + a.1.length := by
  induction fs with
  | nil => simp [setF, used, lookF, lenF]
  | cons f fs ih =>
    simp only [setF, lookF]
    split
    · simp only [used, List.map_cons, List.sum_cons, lenF] at ih ⊢; omega
    · simp only [used, List.map_cons, List.sum_cons] at ih ⊢; omega
theorem used_delF (k : Tx) (fs : Ents FV) : used (delF k fs) + lenF (lookF k fs) = used fs := by
  induction fs with
  | nil => simp [delF, used, lookF, lenF]
  | cons f fs ih =>
    simp only [delF, lookF]
    split
    · simp only [used, List.map_cons, List.sum_cons, lenF]; omega
    · simp only [used, List.map_cons, List.sum_cons] at ih ⊢; omega
theorem len_setF (k : Tx) (a : FV) (clk : Nat) (fs : Ents FV) : (setF k a clk fs).length = fs.length + if (lookF k fs).isSome then 0 else 1 := by
  have := congrArg List.length (setF_births (k := k) (a := a) (clk := clk) fs)
  rw [List.length_map] at this
  rw [this]
  split
  · rw [List.length_map]; omega
  · rw [List.length_append, List.length_map]; simp
theorem len_delF (k : Tx) (fs : Ents FV) : (delF k fs).length ≤ fs.length := (delF_sub k fs).length_le
theorem lookF_mem {k : Tx} {fs : Ents FV} {a : FV} (h : lookF k fs = some a) : ∃ f ∈ fs, f.1 = k ∧ f.2.1 = a := by
  induction fs with
  | nil => cases h
  | cons f fs ih =>
    simp only [lookF] at h
    split at h
    · rename_i e; cases h; exact ⟨f, by simp, e, rfl⟩
    · obtain ⟨g, g1, g2⟩ := ih h; exact ⟨g, List.mem_cons_of_mem _ g1, g2⟩

structure Dk.wf (D : Dk) : Prop where
  fok : ∀ f ∈ D.fs, f.2.1.2 ≤ f.2.1.1.length
  used : used D.fs ≤ 16777216
  many : D.fs.length ≤ 400
  left : -1 ≤ D.left ∧ D.left ≤ 9223372036854775807
  quota : 0 ≤ D.quota ∧ D.quota ≤ 16777216
theorem Dk.wf.ok {D : Dk} (h : D.wf) : D.ok := fun k a ha => by
  obtain ⟨f, f1, f2, rfl⟩ := lookF_mem ha
  have := lookF_used ha
  exact ⟨h.fok f f1, by have := h.used; omega⟩

theorem fok_setF {k : Tx} {a : FV} {clk : Nat} {fs : Ents FV} (h : ∀ f ∈ fs, f.2.1.2 ≤ f.2.1.1.length) (ha : a.2 ≤ a.1.length) : ∀ f ∈ setF k a clk fs, f.2.1.2 ≤ f.2.1.1.length := fun f hf => by
  rcases setF_mem hf with h1 | ⟨_, h1, _⟩
  · exact h f h1
  · rw [h1]; exact ha
theorem wf_put {D : Dk} (h : D.wf) (k : Tx) (a : FV) (ha : a.2 ≤ a.1.length) (hu : used D.fs + a.1.length ≤ 16777216 + lenF (lookF k D.fs)) (hn : (lookF k D.fs).isSome = true ∨ D.fs.length < 400) : (D.put k a).wf := by
  have hm := h.many
  refine ⟨fok_setF h.fok ha, ?_, ?_, h.left, h.quota⟩
  · have := used_setF k a D.clk D.fs; show Vn.used (setF k a D.clk D.fs) ≤ _; omega
  · show (setF k a D.clk D.fs).length ≤ 400
    rw [len_setF]
    split <;> rename_i q
    · omega
    · rcases hn with hn | hn
      · exact (q hn).elim
      · omega
theorem wf_del {D : Dk} (h : D.wf) (k : Tx) : (D.del k).wf :=
  ⟨fun f hf => h.fok f ((delF_sub k D.fs).subset hf), by have := used_delF k D.fs; have := h.used; show Vn.used (delF k D.fs) ≤ _; omega, by have := len_delF k D.fs; have := h.many; show (delF k D.fs).length ≤ _; omega, h.left, h.quota⟩
theorem wf_tick {D : Dk} (h : D.wf) : D.tick.wf := ⟨h.fok, h.used, h.many, by have := h.left; unfold Dk.tick; simp only; split <;> omega, h.quota⟩
theorem wf_cut {D : Dk} (h : D.wf) : D.cut.wf := ⟨h.fok, h.used, h.many, by unfold Dk.cut; simp, h.quota⟩
theorem wf_deed {D : Dk} (h : D.wf) (e : Int) (does torn : Dk → Dk) (h1 : e = 0 → (does D.tick).wf) (h2 : e = 0 → (torn D.cut).wf) : (D.deed e does torn).2.wf := by
  unfold Dk.deed
  split
  · exact h
  · split
    · exact h
    · rename_i q; have q : e = 0 := by omega
      split
      · exact h2 q
      · exact h1 q

def Dk.create (D : Dk) (k : Tx) : Int × Dk := D.deed (if namedP k then (if has k D then 9 else if 400 ≤ D.fs.length then 6 else 0) else 1) (fun D => D.put k ([], 0)) id
theorem wf_create {D : Dk} (h : D.wf) (k : Tx) : (D.create k).2.wf := by
  refine wf_deed h _ _ _ (fun e => ?_) (fun e => wf_cut h)
  have hh := wf_tick h
  have hn : D.fs.length < 400 := by
    split at e
    · split at e
      · cases e
      · split at e
        · cases e
        · omega
    · cases e
  exact wf_put hh k _ (by simp) (by have := hh.used; simp; omega) (.inr hn)
def Dk.append (D : Dk) (k b : Tx) : Int × Dk := D.deed (appE k b D) (Dk.app b k) (Dk.app b k)
theorem appE_ok {k b : Tx} {D : Dk} (e : appE k b D = 0) : has k D = true ∧ (b.length : Int) ≤ D.quota - used D.fs := by
  unfold appE at e
  split at e
  · rename_i q
    split at e
    · cases e
    · exact ⟨q, by omega⟩
  · cases e
theorem wf_app {D : Dk} (h : D.wf) (k b : Tx) (hq : (b.length : Int) ≤ D.quota - used D.fs) : (D.app b k).wf := by
  unfold Dk.app
  cases ha : lookF k D.fs with
  | none => exact h
  | some a =>
    obtain ⟨f, f1, f2, f3⟩ := lookF_mem ha
    have := h.fok f f1
    have h3 := h.quota
    rw [f3] at this
    refine wf_put h k _ (by simp only [List.length_append]; omega) ?_ (.inl (by rw [ha]; rfl))
    rw [ha]; simp only [lenF, List.length_append]; omega
theorem wf_append {D : Dk} (h : D.wf) (k b : Tx) : (D.append k b).2.wf :=
  wf_deed h _ _ _ (fun e => wf_app (wf_tick h) k b (appE_ok e).2) (fun e => wf_app (wf_cut h) k b (appE_ok e).2)
def Dk.sync (D : Dk) (k : Tx) : Int × Dk := D.deed (if has k D then 0 else 8) (Dk.syn k) id
theorem wf_syn {D : Dk} (h : D.wf) (k : Tx) : (D.syn k).wf := by
  unfold Dk.syn
  cases ha : lookF k D.fs with
  | none => exact h
  | some a =>
    have := h.used
    exact wf_put h k _ (by simp) (by rw [ha]; simp only [lenF]; omega) (.inl (by rw [ha]; rfl))
theorem wf_sync {D : Dk} (h : D.wf) (k : Tx) : (D.sync k).2.wf := wf_deed h _ _ _ (fun _ => wf_syn (wf_tick h) k) (fun _ => wf_cut h)
def Dk.remove (D : Dk) (k : Tx) : Int × Dk := D.deed (if has k D then 0 else 8) (fun D => D.del k) id
theorem wf_remove {D : Dk} (h : D.wf) (k : Tx) : (D.remove k).2.wf := wf_deed h _ _ _ (fun _ => wf_del (wf_tick h) k) (fun _ => wf_cut h)
def Dk.rename (D : Dk) (k k2 : Tx) : Int × Dk := D.deed (if has k D then (if namedP k2 then 0 else 1) else 8) (fun D => D.ren k k2) id
theorem delF_len {k : Tx} {fs : Ents FV} {a : FV} (h : lookF k fs = some a) : (delF k fs).length + 1 = fs.length := by
  induction fs with
  | nil => cases h
  | cons f fs ih =>
    simp only [lookF] at h
    simp only [delF]
    split at h
    · rename_i q; rw [if_pos q]; rfl
    · rename_i q; rw [if_neg q, List.length_cons, ih h, List.length_cons]
theorem wf_ren {D : Dk} (h : D.wf) (k k2 : Tx) : (D.ren k k2).wf := by
  unfold Dk.ren
  split
  · exact h
  · rename_i a ha
    obtain ⟨f, f1, f2, f3⟩ := lookF_mem ha
    have h1 := h.fok f f1
    rw [f3] at h1
    have h2 := used_delF k D.fs
    rw [ha] at h2
    simp only [lenF] at h2
    have h3 := h.used
    have h4 := delF_len ha
    have h5 := h.many
    refine wf_put (wf_del h k) k2 a h1 ?_ (.inr ?_)
    · show used (delF k D.fs) + a.1.length ≤ _; omega
    · show (delF k D.fs).length < 400; omega
theorem wf_rename {D : Dk} (h : D.wf) (k k2 : Tx) : (D.rename k k2).2.wf := wf_deed h _ _ _ (fun _ => wf_ren (wf_tick h) k k2) (fun _ => wf_cut h)
def Dk.arm (D : Dk) (n : Int) : Dk := { D with left := if n < -1 then -1 else n }
def Dk.setQuota (D : Dk) (q : Int) : Dk := if D.down ∨ q < 0 ∨ 16777216 < q then D else { D with quota := q }
theorem wf_new (q : Int) (hq : 0 ≤ q ∧ q ≤ 16777216) : ({ fs := [], clk := 0, quota := q, left := -1, down := false } : Dk).wf :=
  ⟨(fun _ h => by cases h), by simp [Vn.used], by simp, by simp, hq⟩
end Go.Vn

set_option maxRecDepth 20000
namespace Go.Vn
open Go.Proofs

theorem u8B : isU8 Tryz.prog 5 = true := by kernel_rfl
theorem asBytes2 (cs : List UInt8) : cs.mapM (asByte ∘ byteAV) = some cs := by
  induction cs with
  | nil => rfl
  | cons c cs ih =>
    rw [List.mapM_cons, ih]
    simp [byteAV, asByte]
theorem conv_txt (h : Hp Fm) {cs : List UInt8} {v : AV} (hv : SV 1 (cs.map byteAV) v) : convAV Tryz.prog h 58 9 v = some (.str cs, h) := by
  rcases hv with ⟨rfl, e⟩ | ⟨g, off, cp, rfl⟩ | ⟨c, rfl, e⟩
  · have : cs = [] := by simpa using e
    subst this
    simp [convAV, Tryz.underlying58, Tryz.underlying9, u8B]
  · simp [convAV, Tryz.underlying58, Tryz.underlying9, u8B, asBytes2]
  · have : cs = [] := by simpa using e
    subst this
    simp [convAV, Tryz.underlying58, Tryz.underlying9, u8B]
theorem conv_b (h : Hp Fm) (s : List UInt8) (hs : s.length ≤ 100000) : convAV Tryz.prog h 9 58 (.str s) = some (.sl h.ng 0 1 (h.grown s.length 0 5) (s.map byteAV), { h.drew with len := Mp.set h.len h.ng (s.map byteAV).length, ng := h.ng + 1 }) := by
  have h1 : s.length ≤ 2 ^ 40 := by omega
  unfold convAV
  simp [Tryz.underlying58, Tryz.underlying9, u8B, h1, newSl, Hp.drew]
theorem createW (k : Tx) (hk : k.length ≤ 1000000) (p m : Nat) (D : Dk) (w : D.wf) (h0 : Hp Fm) (d : DKs h0 p m D) :
    A Tryz.prog TT (.func 23) [.ptr p 0, .str k] h0 (fun r h' => r = .int .i64 (D.create k).1 ∧ DKs h' p m (D.create k).2 ∧ DX p m h0 h') :=
  create_ans k hk p m D h0 d w.left (by have := w.many; omega)
theorem appendW (k b : Tx) (v : AV) (hb : b.length ≤ 16777216) (p m : Nat) (D : Dk) (w : D.wf) (h0 : Hp Fm) (d : DKs h0 p m D) (kb : BV h0 v b) (kv : ∀ q, isRow v q → ¬ (q = p ∨ q = m)) (hp : h0.pol 58 = false) :
    A Tryz.prog TT (.func 25) [.ptr p 0, .str k, v] h0 (fun r h' => r = .int .i64 (D.append k b).1 ∧ DKs h' p m (D.append k b).2 ∧ DX p m h0 h') :=
  append_ans k b v hb p m D h0 d w.left w.quota w.used kb kv hp
theorem syncW (k : Tx) (p m : Nat) (D : Dk) (w : D.wf) (h0 : Hp Fm) (d : DKs h0 p m D) :
    A Tryz.prog TT (.func 27) [.ptr p 0, .str k] h0 (fun r h' => r = .int .i64 (D.sync k).1 ∧ DKs h' p m (D.sync k).2 ∧ DX p m h0 h') :=
  sync_ans k p m D h0 d w.left w.used
theorem readW (k : Tx) (at_ n : Int) (p m : Nat) (D : Dk) (w : D.wf) (h0 : Hp Fm) (d : DKs h0 p m D) :
    A Tryz.prog TT (.func 38) [.ptr p 0, .str k, .int .i64 at_, .int .i64 n] h0 (fun r h' => ∃ bv, r = .tup [bv, .int .i64 (readR k at_ n D).2] ∧ NB (h0.pol 5) h0.no h' (readR k at_ n D).1 bv ∧ HE h0 h') :=
  read_ans k at_ n p m D h0 d w.used
theorem HE.dx {h h' : Hp Fm} (k : HE h h') (p m : Nat) : DX p m h h' := k.x _ _

end Go.Vn
