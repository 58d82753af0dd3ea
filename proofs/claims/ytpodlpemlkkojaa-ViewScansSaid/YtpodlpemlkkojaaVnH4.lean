/- What functions of the program come to, in the value machine (a part of the proof of the claim's statement). No condition. -/
import Derived.Test.YtpodlpemlkkojaaVnH3
set_option linter.unusedSimpArgs false
set_option linter.unusedVariables false
set_option maxRecDepth 20000
namespace Go.Vn
open Go.Proofs

set_option maxHeartbeats 1000000 in
theorem keys1_ans (bx m y clk : Nat) (es : List (AV × AV × Nat)) (hlt : ∀ e ∈ es, e.2.2 < clk) (hnd : (es.map (·.2.2)).Nodup) (hkc : ∀ e ∈ es, e.1.cells = [e.1] ∧ e.1.isCell = true) (h0 : Hp Fm) (hb : Mp.get h0.obj bx = some (.row [.mp m])) (hm : Mp.get h0.obj m = some (.mp es clk)) (bn : bx < h0.no) (mn : m < h0.no)
    (Iv : List (AV × AV × Nat) → Hp Fm → Prop)
    (st : ∀ done h h', Iv done h → HX (fun q => q = h0.no) (fun _ => False) h h' → Iv done h')
    (i0 : ∀ h, HE h0 h → h.no = h0.no + 1 → Iv [] h)
    (rd : ∀ done e h, Iv done h → e ∈ es → (∀ d ∈ done, d ∈ es) → ((done ++ [e]).map (·.2.2)).Nodup → h0.no < h.no → A Try.prog TT (.yield y) [e.1] h (fun r h' => r = .bool true ∧ Iv (done ++ [e]) h' ∧ HX (fun q => q ≠ bx ∧ q ≠ m ∧ q ≠ h0.no) (fun _ => True) h h')) :
    A Try.prog TT (.func 59) [.yl y, .ptr bx 0] h0 (fun _ h' => ∃ done, done.Perm es ∧ Iv done h' ∧ h0.no < h'.no) := by
  have nm : h0.no ≠ m := by omega
  have nb : h0.no ≠ bx := by omega
  apply A_go Try.func59 rfl (by rfl); (case hn => (simp [Try.ntmps59]; rfl))
  repeat(first|with_reducible first|refine vmR ?_|refine vmV rfl ?_|refine vmW rfl ?_|refine vmL ?_|refine blockW_y (by decide) ?_|((with_reducible first|apply vmO|apply vmT|apply vmC);case a=>simp [hb, hm, rangeAV];with_reducible first|exact .v|exact .c|exact .t|exact .f))
  obtain ⟨ha, hha⟩ : ∃ ha : Hp Fm, ha = { h0 with obj := Mp.set h0.obj h0.no (.iter (some m) clk [] clk), no := h0.no + 1 } := ⟨_, rfl⟩
  have e0 : HE h0 ha := by rw [hha]; exact (HE.refl h0).new _
  have gi : Mp.get ha.obj h0.no = some (.iter (some m) clk (([] : List (AV × AV × Nat)).map (·.2.2)) clk) := by rw [hha]; simp
  have gn : h0.no < ha.no := by rw [hha]; simp
  have ia := i0 ha e0 (by rw [hha])
  have gm : Mp.get ha.obj m = some (.mp es clk) := (e0.obj m mn).trans hm
  rw [← hha]
  refine W_loop (fun mm st => ∃ (t : Fm AV) (h : Hp Fm) (done : List (AV × AV × Nat)), st = ⟨t, 14, h, none⟩ ∧ mm = es.length - done.length ∧ (∀ e ∈ done, e ∈ es) ∧ (done.map (·.2.2)).Nodup ∧ Mp.get h.obj h0.no = some (.iter (some m) clk (done.map (·.2.2)) clk) ∧ Mp.get h.obj m = some (.mp es clk) ∧ tget t 0 = .yl y ∧ tget t 5 = .ptr h0.no 0 ∧ Iv done h ∧ h0.no < h.no) es.length
      ⟨_, _, [], rfl, by simp, by simp, by simp, gi, gm, by simp, by simp, ia, gn⟩ ?_
  rintro _ _ ⟨t, h, done, rfl, rfl, hd, hdn, hi, hmh, ht0, ht5, he, hno⟩
  repeat(first|with_reducible first|refine vmR ?_|refine vmV rfl ?_|refine vmW rfl ?_|refine vmL ?_|refine blockW_y (by decide) ?_|((with_reducible first|apply vmO|apply vmT|apply vmC);case a=>simp;with_reducible first|exact .v|exact .c|exact .t|exact .f))
  with_reducible refine WO_next_i done ?_ rfl ?_ hi hmh hlt hnd hd hdn ?_ ?_
  · simp
  · simp [ht5]
  · intro h1 k1 hp
    refine ⟨_, by simp; first | done | rfl, ?_⟩
    repeat(first|with_reducible first|refine vmR ?_|refine vmV rfl ?_|refine vmW rfl ?_|refine vmL ?_|refine blockW_y (by decide) ?_|((with_reducible first|apply vmO|apply vmT|apply vmC);case a=>simp;with_reducible first|exact .v|exact .c|exact .t|exact .f))
    (first | apply endW_r | apply endW_n); (case h1 => (simp [Try.results59]; first | done | rfl))
    exact ⟨done, hp, st _ _ _ he (k1.he.x _ _), Nat.lt_of_lt_of_le hno k1.he.no⟩
  · intro h1 e hin hnot k1 hno1 hit
    replace hno1 : h1.no = h.no := hno1
    replace k1 : HX (fun q => q = h0.no) (fun _ => False) h h1 := k1
    have hm1 : Mp.get h1.obj m = some (.mp es clk) := (k1.obj m (by omega) (Ne.symm nm)).trans hmh
    have hen := entry_some (done := done) (h := h1) (es := es) hit hm1 hnd hin
    have hdn' : ((done ++ [e]).map (·.2.2)).Nodup := by
      rw [List.map_append, List.nodup_append]
      refine ⟨hdn, by simp, fun a ha b hb => ?_⟩
      simp only [List.map_cons, List.map_nil, List.mem_singleton] at hb
      subst hb; intro q; exact hnot (q ▸ ha)
    have hd' : ∀ x ∈ done ++ [e], x ∈ es := fun x hx => by
      rcases List.mem_append.mp hx with q | q
      · exact hd x q
      · rw [List.mem_singleton.mp q]; exact hin
    have hln := len_sub (done ++ [e]) es (nodup_of_map _ hdn') hd'
    rw [List.length_append, List.length_singleton] at hln
    obtain ⟨kc1, kc2⟩ := hkc e hin
    have rd' := rd done e h1 (st _ _ _ he k1) hin hd hdn' (by omega)
    obtain ⟨ek, ev, est⟩ := e
    simp only at kc1 kc2
    refine ⟨_, by simp; first | done | rfl, ?_⟩
    repeat(first|with_reducible first|refine vmR ?_|refine vmV rfl ?_|refine vmW rfl ?_|refine vmL ?_|refine blockW_y (by decide) ?_|((with_reducible first|apply vmO|apply vmT|apply vmC);case a=>simp [ht0, ht5, hen, kc1, kc2];with_reducible first|exact .v|exact .c|exact .t|exact .f))
    refine A.mono rd' ?_
    rintro _ h2 ⟨rfl, iv2, x2⟩
    refine ⟨_, by simp; first | done | rfl, ?_⟩
    repeat(first|with_reducible first|refine vmR ?_|refine vmV rfl ?_|refine vmW rfl ?_|refine vmL ?_|refine blockW_y (by decide) ?_|((with_reducible first|apply vmO|apply vmT|apply vmC);case a=>simp;with_reducible first|exact .v|exact .c|exact .t|exact .f))
    have hno2 := x2.no
    refine ⟨es.length - (done ++ [(ek, ev, est)]).length, by simp; omega, _, _, done ++ [(ek, ev, est)], rfl, rfl, hd', hdn', ?_, ?_, by simp [ht0], by simp [ht5], iv2, by omega⟩
    · exact (x2.obj _ (by omega) (fun z => z.2.2 rfl)).trans hit
    · exact (x2.obj _ (by omega) (fun z => z.2.1 rfl)).trans hm1

structure Got (hs h : Hp Fm) (b y : Nat) (lr : ALoop Fm) (done : List (AV × AV × Nat)) : Prop where
  bx : ∃ w, Mp.get h.obj b = some (.row [w]) ∧ RS (y + 2) h 1 false (done.map (·.1)) w
  he : HE hs h
  lp : Mp.get h.obj y = some (.loop lr)
  yn : y < h.no
  pol : h.pol 9 = true

theorem etS : ElT Try.prog 74 9 1 16 false (.str []) := ⟨Try.underlying74, z9, b9, a9, t9, rfl, rfl, fun _ => rfl, by omega, by omega⟩

set_option maxHeartbeats 1000000 in
theorem appseq_ans (bx m clk : Nat) (es : List (AV × AV × Nat)) (hlt : ∀ e ∈ es, e.2.2 < clk) (hnd : (es.map (·.2.2)).Nodup) (ks : AV × AV × Nat → List UInt8) (hkc : ∀ e ∈ es, e.1 = .str (ks e)) (hlen : es.length ≤ 60000) (h0 : Hp Fm) (hp : h0.pol 9 = true) (hb : Mp.get h0.obj bx = some (.row [.mp m])) (hm : Mp.get h0.obj m = some (.mp es clk)) (bn : bx < h0.no) (mn : m < h0.no) :
    A Try.prog TT (.func 67) [.nils, .fn (.func 59) [] [.ptr bx 0]] h0 (fun r h' => ∃ done : List (AV × AV × Nat), done.Perm es ∧ RS h0.no h' 1 false (done.map (·.1)) r ∧ HE h0 h') := by
  apply A_go Try.func67 rfl (by rfl); (case hn => (simp [Try.ntmps67]; rfl))
  repeat(first|with_reducible first|refine vmR ?_|refine vmV rfl ?_|refine vmW rfl ?_|refine vmL ?_|refine blockW_y (by decide) ?_|((with_reducible first|apply vmO|apply vmT|apply vmC);case a=>simp;with_reducible first|exact .v|exact .c|exact .t|exact .f))
  obtain ⟨y, hy⟩ : ∃ y, y = h0.no + 1 := ⟨_, rfl⟩
  refine W_range_i rfl (by simp [rangeE, laidF]; exact ⟨rfl, rfl, rfl⟩) ?_
  refine with_loop (h0.no + 1) _ (by simp; first | done | rfl) ?_
  intro lr hlr hget
  rw [← hlr]
  clear hget
  obtain ⟨hs, hhs⟩ : ∃ hs : Hp Fm, hs = { h0 with obj := Mp.set (Mp.set h0.obj h0.no (.row [.nils])) (h0.no + 1) (.loop lr), no := h0.no + 1 + 1 } := ⟨_, rfl⟩
  have es0 : HE h0 hs := by rw [hhs]; exact ((HE.refl h0).new _).new _
  have hbs : Mp.get hs.obj bx = some (.row [.mp m]) := (es0.obj bx bn).trans hb
  have hms : Mp.get hs.obj m = some (.mp es clk) := (es0.obj m mn).trans hm
  have sn : hs.no = y + 1 := by rw [hhs, hy]
  have sb : Mp.get hs.obj h0.no = some (.row [.nils]) := by rw [hhs]; simp
  have sy : Mp.get hs.obj y = some (.loop lr) := by rw [hhs, hy]; simp
  have sp : hs.pol 9 = true := by rw [hhs]; exact hp
  rw [← hhs, ← hy]
  refine A.mono (keys1_ans bx m y clk es hlt hnd (fun e he => by rw [hkc e he]; exact ⟨rfl, rfl⟩) hs hbs hms (Nat.lt_of_lt_of_le bn es0.no) (Nat.lt_of_lt_of_le mn es0.no) (fun done h => Got h0 h h0.no y lr done) ?_ ?_ ?_) ?_
  · rintro done h h' ⟨⟨w, w1, w2⟩, he, lp, yn, pl⟩ hx
    refine ⟨⟨w, (hx.obj _ (by omega) (by omega)).trans w1, w2.of hx (fun q hq e => by have := w2.rows q hq; omega)⟩, he.x2 hx (fun q e => by omega) (fun _ z => z.elim), (hx.obj _ yn (by omega)).trans lp, Nat.lt_of_lt_of_le yn hx.no, by rw [hx.pol]; exact pl⟩
  · intro h he hn
    exact ⟨⟨.nils, (he.obj _ (by omega)).trans sb, .inl ⟨rfl, rfl⟩⟩, es0.trans he, (he.obj _ (by omega)).trans sy, by omega, by rw [he.pol]; exact sp⟩
  · rintro done e h ⟨⟨w, w1, w2⟩, he, lp, yn, pl⟩ hin hd hdn hno
    have lp' := lp
    rw [hlr] at lp'
    have ek := hkc e hin
    rw [ek]
    have nby : h0.no ≠ y := by omega
    have nyn : h.no ≠ y := by omega
    have nbn : h0.no ≠ h.no := by omega
    have nbn' : h.no ≠ h0.no := by omega
    have nyb : y ≠ h0.no := by omega
    have nyn' : y ≠ h.no := by omega
    refine A_round lp' (by simp) ?_
    repeat(first|with_reducible first|refine vmR ?_|refine vmV rfl ?_|refine vmW rfl ?_|refine vmL ?_|refine blockW_y (by decide) ?_|((with_reducible first|apply vmO|apply vmT|apply vmC);case a=>simp [roundT];with_reducible first|exact .v|exact .c|exact .t|exact .f))
    refine ⟨rfl, _, by simp [beginR, lp']; first | done | rfl, ?_⟩
    repeat(first|with_reducible first|refine vmR ?_|refine vmV rfl ?_|refine vmW rfl ?_|refine vmL ?_|refine blockW_y (by decide) ?_|((with_reducible first|apply vmO|apply vmT|apply vmC);case a=>simp [roundT, w1, nby, nyn, nbn, nbn', nyb, nyn', newSeq, newRs, pl];with_reducible first|exact .v|exact .c|exact .t|exact .f))
    obtain ⟨lb, hlb⟩ : ∃ lb : ALoop Fm, lb = { lr with state := .busy } := ⟨_, rfl⟩
    have hlb' := hlb
    rw [hlr] at hlb'
    simp only at hlb'
    rw [← hlb']
    obtain ⟨hB, hhB⟩ : ∃ hB : Hp Fm, hB = { h with obj := Mp.set (Mp.set h.obj y (.loop lb)) h.no (.row [.str (ks e)]), no := h.no + 1 } := ⟨_, rfl⟩
    have xB : HX (fun q => q = y) (fun _ => False) h hB := by rw [hhB]; exact ((HX.refl (fun q => q = y) (fun _ => False) h).set (fun _ => rfl) _).new _
    have eB : HE h0 hB := he.x2 xB (fun q e => by omega) (fun _ z => z.elim)
    have wB := w2.of xB (fun q hq e => by have := w2.rows q hq; omega)
    have nB : Vn.newEls hB 1 false (.rs h.no 0 1 false 1 1) = some [.str (ks e)] := by
      simp [newEls, rsEls, hhB, chunkAV]
    have lB : Mp.get hB.obj y = some (.loop lb) := by rw [hhB]; simp [nyn']
    have bB : Mp.get hB.obj h0.no = some (.row [w]) := by rw [hhB]; simp [nbn, nby, w1]
    have pB : hB.pol 9 = true := by rw [hhB]; exact pl
    have hBn : hB.no = h.no + 1 := by rw [hhB]
    rw [← hhB]
    have hln := len_sub (done ++ [e]) es (nodup_of_map _ hdn) (fun x hx => by
      rcases List.mem_append.mp hx with q | q
      · exact hd x q
      · rw [List.mem_singleton.mp q]; exact hin)
    rw [List.length_append, List.length_singleton] at hln
    have fitD : ∀ x ∈ done.map (·.1), Fit false 1 x := fun x hx => by
      obtain ⟨d, hd1, rfl⟩ := List.mem_map.mp hx
      rw [hkc d (hd d hd1)]; exact .inr ⟨rfl, rfl, rfl, rfl⟩
    have hy2 : y + 2 ≤ hB.no := by omega
    with_reducible apply WO_app_i; (case hw => (simp; done)); (case ho => rfl); (case hb => rfl); (case ha => (simp; first | done | exact ⟨rfl, rfl⟩ | rfl)); (case h1 => (simp; first | done | rfl)); (case h2 => (simp; first | done | rfl))
    refine app_then (RS.appN etS wB hy2 pB nB fitD (fun x hx => by rw [List.mem_singleton.mp hx]; exact .inr ⟨rfl, rfl, rfl, rfl⟩) (by simp; omega)) ?_
    rintro u h2 ⟨r2, x2, p2, q2⟩
    replace x2 : HX (isRow w) (fun _ => False) hB h2 := x2
    replace p2 : h2.pol = hB.pol := p2
    have hn2 := x2.no
    have uc := r2.cells
    have ui := r2.isCell
    have b2 : Mp.get h2.obj h0.no = some (.row [w]) := (x2.obj _ (by omega) (fun hq => by have := w2.rows _ hq; omega)).trans bB
    have l2 : Mp.get h2.obj y = some (.loop lb) := (x2.obj _ (by omega) (fun hq => by have := w2.rows _ hq; omega)).trans lB
    refine ⟨_, by simp; first | done | rfl, ?_⟩
    repeat(first|with_reducible first|refine vmR ?_|refine vmV rfl ?_|refine vmW rfl ?_|refine vmL ?_|refine blockW_y (by decide) ?_|((with_reducible first|apply vmO|apply vmT|apply vmC);case a=>simp [uc, ui, b2];with_reducible first|exact .v|exact .c|exact .t|exact .f))
    refine ⟨_, _, by simp [endR, l2, nyb]; rfl, rfl, ?_, ?_⟩
    · have e2 := eB.x2 x2 (fun q hq => by have := w2.rows _ hq; omega) (fun _ z => z.elim)
      refine ⟨⟨u, by simp [nby], ?_⟩, ?_, ?_, ?_, ?_⟩
      · have xz : HX (fun q => q = y ∨ q = h0.no) (fun _ => False) h2 _ := ((HX.refl (fun q => q = y ∨ q = h0.no) (fun _ => False) h2).set (o := h0.no) (fun _ => .inr rfl) (.row [u])).set (o := y) (fun _ => .inl rfl) (.loop { lb with state := .ready, pending := none })
        have := r2.of xz (fun q hq e => by have := r2.rows q hq; omega)
        rw [List.map_append, List.map_cons, List.map_nil, ek]; exact this
      · exact (e2.set (Nat.le_refl _) _).set (by omega) _
      · simp [hlb, hlr]
      · show y < h2.no; have := x2.no; omega
      · show h2.pol 9 = true; rw [p2]; exact pB
    · have hx1 : HX (fun q => q ≠ bx ∧ q ≠ m ∧ q ≠ hs.no) (fun _ => True) h h2 := (xB.mono (fun q _ e => by omega) (fun _ _ _ => trivial)).trans (x2.mono (fun q _ hq => by have := w2.rows _ hq; omega) (fun _ _ _ => trivial))
      exact (hx1.set (fun _ => by omega) _).set (fun _ => by omega) _
  · rintro r h' ⟨done, hp2, ⟨⟨w, w1, w2⟩, he, lp, yn, pl⟩, hno⟩
    have lp' := lp
    rw [hlr] at lp'
    have wc := w2.cells
    have wi := w2.isCell
    refine ⟨_, _, by simp [rangeB, lp', behind]; exact ⟨rfl, rfl⟩, ?_⟩
    repeat(first|with_reducible first|refine vmR ?_|refine vmV rfl ?_|refine vmW rfl ?_|refine vmL ?_|refine blockW_y (by decide) ?_|((with_reducible first|apply vmO|apply vmT|apply vmC);case a=>simp [w1, show h0.no ≠ y by omega];with_reducible first|exact .v|exact .c|exact .t|exact .f))
    (first | apply endW_r | apply endW_n); (case h1 => (simp [Try.results67]; first | done | rfl))
    refine ⟨done, hp2, ?_, he.set (by omega) _⟩
    have xz : HX (fun q => q = y) (fun _ => False) h' _ := ((HX.refl (fun q => q = y) (fun _ => False) h').set (o := y) (fun _ => rfl) (.loop { lr with state := .exhausted }))
    rw [hlr] at xz
    have := w2.of xz (fun q hq e => by have := w2.rows q hq; omega)
    rcases this with k | ⟨o, cap, a1, a2, a3⟩
    · exact .inl k
    · exact .inr ⟨o, cap, a1, by omega, a3⟩
end Go.Vn

set_option maxRecDepth 20000
namespace Go.Vn
open Go.Proofs

theorem sorts_nil (h0 : Hp Fm) : A Try.prog TT (.func 58) [.nils] h0 (fun _ h' => h' = h0) := by
  have ins : ∀ h, A Try.prog TT (.func 75) [.nils, .int .i64 0, .int .i64 0] h (fun _ h' => h' = h) := fun h => by
    apply A_go Try.func75 rfl (by rfl); (case hn => (simp [Try.ntmps75]; rfl))
    repeat(first|with_reducible first|refine vmR ?_|refine vmV rfl ?_|refine vmW rfl ?_|refine vmL ?_|refine blockW_y (by decide) ?_|((with_reducible first|apply vmO|apply vmT|apply vmC);case a=>simp;with_reducible first|exact .v|exact .c|exact .t|exact .f))
    refine W_loop_i ?_
    repeat(first|with_reducible first|refine vmR ?_|refine vmV rfl ?_|refine vmW rfl ?_|refine vmL ?_|refine blockW_y (by decide) ?_|((with_reducible first|apply vmO|apply vmT|apply vmC);case a=>simp;with_reducible first|exact .v|exact .c|exact .t|exact .f))
    (first | apply endW_r | apply endW_n); (case h1 => (simp [Try.results75]; first | done | rfl))
    rfl
  have pd : ∀ (v : Int) (h : Hp Fm), A Try.prog TT (.func 68) [.nils, .int .i64 0, .int .i64 0, .int .i64 v] h (fun _ h' => h' = h) := fun v h => by
    apply A_go Try.func68 rfl (by rfl); (case hn => (simp [Try.ntmps68]; rfl))
    repeat(first|with_reducible first|refine vmR ?_|refine vmV rfl ?_|refine vmW rfl ?_|refine vmL ?_|refine blockW_y (by decide) ?_|((with_reducible first|apply vmO|apply vmT|apply vmC);case a=>simp;with_reducible first|exact .v|exact .c|exact .t|exact .f))
    refine W_loop_i ?_
    repeat(first|with_reducible first|refine vmR ?_|refine vmV rfl ?_|refine vmW rfl ?_|refine vmL ?_|refine blockW_y (by decide) ?_|((with_reducible first|apply vmO|apply vmT|apply vmC);case a=>simp;with_reducible first|exact .v|exact .c|exact .t|exact .f))
    refine A.mono (ins h) ?_
    rintro r _ rfl
    refine ⟨_, by simp; first | done | rfl, ?_⟩
    repeat(first|with_reducible first|refine vmR ?_|refine vmV rfl ?_|refine vmW rfl ?_|refine vmL ?_|refine blockW_y (by decide) ?_|((with_reducible first|apply vmO|apply vmT|apply vmC);case a=>simp;with_reducible first|exact .v|exact .c|exact .t|exact .f))
    (first | apply endW_r | apply endW_n); (case h1 => (simp [Try.results68]; first | done | rfl))
    rfl
  have w1 : IntKind.u64.wrap 0 = 0 := by rfl
  apply A_go Try.func58 rfl (by rfl); (case hn => (simp [Try.ntmps58]; rfl))
  repeat(first|with_reducible first|refine vmR ?_|refine vmV rfl ?_|refine vmW rfl ?_|refine vmL ?_|refine blockW_y (by decide) ?_|((with_reducible first|apply vmO|apply vmT|apply vmC);case a=>simp [w1];with_reducible first|exact .v|exact .c|exact .t|exact .f))
  refine A.mono (bitslen_ans 0 (by omega) h0) ?_
  rintro _ hh ⟨v, rfl, v1, v2, _, ehh⟩
  rw [ehh]
  refine ⟨_, by simp; first | done | rfl, ?_⟩
  repeat(first|with_reducible first|refine vmR ?_|refine vmV rfl ?_|refine vmW rfl ?_|refine vmL ?_|refine blockW_y (by decide) ?_|((with_reducible first|apply vmO|apply vmT|apply vmC);case a=>simp;with_reducible first|exact .v|exact .c|exact .t|exact .f))
  refine A.mono (pd v h0) ?_
  rintro r _ rfl
  refine ⟨_, by simp; first | done | rfl, ?_⟩
  repeat(first|with_reducible first|refine vmR ?_|refine vmV rfl ?_|refine vmW rfl ?_|refine vmL ?_|refine blockW_y (by decide) ?_|((with_reducible first|apply vmO|apply vmT|apply vmC);case a=>simp;with_reducible first|exact .v|exact .c|exact .t|exact .f))
  (first | apply endW_r | apply endW_n); (case h1 => (simp [Try.results58]; first | done | rfl))
  rfl

def Rising (l : List Tx) : Prop := SortR ltB l 0 l.length

theorem fitS (l : List Tx) : ∀ e ∈ l.map AV.str, Fit false 1 e := fun e he => by obtain ⟨x, _, rfl⟩ := List.mem_map.mp he; exact .inr ⟨rfl, rfl, rfl, rfl⟩
theorem clsE_str (l : List Tx) : clsE AV.str l = l.map AV.str := by
  induction l with
  | nil => rfl
  | cons a l ih => simp [clsE] at ih ⊢; exact ih
theorem flat_str (l : List Tx) : (l.map AV.str).flatMap AV.cells = l.map AV.str := by
  induction l with
  | nil => rfl
  | cons a l ih => simp [AV.cells] at ih ⊢; exact ih

set_option maxHeartbeats 1000000 in
/-- The keys of a map, sorted. -/
theorem sorted_ans (bx m clk : Nat) (es : List (AV × AV × Nat)) (hlt : ∀ e ∈ es, e.2.2 < clk) (hnd : (es.map (·.2.2)).Nodup) (ks : AV × AV × Nat → List UInt8) (hkc : ∀ e ∈ es, e.1 = .str (ks e)) (hlen : es.length ≤ 60000) (h0 : Hp Fm) (hb : Mp.get h0.obj bx = some (.row [.mp m])) (hm : Mp.get h0.obj m = some (.mp es clk)) (bn : bx < h0.no) (mn : m < h0.no) :
    A Try.prog TT (.func 39) [.fn (.func 59) [] [.ptr bx 0]] h0 (fun r h' => ∃ l : List Tx, SV 1 (l.map AV.str) r ∧ l.Perm (es.map ks) ∧ Rising l ∧ HE h0 h') := by
  obtain ⟨ha, hha⟩ : ∃ ha : Hp Fm, ha = { h0 with pol := (· == 9) } := ⟨_, rfl⟩
  have hpa : ha.pol 9 = true := by rw [hha]; rfl
  have hba : Mp.get ha.obj bx = some (.row [.mp m]) := by rw [hha]; exact hb
  have hma : Mp.get ha.obj m = some (.mp es clk) := by rw [hha]; exact hm
  have hno : ha.no = h0.no := by rw [hha]
  have f0 : ∀ h' : Hp Fm, HE ha h' → HE h0 { h' with pol := h0.pol } := fun h' k => ⟨by have := k.no; rw [hha] at this; exact this, by have := k.ng; rw [hha] at this; exact this, rfl, by have := k.obj; rw [hha] at this; exact this, by have := k.len; rw [hha] at this; exact this⟩
  have coll : A Try.prog TT (.func 57) [.fn (.func 59) [] [.ptr bx 0]] ha (fun r h' => ∃ done : List (AV × AV × Nat), done.Perm es ∧ RS ha.no h' 1 false (done.map (·.1)) r ∧ HE ha h') := by
    apply A_go Try.func57 rfl (by rfl); (case hn => (simp [Try.ntmps57]; rfl))
    repeat(first|with_reducible first|refine vmR ?_|refine vmV rfl ?_|refine vmW rfl ?_|refine vmL ?_|refine blockW_y (by decide) ?_|((with_reducible first|apply vmO|apply vmT|apply vmC);case a=>simp;with_reducible first|exact .v|exact .c|exact .t|exact .f))
    refine A.mono (appseq_ans bx m clk es hlt hnd ks hkc hlen ha hpa hba hma (by omega) (by omega)) ?_
    rintro r h1 ⟨done, d1, d2, d3⟩
    have c1 := d2.cells
    have c2 := d2.isCell
    refine ⟨_, by simp; first | done | rfl, ?_⟩
    repeat(first|with_reducible first|refine vmR ?_|refine vmV rfl ?_|refine vmW rfl ?_|refine vmL ?_|refine blockW_y (by decide) ?_|((with_reducible first|apply vmO|apply vmT|apply vmC);case a=>simp [c1, c2];with_reducible first|exact .v|exact .c|exact .t|exact .f))
    (first | apply endW_r | apply endW_n); (case h1 => (simp [Try.results57]; first | done | rfl))
    exact ⟨done, d1, d2, d3⟩
  apply A_goT Try.func39 rfl (by rfl); (case hn => (simp [Try.ntmps39]; rfl))
  repeat(first|with_reducible first|refine vmR ?_|refine vmV rfl ?_|refine vmW rfl ?_|refine vmL ?_|refine blockW_y (by decide) ?_|((with_reducible first|apply vmO|apply vmT|apply vmC);case a=>simp;with_reducible first|exact .v|exact .c|exact .t|exact .f))
  rw [← hha]
  refine A.mono coll ?_
  rintro r h1 ⟨done, d1, d2, d3⟩
  have c1 := d2.cells
  have c2 := d2.isCell
  refine ⟨_, by simp; first | done | rfl, ?_⟩
  have dk : done.map (·.1) = (done.map ks).map AV.str := by
    rw [List.map_map]
    exact List.map_congr_left fun e he => hkc e (d1.mem_iff.mp he)
  rw [dk] at d2
  have dl : (done.map ks).length = es.length := by rw [List.length_map, d1.length_eq]
  have dp : (done.map ks).Perm (es.map ks) := d1.map ks
  obtain ⟨l0, hl0⟩ : ∃ l0, l0 = done.map ks := ⟨_, rfl⟩
  rw [← hl0] at d2 dl dp
  clear hl0 dk d1 done
  rcases d2 with ⟨rfl, e⟩ | ⟨o, cap, rfl, hlo, ⟨J, h2, h3⟩, hc, ho⟩
  · have hl0 : l0 = [] := by simpa using e
    subst hl0
    repeat(first|with_reducible first|refine vmR ?_|refine vmV rfl ?_|refine vmW rfl ?_|refine vmL ?_|refine blockW_y (by decide) ?_|((with_reducible first|apply vmO|apply vmT|apply vmC);case a=>simp;with_reducible first|exact .v|exact .c|exact .t|exact .f))
    refine A.mono (sorts_nil h1) ?_
    rintro r _ rfl
    refine ⟨_, by simp; first | done | rfl, ?_⟩
    repeat(first|with_reducible first|refine vmR ?_|refine vmV rfl ?_|refine vmW rfl ?_|refine vmL ?_|refine blockW_y (by decide) ?_|((with_reducible first|apply vmO|apply vmT|apply vmC);case a=>simp;with_reducible first|exact .v|exact .c|exact .t|exact .f))
    (first | apply endW_r | apply endW_n); (case h1 => (simp [Try.results39]; first | done | rfl))
    exact ⟨[], .inl ⟨rfl, rfl⟩, dp, fun i j h1 h2 h3 => by simp at h3, f0 _ d3⟩
  · obtain ⟨n, hn⟩ : ∃ n, n = (l0.map AV.str).length := ⟨_, rfl⟩
    rw [← hn] at h3 hc ⊢
    rw [List.length_map] at hn
    repeat(first|with_reducible first|refine vmR ?_|refine vmV rfl ?_|refine vmW rfl ?_|refine vmL ?_|refine blockW_y (by decide) ?_|((with_reducible first|apply vmO|apply vmT|apply vmC);case a=>simp;with_reducible first|exact .v|exact .c|exact .t|exact .f))
    rw [flat_str, ← clsE_str] at h2
    refine A.mono (sorts_ans o n cap J l0 hn.symm (by omega) h1 ⟨h2, HX.refl _ _ _, ho⟩) ?_
    rintro r h4 ⟨l4, k4, p4, s4⟩
    have hll : l4.length = n := p4.len.trans hn.symm
    refine ⟨_, by simp; first | done | rfl, ?_⟩
    repeat(first|with_reducible first|refine vmR ?_|refine vmV rfl ?_|refine vmW rfl ?_|refine vmL ?_|refine blockW_y (by decide) ?_|((with_reducible first|apply vmO|apply vmT|apply vmC);case a=>simp;with_reducible first|exact .v|exact .c|exact .t|exact .f))
    (first | apply endW_r | apply endW_n); (case h1 => (simp [Try.results39]; first | done | rfl))
    have k5 : RS o h4 1 false (l4.map AV.str) (.rs o 0 1 false n cap) := .inr ⟨o, cap, by rw [List.length_map, hll], Nat.le_refl _, ⟨J, by rw [flat_str, ← clsE_str]; exact k4.row, by rw [List.length_map, hll]; exact h3⟩, by rw [List.length_map, hll]; exact hc, Nat.lt_of_lt_of_le ho k4.hx.no⟩
    obtain ⟨z1, z2⟩ := k5.frz (fitS l4) (by omega) (fun _ => rfl)
    refine ⟨l4, z1, p4.perm.trans dp, by unfold Rising; rw [hll]; exact s4, ?_⟩
    refine f0 _ ((d3.x2 k4.hx (fun q e => by omega) (fun _ z => z.elim)).x2 z2 (fun q hq => by have := k5.rows q hq; omega) (fun _ z => z.elim))

end Go.Vn
