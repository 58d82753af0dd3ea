/- What functions of the program come to, in the value machine (a part of the proof of the claim's statement). No condition. -/
import Derived.Test.YtbhgefhjpfnhfaaVnH4
import Derived.Test.YtbhgefhjpfnhfaaVnI1
set_option linter.unusedSimpArgs false
set_option linter.unusedVariables false
set_option maxRecDepth 20000
namespace Go.Vn
open Go.Proofs

set_option maxHeartbeats 1000000 in
theorem keys1_ans (bx m y clk : Nat) (es : List (AV × AV × Nat)) (hlt : ∀ e ∈ es, e.2.2 < clk) (hnd : (es.map (·.2.2)).Nodup) (ks : AV × AV × Nat → Lg) (hkc : ∀ e ∈ es, e.1 = encL (ks e)) (h0 : Hp Fm) (hb : Mp.get h0.obj bx = some (.row [.mp m])) (hm : Mp.get h0.obj m = some (.mp es clk)) (bn : bx < h0.no) (mn : m < h0.no)
    (Iv : List (AV × AV × Nat) → Hp Fm → Prop)
    (st : ∀ done h h', Iv done h → HX (fun q => q = h0.no) (fun _ => False) h h' → Iv done h')
    (i0 : ∀ h, HE h0 h → h.no = h0.no + 1 → Iv [] h)
    (rd : ∀ done e h, Iv done h → e ∈ es → (∀ d ∈ done, d ∈ es) → ((done ++ [e]).map (·.2.2)).Nodup → h0.no < h.no → A Try.prog TT (.yield y) [e.1] h (fun r h' => r = .bool true ∧ Iv (done ++ [e]) h' ∧ HX (fun q => q ≠ bx ∧ q ≠ m ∧ q ≠ h0.no) (fun _ => True) h h')) :
    A Try.prog TT (.func 42) [.yl y, .ptr bx 0] h0 (fun _ h' => ∃ done, done.Perm es ∧ Iv done h' ∧ h0.no < h'.no) := by
  have nm : h0.no ≠ m := by omega
  have nb : h0.no ≠ bx := by omega
  apply A_go Try.func42 rfl (by rfl); (case hn => (simp [Try.ntmps42]; rfl))
  repeat(first|with_reducible first|refine vmR ?_|refine vmV rfl ?_|refine vmW rfl ?_|refine vmL ?_|refine blockW_y (by decide) ?_|((with_reducible first|apply vmO|apply vmT|apply vmC);case a=>simp [hb, hm, rangeAV];with_reducible first|exact .v|exact .c|exact .t|exact .f))
  obtain ⟨ha, hha⟩ : ∃ ha : Hp Fm, ha = { h0 with obj := Mp.set h0.obj h0.no (.iter (some m) clk [] clk), no := h0.no + 1 } := ⟨_, rfl⟩
  have e0 : HE h0 ha := by rw [hha]; exact (HE.refl h0).new _
  have gi : Mp.get ha.obj h0.no = some (.iter (some m) clk (([] : List (AV × AV × Nat)).map (·.2.2)) clk) := by rw [hha]; simp
  have gn : h0.no < ha.no := by rw [hha]; simp
  have ia := i0 ha e0 (by rw [hha])
  have gm : Mp.get ha.obj m = some (.mp es clk) := (e0.obj m mn).trans hm
  rw [← hha]
  refine W_loop (fun mm st => ∃ (t : Fm AV) (h : Hp Fm) (done : List (AV × AV × Nat)), st = ⟨t, 14, h, none⟩ ∧ mm = es.length - done.length ∧ (∀ e ∈ done, e ∈ es) ∧ (done.map (·.2.2)).Nodup ∧ Mp.get h.obj h0.no = some (.iter (some m) clk (done.map (·.2.2)) clk) ∧ Mp.get h.obj m = some (.mp es clk) ∧ tget t 0 = .yl y ∧ tget t 5 = .ptr h0.no 0 ∧ Iv done h ∧ h0.no < h.no) es.length
      ⟨_, _, [], rfl, by simp, by simp, by simp, gi, gm, by simp, by simp, ia, gn⟩ ?_
  rintro _ _ ⟨t, h, done, rfl, rfl, hd, hdn, hi, hmh, ht0, ht5, he, hno⟩
  repeat(first|with_reducible first|refine vmR ?_|refine vmV rfl ?_|refine vmW rfl ?_|refine vmL ?_|refine blockW_y (by decide) ?_|((with_reducible first|apply vmO|apply vmT|apply vmC);case a=>simp;with_reducible first|exact .v|exact .c|exact .t|exact .f))
  with_reducible refine WO_next_i done ?_ rfl ?_ hi hmh hlt hnd hd hdn ?_ ?_
  · simp
  · simp [ht5]
  · intro h1 k1 hp
    refine ⟨_, by simp; first | done | rfl, ?_⟩
    repeat(first|with_reducible first|refine vmR ?_|refine vmV rfl ?_|refine vmW rfl ?_|refine vmL ?_|refine blockW_y (by decide) ?_|((with_reducible first|apply vmO|apply vmT|apply vmC);case a=>simp;with_reducible first|exact .v|exact .c|exact .t|exact .f))
    (first | apply endW_r | apply endW_n); (case h1 => (simp [Try.results42]; first | done | rfl))
    exact ⟨done, hp, st _ _ _ he (k1.he.x _ _), Nat.lt_of_lt_of_le hno k1.he.no⟩
  · intro h1 e hin hnot k1 hno1 hit
    replace hno1 : h1.no = h.no := hno1
    replace k1 : HX (fun q => q = h0.no) (fun _ => False) h h1 := k1
    have hm1 : Mp.get h1.obj m = some (.mp es clk) := (k1.obj m (by omega) (Ne.symm nm)).trans hmh
    have hen := entry_some (done := done) (h := h1) (es := es) hit hm1 hnd hin
    have hdn' : ((done ++ [e]).map (·.2.2)).Nodup := by
      rw [List.map_append, List.nodup_append]
      refine ⟨hdn, by simp, fun a ha b hb => ?_⟩
      simp only [List.map_cons, List.map_nil, List.mem_singleton] at hb
      subst hb; intro q; exact hnot (q ▸ ha)
    have hd' : ∀ x ∈ done ++ [e], x ∈ es := fun x hx => by
      rcases List.mem_append.mp hx with q | q
      · exact hd x q
      · rw [List.mem_singleton.mp q]; exact hin
    have hln := len_sub (done ++ [e]) es (nodup_of_map _ hdn') hd'
    rw [List.length_append, List.length_singleton] at hln
    have kc1 := hkc e hin
    obtain ⟨hB, hhB⟩ : ∃ hB : Hp Fm, hB = { h1 with obj := Mp.set (Mp.set h1.obj h1.no (.row [.int .i64 0, .int .i64 0])) h1.no (.row [.int .i64 (ks e).b, .int .i64 (ks e).e]), no := h1.no + 1 } := ⟨_, rfl⟩
    have eB : HE h1 hB := by rw [hhB]; exact ((HE.refl h1).new _).set (Nat.le_refl _) _
    have hBn : h1.no < hB.no := by rw [hhB]; simp
    have rd' := rd done e hB (st _ _ _ he (k1.trans (eB.x _ _))) hin hd hdn' (by omega)
    obtain ⟨kk, hkk⟩ : ∃ kk, kk = ks e := ⟨_, rfl⟩
    rw [← hkk] at kc1 hhB
    obtain ⟨ek, ev, est⟩ := e
    simp only [encL] at kc1
    subst kc1
    refine ⟨_, by simp; first | done | rfl, ?_⟩
    repeat(first|with_reducible first|refine vmR ?_|refine vmV rfl ?_|refine vmW rfl ?_|refine vmL ?_|refine blockW_y (by decide) ?_|((with_reducible first|apply vmO|apply vmT|apply vmC);case a=>simp [ht0, ht5, hen];with_reducible first|exact .v|exact .c|exact .t|exact .f))
    rw [← hhB]
    refine A.mono rd' ?_
    rintro _ h2 ⟨rfl, iv2, x2⟩
    refine ⟨_, by simp; first | done | rfl, ?_⟩
    repeat(first|with_reducible first|refine vmR ?_|refine vmV rfl ?_|refine vmW rfl ?_|refine vmL ?_|refine blockW_y (by decide) ?_|((with_reducible first|apply vmO|apply vmT|apply vmC);case a=>simp;with_reducible first|exact .v|exact .c|exact .t|exact .f))
    have hno2 := x2.no
    refine ⟨es.length - (done ++ [(AV.agg [.int .i64 kk.b, .int .i64 kk.e], ev, est)]).length, by simp; omega, _, _, done ++ [(AV.agg [.int .i64 kk.b, .int .i64 kk.e], ev, est)], rfl, rfl, hd', hdn', ?_, ?_, by simp [ht0], by simp [ht5], iv2, by omega⟩
    · exact ((x2.obj _ (by omega) (fun z => z.2.2 rfl)).trans (eB.obj _ (by omega))).trans hit
    · exact ((x2.obj _ (by omega) (fun z => z.2.1 rfl)).trans (eB.obj _ (by omega))).trans hm1

structure Got (hs h : Hp Fm) (b y : Nat) (lr : ALoop Fm) (done : List (AV × AV × Nat)) : Prop where
  bx : ∃ w, Mp.get h.obj b = some (.row [w]) ∧ RS (y + 2) h 2 true (done.map (·.1)) w
  he : HE hs h
  lp : Mp.get h.obj y = some (.loop lr)
  yn : y < h.no
  pol : h.pol 48 = true


set_option maxHeartbeats 1000000 in
theorem appseq_ans (bx m clk : Nat) (es : List (AV × AV × Nat)) (hlt : ∀ e ∈ es, e.2.2 < clk) (hnd : (es.map (·.2.2)).Nodup) (ks : AV × AV × Nat → Lg) (hkc : ∀ e ∈ es, e.1 = encL (ks e)) (hlen : es.length ≤ 60000) (h0 : Hp Fm) (hp : h0.pol 48 = true) (hb : Mp.get h0.obj bx = some (.row [.mp m])) (hm : Mp.get h0.obj m = some (.mp es clk)) (bn : bx < h0.no) (mn : m < h0.no) :
    A Try.prog TT (.func 57) [.nils, .fn (.func 42) [] [.ptr bx 0]] h0 (fun r h' => ∃ done : List (AV × AV × Nat), done.Perm es ∧ RS h0.no h' 2 true (done.map (·.1)) r ∧ HE h0 h') := by
  apply A_go Try.func57 rfl (by rfl); (case hn => (simp [Try.ntmps57]; rfl))
  repeat(first|with_reducible first|refine vmR ?_|refine vmV rfl ?_|refine vmW rfl ?_|refine vmL ?_|refine blockW_y (by decide) ?_|((with_reducible first|apply vmO|apply vmT|apply vmC);case a=>simp;with_reducible first|exact .v|exact .c|exact .t|exact .f))
  obtain ⟨y, hy⟩ : ∃ y, y = h0.no + 1 := ⟨_, rfl⟩
  refine W_range_i rfl (by simp [rangeE, laidF]; exact ⟨rfl, rfl, rfl⟩) ?_
  refine with_loop (h0.no + 1) _ (by simp; first | done | rfl) ?_
  intro lr hlr hget
  rw [← hlr]
  clear hget
  obtain ⟨hs, hhs⟩ : ∃ hs : Hp Fm, hs = { h0 with obj := Mp.set (Mp.set h0.obj h0.no (.row [.nils])) (h0.no + 1) (.loop lr), no := h0.no + 1 + 1 } := ⟨_, rfl⟩
  have es0 : HE h0 hs := by rw [hhs]; exact ((HE.refl h0).new _).new _
  have hbs : Mp.get hs.obj bx = some (.row [.mp m]) := (es0.obj bx bn).trans hb
  have hms : Mp.get hs.obj m = some (.mp es clk) := (es0.obj m mn).trans hm
  have sn : hs.no = y + 1 := by rw [hhs, hy]
  have sb : Mp.get hs.obj h0.no = some (.row [.nils]) := by rw [hhs]; simp
  have sy : Mp.get hs.obj y = some (.loop lr) := by rw [hhs, hy]; simp
  have sp : hs.pol 48 = true := by rw [hhs]; exact hp
  rw [← hhs, ← hy]
  refine A.mono (keys1_ans bx m y clk es hlt hnd ks hkc hs hbs hms (Nat.lt_of_lt_of_le bn es0.no) (Nat.lt_of_lt_of_le mn es0.no) (fun done h => Got h0 h h0.no y lr done) ?_ ?_ ?_) ?_
  · rintro done h h' ⟨⟨w, w1, w2⟩, he, lp, yn, pl⟩ hx
    refine ⟨⟨w, (hx.obj _ (by omega) (by omega)).trans w1, w2.of hx (fun q hq e => by have := w2.rows q hq; omega)⟩, he.x2 hx (fun q e => by omega) (fun _ z => z.elim), (hx.obj _ yn (by omega)).trans lp, Nat.lt_of_lt_of_le yn hx.no, by rw [hx.pol]; exact pl⟩
  · intro h he hn
    exact ⟨⟨.nils, (he.obj _ (by omega)).trans sb, .inl ⟨rfl, rfl⟩⟩, es0.trans he, (he.obj _ (by omega)).trans sy, by omega, by rw [he.pol]; exact sp⟩
  · rintro done e h ⟨⟨w, w1, w2⟩, he, lp, yn, pl⟩ hin hd hdn hno
    have lp' := lp
    rw [hlr] at lp'
    have ek := hkc e hin
    rw [ek]
    have nby : h0.no ≠ y := by omega
    have nyn : h.no ≠ y := by omega
    have nbn : h0.no ≠ h.no := by omega
    have nbn' : h.no ≠ h0.no := by omega
    have nyb : y ≠ h0.no := by omega
    have nyn' : y ≠ h.no := by omega
    refine A_round lp' (by simp) ?_
    have nk1 : h0.no ≠ h.no + 1 := by omega
    have nk2 : h.no + 1 ≠ h0.no := by omega
    have nk3 : y ≠ h.no + 1 := by omega
    have nk4 : h.no + 1 ≠ y := by omega
    have nk5 : h.no ≠ h.no + 1 := by omega
    repeat(first|with_reducible first|refine vmR ?_|refine vmV rfl ?_|refine vmW rfl ?_|refine vmL ?_|refine blockW_y (by decide) ?_|((with_reducible first|apply vmO|apply vmT|apply vmC);case a=>simp [roundT];with_reducible first|exact .v|exact .c|exact .t|exact .f))
    refine ⟨rfl, _, by simp [beginR, lp', nyn, nyn']; first | done | rfl, ?_⟩
    repeat(first|with_reducible first|refine vmR ?_|refine vmV rfl ?_|refine vmW rfl ?_|refine vmL ?_|refine blockW_y (by decide) ?_|((with_reducible first|apply vmO|apply vmT|apply vmC);case a=>simp [roundT, w1, nby, nyn, nbn, nbn', nyb, nyn', nk1, nk2, nk3, nk4, nk5, newSeq, newRs, pl];with_reducible first|exact .v|exact .c|exact .t|exact .f))
    obtain ⟨lb, hlb⟩ : ∃ lb : ALoop Fm, lb = { lr with state := .busy } := ⟨_, rfl⟩
    have hlb' := hlb
    rw [hlr] at hlb'
    simp only at hlb'
    rw [← hlb']
    obtain ⟨hB, hhB⟩ : ∃ hB : Hp Fm, hB = { h with obj := Mp.set (Mp.set (Mp.set (Mp.set h.obj h.no (.row [.int .i64 0, .int .i64 0])) h.no (.row [.int .i64 (ks e).b, .int .i64 (ks e).e])) y (.loop lb)) (h.no + 1) (.row [.int .i64 (ks e).b, .int .i64 (ks e).e]), no := h.no + 1 + 1 } := ⟨_, rfl⟩
    have xB : HX (fun q => q = y) (fun _ => False) h hB := by rw [hhB]; exact ((((HX.refl (fun q => q = y) (fun _ => False) h).new _).set (fun z => by omega) _).set (fun _ => rfl) _).new _
    have eB : HE h0 hB := he.x2 xB (fun q e => by omega) (fun _ z => z.elim)
    have wB := w2.of xB (fun q hq e => by have := w2.rows q hq; omega)
    have nB : Vn.newEls hB 2 true (.rs (h.no + 1) 0 2 true 1 1) = some [encL (ks e)] := by
      simp [newEls, rsEls, hhB, chunkAV]
    have lB : Mp.get hB.obj y = some (.loop lb) := by rw [hhB]; simp [nyn', nk3]
    have bB : Mp.get hB.obj h0.no = some (.row [w]) := by rw [hhB]; simp [nbn, nby, nk1, w1]
    have pB : hB.pol 48 = true := by rw [hhB]; exact pl
    have hBn : hB.no = h.no + 2 := by rw [hhB]
    rw [← hhB]
    have hln := len_sub (done ++ [e]) es (nodup_of_map _ hdn) (fun x hx => by
      rcases List.mem_append.mp hx with q | q
      · exact hd x q
      · rw [List.mem_singleton.mp q]; exact hin)
    rw [List.length_append, List.length_singleton] at hln
    have fitD : ∀ x ∈ done.map (·.1), Fit true 2 x := fun x hx => by
      obtain ⟨d, hd1, rfl⟩ := List.mem_map.mp hx
      rw [hkc d (hd d hd1)]; exact .inl ⟨rfl, _, rfl, rfl⟩
    have hy2 : y + 2 ≤ hB.no := by omega
    with_reducible apply WO_app_i; (case hw => (simp; done)); (case ho => rfl); (case hb => rfl); (case ha => (simp; first | done | exact ⟨rfl, rfl⟩ | rfl)); (case h1 => (simp; first | done | rfl)); (case h2 => (simp; first | done | rfl))
    refine app_then (RS.appN etLg wB hy2 pB nB fitD (fun x hx => by rw [List.mem_singleton.mp hx]; exact .inl ⟨rfl, _, rfl, rfl⟩) (by simp; omega)) ?_
    rintro u h2 ⟨r2, x2, p2, q2⟩
    replace x2 : HX (isRow w) (fun _ => False) hB h2 := x2
    replace p2 : h2.pol = hB.pol := p2
    have hn2 := x2.no
    have uc := r2.cells
    have ui := r2.isCell
    have b2 : Mp.get h2.obj h0.no = some (.row [w]) := (x2.obj _ (by omega) (fun hq => by have := w2.rows _ hq; omega)).trans bB
    have l2 : Mp.get h2.obj y = some (.loop lb) := (x2.obj _ (by omega) (fun hq => by have := w2.rows _ hq; omega)).trans lB
    refine ⟨_, by simp; first | done | rfl, ?_⟩
    repeat(first|with_reducible first|refine vmR ?_|refine vmV rfl ?_|refine vmW rfl ?_|refine vmL ?_|refine blockW_y (by decide) ?_|((with_reducible first|apply vmO|apply vmT|apply vmC);case a=>simp [uc, ui, b2];with_reducible first|exact .v|exact .c|exact .t|exact .f))
    refine ⟨_, _, by simp [endR, l2, nyb]; rfl, rfl, ?_, ?_⟩
    · have e2 := eB.x2 x2 (fun q hq => by have := w2.rows _ hq; omega) (fun _ z => z.elim)
      refine ⟨⟨u, by simp [nby], ?_⟩, ?_, ?_, ?_, ?_⟩
      · have xz : HX (fun q => q = y ∨ q = h0.no) (fun _ => False) h2 _ := ((HX.refl (fun q => q = y ∨ q = h0.no) (fun _ => False) h2).set (o := h0.no) (fun _ => .inr rfl) (.row [u])).set (o := y) (fun _ => .inl rfl) (.loop { lb with state := .ready, pending := none })
        have := r2.of xz (fun q hq e => by have := r2.rows q hq; omega)
        rw [List.map_append, List.map_cons, List.map_nil, ek]; exact this
      · exact (e2.set (Nat.le_refl _) _).set (by omega) _
      · simp [hlb, hlr]
      · show y < h2.no; have := x2.no; omega
      · show h2.pol 48 = true; rw [p2]; exact pB
    · have hx1 : HX (fun q => q ≠ bx ∧ q ≠ m ∧ q ≠ hs.no) (fun _ => True) h h2 := (xB.mono (fun q _ e => by omega) (fun _ _ _ => trivial)).trans (x2.mono (fun q _ hq => by have := w2.rows _ hq; omega) (fun _ _ _ => trivial))
      exact (hx1.set (fun _ => by omega) _).set (fun _ => by omega) _
  · rintro r h' ⟨done, hp2, ⟨⟨w, w1, w2⟩, he, lp, yn, pl⟩, hno⟩
    have lp' := lp
    rw [hlr] at lp'
    have wc := w2.cells
    have wi := w2.isCell
    refine ⟨_, _, by simp [rangeB, lp', behind]; exact ⟨rfl, rfl⟩, ?_⟩
    repeat(first|with_reducible first|refine vmR ?_|refine vmV rfl ?_|refine vmW rfl ?_|refine vmL ?_|refine blockW_y (by decide) ?_|((with_reducible first|apply vmO|apply vmT|apply vmC);case a=>simp [w1, show h0.no ≠ y by omega];with_reducible first|exact .v|exact .c|exact .t|exact .f))
    (first | apply endW_r | apply endW_n); (case h1 => (simp [Try.results57]; first | done | rfl))
    refine ⟨done, hp2, ?_, he.set (by omega) _⟩
    have xz : HX (fun q => q = y) (fun _ => False) h' _ := ((HX.refl (fun q => q = y) (fun _ => False) h').set (o := y) (fun _ => rfl) (.loop { lr with state := .exhausted }))
    rw [hlr] at xz
    have := w2.of xz (fun q hq e => by have := w2.rows q hq; omega)
    rcases this with k | ⟨o, cap, a1, a2, a3⟩
    · exact .inl k
    · exact .inr ⟨o, cap, a1, by omega, a3⟩
end Go.Vn

set_option maxRecDepth 20000
namespace Go.Vn
open Go.Proofs

theorem sorts_nil (h0 : Hp Fm) : A Try.prog TT (.func 41) [.nils, .fn (.func 23) [] []] h0 (fun _ h' => h' = h0) := by
  have ins : ∀ h, A Try.prog TT (.func 67) [.nils, .int .i64 0, .int .i64 0, .fn (.func 23) [] []] h (fun _ h' => h' = h) := fun h => by
    apply A_go Try.func67 rfl (by rfl); (case hn => (simp [Try.ntmps67]; rfl))
    repeat(first|with_reducible first|refine vmR ?_|refine vmV rfl ?_|refine vmW rfl ?_|refine vmL ?_|refine blockW_y (by decide) ?_|((with_reducible first|apply vmO|apply vmT|apply vmC);case a=>simp;with_reducible first|exact .v|exact .c|exact .t|exact .f))
    refine W_loop_i ?_
    repeat(first|with_reducible first|refine vmR ?_|refine vmV rfl ?_|refine vmW rfl ?_|refine vmL ?_|refine blockW_y (by decide) ?_|((with_reducible first|apply vmO|apply vmT|apply vmC);case a=>simp;with_reducible first|exact .v|exact .c|exact .t|exact .f))
    (first | apply endW_r | apply endW_n); (case h1 => (simp [Try.results67]; first | done | rfl))
    rfl
  have pd : ∀ (v : Int) (h : Hp Fm), A Try.prog TT (.func 58) [.nils, .int .i64 0, .int .i64 0, .int .i64 v, .fn (.func 23) [] []] h (fun _ h' => h' = h) := fun v h => by
    apply A_go Try.func58 rfl (by rfl); (case hn => (simp [Try.ntmps58]; rfl))
    repeat(first|with_reducible first|refine vmR ?_|refine vmV rfl ?_|refine vmW rfl ?_|refine vmL ?_|refine blockW_y (by decide) ?_|((with_reducible first|apply vmO|apply vmT|apply vmC);case a=>simp;with_reducible first|exact .v|exact .c|exact .t|exact .f))
    refine W_loop_i ?_
    repeat(first|with_reducible first|refine vmR ?_|refine vmV rfl ?_|refine vmW rfl ?_|refine vmL ?_|refine blockW_y (by decide) ?_|((with_reducible first|apply vmO|apply vmT|apply vmC);case a=>simp;with_reducible first|exact .v|exact .c|exact .t|exact .f))
    refine A.mono (ins h) ?_
    rintro r _ rfl
    refine ⟨_, by simp; first | done | rfl, ?_⟩
    repeat(first|with_reducible first|refine vmR ?_|refine vmV rfl ?_|refine vmW rfl ?_|refine vmL ?_|refine blockW_y (by decide) ?_|((with_reducible first|apply vmO|apply vmT|apply vmC);case a=>simp;with_reducible first|exact .v|exact .c|exact .t|exact .f))
    (first | apply endW_r | apply endW_n); (case h1 => (simp [Try.results58]; first | done | rfl))
    rfl
  have w1 : IntKind.u64.wrap 0 = 0 := by rfl
  apply A_go Try.func41 rfl (by rfl); (case hn => (simp [Try.ntmps41]; rfl))
  repeat(first|with_reducible first|refine vmR ?_|refine vmV rfl ?_|refine vmW rfl ?_|refine vmL ?_|refine blockW_y (by decide) ?_|((with_reducible first|apply vmO|apply vmT|apply vmC);case a=>simp [w1];with_reducible first|exact .v|exact .c|exact .t|exact .f))
  refine A.mono (bitslen_ans 0 (by omega) h0) ?_
  rintro _ hh ⟨v, rfl, v1, v2, _, ehh⟩
  rw [ehh]
  refine ⟨_, by simp; first | done | rfl, ?_⟩
  repeat(first|with_reducible first|refine vmR ?_|refine vmV rfl ?_|refine vmW rfl ?_|refine vmL ?_|refine blockW_y (by decide) ?_|((with_reducible first|apply vmO|apply vmT|apply vmC);case a=>simp;with_reducible first|exact .v|exact .c|exact .t|exact .f))
  refine A.mono (pd v h0) ?_
  rintro r _ rfl
  refine ⟨_, by simp; first | done | rfl, ?_⟩
  repeat(first|with_reducible first|refine vmR ?_|refine vmV rfl ?_|refine vmW rfl ?_|refine vmL ?_|refine blockW_y (by decide) ?_|((with_reducible first|apply vmO|apply vmT|apply vmC);case a=>simp;with_reducible first|exact .v|exact .c|exact .t|exact .f))
  (first | apply endW_r | apply endW_n); (case h1 => (simp [Try.results41]; first | done | rfl))
  rfl

theorem clsE_flat (l : List Lg) : clsE encL l = (l.map encL).flatMap AV.cells := by
  induction l with
  | nil => rfl
  | cons a l ih => simp [clsE] at ih ⊢; exact ih
theorem fitL (l : List Lg) : ∀ e ∈ l.map encL, Fit true 2 e := fun e he => by obtain ⟨x, _, rfl⟩ := List.mem_map.mp he; exact .inl ⟨rfl, _, rfl, rfl⟩

set_option maxHeartbeats 1000000 in
/-- The keys of a map, sorted. -/
theorem sortedL_ans (bx m clk : Nat) (es : List (AV × AV × Nat)) (hlt : ∀ e ∈ es, e.2.2 < clk) (hnd : (es.map (·.2.2)).Nodup) (ks : AV × AV × Nat → Lg) (hkc : ∀ e ∈ es, e.1 = encL (ks e)) (hlen : es.length ≤ 60000) (h0 : Hp Fm) (hb : Mp.get h0.obj bx = some (.row [.mp m])) (hm : Mp.get h0.obj m = some (.mp es clk)) (bn : bx < h0.no) (mn : m < h0.no) :
    A Try.prog TT (.func 21) [.fn (.func 42) [] [.ptr bx 0], .fn (.func 23) [] []] h0 (fun r h' => ∃ l : List Lg, SV 2 (l.map encL) r ∧ l.Perm (es.map ks) ∧ HE h0 h') := by
  obtain ⟨ha, hha⟩ : ∃ ha : Hp Fm, ha = { h0 with pol := (· == 48) } := ⟨_, rfl⟩
  have hpa : ha.pol 48 = true := by rw [hha]; rfl
  have hba : Mp.get ha.obj bx = some (.row [.mp m]) := by rw [hha]; exact hb
  have hma : Mp.get ha.obj m = some (.mp es clk) := by rw [hha]; exact hm
  have hno : ha.no = h0.no := by rw [hha]
  have f0 : ∀ h' : Hp Fm, HE ha h' → HE h0 { h' with pol := h0.pol } := fun h' k => ⟨by have := k.no; rw [hha] at this; exact this, by have := k.ng; rw [hha] at this; exact this, rfl, by have := k.obj; rw [hha] at this; exact this, by have := k.len; rw [hha] at this; exact this⟩
  have coll : A Try.prog TT (.func 40) [.fn (.func 42) [] [.ptr bx 0]] ha (fun r h' => ∃ done : List (AV × AV × Nat), done.Perm es ∧ RS ha.no h' 2 true (done.map (·.1)) r ∧ HE ha h') := by
    apply A_go Try.func40 rfl (by rfl); (case hn => (simp [Try.ntmps40]; rfl))
    repeat(first|with_reducible first|refine vmR ?_|refine vmV rfl ?_|refine vmW rfl ?_|refine vmL ?_|refine blockW_y (by decide) ?_|((with_reducible first|apply vmO|apply vmT|apply vmC);case a=>simp;with_reducible first|exact .v|exact .c|exact .t|exact .f))
    refine A.mono (appseq_ans bx m clk es hlt hnd ks hkc hlen ha hpa hba hma (by omega) (by omega)) ?_
    rintro r h1 ⟨done, d1, d2, d3⟩
    have c1 := d2.cells
    have c2 := d2.isCell
    refine ⟨_, by simp; first | done | rfl, ?_⟩
    repeat(first|with_reducible first|refine vmR ?_|refine vmV rfl ?_|refine vmW rfl ?_|refine vmL ?_|refine blockW_y (by decide) ?_|((with_reducible first|apply vmO|apply vmT|apply vmC);case a=>simp [c1, c2];with_reducible first|exact .v|exact .c|exact .t|exact .f))
    (first | apply endW_r | apply endW_n); (case h1 => (simp [Try.results40]; first | done | rfl))
    exact ⟨done, d1, d2, d3⟩
  apply A_goT Try.func21 rfl (by rfl); (case hn => (simp [Try.ntmps21]; rfl))
  repeat(first|with_reducible first|refine vmR ?_|refine vmV rfl ?_|refine vmW rfl ?_|refine vmL ?_|refine blockW_y (by decide) ?_|((with_reducible first|apply vmO|apply vmT|apply vmC);case a=>simp;with_reducible first|exact .v|exact .c|exact .t|exact .f))
  rw [← hha]
  refine A.mono coll ?_
  rintro r h1 ⟨done, d1, d2, d3⟩
  have c1 := d2.cells
  have c2 := d2.isCell
  refine ⟨_, by simp; first | done | rfl, ?_⟩
  have dk : done.map (·.1) = (done.map ks).map encL := by
    rw [List.map_map]
    exact List.map_congr_left fun e he => hkc e (d1.mem_iff.mp he)
  rw [dk] at d2
  have dl : (done.map ks).length = es.length := by rw [List.length_map, d1.length_eq]
  have dp : (done.map ks).Perm (es.map ks) := d1.map ks
  obtain ⟨l0, hl0⟩ : ∃ l0, l0 = done.map ks := ⟨_, rfl⟩
  rw [← hl0] at d2 dl dp
  clear hl0 dk d1 done
  rcases d2 with ⟨rfl, e⟩ | ⟨o, cap, rfl, hlo, ⟨J, h2, h3⟩, hc, ho⟩
  · have hl0 : l0 = [] := by simpa using e
    subst hl0
    repeat(first|with_reducible first|refine vmR ?_|refine vmV rfl ?_|refine vmW rfl ?_|refine vmL ?_|refine blockW_y (by decide) ?_|((with_reducible first|apply vmO|apply vmT|apply vmC);case a=>simp;with_reducible first|exact .v|exact .c|exact .t|exact .f))
    refine A.mono (sorts_nil h1) ?_
    rintro r _ rfl
    refine ⟨_, by simp; first | done | rfl, ?_⟩
    repeat(first|with_reducible first|refine vmR ?_|refine vmV rfl ?_|refine vmW rfl ?_|refine vmL ?_|refine blockW_y (by decide) ?_|((with_reducible first|apply vmO|apply vmT|apply vmC);case a=>simp;with_reducible first|exact .v|exact .c|exact .t|exact .f))
    (first | apply endW_r | apply endW_n); (case h1 => (simp [Try.results21]; first | done | rfl))
    exact ⟨[], .inl ⟨rfl, rfl⟩, dp, f0 _ d3⟩
  · obtain ⟨n, hn⟩ : ∃ n, n = (l0.map encL).length := ⟨_, rfl⟩
    rw [← hn] at h3 hc ⊢
    rw [List.length_map] at hn
    repeat(first|with_reducible first|refine vmR ?_|refine vmV rfl ?_|refine vmW rfl ?_|refine vmL ?_|refine blockW_y (by decide) ?_|((with_reducible first|apply vmO|apply vmT|apply vmC);case a=>simp;with_reducible first|exact .v|exact .c|exact .t|exact .f))
    rw [← clsE_flat] at h2
    refine A.mono (sorts_ans o n cap J l0 hn.symm (by omega) h1 ⟨h2, HX.refl _ _ _, ho⟩) ?_
    rintro r h4 ⟨l4, k4, p4, s4⟩
    have hll : l4.length = n := p4.len.trans hn.symm
    refine ⟨_, by simp; first | done | rfl, ?_⟩
    repeat(first|with_reducible first|refine vmR ?_|refine vmV rfl ?_|refine vmW rfl ?_|refine vmL ?_|refine blockW_y (by decide) ?_|((with_reducible first|apply vmO|apply vmT|apply vmC);case a=>simp;with_reducible first|exact .v|exact .c|exact .t|exact .f))
    (first | apply endW_r | apply endW_n); (case h1 => (simp [Try.results21]; first | done | rfl))
    have k5 : RS o h4 2 true (l4.map encL) (.rs o 0 2 true n cap) := .inr ⟨o, cap, by rw [List.length_map, hll], Nat.le_refl _, ⟨J, by rw [← clsE_flat]; exact k4.row, by rw [List.length_map, hll]; exact h3⟩, by rw [List.length_map, hll]; exact hc, Nat.lt_of_lt_of_le ho k4.hx.no⟩
    obtain ⟨z1, z2⟩ := k5.frz (fitL l4) (by omega) (fun h => by cases h)
    refine ⟨l4, z1, p4.perm.trans dp, ?_⟩
    refine f0 _ ((d3.x2 k4.hx (fun q e => by omega) (fun _ z => z.elim)).x2 z2 (fun q hq => by have := k5.rows q hq; omega) (fun _ z => z.elim))
end Go.Vn

set_option maxRecDepth 20000
namespace Go.Vn
open Go.Proofs

def SBr (bs : List Br) (ep : Int) (n : Nat) (k : Lg) : Prop := ∃ (i : Nat) (hi : i < bs.length), i < n ∧ bs[i].dr = false ∧ ((k.b = i ∧ bs[i].fl ≤ k.e ∧ k.e ≤ ep) ∨ k ∈ (pathB bs i ep).drop 1)
def SPo (bs : List Br) (qs : List Po) (n : Nat) (k : Lg) : Prop := ∃ (i : Nat) (hi : i < qs.length), i < n ∧ 0 ≤ qs[i].br ∧ qs[i].br < bs.length ∧ k = ⟨qs[i].br, qs[i].ep⟩
def placeS (bs : List Br) (ep : Int) (qs : List Po) (k : Lg) : Prop := SBr bs ep bs.length k ∨ SPo bs qs qs.length k

theorem SBr_succ {bs : List Br} {ep : Int} {i : Nat} (hi : i < bs.length) (k : Lg) : SBr bs ep (i + 1) k ↔ SBr bs ep i k ∨ (bs[i].dr = false ∧ ((k.b = i ∧ bs[i].fl ≤ k.e ∧ k.e ≤ ep) ∨ k ∈ (pathB bs i ep).drop 1)) := by
  constructor
  · rintro ⟨j, hj, h1, h2⟩
    by_cases q : j = i
    · subst q; exact .inr h2
    · exact .inl ⟨j, hj, by omega, h2⟩
  · rintro (⟨j, hj, h1, h2⟩ | h)
    · exact ⟨j, hj, by omega, h2⟩
    · exact ⟨i, hi, by omega, h⟩
theorem SPo_succ {bs : List Br} {qs : List Po} {i : Nat} (hi : i < qs.length) (k : Lg) : SPo bs qs (i + 1) k ↔ SPo bs qs i k ∨ (0 ≤ qs[i].br ∧ qs[i].br < bs.length ∧ k = ⟨qs[i].br, qs[i].ep⟩) := by
  constructor
  · rintro ⟨j, hj, h1, h2⟩
    by_cases q : j = i
    · subst q; exact .inr h2
    · exact .inl ⟨j, hj, by omega, h2⟩
  · rintro (⟨j, hj, h1, h2⟩ | h)
    · exact ⟨j, hj, by omega, h2⟩
    · exact ⟨i, hi, by omega, h⟩

structure PlI (h0 h : Hp Fm) (b1 m : Nat) (ep : Int) (u w : AV) (S : Lg → Prop) (n : Nat) : Prop where
  row : Mp.get h.obj b1 = some (.row [.int .i64 0, .int .i64 ep, u, w, .nils, .str []])
  ms : MS encL h m S n
  he : HE h0 h
  bn : b1 < h.no
  mn : m < h.no
  b0 : h0.no ≤ b1
  m0 : h0.no ≤ m
  ne : b1 ≠ m
theorem PlI.new {h0 h : Hp Fm} {b1 m : Nat} {ep : Int} {u w : AV} {S : Lg → Prop} {n : Nat} (k : PlI h0 h b1 m ep u w S n) {h' : Hp Fm} (e : HE h h') : PlI h0 h' b1 m ep u w S n :=
  ⟨(e.obj _ k.bn).trans k.row, k.ms.of (e.obj _ k.mn), k.he.trans e, Nat.lt_of_lt_of_le k.bn e.no, Nat.lt_of_lt_of_le k.mn e.no, k.b0, k.m0, k.ne⟩
theorem PlI.iff {h0 h : Hp Fm} {b1 m : Nat} {ep : Int} {u w : AV} {S S' : Lg → Prop} {n n' : Nat} (k : PlI h0 h b1 m ep u w S n) (hs : ∀ x, S x ↔ S' x) (hn : n ≤ n') : PlI h0 h b1 m ep u w S' n' :=
  ⟨k.row, (k.ms.iff hs).le hn, k.he, k.bn, k.mn, k.b0, k.m0, k.ne⟩
theorem PlI.put {h0 h : Hp Fm} {b1 m : Nat} {ep : Int} {u w : AV} {S : Lg → Prop} {n : Nat} (k : PlI h0 h b1 m ep u w S n) (x : Lg) :
    ∃ h', mapUpdateAV Try.prog h 58 (.mp m) (.agg [.int .i64 x.b, .int .i64 x.e]) (.int .i64 1) = some h' ∧ PlI h0 h' b1 m ep u w (fun y => S y ∨ y = x) (n + 1) ∧ h'.no = h.no := by
  obtain ⟨es', clk', h1, h2⟩ := k.ms.put Try.underlying58 keyL x
  refine ⟨_, h1, ⟨?_, h2, k.he.set k.m0 _, k.bn, k.mn, k.b0, k.m0, k.ne⟩, rfl⟩
  have := k.ne
  simp [this, k.row]

set_option maxHeartbeats 8000000 in
theorem places_ans (lo : Nat) (bs : List Br) (u w : AV) (ep : Int) (qs : List Po) (ok : BOk bs) (ep0 : 0 ≤ ep) (ep1 : ep ≤ 12) (kp : SV 3 (qs.map encPo) w) (hql : qs.length ≤ 5) (h0 : Hp Fm) (rs : BRs lo h0 bs u) (hp : h0.pol 48 = false) :
    A Try.prog TT (.func 10) [.agg [.int .i64 0, .int .i64 ep, u, w, .nils, .str []]] h0 (fun r h' => ∃ l : List Lg, SV 2 (l.map encL) r ∧ (∀ k, k ∈ l ↔ placeS bs ep qs k) ∧ l.length ≤ 1000 ∧ HE h0 h') := by
  have uc := rs.cells
  have ui := rs.isCell
  have un := rs.nm
  have ul := rs.len
  have wc := kp.cells
  have wi := kp.isCell
  have wn := kp.nm
  have wl := kp.len Try.underlying24
  rw [List.length_map] at wl
  have ble := ok.le
  have em : ¬ (10000 : Int) < ep := by omega
  apply A_go Try.func10 rfl (by rfl); (case hn => (simp [Try.ntmps10]; rfl))
  repeat(first|with_reducible first|refine vmR ?_|refine vmV rfl ?_|refine vmW rfl ?_|refine vmL ?_|refine blockW_y (by decide) ?_|((with_reducible first|apply vmO|apply vmT|apply vmC);case a=>simp [uc, ui, wc, wi];with_reducible first|exact .v|exact .c|exact .t|exact .f))
  obtain ⟨ha, hha⟩ : ∃ ha : Hp Fm, ha = { h0 with obj := Mp.set h0.obj h0.no (.row [.int .i64 0, .int .i64 ep, u, w, .nils, .str []]), no := h0.no + 1 } := ⟨_, rfl⟩
  have e0 : HE h0 ha := by rw [hha]; exact (HE.refl h0).new _
  have ga : Mp.get ha.obj h0.no = some (.row [.int .i64 0, .int .i64 ep, u, w, .nils, .str []]) := by rw [hha]; simp
  have an : ha.no = h0.no + 1 := by rw [hha]
  rw [← hha]
  clear hha
  refine A.mono (tmay_ans lo bs u ok ha (RS.he rs e0)) ?_
  rintro _ h1 ⟨rfl, e1⟩
  have g1 := (e1.obj _ (by omega)).trans ga
  have n1 := e1.no
  refine ⟨_, by simp; first | done | rfl, ?_⟩
  obtain ⟨m, hm⟩ : ∃ m, m = h1.no := ⟨_, rfl⟩
  obtain ⟨b1, hb1⟩ : ∃ b1, b1 = h0.no := ⟨_, rfl⟩
  have nbm : ¬ h0.no = h1.no := by omega
  rw [← hb1] at g1 nbm
  repeat(first|with_reducible first|refine vmR ?_|refine vmV rfl ?_|refine vmW rfl ?_|refine vmL ?_|refine blockW_y (by decide) ?_|((with_reducible first|apply vmO|apply vmT|apply vmC);case a=>simp [g1, nbm, em, uc, ui, un, ul, makeMapAV, ← hb1];with_reducible first|exact .v|exact .c|exact .t|exact .f))
  have hbo : b1 < h1.no := by omega
  have I0 : PlI h0 { h1 with obj := Mp.set h1.obj h1.no (.mp [] 0), no := h1.no + 1 } b1 m ep u w (SBr bs ep 0) 0 := by
    refine ⟨?_, (MS.empty (clk := 0) (by simp [hm])).iff fun x => ?_, (e0.trans e1).new _, ?_, ?_, by omega, by omega, by omega⟩
    · simp [nbm, g1]
    · constructor
      · exact False.elim
      · rintro ⟨_, _, h, _⟩; omega
    · show b1 < h1.no + 1; omega
    · show m < h1.no + 1; omega
  refine W.mono (R := fun e s => e = .exit 0 ∧ ∃ (t : Fm AV) (h : Hp Fm), s = ⟨t, 84, h, none⟩ ∧ tget t 1 = .ptr b1 0 ∧ tget t 3 = .mp m ∧ PlI h0 h b1 m ep u w (SBr bs ep bs.length) (30 * bs.length)) ?_ ?_
  · refine W_loop (fun k s => ∃ (t : Fm AV) (h : Hp Fm) (i : Nat), s = ⟨t, 84, h, none⟩ ∧ k = bs.length - i ∧ i ≤ bs.length ∧ tget t 1 = .ptr b1 0 ∧ tget t 3 = .mp m ∧ tget t 4 = .int .i64 ep ∧ tget t 21 = u ∧ tget t 22 = .int .i64 bs.length ∧ tget t 23 = .int .i64 i ∧ PlI h0 h b1 m ep u w (SBr bs ep i) (30 * i)) bs.length
      ⟨_, _, 0, rfl, rfl, by omega, by simp [hb1], by simp [hm], by simp, by simp, by simp, by simp, I0⟩ ?_
    clear I0
    rintro _ _ ⟨t, h, i, rfl, rfl, hi, t1, t3, t4, t21, t22, t23, I⟩
    by_cases q : i < bs.length
    case neg =>
      have q' : ¬ ((i : Int) < bs.length) := by omega
      have e : i = bs.length := by omega
      subst e
      repeat(first|with_reducible first|refine vmR ?_|refine vmV rfl ?_|refine vmW rfl ?_|refine vmL ?_|refine blockW_y (by decide) ?_|((with_reducible first|apply vmO|apply vmT|apply vmC);case a=>simp [t1, t3, t22, t23, q, q'];with_reducible first|exact .v|exact .c|exact .t|exact .f))
      exact ⟨rfl, _, _, rfl, by simp [t1], by simp [t3], I⟩
    have q' : (i : Int) < bs.length := by omega
    obtain ⟨o, cs, x1, x2, x3, _, x4, _⟩ := BRs.at_ (RS.he rs I.he) q
    obtain ⟨B, hB⟩ : ∃ B, B = bs[i] := ⟨_, rfl⟩
    obtain ⟨ob1, ⟨ob2, ob3⟩, ob4, ob5⟩ := ok.ok i q
    rw [← hB] at x4 ob1 ob2 ob3 ob4 ob5
    obtain ⟨ip, hip⟩ : ∃ ip, ip = i + 1 := ⟨_, rfl⟩
    have wip : IntKind.i64.wrap ((i : Int) + 1) = (ip : Int) := by rw [wrap64 (by omega) (by omega)]; omega
    have eB : HE h { h with obj := Mp.set (Mp.set h.obj h.no (.row [.int .i64 0, .int .i64 0, .int .i64 0, .bool false])) h.no (.row [.int .i64 B.pa, .int .i64 B.fk, .int .i64 B.fl, .bool B.dr]), no := h.no + 1 } := ((HE.refl h).new _).set (Nat.le_refl _) _
    obtain ⟨hb, hhb⟩ : ∃ hb : Hp Fm, hb = { h with obj := Mp.set (Mp.set h.obj h.no (.row [.int .i64 0, .int .i64 0, .int .i64 0, .bool false])) h.no (.row [.int .i64 B.pa, .int .i64 B.fk, .int .i64 B.fl, .bool B.dr]), no := h.no + 1 } := ⟨_, rfl⟩
    rw [← hhb] at eB
    have gb : Mp.get hb.obj h.no = some (.row [.int .i64 B.pa, .int .i64 B.fk, .int .i64 B.fl, .bool B.dr]) := by rw [hhb]; simp
    have hbn : h.no < hb.no := by rw [hhb]; simp
    have Ib := I.new eB
    repeat(first|with_reducible first|refine vmR ?_|refine vmV rfl ?_|refine vmW rfl ?_|refine vmL ?_|refine blockW_y (by decide) ?_|((with_reducible first|apply vmO|apply vmT|apply vmC);case a=>simp [t1, t3, t4, t21, t22, t23, q, q', x1, x2, x4];with_reducible first|exact .v|exact .c|exact .t|exact .f))
    rw [← hhb]
    cases hd : B.dr with
    | true =>
      rw [hd] at gb
      repeat(first|with_reducible first|refine vmR ?_|refine vmV rfl ?_|refine vmW rfl ?_|refine vmL ?_|refine blockW_y (by decide) ?_|((with_reducible first|apply vmO|apply vmT|apply vmC);case a=>simp [gb, t23, wip];with_reducible first|exact .v|exact .c|exact .t|exact .f))
      refine ⟨bs.length - ip, by omega, _, _, ip, rfl, rfl, by omega, by simp [t1], by simp [t3], by simp [t4], by simp [t21], by simp [t22], by simp, Ib.iff (fun x => ?_) (by omega)⟩
      rw [hip, SBr_succ q, ← hB, hd]; simp
    | false =>
      rw [hd] at gb
      repeat(first|with_reducible first|refine vmR ?_|refine vmV rfl ?_|refine vmW rfl ?_|refine vmL ?_|refine blockW_y (by decide) ?_|((with_reducible first|apply vmO|apply vmT|apply vmC);case a=>simp [gb];with_reducible first|exact .v|exact .c|exact .t|exact .f))
      refine W.mono (R := fun e s => e = .exit 2 ∧ ∃ (t : Fm AV) (h : Hp Fm), s = ⟨t, 84, h, none⟩ ∧ tget t 1 = .ptr b1 0 ∧ tget t 3 = .mp m ∧ tget t 4 = .int .i64 ep ∧ tget t 5 = .int .i64 i ∧ tget t 21 = u ∧ tget t 22 = .int .i64 bs.length ∧ tget t 23 = .int .i64 i ∧ PlI h0 h b1 m ep u w (fun k => SBr bs ep i k ∨ (k.b = i ∧ B.fl ≤ k.e ∧ k.e ≤ ep)) (30 * i + 13)) ?_ ?_
      · refine W_loop (fun k s => ∃ (t : Fm AV) (h : Hp Fm) (e : Int), s = ⟨t, 84, h, none⟩ ∧ k = (ep + 1 - e).toNat ∧ B.fl ≤ e ∧ (e ≤ ep + 1 ∨ e = B.fl) ∧ tget t 1 = .ptr b1 0 ∧ tget t 3 = .mp m ∧ tget t 4 = .int .i64 ep ∧ tget t 5 = .int .i64 i ∧ tget t 7 = .int .i64 e ∧ tget t 21 = u ∧ tget t 22 = .int .i64 bs.length ∧ tget t 23 = .int .i64 i ∧ PlI h0 h b1 m ep u w (fun k => SBr bs ep i k ∨ (k.b = i ∧ B.fl ≤ k.e ∧ k.e < e)) (30 * i + (e - B.fl).toNat)) (ep + 1 - B.fl).toNat
          ⟨_, _, B.fl, rfl, rfl, by omega, .inr rfl, by simp [t1], by simp [t3], by simp [t4], by simp, by simp, by simp [t21], by simp [t22], by simp [t23], Ib.iff (fun x => by
            constructor
            · exact .inl
            · rintro (z | ⟨_, z1, z2⟩)
              · exact z
              · omega) (by omega)⟩ ?_
        clear t1 t3 t4 t21 t22 t23
        rintro _ _ ⟨t, hE, e, rfl, rfl, he1, he2, t1, t3, t4, t5, t7, t21, t22, t23, J⟩
        by_cases qe : e ≤ ep
        case neg =>
          repeat(first|with_reducible first|refine vmR ?_|refine vmV rfl ?_|refine vmW rfl ?_|refine vmL ?_|refine blockW_y (by decide) ?_|((with_reducible first|apply vmO|apply vmT|apply vmC);case a=>simp [t1, t3, t4, t5, t7, qe];with_reducible first|exact .v|exact .c|exact .t|exact .f))
          refine ⟨rfl, _, _, rfl, by simp [t1], by simp [t3], by simp [t4], by simp [t5], by simp [t21], by simp [t22], by simp [t23], J.iff (fun x => ?_) (by omega)⟩
          constructor
          · rintro (z | ⟨z0, z1, z2⟩)
            · exact .inl z
            · exact .inr ⟨z0, z1, by omega⟩
          · rintro (z | ⟨z0, z1, z2⟩)
            · exact .inl z
            · exact .inr ⟨z0, z1, by omega⟩
        obtain ⟨hF, u1, u2, u3⟩ := J.put ⟨i, e⟩
        simp only at u1
        have we : IntKind.i64.wrap (e + 1) = e + 1 := wrap64 (by omega) (by omega)
        repeat(first|with_reducible first|refine vmR ?_|refine vmV rfl ?_|refine vmW rfl ?_|refine vmL ?_|refine blockW_y (by decide) ?_|((with_reducible first|apply vmO|apply vmT|apply vmC);case a=>simp [t1, t3, t4, t5, t7, qe, u1, we];with_reducible first|exact .v|exact .c|exact .t|exact .f))
        refine ⟨(ep + 1 - (e + 1)).toNat, by omega, _, _, e + 1, rfl, rfl, by omega, by omega, by simp [t1], by simp [t3], by simp [t4], by simp [t5], by simp, by simp [t21], by simp [t22], by simp [t23], u2.iff (fun x => ?_) (by omega)⟩
        constructor
        · rintro ((z | ⟨z0, z1, z2⟩) | z)
          · exact .inl z
          · exact .inr ⟨z0, z1, by omega⟩
          · rw [z]; exact .inr ⟨rfl, he1, by show e < e + 1; omega⟩
        · rintro (z | ⟨z0, z1, z2⟩)
          · exact .inl (.inl z)
          · by_cases qq : x.e = e
            · refine .inr ?_
              obtain ⟨xb, xe⟩ := x
              simp only at z0 qq
              rw [z0, qq]
            · exact .inl (.inr ⟨z0, z1, by omega⟩)
      clear t1 t3 t4 t21 t22 t23
      rintro e s ⟨rfl, t, h2, rfl, t1, t3, t4, t5, t21, t22, t23, J⟩
      have rs2 := RS.he rs J.he
      have hp2 : h2.pol 48 = false := by rw [J.he.pol]; exact hp
      repeat(first|with_reducible first|refine vmR ?_|refine vmV rfl ?_|refine vmW rfl ?_|refine vmL ?_|refine blockW_y (by decide) ?_|((with_reducible first|apply vmO|apply vmT|apply vmC);case a=>simp [t1, t3, t4, t5, J.row, uc, ui];with_reducible first|exact .v|exact .c|exact .t|exact .f))
      refine A.mono (tpath_ans lo bs u ok i q ep h2 rs2 hp2) ?_
      rintro v h3 ⟨ac, e3⟩
      have J3 := J.new e3
      obtain ⟨pl, hpl⟩ : ∃ pl, pl = pathB bs i ep := ⟨_, rfl⟩
      have pll : pl.length ≤ i + 1 := by rw [hpl]; exact pathP_len _ _ _ _
      have pl1 : 1 ≤ pl.length := by rw [hpl]; simp [pathB, pathP]
      rw [← hpl] at ac
      obtain ⟨r, sd, svd⟩ := ac.sv.drop Try.underlying44 z48 (k := .i64) (i := 1) (by omega) (by rw [List.length_map]; omega)
      have vc := ac.sv.cells
      have vi := ac.sv.isCell
      have rc := svd.cells
      have ri := svd.isCell
      have rn := svd.nm
      have rl := svd.len Try.underlying44
      obtain ⟨dl, hdl⟩ : ∃ dl, dl = pl.drop 1 := ⟨_, rfl⟩
      have hdl2 : (pl.map encL).drop (1 : Int).toNat = dl.map encL := by rw [hdl, List.map_drop]; rfl
      rw [hdl2] at rl svd
      rw [List.length_map] at rl
      have dll : dl.length ≤ 16 := by rw [hdl, List.length_drop]; omega
      refine ⟨_, by simp; first | done | rfl, ?_⟩
      repeat(first|with_reducible first|refine vmR ?_|refine vmV rfl ?_|refine vmW rfl ?_|refine vmL ?_|refine blockW_y (by decide) ?_|((with_reducible first|apply vmO|apply vmT|apply vmC);case a=>simp [vc, vi, sd, rc, ri, rn, rl];with_reducible first|exact .v|exact .c|exact .t|exact .f))
      refine W.mono (R := fun e s => e = .exit 4 ∧ ∃ (t : Fm AV) (h : Hp Fm), s = ⟨t, 84, h, none⟩ ∧ tget t 1 = .ptr b1 0 ∧ tget t 3 = .mp m ∧ tget t 4 = .int .i64 ep ∧ tget t 21 = u ∧ tget t 22 = .int .i64 bs.length ∧ tget t 23 = .int .i64 i ∧ PlI h0 h b1 m ep u w (SBr bs ep ip) (30 * ip)) ?_ ?_
      · refine W_loop (fun k s => ∃ (t : Fm AV) (h : Hp Fm) (j : Nat), s = ⟨t, 84, h, none⟩ ∧ k = dl.length - j ∧ j ≤ dl.length ∧ tget t 1 = .ptr b1 0 ∧ tget t 3 = .mp m ∧ tget t 4 = .int .i64 ep ∧ tget t 21 = u ∧ tget t 22 = .int .i64 bs.length ∧ tget t 23 = .int .i64 i ∧ tget t 46 = r ∧ tget t 47 = .int .i64 dl.length ∧ tget t 48 = .int .i64 j ∧ PlI h0 h b1 m ep u w (fun k => (SBr bs ep i k ∨ (k.b = i ∧ B.fl ≤ k.e ∧ k.e ≤ ep)) ∨ k ∈ dl.take j) (30 * i + 13 + j)) dl.length
          ⟨_, _, 0, rfl, rfl, by omega, by simp [t1], by simp [t3], by simp [t4], by simp [t21], by simp [t22], by simp [t23], by simp, by simp, by simp, J3.iff (fun x => by simp) (by omega)⟩ ?_
        clear t1 t3 t4 t5 t21 t22 t23
        rintro _ _ ⟨t, h4, j, rfl, rfl, hj, t1, t3, t4, t21, t22, t23, t46, t47, t48, L⟩
        by_cases qj : j < dl.length
        case neg =>
          have qj' : ¬ ((j : Int) < dl.length) := by omega
          repeat(first|with_reducible first|refine vmR ?_|refine vmV rfl ?_|refine vmW rfl ?_|refine vmL ?_|refine blockW_y (by decide) ?_|((with_reducible first|apply vmO|apply vmT|apply vmC);case a=>simp [t1, t3, t4, t46, t47, t48, qj, qj'];with_reducible first|exact .v|exact .c|exact .t|exact .f))
          refine ⟨rfl, _, _, rfl, by simp [t1], by simp [t3], by simp [t4], by simp [t21], by simp [t22], by simp [t23], L.iff (fun x => ?_) (by omega)⟩
          rw [hip, SBr_succ q, ← hB, hd, List.take_of_length_le (by omega), hdl, hpl]
          constructor
          · rintro ((z | z) | z)
            · exact .inl z
            · exact .inr ⟨rfl, .inl z⟩
            · exact .inr ⟨rfl, .inr z⟩
          · rintro (z | ⟨_, z | z⟩)
            · exact .inl (.inl z)
            · exact .inl (.inr z)
            · exact .inr z
        have qj' : (j : Int) < dl.length := by omega
        obtain ⟨jp, hjp⟩ : ∃ jp, jp = j + 1 := ⟨_, rfl⟩
        have wjp : IntKind.i64.wrap ((j : Int) + 1) = (jp : Int) := by rw [wrap64 (by omega) (by omega)]; omega
        obtain ⟨x, hx⟩ : ∃ x, x = dl[j] := ⟨_, rfl⟩
        have ix := svd.idx (k := .i64) (i := (j : Int)) Try.underlying44 z48 (by omega) (by rw [List.length_map]; omega)
        replace ix : indexAddrAV Try.prog 44 r (.int .i64 (j : Int)) = some (.el (.agg [.int .i64 x.b, .int .i64 x.e]) 0) := by rw [ix]; simp [hx]
        obtain ⟨hc, hhc⟩ : ∃ hc : Hp Fm, hc = { h4 with obj := Mp.set (Mp.set h4.obj h4.no (.row [.int .i64 0, .int .i64 0])) h4.no (.row [.int .i64 x.b, .int .i64 x.e]), no := h4.no + 1 } := ⟨_, rfl⟩
        have ec : HE h4 hc := by rw [hhc]; exact ((HE.refl h4).new _).set (Nat.le_refl _) _
        have gc : Mp.get hc.obj h4.no = some (.row [.int .i64 x.b, .int .i64 x.e]) := by rw [hhc]; simp
        obtain ⟨hd2, u1, u2, u3⟩ := (L.new ec).put x
        repeat(first|with_reducible first|refine vmR ?_|refine vmV rfl ?_|refine vmW rfl ?_|refine vmL ?_|refine blockW_y (by decide) ?_|((with_reducible first|apply vmO|apply vmT|apply vmC);case a=>simp [t1, t3, t4, t46, t47, t48, qj, qj', ix];with_reducible first|exact .v|exact .c|exact .t|exact .f))
        rw [← hhc]
        repeat(first|with_reducible first|refine vmR ?_|refine vmV rfl ?_|refine vmW rfl ?_|refine vmL ?_|refine blockW_y (by decide) ?_|((with_reducible first|apply vmO|apply vmT|apply vmC);case a=>simp [t3, gc, u1, t48, wjp];with_reducible first|exact .v|exact .c|exact .t|exact .f))
        refine ⟨dl.length - jp, by omega, _, _, jp, rfl, rfl, by omega, by simp [t1], by simp [t3], by simp [t4], by simp [t21], by simp [t22], by simp [t23], by simp [t46], by simp [t47], by simp, u2.iff (fun y => ?_) (by omega)⟩
        rw [hjp, List.take_succ_eq_append_getElem qj, List.mem_append, List.mem_singleton, ← hx, or_assoc]
      clear t1 t3 t4 t5 t21 t22 t23
      rintro e s ⟨rfl, t, h5, rfl, t1, t3, t4, t21, t22, t23, L⟩
      repeat(first|with_reducible first|refine vmR ?_|refine vmV rfl ?_|refine vmW rfl ?_|refine vmL ?_|refine blockW_y (by decide) ?_|((with_reducible first|apply vmO|apply vmT|apply vmC);case a=>simp [t23, wip];with_reducible first|exact .v|exact .c|exact .t|exact .f))
      exact ⟨bs.length - ip, by omega, _, _, ip, rfl, rfl, by omega, by simp [t1], by simp [t3], by simp [t4], by simp [t21], by simp [t22], by simp, L⟩
  rintro e s ⟨rfl, t, h, rfl, t1, t3, I⟩
  have I1 := I.row
  repeat(first|with_reducible first|refine vmR ?_|refine vmV rfl ?_|refine vmW rfl ?_|refine vmL ?_|refine blockW_y (by decide) ?_|((with_reducible first|apply vmO|apply vmT|apply vmC);case a=>simp [t1, t3, I1, wc, wi, wn, wl];with_reducible first|exact .v|exact .c|exact .t|exact .f))
  refine W.mono (R := fun e s => e = .exit 6 ∧ ∃ (t : Fm AV) (h : Hp Fm), s = ⟨t, 84, h, none⟩ ∧ tget t 3 = .mp m ∧ PlI h0 h b1 m ep u w (placeS bs ep qs) (30 * bs.length + 5)) ?_ ?_
  · refine W_loop (fun k s => ∃ (t : Fm AV) (h : Hp Fm) (i : Nat), s = ⟨t, 84, h, none⟩ ∧ k = qs.length - i ∧ i ≤ qs.length ∧ tget t 1 = .ptr b1 0 ∧ tget t 3 = .mp m ∧ tget t 57 = w ∧ tget t 58 = .int .i64 qs.length ∧ tget t 59 = .int .i64 i ∧ PlI h0 h b1 m ep u w (fun k => SBr bs ep bs.length k ∨ SPo bs qs i k) (30 * bs.length + i)) qs.length
      ⟨_, _, 0, rfl, rfl, by omega, by simp [t1], by simp [t3], by simp, by simp, by simp, I.iff (fun x => by
        constructor
        · exact .inl
        · rintro (z | ⟨_, _, z, _⟩)
          · exact z
          · omega) (by omega)⟩ ?_
    clear t1 t3 I I1
    rintro _ _ ⟨t, h, i, rfl, rfl, hi, t1, t3, t57, t58, t59, I⟩
    by_cases q : i < qs.length
    case neg =>
      have q' : ¬ ((i : Int) < qs.length) := by omega
      have e : i = qs.length := by omega
      subst e
      repeat(first|with_reducible first|refine vmR ?_|refine vmV rfl ?_|refine vmW rfl ?_|refine vmL ?_|refine blockW_y (by decide) ?_|((with_reducible first|apply vmO|apply vmT|apply vmC);case a=>simp [t1, t3, t58, t59, q, q'];with_reducible first|exact .v|exact .c|exact .t|exact .f))
      exact ⟨rfl, _, _, rfl, by simp [t3], I.iff (fun x => Iff.rfl) (by omega)⟩
    have q' : (i : Int) < qs.length := by omega
    obtain ⟨ip, hip⟩ : ∃ ip, ip = i + 1 := ⟨_, rfl⟩
    have wip : IntKind.i64.wrap ((i : Int) + 1) = (ip : Int) := by rw [wrap64 (by omega) (by omega)]; omega
    obtain ⟨x, hx⟩ : ∃ x, x = qs[i] := ⟨_, rfl⟩
    have ix := kp.idx (k := .i64) (i := (i : Int)) Try.underlying24 z29 (by omega) (by rw [List.length_map]; omega)
    replace ix : indexAddrAV Try.prog 24 w (.int .i64 (i : Int)) = some (.el (.agg [.str x.nm, .int .i64 x.br, .int .i64 x.ep]) 0) := by rw [ix]; simp [hx]
    obtain ⟨hc, hhc⟩ : ∃ hc : Hp Fm, hc = { h with obj := Mp.set (Mp.set h.obj h.no (.row [.str [], .int .i64 0, .int .i64 0])) h.no (.row [.str x.nm, .int .i64 x.br, .int .i64 x.ep]), no := h.no + 1 } := ⟨_, rfl⟩
    have ec : HE h hc := by rw [hhc]; exact ((HE.refl h).new _).set (Nat.le_refl _) _
    have gc : Mp.get hc.obj h.no = some (.row [.str x.nm, .int .i64 x.br, .int .i64 x.ep]) := by rw [hhc]; simp
    have Ic := I.new ec
    have gr := Ic.row
    repeat(first|with_reducible first|refine vmR ?_|refine vmV rfl ?_|refine vmW rfl ?_|refine vmL ?_|refine blockW_y (by decide) ?_|((with_reducible first|apply vmO|apply vmT|apply vmC);case a=>simp [t1, t3, t57, t58, t59, q, q', ix];with_reducible first|exact .v|exact .c|exact .t|exact .f))
    rw [← hhc]
    by_cases c1 : 0 ≤ x.br
    case neg =>
      repeat(first|with_reducible first|refine vmR ?_|refine vmV rfl ?_|refine vmW rfl ?_|refine vmL ?_|refine blockW_y (by decide) ?_|((with_reducible first|apply vmO|apply vmT|apply vmC);case a=>simp [t1, t3, gc, c1, t59, wip];with_reducible first|exact .v|exact .c|exact .t|exact .f))
      refine ⟨qs.length - ip, by omega, _, _, ip, rfl, rfl, by omega, by simp [t1], by simp [t3], by simp [t57], by simp [t58], by simp, Ic.iff (fun y => ?_) (by omega)⟩
      rw [hip, SPo_succ q, ← hx]
      constructor
      · rintro (z | z)
        · exact .inl z
        · exact .inr (.inl z)
      · rintro (z | z | ⟨z, _⟩)
        · exact .inl z
        · exact .inr z
        · omega
    by_cases c2 : x.br < bs.length
    case neg =>
      repeat(first|with_reducible first|refine vmR ?_|refine vmV rfl ?_|refine vmW rfl ?_|refine vmL ?_|refine blockW_y (by decide) ?_|((with_reducible first|apply vmO|apply vmT|apply vmC);case a=>simp [t1, t3, gc, c1, c2, t59, wip, gr, uc, ui, un, ul];with_reducible first|exact .v|exact .c|exact .t|exact .f))
      refine ⟨qs.length - ip, by omega, _, _, ip, rfl, rfl, by omega, by simp [t1], by simp [t3], by simp [t57], by simp [t58], by simp, Ic.iff (fun y => ?_) (by omega)⟩
      rw [hip, SPo_succ q, ← hx]
      constructor
      · rintro (z | z)
        · exact .inl z
        · exact .inr (.inl z)
      · rintro (z | z | ⟨_, z, _⟩)
        · exact .inl z
        · exact .inr z
        · omega
    obtain ⟨hd2, u1, u2, u3⟩ := Ic.put ⟨x.br, x.ep⟩
    simp only at u1
    repeat(first|with_reducible first|refine vmR ?_|refine vmV rfl ?_|refine vmW rfl ?_|refine vmL ?_|refine blockW_y (by decide) ?_|((with_reducible first|apply vmO|apply vmT|apply vmC);case a=>simp [t1, t3, gc, c1, c2, t59, wip, gr, uc, ui, un, ul, u1];with_reducible first|exact .v|exact .c|exact .t|exact .f))
    refine ⟨qs.length - ip, by omega, _, _, ip, rfl, rfl, by omega, by simp [t1], by simp [t3], by simp [t57], by simp [t58], by simp, u2.iff (fun y => ?_) (by omega)⟩
    rw [hip, SPo_succ q, ← hx]
    constructor
    · rintro ((z | z) | z)
      · exact .inl z
      · exact .inr (.inl z)
      · exact .inr (.inr ⟨c1, c2, z⟩)
    · rintro (z | z | ⟨_, _, z⟩)
      · exact .inl (.inl z)
      · exact .inl (.inr z)
      · exact .inr z
  clear t1 t3 I I1
  rintro e s ⟨rfl, t, h, rfl, t3, I⟩
  have keys : A Try.prog TT (.func 22) [.mp m] h (fun r h' => r = .fn (.func 42) [] [.ptr h.no 0] ∧ h' = { h with obj := Mp.set h.obj h.no (.row [.mp m]), no := h.no + 1 }) := by
    apply A_go Try.func22 rfl (by rfl); (case hn => (simp [Try.ntmps22]; rfl))
    repeat(first|with_reducible first|refine vmR ?_|refine vmV rfl ?_|refine vmW rfl ?_|refine vmL ?_|refine blockW_y (by decide) ?_|((with_reducible first|apply vmO|apply vmT|apply vmC);case a=>simp;with_reducible first|exact .v|exact .c|exact .t|exact .f))
    (first | apply endW_r | apply endW_n); (case h1 => (simp [Try.results22]; first | done | rfl))
    exact ⟨rfl, rfl⟩
  repeat(first|with_reducible first|refine vmR ?_|refine vmV rfl ?_|refine vmW rfl ?_|refine vmL ?_|refine blockW_y (by decide) ?_|((with_reducible first|apply vmO|apply vmT|apply vmC);case a=>simp [t3];with_reducible first|exact .v|exact .c|exact .t|exact .f))
  refine A.mono keys ?_
  rintro _ h6 ⟨rfl, eh⟩
  have e6 : HE h h6 := by rw [eh]; exact (HE.refl h).new _
  have I6 := I.new e6
  obtain ⟨fs, es, clk, M⟩ := I6.ms
  have hbirth := M.en.births
  have hnd : (es.map (·.2.2)).Nodup := by rw [hbirth]; exact M.born.nd
  have hlt : ∀ e ∈ es, e.2.2 < clk := fun e he => by
    have : e.2.2 ∈ es.map (·.2.2) := List.mem_map_of_mem he
    rw [hbirth] at this
    obtain ⟨f, hf, e1⟩ := List.mem_map.mp this
    have := M.born.lt f hf; omega
  obtain ⟨ks, hks⟩ : ∃ ks : AV × AV × Nat → Lg, ks = fun e => match e.1 with | .agg [.int _ a, .int _ b] => ⟨a, b⟩ | _ => default := ⟨_, rfl⟩
  have hkc : ∀ e ∈ es, e.1 = encL (ks e) := fun e he => by
    obtain ⟨f, _, h1, _⟩ := M.en.mem he
    simp only [hks, h1, encL]
  have hmap : ∀ (fs : MK.Ents Lg Unit) (es : List (AV × AV × Nat)), MK.EntsR encL OneR fs es → es.map ks = fs.map (·.1) := by
    intro fs
    induction fs with
    | nil => intro es h; cases es with
      | nil => rfl
      | cons _ _ => exact h.elim
    | cons f fs ih => intro es h; cases es with
      | nil => exact h.elim
      | cons e es => rw [List.map_cons, List.map_cons, ih es h.2, hks]; simp only; rw [h.1.1]; rfl
  have n6 : h6.no = h.no + 1 := by rw [eh]
  refine ⟨_, by simp; first | done | rfl, ?_⟩
  repeat(first|with_reducible first|refine vmR ?_|refine vmV rfl ?_|refine vmW rfl ?_|refine vmL ?_|refine blockW_y (by decide) ?_|((with_reducible first|apply vmO|apply vmT|apply vmC);case a=>simp;with_reducible first|exact .v|exact .c|exact .t|exact .f))
  refine A.mono (sortedL_ans h.no m clk es hlt hnd ks hkc (by have := M.en.len; have := M.le; omega) h6 (by rw [eh]; simp) M.map (by omega) I6.mn) ?_
  rintro r h7 ⟨l, l1, l2, e7⟩
  have rc := l1.cells
  have ri := l1.isCell
  refine ⟨_, by simp; first | done | rfl, ?_⟩
  repeat(first|with_reducible first|refine vmR ?_|refine vmV rfl ?_|refine vmW rfl ?_|refine vmL ?_|refine blockW_y (by decide) ?_|((with_reducible first|apply vmO|apply vmT|apply vmC);case a=>simp [rc, ri];with_reducible first|exact .v|exact .c|exact .t|exact .f))
  (first | apply endW_r | apply endW_n); (case h1 => (simp [Try.results10]; first | done | rfl))
  have ll := l2.length_eq
  rw [List.length_map] at ll
  refine ⟨l, l1, fun k => ?_, by have := M.en.len; have := M.le; omega, I6.he.trans e7⟩
  rw [l2.mem_iff, hmap _ _ M.en, ← lookF_mem, M.mem k]
end Go.Vn
