/- What functions of the program come to, in the value machine (a part of the proof of the claim's statement). No condition. -/
import Derived.Test.YtpneooihcofbbaaVnDv
import Derived.Test.YtpneooihcofbbaaVnG1
set_option linter.unusedSimpArgs false
set_option linter.unusedVariables false
set_option maxRecDepth 20000
namespace Go.Vn
open Go.Proofs

theorem encB : EncOk byteAV 1 false := ⟨fun _ => .inr ⟨rfl, rfl, rfl, rfl⟩, fun _ => rfl, by omega⟩
theorem getB1 {l : List UInt8} {J : List AV} {i : Nat} (h : i < l.length) : partAV false 1 (clsE byteAV l ++ J) i = some (byteAV (gt l i)) := by have := getS encB (J := J) h; rwa [Nat.mul_one] at this
theorem setB1 {l : List UInt8} {J : List AV} {i : Nat} (x : UInt8) (h : i < l.length) : splice (clsE byteAV l ++ J) i [byteAV x] = clsE byteAV (l.set i x) ++ J := by have := setS encB (J := J) x h; rwa [Nat.mul_one] at this
theorem lenB1 {l : List UInt8} {J : List AV} {i : Nat} (h : i < l.length) : i + 1 ≤ (clsE byteAV l).length + J.length := by have := lenS encB (J := J) h; rwa [Nat.mul_one] at this
theorem flat_byte (l : List UInt8) : (l.map byteAV).flatMap AV.cells = clsE byteAV l := by
  induction l with
  | nil => rfl
  | cons a l ih => simp [clsE] at ih ⊢; exact ih
theorem DKs.hx {h h' : Hp Fm} {p m : Nat} {D : Dk} {S G : Nat → Prop} (k : DKs h p m D) (he : HX S G h h') (h1 : ¬ S p) (h2 : ¬ S m) : DKs h' p m D := by
  obtain ⟨es, e1, e2⟩ := k.map
  exact ⟨(he.obj p k.pn h1).trans k.row, ⟨es, (he.obj m k.mn h2).trans e1, e2⟩, Nat.lt_of_lt_of_le k.pn he.no, Nat.lt_of_lt_of_le k.mn he.no, k.born⟩
theorem add1 (b : UInt8) : IntKind.u8.wrap ((b.toNat : Int) + 1) = (((b + 1).toNat : Nat) : Int) := by
  have h : (b + 1).toNat = (b.toNat + 1) % 256 := by rw [UInt8.toNat_add]; rfl
  rw [h]
  simp only [IntKind.wrap, IntKind.signed, IntKind.bits]
  simp

theorem app_str (h : Hp Fm) (s x : AV) : appendAV Try.prog h 22 9 s x = appendAV Try.prog h 22 22 s x := by
  unfold appendAV
  simp [Try.underlying22, Try.underlying9, isIntD]


set_option maxHeartbeats 2000000 in
theorem diskowns_law (data : Tx) (v : AV) (hv : SV 1 (data.map byteAV) v) (hn : data.length ≤ 9223372036854775807) (h0 : Hp Fm) (hg : 0 < h0.ng) : A Try.prog TT (.func 3) [v] h0 (fun r h' => r = .bool true ∧ HE h0 h') := by
  obtain ⟨s, hs⟩ : ∃ s, s = data.take 30 := ⟨_, rfl⟩
  have hsl : s.length ≤ 30 := by rw [hs, List.length_take]; omega
  obtain ⟨hb, hhb⟩ : ∃ hb : Hp Fm, hb = { h0 with pol := (· == 5) } := ⟨_, rfl⟩
  have f0 : ∀ h' : Hp Fm, HE hb h' → HE h0 { h' with pol := h0.pol } := fun h' k => ⟨by have := k.no; rw [hhb] at this; exact this, by have := k.ng; rw [hhb] at this; exact this, rfl, by have := k.obj; rw [hhb] at this; exact this, by have := k.len; rw [hhb] at this; exact this⟩
  have gb : 0 < hb.ng := by rw [hhb]; exact hg
  have pb1 : hb.pol 5 = true := by rw [hhb]; rfl
  have pb2 : hb.pol 22 = false := by rw [hhb]; rfl
  have vc := hv.cells
  have vi := hv.isCell
  have cv := fun h => conv_txt h hv
  apply A_goT Try.func3 rfl (by rfl); (case hn => (simp [Try.ntmps3]; rfl))
  repeat (first|with_reducible refine vmR ?_|with_reducible refine vmV rfl ?_|with_reducible refine vmW rfl ?_|with_reducible refine blockW_y (by decide) ?_|with_reducible refine vmL ?_|((with_reducible first|apply vmO|apply vmT);(case a=>simp;with_reducible first|exact .v|exact .c))|((with_reducible apply vmC);(case e=>simp;with_reducible first|exact .t|exact .f)))
  rw [← hhb]
  refine A.mono (new_ans 1000 hb (by omega)) ?_
  rintro _ h1 ⟨p, m, rfl, d1, e1, pn, mn⟩
  have w1 := wf_new 1000 (by omega)
  refine ⟨_, by simp; first | done | rfl, ?_⟩
  repeat (first|with_reducible refine vmR ?_|with_reducible refine vmV rfl ?_|with_reducible refine vmW rfl ?_|with_reducible refine blockW_y (by decide) ?_|with_reducible refine vmL ?_|((with_reducible first|apply vmO|apply vmT);(case a=>simp [eqlAV, vc, vi, cv];with_reducible first|exact .v|exact .c))|((with_reducible apply vmC);(case e=>simp [eqlAV, vc, vi, cv];with_reducible first|exact .t|exact .f)))
  refine A.mono (few_ans data hn h1) ?_
  rintro _ hh ⟨rfl, ehh⟩
  rw [ehh, ← hs]
  clear ehh hh
  refine ⟨_, by simp; first | done | rfl, ?_⟩
  repeat (first|with_reducible refine vmR ?_|with_reducible refine vmV rfl ?_|with_reducible refine vmW rfl ?_|with_reducible refine blockW_y (by decide) ?_|with_reducible refine vmL ?_|((with_reducible first|apply vmO|apply vmT);(case a=>simp;with_reducible first|exact .v|exact .c))|((with_reducible apply vmC);(case e=>simp;with_reducible first|exact .t|exact .f)))
  have pp := d1.pn
  have mm := d1.mn
  have nE : Vn.newEls h1 1 false (.str s) = some (s.map byteAV) := by simp [newEls]
  have p1 : h1.pol 5 = true := by rw [e1.pol]; exact pb1
  have rs0 : RS h1.no h1 1 false (([] : List UInt8).map byteAV) .nils := .inl ⟨rfl, rfl⟩
  with_reducible apply WO_app_i; (case hw => (simp; done)); (case ho => rfl); (case hb => rfl); (case ha => (simp; first | done | exact ⟨rfl, rfl⟩ | rfl)); (case h1 => (simp; first | done | rfl)); (case h2 => (simp; first | done | rfl))
  rw [app_str]
  refine app_then (RS.appN etB rs0 (Nat.le_refl _) p1 nE (fitBs []) (fitBs s) (by simp; omega)) ?_
  rintro own h2 ⟨r2, x2, p2, q2⟩
  replace x2 : HX (isRow .nils) (fun _ => False) h1 h2 := x2
  rw [← List.map_append, List.nil_append] at r2
  have e2 : HE h1 h2 := ⟨x2.no, x2.ng, x2.pol, fun o ho => x2.obj o ho (by rintro ⟨_, _, _, _, _, e⟩; cases e), fun g hg => x2.len g hg (fun z => z)⟩
  have oc := r2.cells
  have oi := r2.isCell
  have cv2 := conv_txtR h2 r2
  refine ⟨_, by simp; first | done | rfl, ?_⟩
  repeat (first|with_reducible refine vmR ?_|with_reducible refine vmV rfl ?_|with_reducible refine vmW rfl ?_|with_reducible refine blockW_y (by decide) ?_|with_reducible refine vmL ?_|((with_reducible first|apply vmO|apply vmT);(case a=>simp [oc, oi, cv2];with_reducible first|exact .v|exact .c))|((with_reducible apply vmC);(case e=>simp [oc, oi, cv2];with_reducible first|exact .t|exact .f)))
  have d2 := d1.he e2
  refine A.mono (createW [97] (by simp) p m _ w1 h2 d2) ?_
  rintro _ h3 ⟨_, d3, e3⟩
  rw [D1k_new] at d3
  have r3 := r2.of e3 (fun q hq => by have := r2.rows q hq; omega)
  have y3 : HE hb h3 := (e1.trans e2).x2 e3 (fun q hq => by rcases hq with rfl | rfl <;> assumption) (fun _ z => z.elim)
  refine ⟨_, by simp; first | done | rfl, ?_⟩
  repeat (first|with_reducible refine vmR ?_|with_reducible refine vmV rfl ?_|with_reducible refine vmW rfl ?_|with_reducible refine blockW_y (by decide) ?_|with_reducible refine vmL ?_|((with_reducible first|apply vmO|apply vmT);(case a=>simp;with_reducible first|exact .v|exact .c))|((with_reducible apply vmC);(case e=>simp;with_reducible first|exact .t|exact .f)))
  refine A.mono (appendW [97] s own (by omega) p m _ (D1k_wf [] (by simp)) h3 d3 r3.bv (fun q hq => by have := r3.rows q hq; omega) (by rw [y3.pol]; exact pb2)) ?_
  rintro _ h4 ⟨_, d4, e4⟩
  rw [D1k_app [] s (by simp; omega), List.nil_append] at d4
  have r4 := r3.of e4 (fun q hq => by have := r3.rows q hq; omega)
  have y4 : HE hb h4 := y3.x2 e4 (fun q hq => by rcases hq with rfl | rfl <;> assumption) (fun _ z => z.elim)
  refine ⟨_, by simp; first | done | rfl, ?_⟩
  repeat (first|with_reducible refine vmR ?_|with_reducible refine vmV rfl ?_|with_reducible refine vmW rfl ?_|with_reducible refine blockW_y (by decide) ?_|with_reducible refine vmL ?_|((with_reducible first|apply vmO|apply vmT);(case a=>simp;with_reducible first|exact .v|exact .c))|((with_reducible apply vmC);(case e=>simp;with_reducible first|exact .t|exact .f)))
  clear oc oi cv2
  have hno := e1.no
  refine W.mono (R := fun e zs => e = .exit 0 ∧ ∃ (t : Fm AV) (h : Hp Fm), zs = ⟨t, 75, h, none⟩ ∧ tget t 3 = .ptr p 0 ∧ tget t 5 = .str s ∧ HX (fun z => hb.no ≤ z ∧ z ≠ p ∧ z ≠ m) (fun _ => False) h4 h) ?_ ?_
  · rcases id r4 with ⟨rfl, en⟩ | ⟨o, cap, rfl, hlo, ⟨J, j1, j2⟩, jc, jo⟩
    · refine W_loop_i ?_
      repeat (first|with_reducible refine vmR ?_|with_reducible refine vmV rfl ?_|with_reducible refine vmW rfl ?_|with_reducible refine blockW_y (by decide) ?_|with_reducible refine vmL ?_|((with_reducible first|apply vmO|apply vmT);(case a=>simp;with_reducible first|exact .v|exact .c))|((with_reducible apply vmC);(case e=>simp;with_reducible first|exact .t|exact .f)))
      exact ⟨rfl, _, _, rfl, by simp, by simp, HX.refl _ _ _⟩
    · rw [flat_byte] at j1
      rw [List.length_map] at jc j2
      obtain ⟨n, hn⟩ : ∃ n, n = (s.map byteAV).length := ⟨_, rfl⟩
      rw [← hn] at ⊢
      rw [List.length_map] at hn
      have op : o ≠ p := by omega
      have om : o ≠ m := by omega
      refine W_loop (fun mm zs => ∃ (t : Fm AV) (h : Hp Fm) (i : Nat) (l : List UInt8), zs = ⟨t, 75, h, none⟩ ∧ mm = n - i ∧ i ≤ n ∧ l.length = n ∧ tget t 4 = .rs o 0 1 false n cap ∧ tget t 6 = .int .i64 i ∧ tget t 3 = .ptr p 0 ∧ tget t 5 = .str s ∧ Mp.get h.obj o = some (.row (clsE byteAV l ++ J)) ∧ HX (fun z => hb.no ≤ z ∧ z ≠ p ∧ z ≠ m) (fun _ => False) h4 h) n
        ⟨_, _, 0, s, rfl, rfl, by omega, hn.symm, by simp, by simp, by simp, by simp, j1, HX.refl _ _ _⟩ ?_
      rintro mm zs ⟨t, h, i, l, rfl, rfl, hi, hl, u4, u6, u3, u5, jr, hx⟩
      by_cases q : i < n
      case neg =>
        have q' : ¬ (i : Int) < n := by omega
        repeat (first|with_reducible refine vmR ?_|with_reducible refine vmV rfl ?_|with_reducible refine vmW rfl ?_|with_reducible refine blockW_y (by decide) ?_|with_reducible refine vmL ?_|((with_reducible first|apply vmO|apply vmT);(case a=>simp [u4, u6, q, q'];with_reducible first|exact .v|exact .c))|((with_reducible apply vmC);(case e=>simp [u4, u6, q, q'];with_reducible first|exact .t|exact .f)))
        exact ⟨rfl, _, _, rfl, by simp [u3], by simp [u5], hx⟩
      have q' : (i : Int) < n := by omega
      have w1 : IntKind.i64.wrap ((i : Int) + 1) = ((i + 1 : Nat) : Int) := by rw [wrap64 (by omega) (by omega)]; simp
      have ix : indexAddrAV Try.prog 22 (.rs o 0 1 false n cap) (.int .i64 (i : Int)) = some (.ptr o i) := by
        rw [index_rs Try.underlying22 z5 (by omega) (by omega), Int.toNat_natCast, Nat.mul_one]
      have g1 := getB1 (J := J) (l := l) (i := i) (by omega)
      have i1 := lenB1 (J := J) (l := l) (i := i) (by omega)
      obtain ⟨nb, hnb⟩ : ∃ nb : UInt8, nb = gt l i + 1 := ⟨_, rfl⟩
      have st1 := setB1 (J := J) (l := l) (i := i) nb (by omega)
      have ad : IntKind.u8.wrap (((gt l i).toNat : Int) + 1) = ((nb.toNat : Nat) : Int) := by rw [hnb]; exact add1 _
      simp only [byteAV] at g1 st1
      skip
      repeat (first|with_reducible refine vmR ?_|with_reducible refine vmV rfl ?_|with_reducible refine vmW rfl ?_|with_reducible refine blockW_y (by decide) ?_|with_reducible refine vmL ?_|((with_reducible first|apply vmO|apply vmT);(case a=>simp [u4, u6, q, q', ix, jr, g1, i1, ad, st1, w1];with_reducible first|exact .v|exact .c))|((with_reducible apply vmC);(case e=>simp [u4, u6, q, q', ix, jr, g1, i1, ad, st1, w1];with_reducible first|exact .t|exact .f)))
      refine ⟨n - (i + 1), by omega, _, _, i + 1, l.set i nb, rfl, rfl, by omega, by simpa using hl, by simp [u4], by simp, by simp [u3], by simp [u5], by simp, ?_⟩
      exact hx.set (o := o) (fun _ => by omega) _
  rintro e zs ⟨rfl, t, h5, rfl, t3, t5, x5⟩
  have y5 : HE hb h5 := y4.x2 x5 (fun q hq => hq.1) (fun _ z => z.elim)
  have d5 := d4.hx x5 (fun z => z.2.1 rfl) (fun z => z.2.2 rfl)
  have w5 := D1k_wf s (by omega)
  repeat (first|with_reducible refine vmR ?_|with_reducible refine vmV rfl ?_|with_reducible refine vmW rfl ?_|with_reducible refine blockW_y (by decide) ?_|with_reducible refine vmL ?_|((with_reducible first|apply vmO|apply vmT);(case a=>simp [t3, t5];with_reducible first|exact .v|exact .c))|((with_reducible apply vmC);(case e=>simp [t3, t5];with_reducible first|exact .t|exact .f)))
  refine A.mono (readW [97] 0 1000 p m _ w5 h5 d5) ?_
  rintro _ h6 ⟨b6, rfl, k6, e6⟩
  have r0 := D1k_read s 0 1000
  rw [show ((1000 : Nat) : Int) = 1000 from rfl, show ((0 : Nat) : Int) = 0 from rfl, List.drop_zero, List.take_of_length_le (by omega)] at r0
  rw [r0] at k6 ⊢
  simp only [NB, show h5.pol 5 = true by rw [y5.pol]; exact pb1, if_true] at k6
  have y6 := y5.trans e6
  have d6 := d5.he e6
  have bc6 := k6.cells
  have bi6 := k6.isCell
  have cv6 := conv_txtR h6 k6
  refine ⟨_, by simp; first | done | rfl, ?_⟩
  repeat (first|with_reducible refine vmR ?_|with_reducible refine vmV rfl ?_|with_reducible refine vmW rfl ?_|with_reducible refine blockW_y (by decide) ?_|with_reducible refine vmL ?_|((with_reducible first|apply vmO|apply vmT);(case a=>simp [t3, t5, bc6, bi6, cv6];with_reducible first|exact .v|exact .c))|((with_reducible apply vmC);(case e=>simp [t3, t5, bc6, bi6, cv6];with_reducible first|exact .t|exact .f)))
  have hno5 := y5.no
  have pp5 := d5.pn
  have mm5 := d5.mn
  clear bc6 bi6 cv6
  refine W.mono (R := fun e zs => e = .exit 2 ∧ ∃ (t : Fm AV) (h : Hp Fm), zs = ⟨t, 75, h, none⟩ ∧ tget t 3 = .ptr p 0 ∧ tget t 5 = .str s ∧ tget t 9 = .str s ∧ HX (fun z => hb.no ≤ z ∧ z ≠ p ∧ z ≠ m) (fun _ => False) h6 h) ?_ ?_
  · rcases id k6 with ⟨rfl, en⟩ | ⟨o, cap, rfl, hlo, ⟨J, j1, j2⟩, jc, jo⟩
    · refine W_loop_i ?_
      repeat (first|with_reducible refine vmR ?_|with_reducible refine vmV rfl ?_|with_reducible refine vmW rfl ?_|with_reducible refine blockW_y (by decide) ?_|with_reducible refine vmL ?_|((with_reducible first|apply vmO|apply vmT);(case a=>simp;with_reducible first|exact .v|exact .c))|((with_reducible apply vmC);(case e=>simp;with_reducible first|exact .t|exact .f)))
      exact ⟨rfl, _, _, rfl, by simp [t3], by simp [t5], by simp, HX.refl _ _ _⟩
    · rw [flat_byte] at j1
      rw [List.length_map] at jc j2
      obtain ⟨n, hn⟩ : ∃ n, n = (s.map byteAV).length := ⟨_, rfl⟩
      rw [← hn] at ⊢
      rw [List.length_map] at hn
      have op : o ≠ p := by omega
      have om : o ≠ m := by omega
      refine W_loop (fun mm zs => ∃ (t : Fm AV) (h : Hp Fm) (i : Nat) (l : List UInt8), zs = ⟨t, 75, h, none⟩ ∧ mm = n - i ∧ i ≤ n ∧ l.length = n ∧ tget t 7 = .rs o 0 1 false n cap ∧ tget t 10 = .int .i64 i ∧ tget t 3 = .ptr p 0 ∧ tget t 5 = .str s ∧ tget t 9 = .str s ∧ Mp.get h.obj o = some (.row (clsE byteAV l ++ J)) ∧ HX (fun z => hb.no ≤ z ∧ z ≠ p ∧ z ≠ m) (fun _ => False) h6 h) n
        ⟨_, _, 0, s, rfl, rfl, by omega, hn.symm, by simp, by simp, by simp [t3], by simp [t5], by simp, j1, HX.refl _ _ _⟩ ?_
      rintro mm zs ⟨t, h, i, l, rfl, rfl, hi, hl, u4, u6, u3, u5, u9, jr, hx⟩
      by_cases q : i < n
      case neg =>
        have q' : ¬ (i : Int) < n := by omega
        repeat (first|with_reducible refine vmR ?_|with_reducible refine vmV rfl ?_|with_reducible refine vmW rfl ?_|with_reducible refine blockW_y (by decide) ?_|with_reducible refine vmL ?_|((with_reducible first|apply vmO|apply vmT);(case a=>simp [u4, u6, q, q'];with_reducible first|exact .v|exact .c))|((with_reducible apply vmC);(case e=>simp [u4, u6, q, q'];with_reducible first|exact .t|exact .f)))
        exact ⟨rfl, _, _, rfl, by simp [u3], by simp [u5], by simp [u9], hx⟩
      have q' : (i : Int) < n := by omega
      have w1 : IntKind.i64.wrap ((i : Int) + 1) = ((i + 1 : Nat) : Int) := by rw [wrap64 (by omega) (by omega)]; simp
      have ix : indexAddrAV Try.prog 22 (.rs o 0 1 false n cap) (.int .i64 (i : Int)) = some (.ptr o i) := by
        rw [index_rs Try.underlying22 z5 (by omega) (by omega), Int.toNat_natCast, Nat.mul_one]
      have g1 := getB1 (J := J) (l := l) (i := i) (by omega)
      have i1 := lenB1 (J := J) (l := l) (i := i) (by omega)
      obtain ⟨nb, hnb⟩ : ∃ nb : UInt8, nb = 9 := ⟨_, rfl⟩
      have st1 := setB1 (J := J) (l := l) (i := i) nb (by omega)
      have ad : ((nb.toNat : Nat) : Int) = 9 := by rw [hnb]; rfl
      simp only [byteAV] at g1 st1
      rw [ad] at st1
      repeat (first|with_reducible refine vmR ?_|with_reducible refine vmV rfl ?_|with_reducible refine vmW rfl ?_|with_reducible refine blockW_y (by decide) ?_|with_reducible refine vmL ?_|((with_reducible first|apply vmO|apply vmT);(case a=>simp [u4, u6, q, q', ix, jr, g1, i1, ad, st1, w1];with_reducible first|exact .v|exact .c))|((with_reducible apply vmC);(case e=>simp [u4, u6, q, q', ix, jr, g1, i1, ad, st1, w1];with_reducible first|exact .t|exact .f)))
      refine ⟨n - (i + 1), by omega, _, _, i + 1, l.set i nb, rfl, rfl, by omega, by simpa using hl, by simp [u4], by simp, by simp [u3], by simp [u5], by simp [u9], by simp, ?_⟩
      exact hx.set (o := o) (fun _ => by omega) _
  clear t3 t5
  rintro e zs ⟨rfl, t, h7, rfl, t3, t5, t9, x7⟩
  have y7 : HE hb h7 := y6.x2 x7 (fun q hq => hq.1) (fun _ z => z.elim)
  have d7 := d6.hx x7 (fun z => z.2.1 rfl) (fun z => z.2.2 rfl)
  repeat (first|with_reducible refine vmR ?_|with_reducible refine vmV rfl ?_|with_reducible refine vmW rfl ?_|with_reducible refine blockW_y (by decide) ?_|with_reducible refine vmL ?_|((with_reducible first|apply vmO|apply vmT);(case a=>simp [t3, t5, t9];with_reducible first|exact .v|exact .c))|((with_reducible apply vmC);(case e=>simp [t3, t5, t9];with_reducible first|exact .t|exact .f)))
  refine A.mono (readW [97] 0 1000 p m _ w5 h7 d7) ?_
  rintro _ h8 ⟨b8, rfl, k8, e8⟩
  rw [r0] at k8 ⊢
  simp only [NB, show h7.pol 5 = true by rw [y7.pol]; exact pb1, if_true] at k8
  have y8 := y7.trans e8
  have bc8 := k8.cells
  have bi8 := k8.isCell
  have cv8 := conv_txtR h8 k8
  have q1 := eqB_rf s
  refine ⟨_, by simp; first | done | rfl, ?_⟩
  repeat (first|with_reducible refine vmR ?_|with_reducible refine vmV rfl ?_|with_reducible refine vmW rfl ?_|with_reducible refine blockW_y (by decide) ?_|with_reducible refine vmL ?_|((with_reducible first|apply vmO|apply vmT);(case a=>simp [t3, t5, t9, bc8, bi8, cv8, q1];with_reducible first|exact .v|exact .c))|((with_reducible apply vmC);(case e=>simp [t3, t5, t9, bc8, bi8, cv8, q1];with_reducible first|exact .t|exact .f)))
  refine A.mono (lives_ans h8 (by have := y8.ng; omega)) ?_
  rintro _ h9 ⟨rfl, e9⟩
  refine ⟨_, by simp; first | done | rfl, ?_⟩
  repeat (first|with_reducible refine vmR ?_|with_reducible refine vmV rfl ?_|with_reducible refine vmW rfl ?_|with_reducible refine blockW_y (by decide) ?_|with_reducible refine vmL ?_|((with_reducible first|apply vmO|apply vmT);(case a=>simp;with_reducible first|exact .v|exact .c))|((with_reducible apply vmC);(case e=>simp;with_reducible first|exact .t|exact .f)))
  (first | apply endW_r | apply endW_n); (case h1 => (simp [Try.results3]; first | done | rfl))
  exact ⟨rfl, f0 _ (y8.trans e9)⟩
end Go.Vn
