/- What functions of the program come to, in the value machine (a part of the proof of the claim's statement). No condition. -/
import Derived.Test.YtbkneahjobgbiaaVnH5
import Derived.Test.YtbkneahjobgbiaaVnB6
set_option linter.unusedSimpArgs false
set_option linter.unusedVariables false
set_option maxRecDepth 20000
namespace Go.Vn
open Go.Proofs Go.ChangeShapes Go.WideShapes Go.ChangeAt Go.RowKit

/-- A group as it is handed in. -/
structure Gr where
  ep : Int
  rv : AV
  vs : List Ver
@[simp] def encGr (g : Gr) : AV := .agg [.int .i64 g.ep, g.rv]
def VBig (v : Ver) : Prop := v.key.length ≤ 9223372036854775807 ∧ v.val.length ≤ 9223372036854775807
structure GrOk (g : Gr) : Prop where
  sv : SV 8 (g.vs.map encV) g.rv
  len : g.vs.length ≤ 9223372036854775807
  big : ∀ v ∈ g.vs, VBig v
  i64 : -9223372036854775808 ≤ g.ep ∧ g.ep ≤ 9223372036854775807
theorem el_ver {x : AV} (h : DeepEl Try.prog 58 x) : ∃ v : Ver, x = encV v ∧ VBig v := by
  obtain ⟨parts, rfl, hp⟩ := deep_struct Try.underlying58 a58 h
  obtain ⟨k, hk, lk⟩ := deep_strv Try.underlying9 (hp 0 _ rfl)
  obtain ⟨p1, e1, h1⟩ := deep_structv Try.underlying54 (hp 1 _ rfl)
  obtain ⟨p2, e2, h2⟩ := deep_structv Try.underlying56 (hp 2 _ rfl)
  obtain ⟨w, hw, lw⟩ := deep_strv Try.underlying9 (hp 3 _ rfl)
  obtain ⟨g, hg⟩ := deep_boolv Try.underlying4 (hp 4 _ rfl)
  obtain ⟨a, ha, _⟩ := deep_intv Try.underlying3 (h1 0 _ rfl)
  obtain ⟨b, hb, _⟩ := deep_intv Try.underlying3 (h1 1 _ rfl)
  obtain ⟨c, hc, _⟩ := deep_intv Try.underlying3 (h1 2 _ rfl)
  obtain ⟨d, hd, _⟩ := deep_intv Try.underlying3 (h2 0 _ rfl)
  obtain ⟨e, he, _⟩ := deep_intv Try.underlying3 (h2 1 _ rfl)
  refine ⟨⟨k, a, b, c, d, e, w, g⟩, ?_, Nat.le_trans lk (by decide), Nat.le_trans lw (by decide)⟩
  show AV.agg ((List.range 5).flatMap parts) = _
  simp [List.range_succ, hk, e1, e2, hw, hg, ha, hb, hc, hd, he]
theorem el_group {x : AV} (h : DeepEl Try.prog 32 x) : ∃ g : Gr, x = encGr g ∧ GrOk g := by
  obtain ⟨parts, rfl, hp⟩ := deep_struct Try.underlying32 a32 h
  obtain ⟨n, hn, hnb⟩ := deep_intv Try.underlying3 (hp 0 _ rfl)
  obtain ⟨a, els, ha, h1, h2, h3⟩ := deep_slicev Try.underlying30 (hp 1 _ rfl)
  have hc : Try.prog.cellsOf 58 = 8 := by kernel_rfl
  rw [hc] at h1
  obtain ⟨l, rfl, hl⟩ := map_of encV VBig els (fun x hx => el_ver (h3 x hx))
  refine ⟨⟨n, a, l⟩, ?_, h1, Nat.le_trans (by simpa using h2) (by decide), hl, hnb⟩
  show AV.agg ((List.range 2).flatMap parts) = _
  simp [List.range_succ, hn, ha]
theorem el_groups {x : AV} (h : DeepEl Try.prog 22 x) : ∃ l : List Gr, SV 2 (l.map encGr) x ∧ l.length ≤ 9223372036854775807 ∧ ∀ g ∈ l, GrOk g := by
  obtain ⟨els, h1, h2, h3⟩ := deep_slice Try.underlying22 a22 h
  have hc : Try.prog.cellsOf 32 = 2 := by kernel_rfl
  rw [hc] at h1
  obtain ⟨l, rfl, hl⟩ := map_of encGr GrOk els (fun x hx => el_group (h3 x hx))
  exact ⟨l, h1, Nat.le_trans (by simpa using h2) (by decide), hl⟩
end Go.Vn

set_option maxRecDepth 20000
namespace Go.Vn
open Go.Proofs

theorem gmay_all {ep : Int} {vs : List Ver} (h : GMay ep vs = true) : (1 ≤ ep ∧ ep ≤ 10000) ∧ ∀ v ∈ vs, VMay v = true ∧ v.ep = ep := by
  unfold GMay at h
  simp only [Bool.and_eq_true, decide_eq_true_eq, Bool.not_eq_true', List.any_eq_false] at h
  refine ⟨h.1, fun v hv => ?_⟩
  have := h.2 v hv
  unfold vOdd at this
  simpa using this
theorem cut_small {ep : Int} {vs : List Ver} : ∀ v ∈ cutG ep vs, VSmall v := by
  intro v hv
  obtain ⟨x, _, rfl⟩ := List.mem_map.mp hv
  constructor
  · show (x.key.take 110).length ≤ 1000
    rw [List.length_take]; omega
  · show (x.val.take 210).length ≤ 1000
    rw [List.length_take]; omega
theorem cut_len {ep : Int} {vs : List Ver} : (cutG ep vs).length ≤ 4 := by
  unfold cutG; rw [List.length_map, List.length_take]; omega
theorem walApp_no (ok : Bool) (ep last : Int) (k bs : Tx) (D : Dk) (h : ok = false ∨ ep ≤ last) : walApp ok ep last false k bs D = (1, last, false, D) := by
  unfold walApp; rw [if_pos h]
/-- The bytes of a file of one log. -/
def fileD (cs : Tx) : Dk := oneD logN cs 1 2 100000
theorem used_fileD (cs : Tx) : used (fileD cs).fs = cs.length := by simp [fileD, oneD, used]

/-- A group appended to a log that has room. -/
theorem wapp_ans (ep : Int) (vs : List Ver) (rv : AV) (cs : Tx) (last : Int) (h0 : Hp Fm) (k : SV 8 (vs.map encV) rv) (hl : vs.length ≤ 4) (hs : ∀ v ∈ vs, VSmall v) (hp : ∀ z, h0.pol z = false) (p m q : Nat) (w : (fileD cs).wf) (d : DKs h0 p m (fileD cs)) (lg : LGs h0 q p logN last false) (n5 : q ≠ p) (n6 : q ≠ m) (room : cs.length + 8400 ≤ 100000) :
    A Try.prog TT (.func 9) [.ptr q 0, .agg [.int .i64 ep, rv]] h0 (fun r h' =>
      (((GMay ep vs = false ∨ ep ≤ last) ∧ r = .int .i64 1 ∧ DKs h' p m (fileD cs) ∧ LGs h' q p logN last false) ∨
       (GMay ep vs = true ∧ last < ep ∧ r = .int .i64 0 ∧ DKs h' p m (fileD (cs ++ frame (encG ep vs))) ∧ (fileD (cs ++ frame (encG ep vs))).wf ∧ LGs h' q p logN ep false)) ∧ HX (fun o => o = p ∨ o = m ∨ o = q) (fun _ => False) h0 h') := by
  have c1 := k.cells
  have i1 := k.isCell
  have key : (encG ep vs).length ≤ 16000000 ∨ GMay ep vs = false := by
    cases hg : GMay ep vs with
    | false => exact .inr rfl
    | true =>
      obtain ⟨h1, h2⟩ := gmay_all hg
      have := encG_len (ep := ep) (vs := vs) ⟨by omega, h1.2⟩ (by omega) (fun v hv => (h2 v hv).1) hs
      exact .inl (by omega)
  cases hg : GMay ep vs with
  | false =>
    refine A.mono (wappend_ans false ep last false logN [] rv (by simp) c1 i1 p m q _ w h0 d lg n5 n6 hp (fun h hp' => by rw [← hg]; exact wmay_ans ep vs rv h k (by omega) (fun v hv => by have := (hs v hv).1; omega) hp') (fun z => by cases z)) ?_
    rw [walApp_no false ep last logN [] _ (.inl rfl)]
    rintro _ h1 ⟨rfl, d1, _, lg1, x1⟩
    exact ⟨.inl ⟨.inl rfl, rfl, d1, lg1⟩, x1⟩
  | true =>
    obtain ⟨h1, h2⟩ := gmay_all hg
    have gl := encG_len (ep := ep) (vs := vs) ⟨by omega, h1.2⟩ (by omega) (fun v hv => (h2 v hv).1) hs
    refine A.mono (wappend_ans true ep last false logN (encG ep vs) rv (by omega) c1 i1 p m q _ w h0 d lg n5 n6 hp (fun h hp' => by rw [← hg]; exact wmay_ans ep vs rv h k (by omega) (fun v hv => by have := (hs v hv).1; omega) hp') (fun _ h hp' => wwrite_ans ep vs rv h k (by omega) (by omega) (fun v hv => (h2 v hv).1) hs hp')) ?_
    by_cases qe : ep ≤ last
    · rw [walApp_no true ep last logN _ _ (.inr qe)]
      rintro _ h1 ⟨rfl, d1, _, lg1, x1⟩
      exact ⟨.inl ⟨.inr qe, rfl, d1, lg1⟩, x1⟩
    · have := walApp_one logN cs (encG ep vs) 1 2 100000 ep last (by omega) (by omega)
      unfold fileD
      rw [this]
      rintro _ h1 ⟨rfl, d1, w1, lg1, x1⟩
      exact ⟨.inr ⟨rfl, by omega, rfl, d1, w1, lg1⟩, x1⟩

set_option maxHeartbeats 8000000 in
theorem walbytes_law (l : List Gr) (v : AV) (hv : SV 2 (l.map encGr) v) (hl : l.length ≤ 9223372036854775807) (hok : ∀ g ∈ l, GrOk g) (h0 : Hp Fm) (hp : ∀ z, h0.pol z = false) :
    A Try.prog TT (.func 3) [v] h0 (fun r h' => r = .bool true ∧ HE h0 h') := by
  have c1 := hv.cells
  have i1 := hv.isCell
  have n1 := hv.nm
  have l1 := hv.len Try.underlying22
  rw [List.length_map] at l1
  apply A_go Try.func3 rfl (by rfl); (case hn => (simp [Try.ntmps3]; rfl))
  repeat (first|with_reducible refine vmR ?_|with_reducible refine vmV rfl ?_|with_reducible refine vmW rfl ?_|with_reducible refine blockW_y (by decide) ?_|with_reducible refine vmL ?_|((with_reducible first|apply vmO|apply vmT);(case a=>simp;with_reducible first|exact .v|exact .c))|((with_reducible apply vmC);(case e=>simp;with_reducible first|exact .t|exact .f)))
  refine A.mono (new_ans 100000 h0 (by omega)) ?_
  rintro _ h1 ⟨p, m, rfl, d1, e1, pn, mn⟩
  have w1 := wf_new 100000 (by omega)
  have p1 : ∀ z, h1.pol z = false := fun z => by rw [e1.pol]; exact hp z
  refine ⟨_, by simp; first | done | rfl, ?_⟩
  repeat (first|with_reducible refine vmR ?_|with_reducible refine vmV rfl ?_|with_reducible refine vmW rfl ?_|with_reducible refine blockW_y (by decide) ?_|with_reducible refine vmL ?_|((with_reducible first|apply vmO|apply vmT);(case a=>simp;with_reducible first|exact .v|exact .c))|((with_reducible apply vmC);(case e=>simp;with_reducible first|exact .t|exact .f)))
  refine A.mono (wcreate_ans logN (by decide) p m _ w1 h1 d1 p1) ?_
  rintro r h2 ⟨d2, x2, hr⟩
  have w2 := wf_fresh w1 logN []
  have fr := fresh_new logN named_log 100000 (by omega)
  rw [fr] at d2 w2 hr
  rcases hr with ⟨_, q, rfl, lg, hq⟩ | ⟨z, _⟩
  case inr => exact absurd rfl z
  have n5 : q ≠ p := by have := d1.pn; omega
  have n6 : q ≠ m := by have := d1.mn; omega
  have qn : h0.no ≤ q := by have := e1.no; omega
  have e2 : HE h0 h2 := e1.x2 x2 (fun o ho => by rcases ho with rfl | rfl <;> assumption) (fun _ z => z.elim)
  refine ⟨_, by simp; first | done | rfl, ?_⟩
  repeat (first|with_reducible refine vmR ?_|with_reducible refine vmV rfl ?_|with_reducible refine vmW rfl ?_|with_reducible refine blockW_y (by decide) ?_|with_reducible refine vmL ?_|((with_reducible first|apply vmO|apply vmT);(case a=>simp [eqlAV];with_reducible first|exact .v|exact .c))|((with_reducible apply vmC);(case e=>simp [eqlAV];with_reducible first|exact .t|exact .f)))
  refine W.mono (R := fun e s => e = .exit 0 ∧ ∃ (t : Fm AV) (h : Hp Fm) (cs : Tx) (u : AV), s = ⟨t, 80, h, none⟩ ∧ cs.length ≤ 60000 ∧ tget t 3 = .ptr p 0 ∧ tget t 6 = u ∧ AC h0 h 1 (cs.map byteAV) u ∧ HE h0 h ∧ DKs h p m (fileD cs) ∧ (fileD cs).wf) ?_ ?_
  · refine W_loop (fun mm s => ∃ (t : Fm AV) (h : Hp Fm) (i : Nat) (cs : Tx) (last : Int) (u : AV), s = ⟨t, 80, h, none⟩ ∧ mm = 6 - i ∧ i ≤ 6 ∧ i ≤ l.length ∧ cs.length ≤ i * 8400 ∧ tget t 0 = v ∧ tget t 3 = .ptr p 0 ∧ tget t 4 = .ptr q 0 ∧ tget t 6 = u ∧ tget t 7 = .int .i64 last ∧ tget t 8 = .int .i64 i ∧ AC h0 h 1 (cs.map byteAV) u ∧ HE h0 h ∧ DKs h p m (fileD cs) ∧ (fileD cs).wf ∧ LGs h q p logN last false) 6
      ⟨_, _, 0, [], 0, .nils, rfl, rfl, by omega, by omega, by simp, by simp, by simp, by simp, by simp, by simp, by simp, .inl ⟨rfl, rfl⟩, e2, d2, w2, lg⟩ ?_
    rintro mm s ⟨t, h, i, cs, last, u, rfl, rfl, hi6, hi, hcl, t0, t3, t4, t6, t7, t8, hu, he, dk, wk, lgk⟩
    have uc := hu.sv.cells
    have ui := hu.sv.isCell
    have hph : ∀ z, h.pol z = false := fun z => by rw [he.pol]; exact hp z
    by_cases qq : i < l.length ∧ i < 6
    case neg =>
      by_cases qa : i < l.length
      · have qa' : (i : Int) < l.length := by omega
        have qb : ¬ i < 6 := by omega
        have qb' : ¬ (i : Int) < 6 := by omega
        repeat (first|with_reducible refine vmR ?_|with_reducible refine vmV rfl ?_|with_reducible refine vmW rfl ?_|with_reducible refine blockW_y (by decide) ?_|with_reducible refine vmL ?_|((with_reducible first|apply vmO|apply vmT);(case a=>simp [t0, t8, c1, i1, n1, l1, qa, qa', qb, qb'];with_reducible first|exact .v|exact .c))|((with_reducible apply vmC);(case e=>simp [t0, t8, c1, i1, n1, l1, qa, qa', qb, qb'];with_reducible first|exact .t|exact .f)))
        exact ⟨rfl, _, _, cs, u, rfl, by omega, by simp [t3], by simp [t6], hu, he, dk, wk⟩
      · have qa' : ¬ (i : Int) < l.length := by omega
        repeat (first|with_reducible refine vmR ?_|with_reducible refine vmV rfl ?_|with_reducible refine vmW rfl ?_|with_reducible refine blockW_y (by decide) ?_|with_reducible refine vmL ?_|((with_reducible first|apply vmO|apply vmT);(case a=>simp [t0, t8, c1, i1, n1, l1, qa, qa'];with_reducible first|exact .v|exact .c))|((with_reducible apply vmC);(case e=>simp [t0, t8, c1, i1, n1, l1, qa, qa'];with_reducible first|exact .t|exact .f)))
        exact ⟨rfl, _, _, cs, u, rfl, by omega, by simp [t3], by simp [t6], hu, he, dk, wk⟩
    obtain ⟨qa, qb⟩ := qq
    have qa' : (i : Int) < l.length := by omega
    have qb' : (i : Int) < 6 := by omega
    obtain ⟨x, hx⟩ : ∃ x, x = l[i] := ⟨_, rfl⟩
    have ix := hv.idx (k := .i64) (i := (i : Int)) Try.underlying22 z32 (by omega) (by simp; omega)
    have ig : (l.map encGr)[i]'(by simp; omega) = encGr x := by simp [hx]
    simp only [Int.toNat_natCast, ig] at ix
    have gx := hok x (by rw [hx]; exact List.getElem_mem qa)
    have wi : IntKind.i64.wrap ((i : Int) + 1) = ((i + 1 : Nat) : Int) := by rw [wrap64 (by omega) (by omega)]; simp
    clear hx
    obtain ⟨ep, rv, vs⟩ := x
    obtain ⟨gsv, glen, gbig, gi⟩ := gx
    simp only at gsv glen gbig gi
    repeat (first|with_reducible refine vmR ?_|with_reducible refine vmV rfl ?_|with_reducible refine vmW rfl ?_|with_reducible refine blockW_y (by decide) ?_|with_reducible refine vmL ?_|((with_reducible first|apply vmO|apply vmT);(case a=>simp [t0, t8, c1, i1, n1, l1, qa, qa', qb, qb', ix];with_reducible first|exact .v|exact .c))|((with_reducible apply vmC);(case e=>simp [t0, t8, c1, i1, n1, l1, qa, qa', qb, qb', ix];with_reducible first|exact .t|exact .f)))
    refine A.mono (cut15_ans ep vs rv h gsv glen gbig hph) ?_
    rintro _ h3 ⟨u3, rfl, s3, e3⟩
    have c3 := s3.cells
    have i3 := s3.isCell
    have cl := cut_len (ep := ep) (vs := vs)
    have csm := cut_small (ep := ep) (vs := vs)
    obtain ⟨cv, hcv⟩ : ∃ cv, cv = cutG ep vs := ⟨_, rfl⟩
    rw [← hcv] at s3 cl csm
    obtain ⟨hs, hhs⟩ : ∃ hs : Hp Fm, hs = { h3 with obj := Mp.set (Mp.set h3.obj h3.no (.row [.int .i64 0, .nils])) h3.no (.row [.int .i64 ep, u3]), no := h3.no + 1 } := ⟨_, rfl⟩
    have es : HE h3 hs := by rw [hhs]; exact ((HE.refl h3).new _).set (Nat.le_refl _) _
    have gs : Mp.get hs.obj h3.no = some (.row [.int .i64 ep, u3]) := by rw [hhs]; simp
    have gn : h3.no < hs.no := by rw [hhs]; show h3.no < h3.no + 1; omega
    have e3s := e3.trans es
    have es0 := he.trans e3s
    have psf : ∀ z, hs.pol z = false := fun z => by rw [es0.pol]; exact hp z
    have dks := dk.he e3s
    have lgs := lgk.he e3s
    have hus := hu.of e3s
    have np : h3.no ≠ p := by have := dk.pn; have := e3.no; omega
    have nm : h3.no ≠ m := by have := dk.mn; have := e3.no; omega
    have nq : h3.no ≠ q := by have := lgk.qn; have := e3.no; omega
    refine ⟨_, by simp; first | done | rfl, ?_⟩
    repeat (first|with_reducible refine vmR ?_|with_reducible refine vmV rfl ?_|with_reducible refine vmW rfl ?_|with_reducible refine blockW_y (by decide) ?_|with_reducible refine vmL ?_|((with_reducible first|apply vmO|apply vmT);(case a=>simp [t4, c3, i3];with_reducible first|exact .v|exact .c))|((with_reducible apply vmC);(case e=>simp [t4, c3, i3];with_reducible first|exact .t|exact .f)))
    rw [← hhs]
    repeat (first|with_reducible refine vmR ?_|with_reducible refine vmV rfl ?_|with_reducible refine vmW rfl ?_|with_reducible refine blockW_y (by decide) ?_|with_reducible refine vmL ?_|((with_reducible first|apply vmO|apply vmT);(case a=>simp [t4, gs, c3, i3];with_reducible first|exact .v|exact .c))|((with_reducible apply vmC);(case e=>simp [t4, gs, c3, i3];with_reducible first|exact .t|exact .f)))
    refine A.mono (wapp_ans ep cv u3 cs last hs s3 cl csm psf p m q wk dks lgs n5 n6 (by omega)) ?_
    rintro r4 h4 ⟨hr4, x4⟩
    have g4 : Mp.get h4.obj h3.no = some (.row [.int .i64 ep, u3]) := (x4.obj _ gn (fun z => by rcases z with z | z | z <;> contradiction)).trans gs
    have hu4 := AC.ofX hus x4
    have he4 : HE h0 h4 := es0.x2 x4 (fun o ho => by rcases ho with rfl | rfl | rfl <;> assumption) (fun _ z => z.elim)
    have p4 : ∀ z, h4.pol z = false := fun z => by rw [he4.pol]; exact hp z
    rcases hr4 with ⟨hno, rfl, d4, lg4⟩ | ⟨hg, hlt, rfl, d4, w4, lg4⟩
    · refine ⟨_, by simp; first | done | rfl, ?_⟩
      repeat (first|with_reducible refine vmR ?_|with_reducible refine vmV rfl ?_|with_reducible refine vmW rfl ?_|with_reducible refine blockW_y (by decide) ?_|with_reducible refine vmL ?_|((with_reducible first|apply vmO|apply vmT);(case a=>simp [t7, g4, c3, i3];with_reducible first|exact .v|exact .c))|((with_reducible apply vmC);(case e=>simp [t7, g4, c3, i3];with_reducible first|exact .t|exact .f)))
      refine A.mono (may15_ans ep cv u3 h4 s3 (by omega) (fun v hv => by have := (csm v hv).1; omega) p4) ?_
      rintro _ h5 ⟨rfl, e5⟩
      have n4 := Nat.lt_of_lt_of_le gn x4.no
      have g5 := (e5.obj _ n4).trans g4
      refine ⟨_, by simp; first | done | rfl, ?_⟩
      cases hg : GMay ep cv with
      | false =>
        repeat (first|with_reducible refine vmR ?_|with_reducible refine vmV rfl ?_|with_reducible refine vmW rfl ?_|with_reducible refine blockW_y (by decide) ?_|with_reducible refine vmL ?_|((with_reducible first|apply vmO|apply vmT);(case a=>simp [eqlAV, t8, wi];with_reducible first|exact .v|exact .c))|((with_reducible apply vmC);(case e=>simp [eqlAV, t8, wi];with_reducible first|exact .t|exact .f)))
        exact ⟨6 - (i + 1), by omega, _, h5, i + 1, cs, last, u, rfl, rfl, by omega, by omega, by omega, by simp [t0], by simp [t3], by simp [t4], by simp [t6], by simp [t7], by simp, hu4.of e5, he4.trans e5, d4.he e5, wk, lg4.he e5⟩
      | true =>
        have qe : ep ≤ last := by rcases hno with z | z; · rw [hg] at z; cases z
                                  · exact z
        have qe' : ¬ last < ep := by omega
        repeat (first|with_reducible refine vmR ?_|with_reducible refine vmV rfl ?_|with_reducible refine vmW rfl ?_|with_reducible refine blockW_y (by decide) ?_|with_reducible refine vmL ?_|((with_reducible first|apply vmO|apply vmT);(case a=>simp [eqlAV, t7, t8, wi, g5, c3, i3, qe'];with_reducible first|exact .v|exact .c))|((with_reducible apply vmC);(case e=>simp [eqlAV, t7, t8, wi, g5, c3, i3, qe'];with_reducible first|exact .t|exact .f)))
        exact ⟨6 - (i + 1), by omega, _, h5, i + 1, cs, last, u, rfl, rfl, by omega, by omega, by omega, by simp [t0], by simp [t3], by simp [t4], by simp [t6], by simp [t7], by simp, hu4.of e5, he4.trans e5, d4.he e5, wk, lg4.he e5⟩
    · refine ⟨_, by simp; first | done | rfl, ?_⟩
      obtain ⟨hep, hall⟩ := gmay_all hg
      repeat (first|with_reducible refine vmR ?_|with_reducible refine vmV rfl ?_|with_reducible refine vmW rfl ?_|with_reducible refine blockW_y (by decide) ?_|with_reducible refine vmL ?_|((with_reducible first|apply vmO|apply vmT);(case a=>simp [t7, g4, c3, i3];with_reducible first|exact .v|exact .c))|((with_reducible apply vmC);(case e=>simp [t7, g4, c3, i3];with_reducible first|exact .t|exact .f)))
      refine A.mono (may15_ans ep cv u3 h4 s3 (by omega) (fun v hv => by have := (csm v hv).1; omega) p4) ?_
      rintro _ h5 ⟨rfl, e5⟩
      rw [hg]
      have n4 := Nat.lt_of_lt_of_le gn x4.no
      have g5 := (e5.obj _ n4).trans g4
      have p5 : ∀ z, h5.pol z = false := fun z => by rw [e5.pol]; exact p4 z
      refine ⟨_, by simp; first | done | rfl, ?_⟩
      repeat (first|with_reducible refine vmR ?_|with_reducible refine vmV rfl ?_|with_reducible refine vmW rfl ?_|with_reducible refine blockW_y (by decide) ?_|with_reducible refine vmL ?_|((with_reducible first|apply vmO|apply vmT);(case a=>simp [eqlAV, t6, t7, g5, c3, i3, hlt, uc, ui];with_reducible first|exact .v|exact .c))|((with_reducible apply vmC);(case e=>simp [eqlAV, t6, t7, g5, c3, i3, hlt, uc, ui];with_reducible first|exact .t|exact .f)))
      refine A.mono (write15_ans ep cv u3 h5 s3 (by omega) (by omega) (fun v hv => (hall v hv).1) csm p5) ?_
      rintro y h6 ⟨sy, e6⟩
      have yc := sy.cells
      have yi := sy.isCell
      have n5' := Nat.lt_of_lt_of_le n4 e5.no
      have g6 := (e6.obj _ n5').trans g5
      have e46 := e5.trans e6
      have gl := encG_len (ep := ep) (vs := cv) ⟨by omega, hep.2⟩ (by omega) (fun v hv => (hall v hv).1) csm
      refine ⟨_, by simp; first | done | rfl, ?_⟩
      repeat (first|with_reducible refine vmR ?_|with_reducible refine vmV rfl ?_|with_reducible refine vmW rfl ?_|with_reducible refine blockW_y (by decide) ?_|with_reducible refine vmL ?_|((with_reducible first|apply vmO|apply vmT);(case a=>simp [uc, ui, yc, yi];with_reducible first|exact .v|exact .c))|((with_reducible apply vmC);(case e=>simp [uc, ui, yc, yi];with_reducible first|exact .t|exact .f)))
      with_reducible apply WO_app_i; (case hw => (simp [uc, ui, yc, yi]; done)); (case ho => rfl); (case hb => rfl); (case ha => (simp [uc, ui, yc, yi]; first | done | exact ⟨rfl, rfl⟩ | rfl)); (case h1 => (simp; first | done | rfl)); (case h2 => (simp; first | done | rfl))
      refine app_then (AC.appN (h0 := h0) (new := (frame (encG ep cv)).map byteAV) etB (hu4.of e46) (he4.trans e46) (hp _) sy.newEls (by simp; omega)) ?_
      rintro x7 h7 ⟨ac7, he7, ho7, hn7, hg7⟩
      have e7 := ac7.sv.cells
      have f7 := ac7.sv.isCell
      have g7 : Mp.get h7.obj h3.no = some (.row [.int .i64 ep, u3]) := by rw [ho7]; exact g6
      have d7 : DKs h7 p m (fileD (cs ++ frame (encG ep cv))) := by
        obtain ⟨row, ⟨es, a1, a2⟩, a3, a4, a5⟩ := d4.he e46
        exact ⟨by rw [ho7]; exact row, ⟨es, by rw [ho7]; exact a1, a2⟩, by rw [hn7]; exact a3, by rw [hn7]; exact a4, a5⟩
      have lg7 : LGs h7 q p logN ep false := by
        obtain ⟨a1, a2⟩ := lg4.he e46
        exact ⟨by rw [ho7]; exact a1, by rw [hn7]; exact a2⟩
      refine ⟨_, by simp; first | done | rfl, ?_⟩
      repeat (first|with_reducible refine vmR ?_|with_reducible refine vmV rfl ?_|with_reducible refine vmW rfl ?_|with_reducible refine blockW_y (by decide) ?_|with_reducible refine vmL ?_|((with_reducible first|apply vmO|apply vmT);(case a=>simp [e7, f7, g7, t8, wi];with_reducible first|exact .v|exact .c))|((with_reducible apply vmC);(case e=>simp [e7, f7, g7, t8, wi];with_reducible first|exact .t|exact .f)))
      refine ⟨6 - (i + 1), by omega, _, h7, i + 1, cs ++ frame (encG ep cv), ep, x7, rfl, rfl, by omega, by omega, ?_, by simp [t0], by simp [t3], by simp [t4], by simp, by simp, by simp, by simpa using ac7, he7, d7, w4, lg7⟩
      simp only [List.length_append, frame_len]; omega
  rintro _ _ ⟨rfl, t, h, cs, u, rfl, hcl, t3, t6, hu, he, dk, wk⟩
  have uc := hu.sv.cells
  have ui := hu.sv.isCell
  have hph : ∀ z, h.pol z = false := fun z => by rw [he.pol]; exact hp z
  repeat (first|with_reducible refine vmR ?_|with_reducible refine vmV rfl ?_|with_reducible refine vmW rfl ?_|with_reducible refine blockW_y (by decide) ?_|with_reducible refine vmL ?_|((with_reducible first|apply vmO|apply vmT);(case a=>simp [t3, uc, ui];with_reducible first|exact .v|exact .c))|((with_reducible apply vmC);(case e=>simp [t3, uc, ui];with_reducible first|exact .t|exact .f)))
  refine A.mono (readW logN 0 100000 p m _ wk h dk) ?_
  rintro _ h3 ⟨bv, rfl, nb, e3⟩
  have hr : readR logN 0 100000 (fileD cs) = (cs, 0) := by
    simp only [readR, fileD, oneD, lookF]
    simp
    exact List.take_of_length_le (by omega)
  rw [hr] at nb ⊢
  have nb' : SV 1 (cs.map byteAV) bv := by unfold NB at nb; rw [hph] at nb; simpa using nb
  have bc := nb'.cells
  have bi := nb'.isCell
  have cv1 := fun h => conv_txt h nb'
  have cv2 := fun h => conv_txt h hu.sv
  have eqs : eqB cs cs = true := by rw [eqB_dec]; simp
  have e03 := he.trans e3
  refine ⟨_, by simp; first | done | rfl, ?_⟩
  repeat (first|with_reducible refine vmR ?_|with_reducible refine vmV rfl ?_|with_reducible refine vmW rfl ?_|with_reducible refine blockW_y (by decide) ?_|with_reducible refine vmL ?_|((with_reducible first|apply vmO|apply vmT);(case a=>simp [bc, bi, uc, ui, t6, cv1, cv2, eqs, eqlAV];with_reducible first|exact .v|exact .c))|((with_reducible apply vmC);(case e=>simp [bc, bi, uc, ui, t6, cv1, cv2, eqs, eqlAV];with_reducible first|exact .t|exact .f)))
  refine A.mono (wlives_ans h3 (fun z => by rw [e03.pol]; exact hp z)) ?_
  rintro _ h4 ⟨rfl, e4⟩
  refine ⟨_, by simp; first | done | rfl, ?_⟩
  repeat (first|with_reducible refine vmR ?_|with_reducible refine vmV rfl ?_|with_reducible refine vmW rfl ?_|with_reducible refine blockW_y (by decide) ?_|with_reducible refine vmL ?_|((with_reducible first|apply vmO|apply vmT);(case a=>simp;with_reducible first|exact .v|exact .c))|((with_reducible apply vmC);(case e=>simp;with_reducible first|exact .t|exact .f)))
  (first | apply endW_r | apply endW_n); (case h1 => (simp [Try.results3]; first | done | rfl))
  exact ⟨rfl, e03.trans e4⟩
end Go.Vn
