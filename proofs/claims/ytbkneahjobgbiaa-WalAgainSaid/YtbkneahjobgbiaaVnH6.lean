/- What functions of the program come to, in the value machine (a part of the proof of the claim's statement). No condition. -/
import Derived.Test.YtbkneahjobgbiaaVnH5
import Derived.Test.YtbkneahjobgbiaaVnB6
set_option linter.unusedSimpArgs false
set_option linter.unusedVariables false
set_option maxRecDepth 20000
namespace Go.Vn
open Go.Proofs Go.ChangeShapes Go.WideShapes Go.ChangeAt Go.RowKit

/-- A group as it is handed in. -/
structure Gr where
  ep : Int
  rv : AV
  vs : List Ver
@[simp] def encGr (g : Gr) : AV := .agg [.int .i64 g.ep, g.rv]
def VBig (v : Ver) : Prop := v.key.length ≤ 9223372036854775807 ∧ v.val.length ≤ 9223372036854775807
structure GrOk (g : Gr) : Prop where
  sv : SV 8 (g.vs.map encV) g.rv
  len : g.vs.length ≤ 9223372036854775807
  big : ∀ v ∈ g.vs, VBig v
  i64 : -9223372036854775808 ≤ g.ep ∧ g.ep ≤ 9223372036854775807
theorem el_ver {x : AV} (h : DeepEl Try.prog 58 x) : ∃ v : Ver, x = encV v ∧ VBig v := by
  obtain ⟨parts, rfl, hp⟩ := deep_struct Try.underlying58 a58 h
  obtain ⟨k, hk, lk⟩ := deep_strv Try.underlying9 (hp 0 _ rfl)
  obtain ⟨p1, e1, h1⟩ := deep_structv Try.underlying54 (hp 1 _ rfl)
  obtain ⟨p2, e2, h2⟩ := deep_structv Try.underlying56 (hp 2 _ rfl)
  obtain ⟨w, hw, lw⟩ := deep_strv Try.underlying9 (hp 3 _ rfl)
  obtain ⟨g, hg⟩ := deep_boolv Try.underlying4 (hp 4 _ rfl)
  obtain ⟨a, ha, _⟩ := deep_intv Try.underlying3 (h1 0 _ rfl)
  obtain ⟨b, hb, _⟩ := deep_intv Try.underlying3 (h1 1 _ rfl)
  obtain ⟨c, hc, _⟩ := deep_intv Try.underlying3 (h1 2 _ rfl)
  obtain ⟨d, hd, _⟩ := deep_intv Try.underlying3 (h2 0 _ rfl)
  obtain ⟨e, he, _⟩ := deep_intv Try.underlying3 (h2 1 _ rfl)
  refine ⟨⟨k, a, b, c, d, e, w, g⟩, ?_, Nat.le_trans lk (by decide), Nat.le_trans lw (by decide)⟩
  show AV.agg ((List.range 5).flatMap parts) = _
  simp [List.range_succ, hk, e1, e2, hw, hg, ha, hb, hc, hd, he]
theorem el_group {x : AV} (h : DeepEl Try.prog 32 x) : ∃ g : Gr, x = encGr g ∧ GrOk g := by
  obtain ⟨parts, rfl, hp⟩ := deep_struct Try.underlying32 a32 h
  obtain ⟨n, hn, hnb⟩ := deep_intv Try.underlying3 (hp 0 _ rfl)
  obtain ⟨a, els, ha, h1, h2, h3⟩ := deep_slicev Try.underlying30 (hp 1 _ rfl)
  have hc : Try.prog.cellsOf 58 = 8 := by kernel_rfl
  rw [hc] at h1
  obtain ⟨l, rfl, hl⟩ := map_of encV VBig els (fun x hx => el_ver (h3 x hx))
  refine ⟨⟨n, a, l⟩, ?_, h1, Nat.le_trans (by simpa using h2) (by decide), hl, hnb⟩
  show AV.agg ((List.range 2).flatMap parts) = _
  simp [List.range_succ, hn, ha]
theorem el_groups {x : AV} (h : DeepEl Try.prog 22 x) : ∃ l : List Gr, SV 2 (l.map encGr) x ∧ l.length ≤ 9223372036854775807 ∧ ∀ g ∈ l, GrOk g := by
  obtain ⟨els, h1, h2, h3⟩ := deep_slice Try.underlying22 a22 h
  have hc : Try.prog.cellsOf 32 = 2 := by kernel_rfl
  rw [hc] at h1
  obtain ⟨l, rfl, hl⟩ := map_of encGr GrOk els (fun x hx => el_group (h3 x hx))
  exact ⟨l, h1, Nat.le_trans (by simpa using h2) (by decide), hl⟩
end Go.Vn

set_option maxRecDepth 20000
namespace Go.Vn
open Go.Proofs

theorem gmay_all {ep : Int} {vs : List Ver} (h : GMay ep vs = true) : (1 ≤ ep ∧ ep ≤ 10000) ∧ ∀ v ∈ vs, VMay v = true ∧ v.ep = ep := by
  unfold GMay at h
  simp only [Bool.and_eq_true, decide_eq_true_eq, Bool.not_eq_true', List.any_eq_false] at h
  refine ⟨h.1, fun v hv => ?_⟩
  have := h.2 v hv
  unfold vOdd at this
  simpa using this
theorem cut_small {ep : Int} {vs : List Ver} : ∀ v ∈ cutG ep vs, VSmall v := by
  intro v hv
  obtain ⟨x, _, rfl⟩ := List.mem_map.mp hv
  constructor
  · show (x.key.take 110).length ≤ 1000
    rw [List.length_take]; omega
  · show (x.val.take 210).length ≤ 1000
    rw [List.length_take]; omega
theorem cut_len {ep : Int} {vs : List Ver} : (cutG ep vs).length ≤ 4 := by
  unfold cutG; rw [List.length_map, List.length_take]; omega
theorem walApp_no (ok : Bool) (ep last : Int) (k bs : Tx) (D : Dk) (h : ok = false ∨ ep ≤ last) : walApp ok ep last false k bs D = (1, last, false, D) := by
  unfold walApp; rw [if_pos h]
/-- The bytes of a file of one log. -/
def fileD (cs : Tx) : Dk := oneD logN cs 1 2 100000
/-- A group appended to a log that has room. -/
theorem wapp_ans (ep : Int) (vs : List Ver) (rv : AV) (cs : Tx) (last : Int) (h0 : Hp Fm) (k : SV 8 (vs.map encV) rv) (hl : vs.length ≤ 4) (hs : ∀ v ∈ vs, VSmall v) (hp : ∀ z, h0.pol z = false) (p m q : Nat) (w : (fileD cs).wf) (d : DKs h0 p m (fileD cs)) (lg : LGs h0 q p logN last false) (n5 : q ≠ p) (n6 : q ≠ m) (room : cs.length + 8400 ≤ 100000) :
    A Try.prog TT (.func 9) [.ptr q 0, .agg [.int .i64 ep, rv]] h0 (fun r h' =>
      (((GMay ep vs = false ∨ ep ≤ last) ∧ r = .int .i64 1 ∧ DKs h' p m (fileD cs) ∧ LGs h' q p logN last false) ∨
       (GMay ep vs = true ∧ last < ep ∧ r = .int .i64 0 ∧ DKs h' p m (fileD (cs ++ frame (encG ep vs))) ∧ (fileD (cs ++ frame (encG ep vs))).wf ∧ LGs h' q p logN ep false)) ∧ HX (fun o => o = p ∨ o = m ∨ o = q) (fun _ => False) h0 h') := by
  have c1 := k.cells
  have i1 := k.isCell
  have key : (encG ep vs).length ≤ 16000000 ∨ GMay ep vs = false := by
    cases hg : GMay ep vs with
    | false => exact .inr rfl
    | true =>
      obtain ⟨h1, h2⟩ := gmay_all hg
      have := encG_len (ep := ep) (vs := vs) ⟨by omega, h1.2⟩ (by omega) (fun v hv => (h2 v hv).1) hs
      exact .inl (by omega)
  cases hg : GMay ep vs with
  | false =>
    refine A.mono (wappend_ans false ep last false logN [] rv (by simp) c1 i1 p m q _ w h0 d lg n5 n6 hp (fun h hp' => by rw [← hg]; exact wmay_ans ep vs rv h k (by omega) (fun v hv => by have := (hs v hv).1; omega) hp') (fun z => by cases z)) ?_
    rw [walApp_no false ep last logN [] _ (.inl rfl)]
    rintro _ h1 ⟨rfl, d1, _, lg1, x1⟩
    exact ⟨.inl ⟨.inl rfl, rfl, d1, lg1⟩, x1⟩
  | true =>
    obtain ⟨h1, h2⟩ := gmay_all hg
    have gl := encG_len (ep := ep) (vs := vs) ⟨by omega, h1.2⟩ (by omega) (fun v hv => (h2 v hv).1) hs
    refine A.mono (wappend_ans true ep last false logN (encG ep vs) rv (by omega) c1 i1 p m q _ w h0 d lg n5 n6 hp (fun h hp' => by rw [← hg]; exact wmay_ans ep vs rv h k (by omega) (fun v hv => by have := (hs v hv).1; omega) hp') (fun _ h hp' => wwrite_ans ep vs rv h k (by omega) (by omega) (fun v hv => (h2 v hv).1) hs hp')) ?_
    by_cases qe : ep ≤ last
    · rw [walApp_no true ep last logN _ _ (.inr qe)]
      rintro _ h1 ⟨rfl, d1, _, lg1, x1⟩
      exact ⟨.inl ⟨.inr qe, rfl, d1, lg1⟩, x1⟩
    · have := walApp_one logN cs (encG ep vs) 1 2 100000 ep last (by omega) (by omega)
      unfold fileD
      rw [this]
      rintro _ h1 ⟨rfl, d1, w1, lg1, x1⟩
      exact ⟨.inr ⟨rfl, by omega, rfl, d1, w1, lg1⟩, x1⟩

end Go.Vn
