/- What functions of the program come to, in the value machine (a part of the proof of the claim's statement). No condition. -/
import Derived.Test.YtnbflhcbhicgmaaGreatVnH5
import Derived.Test.YtnbflhcbhicgmaaGreatVnB6
set_option linter.unusedSimpArgs false
set_option linter.unusedVariables false
set_option maxRecDepth 20000
namespace Go.Vn
open Go.Proofs Go.ChangeShapes Go.WideShapes Go.ChangeAt Go.RowKit

structure Gr where
  ep : Int
  rv : AV
  vs : List Ver
@[simp] def encGr (g : Gr) : AV := .agg [.int .i64 g.ep, g.rv]
def VBig (v : Ver) : Prop := v.key.length ≤ 9223372036854775807 ∧ v.val.length ≤ 9223372036854775807
structure GrOk (g : Gr) : Prop where
  sv : SV 8 (g.vs.map encV) g.rv
  len : g.vs.length ≤ 9223372036854775807
  big : ∀ v ∈ g.vs, VBig v
  i64 : -9223372036854775808 ≤ g.ep ∧ g.ep ≤ 9223372036854775807
theorem el_ver {x : AV} (h : DeepEl Tryz.prog 69 x) : ∃ v : Ver, x = encV v ∧ VBig v := by
  obtain ⟨parts, rfl, hp⟩ := deep_struct Tryz.underlying69 a69 h
  obtain ⟨k, hk, lk⟩ := deep_strv Tryz.underlying9 (hp 0 _ rfl)
  obtain ⟨p1, e1, h1⟩ := deep_structv Tryz.underlying65 (hp 1 _ rfl)
  obtain ⟨p2, e2, h2⟩ := deep_structv Tryz.underlying67 (hp 2 _ rfl)
  obtain ⟨w, hw, lw⟩ := deep_strv Tryz.underlying9 (hp 3 _ rfl)
  obtain ⟨g, hg⟩ := deep_boolv Tryz.underlying4 (hp 4 _ rfl)
  obtain ⟨a, ha, _⟩ := deep_intv Tryz.underlying3 (h1 0 _ rfl)
  obtain ⟨b, hb, _⟩ := deep_intv Tryz.underlying3 (h1 1 _ rfl)
  obtain ⟨c, hc, _⟩ := deep_intv Tryz.underlying3 (h1 2 _ rfl)
  obtain ⟨d, hd, _⟩ := deep_intv Tryz.underlying3 (h2 0 _ rfl)
  obtain ⟨e, he, _⟩ := deep_intv Tryz.underlying3 (h2 1 _ rfl)
  refine ⟨⟨k, a, b, c, d, e, w, g⟩, ?_, Nat.le_trans lk (by decide), Nat.le_trans lw (by decide)⟩
  show AV.agg ((List.range 5).flatMap parts) = _
  simp [List.range_succ, hk, e1, e2, hw, hg, ha, hb, hc, hd, he]
end Go.Vn

set_option maxRecDepth 20000
namespace Go.Vn
open Go.Proofs

theorem gmay_all {ep : Int} {vs : List Ver} (h : GMay ep vs = true) : (1 ≤ ep ∧ ep ≤ 10000) ∧ ∀ v ∈ vs, VMay v = true ∧ v.ep = ep := by
  unfold GMay at h
  simp only [Bool.and_eq_true, decide_eq_true_eq, Bool.not_eq_true', List.any_eq_false] at h
  refine ⟨h.1, fun v hv => ?_⟩
  have := h.2 v hv
  unfold vOdd at this
  simpa using this
theorem cut_small {ep : Int} {vs : List Ver} : ∀ v ∈ cutG ep vs, VSmall v := by
  intro v hv
  obtain ⟨x, _, rfl⟩ := List.mem_map.mp hv
  constructor
  · show (x.key.take 110).length ≤ 1000
    rw [List.length_take]; omega
  · show (x.val.take 210).length ≤ 1000
    rw [List.length_take]; omega
theorem cut_len {ep : Int} {vs : List Ver} : (cutG ep vs).length ≤ 4 := by
  unfold cutG; rw [List.length_map, List.length_take]; omega
theorem walApp_no (ok : Bool) (ep last : Int) (k bs : Tx) (D : Dk) (h : ok = false ∨ ep ≤ last) : walApp ok ep last false k bs D = (1, last, false, D) := by
  unfold walApp; rw [if_pos h]
def fileD (cs : Tx) : Dk := oneD logN cs 1 2 100000
end Go.Vn
