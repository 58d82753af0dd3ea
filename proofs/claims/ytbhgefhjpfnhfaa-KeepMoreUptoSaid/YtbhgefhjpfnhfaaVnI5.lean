/- What functions of the program come to, in the value machine (a part of the proof of the claim's statement). No condition. -/
import Derived.Test.YtbhgefhjpfnhfaaVnI4
import Derived.Test.YtbhgefhjpfnhfaaVnB6
set_option linter.unusedSimpArgs false
set_option linter.unusedVariables false
set_option maxRecDepth 20000
namespace Go.Vn
open Go.Proofs

theorem tells {bs : List Br} {ep : Int} {qs : List Po} {xs : List Ver} {k : Lg} (hk : placeS bs ep qs k) (t : Int) : getF (orderP (plPath bs k) (needL bs ep qs xs)) t = getF (orderP (plPath bs k) xs) t := by
  unfold needL
  rw [order_filter]
  exact find_last (fun v hv => by simp only [decide_eq_true_eq]; exact ⟨k, hk, hv⟩) t

end Go.Vn

set_option maxRecDepth 20000
namespace Go.Vn
open Go.Proofs Go.ChangeShapes Go.WideShapes Go.ChangeAt Go.RowKit
theorem el_ver {x : AV} (h : DeepEl Try.prog 38 x) : ∃ v : Ver, x = encV v ∧ True := by
  obtain ⟨parts, rfl, hp⟩ := deep_struct Try.underlying38 a38 h
  obtain ⟨k, hk, _⟩ := deep_strv Try.underlying9 (hp 0 _ rfl)
  obtain ⟨p1, e1, h1⟩ := deep_structv Try.underlying34 (hp 1 _ rfl)
  obtain ⟨p2, e2, h2⟩ := deep_structv Try.underlying36 (hp 2 _ rfl)
  obtain ⟨w, hw, _⟩ := deep_strv Try.underlying9 (hp 3 _ rfl)
  obtain ⟨g, hg⟩ := deep_boolv Try.underlying4 (hp 4 _ rfl)
  obtain ⟨a, ha, _⟩ := deep_intv Try.underlying3 (h1 0 _ rfl)
  obtain ⟨b, hb, _⟩ := deep_intv Try.underlying3 (h1 1 _ rfl)
  obtain ⟨c, hc, _⟩ := deep_intv Try.underlying3 (h1 2 _ rfl)
  obtain ⟨d, hd, _⟩ := deep_intv Try.underlying3 (h2 0 _ rfl)
  obtain ⟨e, he, _⟩ := deep_intv Try.underlying3 (h2 1 _ rfl)
  refine ⟨⟨k, a, b, c, d, e, w, g⟩, ?_, trivial⟩
  show AV.agg ((List.range 5).flatMap parts) = _
  simp [List.range_succ, hk, e1, e2, hw, hg, ha, hb, hc, hd, he]
theorem el_vers {x : AV} (h : DeepEl Try.prog 22 x) : ∃ l : List Ver, SV 8 (l.map encV) x ∧ l.length ≤ maxLen := by
  obtain ⟨els, h1, h2, h3⟩ := deep_slice Try.underlying22 a22 h
  have hc : Try.prog.cellsOf 38 = 8 := by kernel_rfl
  rw [hc] at h1
  obtain ⟨l, rfl, _⟩ := map_of encV (fun _ => True) els (fun x hx => el_ver (h3 x hx))
  exact ⟨l, h1, by simpa using h2⟩
theorem el_br {x : AV} (h : DeepEl Try.prog 42 x) : ∃ v : Br, x = encB v ∧ BrR v := by
  obtain ⟨parts, rfl, hp⟩ := deep_struct Try.underlying42 a42 h
  obtain ⟨a, ha, ka⟩ := deep_intv Try.underlying3 (hp 0 _ rfl)
  obtain ⟨b, hb, kb⟩ := deep_intv Try.underlying3 (hp 1 _ rfl)
  obtain ⟨c, hc, kc⟩ := deep_intv Try.underlying3 (hp 2 _ rfl)
  obtain ⟨g, hg⟩ := deep_boolv Try.underlying4 (hp 3 _ rfl)
  refine ⟨⟨a, b, c, g⟩, ?_, ka, kb, kc⟩
  show AV.agg ((List.range 4).flatMap parts) = _
  simp [List.range_succ, ha, hb, hc, hg]
theorem el_po {x : AV} (h : DeepEl Try.prog 29 x) : ∃ v : Po, x = encPo v ∧ True := by
  obtain ⟨parts, rfl, hp⟩ := deep_struct Try.underlying29 a29 h
  obtain ⟨a, ha, _⟩ := deep_strv Try.underlying9 (hp 0 _ rfl)
  obtain ⟨b, hb, _⟩ := deep_intv Try.underlying3 (hp 1 _ rfl)
  obtain ⟨c, hc, _⟩ := deep_intv Try.underlying3 (hp 2 _ rfl)
  refine ⟨⟨a, b, c⟩, ?_, trivial⟩
  show AV.agg ((List.range 3).flatMap parts) = _
  simp [List.range_succ, ha, hb, hc]
theorem el_man {x : AV} (h : DeepEl Try.prog 27 x) : ∃ (n ep : Int) (vb vp vr : AV) (lg : List UInt8) (lb : List Br) (ps : List Po), x = .agg [.int .i64 n, .int .i64 ep, vb, vp, vr, .str lg] ∧ ManA vb vp vr lb ps ep := by
  obtain ⟨parts, rfl, hp⟩ := deep_struct Try.underlying27 a27 h
  obtain ⟨n, hn, _⟩ := deep_intv Try.underlying3 (hp 0 _ rfl)
  obtain ⟨ep, he, ke⟩ := deep_intv Try.underlying3 (hp 1 _ rfl)
  obtain ⟨vb, els, hb, s1, _, s2⟩ := deep_slicev Try.underlying23 (hp 2 _ rfl)
  obtain ⟨vp, els2, hpp, s3, _, s4⟩ := deep_slicev Try.underlying24 (hp 3 _ rfl)
  obtain ⟨vr, els3, hr, s5, _, _⟩ := deep_slicev Try.underlying25 (hp 4 _ rfl)
  obtain ⟨lg, hl, _⟩ := deep_strv Try.underlying9 (hp 5 _ rfl)
  have hc1 : Try.prog.cellsOf 42 = 4 := by kernel_rfl
  have hc2 : Try.prog.cellsOf 29 = 3 := by kernel_rfl
  rw [hc1] at s1
  rw [hc2] at s3
  obtain ⟨lb, rfl, kb⟩ := map_of encB BrR els (fun x hx => el_br (s2 x hx))
  obtain ⟨ps, rfl, _⟩ := map_of encPo (fun _ => True) els2 (fun x hx => el_po (s4 x hx))
  refine ⟨n, ep, vb, vp, vr, lg, lb, ps, ?_, s1, s3, s5.cells, s5.isCell, kb, ke⟩
  show AV.agg ((List.range 6).flatMap parts) = _
  simp [List.range_succ, hn, he, hb, hpp, hr, hl]
end Go.Vn
