/- What functions of the program come to, in the value machine (a part of the proof of the claim's statement). No condition. -/
import Derived.Test.YtpodlpemlkkojaaVnG3
set_option linter.unusedSimpArgs false
set_option linter.unusedVariables false
set_option maxRecDepth 20000
namespace Go.Vn
open Go.Proofs Go.ChangeShapes Go.WideShapes Go.ChangeAt Go.RowKit
theorem el_ver {x : AV} (h : DeepEl Try.prog 39 x) : ∃ v : Ver, x = encV v ∧ True := by
  obtain ⟨parts, rfl, hp⟩ := deep_struct Try.underlying39 a39 h
  obtain ⟨k, hk, _⟩ := deep_strv Try.underlying9 (hp 0 _ rfl)
  obtain ⟨p1, e1, h1⟩ := deep_structv Try.underlying37 (hp 1 _ rfl)
  obtain ⟨p2, e2, h2⟩ := deep_structv Try.underlying31 (hp 2 _ rfl)
  obtain ⟨w, hw, _⟩ := deep_strv Try.underlying9 (hp 3 _ rfl)
  obtain ⟨g, hg⟩ := deep_boolv Try.underlying4 (hp 4 _ rfl)
  obtain ⟨a, ha, _⟩ := deep_intv Try.underlying3 (h1 0 _ rfl)
  obtain ⟨b, hb, _⟩ := deep_intv Try.underlying3 (h1 1 _ rfl)
  obtain ⟨c, hc, _⟩ := deep_intv Try.underlying3 (h1 2 _ rfl)
  obtain ⟨d, hd, _⟩ := deep_intv Try.underlying3 (h2 0 _ rfl)
  obtain ⟨e, he, _⟩ := deep_intv Try.underlying3 (h2 1 _ rfl)
  refine ⟨⟨k, a, b, c, d, e, w, g⟩, ?_, trivial⟩
  show AV.agg ((List.range 5).flatMap parts) = _
  simp [List.range_succ, hk, e1, e2, hw, hg, ha, hb, hc, hd, he]
theorem el_leg {x : AV} (h : DeepEl Try.prog 59 x) : ∃ v : Lg, x = encL v ∧ True := by
  obtain ⟨parts, rfl, hp⟩ := deep_struct Try.underlying59 a59 h
  obtain ⟨a, ha, _⟩ := deep_intv Try.underlying3 (hp 0 _ rfl)
  obtain ⟨b, hb, _⟩ := deep_intv Try.underlying3 (hp 1 _ rfl)
  refine ⟨⟨a, b⟩, ?_, trivial⟩
  show AV.agg ((List.range 2).flatMap parts) = _
  simp [List.range_succ, ha, hb]
theorem el_int {x : AV} (h : DeepEl Try.prog 3 x) : ∃ n : Int, x = .int .i64 n ∧ (-9223372036854775808 ≤ n ∧ n ≤ 9223372036854775807) := deep_int Try.underlying3 a3 h
theorem el_vers {x : AV} (h : DeepEl Try.prog 22 x) : ∃ l : List Ver, SV 8 (l.map encV) x ∧ l.length ≤ maxLen := by
  obtain ⟨els, h1, h2, h3⟩ := deep_slice Try.underlying22 a22 h
  have hc : Try.prog.cellsOf 39 = 8 := by kernel_rfl
  rw [hc] at h1
  obtain ⟨l, rfl, _⟩ := map_of encV (fun _ => True) els (fun x hx => el_ver (h3 x hx))
  exact ⟨l, h1, by simpa using h2⟩
theorem el_legs {x : AV} (h : DeepEl Try.prog 23 x) : ∃ l : List Lg, SV 2 (l.map encL) x ∧ l.length ≤ maxLen := by
  obtain ⟨els, h1, h2, h3⟩ := deep_slice Try.underlying23 a23 h
  have hc : Try.prog.cellsOf 59 = 2 := by kernel_rfl
  rw [hc] at h1
  obtain ⟨l, rfl, _⟩ := map_of encL (fun _ => True) els (fun x hx => el_leg (h3 x hx))
  exact ⟨l, h1, by simpa using h2⟩
end Go.Vn
