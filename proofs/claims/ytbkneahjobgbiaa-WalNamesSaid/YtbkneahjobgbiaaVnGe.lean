/- What functions of the program come to, in the value machine (a part of the proof of the claim's statement). No condition. -/
import Derived.Test.YtbkneahjobgbiaaVnG2
import Derived.Test.YtbkneahjobgbiaaVnB6
set_option linter.unusedSimpArgs false
set_option linter.unusedVariables false
set_option maxRecDepth 20000
namespace Go.Vn
open Go.Proofs Go.ChangeShapes Go.WideShapes Go.ChangeAt Go.RowKit
theorem deep_u8v {P : Program} {t : TypeId} {cs : List AV} (ht : P.underlying t = some (.int .u8)) (h : DeepV P t cs) : ∃ b : UInt8, cs = [byteAV b] := by
  cases h with
  | bool h b => rw [ht] at h; cases h
  | int h n hn =>
    rw [ht] at h; cases h
    simp only [Lit.wf, Bool.and_eq_true, decide_eq_true_eq] at hn
    have h1 : 0 ≤ n := hn.1
    have h2 : n ≤ 255 := hn.2
    refine ⟨UInt8.ofNat n.toNat, ?_⟩
    have : (UInt8.ofNat n.toNat).toNat = n.toNat := by simp; omega
    rw [byteAV, this, Int.toNat_of_nonneg h1]
  | str h s _ => rw [ht] at h; cases h
  | struct h parts _ => rw [ht] at h; cases h
  | slice h => rw [ht] at h; cases h
theorem el_byte {x : AV} (h : DeepEl Try.prog 5 x) : ∃ b : UInt8, x = byteAV b ∧ True := by
  obtain ⟨cs, h1, h2⟩ := h
  obtain ⟨b, e⟩ := deep_u8v Try.underlying5 h1
  exact ⟨b, DeepEl.one h2 a5 e, trivial⟩
theorem el_int {x : AV} (h : DeepEl Try.prog 3 x) : ∃ n : Int, x = .int .i64 n ∧ (-9223372036854775808 ≤ n ∧ n ≤ 9223372036854775807) := deep_int Try.underlying3 a3 h
theorem el_str {x : AV} (h : DeepEl Try.prog 9 x) : ∃ s : List UInt8, x = .str s ∧ s.length ≤ 9223372036854775807 := by
  obtain ⟨s, h1, h2⟩ := deep_str Try.underlying9 a9 h
  exact ⟨s, h1, Nat.le_trans h2 (by decide)⟩
theorem el_bytes {x : AV} (h : DeepEl Try.prog 29 x) : ∃ l : List UInt8, SV 1 (l.map byteAV) x ∧ l.length ≤ 9223372036854775807 := by
  obtain ⟨els, h1, h2, h3⟩ := deep_slice Try.underlying29 a29 h
  have hc : Try.prog.cellsOf 5 = 1 := by kernel_rfl
  rw [hc] at h1
  obtain ⟨l, rfl, _⟩ := map_of byteAV (fun _ => True) els (fun x hx => el_byte (h3 x hx))
  exact ⟨l, h1, Nat.le_trans (by simpa using h2) (by decide)⟩
theorem el_ints {x : AV} (h : DeepEl Try.prog 104 x) : ∃ l : List Int, SV 1 (l.map (AV.int .i64)) x ∧ l.length ≤ 9223372036854775807 ∧ ∀ n ∈ l, -9223372036854775808 ≤ n ∧ n ≤ 9223372036854775807 := by
  obtain ⟨els, h1, h2, h3⟩ := deep_slice Try.underlying104 a104 h
  have hc : Try.prog.cellsOf 3 = 1 := by kernel_rfl
  rw [hc] at h1
  obtain ⟨l, rfl, hl⟩ := map_of (AV.int .i64) (fun n => -9223372036854775808 ≤ n ∧ n ≤ 9223372036854775807) els (fun x hx => el_int (h3 x hx))
  exact ⟨l, h1, Nat.le_trans (by simpa using h2) (by decide), hl⟩
end Go.Vn
