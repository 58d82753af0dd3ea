/- What functions of the program come to, in the value machine (a part of the proof of the claim's statement). No condition. -/
import Derived.Test.YtihkcenkpkepiaaGreatVnG2
import Derived.Test.YtihkcenkpkepiaaGreatVnB6
set_option linter.unusedSimpArgs false
set_option linter.unusedVariables false
set_option maxRecDepth 20000
namespace Go.Vn
open Go.Proofs Go.ChangeShapes Go.WideShapes Go.ChangeAt Go.RowKit
theorem deep_u8v {P : Program} {t : TypeId} {cs : List AV} (ht : P.underlying t = some (.int .u8)) (h : DeepV P t cs) : ∃ b : UInt8, cs = [byteAV b] := by
  cases h with
  | bool h b => rw [ht] at h; cases h
  | int h n hn =>
    rw [ht] at h; cases h
    simp only [Lit.wf, Bool.and_eq_true, decide_eq_true_eq] at hn
    have h1 : 0 ≤ n := hn.1
    have h2 : n ≤ 255 := hn.2
    refine ⟨UInt8.ofNat n.toNat, ?_⟩
    have : (UInt8.ofNat n.toNat).toNat = n.toNat := by simp; omega
    rw [byteAV, this, Int.toNat_of_nonneg h1]
  | str h s _ => rw [ht] at h; cases h
  | struct h parts _ => rw [ht] at h; cases h
  | slice h => rw [ht] at h; cases h
theorem el_byte {x : AV} (h : DeepEl Tryz.prog 5 x) : ∃ b : UInt8, x = byteAV b ∧ True := by
  obtain ⟨cs, h1, h2⟩ := h
  obtain ⟨b, e⟩ := deep_u8v Tryz.underlying5 h1
  exact ⟨b, DeepEl.one h2 a5 e, trivial⟩
theorem el_bytes {x : AV} (h : DeepEl Tryz.prog 22 x) : ∃ l : List UInt8, SV 1 (l.map byteAV) x ∧ l.length ≤ 9223372036854775807 := by
  obtain ⟨els, h1, h2, h3⟩ := deep_slice Tryz.underlying22 a22 h
  have hc : Tryz.prog.cellsOf 5 = 1 := by kernel_rfl
  rw [hc] at h1
  obtain ⟨l, rfl, _⟩ := map_of byteAV (fun _ => True) els (fun x hx => el_byte (h3 x hx))
  exact ⟨l, h1, Nat.le_trans (by simpa using h2) (by decide)⟩
end Go.Vn
