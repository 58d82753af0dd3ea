/- What functions of the program come to, in the value machine (a part of the proof of the claim's statement). No condition. -/
import Derived.Test.YtpneooihcofbbaaVnG2
import Derived.Test.YtpneooihcofbbaaVnB6
import Derived.Test.YtpneooihcofbbaaVnG9
set_option linter.unusedSimpArgs false
set_option linter.unusedVariables false
set_option maxRecDepth 20000
namespace Go.Vn
open Go.Proofs Go.ChangeShapes Go.WideShapes Go.ChangeAt Go.RowKit
theorem deep_u8v {P : Program} {t : TypeId} {cs : List AV} (ht : P.underlying t = some (.int .u8)) (h : DeepV P t cs) : ∃ b : UInt8, cs = [byteAV b] := by
  cases h with
  | bool h b => rw [ht] at h; cases h
  | int h n hn =>
    rw [ht] at h; cases h
    simp only [Lit.wf, Bool.and_eq_true, decide_eq_true_eq] at hn
    have h1 : 0 ≤ n := hn.1
    have h2 : n ≤ 255 := hn.2
    refine ⟨UInt8.ofNat n.toNat, ?_⟩
    have : (UInt8.ofNat n.toNat).toNat = n.toNat := by simp; omega
    rw [byteAV, this, Int.toNat_of_nonneg h1]
  | str h s _ => rw [ht] at h; cases h
  | struct h parts _ => rw [ht] at h; cases h
  | slice h => rw [ht] at h; cases h
theorem el_byte {x : AV} (h : DeepEl Try.prog 5 x) : ∃ b : UInt8, x = byteAV b ∧ True := by
  obtain ⟨cs, h1, h2⟩ := h
  obtain ⟨b, e⟩ := deep_u8v Try.underlying5 h1
  exact ⟨b, DeepEl.one h2 a5 e, trivial⟩
theorem el_int {x : AV} (h : DeepEl Try.prog 3 x) : ∃ n : Int, x = .int .i64 n ∧ (-9223372036854775808 ≤ n ∧ n ≤ 9223372036854775807) := deep_int Try.underlying3 a3 h
theorem el_str {x : AV} (h : DeepEl Try.prog 9 x) : ∃ s : List UInt8, x = .str s ∧ s.length ≤ 9223372036854775807 := by
  obtain ⟨s, h1, h2⟩ := deep_str Try.underlying9 a9 h
  exact ⟨s, h1, Nat.le_trans h2 (by decide)⟩
theorem el_bytes {x : AV} (h : DeepEl Try.prog 22 x) : ∃ l : List UInt8, SV 1 (l.map byteAV) x ∧ l.length ≤ 9223372036854775807 := by
  obtain ⟨els, h1, h2, h3⟩ := deep_slice Try.underlying22 a22 h
  have hc : Try.prog.cellsOf 5 = 1 := by kernel_rfl
  rw [hc] at h1
  obtain ⟨l, rfl, _⟩ := map_of byteAV (fun _ => True) els (fun x hx => el_byte (h3 x hx))
  exact ⟨l, h1, Nat.le_trans (by simpa using h2) (by decide)⟩
theorem el_ints {x : AV} (h : DeepEl Try.prog 40 x) : ∃ l : List Int, SV 1 (l.map (AV.int .i64)) x ∧ l.length ≤ 9223372036854775807 ∧ ∀ n ∈ l, -9223372036854775808 ≤ n ∧ n ≤ 9223372036854775807 := by
  obtain ⟨els, h1, h2, h3⟩ := deep_slice Try.underlying40 a40 h
  have hc : Try.prog.cellsOf 3 = 1 := by kernel_rfl
  rw [hc] at h1
  obtain ⟨l, rfl, hl⟩ := map_of (AV.int .i64) (fun n => -9223372036854775808 ≤ n ∧ n ≤ 9223372036854775807) els (fun x hx => el_int (h3 x hx))
  exact ⟨l, h1, Nat.le_trans (by simpa using h2) (by decide), hl⟩
end Go.Vn

set_option maxRecDepth 20000
namespace Go.Vn
open Go.Proofs Go.ChangeShapes Go.WideShapes Go.ChangeAt Go.RowKit
theorem el_deed {x : AV} (h : DeepEl Try.prog 42 x) : ∃ q : Deed × AV, x = encDeed q.1 q.2 ∧ DeedOk q.1 q.2 := by
  obtain ⟨parts, rfl, hp⟩ := deep_struct Try.underlying42 a42 h
  obtain ⟨a, ha, _⟩ := deep_intv Try.underlying3 (hp 0 _ rfl)
  obtain ⟨b, hb, kb⟩ := deep_intv Try.underlying3 (hp 1 _ rfl)
  obtain ⟨c, hc, kc⟩ := deep_intv Try.underlying3 (hp 2 _ rfl)
  obtain ⟨s, hs, ks⟩ := deep_strv Try.underlying9 (hp 3 _ rfl)
  obtain ⟨t, ht, kt⟩ := deep_strv Try.underlying9 (hp 4 _ rfl)
  obtain ⟨v, els, hv, h1, h2, h3⟩ := deep_slicev Try.underlying40 (hp 5 _ rfl)
  have hcl : Try.prog.cellsOf 3 = 1 := by kernel_rfl
  rw [hcl] at h1
  obtain ⟨l, rfl, hl⟩ := map_of (AV.int .i64) (fun n => -9223372036854775808 ≤ n ∧ n ≤ 9223372036854775807) els (fun x hx => el_int (h3 x hx))
  have ml : maxLen = 9223372036854775807 := by decide
  refine ⟨(⟨a, b, c, s, t, l⟩, v), ?_, ⟨kb, kc, by rw [← ml]; exact ks, by rw [← ml]; exact kt, h1, by rw [← ml]; simpa using h2, hl⟩⟩
  show AV.agg ((List.range 6).flatMap parts) = _
  simp [List.range_succ, ha, hb, hc, hs, ht, hv, encDeed]
theorem el_deeds {x : AV} (h : DeepEl Try.prog 37 x) : ∃ l : List (Deed × AV), SV 6 (l.map fun q => encDeed q.1 q.2) x ∧ l.length ≤ 9223372036854775807 ∧ ∀ q ∈ l, DeedOk q.1 q.2 := by
  obtain ⟨els, h1, h2, h3⟩ := deep_slice Try.underlying37 a37 h
  have hc : Try.prog.cellsOf 42 = 6 := by kernel_rfl
  rw [hc] at h1
  obtain ⟨l, rfl, hl⟩ := map_of (fun q : Deed × AV => encDeed q.1 q.2) (fun q => DeedOk q.1 q.2) els (fun x hx => el_deed (h3 x hx))
  exact ⟨l, h1, Nat.le_trans (by simpa using h2) (by decide), hl⟩
end Go.Vn
