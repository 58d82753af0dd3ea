/- What functions of the program come to, in the value machine (a part of the proof of the claim's statement). No condition. -/
import Derived.Test.YtdohdbojlannaaaVnEl
import Derived.Test.YtdohdbojlannaaaVnM2
set_option linter.unusedSimpArgs false
set_option linter.unusedVariables false
namespace Go.Vn
open Go.Proofs Go.ChangeShapes Go.WideShapes Go.ChangeAt Go.RowKit
/- Lists of lists that come in. -/
theorem el_deeper {P : Program} {t e : TypeId} {E : Type} {enc : E → AV} {Z : Nat} {x : AV} (ht : P.underlying t = some (.slice e)) (hg : tagg P t = some false) (hc : P.cellsOf e = 1) (hin : ∀ y, DeepEl P e y → ∃ l : List E, SV Z (l.map enc) y ∧ l.length ≤ maxLen) (h : DeepEl P t x) :
    ∃ ls : List (AV × List E), SV 1 (ls.map Prod.fst) x ∧ (∀ q ∈ ls, SV Z (q.2.map enc) q.1) ∧ ls.length ≤ maxLen := by
  obtain ⟨els, h1, h2, h3⟩ := deep_slice ht hg h
  rw [hc] at h1
  have : ∃ ls : List (AV × List E), els = ls.map Prod.fst ∧ ∀ q ∈ ls, SV Z (q.2.map enc) q.1 := by
    clear h1 h2
    induction els with
    | nil => exact ⟨[], rfl, fun q hq => (List.not_mem_nil hq).elim⟩
    | cons y r ih =>
      obtain ⟨l, hl, _⟩ := hin y (h3 y (List.mem_cons_self ..))
      obtain ⟨ls, hr, hq⟩ := ih fun z hz => h3 z (List.mem_cons_of_mem _ hz)
      refine ⟨(y, l) :: ls, by rw [hr]; rfl, fun q hq' => ?_⟩
      rcases List.mem_cons.mp hq' with e | e
      · subst e; exact hl
      · exact hq q e
  obtain ⟨ls, rfl, hq⟩ := this
  exact ⟨ls, h1, hq, by simpa using h2⟩
theorem el_verss {x : AV} (h : DeepEl Try.prog 32 x) : ∃ ls : List (AV × List Ver), SV 1 (ls.map Prod.fst) x ∧ (∀ q ∈ ls, SV 8 (q.2.map encV) q.1) ∧ ls.length ≤ maxLen :=
  el_deeper Try.underlying32 (by kernel_rfl) (by kernel_rfl) (fun _ => el_vers) h
theorem el_ints {x : AV} (h : DeepEl Try.prog 24 x) : ∃ l : List Int, SV 1 (l.map encI) x ∧ l.length ≤ maxLen := by
  obtain ⟨els, h1, h2, h3⟩ := deep_slice Try.underlying24 (by kernel_rfl) h
  obtain ⟨l, rfl, _⟩ := map_of encI (fun _ => True) els (fun x hx => let ⟨n, e, _⟩ := el_int (h3 x hx); ⟨n, e, trivial⟩)
  have hc : Try.prog.cellsOf 3 = 1 := by kernel_rfl
  rw [hc] at h1
  exact ⟨l, h1, by simpa using h2⟩
theorem el_strs {x : AV} (h : DeepEl Try.prog 26 x) : ∃ l : List (List UInt8), SV 1 (l.map encS) x ∧ l.length ≤ maxLen := by
  obtain ⟨els, h1, h2, h3⟩ := deep_slice Try.underlying26 (by kernel_rfl) h
  obtain ⟨l, rfl, _⟩ := map_of encS (fun _ => True) els (fun x hx => let ⟨n, e, _⟩ := deep_str Try.underlying9 a9 (h3 x hx); ⟨n, e, trivial⟩)
  have hc : Try.prog.cellsOf 9 = 1 := by kernel_rfl
  rw [hc] at h1
  exact ⟨l, h1, by simpa using h2⟩
theorem el_intss {x : AV} (h : DeepEl Try.prog 22 x) : ∃ ls : List (AV × List Int), SV 1 (ls.map Prod.fst) x ∧ (∀ q ∈ ls, SV 1 (q.2.map encI) q.1) ∧ ls.length ≤ maxLen :=
  el_deeper Try.underlying22 (by kernel_rfl) (by kernel_rfl) (fun _ => el_ints) h
theorem el_strss {x : AV} (h : DeepEl Try.prog 23 x) : ∃ ls : List (AV × List (List UInt8)), SV 1 (ls.map Prod.fst) x ∧ (∀ q ∈ ls, SV 1 (q.2.map encS) q.1) ∧ ls.length ≤ maxLen :=
  el_deeper Try.underlying23 (by kernel_rfl) (by kernel_rfl) (fun _ => el_strs) h
end Go.Vn
