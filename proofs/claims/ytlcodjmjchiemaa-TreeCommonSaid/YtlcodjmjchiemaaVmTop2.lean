/- The value machine: a slice that comes in, opened. -/
import Derived.Test.YtlcodjmjchiemaaVmTop
set_option linter.unusedSimpArgs false
set_option linter.unusedVariables false
namespace Go.Vm
open Go.ChangeShapes Go.WideShapes Go.ChangeAt Go.RowKit

section
variable {H : Type} {enc : TypeId × Value → H} {P : Program} {w : World}

theorem FlatV.isCell {t : TypeId} {as : List AV} (h : FlatV P t as) : as.all AV.isCell = true := by
  induction h with
  | bool _ b => rfl
  | int _ n _ => rfl
  | str _ s _ => rfl
  | struct ht parts hp ih =>
    rename_i t fs
    rw [List.all_eq_true]
    intro x hx
    obtain ⟨i, hi, hx⟩ := List.mem_flatMap.mp hx
    have hi' : i < fs.size := List.mem_range.mp hi
    exact List.all_eq_true.mp (ih i fs[i] (Array.getElem?_eq_getElem hi')) x hx

theorem FlatV.one {t : TypeId} {as : List AV} (h : FlatV P t as) (hg : tagg P t = some false) : ∃ a, as = [a] ∧ a.cells = [a] := by
  cases h with
  | bool _ b => exact ⟨_, rfl, rfl⟩
  | int _ n _ => exact ⟨_, rfl, rfl⟩
  | str _ s _ => exact ⟨_, rfl, rfl⟩
  | struct ht parts hp => simp [tagg, ht] at hg

theorem pack_of {t : TypeId} {as : List AV} (h : FlatV P t as) (ag : Bool) (hg : tagg P t = some ag) : ∃ x, ElV P t x ∧ x.cells = as := by
  cases ag with
  | true => exact ⟨.agg as, ⟨as, h, .inl ⟨hg, rfl⟩⟩, rfl⟩
  | false =>
    obtain ⟨a, rfl, ha⟩ := h.one hg
    exact ⟨a, ⟨_, h, .inr ⟨hg, rfl⟩⟩, ha⟩

theorem cell_lt {w : World} {B p : Nat} {v : Value} (h : w.cell? ⟨B, p, none⟩ = some v) : B < w.heap.size ∧ p < (ghost0 w).com B := by
  simp only [World.cell?] at h
  split at h
  · rename_i c e fr hb
    simp only [Option.isSome_none, Bool.false_eq_true, if_false] at h
    obtain ⟨hp, _⟩ := Array.getElem?_eq_some_iff.mp h
    obtain ⟨hB, _⟩ := Array.getElem?_eq_some_iff.mp hb
    exact ⟨hB, by simp only [ghost0, hb]; exact hp⟩
  · cases h

theorem open_slice_arg {n : Nat} {t e base : Nat} {ag : Bool} {v : Value} {d : DataW H} {p : List MemPlace} (ht : P.underlying t = some (.slice e)) (hf : flatT P n e = true) (h0 : 0 < P.cellsOf e) (hag : tagg P e = some ag)
    (hok : Value.okWide P w .any base t v) (h : DataW.Trod enc P w 0 (fun _ => true) true t v d p) :
    ∃ (a : AV) (els : List AV), SV (P.cellsOf e) els a ∧ els.length ≤ maxLen ∧ (∀ x ∈ els, ElV P e x) ∧ VR (ghost0 w) w a v := by
  have hok' : Cell.ok P w .any base t v := by simpa [Value.okWide, ht, Cell.okWide] using hok
  simp only [Cell.ok, ht] at hok'
  obtain ⟨a, len, cap, rfl⟩ := okWide_slice ht hok
  obtain ⟨fuel, hx⟩ := h
  have hcs : (Value.slice a len cap).cells.toList = [Value.slice a len cap] := by simp [Value.cells]
  rw [hcs] at hx
  rcases Go.Deep.open_slice ht hx with ⟨hn, _⟩ | ⟨ad, l2, c2, m, k, D, Pl, hce, _, hl, hm, hmm, _, hel⟩
  · injection hn with hn
    rw [hn]
    exact ⟨.nils, [], .inl ⟨rfl, rfl⟩, Nat.zero_le _, fun x hx => (List.not_mem_nil hx).elim, .nils⟩
  · injection hce with hce
    injection hce with e1 e2 e3
    subst e1; subst e2; subst e3
    simp only [if_true] at hmm
    subst hmm
    obtain ⟨B, off, spot⟩ := ad
    have hspot : spot = none := hok'.2.2.2.1
    subst hspot
    have each : ∀ i, i < len → ∃ x : AV, ElV P e x ∧ x.cells.length = P.cellsOf e ∧ x.cells.all AV.isCell = true ∧ ∀ j (hj : j < x.cells.length), ∃ c, w.cell? ⟨B, off + (i * P.cellsOf e + j), none⟩ = some c ∧ VR (ghost0 w) w (x.cells[j]) c := by
      intro i hi
      obtain ⟨cs', hc1, hc2⟩ := hel i (by omega)
      obtain ⟨_, hlen, hcell⟩ := World.cells?_some hc1
      obtain ⟨hlt, as, hfl, hcl, hcr⟩ := open_flat (ψ := ghost0 w) n hf hc2
      obtain ⟨x, hx1, hx2⟩ := pack_of hfl ag hag
      refine ⟨x, hx1, by rw [hx2]; omega, by rw [hx2]; exact hfl.isCell, ?_⟩
      intro j hj
      have hj' : j < as.length := by rw [← hx2]; exact hj
      have hj2 : j < cs'.length := by omega
      refine ⟨cs'[j], ?_, by simpa only [hx2] using hcr j hj'⟩
      have := hcell j (by omega)
      rw [List.getElem?_eq_getElem hj2] at this
      rw [addr_add, addr_add, Nat.add_assoc] at this
      exact this
    obtain ⟨X, hX⟩ := Go.Deep.choose_lt each
    have hsz : ∀ x ∈ (List.range len).map X, x.cells.length = P.cellsOf e := by
      intro x hx
      obtain ⟨i, hi, rfl⟩ := List.mem_map.mp hx
      exact (hX i (List.mem_range.mp hi)).2.1
    have hfl : (flat ((List.range len).map X)).length = len * P.cellsOf e := by rw [flat_length hsz]; simp
    have hcell : ∀ i (hi : i < (flat ((List.range len).map X)).length), ∃ c, w.cell? ⟨B, off + i, none⟩ = some c ∧ VR (ghost0 w) w ((flat ((List.range len).map X))[i]) c := by
      intro i hi
      have hi2 : i < len * P.cellsOf e := by rw [← hfl]; exact hi
      have hq : i / P.cellsOf e < len := Nat.div_lt_of_lt_mul (by rw [Nat.mul_comm]; exact hi2)
      have hr : i % P.cellsOf e < P.cellsOf e := Nat.mod_lt _ h0
      have hqr : i / P.cellsOf e * P.cellsOf e + i % P.cellsOf e = i := Nat.div_add_mod' i _
      obtain ⟨_, he⟩ := flat_getElem hsz (i / P.cellsOf e) (by simpa using hq) (i % P.cellsOf e) hr
      obtain ⟨hx1, hx2, hx3, hx4⟩ := hX _ hq
      obtain ⟨c, hc1, hc2⟩ := hx4 (i % P.cellsOf e) (by omega)
      rw [hqr] at hc1
      refine ⟨c, hc1, ?_⟩
      simp only [hqr, List.getElem_map, List.getElem_range] at he
      rw [he]
      exact hc2
    obtain ⟨C, hC⟩ := Go.Deep.choose_lt (n := (flat ((List.range len).map X)).length) (p := fun i c => ∀ hi : i < (flat ((List.range len).map X)).length, w.cell? ⟨B, off + i, none⟩ = some c ∧ VR (ghost0 w) w ((flat ((List.range len).map X))[i]) c)
      (fun i hi => by obtain ⟨c, h1, h2⟩ := hcell i hi; exact ⟨c, fun _ => ⟨h1, h2⟩⟩)
    refine ⟨.sl 0 0 (P.cellsOf e) false ((List.range len).map X), _, .inr ⟨_, _, _, rfl⟩, by simp; omega, ?_, ?_⟩
    · intro x hx
      obtain ⟨i, hi, rfl⟩ := List.mem_map.mp hx
      exact (hX i (List.mem_range.mp hi)).1
    · have hne : (List.range len).map X ≠ [] → 0 < len := fun k => Nat.pos_of_ne_zero fun z => k (by simp [z])
      have := VR.sl (ψ := ghost0 w) (w := w) 0 0 (P.cellsOf e) false ((List.range len).map X) B off _ C (by simp [ghost0]) (fun k => by
          have hl := hne k
          have hi : 0 < (flat ((List.range len).map X)).length := by rw [hfl]; exact Nat.mul_pos hl h0
          simp only [ghost0, (cell_lt (hC 0 hi hi).1).1, if_true]) (fun k => by
          have hl := hne k
          have hi : len * P.cellsOf e - 1 < (flat ((List.range len).map X)).length := by rw [hfl]; have := Nat.mul_pos hl h0; omega
          have := (cell_lt (hC _ hi hi).1).2
          have := Nat.mul_pos hl h0
          simp only [List.length_map, List.length_range]
          omega) hsz (fun x hx => by
            obtain ⟨i, hi, rfl⟩ := List.mem_map.mp hx
            exact (hX i (List.mem_range.mp hi)).2.2.1) (fun i hi => (hC i hi hi).1) (fun i hi => (hC i hi hi).2) (fun m hm => by simp [ghost0] at hm) (by simpa using hl) (by intro k; cases k) (fun _ _ m hm => by simp [ghost0] at hm)
      simpa using this

theorem open_flat_arg {n : Nat} {t base : Nat} {ag : Bool} {v : Value} {d : DataW H} {p : List MemPlace} (hf : flatT P n t = true) (hag : tagg P t = some ag) (hok : Value.okWide P w .any base t v) (h : DataW.Trod enc P w 0 (fun _ => true) true t v d p) :
    ∃ a : AV, ElV P t a ∧ VR (ghost0 w) w a v := by
  obtain ⟨fuel, hx⟩ := h
  obtain ⟨_, as, hfl, hl, hcr⟩ := open_flat (ψ := ghost0 w) n hf hx
  cases ag with
  | true =>
    have : ∃ cs, v = .agg cs := by
      simp only [tagg, Option.map_eq_some_iff] at hag
      obtain ⟨td, htd, hag⟩ := hag
      simp only [Value.okWide, htd] at hok
      split at hok
      · obtain ⟨cs, h, _⟩ := hok; exact ⟨cs, h⟩
      · obtain ⟨cs, h, _⟩ := hok; exact ⟨cs, h⟩
      · split at hag
        · rename_i h1 h2 _ _ _; simp_all
        · rename_i h1 h2 _ _ _ _; simp_all
        · cases hag
    obtain ⟨cs, rfl⟩ := this
    refine ⟨.agg as, ⟨as, hfl, .inl ⟨hag, rfl⟩⟩, ?_⟩
    have hl2 : as.length = cs.size := by simpa [Value.cells] using hl
    refine .agg as cs hl2.symm fun i hi => ?_
    have := hcr i hi
    simpa [Value.cells] using this
  | false =>
    obtain ⟨a, rfl, ha⟩ := hfl.one hag
    refine ⟨a, ⟨_, hfl, .inr ⟨hag, rfl⟩⟩, ?_⟩
    have hv := hcr 0 (by simp)
    have hv1 : v.cells = #[v] := by
      generalize hg : [a] = g at hfl
      cases hfl with
      | bool ht b => simp only [Value.okWide, ht, Cell.okWide] at hok; cases v <;> simp_all [Cell.ok, Value.cells]
      | int ht n hn => obtain ⟨n, rfl⟩ := okWide_int ht hok; rfl
      | str ht s hs => obtain ⟨n, rfl⟩ := okWide_string ht hok; rfl
      | struct ht parts hp => simp [tagg, ht] at hag
    have : v.cells.toList[0]'(by rw [← hl]; simp) = v := by simp [hv1]
    rw [this] at hv
    exact hv
end
end Go.Vm
