/- The value machine: the other two ways in which the heap may change: a row is written; a slice grows. No condition. -/
import Derived.Test.YtlcodjmjchiemaaVmMem
set_option linter.unusedSimpArgs false
set_option linter.unusedVariables false
namespace Go.Vm

section
variable {μ : Type → Type} [Mp μ] {P : Program}
variable {ψ : Gh} {w : World} {h : Hp μ}

theorem OnlyAt.cell {B C i : Nat} {w w' : World} (h : OnlyAt B w w') (hC : C ≠ B) : w'.cell? ⟨C, i, none⟩ = w.cell? ⟨C, i, none⟩ := by simp only [World.cell?, h.other C hC]
theorem OnlyAt.frozen {B C i : Nat} {w w' : World} (h : OnlyAt B w w') (hC : C ≠ B) : w'.frozen? ⟨C, i, none⟩ = w.frozen? ⟨C, i, none⟩ := by simp only [World.frozen?, h.other C hC]

/-- A row is written. -/
theorem setRow_sound (S : Sim ψ w h) {o : Nat} {cs' : List AV} {B : Nat} {c c' : Array Value} {e : TypeId} {fr : Nat × Nat} {w' : World} (ho : ψ.obj o = some B) (hown : ψ.own B = some o)
    (hB : w.heap[B]? = some (.cells c e fr)) (hf : ∀ i, i < c.size → w.frozen? ⟨B, i, none⟩ = false) (hB' : w'.heap[B]? = some (.cells c' e fr)) (hs : c'.size = c.size) (hat : OnlyAt B w w') (hc : CellsR ψ w cs' c') :
    Ext ψ w ψ w' ∧ Sim ψ w' { h with obj := Mp.set h.obj o (.row cs') } := by
  have hg : ψ.grp B = none := (S.own B o hown).1
  have hne : ∀ C g, ψ.grp C = some g → C ≠ B := fun C g e he => by rw [he, hg] at e; cases e
  have E : Ext ψ w ψ w' := ⟨hat.os, hat.tape, hat.output, by rw [hat.size]; omega, fun _ _ e => e, fun _ _ e => e, fun _ _ _ => Nat.le_refl _, fun C g i e _ => hat.cell (hne C g e), Nat.le_refl _,
    fun _ _ => .inl ⟨rfl, rfl, fun _ _ => ⟨rfl, rfl⟩⟩, fun C e => hat.other C (hne C 0 e)⟩
  refine ⟨E, fun o' cs ho' => ?_, fun C o' hC => ?_, fun o' ho' => ?_, fun C g hC => ?_, S.len, S.zero, S.neq, S.ng, fun g C hC => ?_⟩
  · simp only [Mp.get_set] at ho'
    by_cases h1 : o' = o
    · rw [if_pos h1] at ho'
      cases ho'
      refine ⟨B, c', e, fr, h1 ▸ ho, h1 ▸ hown, hB', hc.1, fun i hi => ?_, (hc.mono E).2⟩
      rw [frozen_of hB', ← frozen_of hB]
      exact hf i (by omega)
    · rw [if_neg h1] at ho'
      obtain ⟨C, c1, t, fr1, q1, q2, q3, q4, q5, q6⟩ := S.row o' cs ho'
      have hCB : C ≠ B := fun he => by rw [he, hown] at q2; cases q2; exact h1 rfl
      refine ⟨C, c1, t, fr1, q1, q2, (hat.other C hCB).trans q3, q4, fun i hi => (hat.frozen hCB).trans (q5 i hi), fun i hi => ?_⟩
      obtain ⟨v, r1, r2⟩ := q6 i hi
      exact ⟨v, r1, r2.mono E⟩
  · have := S.own C o' hC
    exact ⟨this.1, by rw [hat.size]; exact this.2⟩
  · rw [Mp.get_set]
    by_cases h1 : o' = o
    · have := (S.no o' ho').2
      rw [h1, ho] at this; cases this
    · rw [if_neg h1]; exact S.no o' ho'
  · have := S.grp C g hC
    exact ⟨this.1, by rw [hat.size]; exact this.2⟩
  · obtain ⟨h1, h2, c1, t, fr1, h3, h4, h5⟩ := S.blk g C hC
    have hCB := hne C g h1
    exact ⟨h1, h2, c1, t, fr1, (hat.other C hCB).trans h3, h4, fun i hi => (hat.frozen hCB).trans (h5 i hi)⟩

theorem flat_append (a b : List AV) : flat (a ++ b) = flat a ++ flat b := by simp [flat]

/-- A slice grows in place. -/
theorem growIn_sound (S : Sim ψ w h) {g off sz p cap : Nat} {els new : List AV} {B : Nat} {c c' : Array Value} {e : TypeId} {fr : Nat × Nat} {w' : World}
    (hfrs : ψ.blk g = some B ∧ p + els.length * sz = ψ.com B ∧ p + cap * sz ≤ ψ.lim B) (hlen : Mp.get h.len g = some (off + els.length)) (hsz : ∀ x ∈ els ++ new, x.cells.length = sz) (hic : ∀ x ∈ els ++ new, x.cells.all AV.isCell = true) (hcap : els.length + new.length ≤ cap) (hn : 0 < new.length)
    (hB : w.heap[B]? = some (.cells c e fr)) (hf : ∀ i, i < c.size → w.frozen? ⟨B, i, none⟩ = false) (hB' : w'.heap[B]? = some (.cells c' e fr)) (hs : c'.size = c.size) (hat : OnlyAt B w w')
    (hold : ∀ i (hi : i < (flat els).length), ∃ v, w.cell? ⟨B, p + i, none⟩ = some v ∧ VR ψ w ((flat els)[i]) v)
    (hnew : ∀ i (hi : i < (flat new).length), ∃ v, c'[p + els.length * sz + i]? = some v ∧ VR ψ w ((flat new)[i]) v) (hkeep : ∀ j, j < p + els.length * sz → c'[j]? = c[j]?) :
    ∃ ψ', Ext ψ w ψ' w' ∧ Sim ψ' w' { h with len := Mp.set h.len g (off + els.length + new.length) } ∧ VR ψ' w' (.sl g off sz false (els ++ new)) (.slice (some ⟨B, p, none⟩) (els.length + new.length) cap) := by
  obtain ⟨hb1, hb2, hb3⟩ := hfrs
  obtain ⟨hgB, hg0, c0, e0, fr0, hh0, hlim, hf0⟩ := S.blk g B hb1
  rw [hB] at hh0; cases hh0
  have hfl1 := flat_length (fun x hx => hsz x (List.mem_append_left _ hx) : ∀ x ∈ els, x.cells.length = sz)
  have hfl2 := flat_length (fun x hx => hsz x (List.mem_append_right _ hx) : ∀ x ∈ new, x.cells.length = sz)
  have hmul : (els.length + new.length) * sz = els.length * sz + new.length * sz := Nat.add_mul _ _ _
  have hle : (els.length + new.length) * sz ≤ cap * sz := Nat.mul_le_mul_right _ hcap
  let ψ' : Gh := { ψ with com := fun C => if C = B then p + (els.length + new.length) * sz else ψ.com C, len := fun g' => if g' = g then some (off + els.length + new.length) else ψ.len g' }
  have hl : ψ.len g = some (off + els.length) := (S.len g).symm.trans hlen
  have E : Ext ψ w ψ' w' := by
    refine ⟨hat.os, hat.tape, hat.output, by rw [hat.size]; omega, fun _ _ e => e, fun _ _ e => e, fun C g' _ => ?_, fun C g' i hC hi => ?_, Nat.le_refl _, fun g' hC => ?_, fun C hC => ?_⟩
    · simp only [ψ']
      by_cases h1 : C = B
      · rw [if_pos h1, h1, ← hb2]; omega
      · rw [if_neg h1]; exact Nat.le_refl _
    · by_cases h1 : C = B
      · subst h1
        rw [cell_of hB, cell_of hB', hkeep i (by omega)]
      · exact hat.cell h1
    · by_cases h1 : g' = g
      · subst h1
        exact .inr ⟨off + els.length, off + els.length + new.length, hl, by simp [ψ'], by omega⟩
      · refine .inl ⟨by simp [ψ', h1], rfl, fun D hD => ⟨?_, rfl⟩⟩
        have h2 := (S.blk g' D hD).1
        simp only [ψ']
        rw [if_neg]
        intro h3
        rw [h3, hgB] at h2; cases h2; exact h1 rfl
    · refine hat.other C fun h1 => ?_
      rw [h1, hgB] at hC; cases hC; exact hg0 rfl
  have hcell : ∀ i (hi : i < (flat (els ++ new)).length), ∃ v, w'.cell? ⟨B, p + i, none⟩ = some v ∧ VR ψ' w' ((flat (els ++ new))[i]) v := fun i hi => by
    have hi' : i < (flat els).length + (flat new).length := by rw [flat_append, List.length_append] at hi; exact hi
    by_cases h1 : i < (flat els).length
    · obtain ⟨v, q1, q2⟩ := hold i h1
      refine ⟨v, by rw [cell_of hB', hkeep (p + i) (by omega), ← cell_of hB]; exact q1, ?_⟩
      have : (flat (els ++ new))[i] = (flat els)[i] := by simp only [flat_append]; exact List.getElem_append_left h1
      rw [this]; exact q2.mono E
    · obtain ⟨v, q1, q2⟩ := hnew (i - (flat els).length) (by omega)
      refine ⟨v, by rw [cell_of hB']; rw [show p + i = p + els.length * sz + (i - (flat els).length) from by omega]; exact q1, ?_⟩
      have : (flat (els ++ new))[i] = (flat new)[i - (flat els).length]'(by omega) := by simp only [flat_append]; exact List.getElem_append_right (by omega)
      rw [this]; exact q2.mono E
  refine ⟨ψ', E, ⟨fun o cs ho => ?_, fun C o hC => ?_, S.no, fun C g' hC => ?_, fun g' => ?_, ?_, S.neq, fun g' hg' => ?_, fun g' C hC => ?_⟩, ?_⟩
  · obtain ⟨C, c1, t, fr1, q1, q2, q3, q4, q5, q6⟩ := S.row o cs ho
    have hCB : C ≠ B := fun he => by have := (S.own C o q2).1; rw [he, hgB] at this; cases this
    refine ⟨C, c1, t, fr1, q1, q2, (hat.other C hCB).trans q3, q4, fun i hi => (hat.frozen hCB).trans (q5 i hi), fun i hi => ?_⟩
    obtain ⟨v, r1, r2⟩ := q6 i hi
    exact ⟨v, r1, r2.mono E⟩
  · have := S.own C o hC
    exact ⟨this.1, by rw [hat.size]; exact this.2⟩
  · have := S.grp C g' hC
    exact ⟨this.1, by rw [hat.size]; exact this.2⟩
  · simp only [Mp.get_set, ψ']
    by_cases h1 : g' = g
    · simp [h1]
    · simp [h1, S.len g']
  · refine ⟨?_, S.zero.2⟩
    simp only [ψ']
    rw [if_neg (fun h => hg0 h.symm)]; exact S.zero.1
  · have hlt := (S.grp B g hgB).1
    simp only at hg'
    simp only [ψ']
    rw [if_neg (by omega)]
    exact S.ng g' hg'
  · obtain ⟨h1, h2, c1, t, fr1, h3, h4, h5⟩ := S.blk g' C hC
    by_cases hCB : C = B
    · subst hCB
      rw [hB] at h3; cases h3
      exact ⟨h1, h2, c', e, fr, hB', by simp only [ψ']; omega, fun i hi => by rw [frozen_of hB', ← frozen_of hB]; exact hf i (by omega)⟩
    · exact ⟨h1, h2, c1, t, fr1, (hat.other C hCB).trans h3, h4, fun i hi => (hat.frozen hCB).trans (h5 i hi)⟩
  · have hlen' : (els ++ new).length = els.length + new.length := by simp
    have := VR.sl (ψ := ψ') (w := w') g off sz false (els ++ new) B p cap (fun i => (w'.cell? ⟨B, p + i, none⟩).getD Go.undef) (by have := (S.grp B g hgB).1; have := S.neq; simp only [ψ']; omega) (fun _ => hgB) (fun _ => by simp only [ψ', if_pos, hlen']; omega) hsz hic
      (fun i hi => by obtain ⟨v, q1, _⟩ := hcell i hi; rw [q1]; rfl) (fun i hi => by obtain ⟨v, q1, q2⟩ := hcell i hi; simp only [q1, Option.getD_some]; exact q2)
      (fun m hm => by simp only [ψ', if_pos] at hm; cases hm; omega) (by omega) (by simp) (fun _ _ m hm hm' => ⟨hb1, by simp only [ψ', if_pos, hlen'], hb3⟩)
    rw [hlen'] at this
    exact this

/-- A slice grows into a new block. -/
theorem growNew_sound (S : Sim ψ w h) {g off sz cap : Nat} {els new : List AV} {c : Array Value} {e : TypeId} {w' : World} (hg0 : g ≠ 0) (hgn0 : g < ψ.ng)
    (hlen : Mp.get h.len g = some (off + els.length)) (hsz : ∀ x ∈ els ++ new, x.cells.length = sz) (hic : ∀ x ∈ els ++ new, x.cells.all AV.isCell = true) (hc : CellsR ψ w (flat (els ++ new)) c) (hcap : els.length + new.length ≤ cap) (hn : 0 < new.length) (hlim : cap * sz ≤ c.size)
    (hp : Pushed w w' (.cells c e)) :
    ∃ ψ', Ext ψ w ψ' w' ∧ Sim ψ' w' { h with len := Mp.set h.len g (off + els.length + new.length) } ∧ VR ψ' w' (.sl g off sz false (els ++ new)) (.slice (some ⟨w.heap.size, 0, none⟩) (els.length + new.length) cap) := by
  let B := w.heap.size
  have hlen' : (els ++ new).length = els.length + new.length := by simp
  have hfl := flat_length hsz
  let ψ' : Gh := { ψ with grp := fun C => if C = B then some g else ψ.grp C, com := fun C => if C = B then (els.length + new.length) * sz else ψ.com C, lim := fun C => if C = B then c.size else ψ.lim C,
                          blk := fun g' => if g' = g then some B else ψ.blk g', len := fun g' => if g' = g then some (off + els.length + new.length) else ψ.len g' }
  have hne : ∀ C g, ψ.grp C = some g → C ≠ B := fun C g e => by have := (S.grp C g e).2; simp only [B]; omega
  have hl : ψ.len g = some (off + els.length) := (S.len g).symm.trans hlen
  have hgn : g < h.ng := by have := S.neq; omega
  have hfz : ∀ i, i < c.size → w'.frozen? ⟨B, i, none⟩ = false := fun i _ => by rw [frozen_of hp.new]; simp
  have E : Ext ψ w ψ' w' := by
    refine ⟨hp.os, hp.tape, hp.output, by rw [hp.size]; omega, fun o C e => e, fun C g e => by simp only [ψ']; rw [if_neg (hne C g e)]; exact e,
      fun C g e => by simp only [ψ']; rw [if_neg (hne C g e)]; exact Nat.le_refl _, fun C g i hg _ => hp.cell (S.grp C g hg).2, Nat.le_refl _, fun g' hC => ?_, fun C hC => hp.old (S.grp C 0 hC).2⟩
    by_cases h1 : g' = g
    · subst h1
      exact .inr ⟨off + els.length, off + els.length + new.length, hl, by simp [ψ'], by omega⟩
    · refine .inl ⟨by simp [ψ', h1], by simp [ψ', h1], fun D hD => ?_⟩
      have := (S.blk g' D hD).1
      simp only [ψ']
      rw [if_neg (hne D g' this), if_neg (hne D g' this)]
      exact ⟨rfl, rfl⟩
  refine ⟨ψ', E, ⟨fun o cs ho => ?_, fun C o hC => ?_, S.no, fun C g' hC => ?_, fun g' => ?_, ?_, S.neq, fun g' hg' => ?_, fun g' C hC => ?_⟩, ?_⟩
  · obtain ⟨C, c', t, fr', h1, h2, h3, h4, h5, h6⟩ := S.row o cs ho
    have hC := (S.own C o h2).2
    refine ⟨C, c', t, fr', h1, h2, (hp.old hC).trans h3, h4, fun i hi => (hp.frozen hC).trans (h5 i hi), fun i hi => ?_⟩
    obtain ⟨v, q1, q2⟩ := h6 i hi
    exact ⟨v, q1, q2.mono E⟩
  · have h1 := S.own C o hC
    refine ⟨?_, by rw [hp.size]; omega⟩
    simp only [ψ']
    rw [if_neg (by simp only [B]; omega)]
    exact h1.1
  · simp only [ψ'] at hC
    by_cases h1 : C = B
    · rw [if_pos h1] at hC; cases hC
      exact ⟨hgn, by rw [hp.size, h1]; simp only [B]; omega⟩
    · rw [if_neg h1] at hC
      have := S.grp C g' hC
      exact ⟨this.1, by rw [hp.size]; omega⟩
  · simp only [Mp.get_set, ψ']
    by_cases h1 : g' = g
    · simp [h1]
    · simp [h1, S.len g']
  · refine ⟨?_, S.zero.2⟩
    simp only [ψ']
    rw [if_neg (fun h => hg0 h.symm)]; exact S.zero.1
  · simp only at hg'
    simp only [ψ']
    rw [if_neg (by omega), if_neg (by omega)]
    exact S.ng g' hg'
  · simp only [ψ'] at hC ⊢
    by_cases h1 : g' = g
    · rw [if_pos h1] at hC; cases hC
      exact ⟨by simp [h1], by omega, c, e, (0, 0), hp.new, by simp, hfz⟩
    · rw [if_neg h1] at hC
      obtain ⟨h1, h2, c', t, fr', h3, h4, h5⟩ := S.blk g' C hC
      have hC' := (S.grp C g' h1).2
      have hne' := hne C g' h1
      exact ⟨by rw [if_neg hne']; exact h1, h2, c', t, fr', (hp.old hC').trans h3, by rw [if_neg hne']; exact h4, fun i hi => (hp.frozen hC').trans (h5 i hi)⟩
  · have hcell : ∀ i (hi : i < (flat (els ++ new)).length), ∃ v, w'.cell? ⟨B, 0 + i, none⟩ = some v ∧ VR ψ' w' ((flat (els ++ new))[i]) v := fun i hi => by
      obtain ⟨v, q1, q2⟩ := hc.2 i hi
      exact ⟨v, by rw [cell_of hp.new, Nat.zero_add]; exact q1, q2.mono E⟩
    have := VR.sl (ψ := ψ') (w := w') g off sz false (els ++ new) B 0 cap (fun i => (w'.cell? ⟨B, 0 + i, none⟩).getD Go.undef) hgn0 (fun _ => by simp [ψ']) (fun _ => by simp only [ψ', if_pos, hlen']; omega) hsz hic
      (fun i hi => by obtain ⟨v, q1, _⟩ := hcell i hi; rw [q1]; rfl) (fun i hi => by obtain ⟨v, q1, q2⟩ := hcell i hi; simp only [q1, Option.getD_some]; exact q2)
      (fun m hm => by simp only [ψ', if_pos] at hm; cases hm; omega) (by omega) (by simp) (fun _ _ m hm hm' => ⟨by simp [ψ'], by simp only [ψ', if_pos, hlen']; omega, by simp only [ψ', if_pos]; omega⟩)
    rw [hlen'] at this
    exact this
end
end Go.Vm
