/- The value machine: what the model's small steps on memory come to, and the four ways in which the heap may change. No condition. -/
import Derived.Test.YtlcodjmjchiemaaVmSim
set_option linter.unusedSimpArgs false
set_option linter.unusedVariables false
namespace Go.Vm

section
variable {P : Program} {w : World}

theorem underlying_run {t : TypeId} {d : TypeDesc} (h : P.underlying t = some d) (w : World) : (underlying t).run P w = .ok d w := by
  simp [underlying, h]

theorem typeInfo_run {t : TypeId} {i : TypeInfo} (h : P.info? t = some i) (w : World) : (typeInfo t).run P w = .ok i w := by
  simp [typeInfo, h]

theorem tsize_run {t : TypeId} {n : Nat} (h : tsize P t = some n) (w : World) : (sizeOf t).run P w = .ok n w := by
  unfold tsize at h
  cases hi : P.info? t with
  | none => rw [hi] at h; cases h
  | some i => rw [hi] at h; cases h; simp [sizeOf, typeInfo_run hi]

theorem tagg_run {t : TypeId} {b : Bool} (h : tagg P t = some b) (w : World) : (isAgg t).run P w = .ok b w := by
  unfold tagg at h
  cases hi : P.underlying t with
  | none => rw [hi] at h; cases h
  | some d =>
    rw [hi] at h
    simp only [Option.map_some, Option.some.injEq] at h
    subst h
    simp only [isAgg, Sem.run_bind, underlying_run hi, Result.andThen_ok]
    cases d <;> rfl

theorem tzero_run {t : TypeId} {z : AV} (h : tzero P t = some z) (w : World) : ∃ v, (zeroValue t).run P w = .ok v w ∧ z = ofVal v := by
  unfold tzero at h
  cases hi : P.info? t with
  | none => rw [hi] at h; cases h
  | some i =>
    rw [hi] at h
    cases hz : i.zero with
    | none => simp [hz] at h
    | some v => simp [hz] at h; exact ⟨v, by simp [zeroValue, typeInfo_run hi, hz], h.symm⟩

theorem addr_add (B p i : Nat) : (⟨B, p, none⟩ : Addr).add i = ⟨B, p + i, none⟩ := by
  unfold Addr.add
  by_cases h : i = 0
  · subst h; simp
  · simp [h]

theorem cell_of {B : Nat} {c : Array Value} {e : TypeId} {fr : Nat × Nat} (h : w.heap[B]? = some (.cells c e fr)) (i : Nat) : w.cell? ⟨B, i, none⟩ = c[i]? := by
  simp [World.cell?, h]

theorem frozen_of {B : Nat} {c : Array Value} {e : TypeId} {fr : Nat × Nat} (h : w.heap[B]? = some (.cells c e fr)) (i : Nat) : w.frozen? ⟨B, i, none⟩ = (decide (fr.1 ≤ i) && decide (i < fr.2)) := by
  obtain ⟨lo, hi⟩ := fr
  simp [World.frozen?, h]

theorem load_run {a : Addr} {v : Value} (h : w.cell? a = some v) : (load a).run P w = .ok v w := by simp [h]

theorem loadCellsFrom_run {B p : Nat} {cs : Nat → Value} : ∀ (n i : Nat) (acc : Array Value), (∀ j, j < n → w.cell? ⟨B, p + (i + j), none⟩ = some (cs (i + j))) →
    (loadCellsFrom ⟨B, p, none⟩ i n acc).run P w = .ok (acc ++ (List.range' i n).toArray.map cs) w
  | 0, i, acc, _ => by simp [loadCellsFrom]
  | n + 1, i, acc, h => by
    have h0 := h 0 (by omega)
    simp only [Nat.add_zero] at h0
    have ih := loadCellsFrom_run n (i + 1) (acc.push (cs i)) (fun j hj => by
      have := h (j + 1) (by omega)
      rw [show i + 1 + j = i + (j + 1) from by omega]
      exact this)
    simp only [loadCellsFrom, Sem.run_bind, addr_add, load_run h0, Result.andThen_ok, ih]
    congr 1
    apply Array.toList_inj.1
    simp [List.range'_succ]

theorem loadCells_run {B p n : Nat} {cs : Nat → Value} (h : ∀ j, j < n → w.cell? ⟨B, p + j, none⟩ = some (cs j)) :
    (loadCells ⟨B, p, none⟩ n).run P w = .ok ((List.range n).toArray.map cs) w := by
  have := loadCellsFrom_run (P := P) (w := w) (B := B) (p := p) (cs := cs) n 0 #[] (fun j hj => by simpa using h j hj)
  rw [loadCells, this]
  simp [List.range_eq_range']

/-- Only block B's cells may differ. -/
structure OnlyAt (B : Nat) (w w' : World) : Prop where
  os : w'.os = w.os
  tape : w'.tape = w.tape
  output : w'.output = w.output
  size : w'.heap.size = w.heap.size
  other : ∀ C, C ≠ B → w'.heap[C]? = w.heap[C]?

theorem OnlyAt.refl (B : Nat) (w : World) : OnlyAt B w w := ⟨rfl, rfl, rfl, rfl, fun _ _ => rfl⟩
theorem OnlyAt.trans {B : Nat} {a b c : World} (h : OnlyAt B a b) (k : OnlyAt B b c) : OnlyAt B a c :=
  ⟨k.os.trans h.os, k.tape.trans h.tape, k.output.trans h.output, k.size.trans h.size, fun C hC => (k.other C hC).trans (h.other C hC)⟩

theorem OnlyAt.setCell (w : World) (B i : Nat) (v : Value) : OnlyAt B w (w.setCell ⟨B, i, none⟩ v) :=
  ⟨rfl, rfl, rfl, by simp, fun C hC => by simp only [World.setCell, Array.getElem?_modify]; rw [if_neg (by omega)]⟩

theorem setCell_at {B i : Nat} {c : Array Value} {e : TypeId} {fr : Nat × Nat} {v : Value} (h : w.heap[B]? = some (.cells c e fr)) :
    (w.setCell ⟨B, i, none⟩ v).heap[B]? = some (.cells (c.setIfInBounds i v) e fr) := by
  simp only [World.setCell, Array.getElem?_modify, if_pos, h]
  simp

theorem storeCells_run {B : Nat} {e : TypeId} {fr : Nat × Nat} : ∀ (vs : List Value) (p i : Nat) (w : World) (c : Array Value), w.heap[B]? = some (.cells c e fr) → p + i + vs.length ≤ c.size →
    (∀ j, j < c.size → w.frozen? ⟨B, j, none⟩ = false) → (∀ v ∈ vs, v.oneCell' = true) →
    ∃ w' c', (storeCells ⟨B, p, none⟩ vs i).run P w = .ok () w' ∧ w'.heap[B]? = some (.cells c' e fr) ∧ c'.size = c.size ∧ OnlyAt B w w' ∧
      ∀ j, c'[j]? = if p + i ≤ j ∧ j < p + i + vs.length then vs[j - (p + i)]? else c[j]?
  | [], p, i, w, c, h, _, _, _ => ⟨w, c, by simp [storeCells], h, rfl, .refl B w, fun j => by rw [if_neg (by simp only [List.length_nil]; omega)]⟩
  | v :: vs, p, i, w, c, h, hs, hf, hv => by
    simp only [List.length_cons] at hs
    have hcell : w.cell? ⟨B, p + i, none⟩ = some c[p + i] := by rw [cell_of h]; simp [show p + i < c.size by omega]
    have hfz : w.frozen? ⟨B, p + i, none⟩ = false := hf _ (by omega)
    have hw1 := setCell_at (i := p + i) (v := v) h
    obtain ⟨w', c', r1, r2, r3, r4, r5⟩ := storeCells_run vs p (i + 1) (w.setCell ⟨B, p + i, none⟩ v) (c.setIfInBounds (p + i) v) hw1 (by simp; omega)
      (fun j hj => by rw [frozen_of hw1]; rw [← frozen_of h]; exact hf j (by simpa using hj)) (fun x hx => hv x (by simp [hx]))
    refine ⟨w', c', ?_, r2, by simpa using r3, (OnlyAt.setCell w B (p + i) v).trans r4, fun j => ?_⟩
    · simp only [storeCells, Sem.run_bind, addr_add]
      rw [run_store _ _ _ _ _ (hv v (by simp)), hcell]
      simp only [hfz, Bool.false_eq_true, if_false, Result.andThen_ok]
      exact r1
    · rw [r5 j]
      by_cases h1 : p + (i + 1) ≤ j ∧ j < p + (i + 1) + vs.length
      · rw [if_pos h1, if_pos (by simp; omega)]
        rw [show j - (p + i) = (j - (p + (i + 1))) + 1 from by omega]
        simp
      · rw [if_neg h1]
        by_cases h2 : j = p + i
        · subst h2
          rw [if_pos (by simp)]
          simp [show p + i < c.size by omega]
        · rw [if_neg (by simp only [List.length_cons]; omega)]
          rw [Array.getElem?_setIfInBounds_ne (by omega)]
end

section
variable {μ : Type → Type} [Mp μ] {P : Program}

/-- Cells that tell abstract cells. -/
def CellsR (ψ : Gh) (w : World) (cs : List AV) (c : Array Value) : Prop := cs.length ≤ c.size ∧ ∀ i (h : i < cs.length), ∃ v, c[i]? = some v ∧ VR ψ w cs[i] v

theorem CellsR.mono {ψ ψ' : Gh} {w w' : World} (E : Ext ψ w ψ' w') {cs : List AV} {c : Array Value} (h : CellsR ψ w cs c) : CellsR ψ' w' cs c :=
  ⟨h.1, fun i hi => by obtain ⟨v, a, b⟩ := h.2 i hi; exact ⟨v, a, b.mono E⟩⟩

/-- A world with a block more. -/
structure Pushed (w w' : World) (o : Obj) : Prop where
  os : w'.os = w.os
  tape : w'.tape = w.tape
  output : w'.output = w.output
  heap : w'.heap = w.heap.push o

theorem Pushed.old {w w' : World} {o : Obj} (h : Pushed w w' o) {C : Nat} (hC : C < w.heap.size) : w'.heap[C]? = w.heap[C]? := by
  rw [h.heap, Array.getElem?_push, if_neg (by omega)]
theorem Pushed.new {w w' : World} {o : Obj} (h : Pushed w w' o) : w'.heap[w.heap.size]? = some o := by
  rw [h.heap, Array.getElem?_push, if_pos rfl]
theorem Pushed.size {w w' : World} {o : Obj} (h : Pushed w w' o) : w'.heap.size = w.heap.size + 1 := by rw [h.heap]; simp
theorem Pushed.cell {w w' : World} {o : Obj} (h : Pushed w w' o) {C i : Nat} (hC : C < w.heap.size) : w'.cell? ⟨C, i, none⟩ = w.cell? ⟨C, i, none⟩ := by
  simp only [World.cell?, h.old hC]
theorem Pushed.frozen {w w' : World} {o : Obj} (h : Pushed w w' o) {C i : Nat} (hC : C < w.heap.size) : w'.frozen? ⟨C, i, none⟩ = w.frozen? ⟨C, i, none⟩ := by
  simp only [World.frozen?, h.old hC]
theorem Pushed.alloc (w : World) (o : Obj) : Pushed w (w.alloc o) o := ⟨rfl, rfl, rfl, rfl⟩

variable {ψ : Gh} {w : World} {h : Hp μ}

/-- A new row. -/
theorem newRow_sound (S : Sim ψ w h) {cs : List AV} {c : Array Value} {e : TypeId} {w' : World} (hc : CellsR ψ w cs c) (hp : Pushed w w' (.cells c e)) :
    ∃ ψ', Ext ψ w ψ' w' ∧ Sim ψ' w' (newRowAV h cs).2 ∧ VR ψ' w' (newRowAV h cs).1 (.pointer (some ⟨w.heap.size, 0, none⟩)) := by
  let ψ' : Gh := { ψ with obj := fun o => if o = h.no then some w.heap.size else ψ.obj o, own := fun B => if B = w.heap.size then some h.no else ψ.own B }
  have hno : ∀ o B, ψ.obj o = some B → o ≠ h.no := fun o B e he => by rw [he, (S.no h.no (Nat.le_refl _)).2] at e; cases e
  have E : Ext ψ w ψ' w' := ⟨hp.os, hp.tape, hp.output, by rw [hp.size]; omega, fun o B e => by simp only [ψ']; rw [if_neg (hno o B e)]; exact e, fun _ _ e => e, fun _ _ _ => Nat.le_refl _,
    fun B g i hg _ => hp.cell (S.grp B g hg).2, Nat.le_refl _, fun _ _ => .inl ⟨rfl, rfl, fun _ _ => ⟨rfl, rfl⟩⟩, fun B hB => hp.old (S.grp B 0 hB).2⟩
  refine ⟨ψ', E, ?_, .ptr h.no 0 w.heap.size (by simp [ψ'])⟩
  refine ⟨fun o cs' ho => ?_, fun B o ho => ?_, fun o ho => ?_, fun B g hg => ⟨(S.grp B g hg).1, by have := (S.grp B g hg).2; rw [hp.size]; omega⟩, S.len, S.zero, S.neq, S.ng, fun g B hB => ?_⟩
  · simp only [newRowAV, Mp.get_set] at ho
    by_cases ho' : o = h.no
    · rw [if_pos ho'] at ho
      cases ho
      refine ⟨w.heap.size, c, e, (0, 0), by simp [ψ', ho'], by simp [ψ', ho'], hp.new, hc.1, fun i _ => by rw [frozen_of hp.new]; simp, (hc.mono E).2⟩
    · rw [if_neg ho'] at ho
      obtain ⟨B, c', t, fr, h1, h2, h3, h4, h5, h6⟩ := S.row o cs' ho
      have hB := (S.own B o h2).2
      refine ⟨B, c', t, fr, by simp [ψ', ho', h1], by simp only [ψ']; rw [if_neg (by omega)]; exact h2, (hp.old hB).trans h3, h4, fun i hi => (hp.frozen hB).trans (h5 i hi), fun i hi => ?_⟩
      obtain ⟨v, q1, q2⟩ := h6 i hi
      exact ⟨v, q1, q2.mono E⟩
  · simp only [ψ'] at ho ⊢
    by_cases hB : B = w.heap.size
    · refine ⟨?_, by rw [hp.size]; omega⟩
      cases hg : ψ.grp B with
      | none => rfl
      | some g => have := (S.grp B g hg).2; omega
    · rw [if_neg hB] at ho
      exact ⟨(S.own B o ho).1, by have := (S.own B o ho).2; rw [hp.size]; omega⟩
  · simp only [newRowAV] at ho ⊢
    rw [Mp.get_set, if_neg (by omega)]
    refine ⟨(S.no o (by omega)).1, ?_⟩
    simp only [ψ']
    rw [if_neg (by omega)]
    exact (S.no o (by omega)).2
  · obtain ⟨h1, h2, c', t, fr, h3, h4, h5⟩ := S.blk g B hB
    have hB' := (S.grp B g h1).2
    exact ⟨h1, h2, c', t, fr, (hp.old hB').trans h3, h4, fun i hi => (hp.frozen hB').trans (h5 i hi)⟩

/-- A new slice. -/
theorem newSl_sound (S : Sim ψ w h) {sz cap : Nat} {els : List AV} {c : Array Value} {e : TypeId} {fr : Nat × Nat} {w' : World} (hsz : ∀ x ∈ els, x.cells.length = sz) (hic : ∀ x ∈ els, x.cells.all AV.isCell = true) (hc : CellsR ψ w (flat els) c)
    (hcap : els.length ≤ cap) (hlim : cap * sz ≤ c.size) (hfr : ∀ i, i < c.size → ¬ (fr.1 ≤ i ∧ i < fr.2)) (hp : Pushed w w' (.cells c e fr)) :
    ∃ ψ', Ext ψ w ψ' w' ∧ Sim ψ' w' (newSl h sz els).2 ∧ VR ψ' w' (newSl h sz els).1 (.slice (some ⟨w.heap.size, 0, none⟩) els.length cap) := by
  let B := w.heap.size
  have hfl := flat_length hsz
  let ψ' : Gh := { ψ with grp := fun C => if C = B then some h.ng else ψ.grp C, com := fun C => if C = B then els.length * sz else ψ.com C, lim := fun C => if C = B then c.size else ψ.lim C,
                          blk := fun g => if g = h.ng then some B else ψ.blk g, len := fun g => if g = h.ng then some els.length else ψ.len g, ng := h.ng + 1 }
  have hne : ∀ C g, ψ.grp C = some g → C ≠ B := fun C g e => by have := (S.grp C g e).2; simp only [B]; omega
  have E : Ext ψ w ψ' w' := ⟨hp.os, hp.tape, hp.output, by rw [hp.size]; omega, fun o C e => e, fun C g e => by simp only [ψ']; rw [if_neg (hne C g e)]; exact e,
    fun C g e => by simp only [ψ']; rw [if_neg (hne C g e)]; exact Nat.le_refl _,
    fun C g i hg _ => hp.cell (S.grp C g hg).2, by simp only [ψ']; have := S.neq; omega, fun g e => .inl ⟨by simp only [ψ']; rw [if_neg (by have := S.neq; omega)], by simp only [ψ']; rw [if_neg (by have := S.neq; omega)], fun D hD => by
      have h1 := (S.blk g D hD).1
      simp only [ψ']; rw [if_neg (hne D g h1), if_neg (hne D g h1)]; exact ⟨rfl, rfl⟩⟩, fun C hC => hp.old (S.grp C 0 hC).2⟩
  have hfz : ∀ i, i < c.size → w'.frozen? ⟨B, i, none⟩ = false := fun i hi => by
    rw [frozen_of hp.new]
    have := hfr i hi
    by_cases h1 : fr.1 ≤ i
    · simp [h1]; omega
    · simp [h1]
  refine ⟨ψ', E, ?_, ?_⟩
  · refine ⟨fun o cs' ho => ?_, fun C o ho => ?_, S.no, fun C g hg => ?_, fun g => ?_, ?_, by simp [ψ', newSl], fun g hg => ?_, fun g C hC => ?_⟩
    · obtain ⟨C, c', t, fr', h1, h2, h3, h4, h5, h6⟩ := S.row o cs' ho
      have hC := (S.own C o h2).2
      refine ⟨C, c', t, fr', h1, h2, (hp.old hC).trans h3, h4, fun i hi => (hp.frozen hC).trans (h5 i hi), fun i hi => ?_⟩
      obtain ⟨v, q1, q2⟩ := h6 i hi
      exact ⟨v, q1, q2.mono E⟩
    · have h1 := S.own C o ho
      refine ⟨?_, by rw [hp.size]; omega⟩
      simp only [ψ']
      rw [if_neg (by simp only [B]; omega)]
      exact h1.1
    · simp only [ψ'] at hg
      by_cases hC : C = B
      · rw [if_pos hC] at hg; cases hg
        exact ⟨by simp [newSl], by rw [hp.size, hC]; simp only [B]; omega⟩
      · rw [if_neg hC] at hg
        have := S.grp C g hg
        exact ⟨by simp only [newSl]; omega, by rw [hp.size]; omega⟩
    · simp only [newSl, Mp.get_set, ψ']
      by_cases hg : g = h.ng
      · simp [hg]
      · simp [hg, S.len g]
    · have := S.zero
      refine ⟨?_, by simp only [newSl]; omega⟩
      simp only [ψ']
      rw [if_neg (by omega)]
      exact this.1
    · simp only [newSl] at hg
      simp only [ψ']
      rw [if_neg (by omega), if_neg (by omega)]
      exact S.ng g (by omega)
    · simp only [ψ'] at hC ⊢
      by_cases hg : g = h.ng
      · rw [if_pos hg] at hC; cases hC
        have := S.zero
        exact ⟨by simp [hg], by omega, c, e, fr, hp.new, by simp, hfz⟩
      · rw [if_neg hg] at hC
        obtain ⟨h1, h2, c', t, fr', h3, h4, h5⟩ := S.blk g C hC
        have hC' := (S.grp C g h1).2
        have hne' := hne C g h1
        refine ⟨by rw [if_neg hne']; exact h1, h2, c', t, fr', (hp.old hC').trans h3, by rw [if_neg hne']; exact h4, fun i hi => (hp.frozen hC').trans (h5 i hi)⟩
  · have hsl : ∀ i, i < (flat els).length → ∃ v, w'.cell? ⟨B, i, none⟩ = some v ∧ ∀ hh : i < (flat els).length, VR ψ' w' ((flat els)[i]) v := fun i hi => by
      obtain ⟨v, q1, q2⟩ := hc.2 i hi
      exact ⟨v, by rw [cell_of hp.new]; exact q1, fun _ => q2.mono E⟩
    refine .sl h.ng 0 sz false els B 0 cap (fun i => (w'.cell? ⟨B, i, none⟩).getD Go.undef) (by simp [ψ']) (fun _ => by simp [ψ']) (fun _ => by simp [ψ']) hsz hic (fun i hi => ?_) (fun i hi => ?_) (fun m hm => ?_) hcap (by simp) (fun _ _ m hm hm' => ?_)
    · obtain ⟨v, q1, q2⟩ := hsl i hi
      simp [q1]
    · obtain ⟨v, q1, q2⟩ := hsl i hi
      simp only [q1, Option.getD_some]
      exact q2 hi
    · simp only [ψ', if_pos] at hm; cases hm; omega
    · simp only [ψ', if_pos]
      exact ⟨trivial, by omega, by omega⟩
end
end Go.Vm
