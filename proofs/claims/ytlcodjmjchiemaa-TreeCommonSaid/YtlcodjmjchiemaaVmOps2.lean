/- The value machine: slices that are made, written out, appended to. No condition. -/
import Derived.Test.YtlcodjmjchiemaaVmOps1
set_option linter.unusedSimpArgs false
set_option linter.unusedVariables false
namespace Go.Vm

section
variable {μ : Type → Type} [Mp μ] {P : Program}
variable {ψ : Gh} {w : World} {h : Hp μ}

theorem flat_cons (e : AV) (els : List AV) : flat (e :: els) = e.cells ++ flat els := by simp [flat]

theorem flat_set {n : Nat} : ∀ (els : List AV) (i : Nat) (v : AV), (∀ e ∈ els, e.cells.length = n) → i < els.length → v.cells.length = n → flat (els.set i v) = splice (flat els) (i * n) v.cells
  | [], i, v, _, hi, _ => by simp at hi
  | e :: els, 0, v, he, _, hv => by
    have h1 := he e (by simp)
    simp only [List.set_cons_zero, flat_cons, splice, Nat.zero_mul, List.take_zero, List.nil_append, Nat.zero_add]
    congr 1
    rw [hv, ← h1, List.drop_left]
  | e :: els, i + 1, v, he, hi, hv => by
    have h1 := he e (by simp)
    have ih := flat_set els i v (fun x hx => he x (by simp [hx])) (by simpa using hi) hv
    simp only [List.set_cons_succ, flat_cons, ih, splice]
    have e1 : (i + 1) * n = e.cells.length + i * n := by rw [h1, Nat.succ_mul]; omega
    rw [e1, List.take_length_add_append, show e.cells.length + i * n + v.cells.length = e.cells.length + (i * n + v.cells.length) from by omega, List.drop_length_add_append]
    simp

theorem setEls_fill {n : Nat} : ∀ (l : List (Nat × AV)) (els r : List AV), (∀ e ∈ els, e.cells.length = n ∧ e.cells.all AV.isCell = true) → setEls n els l = some r →
    fillAV (fun i => some (i * n, n)) (flat els) l = some (flat r) ∧ r.length = els.length ∧ ∀ e ∈ r, e.cells.length = n ∧ e.cells.all AV.isCell = true
  | [], els, r, he, hr => by cases hr; exact ⟨rfl, rfl, he⟩
  | (i, v) :: l, els, r, he, hr => by
    simp only [setEls] at hr
    by_cases hc : v.cells.length = n ∧ i < els.length ∧ v.cells.all AV.isCell = true
    · rw [if_pos hc] at hr
      obtain ⟨c1, c2, c3⟩ := hc
      have hs := flat_set els i v (fun e h => (he e h).1) c2 c1
      have hfl := flat_length (fun e h => (he e h).1)
      have hmul : i * n + n ≤ els.length * n := by rw [← Nat.succ_mul]; exact Nat.mul_le_mul_right _ c2
      obtain ⟨r1, r2, r3⟩ := setEls_fill l (els.set i v) r (fun e h => by
        rcases List.mem_or_eq_of_mem_set h with h | h
        · exact he e h
        · rw [h]; exact ⟨c1, c3⟩) hr
      refine ⟨?_, by simpa using r2, r3⟩
      simp only [fillAV]
      rw [if_pos ⟨c1, by omega, c3⟩, ← hs]
      exact r1
    · rw [if_neg hc] at hr; cases hr

theorem flat_replicate {z : AV} {n len : Nat} (hz : z.cells.length = n) (hn : 0 < n) (k : Nat) (hk : k < (flat (List.replicate len z)).length) :
    ∃ h1 : k % n < z.cells.length, (flat (List.replicate len z))[k] = z.cells[k % n] := by
  have hall : ∀ e ∈ List.replicate len z, e.cells.length = n := fun e he => by rw [List.eq_of_mem_replicate he]; exact hz
  have hfl := flat_length hall
  rw [List.length_replicate] at hfl
  have hkn : k / n < len := by rw [Nat.div_lt_iff_lt_mul hn]; omega
  obtain ⟨h1, h2⟩ := flat_getElem hall (k / n) (by simpa using hkn) (k % n) (Nat.mod_lt _ hn)
  have hk' : k / n * n + k % n = k := by rw [Nat.mul_comm]; exact Nat.div_add_mod k n
  refine ⟨by rw [hz]; exact Nat.mod_lt _ hn, ?_⟩
  simp only [hk', List.getElem_replicate] at h2
  exact h2

theorem made_rel {z : AV} {zv : Value} {n len m : Nat} (hz : z = ofVal zv) (hc : z.cells.all AV.isCell = true) (hzn : z.cells.length = n) (hn : 0 < n) (hm : len * n ≤ m) :
    CellsR ψ w (flat (List.replicate len z)) ((Array.range m).map fun i => zv.cells[i % zv.cells.size]!) := by
  obtain ⟨h1, h2⟩ := VR_zero (ψ := ψ) (w := w) hz hc
  have hfl := flat_length (sz := n) (els := List.replicate len z) (fun e he => by rw [List.eq_of_mem_replicate he]; exact hzn)
  rw [List.length_replicate] at hfl
  refine ⟨by simp; omega, fun k hk => ?_⟩
  obtain ⟨q1, q2⟩ := flat_replicate hzn hn k hk
  refine ⟨zv.cells[k % n]'(by omega), ?_, by rw [q2]; exact h2 _ q1⟩
  rw [Array.getElem?_map, Array.getElem?_range, if_pos (by omega)]
  simp only [Option.map_some, h1, hzn]
  rw [getElem!_pos _ _ (by omega)]

theorem buildSlice_sound (S : Sim ψ w h) {t : TypeId} {len : Nat} {l : List (Nat × AV)} {lv : Array (Nat × Value)} {r : AV × Hp μ} (hl : buildSliceAV P h t len l = some r) (hlen : l.length = lv.toList.length)
    (hall : ∀ i (h1 : i < l.length) (h2 : i < lv.toList.length), (l[i]).1 = (lv.toList[i]).1 ∧ VR ψ w (l[i]).2 (lv.toList[i]).2) :
    ∃ u w' ψ', (Instr.buildSlice t len lv).run P w = .ok u w' ∧ Ext ψ w ψ' w' ∧ Sim ψ' w' r.2 ∧ VR ψ' w' r.1 u := by
  unfold buildSliceAV at hl
  cases hu : P.underlying t with
  | none => rw [hu] at hl; cases hl
  | some d =>
    rw [hu] at hl
    cases d <;> try (cases hl; done)
    rename_i e
    simp only at hl
    cases hn : tsize P e with
    | none => rw [hn] at hl; cases hl
    | some n =>
      cases hz : tzero P e with
      | none => rw [hn, hz] at hl; cases hl
      | some z =>
        rw [hn, hz] at hl
        simp only [Option.bind_some] at hl
        by_cases hc : 0 < n ∧ len * n ≤ 65536 ∧ z.cells.length = n ∧ z.cells.all AV.isCell = true
        · rw [if_pos hc] at hl
          obtain ⟨c1, c2, c3, c4⟩ := hc
          cases hse : setEls n (List.replicate len z) l with
          | none => rw [hse] at hl; cases hl
          | some els =>
            rw [hse] at hl; cases hl
            obtain ⟨zv, hzr, hze⟩ := tzero_run hz w
            obtain ⟨f1, f2, f3⟩ := setEls_fill l _ els (fun e he => by rw [List.eq_of_mem_replicate he]; exact ⟨c3, c4⟩) hse
            rw [List.length_replicate] at f2
            have hm := made_rel (ψ := ψ) (w := w) (m := len * n) (len := len) hze c4 c3 c1 (Nat.le_refl _)
            have hfl0 := flat_length (sz := n) (els := List.replicate len z) (fun e he => by rw [List.eq_of_mem_replicate he]; exact c3)
            rw [List.length_replicate] at hfl0
            have hinit : VRs ψ w (flat (List.replicate len z)) ((Array.range (len * n)).map fun i => zv.cells[i % zv.cells.size]!) :=
              ⟨by simp [hfl0], fun i hi => by
                obtain ⟨v, q1, q2⟩ := hm.2 i hi
                rw [Array.getElem?_eq_getElem (by simp; omega)] at q1
                rw [Option.some.inj q1]; exact q2⟩
            obtain ⟨y, r1, hy1, hy2⟩ := fill_sound l lv.toList _ _ (flat els) hlen hall hinit f1
            have hfl := flat_length (fun x hx => (f3 x hx).1)
            have hcells : CellsR ψ w (flat els) y := ⟨by omega, fun i hi => ⟨y[i]'(by omega), by rw [Array.getElem?_eq_getElem], hy2 i hi⟩⟩
            obtain ⟨ψ', E, S', V⟩ := newSl_sound S (sz := n) (cap := len) (els := els) (c := y) (e := e) (fr := (0, 0)) (fun x hx => (f3 x hx).1) (fun x hx => (f3 x hx).2) hcells (by omega) (by rw [hy1, hfl, f2]; exact Nat.le_refl _)
              (fun i hi => by simp) (Pushed.alloc w (.cells y e))
            rw [f2] at V
            refine ⟨_, _, ψ', ?_, E, S', V⟩
            simp only [Instr.buildSlice, Sem.run_bind, underlying_run hu, Result.andThen_ok, tsize_run hn]
            rw [if_neg (by omega)]
            by_cases h0 : len * n = 0
            · have hl0 : len = 0 := by
                rcases Nat.eq_zero_or_pos len with h | h
                · exact h
                · have := Nat.mul_pos h c1; omega
              subst hl0
              simp only [Nat.zero_mul] at r1
              have e0 : ∀ (f : Nat → Value), (Array.range 0).map f = #[] := fun f => by simp
              rw [e0] at r1
              simp only [Nat.zero_mul, if_true, Sem.run_bind, Sem.run_pure, Result.andThen_ok]
              rw [e0, r1]
              simp [newRow]
            · simp only [h0, if_false, Sem.run_bind, hzr, Result.andThen_ok, Sem.run_pure, r1]
              simp [newRow]
        · rw [if_neg hc] at hl; cases hl

theorem makeSlice_sound (S : Sim ψ w h) {t : TypeId} {a b : AV} {av bv : Value} {r : AV × Hp μ} (hl : makeSliceAV P h t a b = some r) (ha : VR ψ w a av) (hb : VR ψ w b bv) :
    ∃ u w' ψ', (Instr.makeSlice t av bv).run P w = .ok u w' ∧ Ext ψ w ψ' w' ∧ Sim ψ' w' r.2 ∧ VR ψ' w' r.1 u := by
  unfold makeSliceAV at hl
  cases hu : P.underlying t with
  | none => rw [hu] at hl; cases hl
  | some d =>
    rw [hu] at hl
    cases d <;> try (cases hl; done)
    rename_i e
    cases ha <;> try (cases hl; done)
    rename_i k n
    cases hb <;> try (cases hl; done)
    rename_i k' m
    simp only at hl
    cases hi : P.info? e with
    | none => simp [tsize, hi] at hl
    | some i =>
      cases hz : i.zero with
      | none => simp [tsize, tbytes, tzero, hi, hz] at hl
      | some zv =>
        have e1 : tsize P e = some i.size := by simp [tsize, hi]
        have e2 : tbytes P e = some i.bytes := by simp [tbytes, hi]
        have e3 : tzero P e = some (ofVal zv) := by simp [tzero, hi, hz]
        rw [e1, e2, e3] at hl
        simp only [Option.bind_some] at hl
        by_cases hc : 0 < i.size ∧ 0 ≤ n ∧ n ≤ m ∧ m * i.bytes ≤ 2 ^ 40 ∧ m ≤ 2 ^ 40 ∧ (ofVal zv).cells.length = i.size ∧ (ofVal zv).cells.all AV.isCell = true
        · rw [if_pos hc] at hl
          cases hl
          obtain ⟨c1, c2, c3, c4, c5, c6, c7⟩ := hc
          have hrun := Go.run_make (P := P) w t e i zv hu hi hz k k' n m c2 c3 (by rw [Int.mul_comm]; omega) (by omega)
          have hnm : n.toNat * i.size ≤ m.toNat * i.size := Nat.mul_le_mul_right _ (by omega)
          obtain ⟨ψ', E, S', V⟩ := newSl_sound S (sz := i.size) (cap := m.toNat) (els := List.replicate n.toNat (ofVal zv)) (c := madeCells zv.cells (m.toNat * i.size)) (e := e) (fr := (0, 0))
            (fun x hx => by rw [List.eq_of_mem_replicate hx]; exact c6) (fun x hx => by rw [List.eq_of_mem_replicate hx]; exact c7)
            (made_rel (ψ := ψ) (w := w) rfl c7 c6 c1 hnm) (by simp; omega) (by simp [madeCells]) (fun i hi => by simp) (Pushed.alloc w _)
          rw [List.length_replicate] at V
          exact ⟨_, _, ψ', hrun, E, S', V⟩
        · rw [if_neg hc] at hl; cases hl

/-- What is appended. -/
theorem newEls_src {sz : Nat} {x : AV} {v : Value} {new : List AV} (hn : newEls sz x = some new) (hv : VR ψ w x v) :
    ∃ nc : List Value, (Builtin.lenOf v).run P w = .ok new.length w ∧ (∀ w', w'.heap = w.heap → (Builtin.firstCells sz new.length v).run P w' = .ok nc.toArray w') ∧ nc.length = (flat new).length ∧ (∀ e ∈ new, e.cells.length = sz ∧ e.cells.all AV.isCell = true) ∧
      ∀ i (hi : i < (flat new).length), ∃ u, nc[i]? = some u ∧ VR ψ w ((flat new)[i]) u := by
  cases hv with
  | nils => cases hn; exact ⟨[], by simp [Builtin.lenOf], fun w' _ => by simp [Builtin.firstCells], by simp [flat], by simp, fun i hi => by simp [flat] at hi⟩
  | sl g off sz' cp els B p cap cs hgn hg he hsz hic hc hvv hlen hcap hcp hfr =>
    simp only [newEls] at hn
    by_cases hs : sz' = sz
    · rw [if_pos hs] at hn; cases hn; subst hs
      have hfl := flat_length hsz
      refine ⟨(List.range (new.length * sz')).map cs, by simp [Builtin.lenOf], ?_, by simp [hfl], fun e he => ⟨hsz e he, hic e he⟩, fun i hi => ⟨cs i, ?_, hvv i hi⟩⟩
      · intro w' hw
        simp only [Builtin.firstCells]
        rw [loadCells_run (cs := cs) (fun j hj => by rw [World.cell?, hw]; exact hc j (by omega))]
        congr 1
        apply Array.toList_inj.1
        simp [Array.toList_map]
      · rw [List.getElem?_map, List.getElem?_range (by omega)]; rfl
    · rw [if_neg hs] at hn; cases hn
  | str s =>
    simp only [newEls] at hn
    by_cases hs : sz = 1
    · rw [if_pos hs] at hn; cases hn; subst hs
      have hfl : flat (s.map byteAV) = s.map byteAV := by
        simp only [flat]
        induction s with
        | nil => rfl
        | cons a s ih => simp only [List.map_cons, List.flatMap_cons, ih]; rfl
      have hsz : (⟨s.toArray⟩ : ByteArray).size = s.length := by simp [ByteArray.size]
      refine ⟨Lib.strCells ⟨s.toArray⟩, ?_, ?_, ?_, fun e he => ?_, fun i hi => ?_⟩
      · simp [Builtin.lenOf, hsz]
      · intro w' _
        have := Lib.run_firstCells_string (P := P) w' 1 ⟨s.toArray⟩
        rw [hsz] at this
        rw [List.length_map]; exact this
      · rw [Lib.strCells_length, hsz, hfl, List.length_map]
      · simp only [List.mem_map] at he
        obtain ⟨b, _, rfl⟩ := he
        exact ⟨rfl, rfl⟩
      · rw [hfl, List.length_map] at hi
        refine ⟨.int .u8 (s[i]).toNat, by simp [Lib.strCells, hi], ?_⟩
        simp only [hfl, List.getElem_map]
        exact .int _ _
    · rw [if_neg hs] at hn; cases hn
  | _ => cases hn
end
end Go.Vm
