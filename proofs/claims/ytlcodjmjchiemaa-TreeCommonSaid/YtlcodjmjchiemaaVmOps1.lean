/- The value machine: stores, structs and slices that are written out, new slices. No condition. -/
import Derived.Test.YtlcodjmjchiemaaVmVals
import Derived.Laws.AppendOwn
import Derived.Laws.MakeOwn
import Derived.Lib.AppendStr
set_option linter.unusedSimpArgs false
set_option linter.unusedVariables false
namespace Go.Vm

section
variable {μ : Type → Type} [Mp μ] {P : Program}
variable {ψ : Gh} {w : World} {h : Hp μ}

theorem splice_length {cs vs : List AV} {off : Nat} (h : off + vs.length ≤ cs.length) : (splice cs off vs).length = cs.length := by
  simp only [splice, List.length_append, List.length_take, List.length_drop]; omega

theorem splice_get {cs vs : List AV} {off : Nat} (h : off + vs.length ≤ cs.length) (j : Nat) : (splice cs off vs)[j]? = if off ≤ j ∧ j < off + vs.length then vs[j - off]? else cs[j]? := by
  have h1 : (cs.take off).length = off := by rw [List.length_take]; omega
  simp only [splice]
  by_cases ha : j < off
  · rw [if_neg (by omega), List.append_assoc, List.getElem?_append_left (by omega), List.getElem?_take, if_pos ha]
  · by_cases hb : j < off + vs.length
    · rw [if_pos (by omega), List.getElem?_append_left (by rw [List.length_append]; omega), List.getElem?_append_right (by omega), h1]
    · rw [if_neg (by omega), List.getElem?_append_right (by rw [List.length_append]; omega), List.length_append, h1, List.getElem?_drop]
      congr 1; omega

theorem store_sound (S : Sim ψ w h) {t : TypeId} {a v : AV} {va vv : Value} {h' : Hp μ} (hl : storeAV P h t a v = some h') (ha : VR ψ w a va) (hv : VR ψ w v vv) :
    ∃ w', (Instr.storeAt t va vv).run P w = .ok () w' ∧ Ext ψ w ψ w' ∧ Sim ψ w' h' := by
  unfold storeAV at hl
  cases hn : tsize P t with
  | none => rw [hn] at hl; cases hl
  | some n =>
    rw [hn] at hl
    simp only [Option.bind_some] at hl
    cases ha with
    | ptr o off B ho =>
      simp only at hl
      cases hro : Mp.get h.obj o with
      | none => rw [hro] at hl; cases hl
      | some ob =>
        rw [hro] at hl
        cases ob with
        | mp es => cases hl
        | row cs =>
          simp only at hl
          by_cases hc : v.cells.length = n ∧ off + n ≤ cs.length ∧ v.cells.all AV.isCell = true
          · rw [if_pos hc] at hl
            cases hl
            obtain ⟨c1, c2, c3⟩ := hc
            obtain ⟨B', c, e, fr, h1, h2, h3, h4, h5, h6⟩ := S.row o cs hro
            rw [h1] at ho; cases ho
            obtain ⟨⟨hs, hcv⟩, hone⟩ := cells_rel hv c3
            obtain ⟨w', c', r1, r2, r3, r4, r5⟩ := storeCells_run (P := P) vv.cells.toList off 0 w c h3 (by simp; omega) h5 hone
            have := setRow_sound S (cs' := splice cs off v.cells) h1 h2 h3 h5 r2 r3 r4 ⟨by rw [splice_length (by omega)]; omega, fun i hi => by
              rw [splice_length (by omega)] at hi
              have hg := splice_get (cs := cs) (vs := v.cells) (off := off) (by omega) i
              rw [List.getElem?_eq_getElem (by rw [splice_length (by omega)]; exact hi)] at hg
              rw [r5 i]
              simp only [Nat.add_zero, Array.length_toList]
              by_cases hin : off ≤ i ∧ i < off + v.cells.length
              · rw [if_pos hin, List.getElem?_eq_getElem (by omega)] at hg
                rw [if_pos (by omega)]
                refine ⟨vv.cells[i - off]'(by omega), by simp, ?_⟩
                rw [Option.some.inj hg]
                exact hcv (i - off) (by omega)
              · rw [if_neg hin, List.getElem?_eq_getElem hi] at hg
                rw [if_neg (by omega)]
                obtain ⟨u, q1, q2⟩ := h6 i hi
                exact ⟨u, q1, by rw [Option.some.inj hg]; exact q2⟩⟩
            refine ⟨w', ?_, this.1, this.2⟩
            simp only [Instr.storeAt, Instr.sureAddr, Sem.run_bind, Sem.run_pure, Result.andThen_ok, storeVar, tsize_run hn]
            rw [if_neg (by omega)]
            exact r1
          · rw [if_neg hc] at hl; cases hl
    | _ => cases hl

/-- Some cells, set one by one. -/
theorem foldl_set (off : Nat) : ∀ (l : List Value) (k : Nat) (cells : Array Value), off + k + l.length ≤ cells.size →
    ((l.zipIdx k).foldl (fun cs (x : Value × Nat) => cs.setIfInBounds (off + x.2) x.1) cells).size = cells.size ∧
    ∀ j, ((l.zipIdx k).foldl (fun cs (x : Value × Nat) => cs.setIfInBounds (off + x.2) x.1) cells)[j]? = if off + k ≤ j ∧ j < off + k + l.length then l[j - (off + k)]? else cells[j]?
  | [], k, cells, _ => ⟨rfl, fun j => by rw [if_neg (by simp only [List.length_nil]; omega)]; rfl⟩
  | v :: l, k, cells, h => by
    simp only [List.length_cons] at h
    obtain ⟨h1, h2⟩ := foldl_set off l (k + 1) (cells.setIfInBounds (off + k) v) (by simp; omega)
    simp only [List.zipIdx_cons, List.foldl_cons]
    refine ⟨by rw [h1]; simp, fun j => ?_⟩
    rw [h2 j]
    by_cases ha : off + (k + 1) ≤ j ∧ j < off + (k + 1) + l.length
    · rw [if_pos ha, if_pos (by simp only [List.length_cons]; omega), show j - (off + k) = (j - (off + (k + 1))) + 1 from by omega]
      simp
    · rw [if_neg ha]
      by_cases hb : j = off + k
      · subst hb
        rw [if_pos (by simp only [List.length_cons]; omega)]
        simp [show off + k < cells.size by omega]
      · rw [if_neg (by simp only [List.length_cons]; omega), Array.getElem?_setIfInBounds_ne (by omega)]

theorem foldl_setA (off : Nat) (v : Array Value) (cells : Array Value) (h : off + v.size ≤ cells.size) :
    (v.zipIdx.foldl (fun cs (x : Value × Nat) => cs.setIfInBounds (off + x.2) x.1) cells).size = cells.size ∧
    ∀ j, (v.zipIdx.foldl (fun cs (x : Value × Nat) => cs.setIfInBounds (off + x.2) x.1) cells)[j]? = if off ≤ j ∧ j < off + v.size then v[j - off]? else cells[j]? := by
  have := foldl_set off v.toList 0 cells (by simpa using h)
  rw [← Array.foldl_toList]
  simp only [Array.toList_zipIdx]
  refine ⟨this.1, fun j => ?_⟩
  rw [this.2 j]
  simp

theorem fill_sound {place : Nat → Option (Nat × Nat)} : ∀ (l : List (Nat × AV)) (lv : List (Nat × Value)) (cs : List AV) (x : Array Value) (r : List AV), l.length = lv.length →
    (∀ i (h1 : i < l.length) (h2 : i < lv.length), (l[i]).1 = (lv[i]).1 ∧ VR ψ w (l[i]).2 (lv[i]).2) → VRs ψ w cs x → fillAV place cs l = some r → ∃ y, Instr.fill place x lv = some y ∧ VRs ψ w r y
  | [], [], cs, x, r, _, _, hx, hr => by cases hr; exact ⟨x, rfl, hx⟩
  | [], _ :: _, _, _, _, hl, _, _, _ => by simp at hl
  | _ :: _, [], _, _, _, hl, _, _, _ => by simp at hl
  | (i, a) :: l, (j, v) :: lv, cs, x, r, hl, hall, hx, hr => by
    obtain ⟨e1, hv⟩ := hall 0 (by simp) (by simp)
    simp only [List.getElem_cons_zero] at e1 hv
    subst e1
    simp only [fillAV] at hr
    cases hp : place i with
    | none => rw [hp] at hr; cases hr
    | some q =>
      obtain ⟨off, size⟩ := q
      rw [hp] at hr
      simp only at hr
      by_cases hc : a.cells.length = size ∧ off + size ≤ cs.length ∧ a.cells.all AV.isCell = true
      · rw [if_pos hc] at hr
        obtain ⟨c1, c2, c3⟩ := hc
        obtain ⟨⟨hs, hcv⟩, _⟩ := cells_rel hv c3
        obtain ⟨hx1, hx2⟩ := hx
        obtain ⟨f1, f2⟩ := foldl_setA off v.cells x (by omega)
        have hx' : VRs ψ w (splice cs off a.cells) (v.cells.zipIdx.foldl (fun cs (x : Value × Nat) => cs.setIfInBounds (off + x.2) x.1) x) := by
          refine ⟨by rw [f1, splice_length (by omega)]; exact hx1, fun k hk => ?_⟩
          have hg := splice_get (cs := cs) (vs := a.cells) (off := off) (by omega) k
          rw [List.getElem?_eq_getElem hk] at hg
          have hg2 := f2 k
          rw [Array.getElem?_eq_getElem (by rw [splice_length (by omega)] at hk; omega)] at hg2
          rw [splice_length (by omega)] at hk
          by_cases hin : off ≤ k ∧ k < off + a.cells.length
          · rw [if_pos hin, List.getElem?_eq_getElem (by omega)] at hg
            rw [if_pos (by omega), Array.getElem?_eq_getElem (by omega)] at hg2
            rw [Option.some.inj hg, Option.some.inj hg2]
            exact hcv (k - off) (by omega)
          · rw [if_neg hin, List.getElem?_eq_getElem hk] at hg
            rw [if_neg (by omega), Array.getElem?_eq_getElem (by omega)] at hg2
            rw [Option.some.inj hg, Option.some.inj hg2]
            exact hx2 k hk
        obtain ⟨y, r1, r2⟩ := fill_sound l lv _ _ r (by simpa using hl) (fun k h1 h2 => by have := hall (k + 1) (by simp; omega) (by simp; omega); simpa using this) hx' hr
        refine ⟨y, ?_, r2⟩
        simp only [Instr.fill, hp]
        rw [if_neg (by simp; omega)]
        exact r1
      · rw [if_neg hc] at hr; cases hr

theorem parts_rel {ρ : Operand → AV} {ρ' : Operand → Value} (parts : Array (Nat × Operand)) (hv : ∀ x ∈ (parts.toList.map (·.2)), VR ψ w (ρ x) (ρ' x)) :
    (parts.toList.map fun p => (p.1, ρ p.2)).length = (parts.map fun (q : Nat × Operand) => (q.1, ρ' q.2)).toList.length ∧
    ∀ i (h1 : i < (parts.toList.map fun p => (p.1, ρ p.2)).length) (h2 : i < (parts.map fun (q : Nat × Operand) => (q.1, ρ' q.2)).toList.length), ((parts.toList.map fun p => (p.1, ρ p.2))[i]).1 = ((parts.map fun (q : Nat × Operand) => (q.1, ρ' q.2)).toList[i]).1 ∧
      VR ψ w ((parts.toList.map fun p => (p.1, ρ p.2))[i]).2 ((parts.map fun (q : Nat × Operand) => (q.1, ρ' q.2)).toList[i]).2 := by
  refine ⟨by simp, fun i h1 h2 => ?_⟩
  simp only [List.getElem_map, Array.getElem_toList, Array.getElem_map]
  refine ⟨trivial, hv _ ?_⟩
  simp only [List.mem_map]
  exact ⟨parts[i]'(by simpa using h1), by simp, rfl⟩

theorem VR_zero {z : AV} {zv : Value} (hz : z = ofVal zv) (hc : z.cells.all AV.isCell = true) : VRs ψ w z.cells zv.cells := (cells_rel (hz ▸ VR_ofVal zv) hc).1

theorem mapM_places (fields : List Field) (h : fields.all (fun f => (tsize P f.type).isSome) = true) (w : World) :
    (fields.mapM (fun f => (do pure (f.offset, ← sizeOf f.type) : Sem (Nat × Nat)))).run P w = .ok (fields.map fun f => (f.offset, (tsize P f.type).getD 0)) w := by
  induction fields with
  | nil => simp
  | cons f fs ih =>
    simp only [List.all_cons, Bool.and_eq_true] at h
    obtain ⟨n, hn⟩ := Option.isSome_iff_exists.1 h.1
    have ihh := ih h.2
    simp only [List.mapM_cons, Sem.run_bind, tsize_run hn, Result.andThen_ok, Sem.run_pure, ihh, List.map_cons, hn, Option.getD_some]

theorem build_sound {t : TypeId} {l : List (Nat × AV)} {lv : Array (Nat × Value)} {r : AV} (hl : buildAV P t l = some r) (hlen : l.length = lv.toList.length)
    (hall : ∀ i (h1 : i < l.length) (h2 : i < lv.toList.length), (l[i]).1 = (lv.toList[i]).1 ∧ VR ψ w (l[i]).2 (lv.toList[i]).2) : ∃ u, (Instr.build t lv).run P w = .ok u w ∧ VR ψ w r u := by
  unfold buildAV at hl
  cases hz : tzero P t with
  | none => rw [hz] at hl; cases hl
  | some z =>
    rw [hz] at hl
    simp only [Option.bind_some] at hl
    by_cases hzc : z.cells.all AV.isCell = false
    · rw [if_pos hzc] at hl; cases hl
    · rw [if_neg hzc] at hl
      simp only [Bool.not_eq_false] at hzc
      obtain ⟨zv, hzr, hze⟩ := tzero_run hz w
      have hzz : VRs ψ w z.cells zv.cells := VR_zero hze hzc
      cases hu : P.underlying t with
      | none => rw [hu] at hl; cases hl
      | some d =>
        rw [hu] at hl
        cases d <;> try (cases hl; done)
        · rename_i n e
          simp only at hl
          cases hn : tsize P e with
          | none => rw [hn] at hl; cases hl
          | some sz =>
            rw [hn] at hl
            simp only [Option.bind_some] at hl
            cases hf : fillAV (fun i => some (i * sz, sz)) z.cells l with
            | none => rw [hf] at hl; cases hl
            | some cs =>
              rw [hf] at hl; cases hl
              obtain ⟨y, r1, hy1, hy2⟩ := fill_sound l lv.toList z.cells zv.cells cs hlen hall hzz hf
              refine ⟨.agg y, ?_, .agg cs y hy1 hy2⟩
              simp only [Instr.build, Sem.run_bind, hzr, Result.andThen_ok, underlying_run hu, tsize_run hn, r1, Sem.run_pure]
        · rename_i fields
          simp only at hl
          by_cases hfa : fields.toList.all (fun f => (tsize P f.type).isSome) = false
          · rw [if_pos hfa] at hl; cases hl
          · rw [if_neg hfa] at hl
            simp only [Bool.not_eq_false] at hfa
            cases hf : fillAV (fun i => (fields[i]?).bind fun f => (tsize P f.type).map fun n => (f.offset, n)) z.cells l with
            | none => rw [hf] at hl; cases hl
            | some cs =>
              rw [hf] at hl; cases hl
              obtain ⟨y, r1, hy1, hy2⟩ := fill_sound l lv.toList z.cells zv.cells cs hlen hall hzz hf
              refine ⟨.agg y, ?_, .agg cs y hy1 hy2⟩
              have hm := mapM_places (P := P) fields.toList hfa w
              have hpl : (fun (i : Nat) => ((fields.toList.map fun (f : Field) => (f.offset, (tsize P f.type).getD 0)).toArray)[i]?) = (fun (i : Nat) => (fields[i]?).bind fun (f : Field) => (tsize P f.type).map fun n => (f.offset, n)) := by
                funext i
                simp only [List.getElem?_toArray, List.getElem?_map, Array.getElem?_toList]
                cases hfi : fields[i]? with
                | none => rfl
                | some fd =>
                  have hmem : fd ∈ fields.toList := by
                    obtain ⟨hlt, he⟩ := Array.getElem?_eq_some_iff.1 hfi
                    rw [← he]; simp
                  have := (List.all_eq_true.1 hfa) fd hmem
                  obtain ⟨m, hm⟩ := Option.isSome_iff_exists.1 this
                  simp [hm]
              have hm' : (fields.mapM (fun (f : Field) => (do pure (f.offset, ← sizeOf f.type) : Sem (Nat × Nat)))).run P w = .ok (fields.toList.map fun f => (f.offset, (tsize P f.type).getD 0)).toArray w := by
                rw [Array.mapM_eq_mapM_toList]
                simp only [Sem.run_map, hm, Result.andThen_ok]
              simp only [Instr.build, Sem.run_bind, hzr, Result.andThen_ok, underlying_run hu]
              rw [hm']
              simp only [Result.andThen_ok]
              rw [hpl, r1]
              rfl
end
end Go.Vm
