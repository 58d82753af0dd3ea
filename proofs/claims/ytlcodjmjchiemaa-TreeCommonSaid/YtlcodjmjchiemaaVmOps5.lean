/- The value machine: conversions, indexing, least and greatest, and all operations together. No condition. -/
import Derived.Test.YtlcodjmjchiemaaVmOps4
set_option linter.unusedSimpArgs false
set_option linter.unusedVariables false
namespace Go.Vm

section
variable {μ : Type → Type} [Mp μ] {P : Program}
variable {ψ : Gh} {w : World} {h : Hp μ}

theorem bin_sound {op : BinOp} {t : TypeId} {xo yo : Operand} {x y r : AV} {xv yv : Value} (hl : binAV P op t x y = some r) (hx : VR ψ w x xv) (hy : VR ψ w y yv) :
    ∃ u, (do eqGuard op t xo yo xv yv; Go.binOp op t xv yv : Sem Value).run P w = .ok u w ∧ VR ψ w r u := by
  have plain : ∀ {r : AV}, (∃ u, (Go.binOp op t xv yv).run P w = .ok u w ∧ VR ψ w r u) → (eqGuard op t xo yo xv yv).run P w = .ok () w → ∃ u, (do eqGuard op t xo yo xv yv; Go.binOp op t xv yv : Sem Value).run P w = .ok u w ∧ VR ψ w r u := fun ⟨u, h1, h2⟩ hg =>
    ⟨u, by simp only [Sem.run_bind, hg, Result.andThen_ok, h1], h2⟩
  have gi : ∀ (k k' : IntKind) (a b : Int), (eqGuard op t xo yo (.int k a) (.int k' b)).run P w = .ok () w := fun k k' a b => by unfold eqGuard; simp only [Sem.run_ite]; split <;> rfl
  have gs : ∀ (a b : ByteArray), (eqGuard op t xo yo (.string a) (.string b)).run P w = .ok () w := fun a b => by unfold eqGuard; simp only [Sem.run_ite]; split <;> rfl
  unfold binAV at hl
  split at hl
  · cases hx; cases hy; exact plain (shiftBin_sound (.inl rfl) hl) (gi _ _ _ _)
  · cases hx; cases hy; exact plain (shiftBin_sound (.inr rfl) hl) (gi _ _ _ _)
  · cases hx; cases hy
    split at hl
    · rename_i hk; subst hk; exact plain (intBin_sound hl) (gi _ _ _ _)
    · cases hl
  · cases hx; cases hy; exact plain (strBin_sound hl) (gs _ _)
  · rename_i hn1 hn2 hn3 hn4
    cases he : eqlAV P 20 t x y with
    | none => rw [he] at hl; cases hl
    | some b =>
      rw [he] at hl; cases hl
      refine plain ⟨.bool b, ?_, .bool b⟩ (eqGuard_sound he hx hy)
      have := eqlAV_sound 20 t x y xv yv b 10000 he hx hy (by omega)
      have e1 : Go.binOp .eql t xv yv = (do pure (.bool (← Op.equal t xv yv)) : Sem Value) := by
        cases hx <;> cases hy <;> first | rfl | (exact absurd rfl (hn3 _ _ _ _ rfl)) | skip
        all_goals first | exact (hn3 _ _ _ _ rfl rfl).elim | exact (hn4 _ _ rfl rfl).elim | simp_all [eqlAV]
      rw [e1]
      simp only [Sem.run_bind, Op.equal, Op.maxDepth, this, Result.andThen_ok, Sem.run_pure]
  · rename_i hn1 hn2 hn3 hn4
    cases he : eqlAV P 20 t x y with
    | none => rw [he] at hl; cases hl
    | some b =>
      rw [he] at hl; cases hl
      refine plain ⟨.bool (!b), ?_, .bool _⟩ (eqGuard_sound he hx hy)
      have := eqlAV_sound 20 t x y xv yv b 10000 he hx hy (by omega)
      have e1 : Go.binOp .neq t xv yv = (do pure (.bool (!(← Op.equal t xv yv))) : Sem Value) := by
        cases hx <;> cases hy <;> first | rfl | (exact absurd rfl (hn3 _ _ _ _ rfl)) | skip
        all_goals first | exact (hn3 _ _ _ _ rfl rfl).elim | exact (hn4 _ _ rfl rfl).elim | simp_all [eqlAV]
      rw [e1]
      simp only [Sem.run_bind, Op.equal, Op.maxDepth, this, Result.andThen_ok, Sem.run_pure]
  · cases hl

theorem asByte_inv {a : AV} {b : UInt8} (h : asByte a = some b) : ∃ n : Int, a = .int .u8 n ∧ b = UInt8.ofNat n.toNat := by
  unfold asByte at h
  split at h
  · cases h; exact ⟨_, rfl, rfl⟩
  · cases h

theorem mapM_asByte : ∀ (els : List AV) (s : List UInt8), els.mapM asByte = some s → ∃ ns : List Int, els = ns.map (AV.int .u8) ∧ s = ns.map fun n => UInt8.ofNat n.toNat
  | [], s, h => by simp at h; exact ⟨[], rfl, h.symm ▸ rfl⟩
  | a :: els, s, h => by
    simp only [List.mapM_cons, Option.bind_eq_bind, Option.pure_def] at h
    cases ha : asByte a with
    | none => rw [ha] at h; cases h
    | some b =>
      rw [ha] at h
      simp only [Option.bind_some] at h
      cases hm : els.mapM asByte with
      | none => rw [hm] at h; cases h
      | some r =>
        rw [hm] at h
        simp only [Option.bind_some] at h
        cases h
        obtain ⟨n, h1, h2⟩ := asByte_inv ha
        obtain ⟨ns, h3, h4⟩ := mapM_asByte els r hm
        exact ⟨n :: ns, by simp [h1, h3], by simp [h2, h4]⟩

theorem foldl_push (ns : List Int) : ∀ r : ByteArray, ns.foldl (fun r n => r.push (UInt8.ofNat n.toNat)) r = ⟨(r.data.toList ++ ns.map fun n => UInt8.ofNat n.toNat).toArray⟩ := by
  induction ns with
  | nil => intro r; apply ByteArray.ext; simp
  | cons n ns ih => intro r; simp only [List.foldl_cons, ih]; apply ByteArray.ext; simp [ByteArray.push]

theorem flat_ints (ns : List Int) : flat (ns.map (AV.int .u8)) = ns.map (AV.int .u8) := by
  simp only [flat]
  induction ns with
  | nil => rfl
  | cons a s ih => simp only [List.map_cons, List.flatMap_cons, ih]; rfl

theorem flat_bytes (s : List UInt8) : flat (s.map byteAV) = s.map byteAV := by
  simp only [flat]
  induction s with
  | nil => rfl
  | cons a s ih => simp only [List.map_cons, List.flatMap_cons, ih]; rfl

theorem isU8_run {e : TypeId} (h : isU8 P e = true) : P.underlying e = some (.int .u8) := by
  unfold isU8 at h
  split at h
  · assumption
  · cases h

theorem conv_sound (S : Sim ψ w h) {s d : TypeId} {x : AV} {v : Value} {r : AV × Hp μ} (hl : convAV P h s d x = some r) (hv : VR ψ w x v) :
    ∃ u w' ψ', (Go.convert s d v).run P w = .ok u w' ∧ Ext ψ w ψ' w' ∧ Sim ψ' w' r.2 ∧ VR ψ' w' r.1 u := by
  unfold convAV at hl
  split at hl
  · rename_i h1 h2
    cases hl; cases hv
    exact ⟨_, w, ψ, by simp [Go.convert, underlying_run h1, underlying_run h2, Conv.intToInt], Ext.refl _ _, S, .int _ _⟩
  · rename_i h1 h2
    cases hl; cases hv
    exact ⟨_, w, ψ, by simp [Go.convert, underlying_run h1, underlying_run h2], Ext.refl _ _, S, .str _⟩
  · rename_i e bs h1 h2
    cases hv
    split at hl
    · rename_i hc
      cases hl
      obtain ⟨hu8, hlen⟩ := hc
      have hu := isU8_run hu8
      have hsz : (ByteArray.mk bs.toArray).size = bs.length := by simp [ByteArray.size]
      let cap := grownCap w bs.length 0 e
      have hge : bs.length ≤ cap := grownCap_ge w bs.length 0 e
      let c : Array Value := (bs.toArray.map fun b => Value.int .u8 b.toNat) ++ Array.replicate (cap - bs.length) (.int .u8 0)
      have hcs : c.size = cap := by simp only [c, Array.size_append, Array.size_map, List.size_toArray, Array.size_replicate]; omega
      let w' : World := (w.drew.alloc (.cells c e)).freeze ⟨w.heap.size, c.size, none⟩ 1
      have hheap : w'.heap = w.heap.push (.cells c e (c.size, c.size + 1)) := by
        apply Array.ext_getElem?
        intro i
        simp only [w', World.freeze, Nat.succ_ne_zero, if_false, Array.getElem?_modify, World.alloc, World.drew, Array.getElem?_push]
        by_cases hi : i = w.heap.size
        · subst hi; simp
        · rw [if_neg (fun hh => hi hh.symm), if_neg hi, if_neg hi]
      have hp : Pushed w w' (.cells c e (c.size, c.size + 1)) := ⟨rfl, rfl, rfl, hheap⟩
      have hrun : (Go.convert s d (.string ⟨bs.toArray⟩)).run P w = .ok (.slice (some ⟨w.heap.size, 0, none⟩) bs.length cap) w' := by
        have hq : (Question.appendCap bs.length 0 e).forced = false := rfl
        simp only [Go.convert, Sem.run_bind, underlying_run h1, underlying_run h2, Result.andThen_ok, underlying_run hu, Conv.stringToBytes, hsz, run_choose, hq, Bool.false_eq_true, if_false, newRow, run_newObj, Sem.run_pure, markStringish, run_shape, World.shape?]
        have : ∀ X : Obj, (w.heap.push X)[w.heap.size]? = some X := fun X => by simp
        rw [this]
        simp only [run_freeze, Result.andThen_ok]
        rfl
      have hcells : CellsR ψ w (flat (bs.map byteAV)) c := by
        rw [flat_bytes]
        refine ⟨by rw [List.length_map]; omega, fun i hi => ?_⟩
        rw [List.length_map] at hi
        refine ⟨.int .u8 (bs[i]).toNat, ?_, by rw [List.getElem_map]; exact .int _ _⟩
        simp only [c]
        rw [Array.getElem?_append_left (by simpa using hi)]
        simp [hi]
      obtain ⟨ψ', E, S', V⟩ := newSl_sound S (sz := 1) (cap := cap) (els := bs.map byteAV) (c := c) (e := e) (fr := (c.size, c.size + 1)) (fun x hx => by simp only [List.mem_map] at hx; obtain ⟨b, _, rfl⟩ := hx; rfl)
        (fun x hx => by simp only [List.mem_map] at hx; obtain ⟨b, _, rfl⟩ := hx; rfl) hcells (by rw [List.length_map]; exact hge) (by omega) (fun i hi => by simp; omega) hp
      rw [List.length_map] at V
      exact ⟨_, w', ψ', hrun, E, S', V⟩
    · cases hl
  · rename_i e h1 h2
    cases hv
    split at hl
    · rename_i hc
      cases hl
      refine ⟨.string .empty, w, ψ, by simp [Go.convert, underlying_run h1, underlying_run h2, underlying_run (isU8_run hc), Conv.bytesToString], Ext.refl _ _, S, ?_⟩
      have : (ByteArray.empty) = ⟨([] : List UInt8).toArray⟩ := rfl
      rw [this]; exact .str _
    · cases hl
  · rename_i e g off sz cp els h1 h2
    cases hv with
    | sl g off sz cp els B p cap cs hgn hg he hsz hic hc hvv hlen hcap hcp hfr => ?_
    split at hl
    · rename_i hcond
      obtain ⟨hu8, rfl⟩ := hcond
      cases hm : els.mapM asByte with
      | none => rw [hm] at hl; cases hl
      | some bs =>
        rw [hm] at hl; cases hl
        obtain ⟨ns, rfl, rfl⟩ := mapM_asByte els bs hm
        rw [flat_ints] at hc hvv
        rw [List.length_map] at hc
        have hcs : ∀ i (hi : i < ns.length), cs i = .int .u8 ns[i] := fun i hi => by
          have := hvv i (by simpa using hi)
          rw [List.getElem_map] at this
          cases hcsi : cs i <;> rw [hcsi] at this <;> cases this
          rfl
        have hload : (loadCells ⟨B, p, none⟩ (ns.map (AV.int .u8)).length).run P w = .ok (ns.map (Value.int .u8)).toArray w := by
          rw [List.length_map, loadCells_run (cs := cs) hc]
          congr 1
          apply Array.toList_inj.1
          apply List.ext_getElem (by simp)
          intro i h1 h2
          simp at h1 h2
          simp [hcs i (by omega)]
        have hrun := run_bytesToString w ⟨B, p, none⟩ (ns.map (AV.int .u8)).length cap ns hload
        refine ⟨_, w, ψ, by simp only [Go.convert, Sem.run_bind, underlying_run h1, underlying_run h2, Result.andThen_ok, underlying_run (isU8_run hu8)]; exact hrun, Ext.refl _ _, S, ?_⟩
        rw [foldl_push]
        exact .str _
    · cases hl
  · cases hl

theorem index_sound {t : TypeId} {x ix r : AV} {v vi : Value} (hl : indexAV P t x ix = some r) (hv : VR ψ w x v) (hi : VR ψ w ix vi) : ∃ u, (Instr.index t v vi).run P w = .ok u w ∧ VR ψ w r u := by
  unfold indexAV at hl
  cases hi <;> try (cases hl; done)
  rename_i k i
  simp only at hl
  split at hl
  · rename_i s hu
    cases hv
    by_cases h0 : 0 ≤ i
    · rw [if_pos h0] at hl
      rcases Nat.lt_or_ge i.toNat s.length with hlt | hge
      · rw [List.getElem?_eq_getElem hlt] at hl
        cases hl
        have hb : (ByteArray.mk s.toArray)[i.toNat]? = some s[i.toNat] := by
          have hsz : (ByteArray.mk s.toArray).size = s.length := by simp [ByteArray.size]
          rw [ByteArray.getElem?_lt' _ _ (by omega)]
          congr 1
        exact ⟨.int .u8 (s[i.toNat]).toNat, by simp [Instr.index, asIntOf, underlying_run hu, h0, hb], .int _ _⟩
      · rw [List.getElem?_eq_none hge] at hl; cases hl
    · rw [if_neg h0] at hl; cases hl
  · rename_i n e cs hu
    cases hv
    rename_i y hy ha
    cases hag : tagg P e with
    | none => rw [hag] at hl; cases hl
    | some ag =>
      cases hn : tsize P e with
      | none => rw [hag, hn] at hl; cases hl
      | some sz =>
        rw [hag, hn] at hl
        simp only [Option.bind_some] at hl
        by_cases h0 : 0 ≤ i ∧ i < n
        · rw [if_pos h0] at hl
          obtain ⟨u, r1, r2⟩ := part_sound (P := P) (ψ := ψ) (w := w) hag hn ⟨hy, ha⟩ hl
          refine ⟨u, ?_, r2⟩
          simp only [Instr.index, asIntOf, Sem.run_bind, Sem.run_pure, Result.andThen_ok, underlying_run hu, h0, and_self, if_true, tsize_run hn]
          exact r1
        · rw [if_neg h0] at hl; cases hl
  · cases hl

theorem minmax_sound {b : Bool} {l : List AV} {lv : Array Value} {ts : Array TypeId} {ty : TypeId} {r : AV} (hl : minmax b l = some r) (hv : VRs ψ w l lv) :
    ∃ u, (if b then Builtin.max_ ts ty lv else Builtin.min_ ts ty lv : Sem Value).run P w = .ok u w ∧ VR ψ w r u := by
  obtain ⟨hs, hv⟩ := hv
  obtain ⟨lv⟩ := lv
  simp only [List.size_toArray] at hs
  unfold minmax at hl
  split at hl
  · rename_i k a
    cases hl
    match lv, hs with
    | [x], _ =>
      have h0 := hv 0 (by simp)
      simp only [List.getElem_cons_zero, List.getElem_toArray] at h0
      cases h0
      exact ⟨_, by cases b <;> simp [Builtin.max_, Builtin.min_] <;> rfl, .int _ _⟩
  · rename_i k a k' b'
    cases hl
    match lv, hs with
    | [x, y], _ =>
      have h0 := hv 0 (by simp)
      have h1 := hv 1 (by simp)
      simp only [List.getElem_cons_zero, List.getElem_cons_succ, List.getElem_toArray] at h0 h1
      cases h0; cases h1
      exact ⟨_, by cases b <;> simp [Builtin.max_, Builtin.min_, Builtin.max2, Builtin.min2] <;> rfl, .int _ _⟩
  · rename_i k a k' b' k'' c'
    cases hl
    match lv, hs with
    | [x, y, z], _ =>
      have h0 := hv 0 (by simp)
      have h1 := hv 1 (by simp)
      have h2 := hv 2 (by simp)
      simp only [List.getElem_cons_zero, List.getElem_cons_succ, List.getElem_toArray] at h0 h1 h2
      cases h0; cases h1; cases h2
      exact ⟨_, by cases b <;> simp [Builtin.max_, Builtin.min_, Builtin.max2, Builtin.min2] <;> rfl, .int _ _⟩
  · cases hl
end
end Go.Vm
