/- The value machine: the operations that read values alone, one by one. No condition. -/
import Derived.Test.YtlcodjmjchiemaaVmMem2
set_option linter.unusedSimpArgs false
set_option linter.unusedVariables false
namespace Go.Vm

section
variable {μ : Type → Type} [Mp μ] {P : Program}
variable {ψ : Gh} {w : World} {h : Hp μ}

theorem VR_ofScalar (v : Value) : VR ψ w (ofScalar v) v := by
  cases v with
  | bool b => exact .bool b
  | int k n => exact .int k n
  | float k b => exact .flt k b
  | complex k a b => exact .cpx k a b
  | string s =>
    have : s = ⟨s.data.toList.toArray⟩ := by simp
    simp only [ofScalar]
    conv => rhs; rw [this]
    exact .str _
  | pointer a => cases a with
    | none => exact .nilp
    | some a => exact .bad _
  | slice a l c =>
    cases a with
    | none =>
      cases l with
      | zero => cases c with
        | zero => exact .nils
        | succ c => exact .bad _
      | succ l => exact .bad _
    | some a => exact .bad _
  | map r => cases r with
    | none => exact .nilm
    | some r => exact .bad _
  | chan r => exact .bad _
  | func f a b =>
    simp only [ofScalar]
    split
    · rename_i hh
      exact .fn f [] [] a b hh.1 hh.2 (fun i hi => absurd hi (by simp)) (fun i hi => absurd hi (by simp))
    · exact .bad _
  | nilFunc => exact .nilf
  | iface t v => exact .bad _
  | nilIface => exact .nili
  | agg c => exact .bad _
  | tuple c => exact .bad _

theorem VR_ofVal (v : Value) : VR ψ w (ofVal v) v := by
  cases v with
  | agg cs => exact .agg _ _ (by simp) (fun i hi => by simp only [List.getElem_map, Array.getElem_toList]; exact VR_ofScalar _)
  | iface t v => exact .ifc t _ v (VR_ofScalar v)
  | _ => simp only [ofVal]; exact VR_ofScalar _

theorem isCell_one {a : AV} {v : Value} (h : VR ψ w a v) (hc : a.isCell = true) : v.oneCell' = true := by
  cases h <;> first | rfl | (simp [AV.isCell] at hc)

/-- The cells of a value, one by one. -/
theorem cells_rel {a : AV} {v : Value} (h : VR ψ w a v) (hc : a.cells.all AV.isCell = true) : VRs ψ w a.cells v.cells ∧ ∀ x ∈ v.cells.toList, x.oneCell' = true := by
  have key : VRs ψ w a.cells v.cells := by
    cases h with
    | agg cs x hx ha => exact ⟨hx, ha⟩
    | undef => simp [AV.cells, AV.isCell] at hc
    | bad => simp [AV.cells, AV.isCell] at hc
    | tup => simp [AV.cells, AV.isCell] at hc
    | bool b => exact ⟨rfl, fun i hi => by simp [AV.cells] at hi; subst hi; exact .bool b⟩
    | int k n => exact ⟨rfl, fun i hi => by simp [AV.cells] at hi; subst hi; exact .int k n⟩
    | flt k n => exact ⟨rfl, fun i hi => by simp [AV.cells] at hi; subst hi; exact .flt k n⟩
    | cpx k a b => exact ⟨rfl, fun i hi => by simp [AV.cells] at hi; subst hi; exact .cpx k a b⟩
    | str s => exact ⟨rfl, fun i hi => by simp [AV.cells] at hi; subst hi; exact .str s⟩
    | nilp => exact ⟨rfl, fun i hi => by simp [AV.cells] at hi; subst hi; exact .nilp⟩
    | ptr o off B ho => exact ⟨rfl, fun i hi => by simp [AV.cells] at hi; subst hi; exact .ptr o off B ho⟩
    | el a off g B p cs hg he hcc hv => exact ⟨rfl, fun i hi => by simp [AV.cells] at hi; subst hi; exact .el a off g B p cs hg he hcc hv⟩
    | nils => exact ⟨rfl, fun i hi => by simp [AV.cells] at hi; subst hi; exact .nils⟩
    | sl g off sz cp els B p cap cs hgn hg he hsz hic hcc hv hlen hcap hcp hfr => exact ⟨rfl, fun i hi => by simp [AV.cells] at hi; subst hi; exact .sl g off sz cp els B p cap cs hgn hg he hsz hic hcc hv hlen hcap hcp hfr⟩
    | nilm => exact ⟨rfl, fun i hi => by simp [AV.cells] at hi; subst hi; exact .nilm⟩
    | mp o B ho => exact ⟨rfl, fun i hi => by simp [AV.cells] at hi; subst hi; exact .mp o B ho⟩
    | fn f a b x y hx hy ha hb => exact ⟨rfl, fun i hi => by simp [AV.cells] at hi; subst hi; exact .fn f a b x y hx hy ha hb⟩
    | nilf => exact ⟨rfl, fun i hi => by simp [AV.cells] at hi; subst hi; exact .nilf⟩
    | ifc t a v h => exact ⟨rfl, fun i hi => by simp [AV.cells] at hi; subst hi; exact .ifc t a v h⟩
    | nili => exact ⟨rfl, fun i hi => by simp [AV.cells] at hi; subst hi; exact .nili⟩
  refine ⟨key, fun x hx => ?_⟩
  obtain ⟨hs, hk⟩ := key
  obtain ⟨i, hi, rfl⟩ := List.getElem_of_mem hx
  have hi' : i < a.cells.length := by rw [← hs]; simpa using hi
  have := hk i hi'
  exact isCell_one (by simpa using this) (by rw [List.all_eq_true] at hc; exact hc _ (List.getElem_mem hi'))

/-- The part of some cells in memory. -/
theorem loadVar_sound {t : TypeId} {ag : Bool} {n : Nat} (hag : tagg P t = some ag) (hn : tsize P t = some n) {cs : List AV} {B p off : Nat} {f : Nat → Value}
    (hc : ∀ i, i < cs.length → w.cell? ⟨B, p + i, none⟩ = some (f i)) (hv : ∀ i (hi : i < cs.length), VR ψ w cs[i] (f i)) {r : AV} (hr : partAV ag n cs off = some r) :
    ∃ u, (loadVar t ⟨B, p + off, none⟩).run P w = .ok u w ∧ VR ψ w r u := by
  unfold partAV at hr
  cases ag with
  | true =>
    simp only [if_true] at hr
    by_cases hle : off + n ≤ cs.length
    · rw [if_pos hle] at hr
      cases hr
      have hl := loadCells_run (P := P) (w := w) (B := B) (p := p + off) (n := n) (cs := fun i => f (off + i)) (fun j hj => by
        rw [show p + off + j = p + (off + j) from by omega]; exact hc _ (by omega))
      refine ⟨.agg ((List.range n).toArray.map fun i => f (off + i)), ?_, ?_⟩
      · simp only [loadVar, Sem.run_bind, tagg_run hag, Result.andThen_ok, if_true, tsize_run hn, hl, Sem.run_pure]
      · refine .agg _ _ (by simp; omega) (fun i hi => ?_)
        have hi' : i < n := by simp at hi; omega
        simp only [List.getElem_take, List.getElem_drop]
        have e : (((List.range n).toArray.map fun i => f (off + i))[i]'(by simp; omega)) = f (off + i) := by simp
        rw [e]
        exact hv (off + i) (by omega)
    · rw [if_neg hle] at hr; cases hr
  | false =>
    simp only [Bool.false_eq_true, if_false] at hr
    have hi : off < cs.length := by
      rcases Nat.lt_or_ge off cs.length with h1 | h1
      · exact h1
      · rw [List.getElem?_eq_none h1] at hr; cases hr
    rw [List.getElem?_eq_getElem hi] at hr
    cases hr
    refine ⟨f off, ?_, hv off hi⟩
    simp only [loadVar, Sem.run_bind, tagg_run hag, Result.andThen_ok, Bool.false_eq_true, if_false, load_run (hc off hi)]

/-- The part of a struct's or an array's value. -/
theorem part_sound {t : TypeId} {ag : Bool} {n : Nat} (hag : tagg P t = some ag) (hn : tsize P t = some n) {cs : List AV} {x : Array Value} {off : Nat} (hx : VRs ψ w cs x) {r : AV} (hr : partAV ag n cs off = some r) :
    ∃ u, (part t x off).run P w = .ok u w ∧ VR ψ w r u := by
  obtain ⟨hs, hv⟩ := hx
  unfold partAV at hr
  cases ag with
  | true =>
    simp only [if_true] at hr
    by_cases hle : off + n ≤ cs.length
    · rw [if_pos hle] at hr
      cases hr
      refine ⟨.agg (x.extract off (off + n)), ?_, ?_⟩
      · simp only [part, Sem.run_bind, tagg_run hag, Result.andThen_ok, if_true, tsize_run hn, Sem.run_pure]
      · refine .agg _ _ (by simp; omega) (fun i hi => ?_)
        simp at hi
        simp only [List.getElem_take, List.getElem_drop, Array.getElem_extract]
        exact hv (off + i) (by omega)
    · rw [if_neg hle] at hr; cases hr
  | false =>
    simp only [Bool.false_eq_true, if_false] at hr
    have hi : off < cs.length := by
      rcases Nat.lt_or_ge off cs.length with h1 | h1
      · exact h1
      · rw [List.getElem?_eq_none h1] at hr; cases hr
    rw [List.getElem?_eq_getElem hi] at hr
    cases hr
    refine ⟨x[off]'(by omega), ?_, hv off hi⟩
    simp only [part, Sem.run_bind, tagg_run hag, Result.andThen_ok, Bool.false_eq_true, if_false]
    rw [Array.getElem?_eq_getElem (by omega)]
    rfl

theorem load_sound (S : Sim ψ w h) {t : TypeId} {a r : AV} {v : Value} (hl : loadAV P h t a = some r) (hv : VR ψ w a v) : ∃ u, (Instr.loadAt t v).run P w = .ok u w ∧ VR ψ w r u := by
  unfold loadAV at hl
  cases hag : tagg P t with
  | none => rw [hag] at hl; cases hl
  | some ag =>
    cases hn : tsize P t with
    | none => rw [hag, hn] at hl; cases hl
    | some n =>
      rw [hag, hn] at hl
      simp only [Option.bind_some] at hl
      cases hv with
      | ptr o off B ho =>
        simp only at hl
        cases hro : Mp.get h.obj o with
        | none => rw [hro] at hl; cases hl
        | some ob =>
          rw [hro] at hl
          cases ob with
          | mp es => cases hl
          | row cs =>
            obtain ⟨B', c, e, fr, h1, h2, h3, h4, h5, h6⟩ := S.row o cs hro
            rw [h1] at ho; cases ho
            have := loadVar_sound (P := P) (ψ := ψ) (w := w) hag hn (cs := cs) (B := B) (p := 0) (off := off) (f := fun i => (c[i]?).getD Go.undef)
              (fun i hi => by obtain ⟨v, q1, _⟩ := h6 i hi; rw [Nat.zero_add, cell_of h3, q1]; rfl) (fun i hi => by obtain ⟨v, q1, q2⟩ := h6 i hi; rw [q1]; exact q2) hl
            obtain ⟨u, r1, r2⟩ := this
            refine ⟨u, ?_, r2⟩
            simp only [Instr.loadAt, Instr.sureAddr, Sem.run_bind, Sem.run_pure, Result.andThen_ok]
            rw [Nat.zero_add] at r1; exact r1
      | el a off g B p cs hg he hc hvv =>
        obtain ⟨u, r1, r2⟩ := loadVar_sound (P := P) (ψ := ψ) (w := w) hag hn hc hvv hl
        refine ⟨u, ?_, r2⟩
        simp only [Instr.loadAt, Instr.sureAddr, Sem.run_bind, Sem.run_pure, Result.andThen_ok]
        exact r1
      | _ => cases hl

theorem field_sound {s : TypeId} {x r : AV} {v : Value} {f : Nat} (hl : fieldAV P s x f = some r) (hv : VR ψ w x v) : ∃ u, (Instr.field s v f).run P w = .ok u w ∧ VR ψ w r u := by
  unfold fieldAV fieldPlaceAV at hl
  cases hu : P.underlying s with
  | none => rw [hu] at hl; cases hl
  | some d =>
    rw [hu] at hl
    cases d <;> try (cases hl; done)
    rename_i fields
    simp only at hl
    cases hf : fields[f]? with
    | none => rw [hf] at hl; cases hl
    | some fd =>
      rw [hf] at hl
      simp only [Option.map_some, Option.bind_some] at hl
      cases hag : tagg P fd.type with
      | none => rw [hag] at hl; cases hl
      | some ag =>
        cases hn : tsize P fd.type with
        | none => rw [hag, hn] at hl; cases hl
        | some n =>
          rw [hag, hn] at hl
          simp only [Option.bind_some] at hl
          cases hv with
          | agg cs y hy ha =>
            obtain ⟨u, r1, r2⟩ := part_sound (P := P) (ψ := ψ) (w := w) hag hn ⟨hy, ha⟩ hl
            exact ⟨u, by simp only [Instr.field, Sem.run_bind, underlying_run hu, Result.andThen_ok, hf, asAgg, Sem.run_pure]; exact r1, r2⟩
          | _ => cases hl

theorem fieldAddr_sound {s : TypeId} {x r : AV} {v : Value} {f : Nat} (hl : fieldAddrAV P s x f = some r) (hv : VR ψ w x v) : ∃ u, (Instr.fieldAt s v f).run P w = .ok u w ∧ VR ψ w r u := by
  unfold fieldAddrAV fieldPlaceAV at hl
  cases hu : P.underlying s with
  | none => rw [hu] at hl; cases hl
  | some d =>
    rw [hu] at hl
    cases d <;> try (cases hl; done)
    rename_i fields
    simp only at hl
    cases hf : fields[f]? with
    | none => rw [hf] at hl; cases hl
    | some fd =>
      rw [hf] at hl
      simp only [Option.map_some, Option.bind_some] at hl
      cases hn : tsize P fd.type with
      | none => rw [hn] at hl; cases hl
      | some n =>
        rw [hn] at hl
        simp only [Option.bind_some] at hl
        by_cases h0 : n = 0
        · rw [if_pos h0] at hl; cases hl
        · rw [if_neg h0] at hl
          have hrun : ∀ B off, (Instr.fieldAt s (.pointer (some ⟨B, off, none⟩)) f).run P w = .ok (.pointer (some ⟨B, off + fd.offset, none⟩)) w := fun B off => by
            simp only [Instr.fieldAt, Sem.run_bind, underlying_run hu, Result.andThen_ok, hf, Instr.sureAddr, Sem.run_pure, fieldPlace, tsize_run hn, if_neg h0, addr_add]
          cases hv with
          | ptr o off B ho => cases hl; exact ⟨_, hrun B off, .ptr o _ B ho⟩
          | el a off g B p cs hg he hc hvv => cases hl; exact ⟨_, hrun B (p + off), by rw [Nat.add_assoc]; exact .el a _ g B p cs hg he hc hvv⟩
          | _ => cases hl

theorem flat_getElem {els : List AV} {sz : Nat} (h : ∀ e ∈ els, e.cells.length = sz) : ∀ (j : Nat) (hj : j < els.length) (i : Nat) (hi : i < sz), ∃ h1 : j * sz + i < (flat els).length, (flat els)[j * sz + i] = (els[j]).cells[i]'(by rw [h _ (List.getElem_mem hj)]; exact hi) := by
  induction els with
  | nil => intro j hj; simp at hj
  | cons e els ih =>
    intro j hj i hi
    have he := h e (by simp)
    have hfl : (flat (e :: els)) = e.cells ++ flat els := by simp [flat]
    cases j with
    | zero =>
      refine ⟨by rw [hfl, List.length_append]; omega, ?_⟩
      simp only [hfl, Nat.zero_mul, Nat.zero_add, List.getElem_cons_zero]
      exact List.getElem_append_left _
    | succ j =>
      obtain ⟨h1, h2⟩ := ih (fun x hx => h x (by simp [hx])) j (by simpa using hj) i hi
      have e1 : (j + 1) * sz + i = e.cells.length + (j * sz + i) := by rw [he, Nat.succ_mul]; omega
      refine ⟨by rw [hfl, List.length_append]; omega, ?_⟩
      simp only [hfl, e1, List.getElem_cons_succ]
      rw [List.getElem_append_right (by omega)]
      simp only [Nat.add_sub_cancel_left]
      exact h2

theorem indexAddr_sound {t : TypeId} {x ix r : AV} {v vi : Value} (hl : indexAddrAV P t x ix = some r) (hv : VR ψ w x v) (hi : VR ψ w ix vi) : ∃ u, (Instr.indexAt t v vi).run P w = .ok u w ∧ VR ψ w r u := by
  unfold indexAddrAV at hl
  cases hi with
  | int k i =>
    simp only at hl
    cases hu : P.underlying t with
    | none => rw [hu] at hl; cases hl
    | some d =>
      rw [hu] at hl
      cases hv with
      | sl g off sz cp els B p cap cs hgn hg he hsz hic hc hvv hlen hcap hcp hfr =>
        cases d <;> try (cases hl; done)
        rename_i e
        simp only at hl
        by_cases h0 : 0 ≤ i ∧ tsize P e = some sz
        · rw [if_pos h0] at hl
          obtain ⟨h0, hn⟩ := h0
          rcases Nat.lt_or_ge i.toNat els.length with hlt | hge
          · rw [List.getElem?_eq_getElem hlt] at hl
            cases hl
            have hii : i < els.length := by omega
            refine ⟨.pointer (some ⟨B, p + i.toNat * sz, none⟩), ?_, ?_⟩
            · simp only [Instr.indexAt, asIntOf, Sem.run_bind, Sem.run_pure, Result.andThen_ok, underlying_run hu, h0, hii, and_self, if_true, tsize_run hn, addr_add]
            · have hsz' := hsz _ (List.getElem_mem hlt)
              have hmul : i.toNat * sz + sz ≤ els.length * sz := by rw [← Nat.succ_mul]; exact Nat.mul_le_mul_right _ hlt
              have hne : els ≠ [] := fun h => by rw [h] at hlt; simp at hlt
              refine .el _ 0 g B (p + i.toNat * sz) (fun j => cs (i.toNat * sz + j)) (hg hne) (by have := he hne; omega) (fun j hj => ?_) (fun j hj => ?_)
              · obtain ⟨h1, _⟩ := flat_getElem hsz i.toNat hlt j (by omega)
                rw [Nat.add_assoc]; exact hc _ h1
              · obtain ⟨h1, h2⟩ := flat_getElem hsz i.toNat hlt j (by omega)
                rw [← h2]; exact hvv _ h1
          · rw [List.getElem?_eq_none hge] at hl; cases hl
        · rw [if_neg h0] at hl; cases hl
      | ptr o off B ho =>
        cases d <;> try (cases hl; done)
        rename_i n e
        simp only at hl
        cases hn : tsize P e with
        | none => rw [hn] at hl; cases hl
        | some sz =>
          rw [hn] at hl
          simp only [Option.bind_some] at hl
          by_cases h0 : 0 ≤ i ∧ i < n
          · rw [if_pos h0] at hl; cases hl
            refine ⟨_, ?_, .ptr o (off + i.toNat * sz) B ho⟩
            simp only [Instr.indexAt, asIntOf, Sem.run_bind, Sem.run_pure, Result.andThen_ok, underlying_run hu, Instr.sureAddr, h0, and_self, if_true, tsize_run hn, addr_add]
          · rw [if_neg h0] at hl; cases hl
      | el a off g B p cs hg he hc hvv =>
        cases d <;> try (cases hl; done)
        rename_i n e
        simp only at hl
        cases hn : tsize P e with
        | none => rw [hn] at hl; cases hl
        | some sz =>
          rw [hn] at hl
          simp only [Option.bind_some] at hl
          by_cases h0 : 0 ≤ i ∧ i < n
          · rw [if_pos h0] at hl; cases hl
            refine ⟨.pointer (some ⟨B, p + (off + i.toNat * sz), none⟩), ?_, .el a _ g B p cs hg he hc hvv⟩
            simp only [Instr.indexAt, asIntOf, Sem.run_bind, Sem.run_pure, Result.andThen_ok, underlying_run hu, Instr.sureAddr, h0, and_self, if_true, tsize_run hn, addr_add, Nat.add_assoc]
          · rw [if_neg h0] at hl; cases hl
      | _ => cases d <;> cases hl
  | _ => cases hl
end
end Go.Vm
