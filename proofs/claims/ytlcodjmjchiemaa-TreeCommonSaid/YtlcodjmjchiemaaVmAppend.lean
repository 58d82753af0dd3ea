/- The value machine: append. No condition. -/
import Derived.Test.YtlcodjmjchiemaaVmOps2
set_option linter.unusedSimpArgs false
set_option linter.unusedVariables false
namespace Go.Vm

section
variable {μ : Type → Type} [Mp μ] {P : Program}
variable {ψ : Gh} {w : World} {h : Hp μ}

theorem drew_sound (S : Sim ψ w h) : Ext ψ w ψ w.drew ∧ Sim ψ w.drew h := ⟨Ext.drew ψ w, S.drew⟩

/-- The general run of append: what fits. -/
theorem append_fits {ts : Array TypeId} {t1 t2 ty e : TypeId} {i : TypeInfo} {d2 : TypeDesc} (h0 : ts[0]? = some t1) (h1 : ts[1]? = some t2) (hu : P.underlying t1 = some (.slice e)) (hu2 : P.underlying t2 = some d2) (hd : isIntD d2 = false)
    (hi : P.info? e = some i) {base : Option Addr} {sl cap n : Nat} {x : Value} {nc : List Value} (hl : (Builtin.lenOf x).run P w = .ok n w) (hf : (Builtin.firstCells i.size n x).run P w = .ok nc.toArray w) (hfit : sl + n ≤ cap) :
    (Builtin.append_ ts ty #[.slice base sl cap, x]).run P w = ((match base with | some a => storeCells (a.add (sl * i.size)) nc | none => pure ()).run P w).andThen fun _ w' => .ok (.slice base (sl + n) cap) w' := by
  have hm : ∀ k, d2 = TypeDesc.int k → False := fun k hk => by subst hk; simp [isIntD] at hd
  cases base <;> simp [Builtin.append_, h0, h1, underlying_run hu, underlying_run hu2, sizeOf, typeInfo_run hi, hl, hf, hfit]

/-- The general run of append: what does not fit. -/
theorem append_grows {ts : Array TypeId} {t1 t2 ty e : TypeId} {i : TypeInfo} {d2 : TypeDesc} {z : Value} (h0 : ts[0]? = some t1) (h1 : ts[1]? = some t2) (hu : P.underlying t1 = some (.slice e)) (hu2 : P.underlying t2 = some d2) (hd : isIntD d2 = false)
    (hi : P.info? e = some i) (hz : i.zero = some z) {base : Option Addr} {sl cap n : Nat} {x : Value} {nc oc : List Value} (hl : (Builtin.lenOf x).run P w = .ok n w) (hf : (Builtin.firstCells i.size n x).run P w.drew = .ok nc.toArray w.drew)
    (ho : (Builtin.firstCells i.size sl (.slice base sl cap)).run P w.drew = .ok oc.toArray w.drew) (hno : cap < sl + n) (hb : (sl + n) * i.bytes ≤ 140737488355328) (h63 : sl + n ≤ 9223372036854775807) :
    (Builtin.append_ ts ty #[.slice base sl cap, x]).run P w = .ok (.slice (some ⟨w.heap.size, 0, none⟩) (sl + n) (grownCap w (sl + n) cap e))
      (w.drew.alloc (.cells (oc.toArray ++ nc.toArray ++ Builtin.zeroCells z.cells (grownCap w (sl + n) cap e - (sl + n))) e)) := by
  have hng : ¬ (sl + n ≤ cap) := by omega
  have h63' : ¬ (9223372036854775807 < ((sl : Int) + (n : Int))) := by omega
  have hfit := growslice_fits hno hb
  have hfit' : ¬ (281474976710656 < Builtin.nextslicecap (sl + n) cap * i.bytes) := by omega
  have hq : (Question.appendCap (sl + n) cap e).forced = false := rfl
  have hm : ∀ k, d2 = TypeDesc.int k → False := fun k hk => by subst hk; simp [isIntD] at hd
  simp [Builtin.append_, h0, h1, underlying_run hu, underlying_run hu2, sizeOf, typeInfo_run hi, hl, hng, hfit', hq, hf, ho, zeroValue, hz, grownCap, newRow, IntKind.max, IntKind.signed, IntKind.bits, h63']
  rw [← List.append_toArray, Array.append_assoc]

theorem zero_size {zv : Value} {n : Nat} (h : (ofVal zv).cells.length = n) : zv.cells.size = n := by
  cases zv with
  | agg cs => simp [ofVal, AV.cells] at h; simp [Value.cells, h]
  | _ =>
    have : ∀ v : Value, (ofScalar v).cells.length = 1 := fun v => by
      cases v <;> simp only [ofScalar] <;> (repeat' split) <;> rfl
    simp only [ofVal, this] at h
    first | (simp [Value.cells, h]; done) | (simp only [AV.cells, List.length_cons, List.length_nil] at h; simp [Value.cells, ← h])

theorem cells_two {els new : List AV} {oc nc : List Value} (ho1 : oc.length = (flat els).length) (ho2 : ∀ i (hi : i < (flat els).length), ∃ u, oc[i]? = some u ∧ VR ψ w ((flat els)[i]) u)
    (hn1 : nc.length = (flat new).length) (hn2 : ∀ i (hi : i < (flat new).length), ∃ u, nc[i]? = some u ∧ VR ψ w ((flat new)[i]) u) (rest : Array Value) :
    CellsR ψ w (flat (els ++ new)) (oc.toArray ++ nc.toArray ++ rest) := by
  refine ⟨by simp [flat_append]; omega, fun i hi => ?_⟩
  rw [flat_append, List.length_append] at hi
  by_cases h1 : i < (flat els).length
  · obtain ⟨u, q1, q2⟩ := ho2 i h1
    refine ⟨u, ?_, ?_⟩
    · rw [Array.getElem?_append_left (by simp; omega), Array.getElem?_append_left (by simp; omega)]; simpa using q1
    · have : (flat (els ++ new))[i]'(by rw [flat_append, List.length_append]; exact hi) = (flat els)[i] := by simp only [flat_append]; exact List.getElem_append_left h1
      rw [this]; exact q2
  · obtain ⟨u, q1, q2⟩ := hn2 (i - (flat els).length) (by omega)
    refine ⟨u, ?_, ?_⟩
    · rw [Array.getElem?_append_left (by simp; omega), Array.getElem?_append_right (by simp; omega)]; simpa [ho1] using q1
    · have : (flat (els ++ new))[i]'(by rw [flat_append, List.length_append]; exact hi) = (flat new)[i - (flat els).length]'(by omega) := by simp only [flat_append]; exact List.getElem_append_right (by omega)
      rw [this]; exact q2

theorem oneCell_of {l : List AV} {nc : List Value} (h1 : nc.length = l.length) (hc : ∀ a ∈ l, a.isCell = true) (h2 : ∀ i (hi : i < l.length), ∃ u, nc[i]? = some u ∧ VR ψ w (l[i]) u) : ∀ v ∈ nc, v.oneCell' = true := fun v hv => by
  obtain ⟨i, hi, rfl⟩ := List.getElem_of_mem hv
  obtain ⟨u, q1, q2⟩ := h2 i (by omega)
  rw [List.getElem?_eq_getElem hi] at q1
  cases q1
  exact isCell_one q2 (hc _ (List.getElem_mem _))

theorem flat_isCell {els : List AV} (h : ∀ e ∈ els, e.cells.all AV.isCell = true) : ∀ a ∈ flat els, a.isCell = true := fun a ha => by
  simp only [flat, List.mem_flatMap] at ha
  obtain ⟨e, he, ha⟩ := ha
  exact (List.all_eq_true.1 (h e he)) a ha

theorem append_sound (S : Sim ψ w h) {ts : Array TypeId} {t1 t2 ty : TypeId} {s x : AV} {sv xv : Value} {r : AV × Hp μ} (h0 : ts[0]? = some t1) (h1 : ts[1]? = some t2) (hl : appendAV P h t1 t2 s x = some r) (hs : VR ψ w s sv) (hx : VR ψ w x xv) :
    ∃ u w' ψ', (Builtin.append_ ts ty #[sv, xv]).run P w = .ok u w' ∧ Ext ψ w ψ' w' ∧ Sim ψ' w' r.2 ∧ VR ψ' w' r.1 u := by
  unfold appendAV at hl
  cases hu : P.underlying t1 with
  | none => rw [hu] at hl; cases hl
  | some d =>
    cases hu2 : P.underlying t2 with
    | none => rw [hu, hu2] at hl; cases d <;> cases hl
    | some d2 =>
      rw [hu, hu2] at hl
      cases d <;> try (cases hl; done)
      rename_i e
      simp only at hl
      by_cases hd : isIntD d2 = true
      · rw [if_pos hd] at hl; cases hl
      · rw [if_neg hd] at hl
        simp only [Bool.not_eq_true] at hd
        cases hi : P.info? e with
        | none => simp [tsize, hi] at hl
        | some i =>
          cases hz : i.zero with
          | none => simp [tsize, tbytes, tzero, hi, hz] at hl
          | some zv =>
            have e1 : tsize P e = some i.size := by simp [tsize, hi]
            have e2 : tbytes P e = some i.bytes := by simp [tbytes, hi]
            have e3 : tzero P e = some (ofVal zv) := by simp [tzero, hi, hz]
            rw [e1, e2, e3] at hl
            simp only [Option.bind_some] at hl
            cases hnew : newEls i.size x with
            | none => rw [hnew] at hl; cases hl
            | some new =>
              rw [hnew] at hl
              simp only [Option.bind_some] at hl
              by_cases hsz0 : i.size = 0 ∨ i.bytes = 0 ∨ (ofVal zv).cells.length ≠ i.size
              · rw [if_pos hsz0] at hl; cases hl
              · rw [if_neg hsz0] at hl
                have hsz : 0 < i.size := by omega
                have hbz : 0 < i.bytes := by omega
                have hzs : zv.cells.size = i.size := zero_size (by omega)
                obtain ⟨nc, n1, n2, n3, n4, n5⟩ := newEls_src (P := P) hnew hx
                have nfl := flat_length (fun e he => (n4 e he).1)
                have none1 := oneCell_of n3 (flat_isCell fun e he => (n4 e he).2) n5
                cases hs with
                | nils =>
                  simp only at hl
                  by_cases hn0 : new.length = 0
                  · rw [if_pos hn0] at hl; cases hl
                    have := append_fits (P := P) (w := w) (ty := ty) h0 h1 hu hu2 hd hi (base := none) (sl := 0) (cap := 0) n1 (n2 w rfl) (by omega)
                    rw [hn0] at this
                    exact ⟨_, w, ψ, this, Ext.refl _ _, S, .nils⟩
                  · rw [if_neg hn0] at hl
                    by_cases hb : new.length * i.bytes ≤ 2 ^ 40
                    · rw [if_pos hb] at hl; cases hl
                      have hle : new.length ≤ new.length * i.bytes := Nat.le_mul_of_pos_right _ hbz
                      have hrun := append_grows (P := P) (w := w) (ty := ty) h0 h1 hu hu2 hd hi hz (base := none) (sl := 0) (cap := 0) (oc := []) n1 (n2 w.drew rfl) (by simp [Builtin.firstCells]) (by omega) (by rw [Nat.zero_add]; omega) (by omega)
                      have hge := grownCap_ge w (0 + new.length) 0 e
                      have hc := cells_two (ψ := ψ) (w := w) (els := []) (oc := []) (new := new) (nc := nc) (by simp [flat]) (fun i hi => by simp [flat] at hi) n3 n5 (Builtin.zeroCells zv.cells (grownCap w (0 + new.length) 0 e - (0 + new.length)))
                      obtain ⟨E1, S1⟩ := drew_sound S
                      obtain ⟨ψ', E, S', V⟩ := newSl_sound S1 (sz := i.size) (cap := grownCap w (0 + new.length) 0 e) (els := new) (e := e) (fr := (0, 0)) (fun x hx => (n4 x hx).1) (fun x hx => (n4 x hx).2) (hc.mono E1) (by omega)
                        (by simp only [Array.size_append, List.size_toArray, List.length_nil, Nat.zero_add, size_zeroCells, hzs, n3, nfl]; rw [← Nat.add_mul]; exact Nat.mul_le_mul_right _ (by omega)) (fun i hi => by simp) (Pushed.alloc w.drew _)
                      simp only [Nat.zero_add] at hrun E S' V
                      exact ⟨_, _, ψ', hrun, E1.trans E, S', V⟩
                    · rw [if_neg hb] at hl; cases hl
                | sl g off sz' cp els B p cap cs hgn hg he hsz' hic hc hv hlen hcap hcp hfr =>
                  simp only at hl
                  by_cases hsq : sz' ≠ i.size
                  · rw [if_pos hsq] at hl; cases hl
                  · rw [if_neg hsq] at hl
                    simp only [Decidable.not_not] at hsq
                    subst hsq
                    have ofl := flat_length hsz'
                    have o2 : ∀ k (hk : k < (flat els).length), ∃ u, ((List.range (flat els).length).map cs)[k]? = some u ∧ VR ψ w ((flat els)[k]) u := fun k hk => ⟨cs k, by rw [List.getElem?_map, List.getElem?_range hk]; rfl, hv k hk⟩
                    have ho : (Builtin.firstCells i.size els.length (.slice (some ⟨B, p, none⟩) els.length cap)).run P w.drew = .ok ((List.range (flat els).length).map cs).toArray w.drew := by
                      simp only [Builtin.firstCells]
                      rw [loadCells_run (w := w.drew) (cs := cs) (fun j hj => (World.cell?_drew w _).trans (hc j (by omega)))]
                      congr 1
                      apply Array.toList_inj.1
                      simp [Array.toList_map, ofl]
                    have hall1 : ∀ x ∈ els ++ new, x.cells.length = i.size := fun x hx => (List.mem_append.1 hx).elim (hsz' x) fun h => (n4 x h).1
                    have hall2 : ∀ x ∈ els ++ new, x.cells.all AV.isCell = true := fun x hx => (List.mem_append.1 hx).elim (hic x) fun h => (n4 x h).2
                    by_cases hn0 : new.length = 0
                    · rw [if_pos hn0] at hl; cases hl
                      have hnew0 : new = [] := List.eq_nil_of_length_eq_zero hn0
                      subst hnew0
                      have hnc : nc = [] := List.eq_nil_of_length_eq_zero (by rw [n3]; rfl)
                      subst hnc
                      have := append_fits (P := P) (w := w) (ty := ty) h0 h1 hu hu2 hd hi (base := some ⟨B, p, none⟩) (sl := els.length) (cap := cap) n1 (n2 w rfl) (by simpa using hcap)
                      simp only [storeCells, Sem.run_pure, Result.andThen_ok, List.length_nil, Nat.add_zero] at this
                      exact ⟨_, w, ψ, this, Ext.refl _ _, S, .sl g off i.size cp els B p cap cs hgn hg he hsz' hic hc hv hlen hcap hcp hfr⟩
                    · rw [if_neg hn0] at hl
                      by_cases hb : (els.length + new.length) * i.bytes ≤ 2 ^ 40
                      · rw [if_pos hb] at hl
                        have hle : (els.length + new.length) ≤ (els.length + new.length) * i.bytes := Nat.le_mul_of_pos_right _ hbz
                        have grows : cap < els.length + new.length → (Builtin.append_ ts ty #[.slice (some ⟨B, p, none⟩) els.length cap, xv]).run P w = .ok (.slice (some ⟨w.heap.size, 0, none⟩) (els.length + new.length) (grownCap w (els.length + new.length) cap e))
                            (w.drew.alloc (.cells (((List.range (flat els).length).map cs).toArray ++ nc.toArray ++ Builtin.zeroCells zv.cells (grownCap w (els.length + new.length) cap e - (els.length + new.length))) e)) := fun hno =>
                          append_grows (P := P) (w := w) (ty := ty) h0 h1 hu hu2 hd hi hz (base := some ⟨B, p, none⟩) (sl := els.length) (cap := cap) n1 (n2 w.drew rfl) ho hno (by omega) (by omega)
                        have hge := grownCap_ge w (els.length + new.length) cap e
                        have hcc := cells_two (ψ := ψ) (w := w) (els := els) (new := new) (by simp) o2 n3 n5 (Builtin.zeroCells zv.cells (grownCap w (els.length + new.length) cap e - (els.length + new.length)))
                        have hlim : grownCap w (els.length + new.length) cap e * i.size ≤ (((List.range (flat els).length).map cs).toArray ++ nc.toArray ++ Builtin.zeroCells zv.cells (grownCap w (els.length + new.length) cap e - (els.length + new.length))).size := by
                          simp only [Array.size_append, List.size_toArray, List.length_map, List.length_range, size_zeroCells, hzs, n3, nfl, ofl]
                          rw [← Nat.add_mul, ← Nat.add_mul]
                          exact Nat.mul_le_mul_right _ (by omega)
                        obtain ⟨E1, S1⟩ := drew_sound S
                        cases cp with
                        | true =>
                          simp only [if_true] at hl
                          cases hl
                          have hcap' := hcp rfl
                          have hrun := grows (by omega)
                          obtain ⟨ψ', E, S', V⟩ := newSl_sound S1 (sz := i.size) (els := els ++ new) (e := e) (fr := (0, 0)) hall1 hall2 (hcc.mono E1) (by rw [List.length_append]; exact hge) hlim (fun i hi => by simp) (Pushed.alloc w.drew _)
                          rw [List.length_append] at V
                          exact ⟨_, _, ψ', hrun, E1.trans E, S', V⟩
                        | false =>
                          simp only [Bool.false_eq_true, if_false] at hl
                          by_cases hfq : Mp.get h.len g = some (off + els.length)
                          · rw [if_pos hfq] at hl; cases hl
                            have hlg : ψ.len g = some (off + els.length) := (S.len g).symm.trans hfq
                            have hg0 : g ≠ 0 := fun h => by rw [h, S.zero.1] at hlg; cases hlg
                            by_cases hfit : els.length + new.length ≤ cap
                            · obtain ⟨f1, f2, f3⟩ := hfr rfl (by omega) _ hlg rfl
                              obtain ⟨_, _, c, e', fr, q1, q2, q3⟩ := S.blk g B f1
                              have hmul : (els.length + new.length) * i.size ≤ cap * i.size := Nat.mul_le_mul_right _ hfit
                              rw [Nat.add_mul] at hmul
                              obtain ⟨w', c', r1, r2, r3, r4, r5⟩ := storeCells_run (P := P) nc (p + els.length * i.size) 0 w c q1 (by rw [n3, nfl]; omega) q3 none1
                              have hrun := append_fits (P := P) (w := w) (ty := ty) h0 h1 hu hu2 hd hi (base := some ⟨B, p, none⟩) (sl := els.length) (cap := cap) n1 (n2 w rfl) hfit
                              simp only [addr_add, r1, Result.andThen_ok] at hrun
                              obtain ⟨ψ', E, S', V⟩ := growIn_sound S (g := g) (off := off) (sz := i.size) (p := p) (cap := cap) (els := els) (new := new) ⟨f1, f2, f3⟩ hfq hall1 hall2 hfit (by omega) q1 q3 r2 r3 r4
                                (fun k hk => ⟨cs k, hc k hk, hv k hk⟩)
                                (fun k hk => by
                                  obtain ⟨u, g1, g2⟩ := n5 k hk
                                  refine ⟨u, ?_, g2⟩
                                  rw [r5, if_pos (by omega)]
                                  rw [show p + els.length * i.size + k - (p + els.length * i.size + 0) = k from by omega]; exact g1)
                                (fun j hj => by rw [r5, if_neg (by omega)])
                              exact ⟨_, _, ψ', hrun, E, S', V⟩
                            · have hrun := grows (by omega)
                              obtain ⟨ψ', E, S', V⟩ := growNew_sound S1 (g := g) (off := off) (sz := i.size) (els := els) (new := new) hg0 hgn hfq hall1 hall2 (hcc.mono E1) hge (by omega) hlim (Pushed.alloc w.drew _)
                              exact ⟨_, _, ψ', hrun, E1.trans E, S', V⟩
                          · rw [if_neg hfq] at hl; cases hl
                      · rw [if_neg hb] at hl; cases hl
                | _ => cases hl
end
end Go.Vm
