/- The value machine: from a law's answer to a call that answers so; and the arguments opened. -/
import Derived.Test.YtlcodjmjchiemaaVmW
import Derived.WalkKit
import Derived.ProofKit
import Derived.OpenShut
import Derived.ShutString
import Derived.ChangeOld
import Derived.Below
import Derived.SizedLaws
import Derived.Deep.Slices
set_option linter.unusedSimpArgs false
set_option linter.unusedVariables false
namespace Go.Vm
open Go.ChangeShapes Go.WideShapes Go.ChangeAt Go.RowKit

def ghost0 (w : World) : Gh where
  obj := fun _ => none
  own := fun _ => none
  grp := fun B => if B < w.heap.size then some 0 else none
  com := fun B => match w.heap[B]? with | some (.cells c _ _) => c.size | _ => 0
  lim := fun _ => 0
  blk := fun _ => none
  len := fun _ => none
  ng := 1

theorem sim0 (w : World) : Sim (ghost0 w) w (Hp.empty : Hp Fm) where
  row := fun o cs h => by simp [Hp.empty, Mp.get_emp] at h
  own := fun B o h => by simp [ghost0] at h
  no := fun o _ => ⟨by simp [Hp.empty, Mp.get_emp], rfl⟩
  grp := fun B g h => by
    simp only [ghost0] at h
    split at h
    · cases h; exact ⟨by simp [Hp.empty], by assumption⟩
    · cases h
  len := fun g => by simp [Hp.empty, Mp.get_emp, ghost0]
  zero := ⟨rfl, by simp [Hp.empty]⟩
  neq := rfl
  ng := fun g _ => ⟨rfl, rfl⟩
  blk := fun g B h => by simp [ghost0] at h

theorem law_calls {P : Program} (hm : P.follows .mixedOrders = true) {f : Nat} {args : List AV} {vs : Array Value} {W : World} (hb : hasBody P f = true) (hv : VRs (ghost0 W) W args vs)
    (h : A P f args Hp.empty (fun r _ => r = .bool true)) : Calls P f vs W (fun e W' => e = .returned (.bool true) ∧ Below W.heap.size W W') := by
  obtain ⟨r, h', hc, rfl⟩ := h
  refine (callR_sound hm f args _ _ _ hc hb _ _ _ (sim0 W) hv).mono ?_
  rintro e W' ⟨v, ψ', rfl, hx, _, hr⟩
  cases hr
  exact ⟨rfl, hx.os, hx.tape, hx.output, hx.size, fun k hk => hx.zero k (by simp [ghost0, hk])⟩

/-- Cells of a type that has no memory of its own. -/
inductive FlatV (P : Program) : TypeId → List AV → Prop
  | bool {t : TypeId} (ht : P.underlying t = some .bool) (b : Bool) : FlatV P t [.bool b]
  | int {t : TypeId} {k : IntKind} (ht : P.underlying t = some (.int k)) (n : Int) (hn : (Lit.int k n).wf = true) : FlatV P t [.int k n]
  | str {t : TypeId} (ht : P.underlying t = some .string) (s : List UInt8) (hs : s.length ≤ maxLen) : FlatV P t [.str s]
  | struct {t : TypeId} {fs : Array Field} (ht : P.underlying t = some (.struct fs)) (parts : Nat → List AV) (hp : ∀ i f, fs[i]? = some f → FlatV P f.type (parts i)) : FlatV P t ((List.range fs.size).flatMap parts)

/-- The fields lie one behind the other. -/
def rowed (P : Program) : Nat → List Field → Bool
  | n, [] => true
  | n, f :: r => f.offset == n && rowed P (n + P.cellsOf f.type) r

def flatT (P : Program) : Nat → TypeId → Bool
  | 0, _ => false
  | n + 1, t => match P.underlying t with
    | some .bool | some (.int _) | some .string => P.cellsOf t == 1
    | some (.struct fs) => fs.toList.all (fun f => flatT P n f.type) && rowed P 0 fs.toList && P.cellsOf t == (fs.toList.map fun f => P.cellsOf f.type).sum
    | _ => false

section
variable {H : Type} {enc : TypeId × Value → H} {P : Program} {w : World} {ψ : Gh}

def CR (ψ : Gh) (w : World) (as : List AV) (cs : List Value) : Prop := ∃ hl : as.length = cs.length, ∀ i (h : i < as.length), VR ψ w as[i] (cs[i]'(hl ▸ h))

theorem CR.nil : CR ψ w [] [] := ⟨rfl, fun i h => by simp at h⟩
theorem CR.append {a b : List AV} {c d : List Value} (h : CR ψ w a c) (k : CR ψ w b d) : CR ψ w (a ++ b) (c ++ d) := by
  obtain ⟨h1, h2⟩ := h
  obtain ⟨k1, k2⟩ := k
  refine ⟨by simp [h1, k1], fun i hi => ?_⟩
  by_cases q : i < a.length
  · rw [List.getElem_append_left q, List.getElem_append_left (by omega)]; exact h2 i q
  · simp only [List.length_append] at hi
    rw [List.getElem_append_right (by omega), List.getElem_append_right (by omega)]
    have := k2 (i - a.length) (by omega)
    simpa only [h1] using this

theorem fields_open (as : Nat → List AV) : ∀ (fs : List Field) (k off : Nat) (cs : List Value), rowed P off fs = true → cs.length = off + (fs.map fun f => P.cellsOf f.type).sum →
    (∀ i f, fs[i]? = some f → CR ψ w (as (k + i)) ((cs.drop f.offset).take (P.cellsOf f.type))) → CR ψ w ((List.range' k fs.length).flatMap as) (cs.drop off) := by
  intro fs
  induction fs with
  | nil => intro k off cs _ hl _; simp at hl; rw [List.drop_eq_nil_of_le (by omega)]; exact CR.nil
  | cons f r ih =>
    intro k off cs hr hl ha
    simp only [rowed, Bool.and_eq_true, beq_iff_eq] at hr
    simp only [List.map_cons, List.sum_cons] at hl
    have h0 := ha 0 f rfl
    have hr' := ih (k + 1) (off + P.cellsOf f.type) cs hr.2 (by omega) (fun i g hg => by have := ha (i + 1) g hg; rwa [show k + 1 + i = k + (i + 1) by omega])
    rw [hr.1, Nat.add_zero] at h0
    have e : cs.drop off = (cs.drop off).take (P.cellsOf f.type) ++ cs.drop (off + P.cellsOf f.type) := by
      rw [← List.drop_drop, List.take_append_drop]
    rw [e, List.length_cons, List.range'_succ, List.flatMap_cons]
    exact h0.append hr'

theorem open_flat {base : Nat} {spare : Nat → Bool} {held : Bool} : ∀ (n : Nat) {t : TypeId} {fuel : Nat} {cs : List Value} {x : DataW H × List MemPlace}, flatT P n t = true → DataW.trod enc P w base spare held fuel t cs = some x → cs.length = P.cellsOf t ∧ ∃ as, FlatV P t as ∧ CR ψ w as cs := by
  intro n
  induction n with
  | zero => intro t fuel cs x h; simp [flatT] at h
  | succ n ih =>
    intro t fuel cs x h hx
    rw [flatT] at h
    split at h
    · rename_i ht
      obtain ⟨b, rfl, _⟩ := DataW.trod_bool ht hx
      exact ⟨by simpa using (beq_iff_eq.mp h).symm, _, .bool ht b, rfl, fun i hi => by simp at hi; subst hi; exact .bool b⟩
    · rename_i k ht
      obtain ⟨m, rfl, _, hw⟩ := DataW.trod_int ht hx
      exact ⟨by simpa using (beq_iff_eq.mp h).symm, _, .int ht m hw, rfl, fun i hi => by simp at hi; subst hi; exact .int k m⟩
    · rename_i ht
      obtain ⟨s, rfl, _, hs⟩ := DataW.trod_string ht hx
      exact ⟨by simpa using (beq_iff_eq.mp h).symm, _, .str ht s.data.toList (by simpa using hs), rfl, fun i hi => by simp at hi; subst hi; exact .str _⟩
    · rename_i fs ht
      simp only [Bool.and_eq_true, List.all_eq_true, beq_iff_eq] at h
      obtain ⟨⟨h1, h2⟩, h3⟩ := h
      obtain ⟨xs, m, _, _, hl, hxl, hf⟩ := DataW.trod_struct ht hx
      have each : ∀ i, i < fs.size → ∃ as : List AV, ∀ f, fs[i]? = some f → FlatV P f.type as ∧ CR ψ w as ((cs.drop f.offset).take (P.cellsOf f.type)) := by
        intro i hi
        have hfi : fs[i]? = some fs[i] := Array.getElem?_eq_getElem hi
        have hx1 := hf i _ hfi
        rw [List.getElem?_eq_getElem (by omega)] at hx1
        obtain ⟨_, as, ha, hc⟩ := ih (h1 fs[i] (by simp)) hx1
        refine ⟨as, fun f hf' => ?_⟩
        rw [hfi] at hf'; cases hf'
        exact ⟨ha, hc⟩
      obtain ⟨parts, hp⟩ := Go.Deep.choose_lt each
      refine ⟨hl, _, .struct ht parts (fun i f hf' => (hp i (Array.getElem?_eq_some_iff.mp hf').1 f hf').1), ?_⟩
      have := fields_open (ψ := ψ) (w := w) parts fs.toList 0 0 cs h2 (by omega) (fun i f hf' => by
        rw [Nat.zero_add]
        have hf2 : fs[i]? = some f := by simpa using hf'
        exact (hp i (Array.getElem?_eq_some_iff.mp hf2).1 f hf2).2)
      simpa [List.range_eq_range'] using this
    · cases h

/-- A value of such a type. -/
def ElV (P : Program) (t : TypeId) (a : AV) : Prop := ∃ as, FlatV P t as ∧ ((tagg P t = some true ∧ a = .agg as) ∨ (tagg P t = some false ∧ as = [a]))
end
end Go.Vm
