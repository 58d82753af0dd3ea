/- The value machine: how its values and its heap stand to the model's world, and that what they say lasts. No condition. -/
import Derived.Test.YtlcodjmjchiemaaVmCore
import Derived.Laws.World
import Derived.Laws.Sem
import Derived.WalkKit
set_option linter.unusedSimpArgs false
set_option linter.unusedVariables false
namespace Go.Vm

/-- What is known beside the two states: where things lie. -/
structure Gh where
  obj : Nat → Option Nat
  own : Nat → Option Nat
  grp : Nat → Option Nat
  com : Nat → Nat
  lim : Nat → Nat
  blk : Nat → Option Nat
  len : Nat → Option Nat
  ng : Nat

def flat (els : List AV) : List AV := els.flatMap AV.cells

/-- An abstract value tells a value. -/
inductive VR (ψ : Gh) (w : World) : AV → Value → Prop
  | undef : VR ψ w .undef Go.undef
  | bad (v : Value) : VR ψ w .bad v
  | bool (b : Bool) : VR ψ w (.bool b) (.bool b)
  | int (k : IntKind) (n : Int) : VR ψ w (.int k n) (.int k n)
  | flt (k : FloatKind) (n : Nat) : VR ψ w (.flt k n) (.float k n)
  | cpx (k : FloatKind) (a b : Nat) : VR ψ w (.cpx k a b) (.complex k a b)
  | str (s : List UInt8) : VR ψ w (.str s) (.string ⟨s.toArray⟩)
  | nilp : VR ψ w .nilp (.pointer none)
  | ptr (o off B : Nat) (ho : ψ.obj o = some B) : VR ψ w (.ptr o off) (.pointer (some ⟨B, off, none⟩))
  | el (a : AV) (off g B p : Nat) (cs : Nat → Value) (hg : ψ.grp B = some g) (he : p + a.cells.length ≤ ψ.com B)
      (hc : ∀ i, i < a.cells.length → w.cell? ⟨B, p + i, none⟩ = some (cs i)) (hv : ∀ i (h : i < a.cells.length), VR ψ w (a.cells[i]) (cs i)) :
      VR ψ w (.el a off) (.pointer (some ⟨B, p + off, none⟩))
  | nils : VR ψ w .nils (.slice none 0 0)
  | sl (g off sz : Nat) (cp : Bool) (els : List AV) (B p cap : Nat) (cs : Nat → Value) (hgn : g < ψ.ng) (hg : els ≠ [] → ψ.grp B = some g) (he : els ≠ [] → p + els.length * sz ≤ ψ.com B) (hsz : ∀ e ∈ els, e.cells.length = sz) (hic : ∀ e ∈ els, e.cells.all AV.isCell = true)
      (hc : ∀ i, i < (flat els).length → w.cell? ⟨B, p + i, none⟩ = some (cs i)) (hv : ∀ i (h : i < (flat els).length), VR ψ w ((flat els)[i]) (cs i))
      (hlen : ∀ m, ψ.len g = some m → off + els.length ≤ m) (hcap : els.length ≤ cap) (hcp : cp = true → cap = els.length)
      (hfr : cp = false → els.length < cap → ∀ m, ψ.len g = some m → off + els.length = m → ψ.blk g = some B ∧ p + els.length * sz = ψ.com B ∧ p + cap * sz ≤ ψ.lim B) :
      VR ψ w (.sl g off sz cp els) (.slice (some ⟨B, p, none⟩) els.length cap)
  | nilm : VR ψ w .nilm (.map none)
  | mp (o B : Nat) (ho : ψ.obj o = some B) : VR ψ w (.mp o) (.map (some B))
  | fn (f : Fn) (a b : List AV) (x y : Array Value) (hx : x.size = a.length) (hy : y.size = b.length) (ha : ∀ i (h : i < a.length), VR ψ w a[i] (x[i]'(hx ▸ h)))
      (hb : ∀ i (h : i < b.length), VR ψ w b[i] (y[i]'(hy ▸ h))) : VR ψ w (.fn f a b) (.func f x y)
  | nilf : VR ψ w .nilf .nilFunc
  | ifc (t : Nat) (a : AV) (v : Value) (h : VR ψ w a v) : VR ψ w (.ifc t a) (.iface t v)
  | nili : VR ψ w .nili .nilIface
  | agg (a : List AV) (x : Array Value) (hx : x.size = a.length) (ha : ∀ i (h : i < a.length), VR ψ w a[i] (x[i]'(hx ▸ h))) : VR ψ w (.agg a) (.agg x)
  | tup (a : List AV) (x : Array Value) (hx : x.size = a.length) (ha : ∀ i (h : i < a.length), VR ψ w a[i] (x[i]'(hx ▸ h))) : VR ψ w (.tup a) (.tuple x)

/-- Lists of values. -/
def VRs (ψ : Gh) (w : World) (a : List AV) (x : Array Value) : Prop := ∃ hx : x.size = a.length, ∀ i (h : i < a.length), VR ψ w a[i] (x[i]'(hx ▸ h))

/-- What a step may do to what is known. -/
structure Ext (ψ : Gh) (w : World) (ψ' : Gh) (w' : World) : Prop where
  os : w'.os = w.os
  tape : w'.tape = w.tape
  output : w'.output = w.output
  size : w.heap.size ≤ w'.heap.size
  obj : ∀ o B, ψ.obj o = some B → ψ'.obj o = some B
  grp : ∀ B g, ψ.grp B = some g → ψ'.grp B = some g
  com : ∀ B g, ψ.grp B = some g → ψ.com B ≤ ψ'.com B
  cell : ∀ B g i, ψ.grp B = some g → i < ψ.com B → w'.cell? ⟨B, i, none⟩ = w.cell? ⟨B, i, none⟩
  ng : ψ.ng ≤ ψ'.ng
  len : ∀ g, g < ψ.ng → (ψ'.len g = ψ.len g ∧ ψ'.blk g = ψ.blk g ∧ ∀ C, ψ.blk g = some C → ψ'.com C = ψ.com C ∧ ψ'.lim C = ψ.lim C) ∨ (∃ m m', ψ.len g = some m ∧ ψ'.len g = some m' ∧ m < m')
  zero : ∀ B, ψ.grp B = some 0 → w'.heap[B]? = w.heap[B]?

theorem Ext.refl (ψ : Gh) (w : World) : Ext ψ w ψ w :=
  ⟨rfl, rfl, rfl, Nat.le_refl _, fun _ _ h => h, fun _ _ h => h, fun _ _ _ => Nat.le_refl _, fun _ _ _ _ _ => rfl, Nat.le_refl _, fun _ _ => .inl ⟨rfl, rfl, fun _ _ => ⟨rfl, rfl⟩⟩, fun _ _ => rfl⟩

theorem Ext.trans {ψ ψ' ψ'' : Gh} {w w' w'' : World} (h : Ext ψ w ψ' w') (k : Ext ψ' w' ψ'' w'') : Ext ψ w ψ'' w'' where
  os := k.os.trans h.os
  tape := k.tape.trans h.tape
  output := k.output.trans h.output
  size := Nat.le_trans h.size k.size
  obj := fun o B e => k.obj o B (h.obj o B e)
  grp := fun B g e => k.grp B g (h.grp B g e)
  com := fun B g e => Nat.le_trans (h.com B g e) (k.com B g (h.grp B g e))
  cell := fun B g i e hi => (k.cell B g i (h.grp B g e) (Nat.lt_of_lt_of_le hi (h.com B g e))).trans (h.cell B g i e hi)
  ng := Nat.le_trans h.ng k.ng
  len := fun g e => by
    rcases h.len g e with ⟨a1, a2, a3⟩ | ⟨m, m', a1, a2, a3⟩
    · rcases k.len g (Nat.lt_of_lt_of_le e h.ng) with ⟨b1, b2, b3⟩ | ⟨n, n', b1, b2, b3⟩
      · refine .inl ⟨b1.trans a1, b2.trans a2, fun C hC => ?_⟩
        obtain ⟨c1, c2⟩ := a3 C hC
        obtain ⟨d1, d2⟩ := b3 C (a2.trans hC)
        exact ⟨d1.trans c1, d2.trans c2⟩
      · exact .inr ⟨n, n', a1 ▸ b1, b2, b3⟩
    · rcases k.len g (Nat.lt_of_lt_of_le e h.ng) with ⟨b1, b2, b3⟩ | ⟨n, n', b1, b2, b3⟩
      · exact .inr ⟨m, m', a1, b1.trans a2, a3⟩
      · refine .inr ⟨m, n', a1, b2, ?_⟩
        rw [a2] at b1
        cases b1
        omega
  zero := fun B e => (k.zero B (h.grp B 0 e)).trans (h.zero B e)

theorem VR.mono {ψ ψ' : Gh} {w w' : World} (E : Ext ψ w ψ' w') {a : AV} {v : Value} (h : VR ψ w a v) : VR ψ' w' a v := by
  induction h with
  | undef => exact .undef
  | bad v => exact .bad v
  | bool b => exact .bool b
  | int k n => exact .int k n
  | flt k n => exact .flt k n
  | cpx k a b => exact .cpx k a b
  | str s => exact .str s
  | nilp => exact .nilp
  | ptr o off B ho => exact .ptr o off B (E.obj o B ho)
  | el a off g B p cs hg he hc hv ih =>
    exact .el a off g B p cs (E.grp B g hg) (Nat.le_trans he (E.com B g hg)) (fun i hi => (E.cell B g (p + i) hg (by omega)).trans (hc i hi)) (fun i hi => ih i hi)
  | nils => exact .nils
  | sl g off sz cp els B p cap cs hgn hg he hsz hic hc hv hlen hcap hcp hfr ih =>
    have hfl : (flat els).length = els.length * sz := by
      clear hc hv ih hlen hcap hcp hfr he hic hg
      induction els with
      | nil => simp [flat]
      | cons e els ih =>
        have h1 := hsz e (by simp)
        have h2 := ih (fun x hx => hsz x (by simp [hx]))
        simp only [flat, List.flatMap_cons, List.length_append, List.length_cons] at *
        rw [h1, h2, Nat.succ_mul]; omega
    have hl := E.len g hgn
    have hne : ∀ i, i < (flat els).length → els ≠ [] := fun i hi h => by rw [h] at hi; simp [flat] at hi
    refine .sl g off sz cp els B p cap cs (Nat.lt_of_lt_of_le hgn E.ng) (fun h => E.grp B g (hg h)) (fun h => Nat.le_trans (he h) (E.com B g (hg h))) hsz hic
      (fun i hi => (E.cell B g (p + i) (hg (hne i hi)) (by have := he (hne i hi); omega)).trans (hc i hi)) (fun i hi => ih i hi) ?_ hcap hcp ?_
    · intro m hm
      rcases hl with ⟨a1, _, _⟩ | ⟨n, n', a1, a2, a3⟩
      · exact hlen m (a1 ▸ hm)
      · have := hlen n a1
        rw [a2] at hm
        cases hm
        omega
    · intro h1 h2 m hm he'
      rcases hl with ⟨a1, a2, a3⟩ | ⟨n, n', a1, a2, a3⟩
      · obtain ⟨b1, b2, b3⟩ := hfr h1 h2 m (a1 ▸ hm) he'
        obtain ⟨c1, c2⟩ := a3 B b1
        exact ⟨a2.trans b1, by rw [c1]; exact b2, by rw [c2]; exact b3⟩
      · have := hlen n a1
        rw [a2] at hm
        cases hm
        omega
  | nilm => exact .nilm
  | mp o B ho => exact .mp o B (E.obj o B ho)
  | fn f a b x y hx hy ha hb iha ihb => exact .fn f a b x y hx hy iha ihb
  | nilf => exact .nilf
  | ifc t a v h ih => exact .ifc t a v ih
  | nili => exact .nili
  | agg a x hx ha ih => exact .agg a x hx ih
  | tup a x hx ha ih => exact .tup a x hx ih

theorem VRs.mono {ψ ψ' : Gh} {w w' : World} (E : Ext ψ w ψ' w') {a : List AV} {x : Array Value} (h : VRs ψ w a x) : VRs ψ' w' a x :=
  ⟨h.1, fun i hi => (h.2 i hi).mono E⟩

theorem flat_length {els : List AV} {sz : Nat} (h : ∀ e ∈ els, e.cells.length = sz) : (flat els).length = els.length * sz := by
  induction els with
  | nil => simp [flat]
  | cons e els ih =>
    have h1 := h e (by simp)
    have h2 := ih (fun x hx => h x (by simp [hx]))
    simp only [flat, List.flatMap_cons, List.length_append, List.length_cons] at *
    rw [h1, h2, Nat.succ_mul]; omega

/-- The two heaps. -/
structure Sim {μ : Type → Type} [Mp μ] (ψ : Gh) (w : World) (h : Hp μ) : Prop where
  row : ∀ o cs, Mp.get h.obj o = some (.row cs) → ∃ B c e fr, ψ.obj o = some B ∧ ψ.own B = some o ∧ w.heap[B]? = some (.cells c e fr) ∧ cs.length ≤ c.size ∧ (∀ i, i < c.size → w.frozen? ⟨B, i, none⟩ = false) ∧
    ∀ i (h : i < cs.length), ∃ v, c[i]? = some v ∧ VR ψ w cs[i] v
  own : ∀ B o, ψ.own B = some o → ψ.grp B = none ∧ B < w.heap.size
  no : ∀ o, h.no ≤ o → Mp.get h.obj o = none ∧ ψ.obj o = none
  grp : ∀ B g, ψ.grp B = some g → g < h.ng ∧ B < w.heap.size
  len : ∀ g, Mp.get h.len g = ψ.len g
  zero : ψ.len 0 = none ∧ 0 < h.ng
  neq : ψ.ng = h.ng
  ng : ∀ g, h.ng ≤ g → ψ.len g = none ∧ ψ.blk g = none
  blk : ∀ g B, ψ.blk g = some B → ψ.grp B = some g ∧ g ≠ 0 ∧ ∃ c e fr, w.heap[B]? = some (.cells c e fr) ∧ ψ.lim B ≤ c.size ∧ ∀ i, i < c.size → w.frozen? ⟨B, i, none⟩ = false

/-- A draw changes nothing of it. -/
theorem Ext.drew (ψ : Gh) (w : World) : Ext ψ w ψ w.drew := { Ext.refl ψ w with }

theorem Sim.drew {μ : Type → Type} [Mp μ] {ψ : Gh} {w : World} {h : Hp μ} (S : Sim ψ w h) : Sim ψ w.drew h where
  row := fun o cs e => by
    obtain ⟨B, c, t, fr, h1, h2, h3, h4, h5, h6⟩ := S.row o cs e
    refine ⟨B, c, t, fr, h1, h2, h3, h4, h5, fun i hi => ?_⟩
    obtain ⟨v, q1, q2⟩ := h6 i hi
    exact ⟨v, q1, q2.mono (Ext.drew ψ w)⟩
  own := S.own
  no := S.no
  grp := S.grp
  len := S.len
  zero := S.zero
  neq := S.neq
  ng := S.ng
  blk := S.blk
end Go.Vm
