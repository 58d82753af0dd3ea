/- What functions of the program come to, in the value machine (a part of the proof of the claim's statement). No condition. -/
import Derived.Test.YtplcehpejjfjoaaGreatVnG2
set_option linter.unusedSimpArgs false
set_option linter.unusedVariables false
set_option maxRecDepth 20000
namespace Go.Vn
open Go.Proofs

structure Ver where
  key : List UInt8
  br : Int
  ep : Int
  sq : Int
  fr : Int
  to : Int
  val : List UInt8
  gone : Bool
deriving Inhabited, DecidableEq
@[simp] def encV (v : Ver) : AV := .agg [.str v.key, .int .i64 v.br, .int .i64 v.ep, .int .i64 v.sq, .int .i64 v.fr, .int .i64 v.to, .str v.val, .bool v.gone]
structure Lg where
  b : Int
  e : Int
deriving Inhabited, DecidableEq
@[simp] def encL (l : Lg) : AV := .agg [.int .i64 l.b, .int .i64 l.e]

def sees (b e : Int) (l : Lg) : Bool := decide (l.b = b) && decide (e ≤ l.e)
def firstI {E : Type} (p : E → Bool) (l : List E) : Int := match l.findIdx? p with | some i => (i : Int) | none => -1
theorem firstI_none {E : Type} {p : E → Bool} {l : List E} (h : ∀ x ∈ l, p x = false) : firstI p l = -1 := by
  unfold firstI
  have : l.findIdx? p = none := List.findIdx?_eq_none_iff.mpr h
  rw [this]
theorem firstI_at {E : Type} {p : E → Bool} {l : List E} {i : Nat} (hi : i < l.length) (hp : p l[i] = true) (hn : ∀ j (hj : j < i), p (l[j]'(by omega)) = false) : firstI p l = i := by
  unfold firstI
  have : l.findIdx? p = some i := List.findIdx?_eq_some_iff_getElem.mpr ⟨hi, hp, fun j hj => by rw [hn j hj]; simp⟩
  rw [this]
def legI (path : List Lg) (b e : Int) : Int := firstI (sees b e) path

end Go.Vn

set_option maxRecDepth 20000
namespace Go.Vn
open Go.Proofs

def orI : List Int → Int
  | [] => 0
  | a :: l => if a = 0 then orI l else a

def legV (path : List Lg) (v : Ver) : Int := legI path v.br v.ep
def cmpO (path : List Lg) (a b : Ver) : Int := orI [cmpI (legV path b) (legV path a), cmpI a.ep b.ep, cmpI a.sq b.sq, cmpI a.fr b.fr]

end Go.Vn

set_option maxRecDepth 20000
namespace Go.Vn
open Go.Proofs

theorem RSat.at_ {h : Hp Fm} {sz o cap : Nat} {els : List AV} (k : RSat h sz els o cap) (hf : ∀ e ∈ els, Fit true sz e) {i : Nat} (hi : i < els.length) :
    ∃ cs, Mp.get h.obj o = some (.row cs) ∧ partAV true sz cs (i * sz) = some els[i] ∧ i * sz + sz ≤ cs.length ∧ ∀ x h', Fit true sz x → Mp.get h'.obj o = some (.row (splice cs (i * sz) x.cells)) → o < h'.no → RSat h' sz (els.set i x) o cap := by
  obtain ⟨⟨J, h1, h2⟩, h3, h4⟩ := k
  obtain ⟨A, hA⟩ : ∃ A, A = els.take i := ⟨_, rfl⟩
  obtain ⟨C, hC⟩ : ∃ C, C = els.drop (i + 1) := ⟨_, rfl⟩
  have hels : els = A ++ els[i] :: C := by rw [hA, hC, List.getElem_cons_drop, List.take_append_drop]
  have hAl : (A.flatMap AV.cells).length = i * sz := by
    rw [fits_len (fun e he => hf e (by rw [hels]; simp [he]))]
    rw [hA, List.length_take]; congr 1; omega
  have hfi := hf els[i] (List.getElem_mem hi)
  have hcs : els.flatMap AV.cells ++ J = A.flatMap AV.cells ++ (els[i].cells ++ (C.flatMap AV.cells ++ J)) := by
    have : els.flatMap AV.cells = A.flatMap AV.cells ++ (els[i].cells ++ C.flatMap AV.cells) := by
      conv => lhs; rw [hels]
      rw [List.flatMap_append, List.flatMap_cons]
    rw [this]; simp
  refine ⟨_, h1, ?_, ?_, ?_⟩
  · rw [hcs]
    unfold partAV
    rw [if_pos rfl, if_pos (by rw [List.length_append, hAl, List.length_append, hfi.len]; omega)]
    rw [← hAl, List.drop_left, ← hfi.len, List.take_left]
    rcases hfi with ⟨_, cs, he, _⟩ | ⟨e, _⟩
    · rw [he]; rfl
    · cases e
  · rw [hcs, List.length_append, hAl, List.length_append, hfi.len]; omega
  · intro x h' hx hg hn
    have hset : els.set i x = A ++ x :: C := by
      rw [hA, hC]
      exact List.set_eq_take_append_cons_drop ▸ (by rw [if_pos hi])
    refine ⟨⟨J, ?_, by rw [List.length_set]; exact h2⟩, by rw [List.length_set]; exact h3, hn⟩
    rw [hg, hcs, hset]
    unfold splice
    rw [← hAl, List.take_left, ← List.drop_drop, List.drop_left, hx.len, ← hfi.len, List.drop_left, List.flatMap_append, List.flatMap_cons]
    simp

theorem RS.len {P : Program} {t e : TypeId} {lo : Nat} {h : Hp Fm} {sz : Nat} {ag : Bool} {els : List AV} {v : AV} (k : RS lo h sz ag els v) (hu : P.underlying t = some (.slice e)) : lenAV P t v = some (.int .i64 els.length) := by
  rcases k with ⟨rfl, rfl⟩ | ⟨o, cap, rfl, _⟩ <;> simp [lenAV, hu]
theorem RS.nm {lo : Nat} {h : Hp Fm} {sz : Nat} {ag : Bool} {els : List AV} {v : AV} (k : RS lo h sz ag els v) (o : Nat) : v ≠ .mp o := by
  rcases k with ⟨rfl, _⟩ | ⟨_, _, rfl, _⟩ <;> simp
theorem RS.idx {P : Program} {t e : TypeId} {lo : Nat} {h : Hp Fm} {sz : Nat} {els : List AV} {v : AV} (k : RS lo h sz true els v) (hu : P.underlying t = some (.slice e)) (hs : tsize P e = some sz) (hf : ∀ e ∈ els, Fit true sz e) {i : Nat} (hi : i < els.length) :
    ∃ o cs, indexAddrAV P t v (.int .i64 (i : Int)) = some (.ptr o (i * sz)) ∧ Mp.get h.obj o = some (.row cs) ∧ partAV true sz cs (i * sz) = some els[i] := by
  rcases k with ⟨rfl, rfl⟩ | ⟨o, cap, rfl, _, hk⟩
  · simp at hi
  · obtain ⟨cs, h1, h2, _⟩ := hk.at_ hf hi
    exact ⟨o, cs, by rw [index_rs hu hs (by omega) (by omega), Int.toNat_natCast], h1, h2⟩

end Go.Vn

set_option maxRecDepth 20000
namespace Go.Vn
open Go.Proofs

theorem RSat.cut {h h' : Hp Fm} {sz o cap : Nat} {els : List AV} (k : RSat h sz els o cap) (hf : ∀ e ∈ els, Fit true sz e) {i : Nat} (hi : i ≤ els.length) {cs cs' : List AV} (hg : Mp.get h.obj o = some (.row cs)) (hg' : Mp.get h'.obj o = some (.row cs')) (hl : cs'.length = cs.length) (ht : cs'.take (i * sz) = cs.take (i * sz)) (hn : o < h'.no) : RSat h' sz (els.take i) o cap := by
  obtain ⟨⟨J, h1, h2⟩, h3, h4⟩ := k
  rw [h1] at hg
  injection hg with hg
  injection hg with hg
  have hA : ((els.take i).flatMap AV.cells).length = i * sz := by
    rw [fits_len (fun e he => hf e (List.mem_of_mem_take he)), List.length_take]; congr 1; omega
  have hcs : cs = (els.take i).flatMap AV.cells ++ ((els.drop i).flatMap AV.cells ++ J) := by
    rw [← hg, ← List.append_assoc, ← List.flatMap_append, List.take_append_drop]
  have hcl : cs.length = cap * sz := by
    rw [← hg, List.length_append, fits_len hf, h2, ← Nat.add_mul]; congr 1; omega
  have e1 : cs'.take (i * sz) = (els.take i).flatMap AV.cells := by rw [ht, hcs, ← hA, List.take_left]
  have hlt : (els.take i).length = i := by rw [List.length_take]; omega
  refine ⟨⟨cs'.drop (i * sz), by rw [hg', ← e1, List.take_append_drop], ?_⟩, by omega, hn⟩
  rw [List.length_drop, hl, hcl, hlt, Nat.sub_mul]
theorem RSat.len_ {h : Hp Fm} {sz o cap : Nat} {els : List AV} (k : RSat h sz els o cap) (hf : ∀ e ∈ els, Fit true sz e) {cs : List AV} (hg : Mp.get h.obj o = some (.row cs)) : cs.length = cap * sz := by
  obtain ⟨⟨J, h1, h2⟩, h3, h4⟩ := k
  rw [h1] at hg
  injection hg with hg
  injection hg with hg
  rw [← hg, List.length_append, fits_len hf, h2, ← Nat.add_mul]; congr 1; omega
theorem RSat.he {h h' : Hp Fm} {sz o cap : Nat} {els : List AV} (k : RSat h sz els o cap) (he : HE h h') : RSat h' sz els o cap := by
  obtain ⟨⟨J, h1, h2⟩, h3, h4⟩ := k
  exact ⟨⟨J, (he.obj _ h4).trans h1, h2⟩, h3, Nat.lt_of_lt_of_le h4 he.no⟩

def unseen (path : List Lg) (a : Ver) : Bool := decide (legV path a < 0)

end Go.Vn

set_option maxRecDepth 20000
namespace Go.Vn
open Go.Proofs

@[simp] theorem eql_nn : eqlAV Tryz.prog 20 64 .nils .nils = some true := by simp [eqlAV, Tryz.underlying64]

@[simp] theorem eql_sn (g o z c : Nat) (l : List AV) : eqlAV Tryz.prog 20 64 (.sl g o z c l) .nils = some false := by simp [eqlAV, Tryz.underlying64]
@[simp] theorem eql_en (c : Nat) : eqlAV Tryz.prog 20 64 (.esl c) .nils = some false := by simp [eqlAV, Tryz.underlying64]

def SL (sz : Nat) (xs : List AV) (v : AV) : Prop := (v = .nils ∧ xs = []) ∨ ∃ g off cp, v = .sl g off sz cp xs
theorem SL.sv {sz : Nat} {xs : List AV} {v : AV} (k : SL sz xs v) : SV sz xs v := by
  rcases k with h | h
  · exact .inl h
  · exact .inr (.inl h)
theorem AC.sl {h0 h : Hp Fm} {sz : Nat} {acc : List AV} {v : AV} (k : AC h0 h sz acc v) : SL sz acc v := by
  rcases k with h | ⟨g, off, cap, h, _⟩
  · exact .inl h
  · exact .inr ⟨g, off, cap, h⟩

end Go.Vn
