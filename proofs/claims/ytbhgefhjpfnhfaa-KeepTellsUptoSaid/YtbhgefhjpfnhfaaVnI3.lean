/- What functions of the program come to, in the value machine (a part of the proof of the claim's statement). No condition. -/
import Derived.Test.YtbhgefhjpfnhfaaVnG7
import Derived.Test.YtbhgefhjpfnhfaaVnG1
import Derived.Test.YtbhgefhjpfnhfaaVnI2
set_option linter.unusedSimpArgs false
set_option linter.unusedVariables false
set_option maxRecDepth 20000
namespace Go.Vn

def cutS (c d : Int) (l : List (Int × Int)) : List (Int × Int) := l.flatMap fun s => minusS s.1 s.2 c d
def leftS (cov : List Pc) (a b : Int) : List (Int × Int) := cov.foldl (fun l p => cutS p.fr p.to l) [(a, b)]
def pcS (l : List (Int × Int)) : List Pc := l.map fun s => ⟨s.1, s.2, []⟩
theorem pcS_cut {c d : Int} (hm : May c d) (l : List (Int × Int)) : pcS (cutS c d l) = withoutP (pcS l) c d := by
  unfold pcS cutS withoutP
  rw [if_pos hm, List.map_flatMap, List.flatMap_map]
  rfl
theorem left_go : ∀ (cov : List Pc) (n : Int) (l : List (Int × Int)), OrdP n cov → OrdP 0 (pcS l) →
    OrdP 0 (pcS (cov.foldl (fun l p => cutS p.fr p.to l) l)) ∧ ∀ t, atP (pcS (cov.foldl (fun l p => cutS p.fr p.to l) l)) t = if (atP cov t).isSome then none else atP (pcS l) t
  | [], _, l, _, h => ⟨h, fun t => by simp [atP_nil]⟩
  | p :: cov, n, l, hc, h => by
    rw [List.foldl_cons]
    have hm := hc.1
    have h1 : OrdP 0 (pcS (cutS p.fr p.to l)) := by rw [pcS_cut hm]; exact without_ord h _ _
    obtain ⟨a, b⟩ := left_go cov p.to (cutS p.fr p.to l) hc.2.2 h1
    refine ⟨a, fun t => ?_⟩
    rw [b t, pcS_cut hm, without_at, atP_cons]
    by_cases q : Has p.fr p.to t
    · simp [q]
    · simp [q]
theorem left_iff {cov : List Pc} (hc : OrdP 0 cov) {a b : Int} (hm : May a b) : leftS cov a b ≠ [] ↔ ∃ t, Has a b t ∧ atP cov t = none := by
  obtain ⟨h1, h2⟩ := left_go cov 0 [(a, b)] hc (by exact ⟨hm, hm.1, trivial⟩)
  have e : cov.foldl (fun l p => cutS p.fr p.to l) [(a, b)] = leftS cov a b := rfl
  rw [e] at h1 h2
  have e0 : ∀ t, atP (pcS [(a, b)]) t = if Has a b t then some [] else none := fun t => by simp [pcS, atP_cons, atP_nil]
  constructor
  · intro hne
    cases hl : leftS cov a b with
    | nil => exact absurd hl hne
    | cons s l =>
      rw [hl] at h1 h2
      have hms : May s.1 s.2 := h1.1
      have h3 := h2 s.1
      have h4 : atP (pcS (s :: l)) s.1 = some [] := by
        simp only [pcS, List.map_cons, atP_cons]
        rw [if_pos ⟨hms, Int.le_refl _, hms.2.1⟩]
      rw [h4, e0] at h3
      refine ⟨s.1, ?_, ?_⟩
      · by_cases q : Has a b s.1
        · exact q
        · simp [q] at h3
      · cases hq : atP cov s.1 with
        | none => rfl
        | some x => simp [hq] at h3
  · rintro ⟨t, t1, t2⟩ hl
    have h3 := h2 t
    rw [hl, e0, t2, if_pos t1] at h3
    simp [pcS, atP_nil] at h3

theorem cut_len (c d : Int) : ∀ (l : List (Int × Int)) (n : Int), OrdP n (pcS l) → (cutS c d l).length ≤ l.length + 1 ∧ (d ≤ n → (cutS c d l).length ≤ l.length)
  | [], _, _ => by simp [cutS]
  | s :: l, n, h => by
    obtain ⟨i1, i2⟩ := cut_len c d l s.2 h.2.2
    have hm : May s.1 s.2 := h.1
    have hn : n ≤ s.1 := h.2.1
    have e : (cutS c d (s :: l)).length = (minusS s.1 s.2 c d).length + (cutS c d l).length := by simp [cutS]
    have m2 : (minusS s.1 s.2 c d).length ≤ 2 := by
      unfold minusS
      split
      · simp
      · split
        · simp
        · split <;> split <;> simp
    have m1 : ¬ (d < s.2) → (minusS s.1 s.2 c d).length ≤ 1 := by
      intro q
      unfold minusS
      split
      · simp
      · split
        · simp
        · have : ¬ May (min s.2 d) s.2 := by unfold May; omega
          rw [if_neg this]
          split <;> simp
    have m0 : d ≤ s.1 → (minusS s.1 s.2 c d).length ≤ 1 := by
      intro q
      unfold minusS
      split
      · simp
      · have : ¬ May (max s.1 c) (min s.2 d) := by unfold May; omega
        rw [if_pos this]; simp
    rw [e, List.length_cons]
    refine ⟨?_, fun q => ?_⟩
    · by_cases q : d < s.2
      · have := i2 (by omega); omega
      · have := m1 q; omega
    · have := m0 (by omega)
      have := i2 (by unfold May at hm; omega)
      omega

theorem ord_pre : ∀ {a b : List Pc} {n : Int}, OrdP n (a ++ b) → OrdP n a
  | [], _, _, _ => trivial
  | _ :: _, _, _, h => ⟨h.1, h.2.1, ord_pre h.2.2⟩
def LOk (ls : List (Int × Int)) : Prop := (∃ n, OrdP n (pcS ls)) ∨ ∃ s, ls = [s] ∧ ¬ May s.1 s.2
theorem LOk.one (a b : Int) : LOk [(a, b)] := by
  by_cases h : May a b
  · exact .inl ⟨a, h, Int.le_refl _, trivial⟩
  · exact .inr ⟨_, rfl, h⟩
theorem LOk.len {ls : List (Int × Int)} (h : LOk ls) (c d : Int) (k : Nat) : (cutS c d (ls.take k)).length ≤ (ls.take k).length + 1 := by
  rcases h with ⟨n, h⟩ | ⟨s, rfl, h⟩
  · refine (cut_len c d (ls.take k) n ?_).1
    refine ord_pre (b := pcS (ls.drop k)) ?_
    unfold pcS at h ⊢
    rw [← List.map_append, List.take_append_drop]; exact h
  · cases k with
    | zero => simp [cutS]
    | succ k => simp [cutS, minusS, h]
theorem LOk.cut {ls : List (Int × Int)} (h : LOk ls) {c d : Int} (hm : May c d) : LOk (cutS c d ls) := by
  rcases h with ⟨n, h⟩ | ⟨s, rfl, h⟩
  · exact .inl ⟨n, by rw [pcS_cut hm]; exact without_ord h _ _⟩
  · exact .inl ⟨0, by simp [cutS, minusS, h, pcS, OrdP]⟩

def covF : List Ver → List Pc
  | [] => []
  | v :: os => if May v.fr v.to ∧ leftS (covF os) v.fr v.to ≠ [] then leastP (overP (covF os) ⟨v.fr, v.to, []⟩) else covF os
theorem covF_law : ∀ (os : List Ver), OrdP 0 (covF os) ∧ ∀ t, ((atP (covF os) t).isSome = true ↔ ∃ w ∈ os, Has w.fr w.to t)
  | [] => ⟨trivial, fun t => by simp [covF, atP_nil]⟩
  | v :: os => by
    obtain ⟨h1, h2⟩ := covF_law os
    unfold covF
    by_cases q : May v.fr v.to ∧ leftS (covF os) v.fr v.to ≠ []
    · rw [if_pos q]
      obtain ⟨l1, l2⟩ := least_law _ (over_ord h1 ⟨v.fr, v.to, []⟩)
      refine ⟨l1, fun t => ?_⟩
      rw [l2 t, over_at]
      by_cases qh : Has v.fr v.to t
      · simp only [qh, if_true, Option.isSome_some, true_iff]
        exact ⟨v, by simp, qh⟩
      · simp only [qh, if_false, h2 t]
        constructor
        · rintro ⟨w, w1, w2⟩; exact ⟨w, by simp [w1], w2⟩
        · rintro ⟨w, w1, w2⟩
          rcases List.mem_cons.mp w1 with rfl | w1
          · exact absurd w2 qh
          · exact ⟨w, w1, w2⟩
    · rw [if_neg q]
      refine ⟨h1, fun t => ?_⟩
      rw [h2 t]
      constructor
      · rintro ⟨w, w1, w2⟩; exact ⟨w, by simp [w1], w2⟩
      · rintro ⟨w, w1, w2⟩
        rcases List.mem_cons.mp w1 with rfl | w1
        · by_cases qm : May w.fr w.to
          · have hl : leftS (covF os) w.fr w.to = [] := by
              refine Classical.byContradiction fun z => q ⟨qm, z⟩
            have := (not_congr (left_iff h1 qm)).mp (by simp [hl])
            have ha : (atP (covF os) t).isSome = true := by
              cases hq : atP (covF os) t with
              | none => exact absurd ⟨t, w2, hq⟩ this
              | some x => rfl
            exact (h2 t).mp ha
          · exact absurd w2.1 qm
        · exact ⟨w, w1, w2⟩
def lastS (os : List Ver) (v : Ver) : Prop := ∃ A B t, os = A ++ v :: B ∧ Has v.fr v.to t ∧ ∀ w ∈ B, ¬ Has w.fr w.to t
theorem lastS_cons (v : Ver) (os : List Ver) (x : Ver) : lastS (v :: os) x ↔ lastS os x ∨ (x = v ∧ May v.fr v.to ∧ leftS (covF os) v.fr v.to ≠ []) := by
  obtain ⟨h1, h2⟩ := covF_law os
  constructor
  · rintro ⟨A, B, t, e, ht, hB⟩
    cases A with
    | nil =>
      injection e with e1 e2
      subst e1; subst e2
      refine .inr ⟨rfl, ht.1, (left_iff h1 ht.1).mpr ⟨t, ht, ?_⟩⟩
      cases hq : atP (covF os) t with
      | none => rfl
      | some y =>
        obtain ⟨w, w1, w2⟩ := (h2 t).mp (by simp [hq])
        exact absurd w2 (hB w w1)
    | cons a A =>
      injection e with e1 e2
      exact .inl ⟨A, B, t, e2, ht, hB⟩
  · rintro (⟨A, B, t, e, ht, hB⟩ | ⟨rfl, hm, hl⟩)
    · exact ⟨v :: A, B, t, by rw [e]; rfl, ht, hB⟩
    · obtain ⟨t, t1, t2⟩ := (left_iff h1 hm).mp hl
      refine ⟨[], os, t, rfl, t1, fun w w1 w2 => ?_⟩
      have := (h2 t).mpr ⟨w, w1, w2⟩
      rw [t2] at this; cases this
theorem lastS_nil (x : Ver) : ¬ lastS [] x := by rintro ⟨A, B, t, e, _⟩; cases A <;> cases e
theorem covF_len (os : List Ver) : (covF os).length + 1 ≤ 2 ^ os.length := by
  induction os with
  | nil => simp [covF]
  | cons v os ih =>
    have e : 2 ^ (os.length + 1) = 2 * 2 ^ os.length := by rw [Nat.pow_succ]; omega
    unfold covF
    rw [List.length_cons, e]
    split
    · have h1 := least_len_go (overP (covF os) ⟨v.fr, v.to, []⟩) []
      have h2 := overP_len (covF os) ⟨v.fr, v.to, []⟩
      have h3 : (leastP (overP (covF os) ⟨v.fr, v.to, []⟩)).length ≤ (overP (covF os) ⟨v.fr, v.to, []⟩).length := by unfold leastP; simpa using h1
      omega
    · omega

theorem find_last {os : List Ver} {p : Ver → Bool} (hp : ∀ v, lastS os v → p v = true) (t : Int) : getF (os.filter p) t = getF os t := by
  have key : (os.filter p).reverse.find? (fun v => decide (Has v.fr v.to t)) = os.reverse.find? (fun v => decide (Has v.fr v.to t)) := by
    cases hf : os.reverse.find? (fun v => decide (Has v.fr v.to t)) with
    | none =>
      rw [List.find?_eq_none] at hf ⊢
      intro x hx
      rw [List.mem_reverse] at hx
      exact hf x (List.mem_reverse.mpr (List.mem_filter.mp hx).1)
    | some v =>
      obtain ⟨h1, A, B, h2, h3⟩ := List.find?_eq_some_iff_append.mp hf
      have e : os = B.reverse ++ v :: A.reverse := by
        have := congrArg List.reverse h2
        simpa using this
      have hl : lastS os v := ⟨B.reverse, A.reverse, t, e, of_decide_eq_true h1, fun w hw => by
        have := h3 w (List.mem_reverse.mp hw)
        simpa using this⟩
      have hpv := hp v hl
      rw [List.find?_eq_some_iff_append]
      refine ⟨h1, A.filter p, B.filter p, ?_, fun a ha => h3 a (List.mem_filter.mp ha).1⟩
      rw [← List.filter_reverse, h2, List.filter_append, List.filter_cons, hpv]
      rfl
  unfold getF
  rw [key]
theorem sorted_filter {c : Ver → Ver → Int} (p : Ver → Bool) : ∀ {l : List Ver}, Sorted c l → Sorted c (l.filter p)
  | [], _ => trivial
  | a :: l, h => by
    rw [List.filter_cons]
    split
    · exact ⟨fun b hb => h.1 b (List.mem_filter.mp hb).1, sorted_filter p h.2⟩
    · exact sorted_filter p h.2
theorem order_filter (path : List Lg) (xs : List Ver) (p : Ver → Bool) : orderP path (xs.filter p) = (orderP path xs).filter p := by
  have hs := (sort_all (cmpO_ok path) (xs.filter fun a => !unseen path a)).choose_spec
  refine (orderP_is (sorted_filter _ hs.1) fun x => ?_).symm
  have h2 := hs.2 x
  unfold alike at h2 ⊢
  rw [List.filter_filter]
  have e : ∀ l : List Ver, l.filter (fun a => decide (cmpO path a x = 0) && p a) = (l.filter fun a => decide (cmpO path a x = 0)).filter p := fun l => by
    rw [List.filter_filter]; congr 1; funext a; exact Bool.and_comm _ _
  rw [e]
  rw [h2]
  simp only [List.filter_filter]
  congr 1
  funext a
  cases p a <;> cases decide (cmpO path a x = 0) <;> cases unseen path a <;> rfl
end Go.Vn

set_option maxRecDepth 20000
namespace Go.Vn
open Go.Proofs

theorem W_heap {P : Program} {T : Tab} {c : Code} {t : Fm AV} {n : Nat} {h : Hp Fm} {ro : Option Nat} {Q : Ex → St Fm → Prop} (k : ∀ h', h' = h → W P T c ⟨t, n, h', ro⟩ Q) : W P T c ⟨t, n, h, ro⟩ Q := k h rfl
theorem WO_heap {P : Program} {T : Tab} {ops : Array Oper} {l : List Oper} {t : Fm AV} {n : Nat} {h : Hp Fm} {ro : Option Nat} {Q : St Fm → Prop} (k : ∀ h', h' = h → WO P T ops l ⟨t, n, h', ro⟩ Q) : WO P T ops l ⟨t, n, h, ro⟩ Q := k h rfl
theorem A_heap {P : Program} {T : Tab} {f : Fx} {args : List AV} {h : Hp Fm} {Q : AV → Hp Fm → Prop} (k : ∀ h', h' = h → A P T f args h' Q) : A P T f args h Q := k h rfl

structure LaI (h0 h : Hp Fm) (os : List Ver) (m n b a y : Nat) (w : AV) (lr : ALoop Fm) (S : Ver → Prop) (i : Nat) : Prop where
  b5 : Mp.get h.obj b = some (.row [.mp m])
  b6 : ∃ cv, Mp.get h.obj (b + 1) = some (.row [cv]) ∧ SL 3 ((covF (os.drop i)).map encP) cv
  ar : Mp.get h.obj a = some (.row [w])
  lp : Mp.get h.obj y = some (.loop lr)
  ms : MS encV h m (fun x => S x ∨ lastS (os.drop i) x) (n + (os.length - i))
  yn : y < h.no
  hx : HX (fun o => o = m) (fun _ => False) h0 h

theorem etSp : ElT Try.prog 73 36 2 16 true (.agg [.int .i64 0, .int .i64 0]) := ets

set_option maxHeartbeats 8000000 in
theorem last_ans (path : List Lg) (vp : AV) (hvp : SV 2 (path.map encL) vp) (hl : path.length ≤ 1000000) (xs : List Ver) (v : AV) (hv : SL 8 (xs.map encV) v) (hxl : xs.length ≤ 20) (m n : Nat) (S : Ver → Prop) (h0 : Hp Fm) (ms : MS encV h0 m S n) (mn : m < h0.no) (hp : h0.pol 36 = false) :
    A Try.prog TT (.func 15) [v, vp, .mp m] h0 (fun _ h' => MS encV h' m (fun x => S x ∨ lastS (orderP path xs) x) (n + 20) ∧ HX (fun o => o = m) (fun _ => False) h0 h') := by
  have vc := hv.sv.cells
  have vi := hv.sv.isCell
  have pc := hvp.cells
  have pi := hvp.isCell
  apply A_go Try.func15 rfl (by rfl); (case hn => (simp [Try.ntmps15]; rfl))
  repeat(first|with_reducible first|refine vmR ?_|refine vmV rfl ?_|refine vmW rfl ?_|refine vmL ?_|refine blockW_y (by decide) ?_|((with_reducible first|apply vmO|apply vmT|apply vmC);case a=>simp [vc, vi, pc, pi];with_reducible first|exact .v|exact .c|exact .t|exact .f))
  obtain ⟨ha, hha⟩ : ∃ ha : Hp Fm, ha = { h0 with obj := Mp.set (Mp.set h0.obj h0.no (.row [.mp m])) (h0.no + 1) (.row [.nils]), no := h0.no + 1 + 1 } := ⟨_, rfl⟩
  have e0 : HE h0 ha := by rw [hha]; exact ((HE.refl h0).new _).new _
  have zb : h0.no ≠ h0.no + 1 := by omega
  have gb5 : Mp.get ha.obj h0.no = some (.row [.mp m]) := by rw [hha]; simp [zb]
  have gb6 : Mp.get ha.obj (h0.no + 1) = some (.row [.nils]) := by rw [hha]; simp
  have an : ha.no = h0.no + 2 := by rw [hha]
  rw [← hha]
  clear hha
  refine A.mono (order_ans path vp hvp hl xs v hv hxl _) ?_
  rintro w h1 ⟨hw, hol, e1⟩
  obtain ⟨os, hos⟩ : ∃ os, os = orderP path xs := ⟨_, rfl⟩
  rw [← hos] at hw hol ⊢
  have gb5 := (e1.obj _ (by omega)).trans gb5
  have gb6 := (e1.obj _ (by omega)).trans gb6
  have n1 := e1.no
  have e01 := e0.trans e1
  have wc := hw.sv.cells
  have wi := hw.sv.isCell
  refine ⟨_, by simp; first | done | rfl, ?_⟩
  repeat(first|with_reducible first|refine vmR ?_|refine vmV rfl ?_|refine vmW rfl ?_|refine vmL ?_|refine blockW_y (by decide) ?_|((with_reducible first|apply vmO|apply vmT|apply vmC);case a=>simp [wc, wi];with_reducible first|exact .v|exact .c|exact .t|exact .f))
  refine A.mono (seqB w ⟨wc, wi⟩ h1) ?_
  rintro _ h2 ⟨rfl, eh2⟩
  have e2 : HE h1 h2 := by rw [eh2]; exact (HE.refl h1).new _
  obtain ⟨a, haa⟩ : ∃ a, a = h1.no := ⟨_, rfl⟩
  have ga : Mp.get h2.obj a = some (.row [w]) := by rw [eh2, haa]; simp
  have n2 : h2.no = a + 1 := by rw [eh2, haa]
  have e02 := e01.trans e2
  have gb5 := (e2.obj _ (by omega)).trans gb5
  have gb6 := (e2.obj _ (by omega)).trans gb6
  rw [← haa]
  clear eh2
  refine ⟨_, by simp; first | done | rfl, ?_⟩
  repeat(first|with_reducible first|refine vmR ?_|refine vmV rfl ?_|refine vmW rfl ?_|refine vmL ?_|refine blockW_y (by decide) ?_|((with_reducible first|apply vmO|apply vmT|apply vmC);case a=>simp;with_reducible first|exact .v|exact .c|exact .t|exact .f))
  refine W_range_i rfl (by simp [rangeE, laidF]; exact ⟨rfl, rfl, rfl⟩) ?_
  refine with_loop h2.no _ (by simp; first | done | rfl) ?_
  intro lr hlr hget
  rw [← hlr]
  clear hget
  obtain ⟨y, hy⟩ : ∃ y, y = h2.no := ⟨_, rfl⟩
  obtain ⟨hs, hhs⟩ : ∃ hs : Hp Fm, hs = { h2 with obj := Mp.set h2.obj h2.no (.loop lr), no := h2.no + 1 } := ⟨_, rfl⟩
  have es : HE h2 hs := by rw [hhs]; exact (HE.refl h2).new _
  have e0s := e02.trans es
  have I0 : LaI h0 hs os m n h0.no a y w lr S os.length := by
    refine ⟨(es.obj _ (by omega)).trans gb5, ⟨.nils, (es.obj _ (by omega)).trans gb6, .inl ⟨rfl, by simp [covF]⟩⟩, (es.obj _ (by omega)).trans ga, by rw [hhs, hy]; simp, ?_, by rw [hhs, hy]; simp, e0s.x _ _⟩
    refine ((ms.of (e0s.obj _ mn)).iff fun x => ?_).le (by omega)
    constructor
    · exact .inl
    · rintro (z | z)
      · exact z
      · simp at z; exact absurd z (lastS_nil x)
  rw [← hhs, ← hy]
  have yb : h0.no + 1 < a := by omega
  have ya : y = a + 1 := by omega
  refine A.mono (backy y a os w hw.sv (by omega) (fun i h => LaI h0 h os m n h0.no a y w lr S i) (fun _ => False) (fun i h k => k.ar) ?_ hs I0) ?_
  · intro i hi h I
    have lp' := I.lp
    rw [hlr] at lp'
    obtain ⟨x, hx⟩ : ∃ x, x = os[i] := ⟨_, rfl⟩
    rw [← hx]
    have hdr : os.drop i = x :: os.drop (i + 1) := by rw [hx]; exact List.drop_eq_getElem_cons hi
    have hno := I.hx.no
    have yn := I.yn
    obtain ⟨cv, gcv, scv⟩ := I.b6
    obtain ⟨cov, hcov⟩ : ∃ cov, cov = covF (os.drop (i + 1)) := ⟨_, rfl⟩
    have covL := covF_len (os.drop (i + 1))
    have covO := (covF_law (os.drop (i + 1))).1
    rw [← hcov] at scv covL covO
    have covL2 : cov.length ≤ 1048576 := by
      have : 2 ^ (os.drop (i + 1)).length ≤ 2 ^ 20 := Nat.pow_le_pow_right (by omega) (by rw [List.length_drop]; omega)
      omega
    have cvc := scv.sv.cells
    have cvi := scv.sv.isCell
    have cvn := scv.sv.nm
    have cvl := scv.sv.len Try.underlying72
    rw [List.length_map] at cvl
    have hph : h.pol 36 = false := by rw [I.hx.pol]; exact hp
    have z1 : y ≠ h.no := by omega
    have z2 : h.no ≠ y := by omega
    have z3 : h0.no ≠ h.no := by omega
    have z4 : h0.no + 1 ≠ h.no := by omega
    have z5 : h0.no ≠ y := by omega
    have z6 : h0.no + 1 ≠ y := by omega
    refine A_round lp' (by simp) ?_
    repeat(first|with_reducible first|refine vmR ?_|refine vmV rfl ?_|refine vmW rfl ?_|refine vmL ?_|refine blockW_y (by decide) ?_|((with_reducible first|apply vmO|apply vmT|apply vmC);case a=>simp [roundT];with_reducible first|exact .v|exact .c|exact .t|exact .f))
    refine ⟨rfl, _, by simp [beginR, lp', z1]; first | done | rfl, ?_⟩
    repeat(first|with_reducible first|refine vmR ?_|refine vmV rfl ?_|refine vmW rfl ?_|refine vmL ?_|refine blockW_y (by decide) ?_|((with_reducible first|apply vmO|apply vmT|apply vmC);case a=>simp [roundT, z1, z2, z3, z4, z5, z6, gcv, cvc, cvi, cvn, cvl, newSeq, newSl, hph];with_reducible first|exact .v|exact .c|exact .t|exact .f))
    refine W_heap ?_
    intro hB hhB
    obtain ⟨lb, hlb⟩ : ∃ lb : ALoop Fm, lb = { lr with state := .busy } := ⟨_, rfl⟩
    have hlb' := hlb
    rw [hlr] at hlb'
    simp only at hlb'
    rw [← hlb'] at hhB
    have xB : HX (fun o => o = y) (fun _ => False) h hB := by rw [hhB]; exact ((((HX.refl (fun o => o = y) (fun _ => False) h).new _).set (fun z => by omega) _).set (fun _ => rfl) _).newSl 1
    have gx : Mp.get hB.obj h.no = some (.row [.str x.key, .int .i64 x.br, .int .i64 x.ep, .int .i64 x.sq, .int .i64 x.fr, .int .i64 x.to, .str x.val, .bool x.gone]) := by rw [hhB]; simp [z2]
    have gl : Mp.get hB.obj y = some (.loop lb) := by rw [hhB]; simp
    have hBn : hB.no = h.no + 1 := by rw [hhB]
    have hBp : hB.pol 36 = false := by rw [hhB]; exact hph
    have g0b : Mp.get hB.obj (h0.no + 1) = some (.row [cv]) := (xB.obj _ (by omega) (by omega)).trans gcv
    have g0a : Mp.get hB.obj h0.no = some (.row [.mp m]) := (xB.obj _ (by omega) (by omega)).trans I.b5
    clear hhB
    refine W.mono (R := fun e s => e = .exit 2 ∧ ∃ (t : Fm AV) (hC : Hp Fm) (lv : AV), s = ⟨t, 62, hC, some y⟩ ∧ tget t 5 = .ptr h0.no 0 ∧ tget t 6 = .ptr (h0.no + 1) 0 ∧ tget t 8 = .ptr h.no 0 ∧ tget t 9 = lv ∧ SV 2 ((leftS cov x.fr x.to).map encSp) lv ∧ HE hB hC) ?_ ?_
    · refine W_loop (fun k s => ∃ (t : Fm AV) (hC : Hp Fm) (lv : AV) (j : Nat) (ls : List (Int × Int)), s = ⟨t, 62, hC, some y⟩ ∧ k = cov.length - j ∧ j ≤ cov.length ∧ tget t 5 = .ptr h0.no 0 ∧ tget t 6 = .ptr (h0.no + 1) 0 ∧ tget t 8 = .ptr h.no 0 ∧ tget t 9 = lv ∧ tget t 24 = cv ∧ tget t 25 = .int .i64 cov.length ∧ tget t 26 = .int .i64 j ∧ SV 2 (ls.map encSp) lv ∧ (cov.drop j).foldl (fun l p => cutS p.fr p.to l) ls = leftS cov x.fr x.to ∧ LOk ls ∧ ls.length ≤ j + 1 ∧ HE hB hC) cov.length
        ⟨_, _, .sl h.ng 0 2 1 [.agg [.int .i64 x.fr, .int .i64 x.to]], 0, [(x.fr, x.to)], rfl, rfl, by omega, by simp, by simp, by simp, by simp, by simp, by simp, by simp, .inr (.inl ⟨_, _, _, rfl⟩), by simp [leftS], LOk.one _ _, by simp, HE.refl _⟩ ?_
      rintro _ _ ⟨t, hC, lv, j, ls, rfl, rfl, hj, t5, t6, t8, t9, t24, t25, t26, sl, fold, ord, lsl, eC⟩
      by_cases qj : j < cov.length
      case neg =>
        have qj' : ¬ ((j : Int) < cov.length) := by omega
        repeat(first|with_reducible first|refine vmR ?_|refine vmV rfl ?_|refine vmW rfl ?_|refine vmL ?_|refine blockW_y (by decide) ?_|((with_reducible first|apply vmO|apply vmT|apply vmC);case a=>simp [t5, t6, t8, t9, t24, t25, t26, qj, qj'];with_reducible first|exact .v|exact .c|exact .t|exact .f))
        refine ⟨rfl, _, _, lv, rfl, by simp [t5], by simp [t6], by simp [t8], by simp [t9], ?_, eC⟩
        rw [List.drop_of_length_le (by omega)] at fold
        rw [← fold]; exact sl
      have qj' : (j : Int) < cov.length := by omega
      obtain ⟨p, hpp⟩ : ∃ p, p = cov[j] := ⟨_, rfl⟩
      have pm : May p.fr p.to := (covO.from_ p (by rw [hpp]; exact List.getElem_mem _)).2
      have ix := scv.sv.idx (k := .i64) (i := (j : Int)) Try.underlying72 z75 (by omega) (by rw [List.length_map]; omega)
      replace ix : indexAddrAV Try.prog 72 cv (.int .i64 (j : Int)) = some (.el (.agg [.int .i64 p.fr, .int .i64 p.to, .str p.val]) 0) := by rw [ix]; simp [hpp]
      have lc := sl.cells
      have li := sl.isCell
      have ln := sl.nm
      have ll := sl.len Try.underlying73
      rw [List.length_map] at ll
      obtain ⟨jp, hjp⟩ : ∃ jp, jp = j + 1 := ⟨_, rfl⟩
      have wjp : IntKind.i64.wrap ((j : Int) + 1) = (jp : Int) := by rw [wrap64 (by omega) (by omega)]; omega
      repeat(first|with_reducible first|refine vmR ?_|refine vmV rfl ?_|refine vmW rfl ?_|refine vmL ?_|refine blockW_y (by decide) ?_|((with_reducible first|apply vmO|apply vmT|apply vmC);case a=>simp [t5, t6, t8, t9, t24, t25, t26, qj, qj', ix, lc, li, ln, ll];with_reducible first|exact .v|exact .c|exact .t|exact .f))
      refine W_heap ?_
      intro hD hhD
      have eD : HE hC hD := by rw [hhD]; exact ((HE.refl hC).new _).set (Nat.le_refl _) _
      have gD : Mp.get hD.obj hC.no = some (.row [.int .i64 p.fr, .int .i64 p.to, .str p.val]) := by rw [hhD]; simp
      have dn : hC.no < hD.no := by rw [hhD]; simp
      clear hhD
      have eBD := eC.trans eD
      have hDp : hD.pol 36 = false := by rw [eBD.pol]; exact hBp
      refine W.mono (R := fun e s => e = .exit 4 ∧ ∃ (t : Fm AV) (hE : Hp Fm) (u : AV), s = ⟨t, 62, hE, some y⟩ ∧ tget t 5 = .ptr h0.no 0 ∧ tget t 6 = .ptr (h0.no + 1) 0 ∧ tget t 8 = .ptr h.no 0 ∧ tget t 12 = u ∧ tget t 24 = cv ∧ tget t 25 = .int .i64 cov.length ∧ tget t 26 = .int .i64 j ∧ AC hD hE 2 ((cutS p.fr p.to ls).map encSp) u ∧ HE hD hE) ?_ ?_
      · refine W_loop (fun z s => ∃ (t : Fm AV) (hE : Hp Fm) (u : AV) (k : Nat), s = ⟨t, 62, hE, some y⟩ ∧ z = ls.length - k ∧ k ≤ ls.length ∧ tget t 5 = .ptr h0.no 0 ∧ tget t 6 = .ptr (h0.no + 1) 0 ∧ tget t 8 = .ptr h.no 0 ∧ tget t 11 = .ptr hC.no 0 ∧ tget t 12 = u ∧ tget t 24 = cv ∧ tget t 25 = .int .i64 cov.length ∧ tget t 26 = .int .i64 j ∧ tget t 30 = lv ∧ tget t 31 = .int .i64 ls.length ∧ tget t 32 = .int .i64 k ∧ AC hD hE 2 ((cutS p.fr p.to (ls.take k)).map encSp) u ∧ HE hD hE) ls.length
          ⟨_, _, .nils, 0, rfl, rfl, by omega, by simp [t5], by simp [t6], by simp [t8], by simp, by simp, by simp [t24], by simp [t25], by simp [t26], by simp, by simp, by simp, .inl ⟨rfl, by simp [cutS]⟩, HE.refl _⟩ ?_
        clear t5 t6 t8 t9 t24 t25 t26
        rintro _ _ ⟨t, hE, u, k, rfl, rfl, hk, t5, t6, t8, t11, t12, t24, t25, t26, t30, t31, t32, ac, eE⟩
        by_cases qk : k < ls.length
        case neg =>
          have qk' : ¬ ((k : Int) < ls.length) := by omega
          repeat(first|with_reducible first|refine vmR ?_|refine vmV rfl ?_|refine vmW rfl ?_|refine vmL ?_|refine blockW_y (by decide) ?_|((with_reducible first|apply vmO|apply vmT|apply vmC);case a=>simp [t5, t6, t8, t12, t30, t31, t32, qk, qk'];with_reducible first|exact .v|exact .c|exact .t|exact .f))
          rw [List.take_of_length_le (by omega)] at ac
          exact ⟨rfl, _, _, u, rfl, by simp [t5], by simp [t6], by simp [t8], by simp [t12], by simp [t24], by simp [t25], by simp [t26], ac, eE⟩
        have qk' : (k : Int) < ls.length := by omega
        obtain ⟨sp, hsp⟩ : ∃ sp, sp = ls[k] := ⟨_, rfl⟩
        have iy := sl.idx (k := .i64) (i := (k : Int)) Try.underlying73 z36 (by omega) (by rw [List.length_map]; omega)
        replace iy : indexAddrAV Try.prog 73 lv (.int .i64 (k : Int)) = some (.el (.agg [.int .i64 sp.1, .int .i64 sp.2]) 0) := by rw [iy]; simp [hsp, encSp, encS2]
        obtain ⟨kp, hkp⟩ : ∃ kp, kp = k + 1 := ⟨_, rfl⟩
        have wkp : IntKind.i64.wrap ((k : Int) + 1) = (kp : Int) := by rw [wrap64 (by omega) (by omega)]; omega
        have gE := (eE.obj _ dn).trans gD
        have zE : hC.no ≠ hE.no := by have := eE.no; omega
        have uc := ac.sv.cells
        have ui := ac.sv.isCell
        repeat(first|with_reducible first|refine vmR ?_|refine vmV rfl ?_|refine vmW rfl ?_|refine vmL ?_|refine blockW_y (by decide) ?_|((with_reducible first|apply vmO|apply vmT|apply vmC);case a=>simp [t5, t6, t8, t11, t12, t30, t31, t32, qk, qk', iy, gE, zE, uc, ui];with_reducible first|exact .v|exact .c|exact .t|exact .f))
        refine A_heap ?_
        intro hF hhF
        have eF : HE hE hF := by rw [hhF]; exact ((HE.refl hE).new _).set (Nat.le_refl _) _
        clear hhF
        have eDF := eE.trans eF
        refine A.mono (minus_ans sp.1 sp.2 p.fr p.to pm hF (by rw [eDF.pol]; exact hDp)) ?_
        rintro r hG ⟨sr, eG⟩
        have rc := sr.cells
        have ri := sr.isCell
        have eDG := eDF.trans eG
        have mlen : (minusS sp.1 sp.2 p.fr p.to).length ≤ 2 := by
          unfold minusS
          split
          · simp
          · split
            · simp
            · split <;> split <;> simp
        have clen := ord.len p.fr p.to k
        refine ⟨_, by simp; first | done | rfl, ?_⟩
        with_reducible apply WO_app_i; (case hw => (simp [t12, uc, ui, rc, ri]; done)); (case ho => rfl); (case hb => rfl); (case ha => (simp [t12, uc, ui, rc, ri]; first | done | exact ⟨rfl, rfl⟩ | rfl)); (case h1 => (simp; first | done | rfl)); (case h2 => (simp; first | done | rfl))
        refine app_then (AC.appN etSp (ac.of (eF.trans eG)) eDG hDp (SV.newEls sr) (by rw [List.length_map, List.length_map]; rw [List.length_take] at clen; omega)) ?_
        rintro q hH ⟨acH, eH, _, _, _⟩
        have qc := acH.sv.cells
        have qi := acH.sv.isCell
        refine ⟨_, by simp; first | done | rfl, ?_⟩
        repeat(first|with_reducible first|refine vmR ?_|refine vmV rfl ?_|refine vmW rfl ?_|refine vmL ?_|refine blockW_y (by decide) ?_|((with_reducible first|apply vmO|apply vmT|apply vmC);case a=>simp [qc, qi, t32, wkp];with_reducible first|exact .v|exact .c|exact .t|exact .f))
        refine ⟨ls.length - kp, by omega, _, _, q, kp, rfl, rfl, by omega, by simp [t5], by simp [t6], by simp [t8], by simp [t11], by simp, by simp [t24], by simp [t25], by simp [t26], by simp [t30], by simp [t31], by simp, ?_, eH⟩
        rw [hkp, List.take_succ_eq_append_getElem qk, ← hsp]
        unfold cutS at acH ⊢
        rw [List.flatMap_append, List.map_append]
        simpa using acH
      clear t5 t6 t8 t9 t24 t25 t26
      rintro e s ⟨rfl, t, hE, u, rfl, t5, t6, t8, t12, t24, t25, t26, ac, eE⟩
      repeat(first|with_reducible first|refine vmR ?_|refine vmV rfl ?_|refine vmW rfl ?_|refine vmL ?_|refine blockW_y (by decide) ?_|((with_reducible first|apply vmO|apply vmT|apply vmC);case a=>simp [t12, t26, wjp];with_reducible first|exact .v|exact .c|exact .t|exact .f))
      refine ⟨cov.length - jp, by omega, _, _, u, jp, cutS p.fr p.to ls, rfl, rfl, by omega, by simp [t5], by simp [t6], by simp [t8], by simp, by simp [t24], by simp [t25], by simp, ac.sv, ?_, ?_, ?_, eBD.trans eE⟩
      · rw [← fold, List.drop_eq_getElem_cons qj, ← hpp, hjp]; rfl
      · exact ord.cut pm
      · have := ord.len p.fr p.to ls.length
        rw [List.take_length] at this
        omega
    clear lp'
    rintro e s ⟨rfl, t, hC, lv, rfl, t5, t6, t8, t9, sl, eC⟩
    have lc := sl.cells
    have li := sl.isCell
    have ln := sl.nm
    have ll := sl.len Try.underlying73
    rw [List.length_map] at ll
    have hCn := eC.no
    have gx := (eC.obj _ (by omega)).trans gx
    have gl := (eC.obj _ (by omega)).trans gl
    have g0b := (eC.obj _ (by omega)).trans g0b
    have g0a := (eC.obj _ (by omega)).trans g0a
    have xC := xB.trans (eC.x _ _)
    repeat(first|with_reducible first|refine vmR ?_|refine vmV rfl ?_|refine vmW rfl ?_|refine vmL ?_|refine blockW_y (by decide) ?_|((with_reducible first|apply vmO|apply vmT|apply vmC);case a=>simp [t8, gx];with_reducible first|exact .v|exact .c|exact .t|exact .f))
    refine A.mono (may_ans x.fr x.to hC) ?_
    rintro _ hD ⟨rfl, eD⟩
    have hDn := eD.no
    have gx := (eD.obj _ (by omega)).trans gx
    have gl := (eD.obj _ (by omega)).trans gl
    have g0b := (eD.obj _ (by omega)).trans g0b
    have g0a := (eD.obj _ (by omega)).trans g0a
    have xD := xC.trans (eD.x _ _)
    have msD : MS encV hD m (fun z => S z ∨ lastS (os.drop (i + 1)) z) (n + (os.length - (i + 1))) := I.ms.of (xD.obj _ (by omega) (by omega))
    have hxD : HX (fun o => o = m ∨ o = y) (fun _ => False) h0 hD := (I.hx.mono (fun _ _ z => .inl z) (fun _ _ z => z)).trans (xD.mono (fun _ _ z => .inr z) (fun _ _ z => z))
    have arD := (xD.obj _ (by omega) (by omega)).trans I.ar
    refine ⟨_, by simp; first | done | rfl, ?_⟩
    -- nothing is marked
    have skip : ¬ (May x.fr x.to ∧ leftS cov x.fr x.to ≠ []) → ∀ hE : Hp Fm, hE = { hD with obj := Mp.set hD.obj y (.loop lr) } → LaI h0 hE os m n h0.no a y w lr S i := by
      intro hn hE hhE
      have c1 : covF (os.drop i) = cov := by rw [hdr, covF, ← hcov, if_neg hn]
      refine ⟨?_, ⟨cv, ?_, by rw [c1]; exact scv⟩, ?_, by rw [hhE]; simp, ?_, by rw [hhE]; show y < hD.no; omega, ?_⟩
      · rw [hhE]; simp [z5, g0a]
      · rw [hhE]; simp [z6, g0b]
      · rw [hhE]; simp [show a ≠ y by omega, arD]
      · refine ((msD.of (by rw [hhE]; simp [show m ≠ y by omega])).iff fun z => ?_).le (by omega)
        rw [hdr, lastS_cons, ← hcov]
        constructor
        · rintro (z | z)
          · exact .inl z
          · exact .inr (.inl z)
        · rintro (z | z | ⟨_, z⟩)
          · exact .inl z
          · exact .inr z
          · exact absurd z hn
      · rw [hhE]
        exact ⟨Nat.le_trans I.hx.no xD.no, Nat.le_trans I.hx.ng xD.ng, xD.pol.trans I.hx.pol, fun o ho hm => by
          have h1 := (xD.obj o (by omega) (by omega)).trans (I.hx.obj o ho hm)
          simp [show o ≠ y by omega, h1], fun g hg hn => (xD.len g (Nat.lt_of_lt_of_le hg I.hx.ng) hn).trans (I.hx.len g hg hn)⟩
    have hbr : ({ lb with state := .ready, pending := none } : ALoop Fm) = lr := by rw [hlb, hlr]
    by_cases qm : May x.fr x.to
    case neg =>
      repeat(first|with_reducible first|refine vmR ?_|refine vmV rfl ?_|refine vmW rfl ?_|refine vmL ?_|refine blockW_y (by decide) ?_|((with_reducible first|apply vmO|apply vmT|apply vmC);case a=>simp [t9, qm];with_reducible first|exact .v|exact .c|exact .t|exact .f))
      refine ⟨_, _, by simp [endR, gl]; first | exact ⟨rfl, rfl⟩ | rfl, .inl ⟨rfl, ?_⟩⟩
      exact skip (fun z => qm z.1) _ (by rw [hbr])
    by_cases ql : leftS cov x.fr x.to = []
    · rw [ql] at ll
      repeat(first|with_reducible first|refine vmR ?_|refine vmV rfl ?_|refine vmW rfl ?_|refine vmL ?_|refine blockW_y (by decide) ?_|((with_reducible first|apply vmO|apply vmT|apply vmC);case a=>simp [t9, qm, lc, li, ln, ll];with_reducible first|exact .v|exact .c|exact .t|exact .f))
      refine ⟨_, _, by simp [endR, gl]; first | exact ⟨rfl, rfl⟩ | rfl, .inl ⟨rfl, ?_⟩⟩
      exact skip (fun z => z.2 ql) _ (by rw [hbr])
    have ql' : ¬ ((leftS cov x.fr x.to).length : Int) = 0 := by
      have : (leftS cov x.fr x.to).length ≠ 0 := fun z => ql (List.length_eq_zero_iff.mp z)
      omega
    obtain ⟨es', clk', u1, u2⟩ := msD.put Try.underlying53 keyV x
    simp only [encV] at u1
    repeat(first|with_reducible first|refine vmR ?_|refine vmV rfl ?_|refine vmW rfl ?_|refine vmL ?_|refine blockW_y (by decide) ?_|((with_reducible first|apply vmO|apply vmT|apply vmC);case a=>simp [t9, qm, lc, li, ln, ll, ql, ql', t5, t8, g0a, gx, u1];with_reducible first|exact .v|exact .c|exact .t|exact .f))
    refine WO_heap ?_
    intro hE hhE
    have m1 : h.no ≠ m := by omega
    have m2 : y ≠ m := by omega
    have m3 : h0.no + 1 ≠ m := by omega
    have m4 : h0.no ≠ m := by omega
    have m5 : a ≠ m := by omega
    have gx := gx
    rw [show Mp.get hD.obj h.no = Mp.get hE.obj h.no by rw [hhE]; simp [m1]] at gx
    rw [show Mp.get hD.obj y = Mp.get hE.obj y by rw [hhE]; simp [m2]] at gl
    rw [show Mp.get hD.obj (h0.no + 1) = Mp.get hE.obj (h0.no + 1) by rw [hhE]; simp [m3]] at g0b
    rw [show Mp.get hD.obj h0.no = Mp.get hE.obj h0.no by rw [hhE]; simp [m4]] at g0a
    rw [show Mp.get hD.obj a = Mp.get hE.obj a by rw [hhE]; simp [m5]] at arD
    have xE : HX (fun o => o = m ∨ o = y) (fun _ => False) h0 hE := by rw [hhE]; exact hxD.set (fun _ => .inl rfl) _
    have msE : MS encV hE m (fun z => (S z ∨ lastS (os.drop (i + 1)) z) ∨ z = x) (n + (os.length - (i + 1)) + 1) := by rw [hhE]; exact u2
    have hEn : hE.no = hD.no := by rw [hhE]
    clear hhE u1 u2 msD hxD skip
    repeat(first|with_reducible first|refine vmR ?_|refine vmV rfl ?_|refine vmW rfl ?_|refine vmL ?_|refine blockW_y (by decide) ?_|((with_reducible first|apply vmO|apply vmT|apply vmC);case a=>simp [t6, t8, gx, g0b, cvc, cvi];with_reducible first|exact .v|exact .c|exact .t|exact .f))
    refine A.mono (over_ans cov cv scv (by omega) ⟨x.fr, x.to, []⟩ hE) ?_
    rintro v1 hF ⟨s1, eF⟩
    have c1 := s1.sv.cells
    have i1 := s1.sv.isCell
    have ol := overP_len cov ⟨x.fr, x.to, []⟩
    refine ⟨_, by simp; first | done | rfl, ?_⟩
    repeat(first|with_reducible first|refine vmR ?_|refine vmV rfl ?_|refine vmW rfl ?_|refine vmL ?_|refine blockW_y (by decide) ?_|((with_reducible first|apply vmO|apply vmT|apply vmC);case a=>simp [c1, i1];with_reducible first|exact .v|exact .c|exact .t|exact .f))
    refine A.mono (least_ans _ v1 s1.sv (by omega) hF) ?_
    rintro v2 hG ⟨s2, eG⟩
    have c2 := s2.sv.cells
    have i2 := s2.sv.isCell
    have eEG := eF.trans eG
    have hGn := eEG.no
    have gl := (eEG.obj _ (by omega)).trans gl
    have g0b := (eEG.obj _ (by omega)).trans g0b
    have g0a := (eEG.obj _ (by omega)).trans g0a
    have arD := (eEG.obj _ (by omega)).trans arD
    have xG := xE.trans (eEG.x _ _)
    have msG := msE.of (eEG.obj _ (by omega))
    have zy : y ≠ h0.no + 1 := by omega
    refine ⟨_, by simp; first | done | rfl, ?_⟩
    repeat(first|with_reducible first|refine vmR ?_|refine vmV rfl ?_|refine vmW rfl ?_|refine vmL ?_|refine blockW_y (by decide) ?_|((with_reducible first|apply vmO|apply vmT|apply vmC);case a=>simp [t6, c2, i2, g0b];with_reducible first|exact .v|exact .c|exact .t|exact .f))
    refine ⟨_, _, by simp [endR, gl, zy]; first | exact ⟨rfl, rfl⟩ | rfl, .inl ⟨rfl, ?_⟩⟩
    rw [hbr]
    have cc : covF (os.drop i) = leastP (overP cov ⟨x.fr, x.to, []⟩) := by rw [hdr, covF, ← hcov, if_pos ⟨qm, ql⟩]
    refine ⟨?_, ⟨v2, ?_, by rw [cc]; exact s2⟩, ?_, by simp, ?_, by show y < hG.no; omega, ?_⟩
    · simp [z5, zb, g0a]
    · simp [z6]
    · simp [show a ≠ y by omega, show a ≠ h0.no + 1 by omega, arD]
    · refine ((msG.of (by simp [show m ≠ y by omega, show m ≠ h0.no + 1 by omega])).iff fun z => ?_).le (by omega)
      rw [hdr, lastS_cons, ← hcov]
      constructor
      · rintro ((z | z) | z)
        · exact .inl z
        · exact .inr (.inl z)
        · exact .inr (.inr ⟨z, qm, ql⟩)
      · rintro (z | z | ⟨z, _⟩)
        · exact .inl (.inl z)
        · exact .inl (.inr z)
        · exact .inr z
    · refine ⟨xG.no, xG.ng, xG.pol, fun o ho hm => ?_, xG.len⟩
      have h1 := xG.obj o ho (fun z => by rcases z with z | z <;> omega)
      simp [show o ≠ y by omega, show o ≠ h0.no + 1 by omega, h1]
  · rintro r h3 (I | z)
    · have lp' := I.lp
      rw [hlr, hy] at lp'
      refine ⟨_, _, by simp [rangeB, lp', behind]; first | exact ⟨rfl, rfl⟩ | rfl, ?_⟩
      repeat(first|with_reducible first|refine vmR ?_|refine vmV rfl ?_|refine vmW rfl ?_|refine vmL ?_|refine blockW_y (by decide) ?_|((with_reducible first|apply vmO|apply vmT|apply vmC);case a=>simp;with_reducible first|exact .v|exact .c|exact .t|exact .f))
      (first | apply endW_r | apply endW_n); (case h1 => (simp [Try.results15]; first | done | rfl))
      have hxx := I.hx
      have yn := I.yn
      refine ⟨?_, hxx.set (fun z => by omega) _⟩
      refine ((I.ms.of ?_).iff (fun z => ?_)).le (by omega)
      · have : m ≠ h2.no := by omega
        simp [this]
      · simp
    · exact z.elim
end Go.Vn

set_option maxRecDepth 20000
namespace Go.Vn
open Go.Proofs

theorem idxP_ans (p : Ver → Bool) (F : Nat) (hF : hasBody Try.prog F = true) (caps : List AV) (hb : Hp Fm) (hf : ∀ a h, HE hb h → A Try.prog TT (.func F) (encV a :: caps) h (fun r h' => r = .bool (p a) ∧ HE h h')) (xs : List Ver) (v : AV) (hxl : xs.length ≤ 1000000) (h0 : Hp Fm) (he0 : HE hb h0) (hr : RS hb.no h0 8 true (xs.map encV) v) :
    A Try.prog TT (.func 38) [v, .fn (.func F) [] caps] h0 (fun r h' => r = .int .i64 (firstI p xs) ∧ HE h0 h') := by
  have l1 := hr.len Try.underlying22
  rw [List.length_map] at l1
  have n1 := hr.nm
  apply A_go Try.func38 rfl (by rfl); (case hn => (simp [Try.ntmps38]; rfl))
  repeat(first|with_reducible first|refine vmR ?_|refine vmV rfl ?_|refine vmW rfl ?_|refine vmL ?_|refine blockW_y (by decide) ?_|((with_reducible first|apply vmO|apply vmT|apply vmC);case a=>simp [hF, l1, n1];with_reducible first|exact .v|exact .c|exact .t|exact .f))
  refine W_loop (fun m s => ∃ (t : Fm AV) (h : Hp Fm) (i : Nat), s = ⟨t, 19, h, none⟩ ∧ m = xs.length - i ∧ i ≤ xs.length ∧ tget t 0 = v ∧ tget t 1 = .fn (.func F) [] caps ∧ tget t 7 = .int .i64 xs.length ∧ tget t 8 = .int .i64 i ∧ (∀ j (hj : j < i) (hx : j < xs.length), p xs[j] = false) ∧ HE h0 h) xs.length
    ⟨_, _, 0, rfl, rfl, by omega, by simp, by simp, by simp, by simp, fun j hj => absurd hj (Nat.not_lt_zero _), HE.refl _⟩ ?_
  rintro m s ⟨t, h, i, rfl, rfl, hi, t0, t1, t7, t8, hn, he⟩
  by_cases qi : i < xs.length
  · obtain ⟨o, cs, ix, gr, pt⟩ := (hr.he he).idx Try.underlying22 z38 (fitVs _) (i := i) (by simpa using qi)
    simp only [List.getElem_map, encV] at pt
    have w1 : IntKind.i64.wrap ((i : Int) + 1) = ((i + 1 : Nat) : Int) := by rw [wrap64 (by omega) (by omega)]; simp
    repeat(first|with_reducible first|refine vmR ?_|refine vmV rfl ?_|refine vmW rfl ?_|refine vmL ?_|refine blockW_y (by decide) ?_|((with_reducible first|apply vmO|apply vmT|apply vmC);case a=>simp [hF, t0, t1, t7, t8, qi, ix, gr, pt];with_reducible first|exact .v|exact .c|exact .t|exact .f))
    refine A.mono (hf xs[i] h (he0.trans he)) ?_
    rintro _ hh ⟨rfl, heh⟩
    refine ⟨_, by simp; first | done | rfl, ?_⟩
    cases qp : p xs[i]
    · repeat(first|with_reducible first|refine vmR ?_|refine vmV rfl ?_|refine vmW rfl ?_|refine vmL ?_|refine blockW_y (by decide) ?_|((with_reducible first|apply vmO|apply vmT|apply vmC);case a=>simp [hF, t0, t1, t7, t8, w1];with_reducible first|exact .v|exact .c|exact .t|exact .f))
      refine ⟨_, ?_, _, _, i + 1, rfl, rfl, by omega, by simp [t0], by simp [t1], by simp [t7], by simp, ?_, he.trans heh⟩
      · omega
      · intro j hj hx
        by_cases e : j = i
        · subst e; exact qp
        · exact hn j (by omega) hx
    · repeat(first|with_reducible first|refine vmR ?_|refine vmV rfl ?_|refine vmW rfl ?_|refine vmL ?_|refine blockW_y (by decide) ?_|((with_reducible first|apply vmO|apply vmT|apply vmC);case a=>simp [hF, t0, t1, t7, t8];with_reducible first|exact .v|exact .c|exact .t|exact .f))
      (first | apply endW_r | apply endW_n); (case h1 => (simp [Try.results38]; first | done | rfl))
      exact ⟨by rw [firstI_at qi qp fun j hj => hn j hj (by omega)], he.trans heh⟩
  · have qn : ¬ (i < xs.length) := qi
    have hie : i = xs.length := by omega
    repeat(first|with_reducible first|refine vmR ?_|refine vmV rfl ?_|refine vmW rfl ?_|refine vmL ?_|refine blockW_y (by decide) ?_|((with_reducible first|apply vmO|apply vmT|apply vmC);case a=>simp [hF, t0, t1, t7, t8, qi, qn];with_reducible first|exact .v|exact .c|exact .t|exact .f))
    (first | apply endW_r | apply endW_n); (case h1 => (simp [Try.results38]; first | done | rfl))
    refine ⟨?_, he⟩
    rw [firstI_none]
    intro x hx
    obtain ⟨j, hj, rfl⟩ := List.getElem_of_mem hx
    exact hn j (by omega) hj

set_option maxHeartbeats 2000000 in
theorem delfP_ans (p : Ver → Bool) (F : Nat) (hF : hasBody Try.prog F = true) (caps : List AV) (hb : Hp Fm) (hf : ∀ a h, HE hb h → A Try.prog TT (.func F) (encV a :: caps) h (fun r h' => r = .bool (p a) ∧ HE h h')) (xs : List Ver) (v : AV) (hxl : xs.length ≤ 1000000) (h0 : Hp Fm) (he0 : HE hb h0) (hr : RS hb.no h0 8 true (xs.map encV) v) :
    A Try.prog TT (.func 17) [v, .fn (.func F) [] caps] h0 (fun r h' => RS hb.no h' 8 true ((xs.filter fun a => !p a).map encV) r ∧ HE hb h') := by
  have vc := hr.cells
  have vd := hr.isCell
  apply A_go Try.func17 rfl (by rfl); (case hn => (simp [Try.ntmps17]; rfl))
  repeat(first|with_reducible first|refine vmR ?_|refine vmV rfl ?_|refine vmW rfl ?_|refine vmL ?_|refine blockW_y (by decide) ?_|((with_reducible first|apply vmO|apply vmT|apply vmC);case a=>simp;with_reducible first|exact .v|exact .c|exact .t|exact .f))
  refine A.mono (idxP_ans p F hF caps hb hf xs v hxl _ he0 hr) ?_
  rintro _ h1 ⟨rfl, he1⟩
  refine ⟨_, by simp; first | done | rfl, ?_⟩
  cases q : xs.findIdx? (p) with
  | none =>
    have hall := List.findIdx?_eq_none_iff.mp q
    have e : firstI p xs = -1 := firstI_none hall
    rw [e]
    repeat(first|with_reducible first|refine vmR ?_|refine vmV rfl ?_|refine vmW rfl ?_|refine vmL ?_|refine blockW_y (by decide) ?_|((with_reducible first|apply vmO|apply vmT|apply vmC);case a=>simp [hF, vc, vd];with_reducible first|exact .v|exact .c|exact .t|exact .f))
    (first | apply endW_r | apply endW_n); (case h1 => (simp [Try.results17]; first | done | rfl))
    refine ⟨?_, he0.trans he1⟩
    have : (xs.filter fun a => !p a) = xs := List.filter_eq_self.mpr fun a ha => by simp [hall a ha]
    rw [this]
    exact hr.he he1
  | some i0 =>
    obtain ⟨hi0, hp0, hn0⟩ := List.findIdx?_eq_some_iff_getElem.mp q
    have e : firstI p xs = (i0 : Int) := by
      show firstI (p) xs = _
      unfold firstI; rw [q]
    rw [e]
    have hr1 := hr.he he1
    rcases hr1 with ⟨_, hnil⟩ | ⟨o, cap, rfl, hlo, hk⟩
    · have : xs = [] := by simpa using hnil
      subst this; simp at hi0
    have hcapn := hk.cap
    rw [List.length_map] at hcapn
    have ne : ¬ ((i0 : Int) = -1) := by omega
    have w0 : IntKind.i64.wrap ((i0 : Int) + 1) = ((i0 + 1 : Nat) : Int) := by rw [wrap64 (by omega) (by omega)]; simp
    obtain ⟨n, hn⟩ : ∃ n, n = xs.length := ⟨_, rfl⟩
    rw [List.length_map, ← hn]
    rw [List.length_map, ← hn] at vc vd
    repeat(first|with_reducible first|refine vmR ?_|refine vmV rfl ?_|refine vmW rfl ?_|refine vmL ?_|refine blockW_y (by decide) ?_|((with_reducible first|apply vmO|apply vmT|apply vmC);case a=>simp [hF, ne, w0];with_reducible first|exact .v|exact .c|exact .t|exact .f))
    refine W_loop (fun m s => ∃ (t : Fm AV) (h : Hp Fm) (i j : Nat) (ys : List Ver), s = ⟨t, 42, h, none⟩ ∧ m = n - j ∧ j ≤ n ∧ i < j ∧ ys.length = n ∧ ys.take i = (xs.take j).filter (fun a => !p a) ∧ ys.drop j = xs.drop j ∧ tget t 0 = .rs o 0 8 true n cap ∧ tget t 1 = .fn (.func F) [] caps ∧ tget t 5 = .int .i64 i ∧ tget t 6 = .int .i64 j ∧ RSat h 8 (ys.map encV) o cap ∧ HE hb h) (n - (i0 + 1))
      ⟨_, _, i0, i0 + 1, xs, rfl, rfl, by omega, by omega, hn.symm, ?_, rfl, by simp, by simp, by simp, by simp, hk, he0.trans he1⟩ ?_
    · rw [List.take_succ_eq_append_getElem hi0, List.filter_append]
      have h1 : ((xs.take i0).filter fun a => !p a) = xs.take i0 := by
        rw [List.filter_eq_self]
        intro a ha
        obtain ⟨j, hj, rfl⟩ := List.getElem_of_mem ha
        rw [List.length_take] at hj
        have := hn0 j (by omega)
        simpa using this
      rw [h1]; simp [hp0]
    rintro m s ⟨t, h, i, j, ys, rfl, rfl, hj, hij, hyl, htk, hdr, t0, t1, t5, t6, hk2, he⟩
    have hon := hk2.on
    by_cases qj : j < n
    · have hyj : ys[j]'(by omega) = xs[j]'(by omega) := by
        have h1 : (ys.drop j)[0]'(by simp; omega) = (xs.drop j)[0]'(by simp; omega) := by simp only [hdr]
        simpa using h1
      obtain ⟨a, ha⟩ : ∃ a, a = xs[j]'(by omega) := ⟨_, rfl⟩
      obtain ⟨cs, gr, pt, hle, hset⟩ := hk2.at_ (fitVs _) (i := j) (by rw [List.length_map]; omega)
      simp only [List.getElem_map, hyj, ← ha, encV] at pt
      have ix : indexAddrAV Try.prog 22 (.rs o 0 8 true n cap) (.int .i64 (j : Int)) = some (.ptr o (j * 8)) := by
        rw [index_rs Try.underlying22 z38 (by omega) (by omega), Int.toNat_natCast]
      have w1 : IntKind.i64.wrap ((j : Int) + 1) = ((j + 1 : Nat) : Int) := by rw [wrap64 (by omega) (by omega)]; simp
      have w2 : IntKind.i64.wrap ((i : Int) + 1) = ((i + 1 : Nat) : Int) := by rw [wrap64 (by omega) (by omega)]; simp
      repeat(first|with_reducible first|refine vmR ?_|refine vmV rfl ?_|refine vmW rfl ?_|refine vmL ?_|refine blockW_y (by decide) ?_|((with_reducible first|apply vmO|apply vmT|apply vmC);case a=>simp [hF, t0, t1, t5, t6, qj, ix, gr, pt];with_reducible first|exact .v|exact .c|exact .t|exact .f))
      obtain ⟨h2, hh2⟩ : ∃ h2 : Hp Fm, h2 = { h with obj := Mp.set (Mp.set h.obj h.no (.row [.str [], .int .i64 0, .int .i64 0, .int .i64 0, .int .i64 0, .int .i64 0, .str [], .bool false])) h.no (.row (encV a).cells), no := h.no + 1 } := ⟨_, rfl⟩
      have hx2 : HE h h2 := by rw [hh2]; exact ((HE.refl h).new (.row [.str [], .int .i64 0, .int .i64 0, .int .i64 0, .int .i64 0, .int .i64 0, .str [], .bool false])).set (Nat.le_refl _) _
      have g7 : Mp.get h2.obj h.no = some (.row (encV a).cells) := by rw [hh2]; simp
      have hno : h.no < h2.no := by rw [hh2]; simp
      simp only [encV, cells_agg] at hh2 g7
      rw [← hh2]
      have he2 := he.trans hx2
      refine A.mono (hf a h2 he2) ?_
      rintro _ h3 ⟨rfl, hx3⟩
      have he3 := he2.trans hx3
      have g8 := (hx3.obj _ hno).trans g7
      have gr3 := ((hx2.trans hx3).obj _ hon).trans gr
      have hk3 := hk2.he (hx2.trans hx3)
      refine ⟨_, by simp; first | done | rfl, ?_⟩
      have hfl : (xs.take (j + 1)).filter (fun a => !p a) = (xs.take j).filter (fun a => !p a) ++ (if p a then [] else [a]) := by
        rw [List.take_succ_eq_append_getElem (by omega), List.filter_append, ← ha]
        cases hu : p a <;> simp [hu]
      have hdr2 : ys.drop (j + 1) = xs.drop (j + 1) := by
        have := congrArg (List.drop 1) hdr
        simpa [List.drop_drop] using this
      cases qp : p a
      · obtain ⟨cs3, gr3', pt3, hle3, hset3⟩ := hk3.at_ (fitVs _) (i := i) (by rw [List.length_map]; omega)
        rw [gr3] at gr3'
        injection gr3' with gr3'
        injection gr3' with gr3'
        subst gr3'
        have ix2 : indexAddrAV Try.prog 22 (.rs o 0 8 true n cap) (.int .i64 (i : Int)) = some (.ptr o (i * 8)) := by
          rw [index_rs Try.underlying22 z38 (by omega) (by omega), Int.toNat_natCast]
        repeat(first|with_reducible first|refine vmR ?_|refine vmV rfl ?_|refine vmW rfl ?_|refine vmL ?_|refine blockW_y (by decide) ?_|((with_reducible first|apply vmO|apply vmT|apply vmC);case a=>simp [hF, t0, t1, t5, t6, g8, ix2, gr3, hle3, w1, w2];with_reducible first|exact .v|exact .c|exact .t|exact .f))
        have hk4 := hset3 (encV a) { h3 with obj := Mp.set h3.obj o (.row (splice cs (i * 8) (encV a).cells)) } (fitV a) (by simp) hk3.on
        rw [← List.map_set] at hk4
        refine ⟨_, ?_, _, _, i + 1, j + 1, ys.set i a, rfl, rfl, by omega, by omega, by simp [hyl], ?_, ?_, by simp [t0], by simp [t1], by simp, by simp, hk4, he3.set hlo _⟩
        · omega
        · rw [hfl, ← htk]
          have : p a = false := qp
          rw [this, List.take_succ_eq_append_getElem (by rw [List.length_set]; omega), List.take_set_of_le (Nat.le_refl _)]
          simp
        · rw [List.drop_set_of_lt (by omega)]; exact hdr2
      · repeat(first|with_reducible first|refine vmR ?_|refine vmV rfl ?_|refine vmW rfl ?_|refine vmL ?_|refine blockW_y (by decide) ?_|((with_reducible first|apply vmO|apply vmT|apply vmC);case a=>simp [hF, t0, t1, t5, t6, w1];with_reducible first|exact .v|exact .c|exact .t|exact .f))
        refine ⟨_, ?_, _, _, i, j + 1, ys, rfl, rfl, by omega, by omega, hyl, ?_, hdr2, by simp [t0], by simp [t1], by simp [t5], by simp, hk3, he3⟩
        · omega
        · rw [hfl, htk]
          have : p a = true := qp
          simp [this]
    · have hje : j = n := by omega
      have qn : ¬ (j < n) := qj
      obtain ⟨J, hJ, hJl⟩ := hk2.row
      obtain ⟨cs, gr, _, _⟩ := hk2.at_ (fitVs _) (i := i) (by rw [List.length_map]; omega)
      have hcl := hk2.len_ (fitVs _) gr
      obtain ⟨d, hd⟩ : ∃ d, d = n - i := ⟨_, rfl⟩
      have sl1 : sliceAV Try.prog 22 (.rs o 0 8 true n cap) (some (.int .i64 (i : Int))) none none = some (.rs o (i * 8) 8 true d (cap - i)) := by
        have h1 : (i : Int) ≤ n := by omega
        have h2 : n ≤ cap := by omega
        have h3 : ¬ cap = i := by omega
        have h4 : (n : Int) ≤ cap := by omega
        have h5 : i ≤ n := by omega
        simp [sliceAV, Try.underlying22, z38, obound, bound, h1, h2, h3, h4, h5, ← hd]
      have dn : ¬ d = 0 := by omega
      have hle : i * 8 + d * 8 ≤ cs.length := by rw [hcl]; omega
      have cl : clearAV Try.prog h 22 (.rs o (i * 8) 8 true d (cap - i)) = some (.tup [], { h with obj := Mp.set h.obj o (.row (splice cs (i * 8) (List.replicate d [AV.str [], .int .i64 0, .int .i64 0, .int .i64 0, .int .i64 0, .int .i64 0, .str [], .bool false]).flatten)) }) := by
        simp [clearAV, Try.underlying22, z38, t38, dn, gr, hle]
      have sl2 : sliceAV Try.prog 22 (.rs o 0 8 true n cap) none (some (.int .i64 (i : Int))) none = some (.rs o 0 8 true i cap) := by
        rw [take_rs Try.underlying22 z38 (by omega) (by omega) (by omega), Int.toNat_natCast]
      repeat(first|with_reducible first|refine vmR ?_|refine vmV rfl ?_|refine vmW rfl ?_|refine vmL ?_|refine blockW_y (by decide) ?_|((with_reducible first|apply vmO|apply vmT|apply vmC);case a=>simp [hF, t0, t1, t5, t6, qj, qn, sl1, sl2, cl];with_reducible first|exact .v|exact .c|exact .t|exact .f))
      (first | apply endW_r | apply endW_n); (case h1 => (simp [Try.results17]; first | done | rfl))
      have hs : xs.filter (fun a => !p a) = ys.take i := by
        rw [htk, hje, hn, List.take_length]
      have hspl : (splice cs (i * 8) (List.replicate d [AV.str [], .int .i64 0, .int .i64 0, .int .i64 0, .int .i64 0, .int .i64 0, .str [], .bool false]).flatten).length = cs.length := by
        have : ∀ d, (List.replicate d [AV.str [], .int .i64 0, .int .i64 0, .int .i64 0, .int .i64 0, .int .i64 0, .str [], .bool false]).flatten.length = d * 8 := by
          intro d
          induction d with
          | zero => rfl
          | succ d ih => rw [List.replicate_succ, List.flatten_cons, List.length_append, ih]; simp; omega
        unfold splice
        rw [List.length_append, List.length_append, List.length_take, List.length_drop, this]; omega
      have hk5 := hk2.cut (fitVs _) (i := i) (by rw [List.length_map]; omega) gr (h' := { h with obj := Mp.set h.obj o (.row (splice cs (i * 8) (List.replicate d [AV.str [], .int .i64 0, .int .i64 0, .int .i64 0, .int .i64 0, .int .i64 0, .str [], .bool false]).flatten)) }) (by simp only [Mp.get_set, if_true]) hspl (by unfold splice; rw [List.append_assoc, List.take_append_of_le_length (by rw [List.length_take]; omega), List.take_take, Nat.min_self]) hon
      rw [← List.map_take] at hk5
      refine ⟨.inr ⟨o, cap, ?_, hlo, ?_⟩, he.set hlo _⟩
      · simp [hs]; omega
      · rw [hs]; exact hk5

end Go.Vn

set_option maxRecDepth 20000
namespace Go.Vn
open Go.Proofs

def plPath (bs : List Br) (k : Lg) : List Lg := pathB bs k.b.toNat k.e
def need (bs : List Br) (ep : Int) (qs : List Po) (xs : List Ver) (v : Ver) : Prop := ∃ k, placeS bs ep qs k ∧ lastS (orderP (plPath bs k) xs) v
open Classical in
noncomputable def needL (bs : List Br) (ep : Int) (qs : List Po) (xs : List Ver) : List Ver := xs.filter fun v => decide (need bs ep qs xs v)

theorem pathP_in {bs : List Br} (ok : BOk bs) : ∀ (k b : Nat) (e : Int), b < bs.length → ∀ x ∈ pathP bs k b e, 0 ≤ x.b ∧ x.b < bs.length
  | 0, _, _, _, x, hx => by simp [pathP] at hx
  | k + 1, b, e, hb, x, hx => by
    simp only [pathP, List.mem_cons] at hx
    rcases hx with rfl | hx
    · exact ⟨by simp, by simp; omega⟩
    · split at hx
      · rename_i hp
        have o1 := (ok.ok b hb).1
        have e1 : brAt bs b = bs[b] := by simp [brAt, hb]
        rw [e1] at hp hx
        exact pathP_in ok k _ _ (by omega) x hx
      · cases hx
theorem place_in {bs : List Br} (ok : BOk bs) {ep : Int} {qs : List Po} {k : Lg} (h : placeS bs ep qs k) : 0 ≤ k.b ∧ k.b < bs.length := by
  rcases h with ⟨i, hi, _, _, ⟨h, _⟩ | h⟩ | ⟨i, hi, _, h1, h2, rfl⟩
  · omega
  · exact pathP_in ok _ _ _ hi k (List.mem_of_mem_drop h)
  · exact ⟨h1, h2⟩

set_option maxHeartbeats 4000000 in
theorem needed1_ans (x : Ver) (b m n : Nat) (S : Ver → Prop) (p : Ver → Bool) (hpS : ∀ x, p x = true ↔ ¬ S x) (h : Hp Fm) (gb : Mp.get h.obj b = some (.row [.mp m])) (bn : b < h.no) (mn : m < h.no) (ms : MS encV h m S n) :
    A Try.prog TT (.func 19) [encV x, .ptr b 0] h (fun r h' => r = .bool (p x) ∧ HE h h') := by
  have zb : b ≠ h.no := by omega
  have zm : m ≠ h.no := by omega
  apply A_go Try.func19 rfl (by rfl); (case hn => (simp [Try.ntmps19]; rfl))
  repeat(first|with_reducible first|refine vmR ?_|refine vmV rfl ?_|refine vmW rfl ?_|refine vmL ?_|refine blockW_y (by decide) ?_|((with_reducible first|apply vmO|apply vmT|apply vmC);case a=>simp [zb];with_reducible first|exact .v|exact .c|exact .t|exact .f))
  refine WO_heap ?_
  intro h1 hh1
  have e1 : HE h h1 := by rw [hh1]; exact (HE.refl h).new _
  have gb1 := (e1.obj _ bn).trans gb
  have gx : Mp.get h1.obj h.no = some (.row [.str x.key, .int .i64 x.br, .int .i64 x.ep, .int .i64 x.sq, .int .i64 x.fr, .int .i64 x.to, .str x.val, .bool x.gone]) := by rw [hh1]; simp
  have ms1 := ms.of (e1.obj _ mn)
  obtain ⟨z, z1, z2⟩ := ms1.look Try.underlying53 keyV t3 x
  simp only [encV] at z1
  clear hh1
  repeat(first|with_reducible first|refine vmR ?_|refine vmV rfl ?_|refine vmW rfl ?_|refine vmL ?_|refine blockW_y (by decide) ?_|((with_reducible first|apply vmO|apply vmT|apply vmC);case a=>simp [gb1, gx, z1];with_reducible first|exact .v|exact .c|exact .t|exact .f))
  (first | apply endW_r | apply endW_n); (case h1 => (simp [Try.results19]; first | done | rfl))
  refine ⟨?_, e1⟩
  congr 1
  rw [Bool.eq_iff_iff, hpS x, ← z2]
  simp

set_option maxHeartbeats 8000000 in
theorem needed_ans (lo : Nat) (xs : List Ver) (v : AV) (hv : SL 8 (xs.map encV) v) (hxl : xs.length ≤ 20) (bs : List Br) (u w : AV) (ep : Int) (qs : List Po) (ok : BOk bs) (ep0 : 0 ≤ ep) (ep1 : ep ≤ 12) (kp : SV 3 (qs.map encPo) w) (hql : qs.length ≤ 5) (h0 : Hp Fm) (rs : BRs lo h0 bs u) :
    A Try.prog TT (.func 8) [v, .agg [.int .i64 0, .int .i64 ep, u, w, .nils, .str []]] h0 (fun r h' => SL 8 ((needL bs ep qs xs).map encV) r ∧ HE h0 h') := by
  have uc := rs.cells
  have ui := rs.isCell
  have wc := kp.cells
  have wi := kp.isCell
  have vc := hv.sv.cells
  have vi := hv.sv.isCell
  have z1 : h0.no ≠ h0.no + 1 := by omega
  have z2 : h0.no ≠ h0.no + 1 + 1 := by omega
  have z3 : h0.no + 1 ≠ h0.no + 1 + 1 := by omega
  apply A_goT Try.func8 rfl (by rfl); (case hn => (simp [Try.ntmps8]; rfl))
  repeat(first|with_reducible first|refine vmR ?_|refine vmV rfl ?_|refine vmW rfl ?_|refine vmL ?_|refine blockW_y (by decide) ?_|((with_reducible first|apply vmO|apply vmT|apply vmC);case a=>simp [uc, ui, wc, wi, makeMapAV, z1, z2, z3];with_reducible first|exact .v|exact .c|exact .t|exact .f))
  refine A_heap ?_
  intro ha hha
  obtain ⟨hq, hhq⟩ : ∃ hq : Hp Fm, hq = { h0 with pol := (· == 38) } := ⟨_, rfl⟩
  have e0 : HE hq ha := by rw [hha, hhq]; exact (((((HE.refl _).new _).new _).new _).set (by show h0.no ≤ h0.no + 1 + 1; omega) _)
  have f0 : ∀ h' : Hp Fm, HE hq h' → HE h0 { h' with pol := h0.pol } := fun h' k => ⟨by have := k.no; rw [hhq] at this; exact this, by have := k.ng; rw [hhq] at this; exact this, rfl, by have := k.obj; rw [hhq] at this; exact this, by have := k.len; rw [hhq] at this; exact this⟩
  have rsq : BRs lo hq bs u := by
    rcases rs with x | ⟨o, cap, a, b, ⟨⟨J, c, d⟩, e, f⟩⟩
    · exact .inl x
    · exact .inr ⟨o, cap, a, b, ⟨⟨J, by rw [hhq]; exact c, d⟩, e, by rw [hhq]; exact f⟩⟩
  have ru : ∀ q, isRow u q → q < h0.no := fun q hq => by
    rcases rs with ⟨z, _⟩ | ⟨o', cap, z, _, z2⟩
    · rw [z] at hq; obtain ⟨_, _, _, _, _, z⟩ := hq; cases z
    · rw [z] at hq
      obtain ⟨_, _, _, _, _, z⟩ := hq
      injection z with z
      have := z2.on
      omega
  have rsa : BRs lo ha bs u := RS.he rsq e0
  obtain ⟨mk, hmk⟩ : ∃ mk, mk = h0.no + 1 := ⟨_, rfl⟩
  obtain ⟨b, hb⟩ : ∃ b, b = h0.no + 1 + 1 := ⟨_, rfl⟩
  have an : ha.no = b + 1 := by rw [hha, hb]
  have g0 : Mp.get ha.obj h0.no = some (.row [.int .i64 0, .int .i64 ep, u, w, .nils, .str []]) := by rw [hha]; simp [z1, z2]
  have gb : Mp.get ha.obj b = some (.row [.mp mk]) := by rw [hha, hb, hmk]; simp
  have gm : Mp.get ha.obj mk = some (.mp [] 0) := by rw [hha, hmk]; simp [z3]
  have pL : ha.pol 48 = false := by rw [hha]; rfl
  have pS : ha.pol 36 = false := by rw [hha]; rfl
  have pV : ha.pol 38 = true := by rw [hha]; rfl
  have hqn : hq.no = h0.no := by rw [hhq]
  clear hha
  refine A.mono (places_ans lo bs u w ep qs ok ep0 ep1 kp hql ha rsa pL) ?_
  rintro r h1 ⟨l, sl, hl, hll, e1⟩
  have n1 := e1.no
  have rc := sl.cells
  have ri := sl.isCell
  have rn := sl.nm
  have rl := sl.len Try.underlying44
  rw [List.length_map] at rl
  refine ⟨_, by simp; first | done | rfl, ?_⟩
  rw [← hb, ← hmk]
  repeat(first|with_reducible first|refine vmR ?_|refine vmV rfl ?_|refine vmW rfl ?_|refine vmL ?_|refine blockW_y (by decide) ?_|((with_reducible first|apply vmO|apply vmT|apply vmC);case a=>simp [rc, ri, rn, rl];with_reducible first|exact .v|exact .c|exact .t|exact .f))
  refine W.mono (R := fun e s => e = .exit 0 ∧ ∃ (t : Fm AV) (h : Hp Fm) (n : Nat), s = ⟨t, 31, h, none⟩ ∧ tget t 0 = v ∧ tget t 5 = .ptr b 0 ∧ MS encV h mk (need bs ep qs xs) n ∧ HX (fun o => o = mk) (fun _ => False) ha h) ?_ ?_
  · refine W_loop (fun k s => ∃ (t : Fm AV) (h : Hp Fm) (j : Nat), s = ⟨t, 31, h, none⟩ ∧ k = l.length - j ∧ j ≤ l.length ∧ tget t 0 = v ∧ tget t 3 = .ptr h0.no 0 ∧ tget t 5 = .ptr b 0 ∧ tget t 10 = r ∧ tget t 11 = .int .i64 l.length ∧ tget t 12 = .int .i64 j ∧ MS encV h mk (fun x => ∃ k ∈ l.take j, lastS (orderP (plPath bs k) xs) x) (20 * j) ∧ HX (fun o => o = mk) (fun _ => False) ha h) l.length
      ⟨_, _, 0, rfl, rfl, by omega, by simp, by simp, by simp [hb], by simp, by simp, by simp, ((MS.empty gm).of (e1.obj _ (by omega))).iff (fun x => by simp), e1.x _ _⟩ ?_
    rintro _ _ ⟨t, h, j, rfl, rfl, hj, t0, t3, t5, t10, t11, t12, ms, hx⟩
    by_cases q : j < l.length
    case neg =>
      have q' : ¬ ((j : Int) < l.length) := by omega
      repeat(first|with_reducible first|refine vmR ?_|refine vmV rfl ?_|refine vmW rfl ?_|refine vmL ?_|refine blockW_y (by decide) ?_|((with_reducible first|apply vmO|apply vmT|apply vmC);case a=>simp [t0, t3, t5, t10, t11, t12, q, q'];with_reducible first|exact .v|exact .c|exact .t|exact .f))
      refine ⟨rfl, _, _, _, rfl, by simp [t0], by simp [t5], ms.iff fun x => ?_, hx⟩
      rw [List.take_of_length_le (by omega)]
      unfold need
      constructor
      · rintro ⟨k, k1, k2⟩; exact ⟨k, (hl k).mp k1, k2⟩
      · rintro ⟨k, k1, k2⟩; exact ⟨k, (hl k).mpr k1, k2⟩
    have q' : (j : Int) < l.length := by omega
    obtain ⟨jp, hjp⟩ : ∃ jp, jp = j + 1 := ⟨_, rfl⟩
    have wjp : IntKind.i64.wrap ((j : Int) + 1) = (jp : Int) := by rw [wrap64 (by omega) (by omega)]; omega
    obtain ⟨k, hk⟩ : ∃ k, k = l[j] := ⟨_, rfl⟩
    have ix := sl.idx (k := .i64) (i := (j : Int)) Try.underlying44 z48 (by omega) (by rw [List.length_map]; omega)
    replace ix : indexAddrAV Try.prog 44 r (.int .i64 (j : Int)) = some (.el (.agg [.int .i64 k.b, .int .i64 k.e]) 0) := by rw [ix]; simp [hk]
    have kin := place_in ok ((hl k).mp (by rw [hk]; exact List.getElem_mem _))
    obtain ⟨kb, hkb⟩ : ∃ kb : Nat, k.b = (kb : Int) := ⟨k.b.toNat, by omega⟩
    rw [hkb] at ix kin
    repeat(first|with_reducible first|refine vmR ?_|refine vmV rfl ?_|refine vmW rfl ?_|refine vmL ?_|refine blockW_y (by decide) ?_|((with_reducible first|apply vmO|apply vmT|apply vmC);case a=>simp [t0, t3, t5, t10, t11, t12, q, q', ix];with_reducible first|exact .v|exact .c|exact .t|exact .f))
    refine W_heap ?_
    intro hc hhc
    have ec : HE h hc := by rw [hhc]; exact ((HE.refl h).new _).set (Nat.le_refl _) _
    have gc : Mp.get hc.obj h.no = some (.row [.int .i64 kb, .int .i64 k.e]) := by rw [hhc]; simp
    have cn : h.no < hc.no := by rw [hhc]; simp
    clear hhc
    have hxn := hx.no
    have hcx : HX (fun o => o = mk) (fun _ => False) ha hc := hx.trans (ec.x _ _)
    have msc := ms.of (ec.obj _ (by omega))
    have g0c := (hcx.obj _ (by omega) (by omega)).trans g0
    have gbc := (hcx.obj _ (by omega) (by omega)).trans gb
    have rsc : BRs lo hc bs u := rsa.of hcx (fun q hq z => by have := ru q hq; omega)
    (with_reducible refine W_draw_id (pln := true) [0, 1, 2, 3, 4, 5, 6, 7, 8, 9] [(2, (2, [])), (4, (4, [])), (6, (6, [])), (8, (8, [0]))] (by kernel_rfl) rfl ?_)
    repeat(first|with_reducible first|refine vmR ?_|refine vmV rfl ?_|refine vmW rfl ?_|refine vmL ?_|refine blockW_y (by decide) ?_|((with_reducible first|apply vmO|apply vmT|apply vmC);case a=>simp [t0, t3, t5, g0c, gc, uc, ui];with_reducible first|exact .v|exact .c|exact .t|exact .f))
    refine A.mono (tpath_ans lo bs u ok kb (by omega) k.e _ (RS.he rsc (HE.refl hc).drew) (by show hc.pol _ = _; rw [hcx.pol]; exact pL)) ?_
    rintro vp hd ⟨ac, ed⟩
    replace ed : HE hc hd := ((HE.refl hc).drew).trans ed
    have pc := ac.sv.cells
    have pi := ac.sv.isCell
    have gbd := (ed.obj _ (by omega)).trans gbc
    have g0d := (ed.obj _ (by omega)).trans g0c
    have gcd := (ed.obj _ (by omega)).trans gc
    have dn := ed.no
    have msd := msc.of (ed.obj _ (by omega))
    have hdx : HX (fun o => o = mk) (fun _ => False) ha hd := hcx.trans (ed.x _ _)
    have plen : (pathB bs kb k.e).length ≤ 1000000 := by have := pathP_len bs (kb + 1) kb k.e; have := ok.le; unfold pathB; omega
    refine ⟨_, by simp; first | done | rfl, ?_⟩
    repeat(first|with_reducible first|refine vmR ?_|refine vmV rfl ?_|refine vmW rfl ?_|refine vmL ?_|refine blockW_y (by decide) ?_|((with_reducible first|apply vmO|apply vmT|apply vmC);case a=>simp [t0, t5, gbd, pc, pi, vc, vi];with_reducible first|exact .v|exact .c|exact .t|exact .f))
    refine A.mono (last_ans (pathB bs kb k.e) vp ac.sv plen xs v hv hxl mk _ _ hd msd (by omega) (by rw [hdx.pol]; exact pS)) ?_
    rintro _ he ⟨mse, xe⟩
    refine ⟨_, by simp; first | done | rfl, ?_⟩
    repeat(first|with_reducible first|refine vmR ?_|refine vmV rfl ?_|refine vmW rfl ?_|refine vmL ?_|refine blockW_y (by decide) ?_|((with_reducible first|apply vmO|apply vmT|apply vmC);case a=>simp;with_reducible first|exact .v|exact .c|exact .t|exact .f))
    refine ⟨by simp [readSame, beqAV_self, t0, t3, t5, g0c, gc, gbc, gbd, g0d, gcd, uc, ui, vc, vi, pc, pi]; done, _, by simp; first | done | rfl, ?_⟩
    repeat(first|with_reducible first|refine vmR ?_|refine vmV rfl ?_|refine vmW rfl ?_|refine vmL ?_|refine blockW_y (by decide) ?_|((with_reducible first|apply vmO|apply vmT|apply vmC);case a=>simp [t12, wjp];with_reducible first|exact .v|exact .c|exact .t|exact .f))
    refine ⟨l.length - jp, by omega, _, _, jp, rfl, rfl, by omega, by simp [t0], by simp [t3], by simp [t5], by simp [t10], by simp [t11], by simp, (mse.iff fun x => ?_).le (by omega), hdx.trans (xe.mono (fun _ _ z => z) (fun _ _ z => z))⟩
    have ep1 : plPath bs k = pathB bs kb k.e := by unfold plPath; rw [hkb]; rfl
    rw [hjp, List.take_succ_eq_append_getElem q, ← hk]
    constructor
    · rintro (⟨k', k1, k2⟩ | z)
      · exact ⟨k', List.mem_append_left _ k1, k2⟩
      · exact ⟨k, by simp, by rw [ep1]; exact z⟩
    · rintro ⟨k', k1, k2⟩
      rcases List.mem_append.mp k1 with k1 | k1
      · exact .inl ⟨k', k1, k2⟩
      · rw [List.mem_singleton.mp k1, ep1] at k2; exact .inr k2
  rintro e s ⟨rfl, t, h, n, rfl, t0, t5, ms, hx⟩
  have hxn := hx.no
  have p1 := hx.pol
  repeat(first|with_reducible first|refine vmR ?_|refine vmV rfl ?_|refine vmW rfl ?_|refine vmL ?_|refine blockW_y (by decide) ?_|((with_reducible first|apply vmO|apply vmT|apply vmC);case a=>simp [t0];with_reducible first|exact .v|exact .c|exact .t|exact .f))
  refine A.mono (clonev_ans xs v hv (by omega) h (by rw [p1]; exact pV)) ?_
  rintro y h2 ⟨ry, e2⟩
  have yc := ry.cells
  have yi := ry.isCell
  have n2 := e2.no
  have gb2 := ((e2.obj _ (by omega)).trans (hx.obj _ (by omega) (by omega))).trans gb
  have ms2 := ms.of (e2.obj _ (by omega))
  refine ⟨_, by simp; first | done | rfl, ?_⟩
  repeat(first|with_reducible first|refine vmR ?_|refine vmV rfl ?_|refine vmW rfl ?_|refine vmL ?_|refine blockW_y (by decide) ?_|((with_reducible first|apply vmO|apply vmT|apply vmC);case a=>simp [t5, yc, yi];with_reducible first|exact .v|exact .c|exact .t|exact .f))
  obtain ⟨p, hp⟩ : ∃ p : Ver → Bool, p = fun x => !(@decide (need bs ep qs xs x) (Classical.propDecidable _)) := ⟨_, rfl⟩
  have hpS : ∀ x, p x = true ↔ ¬ need bs ep qs xs x := fun x => by rw [hp]; simp
  have gbh := (hx.obj _ (by omega) (by omega)).trans gb
  refine A.mono (delfP_ans p 19 (by kernel_rfl) [.ptr b 0] h (fun x h3 e3 => needed1_ans x b mk n _ p hpS h3 ((e3.obj _ (by omega)).trans gbh) (by have := e3.no; omega) (by have := e3.no; omega) (ms.of (e3.obj _ (by omega)))) xs y (by omega) h2 e2 ry) ?_
  rintro z h4 ⟨rz, e4⟩
  have zc := rz.cells
  have zi := rz.isCell
  refine ⟨_, by simp; first | done | rfl, ?_⟩
  repeat(first|with_reducible first|refine vmR ?_|refine vmV rfl ?_|refine vmW rfl ?_|refine vmL ?_|refine blockW_y (by decide) ?_|((with_reducible first|apply vmO|apply vmT|apply vmC);case a=>simp [zc, zi];with_reducible first|exact .v|exact .c|exact .t|exact .f))
  (first | apply endW_r | apply endW_n); (case h1 => (simp [Try.results8]; first | done | rfl))
  have hres : xs.filter (fun a => !p a) = needL bs ep qs xs := by
    unfold needL
    congr 1
    funext a
    rw [hp]
    simp
  rw [hres] at rz
  obtain ⟨f1, f2⟩ := rz.frz (fitVs _) (by omega) (fun e => by cases e)
  have e5 : HE hq h4 := (e0.x2 hx (fun o ho => by omega) (fun _ z => z.elim)).trans e4
  exact ⟨rz.frzL (fitVs _) (by omega) (fun e => by cases e), f0 _ (e5.x2 f2 (fun q hq' => by have := rz.rows q hq'; omega) (fun _ z => z.elim))⟩
end Go.Vn
