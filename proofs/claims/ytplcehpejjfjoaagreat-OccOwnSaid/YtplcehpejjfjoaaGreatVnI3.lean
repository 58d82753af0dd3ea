/- What functions of the program come to, in the value machine (a part of the proof of the claim's statement). No condition. -/
import Derived.Test.YtplcehpejjfjoaaGreatVnI2
import Derived.Test.YtplcehpejjfjoaaGreatVnH4
set_option linter.unusedSimpArgs false
set_option linter.unusedVariables false
set_option maxRecDepth 20000
namespace Go.Vn
open Go.Proofs

theorem set_split {α : Type} (xs : List α) (j : Nat) (hj : j < xs.length) (y : α) : ∃ l1 l2, xs = l1 ++ xs[j] :: l2 ∧ xs.set j y = l1 ++ y :: l2 :=
  ⟨xs.take j, xs.drop (j + 1), by simp, by rw [List.set_eq_take_append_cons_drop, if_pos hj]⟩

theorem EngH.upd {h0 h h' : Hp Fm} {g pm : Nat} {ep sq ep' sq' : Int} {xs : List Tr} {lv : AV} {lg : List Nat} (k : EngH h0 h g pm ep sq xs lv lg) {j : Nat} (hj : j < xs.length) {x x' : Tr} (ex : x = xs[j])
    (hx : HX (fun o => o = g ∨ o = x.p ∨ o = x.m) (fun q => q ∈ x.rg ++ x.sg) h h') (row : Mp.get h'.obj g = some (.row [.ifc 25 (.ptr pm 0), .int .i64 ep', .int .i64 sq', lv]))
    (T' : TrI h' x') (ep1 : x'.p = x.p) (em1 : x'.m = x.m) (gn : (x'.rg ++ x'.sg).Nodup) (gs : ∀ q ∈ x'.rg ++ x'.sg, q ∈ x.rg ++ x.sg ∨ h.ng ≤ q) : EngH h0 h' g pm ep' sq' (xs.set j x') lv lg := by
  have hmem : x ∈ xs := by rw [ex]; exact List.getElem_mem _
  have em : (xs.set j x').map (fun x : Tr => AV.ptr x.p 0) = xs.map (fun x => .ptr x.p 0) := by
    rw [List.map_set, ep1, ex]
    apply List.ext_getElem (by simp)
    intro i h1 h2
    rw [List.getElem_set]
    split
    · rename_i e; subst e; simp
    · rfl
  obtain ⟨l1, l2, s1, s2⟩ := set_split xs j hj x'
  rw [← ex] at s1
  have eo : objsT (xs.set j x') = objsT xs := by
    rw [s2]
    conv => rhs; rw [s1]
    simp [objsT, ep1, em1]
  have g1 : grpsT xs = grpsT l1 ++ ((x.rg ++ x.sg) ++ grpsT l2) := by
    conv => lhs; rw [s1]
    simp [grpsT]
  have g2 : grpsT (xs.set j x') = grpsT l1 ++ ((x'.rg ++ x'.sg) ++ grpsT l2) := by
    rw [s2]; simp [grpsT]
  have ndg := k.ndg
  rw [g1] at ndg
  have p1 : ∀ G : List Nat, (lg ++ (grpsT l1 ++ (G ++ grpsT l2))).Perm (G ++ (lg ++ (grpsT l1 ++ grpsT l2))) := fun G => by
    refine ((List.Perm.append_left lg (List.Perm.append_left (grpsT l1) List.perm_append_comm)).trans ?_).trans List.perm_append_comm
    simp
  have ndg1 := (p1 _).nodup_iff.mp ndg
  have glt : ∀ q ∈ lg ++ (grpsT l1 ++ grpsT l2), q < h.ng := fun q hq => by
    rcases List.mem_append.mp hq with hq | hq
    · exact k.ac.lt q hq
    · have : q ∈ grpsT xs := by
        rw [g1]
        rcases List.mem_append.mp hq with hq | hq
        · exact List.mem_append_left _ hq
        · exact List.mem_append_right _ (List.mem_append_right _ hq)
      obtain ⟨z, hz, hq⟩ := List.mem_flatMap.mp this
      exact (k.tr z hz).glt q hq
  have pne := k.p_ne hmem
  have kn := k.nd
  refine ⟨row, ?_, ?_, ?_, ?_, Nat.lt_of_lt_of_le k.gn hx.no, ?_, ?_, ?_⟩
  · rw [em]
    exact k.ac.of (fun q hq => hx.len q (k.ac.lt q hq) (fun z => k.g_ne hmem q z hq)) hx.ng
  · intro z hz
    rw [s2] at hz
    have other : z ∈ l1 ∨ z ∈ l2 → TrI h' z := fun hz => by
      have hzm : z ∈ xs := by
        rw [s1]
        rcases hz with hz | hz
        · exact List.mem_append_left _ hz
        · exact List.mem_append_right _ (List.mem_cons_of_mem _ hz)
      have zne := k.p_ne hzm
      have nd2 := (List.nodup_cons.mp kn).2
      have ho : ∀ o ∈ [z.p, z.m], o ≠ x.p ∧ o ≠ x.m := fun o ho => by
        rw [s1] at nd2
        simp only [objsT, List.flatMap_append, List.flatMap_cons] at nd2
        obtain ⟨n1, n2, n3⟩ := List.nodup_append.mp nd2
        obtain ⟨n4, n5, n6⟩ := List.nodup_append.mp n2
        rcases hz with hz | hz
        · have m1 : o ∈ l1.flatMap (fun x : Tr => [x.p, x.m]) := List.mem_flatMap.mpr ⟨z, hz, ho⟩
          exact ⟨n3 o m1 x.p (by simp), n3 o m1 x.m (by simp)⟩
        · have m1 : o ∈ l2.flatMap (fun x : Tr => [x.p, x.m]) := List.mem_flatMap.mpr ⟨z, hz, ho⟩
          exact ⟨fun e => n6 x.p (by simp) o m1 e.symm, fun e => n6 x.m (by simp) o m1 e.symm⟩
      refine (k.tr z hzm).of hx ?_ ?_ ?_
      · rintro (e | e | e)
        · exact zne.1 e
        · exact (ho z.p (by simp)).1 e
        · exact (ho z.p (by simp)).2 e
      · rintro (e | e | e)
        · exact zne.2.1 e
        · exact (ho z.m (by simp)).1 e
        · exact (ho z.m (by simp)).2 e
      · intro q hq hq2
        refine (List.nodup_append.mp ndg1).2.2 q hq2 q (List.mem_append_right _ ?_) rfl
        rcases hz with hz | hz
        · exact List.mem_append_left _ (grpsT_mem hz hq)
        · exact List.mem_append_right _ (grpsT_mem hz hq)
    rcases List.mem_append.mp hz with hz | hz
    · exact other (.inl hz)
    · rcases List.mem_cons.mp hz with rfl | hz
      · exact T'
      · exact other (.inr hz)
  · rw [eo]; exact kn
  · rw [g2]
    refine (p1 _).nodup_iff.mpr (List.nodup_append.mpr ⟨gn, (List.nodup_append.mp ndg1).2.1, fun q hq r hr e => ?_⟩)
    subst e
    rcases gs q hq with z | z
    · exact (List.nodup_append.mp ndg1).2.2 q z q hr rfl
    · have := glt q hr; omega
  · rw [eo]; exact k.lo
  · intro q hq
    rw [g2] at hq
    have hq := (p1 _).mem_iff.mp hq
    rcases List.mem_append.mp hq with hq | hq
    · rcases gs q hq with z | z
      · exact k.log q ((by rw [g1]; exact (p1 _).mem_iff.mpr (List.mem_append_left _ z)))
      · exact Nat.le_trans k.he.ng z
    · exact k.log q (by rw [g1]; exact (p1 _).mem_iff.mpr (List.mem_append_right _ hq))
  · refine k.he.x2 hx (fun o ho => ?_) (fun q hq => k.log q (List.mem_append_right _ (grpsT_mem hmem hq)))
    rcases ho with rfl | rfl | rfl
    · exact k.lo _ (by simp)
    · exact k.lo _ (List.mem_cons_of_mem _ (objsT_mem hmem).1)
    · exact k.lo _ (List.mem_cons_of_mem _ (objsT_mem hmem).2)

theorem TrI.row {h h' : Hp Fm} {x : Tr} (k : TrI h x) (st : Int) (ops : Int) (at_ : St3) (hx : HX (fun o => o = x.p) (fun _ => False) h h') (hm : x.m ≠ x.p)
    (row : ∀ a b c, Mp.get h.obj x.p = some (.row [.int .i64 x.br, .int .i64 x.st, .int .i64 x.ops, .int .i64 x.at_.b, .int .i64 x.at_.e, .int .i64 x.at_.s, a, b, c]) → Mp.get h'.obj x.p = some (.row [.int .i64 x.br, .int .i64 st, .int .i64 ops, .int .i64 at_.b, .int .i64 at_.e, .int .i64 at_.s, a, b, c])) :
    TrI h' { x with st := st, ops := ops, at_ := at_ } := by
  obtain ⟨es, rdv, scv, sls, T⟩ := k
  exact ⟨es, rdv, scv, sls, row _ _ _ T.row, (hx.obj _ T.mn hm).trans T.map, T.en, T.born, T.rd.of (fun g hg => hx.len g (T.rd.lt g hg) (fun z => z)) hx.ng, T.sc.of (fun g hg => hx.len g (T.sc.lt g hg) (fun z => z)) hx.ng, T.scr, Nat.lt_of_lt_of_le T.pn hx.no, Nat.lt_of_lt_of_le T.mn hx.no⟩
theorem HX.wide {h h' : Hp Fm} {S G : Nat → Prop} (k : HX S (fun _ => False) h h') : HX S G h h' := ⟨k.no, k.ng, k.pol, k.obj, fun q hq _ => k.len q hq (fun z => z)⟩
theorem HX.set1 {h h' : Hp Fm} {S : Nat → Prop} {o : Nat} {r : AObj Fm} (ho : S o) : HX S (fun _ => False) h { h with obj := Mp.set h.obj o r } :=
  ⟨Nat.le_refl _, Nat.le_refl _, rfl, fun p hp hs => by
    show Mp.get (Mp.set h.obj o r) p = _
    rw [Mp.get_set, if_neg (fun e => hs (by rw [e]; exact ho))], fun _ _ _ => rfl⟩
theorem TrH.ops {h : Hp Fm} {x : Tr} {es : List (AV × AV × Nat)} {rdv scv : AV} {sls : List AV} (T : TrH h x es rdv scv sls) {h' : Hp Fm} (st ops : Int) (at_ : St3)
    (hx : HX (fun o => o = x.p) (fun _ => False) h h') (hm : x.m ≠ x.p) (row : Mp.get h'.obj x.p = some (.row [.int .i64 x.br, .int .i64 st, .int .i64 ops, .int .i64 at_.b, .int .i64 at_.e, .int .i64 at_.s, .mp x.m, rdv, scv])) :
    TrI h' { x with st := st, ops := ops, at_ := at_ } :=
  ⟨es, rdv, scv, sls, row, (hx.obj _ T.mn hm).trans T.map, T.en, T.born, T.rd.of (fun g hg => hx.len g (T.rd.lt g hg) (fun z => z)) hx.ng, T.sc.of (fun g hg => hx.len g (T.sc.lt g hg) (fun z => z)) hx.ng, T.scr, Nat.lt_of_lt_of_le T.pn hx.no, Nat.lt_of_lt_of_le T.mn hx.no⟩
theorem EngH.st {h0 h : Hp Fm} {g pm : Nat} {ep sq : Int} {xs : List Tr} {lv : AV} {lg : List Nat} (k : EngH h0 h g pm ep sq xs lv lg) {j : Nat} (hj : j < xs.length) {x : Tr} (ex : x = xs[j]) (st ops : Int) {es : List (AV × AV × Nat)} {rdv scv : AV} {sls : List AV} (T : TrH h x es rdv scv sls) :
    EngH h0 { h with obj := Mp.set h.obj x.p (.row [.int .i64 x.br, .int .i64 st, .int .i64 ops, .int .i64 x.at_.b, .int .i64 x.at_.e, .int .i64 x.at_.s, .mp x.m, rdv, scv]) } g pm ep sq (xs.set j { x with st := st, ops := ops }) lv lg := by
  have hmem : x ∈ xs := by rw [ex]; exact List.getElem_mem _
  have xg := k.p_ne hmem
  refine k.upd hj ex (HX.set1 (h' := h) (.inr (.inl rfl))).wide ?_ (T.ops st ops x.at_ (HX.set1 (h' := h) rfl) (fun e => xg.2.2 e.symm) (by simp)) rfl rfl ?_ (fun q hq => .inl hq)
  · show Mp.get (Mp.set h.obj x.p _) g = _
    rw [Mp.get_set, if_neg (fun e => xg.1 e.symm)]; exact k.row
  · obtain ⟨l1, l2, s1, _⟩ := set_split xs j hj x
    have ndg := (List.nodup_append.mp k.ndg).2.1
    rw [s1, ← ex] at ndg
    simp only [grpsT, List.flatMap_append, List.flatMap_cons] at ndg
    exact (List.nodup_append.mp (List.nodup_append.mp ndg).2.1).1
end Go.Vn

set_option maxRecDepth 20000
namespace Go.Vn
open Go.Proofs

set_option maxHeartbeats 1000000 in
theorem step_open (h0 h : Hp Fm) (g pm : Nat) (ep sq : Int) (xs : List Tr) (lv : AV) (lg : List Nat) (k : EngH h0 h g pm ep sq xs lv lg) (j : Nat) (hj : j < xs.length) (hst : (xs[j]).st = 1) (hxl : xs.length ≤ 1000000) (hwl : ∀ y ∈ xs, y.wr.length ≤ 60000) :
    A Tryz.prog TT (.func 11) [.ptr g 0, .int .i64 ((j : Int) + 1)] h (fun r h' =>
      ((xs.any fun y => lockQ xs[j] y (wroteQ xs[j])) = true ∧ r = .tup [.int .i64 5, .int .i64 25] ∧ EngH h0 h' g pm ep sq (xs.set j { xs[j] with st := 5 }) lv lg) ∨
      ((xs.any fun y => lockQ xs[j] y (wroteQ xs[j])) = false ∧ r = .tup [.int .i64 2, .int .i64 0] ∧ EngH h0 h' g pm ep sq (xs.set j { xs[j] with st := 2 }) lv lg)) := by
  have hmem : xs[j] ∈ xs := List.getElem_mem _
  have hne : (xs[j]).st ≠ 5 := by rw [hst]; omega
  obtain ⟨x, ex⟩ : ∃ x, x = xs[j] := ⟨_, rfl⟩
  have hfr : findR xs ((j : Int) + 1) = 0 := by
    unfold findR
    rw [if_pos (by omega), show ((j : Int) + 1 - 1).toNat = j by omega, List.getD_eq_getElem?_getD, List.getElem?_eq_getElem hj, Option.getD_some, if_neg hne]
  rw [← ex] at hst hmem hne
  have xg := k.p_ne hmem
  have T := k.tr x hmem
  obtain ⟨es, rdv, scv, sls, Tx⟩ := k.tr x hmem
  have tr := Tx.row
  rw [hst] at tr
  apply A_go Tryz.func11 rfl (by rfl); (case hn => (simp [Tryz.ntmps11]; rfl))
  repeat(first|with_reducible first|refine vmR ?_|refine vmV rfl ?_|refine vmW rfl ?_|refine vmL ?_|refine blockW_y (by decide) ?_|((with_reducible first|apply vmO|apply vmT|apply vmC);case a=>simp;with_reducible first|exact .v|exact .c|exact .t|exact .f))
  refine A.mono (find_ans h0 h g pm ep sq xs lv lg k ((j : Int) + 1) (by omega) hxl) ?_
  rintro _ h1 ⟨eh, ⟨f1, _⟩ | ⟨_, j', hj', e1, _, rfl⟩⟩
  case inl => exact absurd hfr f1
  rw [eh]
  clear eh h1
  have : j' = j := by omega
  subst this
  rw [← ex]
  refine ⟨_, by simp; first | done | rfl, ?_⟩
  have ph : x.p ≠ h.no := Nat.ne_of_lt Tx.pn
  have gh : g ≠ h.no := Nat.ne_of_lt k.gn
  repeat(first|with_reducible first|refine vmR ?_|refine vmV rfl ?_|refine vmW rfl ?_|refine vmL ?_|refine blockW_y (by decide) ?_|((with_reducible first|apply vmO|apply vmT|apply vmC);case a=>simp [tr, ph, gh];with_reducible first|exact .v|exact .c|exact .t|exact .f))
  refine A_heap ?_
  intro hA hhA
  have eA : HE h hA := by rw [hhA]; exact ((HE.refl h).new _).set (Nat.le_refl _) _
  have gA : Mp.get hA.obj h.no = some (.row [.ptr x.p 0]) := by rw [hhA]; simp
  have nA : h.no < hA.no := by rw [hhA]; exact Nat.lt_succ_self _
  clear hhA
  have kA := k.of eA
  have TA := kA.tr x hmem
  refine A.mono (locked_ans h0 hA g pm ep sq xs lv lg kA x hmem hxl hwl 32 (by simp) [.ptr h.no 0] (wroteQ x) (fun y hy => step1_ans hA x TA h.no gA nA _)) ?_
  rintro _ hB ⟨rfl, eB⟩
  refine ⟨_, by simp; first | done | rfl, ?_⟩
  have kB := kA.of eB
  obtain ⟨esB, rdB, scB, slB, TB⟩ := kB.tr x hmem
  have gB := (eB.obj _ nA).trans gA
  have trB := TB.row
  rw [hst] at trB
  have grB := kB.row
  have nB : h.no ≠ x.p := fun z => ph z.symm
  cases hq : (xs.any fun y => lockQ x y (wroteQ x)) with
  | true =>
    repeat(first|with_reducible first|refine vmR ?_|refine vmV rfl ?_|refine vmW rfl ?_|refine vmL ?_|refine blockW_y (by decide) ?_|((with_reducible first|apply vmO|apply vmT|apply vmC);case a=>simp [gB, trB, nB, ph];with_reducible first|exact .v|exact .c|exact .t|exact .f))
    (first | apply endW_r | apply endW_n); (case h1 => (simp [Tryz.results11]; first | done | rfl))
    refine .inl ⟨rfl, rfl, ?_⟩
    exact kB.st hj ex 5 x.ops TB
  | false =>
    repeat(first|with_reducible first|refine vmR ?_|refine vmV rfl ?_|refine vmW rfl ?_|refine vmL ?_|refine blockW_y (by decide) ?_|((with_reducible first|apply vmO|apply vmT|apply vmC);case a=>simp [gB, trB, nB, ph];with_reducible first|exact .v|exact .c|exact .t|exact .f))
    (first | apply endW_r | apply endW_n); (case h1 => (simp [Tryz.results11]; first | done | rfl))
    refine .inr ⟨rfl, rfl, ?_⟩
    exact kB.st hj ex 2 x.ops TB
end Go.Vn

set_option maxRecDepth 20000
namespace Go.Vn
open Go.Proofs

end Go.Vn

set_option maxRecDepth 20000
namespace Go.Vn
open Go.Proofs

def Rising (l : List Tx) : Prop := SortR ltB l 0 l.length

end Go.Vn

set_option maxRecDepth 20000
namespace Go.Vn
open Go.Proofs

theorem MemE.lo {h : Hp Fm} {pm lo lo' : Nat} {bs : List Br} (k : MemE h pm bs lo) (e : lo' ≤ lo) : MemE h pm bs lo' := by
  obtain ⟨ok, pc, pl, pn, po, bv, a1, a2, a3, a4, a5, a6, b1, b2, b3, b4, b5, c1, c2, c3, c4, c5⟩ := k
  exact ⟨ok, pc, pl, pn, po, bv, a1, a2, a3, a4, a5, RS.lo a6 e, b1, b2, b3, b4, b5, by omega, by omega, by omega, by omega, by omega⟩

end Go.Vn

set_option maxRecDepth 20000
namespace Go.Vn
open Go.Proofs

end Go.Vn

set_option maxRecDepth 20000
namespace Go.Vn
open Go.Proofs

structure Cl where
  k : Int
  id : Int
  t : Int
  key : Bs
  to : Bs
  f : Int
  u : Int
  v : Bs
deriving Inhabited
@[simp] def encC (c : Cl) : AV := .agg [.int .i64 c.k, .int .i64 c.id, .int .i64 c.t, .str c.key, .str c.to, .int .i64 c.f, .int .i64 c.u, .str c.v]
def ClR (c : Cl) : Prop := i64R c.k ∧ i64R c.id ∧ i64R c.t ∧ i64R c.f ∧ i64R c.u

structure Bare (x : Tr) : Prop where
  br : x.br = 0
  wr : x.wr = []
  rd : x.rd = []
  sc : x.sc = []
  s1 : 1 ≤ x.st
  s4 : x.st ≤ 4

end Go.Vn

set_option maxRecDepth 20000
namespace Go.Vn
open Go.Proofs

theorem eqlBO (d : Nat) (a b : Bool) : eqlAV Tryz.prog (d + 1) 4 (.bool a) (.bool b) = some (a == b) := by simp [eqlAV]

end Go.Vn
