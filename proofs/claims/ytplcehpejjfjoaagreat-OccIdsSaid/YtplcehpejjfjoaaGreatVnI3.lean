/- What functions of the program come to, in the value machine (a part of the proof of the claim's statement). No condition. -/
import Derived.Test.YtplcehpejjfjoaaGreatVnI2
import Derived.Test.YtplcehpejjfjoaaGreatVnH4
set_option linter.unusedSimpArgs false
set_option linter.unusedVariables false
set_option maxRecDepth 20000
namespace Go.Vn
open Go.Proofs

theorem set_split {α : Type} (xs : List α) (j : Nat) (hj : j < xs.length) (y : α) : ∃ l1 l2, xs = l1 ++ xs[j] :: l2 ∧ xs.set j y = l1 ++ y :: l2 :=
  ⟨xs.take j, xs.drop (j + 1), by simp, by rw [List.set_eq_take_append_cons_drop, if_pos hj]⟩

theorem EngH.upd {h0 h h' : Hp Fm} {g pm : Nat} {ep sq ep' sq' : Int} {xs : List Tr} {lv : AV} {lg : List Nat} (k : EngH h0 h g pm ep sq xs lv lg) {j : Nat} (hj : j < xs.length) {x x' : Tr} (ex : x = xs[j])
    (hx : HX (fun o => o = g ∨ o = x.p ∨ o = x.m) (fun q => q ∈ x.rg ++ x.sg) h h') (row : Mp.get h'.obj g = some (.row [.ifc 25 (.ptr pm 0), .int .i64 ep', .int .i64 sq', lv]))
    (T' : TrI h' x') (ep1 : x'.p = x.p) (em1 : x'.m = x.m) (gn : (x'.rg ++ x'.sg).Nodup) (gs : ∀ q ∈ x'.rg ++ x'.sg, q ∈ x.rg ++ x.sg ∨ h.ng ≤ q) : EngH h0 h' g pm ep' sq' (xs.set j x') lv lg := by
  have hmem : x ∈ xs := by rw [ex]; exact List.getElem_mem _
  have em : (xs.set j x').map (fun x : Tr => AV.ptr x.p 0) = xs.map (fun x => .ptr x.p 0) := by
    rw [List.map_set, ep1, ex]
    apply List.ext_getElem (by simp)
    intro i h1 h2
    rw [List.getElem_set]
    split
    · rename_i e; subst e; simp
    · rfl
  obtain ⟨l1, l2, s1, s2⟩ := set_split xs j hj x'
  rw [← ex] at s1
  have eo : objsT (xs.set j x') = objsT xs := by
    rw [s2]
    conv => rhs; rw [s1]
    simp [objsT, ep1, em1]
  have g1 : grpsT xs = grpsT l1 ++ ((x.rg ++ x.sg) ++ grpsT l2) := by
    conv => lhs; rw [s1]
    simp [grpsT]
  have g2 : grpsT (xs.set j x') = grpsT l1 ++ ((x'.rg ++ x'.sg) ++ grpsT l2) := by
    rw [s2]; simp [grpsT]
  have ndg := k.ndg
  rw [g1] at ndg
  have p1 : ∀ G : List Nat, (lg ++ (grpsT l1 ++ (G ++ grpsT l2))).Perm (G ++ (lg ++ (grpsT l1 ++ grpsT l2))) := fun G => by
    refine ((List.Perm.append_left lg (List.Perm.append_left (grpsT l1) List.perm_append_comm)).trans ?_).trans List.perm_append_comm
    simp
  have ndg1 := (p1 _).nodup_iff.mp ndg
  have glt : ∀ q ∈ lg ++ (grpsT l1 ++ grpsT l2), q < h.ng := fun q hq => by
    rcases List.mem_append.mp hq with hq | hq
    · exact k.ac.lt q hq
    · have : q ∈ grpsT xs := by
        rw [g1]
        rcases List.mem_append.mp hq with hq | hq
        · exact List.mem_append_left _ hq
        · exact List.mem_append_right _ (List.mem_append_right _ hq)
      obtain ⟨z, hz, hq⟩ := List.mem_flatMap.mp this
      exact (k.tr z hz).glt q hq
  have pne := k.p_ne hmem
  have kn := k.nd
  refine ⟨row, ?_, ?_, ?_, ?_, Nat.lt_of_lt_of_le k.gn hx.no, ?_, ?_, ?_⟩
  · rw [em]
    exact k.ac.of (fun q hq => hx.len q (k.ac.lt q hq) (fun z => k.g_ne hmem q z hq)) hx.ng
  · intro z hz
    rw [s2] at hz
    have other : z ∈ l1 ∨ z ∈ l2 → TrI h' z := fun hz => by
      have hzm : z ∈ xs := by
        rw [s1]
        rcases hz with hz | hz
        · exact List.mem_append_left _ hz
        · exact List.mem_append_right _ (List.mem_cons_of_mem _ hz)
      have zne := k.p_ne hzm
      have nd2 := (List.nodup_cons.mp kn).2
      have ho : ∀ o ∈ [z.p, z.m], o ≠ x.p ∧ o ≠ x.m := fun o ho => by
        rw [s1] at nd2
        simp only [objsT, List.flatMap_append, List.flatMap_cons] at nd2
        obtain ⟨n1, n2, n3⟩ := List.nodup_append.mp nd2
        obtain ⟨n4, n5, n6⟩ := List.nodup_append.mp n2
        rcases hz with hz | hz
        · have m1 : o ∈ l1.flatMap (fun x : Tr => [x.p, x.m]) := List.mem_flatMap.mpr ⟨z, hz, ho⟩
          exact ⟨n3 o m1 x.p (by simp), n3 o m1 x.m (by simp)⟩
        · have m1 : o ∈ l2.flatMap (fun x : Tr => [x.p, x.m]) := List.mem_flatMap.mpr ⟨z, hz, ho⟩
          exact ⟨fun e => n6 x.p (by simp) o m1 e.symm, fun e => n6 x.m (by simp) o m1 e.symm⟩
      refine (k.tr z hzm).of hx ?_ ?_ ?_
      · rintro (e | e | e)
        · exact zne.1 e
        · exact (ho z.p (by simp)).1 e
        · exact (ho z.p (by simp)).2 e
      · rintro (e | e | e)
        · exact zne.2.1 e
        · exact (ho z.m (by simp)).1 e
        · exact (ho z.m (by simp)).2 e
      · intro q hq hq2
        refine (List.nodup_append.mp ndg1).2.2 q hq2 q (List.mem_append_right _ ?_) rfl
        rcases hz with hz | hz
        · exact List.mem_append_left _ (grpsT_mem hz hq)
        · exact List.mem_append_right _ (grpsT_mem hz hq)
    rcases List.mem_append.mp hz with hz | hz
    · exact other (.inl hz)
    · rcases List.mem_cons.mp hz with rfl | hz
      · exact T'
      · exact other (.inr hz)
  · rw [eo]; exact kn
  · rw [g2]
    refine (p1 _).nodup_iff.mpr (List.nodup_append.mpr ⟨gn, (List.nodup_append.mp ndg1).2.1, fun q hq r hr e => ?_⟩)
    subst e
    rcases gs q hq with z | z
    · exact (List.nodup_append.mp ndg1).2.2 q z q hr rfl
    · have := glt q hr; omega
  · rw [eo]; exact k.lo
  · intro q hq
    rw [g2] at hq
    have hq := (p1 _).mem_iff.mp hq
    rcases List.mem_append.mp hq with hq | hq
    · rcases gs q hq with z | z
      · exact k.log q ((by rw [g1]; exact (p1 _).mem_iff.mpr (List.mem_append_left _ z)))
      · exact Nat.le_trans k.he.ng z
    · exact k.log q (by rw [g1]; exact (p1 _).mem_iff.mpr (List.mem_append_right _ hq))
  · refine k.he.x2 hx (fun o ho => ?_) (fun q hq => k.log q (List.mem_append_right _ (grpsT_mem hmem hq)))
    rcases ho with rfl | rfl | rfl
    · exact k.lo _ (by simp)
    · exact k.lo _ (List.mem_cons_of_mem _ (objsT_mem hmem).1)
    · exact k.lo _ (List.mem_cons_of_mem _ (objsT_mem hmem).2)

theorem TrI.row {h h' : Hp Fm} {x : Tr} (k : TrI h x) (st : Int) (ops : Int) (at_ : St3) (hx : HX (fun o => o = x.p) (fun _ => False) h h') (hm : x.m ≠ x.p)
    (row : ∀ a b c, Mp.get h.obj x.p = some (.row [.int .i64 x.br, .int .i64 x.st, .int .i64 x.ops, .int .i64 x.at_.b, .int .i64 x.at_.e, .int .i64 x.at_.s, a, b, c]) → Mp.get h'.obj x.p = some (.row [.int .i64 x.br, .int .i64 st, .int .i64 ops, .int .i64 at_.b, .int .i64 at_.e, .int .i64 at_.s, a, b, c])) :
    TrI h' { x with st := st, ops := ops, at_ := at_ } := by
  obtain ⟨es, rdv, scv, sls, T⟩ := k
  exact ⟨es, rdv, scv, sls, row _ _ _ T.row, (hx.obj _ T.mn hm).trans T.map, T.en, T.born, T.rd.of (fun g hg => hx.len g (T.rd.lt g hg) (fun z => z)) hx.ng, T.sc.of (fun g hg => hx.len g (T.sc.lt g hg) (fun z => z)) hx.ng, T.scr, Nat.lt_of_lt_of_le T.pn hx.no, Nat.lt_of_lt_of_le T.mn hx.no⟩
theorem HX.wide {h h' : Hp Fm} {S G : Nat → Prop} (k : HX S (fun _ => False) h h') : HX S G h h' := ⟨k.no, k.ng, k.pol, k.obj, fun q hq _ => k.len q hq (fun z => z)⟩
theorem HX.set1 {h h' : Hp Fm} {S : Nat → Prop} {o : Nat} {r : AObj Fm} (ho : S o) : HX S (fun _ => False) h { h with obj := Mp.set h.obj o r } :=
  ⟨Nat.le_refl _, Nat.le_refl _, rfl, fun p hp hs => by
    show Mp.get (Mp.set h.obj o r) p = _
    rw [Mp.get_set, if_neg (fun e => hs (by rw [e]; exact ho))], fun _ _ _ => rfl⟩
theorem TrH.ops {h : Hp Fm} {x : Tr} {es : List (AV × AV × Nat)} {rdv scv : AV} {sls : List AV} (T : TrH h x es rdv scv sls) {h' : Hp Fm} (st ops : Int) (at_ : St3)
    (hx : HX (fun o => o = x.p) (fun _ => False) h h') (hm : x.m ≠ x.p) (row : Mp.get h'.obj x.p = some (.row [.int .i64 x.br, .int .i64 st, .int .i64 ops, .int .i64 at_.b, .int .i64 at_.e, .int .i64 at_.s, .mp x.m, rdv, scv])) :
    TrI h' { x with st := st, ops := ops, at_ := at_ } :=
  ⟨es, rdv, scv, sls, row, (hx.obj _ T.mn hm).trans T.map, T.en, T.born, T.rd.of (fun g hg => hx.len g (T.rd.lt g hg) (fun z => z)) hx.ng, T.sc.of (fun g hg => hx.len g (T.sc.lt g hg) (fun z => z)) hx.ng, T.scr, Nat.lt_of_lt_of_le T.pn hx.no, Nat.lt_of_lt_of_le T.mn hx.no⟩
theorem EngH.st {h0 h : Hp Fm} {g pm : Nat} {ep sq : Int} {xs : List Tr} {lv : AV} {lg : List Nat} (k : EngH h0 h g pm ep sq xs lv lg) {j : Nat} (hj : j < xs.length) {x : Tr} (ex : x = xs[j]) (st ops : Int) {es : List (AV × AV × Nat)} {rdv scv : AV} {sls : List AV} (T : TrH h x es rdv scv sls) :
    EngH h0 { h with obj := Mp.set h.obj x.p (.row [.int .i64 x.br, .int .i64 st, .int .i64 ops, .int .i64 x.at_.b, .int .i64 x.at_.e, .int .i64 x.at_.s, .mp x.m, rdv, scv]) } g pm ep sq (xs.set j { x with st := st, ops := ops }) lv lg := by
  have hmem : x ∈ xs := by rw [ex]; exact List.getElem_mem _
  have xg := k.p_ne hmem
  refine k.upd hj ex (HX.set1 (h' := h) (.inr (.inl rfl))).wide ?_ (T.ops st ops x.at_ (HX.set1 (h' := h) rfl) (fun e => xg.2.2 e.symm) (by simp)) rfl rfl ?_ (fun q hq => .inl hq)
  · show Mp.get (Mp.set h.obj x.p _) g = _
    rw [Mp.get_set, if_neg (fun e => xg.1 e.symm)]; exact k.row
  · obtain ⟨l1, l2, s1, _⟩ := set_split xs j hj x
    have ndg := (List.nodup_append.mp k.ndg).2.1
    rw [s1, ← ex] at ndg
    simp only [grpsT, List.flatMap_append, List.flatMap_cons] at ndg
    exact (List.nodup_append.mp (List.nodup_append.mp ndg).2.1).1
theorem EngH.st2 {h0 h h' : Hp Fm} {g pm : Nat} {ep sq ep' sq' : Int} {xs : List Tr} {lv : AV} {lg : List Nat} (k : EngH h0 h g pm ep sq xs lv lg) {j : Nat} (hj : j < xs.length) {x : Tr} (ex : x = xs[j]) (st ops : Int) (at_ : St3) {es : List (AV × AV × Nat)} {rdv scv : AV} {sls : List AV} (T : TrH h x es rdv scv sls)
    (hno : h'.no = h.no) (hng : h'.ng = h.ng) (hpol : h'.pol = h.pol) (hlen : h'.len = h.len) (ho : ∀ o, o ≠ g → o ≠ x.p → Mp.get h'.obj o = Mp.get h.obj o) (row : Mp.get h'.obj g = some (.row [.ifc 25 (.ptr pm 0), .int .i64 ep', .int .i64 sq', lv]))
    (rowx : Mp.get h'.obj x.p = some (.row [.int .i64 x.br, .int .i64 st, .int .i64 ops, .int .i64 at_.b, .int .i64 at_.e, .int .i64 at_.s, .mp x.m, rdv, scv])) :
    EngH h0 h' g pm ep' sq' (xs.set j { x with st := st, ops := ops, at_ := at_ }) lv lg := by
  have hmem : x ∈ xs := by rw [ex]; exact List.getElem_mem _
  have xg := k.p_ne hmem
  have hx : HX (fun o => o = g ∨ o = x.p ∨ o = x.m) (fun q => q ∈ x.rg ++ x.sg) h h' := ⟨Nat.le_of_eq hno.symm, Nat.le_of_eq hng.symm, hpol, fun o _ hs => ho o (fun e => hs (.inl e)) (fun e => hs (.inr (.inl e))), fun _ _ _ => by rw [hlen]⟩
  refine k.upd hj ex hx row ⟨es, rdv, scv, sls, rowx, (ho x.m xg.2.1 (fun e => xg.2.2 e.symm)).trans T.map, T.en, T.born, T.rd.of (fun g _ => by rw [hlen]) (Nat.le_of_eq hng.symm), T.sc.of (fun g _ => by rw [hlen]) (Nat.le_of_eq hng.symm), T.scr, by rw [hno]; exact T.pn, by rw [hno]; exact T.mn⟩ rfl rfl ?_ (fun q hq => .inl hq)
  obtain ⟨l1, l2, s1, _⟩ := set_split xs j hj x
  have ndg := (List.nodup_append.mp k.ndg).2.1
  rw [s1, ← ex] at ndg
  simp only [grpsT, List.flatMap_append, List.flatMap_cons] at ndg
  exact (List.nodup_append.mp (List.nodup_append.mp ndg).2.1).1
end Go.Vn

set_option maxRecDepth 20000
namespace Go.Vn
open Go.Proofs

theorem step_none (h0 h : Hp Fm) (g pm : Nat) (ep sq : Int) (xs : List Tr) (lv : AV) (lg : List Nat) (k : EngH h0 h g pm ep sq xs lv lg) (i : Int) (hi64 : -9223372036854775808 ≤ i ∧ i ≤ 9223372036854775807) (hxl : xs.length ≤ 1000000) (hn : findR xs i ≠ 0) :
    A Tryz.prog TT (.func 11) [.ptr g 0, .int .i64 i] h (fun r h' => r = .tup [.int .i64 0, .int .i64 (findR xs i)] ∧ HE h h') := by
  apply A_go Tryz.func11 rfl (by rfl); (case hn => (simp [Tryz.ntmps11]; rfl))
  repeat(first|with_reducible first|refine vmR ?_|refine vmV rfl ?_|refine vmW rfl ?_|refine vmL ?_|refine blockW_y (by decide) ?_|((with_reducible first|apply vmO|apply vmT|apply vmC);case a=>simp;with_reducible first|exact .v|exact .c|exact .t|exact .f))
  refine A.mono (find_ans h0 h g pm ep sq xs lv lg k i hi64 hxl) ?_
  rintro _ h1 ⟨eh, ⟨f1, rfl⟩ | ⟨f1, _⟩⟩
  case inr => exact absurd f1 hn
  rw [eh]
  clear eh h1
  refine ⟨_, by simp; first | done | rfl, ?_⟩
  obtain ⟨e, he⟩ : ∃ e, e = findR xs i := ⟨_, rfl⟩
  rw [← he] at f1 ⊢
  repeat(first|with_reducible first|refine vmR ?_|refine vmV rfl ?_|refine vmW rfl ?_|refine vmL ?_|refine blockW_y (by decide) ?_|((with_reducible first|apply vmO|apply vmT|apply vmC);case a=>simp [f1];with_reducible first|exact .v|exact .c|exact .t|exact .f))
  (first | apply endW_r | apply endW_n); (case h1 => (simp [Tryz.results11]; first | done | rfl))
  exact ⟨rfl, ((HE.refl h).new _).set (Nat.le_refl _) _⟩


theorem step_done (h0 h : Hp Fm) (g pm : Nat) (ep sq : Int) (xs : List Tr) (lv : AV) (lg : List Nat) (k : EngH h0 h g pm ep sq xs lv lg) (j : Nat) (hj : j < xs.length) (hst : (xs[j]).st = 4) (hxl : xs.length ≤ 1000000) :
    A Tryz.prog TT (.func 11) [.ptr g 0, .int .i64 ((j : Int) + 1)] h (fun r h' => r = .tup [.int .i64 0, .int .i64 26] ∧ HE h h') := by
  have hmem : xs[j] ∈ xs := List.getElem_mem _
  have hne : (xs[j]).st ≠ 5 := by rw [hst]; omega
  obtain ⟨x, ex⟩ : ∃ x, x = xs[j] := ⟨_, rfl⟩
  have hfr : findR xs ((j : Int) + 1) = 0 := by
    unfold findR
    rw [if_pos (by omega), show ((j : Int) + 1 - 1).toNat = j by omega, List.getD_eq_getElem?_getD, List.getElem?_eq_getElem hj, Option.getD_some, if_neg hne]
  rw [← ex] at hst hmem hne
  have xg := k.p_ne hmem
  have T := k.tr x hmem
  obtain ⟨es, rdv, scv, sls, Tx⟩ := k.tr x hmem
  have tr := Tx.row
  rw [hst] at tr
  apply A_go Tryz.func11 rfl (by rfl); (case hn => (simp [Tryz.ntmps11]; rfl))
  repeat(first|with_reducible first|refine vmR ?_|refine vmV rfl ?_|refine vmW rfl ?_|refine vmL ?_|refine blockW_y (by decide) ?_|((with_reducible first|apply vmO|apply vmT|apply vmC);case a=>simp;with_reducible first|exact .v|exact .c|exact .t|exact .f))
  refine A.mono (find_ans h0 h g pm ep sq xs lv lg k ((j : Int) + 1) (by omega) hxl) ?_
  rintro _ h1 ⟨eh, ⟨f1, _⟩ | ⟨_, j', hj', e1, _, rfl⟩⟩
  case inl => exact absurd hfr f1
  rw [eh]
  clear eh h1
  have : j' = j := by omega
  subst this
  rw [← ex]
  refine ⟨_, by simp; first | done | rfl, ?_⟩
  have ph : x.p ≠ h.no := Nat.ne_of_lt Tx.pn
  have gh : g ≠ h.no := Nat.ne_of_lt k.gn
  repeat(first|with_reducible first|refine vmR ?_|refine vmV rfl ?_|refine vmW rfl ?_|refine vmL ?_|refine blockW_y (by decide) ?_|((with_reducible first|apply vmO|apply vmT|apply vmC);case a=>simp [tr, ph, gh];with_reducible first|exact .v|exact .c|exact .t|exact .f))
  (first | apply endW_r | apply endW_n); (case h1 => (simp [Tryz.results11]; first | done | rfl))
  exact ⟨rfl, ((HE.refl h).new _).set (Nat.le_refl _) _⟩

set_option maxHeartbeats 1000000 in
theorem step_open (h0 h : Hp Fm) (g pm : Nat) (ep sq : Int) (xs : List Tr) (lv : AV) (lg : List Nat) (k : EngH h0 h g pm ep sq xs lv lg) (j : Nat) (hj : j < xs.length) (hst : (xs[j]).st = 1) (hxl : xs.length ≤ 1000000) (hwl : ∀ y ∈ xs, y.wr.length ≤ 60000) :
    A Tryz.prog TT (.func 11) [.ptr g 0, .int .i64 ((j : Int) + 1)] h (fun r h' =>
      ((xs.any fun y => lockQ xs[j] y (wroteQ xs[j])) = true ∧ r = .tup [.int .i64 5, .int .i64 25] ∧ EngH h0 h' g pm ep sq (xs.set j { xs[j] with st := 5 }) lv lg) ∨
      ((xs.any fun y => lockQ xs[j] y (wroteQ xs[j])) = false ∧ r = .tup [.int .i64 2, .int .i64 0] ∧ EngH h0 h' g pm ep sq (xs.set j { xs[j] with st := 2 }) lv lg)) := by
  have hmem : xs[j] ∈ xs := List.getElem_mem _
  have hne : (xs[j]).st ≠ 5 := by rw [hst]; omega
  obtain ⟨x, ex⟩ : ∃ x, x = xs[j] := ⟨_, rfl⟩
  have hfr : findR xs ((j : Int) + 1) = 0 := by
    unfold findR
    rw [if_pos (by omega), show ((j : Int) + 1 - 1).toNat = j by omega, List.getD_eq_getElem?_getD, List.getElem?_eq_getElem hj, Option.getD_some, if_neg hne]
  rw [← ex] at hst hmem hne
  have xg := k.p_ne hmem
  have T := k.tr x hmem
  obtain ⟨es, rdv, scv, sls, Tx⟩ := k.tr x hmem
  have tr := Tx.row
  rw [hst] at tr
  apply A_go Tryz.func11 rfl (by rfl); (case hn => (simp [Tryz.ntmps11]; rfl))
  repeat(first|with_reducible first|refine vmR ?_|refine vmV rfl ?_|refine vmW rfl ?_|refine vmL ?_|refine blockW_y (by decide) ?_|((with_reducible first|apply vmO|apply vmT|apply vmC);case a=>simp;with_reducible first|exact .v|exact .c|exact .t|exact .f))
  refine A.mono (find_ans h0 h g pm ep sq xs lv lg k ((j : Int) + 1) (by omega) hxl) ?_
  rintro _ h1 ⟨eh, ⟨f1, _⟩ | ⟨_, j', hj', e1, _, rfl⟩⟩
  case inl => exact absurd hfr f1
  rw [eh]
  clear eh h1
  have : j' = j := by omega
  subst this
  rw [← ex]
  refine ⟨_, by simp; first | done | rfl, ?_⟩
  have ph : x.p ≠ h.no := Nat.ne_of_lt Tx.pn
  have gh : g ≠ h.no := Nat.ne_of_lt k.gn
  repeat(first|with_reducible first|refine vmR ?_|refine vmV rfl ?_|refine vmW rfl ?_|refine vmL ?_|refine blockW_y (by decide) ?_|((with_reducible first|apply vmO|apply vmT|apply vmC);case a=>simp [tr, ph, gh];with_reducible first|exact .v|exact .c|exact .t|exact .f))
  refine A_heap ?_
  intro hA hhA
  have eA : HE h hA := by rw [hhA]; exact ((HE.refl h).new _).set (Nat.le_refl _) _
  have gA : Mp.get hA.obj h.no = some (.row [.ptr x.p 0]) := by rw [hhA]; simp
  have nA : h.no < hA.no := by rw [hhA]; exact Nat.lt_succ_self _
  clear hhA
  have kA := k.of eA
  have TA := kA.tr x hmem
  refine A.mono (locked_ans h0 hA g pm ep sq xs lv lg kA x hmem hxl hwl 32 (by simp) [.ptr h.no 0] (wroteQ x) (fun y hy => step1_ans hA x TA h.no gA nA _)) ?_
  rintro _ hB ⟨rfl, eB⟩
  refine ⟨_, by simp; first | done | rfl, ?_⟩
  have kB := kA.of eB
  obtain ⟨esB, rdB, scB, slB, TB⟩ := kB.tr x hmem
  have gB := (eB.obj _ nA).trans gA
  have trB := TB.row
  rw [hst] at trB
  have grB := kB.row
  have nB : h.no ≠ x.p := fun z => ph z.symm
  cases hq : (xs.any fun y => lockQ x y (wroteQ x)) with
  | true =>
    repeat(first|with_reducible first|refine vmR ?_|refine vmV rfl ?_|refine vmW rfl ?_|refine vmL ?_|refine blockW_y (by decide) ?_|((with_reducible first|apply vmO|apply vmT|apply vmC);case a=>simp [gB, trB, nB, ph];with_reducible first|exact .v|exact .c|exact .t|exact .f))
    (first | apply endW_r | apply endW_n); (case h1 => (simp [Tryz.results11]; first | done | rfl))
    refine .inl ⟨rfl, rfl, ?_⟩
    exact kB.st hj ex 5 x.ops TB
  | false =>
    repeat(first|with_reducible first|refine vmR ?_|refine vmV rfl ?_|refine vmW rfl ?_|refine vmL ?_|refine blockW_y (by decide) ?_|((with_reducible first|apply vmO|apply vmT|apply vmC);case a=>simp [gB, trB, nB, ph];with_reducible first|exact .v|exact .c|exact .t|exact .f))
    (first | apply endW_r | apply endW_n); (case h1 => (simp [Tryz.results11]; first | done | rfl))
    refine .inr ⟨rfl, rfl, ?_⟩
    exact kB.st hj ex 2 x.ops TB
set_option maxHeartbeats 1000000 in
theorem step_lock (h0 h : Hp Fm) (g pm : Nat) (ep sq : Int) (xs : List Tr) (lv : AV) (lg : List Nat) (k : EngH h0 h g pm ep sq xs lv lg) (j : Nat) (hj : j < xs.length) (hst : (xs[j]).st = 2) (hxl : xs.length ≤ 1000000) (hsq : 0 ≤ sq ∧ sq ≤ 100000) (vq : Bool)
    (hval : ∀ h1, HE h h1 → A Tryz.prog TT (.func 33) [.ptr g 0, .ptr (xs[j]).p 0] h1 (fun r h' => r = .bool vq ∧ HE h1 h')) :
    A Tryz.prog TT (.func 11) [.ptr g 0, .int .i64 ((j : Int) + 1)] h (fun r h' =>
      (vq = false ∧ r = .tup [.int .i64 5, .int .i64 25] ∧ EngH h0 h' g pm ep sq (xs.set j { xs[j] with st := 5 }) lv lg) ∨
      (vq = true ∧ 100000 ≤ sq ∧ r = .tup [.int .i64 0, .int .i64 27] ∧ EngH h0 h' g pm ep sq xs lv lg) ∨
      (vq = true ∧ sq < 100000 ∧ r = .tup [.int .i64 3, .int .i64 0] ∧ EngH h0 h' g pm ep (sq + 1) (xs.set j { xs[j] with st := 3, at_ := ⟨(xs[j]).br, ep, sq + 1⟩ }) lv lg)) := by
  have hmem : xs[j] ∈ xs := List.getElem_mem _
  have hne : (xs[j]).st ≠ 5 := by rw [hst]; omega
  obtain ⟨x, ex⟩ : ∃ x, x = xs[j] := ⟨_, rfl⟩
  have hfr : findR xs ((j : Int) + 1) = 0 := by
    unfold findR
    rw [if_pos (by omega), show ((j : Int) + 1 - 1).toNat = j by omega, List.getD_eq_getElem?_getD, List.getElem?_eq_getElem hj, Option.getD_some, if_neg hne]
  rw [← ex] at hst hmem hne
  have xg := k.p_ne hmem
  have T := k.tr x hmem
  obtain ⟨es, rdv, scv, sls, Tx⟩ := k.tr x hmem
  have tr := Tx.row
  rw [hst] at tr
  apply A_go Tryz.func11 rfl (by rfl); (case hn => (simp [Tryz.ntmps11]; rfl))
  repeat(first|with_reducible first|refine vmR ?_|refine vmV rfl ?_|refine vmW rfl ?_|refine vmL ?_|refine blockW_y (by decide) ?_|((with_reducible first|apply vmO|apply vmT|apply vmC);case a=>simp;with_reducible first|exact .v|exact .c|exact .t|exact .f))
  refine A.mono (find_ans h0 h g pm ep sq xs lv lg k ((j : Int) + 1) (by omega) hxl) ?_
  rintro _ h1 ⟨eh, ⟨f1, _⟩ | ⟨_, j', hj', e1, _, rfl⟩⟩
  case inl => exact absurd hfr f1
  rw [eh]
  clear eh h1
  have : j' = j := by omega
  subst this
  rw [← ex]
  refine ⟨_, by simp; first | done | rfl, ?_⟩
  have ph : x.p ≠ h.no := Nat.ne_of_lt Tx.pn
  have gh : g ≠ h.no := Nat.ne_of_lt k.gn
  rw [← ex] at hval
  repeat(first|with_reducible first|refine vmR ?_|refine vmV rfl ?_|refine vmW rfl ?_|refine vmL ?_|refine blockW_y (by decide) ?_|((with_reducible first|apply vmO|apply vmT|apply vmC);case a=>simp [tr, ph, gh];with_reducible first|exact .v|exact .c|exact .t|exact .f))
  refine A_heap ?_
  intro hA hhA
  have eA : HE h hA := by rw [hhA]; exact ((HE.refl h).new _).set (Nat.le_refl _) _
  have gA : Mp.get hA.obj h.no = some (.row [.ptr x.p 0]) := by rw [hhA]; simp
  have nA : h.no < hA.no := by rw [hhA]; exact Nat.lt_succ_self _
  clear hhA
  have kA := k.of eA
  refine A.mono (hval hA eA) ?_
  rintro _ hB ⟨rfl, eB⟩
  refine ⟨_, by simp; first | done | rfl, ?_⟩
  have kB := kA.of eB
  obtain ⟨esB, rdB, scB, slB, TB⟩ := kB.tr x hmem
  have gB := (eB.obj _ nA).trans gA
  have trB := TB.row
  rw [hst] at trB
  have grB := kB.row
  have nB : h.no ≠ x.p := fun z => ph z.symm
  have nG : h.no ≠ g := fun z => gh z.symm
  have xg1 := xg.1
  have xg2 : g ≠ x.p := fun e => xg.1 e.symm
  cases vq with
  | false =>
    repeat(first|with_reducible first|refine vmR ?_|refine vmV rfl ?_|refine vmW rfl ?_|refine vmL ?_|refine blockW_y (by decide) ?_|((with_reducible first|apply vmO|apply vmT|apply vmC);case a=>simp [gB, trB, nB, ph];with_reducible first|exact .v|exact .c|exact .t|exact .f))
    (first | apply endW_r | apply endW_n); (case h1 => (simp [Tryz.results11]; first | done | rfl))
    exact .inl ⟨rfl, rfl, kB.st hj ex 5 x.ops TB⟩
  | true =>
    by_cases q : 100000 ≤ sq
    · repeat(first|with_reducible first|refine vmR ?_|refine vmV rfl ?_|refine vmW rfl ?_|refine vmL ?_|refine blockW_y (by decide) ?_|((with_reducible first|apply vmO|apply vmT|apply vmC);case a=>simp [gB, trB, nB, ph, grB, q];with_reducible first|exact .v|exact .c|exact .t|exact .f))
      (first | apply endW_r | apply endW_n); (case h1 => (simp [Tryz.results11]; first | done | rfl))
      exact .inr (.inl ⟨rfl, q, rfl, kB⟩)
    · have w1 : IntKind.i64.wrap (sq + 1) = sq + 1 := wrap64 (by omega) (by omega)
      repeat(first|with_reducible first|refine vmR ?_|refine vmV rfl ?_|refine vmW rfl ?_|refine vmL ?_|refine blockW_y (by decide) ?_|((with_reducible first|apply vmO|apply vmT|apply vmC);case a=>simp [gB, trB, nB, nG, ph, gh, xg1, xg2, grB, q, w1];with_reducible first|exact .v|exact .c|exact .t|exact .f))
      (with_reducible refine W_draw_id (pln := true) [0, 1, 2, 3, 4, 5, 6, 7, 8, 9, 10, 11, 12, 13, 14, 15, 16] [(0, (0, [])), (1, (1, [])), (4, (4, [])), (8, (8, [])), (12, (12, []))] (by kernel_rfl) rfl ?_)
      repeat(first|with_reducible first|refine vmR ?_|refine vmV rfl ?_|refine vmW rfl ?_|refine vmL ?_|refine blockW_y (by decide) ?_|((with_reducible first|apply vmO|apply vmT|apply vmC);case a=>simp [gB, trB, nB, nG, ph, gh, xg1, xg2, grB, q, w1];with_reducible first|exact .v|exact .c|exact .t|exact .f))
      refine ⟨by simp [readSame, beqAV_self, gB, trB, nB, nG, ph, gh, xg1, xg2, grB, q, w1]; done, _, by simp; first | done | rfl, ?_⟩
      repeat(first|with_reducible first|refine vmR ?_|refine vmV rfl ?_|refine vmW rfl ?_|refine vmL ?_|refine blockW_y (by decide) ?_|((with_reducible first|apply vmO|apply vmT|apply vmC);case a=>simp [gB, trB, nB, nG, ph, gh, xg1, xg2, grB, q, w1];with_reducible first|exact .v|exact .c|exact .t|exact .f))
      (first | apply endW_r | apply endW_n); (case h1 => (simp [Tryz.results11]; first | done | rfl))
      refine .inr (.inr ⟨rfl, by omega, rfl, ?_⟩)
      exact kB.st2 hj ex 3 x.ops ⟨x.br, ep, sq + 1⟩ TB rfl rfl rfl rfl (fun o o1 o2 => by simp [o1, o2, Hp.drew]) (by simp [xg1, xg2, Hp.drew]) (by simp [xg1, xg2, Hp.drew])

theorem step_valid (h0 h : Hp Fm) (g pm : Nat) (ep sq : Int) (xs : List Tr) (lv : AV) (lg : List Nat) (k : EngH h0 h g pm ep sq xs lv lg) (j : Nat) (hj : j < xs.length) (hst : (xs[j]).st = 3) (hxl : xs.length ≤ 1000000) (P : Hp Fm → Prop) (hP : ∀ h1 r, P h1 → P { h1 with obj := Mp.set h1.obj (xs[j]).p r })
    (hins : ∀ h1, HE h h1 → A Tryz.prog TT (.func 34) [.ptr g 0, .ptr (xs[j]).p 0] h1 (fun _ h' => EngH h0 h' g pm ep sq xs lv lg ∧ P h' ∧ ∀ o, h.no ≤ o → o < h1.no → Mp.get h'.obj o = Mp.get h1.obj o)) :
    A Tryz.prog TT (.func 11) [.ptr g 0, .int .i64 ((j : Int) + 1)] h (fun r h' => r = .tup [.int .i64 4, .int .i64 0] ∧ EngH h0 h' g pm ep sq (xs.set j { xs[j] with st := 4 }) lv lg ∧ P h') := by
  have hmem : xs[j] ∈ xs := List.getElem_mem _
  have hne : (xs[j]).st ≠ 5 := by rw [hst]; omega
  obtain ⟨x, ex⟩ : ∃ x, x = xs[j] := ⟨_, rfl⟩
  have hfr : findR xs ((j : Int) + 1) = 0 := by
    unfold findR
    rw [if_pos (by omega), show ((j : Int) + 1 - 1).toNat = j by omega, List.getD_eq_getElem?_getD, List.getElem?_eq_getElem hj, Option.getD_some, if_neg hne]
  rw [← ex] at hst hmem hne
  have xg := k.p_ne hmem
  have T := k.tr x hmem
  obtain ⟨es, rdv, scv, sls, Tx⟩ := k.tr x hmem
  have tr := Tx.row
  rw [hst] at tr
  apply A_go Tryz.func11 rfl (by rfl); (case hn => (simp [Tryz.ntmps11]; rfl))
  repeat(first|with_reducible first|refine vmR ?_|refine vmV rfl ?_|refine vmW rfl ?_|refine vmL ?_|refine blockW_y (by decide) ?_|((with_reducible first|apply vmO|apply vmT|apply vmC);case a=>simp;with_reducible first|exact .v|exact .c|exact .t|exact .f))
  refine A.mono (find_ans h0 h g pm ep sq xs lv lg k ((j : Int) + 1) (by omega) hxl) ?_
  rintro _ h1 ⟨eh, ⟨f1, _⟩ | ⟨_, j', hj', e1, _, rfl⟩⟩
  case inl => exact absurd hfr f1
  rw [eh]
  clear eh h1
  have : j' = j := by omega
  subst this
  rw [← ex]
  refine ⟨_, by simp; first | done | rfl, ?_⟩
  have ph : x.p ≠ h.no := Nat.ne_of_lt Tx.pn
  have gh : g ≠ h.no := Nat.ne_of_lt k.gn
  rw [← ex] at hins hP
  repeat(first|with_reducible first|refine vmR ?_|refine vmV rfl ?_|refine vmW rfl ?_|refine vmL ?_|refine blockW_y (by decide) ?_|((with_reducible first|apply vmO|apply vmT|apply vmC);case a=>simp [tr, ph, gh];with_reducible first|exact .v|exact .c|exact .t|exact .f))
  refine A_heap ?_
  intro hA hhA
  have eA : HE h hA := by rw [hhA]; exact ((HE.refl h).new _).set (Nat.le_refl _) _
  have gA : Mp.get hA.obj h.no = some (.row [.ptr x.p 0]) := by rw [hhA]; simp
  have nA : h.no < hA.no := by rw [hhA]; exact Nat.lt_succ_self _
  clear hhA
  refine A.mono (hins hA eA) ?_
  rintro _ hB ⟨kB, pB, oB⟩
  refine ⟨_, by simp; first | done | rfl, ?_⟩
  obtain ⟨esB, rdB, scB, slB, TB⟩ := kB.tr x hmem
  have gB := (oB _ (Nat.le_refl _) nA).trans gA
  have trB := TB.row
  rw [hst] at trB
  have nB : h.no ≠ x.p := fun z => ph z.symm
  repeat(first|with_reducible first|refine vmR ?_|refine vmV rfl ?_|refine vmW rfl ?_|refine vmL ?_|refine blockW_y (by decide) ?_|((with_reducible first|apply vmO|apply vmT|apply vmC);case a=>simp [gB, trB, nB, ph];with_reducible first|exact .v|exact .c|exact .t|exact .f))
  (first | apply endW_r | apply endW_n); (case h1 => (simp [Tryz.results11]; first | done | rfl))
  exact ⟨rfl, kB.st hj ex 4 x.ops TB, hP _ _ pB⟩
end Go.Vn

set_option maxRecDepth 20000
namespace Go.Vn
open Go.Proofs

theorem valid_nil (h : Hp Fm) (g : Nat) (x : Tr) (T : TrI h x) (h1 : x.rd = []) (h2 : x.sc = []) :
    A Tryz.prog TT (.func 33) [.ptr g 0, .ptr x.p 0] h (fun r h' => r = .bool true ∧ HE h h') := by
  obtain ⟨es, rdv, scv, sls, Tx⟩ := T
  have tr := Tx.row
  have r1 := Tx.rd.sv
  rw [h1] at r1
  have s1 := Tx.scr
  rw [h2] at s1
  have s2 : sls = [] := by cases sls with
    | nil => rfl
    | cons _ _ => exact s1.elim
  have s3 := Tx.sc.sv
  rw [s2] at s3
  have l1 := r1.len Tryz.underlying80
  have n1 := r1.nm
  have c1 := r1.cells
  have i1 := r1.isCell
  have l2 := s3.len Tryz.underlying81
  have n2 := s3.nm
  have c2 := s3.cells
  have i2 := s3.isCell
  simp only [List.map_nil, List.length_nil, Int.ofNat_zero] at l1 l2
  apply A_go Tryz.func33 rfl (by rfl); (case hn => (simp [Tryz.ntmps33]; rfl))
  repeat(first|with_reducible first|refine vmR ?_|refine vmV rfl ?_|refine vmW rfl ?_|refine vmL ?_|refine blockW_y (by decide) ?_|((with_reducible first|apply vmO|apply vmT|apply vmC);case a=>simp [tr, l1, n1, c1, i1, l2, n2, c2, i2];with_reducible first|exact .v|exact .c|exact .t|exact .f))
  refine W_loop_i ?_
  repeat(first|with_reducible first|refine vmR ?_|refine vmV rfl ?_|refine vmW rfl ?_|refine vmL ?_|refine blockW_y (by decide) ?_|((with_reducible first|apply vmO|apply vmT|apply vmC);case a=>simp [tr, l2, n2, c2, i2];with_reducible first|exact .v|exact .c|exact .t|exact .f))
  refine W_loop_i ?_
  repeat(first|with_reducible first|refine vmR ?_|refine vmV rfl ?_|refine vmW rfl ?_|refine vmL ?_|refine blockW_y (by decide) ?_|((with_reducible first|apply vmO|apply vmT|apply vmC);case a=>simp;with_reducible first|exact .v|exact .c|exact .t|exact .f))
  (first | apply endW_r | apply endW_n); (case h1 => (simp [Tryz.results33]; first | done | rfl))
  exact ⟨rfl, HE.refl _⟩
end Go.Vn

set_option maxRecDepth 20000
namespace Go.Vn
open Go.Proofs

theorem sorts_nil (h0 : Hp Fm) : A Tryz.prog TT (.func 88) [.nils] h0 (fun _ h' => h' = h0) := by
  have ins : ∀ h, A Tryz.prog TT (.func 125) [.nils, .int .i64 0, .int .i64 0] h (fun _ h' => h' = h) := fun h => by
    apply A_go Tryz.func125 rfl (by rfl); (case hn => (simp [Tryz.ntmps125]; rfl))
    repeat(first|with_reducible first|refine vmR ?_|refine vmV rfl ?_|refine vmW rfl ?_|refine vmL ?_|refine blockW_y (by decide) ?_|((with_reducible first|apply vmO|apply vmT|apply vmC);case a=>simp;with_reducible first|exact .v|exact .c|exact .t|exact .f))
    refine W_loop_i ?_
    repeat(first|with_reducible first|refine vmR ?_|refine vmV rfl ?_|refine vmW rfl ?_|refine vmL ?_|refine blockW_y (by decide) ?_|((with_reducible first|apply vmO|apply vmT|apply vmC);case a=>simp;with_reducible first|exact .v|exact .c|exact .t|exact .f))
    (first | apply endW_r | apply endW_n); (case h1 => (simp [Tryz.results125]; first | done | rfl))
    rfl
  have pd : ∀ (v : Int) (h : Hp Fm), A Tryz.prog TT (.func 111) [.nils, .int .i64 0, .int .i64 0, .int .i64 v] h (fun _ h' => h' = h) := fun v h => by
    apply A_go Tryz.func111 rfl (by rfl); (case hn => (simp [Tryz.ntmps111]; rfl))
    repeat(first|with_reducible first|refine vmR ?_|refine vmV rfl ?_|refine vmW rfl ?_|refine vmL ?_|refine blockW_y (by decide) ?_|((with_reducible first|apply vmO|apply vmT|apply vmC);case a=>simp;with_reducible first|exact .v|exact .c|exact .t|exact .f))
    refine W_loop_i ?_
    repeat(first|with_reducible first|refine vmR ?_|refine vmV rfl ?_|refine vmW rfl ?_|refine vmL ?_|refine blockW_y (by decide) ?_|((with_reducible first|apply vmO|apply vmT|apply vmC);case a=>simp;with_reducible first|exact .v|exact .c|exact .t|exact .f))
    refine A.mono (ins h) ?_
    rintro r _ rfl
    refine ⟨_, by simp; first | done | rfl, ?_⟩
    repeat(first|with_reducible first|refine vmR ?_|refine vmV rfl ?_|refine vmW rfl ?_|refine vmL ?_|refine blockW_y (by decide) ?_|((with_reducible first|apply vmO|apply vmT|apply vmC);case a=>simp;with_reducible first|exact .v|exact .c|exact .t|exact .f))
    (first | apply endW_r | apply endW_n); (case h1 => (simp [Tryz.results111]; first | done | rfl))
    rfl
  have w1 : IntKind.u64.wrap 0 = 0 := by rfl
  apply A_go Tryz.func88 rfl (by rfl); (case hn => (simp [Tryz.ntmps88]; rfl))
  repeat(first|with_reducible first|refine vmR ?_|refine vmV rfl ?_|refine vmW rfl ?_|refine vmL ?_|refine blockW_y (by decide) ?_|((with_reducible first|apply vmO|apply vmT|apply vmC);case a=>simp [w1];with_reducible first|exact .v|exact .c|exact .t|exact .f))
  refine A.mono (bitslen_ans 0 (by omega) h0) ?_
  rintro _ hh ⟨v, rfl, v1, v2, _, ehh⟩
  rw [ehh]
  refine ⟨_, by simp; first | done | rfl, ?_⟩
  repeat(first|with_reducible first|refine vmR ?_|refine vmV rfl ?_|refine vmW rfl ?_|refine vmL ?_|refine blockW_y (by decide) ?_|((with_reducible first|apply vmO|apply vmT|apply vmC);case a=>simp;with_reducible first|exact .v|exact .c|exact .t|exact .f))
  refine A.mono (pd v h0) ?_
  rintro r _ rfl
  refine ⟨_, by simp; first | done | rfl, ?_⟩
  repeat(first|with_reducible first|refine vmR ?_|refine vmV rfl ?_|refine vmW rfl ?_|refine vmL ?_|refine blockW_y (by decide) ?_|((with_reducible first|apply vmO|apply vmT|apply vmC);case a=>simp;with_reducible first|exact .v|exact .c|exact .t|exact .f))
  (first | apply endW_r | apply endW_n); (case h1 => (simp [Tryz.results88]; first | done | rfl))
  rfl

def Rising (l : List Tx) : Prop := SortR ltB l 0 l.length

theorem fitS (l : List Tx) : ∀ e ∈ l.map AV.str, Fit false 1 e := fun e he => by obtain ⟨x, _, rfl⟩ := List.mem_map.mp he; exact .inr ⟨rfl, rfl, rfl, rfl⟩
theorem clsE_str (l : List Tx) : clsE AV.str l = l.map AV.str := by
  induction l with
  | nil => rfl
  | cons a l ih => simp [clsE] at ih ⊢; exact ih
theorem flat_str (l : List Tx) : (l.map AV.str).flatMap AV.cells = l.map AV.str := by
  induction l with
  | nil => rfl
  | cons a l ih => simp [AV.cells] at ih ⊢; exact ih

set_option maxHeartbeats 1000000 in
theorem sorted_ans (bx m clk : Nat) (es : List (AV × AV × Nat)) (hlt : ∀ e ∈ es, e.2.2 < clk) (hnd : (es.map (·.2.2)).Nodup) (ks : AV × AV × Nat → List UInt8) (hkc : ∀ e ∈ es, e.1 = .str (ks e)) (hlen : es.length ≤ 60000) (h0 : Hp Fm) (hb : Mp.get h0.obj bx = some (.row [.mp m])) (hm : Mp.get h0.obj m = some (.mp es clk)) (bn : bx < h0.no) (mn : m < h0.no) :
    A Tryz.prog TT (.func 65) [.fn (.func 87) [] [.ptr bx 0]] h0 (fun r h' => ∃ l : List Tx, SV 1 (l.map AV.str) r ∧ l.Perm (es.map ks) ∧ Rising l ∧ HE h0 h') := by
  obtain ⟨ha, hha⟩ : ∃ ha : Hp Fm, ha = { h0 with pol := (· == 9) } := ⟨_, rfl⟩
  have hpa : ha.pol 9 = true := by rw [hha]; rfl
  have hba : Mp.get ha.obj bx = some (.row [.mp m]) := by rw [hha]; exact hb
  have hma : Mp.get ha.obj m = some (.mp es clk) := by rw [hha]; exact hm
  have hno : ha.no = h0.no := by rw [hha]
  have f0 : ∀ h' : Hp Fm, HE ha h' → HE h0 { h' with pol := h0.pol } := fun h' k => ⟨by have := k.no; rw [hha] at this; exact this, by have := k.ng; rw [hha] at this; exact this, rfl, by have := k.obj; rw [hha] at this; exact this, by have := k.len; rw [hha] at this; exact this⟩
  have coll : A Tryz.prog TT (.func 59) [.fn (.func 87) [] [.ptr bx 0]] ha (fun r h' => ∃ done : List (AV × AV × Nat), done.Perm es ∧ RS ha.no h' 1 false (done.map (·.1)) r ∧ HE ha h') := by
    apply A_go Tryz.func59 rfl (by rfl); (case hn => (simp [Tryz.ntmps59]; rfl))
    repeat(first|with_reducible first|refine vmR ?_|refine vmV rfl ?_|refine vmW rfl ?_|refine vmL ?_|refine blockW_y (by decide) ?_|((with_reducible first|apply vmO|apply vmT|apply vmC);case a=>simp;with_reducible first|exact .v|exact .c|exact .t|exact .f))
    refine A.mono (appseq_ans bx m clk es hlt hnd ks hkc hlen ha hpa hba hma (by omega) (by omega)) ?_
    rintro r h1 ⟨done, d1, d2, d3⟩
    have c1 := d2.cells
    have c2 := d2.isCell
    refine ⟨_, by simp; first | done | rfl, ?_⟩
    repeat(first|with_reducible first|refine vmR ?_|refine vmV rfl ?_|refine vmW rfl ?_|refine vmL ?_|refine blockW_y (by decide) ?_|((with_reducible first|apply vmO|apply vmT|apply vmC);case a=>simp [c1, c2];with_reducible first|exact .v|exact .c|exact .t|exact .f))
    (first | apply endW_r | apply endW_n); (case h1 => (simp [Tryz.results59]; first | done | rfl))
    exact ⟨done, d1, d2, d3⟩
  apply A_goT Tryz.func65 rfl (by rfl); (case hn => (simp [Tryz.ntmps65]; rfl))
  repeat(first|with_reducible first|refine vmR ?_|refine vmV rfl ?_|refine vmW rfl ?_|refine vmL ?_|refine blockW_y (by decide) ?_|((with_reducible first|apply vmO|apply vmT|apply vmC);case a=>simp;with_reducible first|exact .v|exact .c|exact .t|exact .f))
  rw [← hha]
  refine A.mono coll ?_
  rintro r h1 ⟨done, d1, d2, d3⟩
  have c1 := d2.cells
  have c2 := d2.isCell
  refine ⟨_, by simp; first | done | rfl, ?_⟩
  have dk : done.map (·.1) = (done.map ks).map AV.str := by
    rw [List.map_map]
    exact List.map_congr_left fun e he => hkc e (d1.mem_iff.mp he)
  rw [dk] at d2
  have dl : (done.map ks).length = es.length := by rw [List.length_map, d1.length_eq]
  have dp : (done.map ks).Perm (es.map ks) := d1.map ks
  obtain ⟨l0, hl0⟩ : ∃ l0, l0 = done.map ks := ⟨_, rfl⟩
  rw [← hl0] at d2 dl dp
  clear hl0 dk d1 done
  rcases d2 with ⟨rfl, e⟩ | ⟨o, cap, rfl, hlo, ⟨J, h2, h3⟩, hc, ho⟩
  · have hl0 : l0 = [] := by simpa using e
    subst hl0
    repeat(first|with_reducible first|refine vmR ?_|refine vmV rfl ?_|refine vmW rfl ?_|refine vmL ?_|refine blockW_y (by decide) ?_|((with_reducible first|apply vmO|apply vmT|apply vmC);case a=>simp;with_reducible first|exact .v|exact .c|exact .t|exact .f))
    refine A.mono (sorts_nil h1) ?_
    rintro r _ rfl
    refine ⟨_, by simp; first | done | rfl, ?_⟩
    repeat(first|with_reducible first|refine vmR ?_|refine vmV rfl ?_|refine vmW rfl ?_|refine vmL ?_|refine blockW_y (by decide) ?_|((with_reducible first|apply vmO|apply vmT|apply vmC);case a=>simp;with_reducible first|exact .v|exact .c|exact .t|exact .f))
    (first | apply endW_r | apply endW_n); (case h1 => (simp [Tryz.results65]; first | done | rfl))
    exact ⟨[], .inl ⟨rfl, rfl⟩, dp, fun i j h1 h2 h3 => by simp at h3, f0 _ d3⟩
  · obtain ⟨n, hn⟩ : ∃ n, n = (l0.map AV.str).length := ⟨_, rfl⟩
    rw [← hn] at h3 hc ⊢
    rw [List.length_map] at hn
    repeat(first|with_reducible first|refine vmR ?_|refine vmV rfl ?_|refine vmW rfl ?_|refine vmL ?_|refine blockW_y (by decide) ?_|((with_reducible first|apply vmO|apply vmT|apply vmC);case a=>simp;with_reducible first|exact .v|exact .c|exact .t|exact .f))
    rw [flat_str, ← clsE_str] at h2
    refine A.mono (sorts_ans o n cap J l0 hn.symm (by omega) h1 ⟨h2, HX.refl _ _ _, ho⟩) ?_
    rintro r h4 ⟨l4, k4, p4, s4⟩
    have hll : l4.length = n := p4.len.trans hn.symm
    refine ⟨_, by simp; first | done | rfl, ?_⟩
    repeat(first|with_reducible first|refine vmR ?_|refine vmV rfl ?_|refine vmW rfl ?_|refine vmL ?_|refine blockW_y (by decide) ?_|((with_reducible first|apply vmO|apply vmT|apply vmC);case a=>simp;with_reducible first|exact .v|exact .c|exact .t|exact .f))
    (first | apply endW_r | apply endW_n); (case h1 => (simp [Tryz.results65]; first | done | rfl))
    have k5 : RS o h4 1 false (l4.map AV.str) (.rs o 0 1 false n cap) := .inr ⟨o, cap, by rw [List.length_map, hll], Nat.le_refl _, ⟨J, by rw [flat_str, ← clsE_str]; exact k4.row, by rw [List.length_map, hll]; exact h3⟩, by rw [List.length_map, hll]; exact hc, Nat.lt_of_lt_of_le ho k4.hx.no⟩
    obtain ⟨z1, z2⟩ := k5.frz (fitS l4) (by omega) (fun _ => rfl)
    refine ⟨l4, z1, p4.perm.trans dp, by unfold Rising; rw [hll]; exact s4, ?_⟩
    refine f0 _ ((d3.x2 k4.hx (fun q e => by omega) (fun _ z => z.elim)).x2 z2 (fun q hq => by have := k5.rows q hq; omega) (fun _ z => z.elim))

end Go.Vn

set_option maxRecDepth 20000
namespace Go.Vn
open Go.Proofs

theorem MemE.lo {h : Hp Fm} {pm lo lo' : Nat} {bs : List Br} (k : MemE h pm bs lo) (e : lo' ≤ lo) : MemE h pm bs lo' := by
  obtain ⟨ok, pc, pl, pn, po, bv, a1, a2, a3, a4, a5, a6, b1, b2, b3, b4, b5, c1, c2, c3, c4, c5⟩ := k
  exact ⟨ok, pc, pl, pn, po, bv, a1, a2, a3, a4, a5, RS.lo a6 e, b1, b2, b3, b4, b5, by omega, by omega, by omega, by omega, by omega⟩

theorem obegin_ans (h0 : Hp Fm) (hp : h0.pol 93 = true) :
    A Tryz.prog TT (.func 8) [.nils] h0 (fun r h' => ∃ g e pm bs, r = .tup [.ptr g 0, .ptr e 0, .ptr pm 0] ∧ EngH h0 h' g pm 1 0 [] .nils [] ∧ MemE h' pm bs h0.no ∧ bs.length ≤ 8 ∧ g ≠ pm) := by
  apply A_go Tryz.func8 rfl (by rfl); (case hn => (simp [Tryz.ntmps8]; rfl))
  repeat(first|with_reducible first|refine vmR ?_|refine vmV rfl ?_|refine vmW rfl ?_|refine vmL ?_|refine blockW_y (by decide) ?_|((with_reducible first|apply vmO|apply vmT|apply vmC);case a=>simp;with_reducible first|exact .v|exact .c|exact .t|exact .f))
  refine A.mono (good11_ans [] .nils (.inl ⟨rfl, rfl⟩) (fun _ h => by cases h) h0 hp) ?_
  rintro v h1 ⟨bs, ok, bl, fl, rs, e1⟩
  have vc := rs.cells
  have vi := rs.isCell
  refine ⟨_, by simp; first | done | rfl, ?_⟩
  repeat(first|with_reducible first|refine vmR ?_|refine vmV rfl ?_|refine vmW rfl ?_|refine vmL ?_|refine blockW_y (by decide) ?_|((with_reducible first|apply vmO|apply vmT|apply vmC);case a=>simp [vc, vi];with_reducible first|exact .v|exact .c|exact .t|exact .f))
  refine A.mono (newmem_ans h0.no bs v ok h1 rs e1.no (by rw [e1.pol]; exact hp)) ?_
  rintro _ h2 ⟨pm, rfl, me, e2⟩
  refine ⟨_, by simp; first | done | rfl, ?_⟩
  have new : A Tryz.prog TT (.func 28) [.ifc 25 (.ptr pm 0), .int .i64 1] h2 (fun r h' => r = .ptr h2.no 0 ∧ Mp.get h'.obj h2.no = some (.row [.ifc 25 (.ptr pm 0), .int .i64 1, .int .i64 0, .nils]) ∧ h'.no = h2.no + 1 ∧ HE h2 h') := by
    apply A_go Tryz.func28 rfl (by rfl); (case hn => (simp [Tryz.ntmps28]; rfl))
    repeat(first|with_reducible first|refine vmR ?_|refine vmV rfl ?_|refine vmW rfl ?_|refine vmL ?_|refine blockW_y (by decide) ?_|((with_reducible first|apply vmO|apply vmT|apply vmC);case a=>simp;with_reducible first|exact .v|exact .c|exact .t|exact .f))
    (first | apply endW_r | apply endW_n); (case h1 => (simp [Tryz.results28]; first | done | rfl))
    exact ⟨rfl, by simp, rfl, (HE.refl h2).new _⟩
  repeat(first|with_reducible first|refine vmR ?_|refine vmV rfl ?_|refine vmW rfl ?_|refine vmL ?_|refine blockW_y (by decide) ?_|((with_reducible first|apply vmO|apply vmT|apply vmC);case a=>simp [eqlAV];with_reducible first|exact .v|exact .c|exact .t|exact .f))
  refine A.mono new ?_
  rintro _ h3 ⟨rfl, gr, n3, e3⟩
  refine ⟨_, by simp; first | done | rfl, ?_⟩
  repeat(first|with_reducible first|refine vmR ?_|refine vmV rfl ?_|refine vmW rfl ?_|refine vmL ?_|refine blockW_y (by decide) ?_|((with_reducible first|apply vmO|apply vmT|apply vmC);case a=>simp [vc, vi];with_reducible first|exact .v|exact .c|exact .t|exact .f))
  (first | apply endW_r | apply endW_n); (case h1 => (simp [Tryz.results8]; first | done | rfl))
  have pmn : pm < h2.no := by obtain ⟨_, _, _, _, _, _, _, _, _, _, _, _, z, _⟩ := me; exact z
  have e4 : ∀ r, HE h3 { h3 with obj := Mp.set h3.obj h3.no r, no := h3.no + 1 } := fun r => (HE.refl h3).new _
  refine ⟨h2.no, h3.no, pm, bs, rfl, ⟨?_, .inl ⟨rfl, rfl, rfl⟩, (fun x hx => by cases hx), by simp [objsT], by simp [grpsT], ?_, ?_, ?_, (e1.trans (e2.trans e3)).trans (e4 _)⟩, ?_, bl, by omega⟩
  · exact ((e4 _).obj _ (by omega)).trans gr
  · show h2.no < h3.no + 1; omega
  · intro o ho
    simp [objsT] at ho
    rw [ho]
    exact Nat.le_trans e1.no e2.no
  · intro q hq; simp [grpsT] at hq
  · exact MemE.lo (me.he (e3.trans (e4 _))) e1.no
end Go.Vn

set_option maxRecDepth 20000
namespace Go.Vn
open Go.Proofs

theorem install_nil (h : Hp Fm) (g : Nat) (x : Tr) (T : TrI h x) (h1 : x.wr = []) :
    A Tryz.prog TT (.func 34) [.ptr g 0, .ptr x.p 0] h (fun _ h' => HE h h') := by
  obtain ⟨es, rdv, scv, sls, Tx⟩ := T
  have tr := Tx.row
  have en := Tx.en
  rw [h1] at en
  have e0 : es = [] := by cases es with
    | nil => rfl
    | cons _ _ => exact en.elim
  have tm := Tx.map
  rw [e0] at tm
  have mn := Tx.mn
  apply A_go Tryz.func34 rfl (by rfl); (case hn => (simp [Tryz.ntmps34]; rfl))
  repeat(first|with_reducible first|refine vmR ?_|refine vmV rfl ?_|refine vmW rfl ?_|refine vmL ?_|refine blockW_y (by decide) ?_|((with_reducible first|apply vmO|apply vmT|apply vmC);case a=>simp [tr];with_reducible first|exact .v|exact .c|exact .t|exact .f))
  refine A.mono (keysof_ans x.m _) ?_
  rintro _ h2 ⟨rfl, gk, hk, e2⟩
  refine ⟨_, by simp; first | done | rfl, ?_⟩
  repeat(first|with_reducible first|refine vmR ?_|refine vmV rfl ?_|refine vmW rfl ?_|refine vmL ?_|refine blockW_y (by decide) ?_|((with_reducible first|apply vmO|apply vmT|apply vmC);case a=>simp;with_reducible first|exact .v|exact .c|exact .t|exact .f))
  refine A.mono (sorted_ans h.no x.m x.clk [] (fun e he => by cases he) (by simp) kstr (fun e he => by cases he) (by simp) h2 gk ((e2.obj _ mn).trans tm) (by omega) (by omega)) ?_
  rintro v h3 ⟨l, sv, pm, _, e3⟩
  have l0 : l = [] := by simpa using pm
  subst l0
  have ll := sv.len Tryz.underlying113
  have ln := sv.nm
  have lc := sv.cells
  have li := sv.isCell
  simp only [List.map_nil, List.length_nil, Int.ofNat_zero] at ll
  refine ⟨_, by simp; first | done | rfl, ?_⟩
  repeat(first|with_reducible first|refine vmR ?_|refine vmV rfl ?_|refine vmW rfl ?_|refine vmL ?_|refine blockW_y (by decide) ?_|((with_reducible first|apply vmO|apply vmT|apply vmC);case a=>simp [ll, ln, lc, li];with_reducible first|exact .v|exact .c|exact .t|exact .f))
  refine W_loop_i ?_
  repeat(first|with_reducible first|refine vmR ?_|refine vmV rfl ?_|refine vmW rfl ?_|refine vmL ?_|refine blockW_y (by decide) ?_|((with_reducible first|apply vmO|apply vmT|apply vmC);case a=>simp;with_reducible first|exact .v|exact .c|exact .t|exact .f))
  (first | apply endW_r | apply endW_n); (case h1 => (simp [Tryz.results34]; first | done | rfl))
  exact e2.trans e3
end Go.Vn

set_option maxRecDepth 20000
namespace Go.Vn
open Go.Proofs

structure Cl where
  k : Int
  id : Int
  t : Int
  key : Bs
  to : Bs
  f : Int
  u : Int
  v : Bs
deriving Inhabited
@[simp] def encC (c : Cl) : AV := .agg [.int .i64 c.k, .int .i64 c.id, .int .i64 c.t, .str c.key, .str c.to, .int .i64 c.f, .int .i64 c.u, .str c.v]
def ClR (c : Cl) : Prop := i64R c.k ∧ i64R c.id ∧ i64R c.t ∧ i64R c.f ∧ i64R c.u

structure Bare (x : Tr) : Prop where
  br : x.br = 0
  wr : x.wr = []
  rd : x.rd = []
  sc : x.sc = []
  s1 : 1 ≤ x.st
  s4 : x.st ≤ 4

theorem bare_lock {x : Tr} {xs : List Tr} (h : ∀ y ∈ xs, Bare y) (q : Bs → Bool) : (xs.any fun y => lockQ x y q) = false := by
  rw [List.any_eq_false]
  intro y hy
  simp [lockQ, keysW, (h y hy).wr]
theorem cntG_set {xs : List Tr} {j : Nat} (hj : j < xs.length) {y : Tr} (h : xs[j].st ≤ y.st) : cntG (xs.set j y) ≤ cntG xs := by
  obtain ⟨l1, l2, s1, s2⟩ := set_split xs j hj y
  rw [s2]
  conv => rhs; rw [s1]
  simp only [cntG, List.filter_append, List.filter_cons, List.length_append]
  have : going y = true → going xs[j] = true := by simp only [going, decide_eq_true_eq]; omega
  split
  · rename_i g1
    rw [if_pos (this g1)]; simp
  · split <;> simp
theorem bare_set {xs : List Tr} {j : Nat} (hj : j < xs.length) (h : ∀ y ∈ xs, Bare y) (st : Int) (at_ : St3) (s1 : 1 ≤ st) (s4 : st ≤ 4) : ∀ y ∈ xs.set j { xs[j] with st := st, at_ := at_ }, Bare y := fun y hy => by
  rcases List.mem_or_eq_of_mem_set hy with hy | rfl
  · exact h y hy
  · have := h _ (List.getElem_mem hj)
    exact ⟨this.br, this.wr, this.rd, this.sc, s1, s4⟩

set_option maxHeartbeats 1000000 in
theorem step_bare (h0 h : Hp Fm) (g pm : Nat) (sq : Int) (xs : List Tr) (lv : AV) (lg : List Nat) (k : EngH h0 h g pm 1 sq xs lv lg) (i : Int) (hi64 : i64R i) (hxl : xs.length ≤ 1000000) (hsq : 0 ≤ sq ∧ sq ≤ 100000) (hb : ∀ x ∈ xs, Bare x) :
    A Tryz.prog TT (.func 11) [.ptr g 0, .int .i64 i] h (fun _ h' => ∃ sq' xs', EngH h0 h' g pm 1 sq' xs' lv lg ∧ (0 ≤ sq' ∧ sq' ≤ 100000) ∧ xs'.length = xs.length ∧ cntG xs' ≤ cntG xs ∧ ∀ x ∈ xs', Bare x) := by
  by_cases hf : findR xs i = 0
  case neg =>
    refine A.mono (step_none h0 h g pm 1 sq xs lv lg k i hi64 hxl hf) ?_
    rintro _ h' ⟨_, e⟩
    exact ⟨sq, xs, k.of e, hsq, rfl, Nat.le_refl _, hb⟩
  have hr : 1 ≤ i ∧ i ≤ xs.length := by
    unfold findR at hf
    split at hf
    · assumption
    · cases hf
  obtain ⟨j, hj⟩ : ∃ j : Nat, i = (j : Int) + 1 := ⟨(i - 1).toNat, by omega⟩
  subst hj
  have hjl : j < xs.length := by omega
  have hbj := hb _ (List.getElem_mem hjl)
  have hs1 := hbj.s1
  have hs4 := hbj.s4
  have hwl : ∀ y ∈ xs, y.wr.length ≤ 60000 := fun y hy => by rw [(hb y hy).wr]; simp
  have hc : xs[j].st = 1 ∨ xs[j].st = 2 ∨ xs[j].st = 3 ∨ xs[j].st = 4 := by omega
  rcases hc with hc | hc | hc | hc
  · refine A.mono (step_open h0 h g pm 1 sq xs lv lg k j hjl hc hxl hwl) ?_
    rw [bare_lock hb]
    rintro _ h' (⟨z, _⟩ | ⟨_, _, k'⟩)
    · cases z
    · exact ⟨sq, _, k', hsq, by simp, cntG_set hjl (by show xs[j].st ≤ 2; omega), bare_set hjl hb 2 xs[j].at_ (by omega) (by omega)⟩
  · refine A.mono (step_lock h0 h g pm 1 sq xs lv lg k j hjl hc hxl hsq true (fun h1 e1 => valid_nil h1 g xs[j] (((k.of e1).tr _ (List.getElem_mem hjl))) hbj.rd hbj.sc)) ?_
    rintro _ h' (⟨z, _⟩ | ⟨_, _, _, k'⟩ | ⟨_, q, _, k'⟩)
    · cases z
    · exact ⟨sq, _, k', hsq, rfl, Nat.le_refl _, hb⟩
    · exact ⟨sq + 1, _, k', by omega, by simp, cntG_set hjl (by show xs[j].st ≤ 3; omega), bare_set hjl hb 3 _ (by omega) (by omega)⟩
  · refine A.mono (step_valid h0 h g pm 1 sq xs lv lg k j hjl hc hxl (fun _ => True) (fun _ _ _ => trivial) (fun h1 e1 => A.mono (install_nil h1 g xs[j] (((k.of e1).tr _ (List.getElem_mem hjl))) hbj.wr) (fun _ h2 e2 => ⟨(k.of e1).of e2, trivial, fun o _ ho => e2.obj o ho⟩))) ?_
    rintro _ h' ⟨_, k', _⟩
    exact ⟨sq, _, k', hsq, by simp, cntG_set hjl (by show xs[j].st ≤ 4; omega), bare_set hjl hb 4 xs[j].at_ (by omega) (by omega)⟩
  · refine A.mono (step_done h0 h g pm 1 sq xs lv lg k j hjl hc hxl) ?_
    rintro _ h' ⟨_, e⟩
    exact ⟨sq, xs, k.of e, hsq, rfl, Nat.le_refl _, hb⟩
end Go.Vn

set_option maxRecDepth 20000
namespace Go.Vn
open Go.Proofs

theorem cnt_st {xs : List Tr} (hb : ∀ x ∈ xs, Bare x) {i : Nat} (hi : i < xs.length) : going xs[i] = (decide (1 ≤ xs[i].st) && decide (xs[i].st ≤ 3)) := by
  have := (hb _ (List.getElem_mem hi)).s1
  rw [Bool.eq_iff_iff]
  simp only [going, Bool.and_eq_true, decide_eq_true_eq]
  omega

theorem eqlBO (d : Nat) (a b : Bool) : eqlAV Tryz.prog (d + 1) 4 (.bool a) (.bool b) = some (a == b) := by simp [eqlAV]

set_option maxHeartbeats 4000000 in
theorem oids_ans (hlives : ∀ h0 : Hp Fm, h0.pol 93 = true → h0.pol 84 = false → A Tryz.prog TT (.func 13) [] h0 (fun r _ => r = .bool true)) (l : List Cl) (v : AV) (hv : SV 8 (l.map encC) v) (hr : ∀ c ∈ l, ClR c) (hz : Hp Fm) :
    A Tryz.prog TT (.func 3) [v] hz (fun r _ => r = .bool true) := by
  have vc := hv.cells
  have vi := hv.isCell
  have vn := hv.nm
  have vl := hv.len Tryz.underlying22
  rw [List.length_map] at vl
  obtain ⟨h0, hh0⟩ : ∃ h0 : Hp Fm, h0 = { hz with pol := (· == 93) } := ⟨_, rfl⟩
  have hp : h0.pol 93 = true := by rw [hh0]; rfl
  have hp2 : h0.pol 84 = false := by rw [hh0]; rfl
  apply A_goT Tryz.func3 rfl (by rfl); (case hn => (simp [Tryz.ntmps3]; rfl))
  repeat(first|with_reducible first|refine vmR ?_|refine vmV rfl ?_|refine vmW rfl ?_|refine vmL ?_|refine blockW_y (by decide) ?_|((with_reducible first|apply vmO|apply vmT|apply vmC);case a=>simp;with_reducible first|exact .v|exact .c|exact .t|exact .f))
  rw [← hh0]
  refine A.mono (obegin_ans h0 hp) ?_
  rintro _ h1 ⟨g, e, pm, bs, rfl, k0, me, bl, gp⟩
  refine ⟨_, by simp; first | done | rfl, ?_⟩
  repeat(first|with_reducible first|refine vmR ?_|refine vmV rfl ?_|refine vmW rfl ?_|refine vmL ?_|refine blockW_y (by decide) ?_|((with_reducible first|apply vmO|apply vmT|apply vmC);case a=>simp [eqlAV];with_reducible first|exact .v|exact .c|exact .t|exact .f))
  refine W.mono (R := fun e s => e = .exit 0 ∧ ∃ (t : Fm AV) (h : Hp Fm), s = ⟨t, 106, h, none⟩ ∧ HE h0 h) ?_ ?_
  · refine W_loop (fun z s => ∃ (t : Fm AV) (h : Hp Fm) (i : Nat) (sq : Int) (xs : List Tr) (lv : AV) (lg : List Nat), s = ⟨t, 106, h, none⟩ ∧ z = 60 - i ∧ i ≤ l.length ∧ i ≤ 60 ∧ xs.length ≤ i ∧ tget t 0 = v ∧ tget t 3 = .ptr g 0 ∧ tget t 6 = .int .i64 xs.length ∧ tget t 7 = .int .i64 i ∧
        EngH h0 h g pm 1 sq xs lv lg ∧ (0 ≤ sq ∧ sq ≤ 100000) ∧ cntG xs ≤ 6 ∧ ∀ x ∈ xs, Bare x) 60
      ⟨_, _, 0, 0, [], .nils, [], rfl, rfl, by omega, by omega, by simp, by simp, by simp, by simp, by simp, k0, by omega, by simp [cntG], by simp⟩ ?_
    rintro _ _ ⟨t, h, i, sq, xs, lv, lg, rfl, rfl, hi, hi6, hxi, t0, t3, t6, t7, k, hsq, hc6, hb⟩
    by_cases q : i < l.length
    case neg =>
      have q' : ¬ ((i : Int) < l.length) := by omega
      repeat(first|with_reducible first|refine vmR ?_|refine vmV rfl ?_|refine vmW rfl ?_|refine vmL ?_|refine blockW_y (by decide) ?_|((with_reducible first|apply vmO|apply vmT|apply vmC);case a=>simp [t0, t7, vl, vn, vc, vi, q, q'];with_reducible first|exact .v|exact .c|exact .t|exact .f))
      exact ⟨rfl, _, _, rfl, k.he⟩
    have q' : (i : Int) < l.length := by omega
    by_cases q6 : i < 60
    case neg =>
      have q6' : ¬ ((i : Int) < 60) := by omega
      repeat(first|with_reducible first|refine vmR ?_|refine vmV rfl ?_|refine vmW rfl ?_|refine vmL ?_|refine blockW_y (by decide) ?_|((with_reducible first|apply vmO|apply vmT|apply vmC);case a=>simp [t0, t7, vl, vn, vc, vi, q, q', q6, q6'];with_reducible first|exact .v|exact .c|exact .t|exact .f))
      exact ⟨rfl, _, _, rfl, k.he⟩
    have q6' : ((i : Int) < 60) := by omega
    obtain ⟨c, hc⟩ : ∃ c, c = l[i] := ⟨_, rfl⟩
    have hcm : c ∈ l := by rw [hc]; exact List.getElem_mem _
    have ixc := hv.idx (k := .i64) (i := (i : Int)) Tryz.underlying22 z35 (by omega) (by rw [List.length_map]; omega)
    have ixc' : indexAddrAV Tryz.prog 22 v (.int .i64 (i : Int)) = some (.el (encC c) 0) := by rw [ixc]; simp [hc]
    have hxl : xs.length ≤ 1000000 := by omega
    obtain ⟨ip, hip⟩ : ∃ ip, ip = i + 1 := ⟨_, rfl⟩
    have wip : IntKind.i64.wrap ((i : Int) + 1) = (ip : Int) := by rw [wrap64 (by omega) (by omega)]; omega
    repeat(first|with_reducible first|refine vmR ?_|refine vmV rfl ?_|refine vmW rfl ?_|refine vmL ?_|refine blockW_y (by decide) ?_|((with_reducible first|apply vmO|apply vmT|apply vmC);case a=>simp [t0, t7, vl, vn, vc, vi, q, q', q6, q6'];with_reducible first|exact .v|exact .c|exact .t|exact .f))
    refine W.mono (R := fun e s => e = .exit 2 ∧ ∃ (t : Fm AV) (h' : Hp Fm), s = ⟨t, 106, h', none⟩ ∧ tget t 0 = v ∧ tget t 3 = .ptr g 0 ∧ tget t 6 = .int .i64 xs.length ∧ tget t 7 = .int .i64 i ∧ tget t 8 = .int .i64 (cntG xs) ∧ HE h h') ?_ ?_
    · refine W_loop (fun z s => ∃ (t : Fm AV) (h' : Hp Fm) (j : Nat), s = ⟨t, 106, h', none⟩ ∧ z = xs.length - j ∧ j ≤ xs.length ∧ tget t 0 = v ∧ tget t 3 = .ptr g 0 ∧ tget t 6 = .int .i64 xs.length ∧ tget t 7 = .int .i64 i ∧ tget t 8 = .int .i64 (cntG (xs.take j)) ∧ tget t 9 = .int .i64 ((j : Int) + 1) ∧ HE h h') xs.length
        ⟨_, _, 0, rfl, rfl, by omega, by simp [t0], by simp [t3], by simp [t6], by simp [t7], by simp [cntG], by simp, HE.refl _⟩ ?_
      rintro _ _ ⟨t, h', j, rfl, rfl, hj, t0, t3, t6, t7, t8, t9, e1⟩
      by_cases qj : j < xs.length
      case neg =>
        have qj' : ¬ ((j : Int) + 1 ≤ xs.length) := by omega
        repeat(first|with_reducible first|refine vmR ?_|refine vmV rfl ?_|refine vmW rfl ?_|refine vmL ?_|refine blockW_y (by decide) ?_|((with_reducible first|apply vmO|apply vmT|apply vmC);case a=>simp [t6, t9, qj, qj'];with_reducible first|exact .v|exact .c|exact .t|exact .f))
        rw [List.take_of_length_le (by omega)] at t8
        exact ⟨rfl, _, _, rfl, by simp [t0], by simp [t3], by simp [t6], by simp [t7], by simp [t8], e1⟩
      have qj' : (j : Int) + 1 ≤ xs.length := by omega
      obtain ⟨x, hx⟩ : ∃ x, x = xs[j] := ⟨_, rfl⟩
      have e3 : stOf xs ((j : Int) + 1) = x.st := by unfold stOf; rw [if_pos (by omega), show ((j : Int) + 1 - 1).toNat = j by omega, List.getD_eq_getElem?_getD, List.getElem?_eq_getElem qj, hx]; rfl
      obtain ⟨j2, hj2⟩ : ∃ j2, j2 = j + 1 := ⟨_, rfl⟩
      have w2 : IntKind.i64.wrap ((j : Int) + 1 + 1) = (j2 : Int) + 1 := by rw [wrap64 (by omega) (by omega)]; omega
      obtain ⟨n, hn⟩ : ∃ n, n = cntG (xs.take j) := ⟨_, rfl⟩
      have hnl := cntG_le (xs.take j)
      rw [List.length_take] at hnl
      have cs := cntG_succ qj
      rw [cnt_st hb qj, ← hj2, ← hx, ← hn] at cs
      rw [← hn] at t8 hnl
      obtain ⟨n1, hn1⟩ : ∃ n1, n1 = n + 1 := ⟨_, rfl⟩
      have wn : IntKind.i64.wrap ((n : Int) + 1) = (n1 : Int) := by rw [wrap64 (by omega) (by omega)]; omega
      repeat(first|with_reducible first|refine vmR ?_|refine vmV rfl ?_|refine vmW rfl ?_|refine vmL ?_|refine blockW_y (by decide) ?_|((with_reducible first|apply vmO|apply vmT|apply vmC);case a=>simp [t3, t6, t9, qj, qj'];with_reducible first|exact .v|exact .c|exact .t|exact .f))
      refine A.mono (state_ans h0 h' g pm 1 sq xs lv lg (k.of e1) ((j : Int) + 1) (by omega) hxl) ?_
      rintro _ h2 ⟨rfl, e2⟩
      rw [e3]
      refine ⟨_, by simp; first | done | rfl, ?_⟩
      have e12 := e1.trans e2
      have e4 : ∀ r r', HE h2 { h2 with obj := Mp.set (Mp.set h2.obj h2.no r) h2.no r', no := h2.no + 1 } := fun r r' => ((HE.refl h2).new _).set (Nat.le_refl _) _
      by_cases p1 : 1 ≤ x.st
      · by_cases p2 : x.st ≤ 3
        · have cs' : cntG (xs.take j2) = n1 := by rw [cs, hn1]; simp [p1, p2]
          repeat(first|with_reducible first|refine vmR ?_|refine vmV rfl ?_|refine vmW rfl ?_|refine vmL ?_|refine blockW_y (by decide) ?_|((with_reducible first|apply vmO|apply vmT|apply vmC);case a=>simp [p1, p2, t8, wn, t9, w2];with_reducible first|exact .v|exact .c|exact .t|exact .f))
          exact ⟨xs.length - j2, by omega, _, _, j2, rfl, rfl, by omega, by simp [t0], by simp [t3], by simp [t6], by simp [t7], by simp [cs'], by simp, e12.trans (e4 _ _)⟩
        · have cs' : cntG (xs.take j2) = n := by rw [cs]; simp [p1, p2]
          repeat(first|with_reducible first|refine vmR ?_|refine vmV rfl ?_|refine vmW rfl ?_|refine vmL ?_|refine blockW_y (by decide) ?_|((with_reducible first|apply vmO|apply vmT|apply vmC);case a=>simp [p1, p2, t8, wn, t9, w2];with_reducible first|exact .v|exact .c|exact .t|exact .f))
          exact ⟨xs.length - j2, by omega, _, _, j2, rfl, rfl, by omega, by simp [t0], by simp [t3], by simp [t6], by simp [t7], by simp [cs', t8], by simp, e12.trans (e4 _ _)⟩
      · have cs' : cntG (xs.take j2) = n := by rw [cs]; simp [p1]
        repeat(first|with_reducible first|refine vmR ?_|refine vmV rfl ?_|refine vmW rfl ?_|refine vmL ?_|refine blockW_y (by decide) ?_|((with_reducible first|apply vmO|apply vmT|apply vmC);case a=>simp [p1, t8, wn, t9, w2];with_reducible first|exact .v|exact .c|exact .t|exact .f))
        exact ⟨xs.length - j2, by omega, _, _, j2, rfl, rfl, by omega, by simp [t0], by simp [t3], by simp [t6], by simp [t7], by simp [cs', t8], by simp, e12.trans (e4 _ _)⟩
    rintro e s ⟨rfl, t, h2, rfl, t0, t3, t6, t7, t8, e2⟩
    have k2 := k.of e2
    obtain ⟨cn, hcn⟩ : ∃ cn, cn = cntG xs := ⟨_, rfl⟩
    have cl := cntG_le xs
    rw [← hcn] at t8 hc6 cl
    obtain ⟨c1, c2, c3, c4, c5⟩ := hr c hcm
    by_cases qk : c.k = 0
    · repeat(first|with_reducible first|refine vmR ?_|refine vmV rfl ?_|refine vmW rfl ?_|refine vmL ?_|refine blockW_y (by decide) ?_|((with_reducible first|apply vmO|apply vmT|apply vmC);case a=>simp [t0, t3, t7, ixc', qk];with_reducible first|exact .v|exact .c|exact .t|exact .f))
      refine A.mono (begin_ans h0 h2 g pm 1 sq xs lv lg k2 0 hxl hp2) ?_
      rintro _ h3 (⟨b1, rfl, e3⟩ | ⟨b1, rfl, p, m, lv', lg', _, _, k3, _⟩)
      · rw [← hcn] at b1
        have b1' : ¬ ((cn : Int) < 6) := by omega
        refine ⟨_, by simp; first | done | rfl, ?_⟩
        repeat(first|with_reducible first|refine vmR ?_|refine vmV rfl ?_|refine vmW rfl ?_|refine vmL ?_|refine blockW_y (by decide) ?_|((with_reducible first|apply vmO|apply vmT|apply vmC);case a=>simp [t0, t3, t6, t7, t8, b1', eqlBO, wip];with_reducible first|exact .v|exact .c|exact .t|exact .f))
        exact ⟨60 - ip, by omega, _, _, ip, sq, xs, lv, lg, rfl, rfl, by omega, by omega, by omega, by simp [t0], by simp [t3], by simp [t6], by simp, k2.of e3, hsq, by omega, hb⟩
      · rw [← hcn] at b1
        have b1' : ((cn : Int) < 6) := by omega
        obtain ⟨n1, hn1⟩ : ∃ n1, n1 = xs.length + 1 := ⟨_, rfl⟩
        have wn : IntKind.i64.wrap ((xs.length : Int) + 1) = (n1 : Int) := by rw [wrap64 (by omega) (by omega)]; omega
        have en : ((xs.length : Int) + 1) = (n1 : Int) := by omega
        rw [en]
        refine ⟨_, by simp; first | done | rfl, ?_⟩
        repeat(first|with_reducible first|refine vmR ?_|refine vmV rfl ?_|refine vmW rfl ?_|refine vmL ?_|refine blockW_y (by decide) ?_|((with_reducible first|apply vmO|apply vmT|apply vmC);case a=>simp [t0, t3, t6, t7, t8, b1', eqlBO, wip, wn];with_reducible first|exact .v|exact .c|exact .t|exact .f))
        refine ⟨60 - ip, by omega, _, _, ip, sq, xs ++ [newTr p m 0], lv', lg', rfl, rfl, by omega, by omega, by simp; omega, by simp [t0], by simp [t3], by simp [hn1], by simp, k3, hsq, ?_, ?_⟩
        · have : cntG (xs ++ [newTr p m 0]) = cn + 1 := by rw [hcn]; simp [cntG, newTr, going]
          omega
        · intro x hx
          rcases List.mem_append.mp hx with hx | hx
          · exact hb x hx
          · rw [List.mem_singleton.mp hx]
            exact ⟨rfl, rfl, rfl, rfl, by simp [newTr], by simp [newTr]⟩
    · repeat(first|with_reducible first|refine vmR ?_|refine vmV rfl ?_|refine vmW rfl ?_|refine vmL ?_|refine blockW_y (by decide) ?_|((with_reducible first|apply vmO|apply vmT|apply vmC);case a=>simp [t0, t3, t7, ixc', qk];with_reducible first|exact .v|exact .c|exact .t|exact .f))
      refine A.mono (step_bare h0 h2 g pm sq xs lv lg k2 c.id c2 hxl hsq hb) ?_
      rintro r3 h3 ⟨sq', xs', k3, hsq', hxl', hc', hb'⟩
      refine ⟨_, by simp; first | done | rfl, ?_⟩
      have b6 : ¬ ((6 : Int) < cn) := by omega
      repeat(first|with_reducible first|refine vmR ?_|refine vmV rfl ?_|refine vmW rfl ?_|refine vmL ?_|refine blockW_y (by decide) ?_|((with_reducible first|apply vmO|apply vmT|apply vmC);case a=>simp [t0, t3, t6, t7, t8, b6];with_reducible first|exact .v|exact .c|exact .t|exact .f))
      refine A.mono (busy_ans h0 h3 g pm 1 sq' xs' lv lg k3 1 (by omega)) ?_
      rintro _ h4 ⟨rfl, e4⟩
      have nb : xs'.any (busyQ 1) = false := by
        rw [List.any_eq_false]
        intro x hx
        simp [busyQ, (hb' x hx).br]
      rw [nb]
      refine ⟨_, by simp; first | done | rfl, ?_⟩
      repeat(first|with_reducible first|refine vmR ?_|refine vmV rfl ?_|refine vmW rfl ?_|refine vmL ?_|refine blockW_y (by decide) ?_|((with_reducible first|apply vmO|apply vmT|apply vmC);case a=>simp [t0, t3, t6, t7, t8, b6, wip];with_reducible first|exact .v|exact .c|exact .t|exact .f))
      exact ⟨60 - ip, by omega, _, _, ip, sq', xs', lv, lg, rfl, rfl, by omega, by omega, by omega, by simp [t0], by simp [t3], by simp [t6, hxl'], by simp, k3.of e4, hsq', by omega, hb'⟩
  rintro e s ⟨rfl, t, h, rfl, e1⟩
  repeat(first|with_reducible first|refine vmR ?_|refine vmV rfl ?_|refine vmW rfl ?_|refine vmL ?_|refine blockW_y (by decide) ?_|((with_reducible first|apply vmO|apply vmT|apply vmC);case a=>simp;with_reducible first|exact .v|exact .c|exact .t|exact .f))
  refine A.mono (hlives h (by rw [e1.pol]; exact hp) (by rw [e1.pol]; exact hp2)) ?_
  rintro _ h2 rfl
  refine ⟨_, by simp; first | done | rfl, ?_⟩
  repeat(first|with_reducible first|refine vmR ?_|refine vmV rfl ?_|refine vmW rfl ?_|refine vmL ?_|refine blockW_y (by decide) ?_|((with_reducible first|apply vmO|apply vmT|apply vmC);case a=>simp;with_reducible first|exact .v|exact .c|exact .t|exact .f))
  (first | apply endW_r | apply endW_n); (case h1 => (simp [Tryz.results3]; first | done | rfl))
  rfl
end Go.Vn
