/- What functions of the program come to, in the value machine (a part of the proof of the claim's statement). No condition. -/
import Derived.Test.YtpneooihcofbbaaVnG9
set_option linter.unusedSimpArgs false
set_option linter.unusedVariables false
set_option maxRecDepth 20000
namespace Go.Vn
open Go.Proofs

def mine : Tx := [109, 105, 110, 101]
/-- What there is of the file. -/
structure MI (D : Dk) (gone : Bool) (safe all : Tx) : Prop where
  a : ∃ a, lookF mine D.fs = some a ∧ (∃ n, a.1 = all.take n) ∧ safe.length ≤ a.2 ∧ a.2 ≤ a.1.length ∧ (gone = false → a.1 = all)
theorem MI.fs {D D' : Dk} {g : Bool} {safe all : Tx} (h : MI D g safe all) (e : lookF mine D'.fs = lookF mine D.fs) : MI D' g safe all := by
  obtain ⟨a, h1, h2⟩ := h.a
  exact ⟨a, by rw [e]; exact h1, h2⟩
theorem MI.mono {D : Dk} {g : Bool} {safe all : Tx} (h : MI D g safe all) : MI D true safe all := by
  obtain ⟨a, h1, h2, h3, h4, _⟩ := h.a
  exact ⟨a, h1, h2, h3, h4, fun z => by cases z⟩
theorem mi_deed {D : Dk} {g : Bool} {safe all : Tx} (h : MI D g safe all) (e : Int) (does torn : Dk → Dk) (h1 : ∀ E : Dk, MI E g safe all → MI (does E) g safe all) (h2 : ∀ E : Dk, MI E g safe all → MI (torn E) g safe all) : MI (D.deed e does torn).2 g safe all := by
  unfold Dk.deed
  split
  · exact h
  · split
    · exact h
    · split
      · exact h2 _ (h.fs rfl)
      · exact h1 _ (h.fs rfl)
theorem mi_put {D : Dk} {g : Bool} {safe all : Tx} (h : MI D g safe all) (k : Tx) (a : FV) (hk : mine ≠ k) : MI (D.put k a) g safe all := h.fs (by show lookF mine (setF k a D.clk D.fs) = _; rw [lookF_setF, if_neg hk])
theorem mi_up {keep : List Int} {safe all : Tx} : ∀ (l : List Tx) {s : Dk × Nat}, MI s.1 true safe all → MI (l.foldl (upStep keep) s).1 true safe all
  | [], _, h => h
  | k :: l, s, h => by
    refine mi_up l ?_
    unfold upStep
    split
    · exact h
    · rename_i a ha
      split
      · rename_i hlt
        by_cases hk : mine = k
        · subst hk
          obtain ⟨b, b1, ⟨n, b2⟩, b3, b4, _⟩ := h.a
          rw [ha] at b1
          cases b1
          obtain ⟨x, hx⟩ : ∃ x, x = a.2 + keepN keep s.2 % (a.1.length - a.2 + 1) := ⟨_, rfl⟩
          have hm := Nat.mod_lt (keepN keep s.2) (show 0 < a.1.length - a.2 + 1 by omega)
          rw [← hx]
          refine ⟨(a.1.take x, x), by show lookF mine (setF mine _ s.1.clk s.1.fs) = _; rw [lookF_setF, if_pos rfl], ⟨min x n, by simp only; rw [b2, List.take_take]⟩, by simp only; omega, by simp only [List.length_take]; omega, fun z => by cases z⟩
        · exact mi_put h k _ hk
      · exact h
theorem mi_step {D D' : Dk} {x : Deed} {g : Bool} {safe all : Tx} (h : MI D g safe all) (ha : x.a.take 30 ≠ mine) (hb : x.b.take 30 ≠ mine) (h6 : x.kd = 6 → D.down = true → g = true) (s : DStep D x D') : MI D' g safe all := by
  unfold DStep at s
  split at s
  · rw [s]; exact mi_deed h _ _ _ (fun E e => mi_put e _ _ (Ne.symm ha)) (fun E e => e)
  split at s
  · rw [s]
    have key : ∀ E : Dk, MI E g safe all → MI (Dk.app (x.b.take 30) (x.a.take 30) E) g safe all := fun E e => by
      unfold Dk.app
      cases lookF (x.a.take 30) E.fs with
      | none => exact e
      | some a => exact mi_put e _ _ (Ne.symm ha)
    exact mi_deed h _ _ _ key key
  split at s
  · rw [s]
    refine mi_deed h _ _ _ (fun E e => ?_) (fun E e => e)
    unfold Dk.syn
    cases lookF (x.a.take 30) E.fs with
    | none => exact e
    | some a => exact mi_put e _ _ (Ne.symm ha)
  split at s
  · rw [s]
    refine mi_deed h _ _ _ (fun E e => ?_) (fun E e => e)
    unfold Dk.ren
    cases lookF (x.a.take 30) E.fs with
    | none => exact e
    | some a => exact mi_put (e.fs (by show lookF mine (delF _ E.fs) = _; rw [lookF_delF _ _ _ (Ne.symm ha)])) _ _ (Ne.symm hb)
  split at s
  · rw [s]
    exact mi_deed h _ _ _ (fun E e => e.fs (by show lookF mine (delF _ E.fs) = _; rw [lookF_delF _ _ _ (Ne.symm ha)])) (fun E e => e)
  split at s
  · rw [s]; exact h.fs rfl
  split at s
  · rename_i z6
    rcases s with ⟨_, s⟩ | ⟨hd, l, _, s⟩
    · rw [s]; exact h.fs rfl
    · rw [s]
      have hg := h6 z6 hd
      subst hg
      exact mi_up l (h.fs rfl)
  split at s
  · rw [s]; unfold Dk.setQuota; split
    · exact h
    · exact h.fs rfl
  · rw [s]; exact h

theorem ups_down (keep : List Int) : ∀ (l : List Tx) (s : Dk × Nat), (l.foldl (upStep keep) s).1.down = s.1.down
  | [], _ => rfl
  | k :: l, s => by
    rw [List.foldl_cons, ups_down keep l]
    unfold upStep
    split
    · rfl
    · split <;> rfl
def Dm (b : Tx) (s : Nat) : Dk := ⟨[(mine, (b, s), 0)], 1, 100000, -1, false⟩
theorem Dm_new : (Dk.create ⟨[], 0, 100000, -1, false⟩ mine).2 = Dm [] 0 := rfl
theorem Dm_app (b c : Tx) (s : Nat) (h : b.length + c.length ≤ 1000) : (Dm b s).append mine c = (0, Dm (b ++ c) s) := by
  have q : ¬ ((100000 : Int) - (b.length : Int) < c.length) := by omega
  simp [Dm, Dk.append, Dk.deed, appE, has, lookF, used, q, Dk.tick, Dk.app, Dk.put, setF, clkF]
theorem Dm_syn (b : Tx) (s : Nat) : ((Dm b s).sync mine).2 = Dm b b.length := by
  simp [Dm, Dk.sync, Dk.deed, has, lookF, Dk.tick, Dk.syn, Dk.put, setF, clkF]
theorem Dm_wf (b : Tx) (s : Nat) (h : b.length ≤ 1000) (hs : s ≤ b.length) : (Dm b s).wf :=
  ⟨by intro f hf; simp [Dm] at hf; subst hf; exact hs, by simp [Dm, used]; omega, by simp [Dm], by simp [Dm], by simp [Dm]⟩

set_option maxHeartbeats 4000000 in
theorem diskkeeps_law (safe0 : Tx) (hs0 : safe0.length ≤ 9223372036854775807) (loose0 : Tx) (hs1 : loose0.length ≤ 9223372036854775807) (l : List (Deed × AV)) (lv : AV) (hl : SV 6 (l.map fun q => encDeed q.1 q.2) lv) (hll : l.length ≤ 9223372036854775807) (hok : ∀ q ∈ l, DeedOk q.1 q.2)
    (keep : List Int) (vk : AV) (kv : SV 1 (keep.map (AV.int .i64)) vk) (hkl : keep.length ≤ 9223372036854775807) (hk64 : ∀ n ∈ keep, -9223372036854775808 ≤ n ∧ n ≤ 9223372036854775807) (h0 : Hp Fm) (hg : 0 < h0.ng) (hp : ∀ t, h0.pol t = false) :
    A Try.prog TT (.func 7) [.str safe0, .str loose0, lv, vk] h0 (fun r h' => r = .bool true ∧ True) := by
  obtain ⟨hb, hhb⟩ : ∃ hb : Hp Fm, hb = { h0 with pol := (· == 77) } := ⟨_, rfl⟩
  have gb : 0 < hb.ng := by rw [hhb]; exact hg
  have pb : hb.pol 77 = true := by rw [hhb]; rfl
  have pb1 : hb.pol 5 = false := by rw [hhb]; rfl
  have pb2 : hb.pol 22 = false := by rw [hhb]; rfl
  have lc := hl.cells
  have li := hl.isCell
  have lln := hl.len Try.underlying37
  rw [List.length_map] at lln
  have lnm := hl.nm
  obtain ⟨safe, hsafe⟩ : ∃ safe, safe = safe0.take 30 := ⟨_, rfl⟩
  obtain ⟨loose, hloose⟩ : ∃ loose, loose = loose0.take 30 := ⟨_, rfl⟩
  have sl : safe.length ≤ 30 := by rw [hsafe, List.length_take]; omega
  have ol : loose.length ≤ 30 := by rw [hloose, List.length_take]; omega
  obtain ⟨all, hall⟩ : ∃ all, all = safe ++ loose := ⟨_, rfl⟩
  have al : all.length ≤ 60 := by rw [hall, List.length_append]; omega
  apply A_goT Try.func7 rfl (by rfl); (case hn => (simp [Try.ntmps7]; rfl))
  repeat (first|with_reducible refine vmR ?_|with_reducible refine vmV rfl ?_|with_reducible refine vmW rfl ?_|with_reducible refine blockW_y (by decide) ?_|with_reducible refine vmL ?_|((with_reducible first|apply vmO|apply vmT);(case a=>simp;with_reducible first|exact .v|exact .c))|((with_reducible apply vmC);(case e=>simp;with_reducible first|exact .t|exact .f)))
  rw [← hhb]
  refine A.mono (new_ans 100000 hb (by omega)) ?_
  rintro _ h1 ⟨p, m, rfl, d1, e1, pn, mn⟩
  have w1 := wf_new 100000 (by omega)
  refine ⟨_, by simp; first | done | rfl, ?_⟩
  repeat (first|with_reducible refine vmR ?_|with_reducible refine vmV rfl ?_|with_reducible refine vmW rfl ?_|with_reducible refine blockW_y (by decide) ?_|with_reducible refine vmL ?_|((with_reducible first|apply vmO|apply vmT);(case a=>simp;with_reducible first|exact .v|exact .c))|((with_reducible apply vmC);(case e=>simp;with_reducible first|exact .t|exact .f)))
  refine A.mono (rnew_ans 100000 (by omega) h1 (by rw [e1.pol]; exact pb)) ?_
  rintro _ h2 ⟨rfl, r2, e2, n2⟩
  have pp := d1.pn
  have mm := d1.mn
  have T2 : Two h2 p m h1.no (h1.no + 1) ⟨[], 0, 100000, -1, false⟩ := ⟨d1.he e2, w1, r2 _ rfl, by omega, by omega, by omega, by omega, by omega, by omega⟩
  obtain ⟨r, hr⟩ : ∃ r, r = h1.no := ⟨_, rfl⟩
  obtain ⟨lo, hlo⟩ : ∃ lo, lo = h1.no + 1 := ⟨_, rfl⟩
  rw [← hlo, ← hr] at T2
  rw [← hr]
  have P2 : h2.pol = hb.pol := by rw [e2.pol, e1.pol]
  have G2 : 0 < h2.ng := by have := e1.ng; have := e2.ng; omega
  refine ⟨_, by simp; first | done | rfl, ?_⟩
  repeat (first|with_reducible refine vmR ?_|with_reducible refine vmV rfl ?_|with_reducible refine vmW rfl ?_|with_reducible refine blockW_y (by decide) ?_|with_reducible refine vmL ?_|((with_reducible first|apply vmO|apply vmT);(case a=>simp [eqlAV];with_reducible first|exact .v|exact .c))|((with_reducible apply vmC);(case e=>simp [eqlAV];with_reducible first|exact .t|exact .f)))
  refine A.mono (few_ans safe0 hs0 h2) ?_
  rintro _ hh ⟨rfl, ehh⟩
  rw [ehh, ← hsafe]
  clear ehh hh
  refine ⟨_, by simp; first | done | rfl, ?_⟩
  repeat (first|with_reducible refine vmR ?_|with_reducible refine vmV rfl ?_|with_reducible refine vmW rfl ?_|with_reducible refine blockW_y (by decide) ?_|with_reducible refine vmL ?_|((with_reducible first|apply vmO|apply vmT);(case a=>simp;with_reducible first|exact .v|exact .c))|((with_reducible apply vmC);(case e=>simp;with_reducible first|exact .t|exact .f)))
  refine A.mono (few_ans loose0 hs1 h2) ?_
  rintro _ hh ⟨rfl, ehh⟩
  rw [ehh, ← hloose]
  clear ehh hh
  refine ⟨_, by simp; first | done | rfl, ?_⟩
  repeat (first|with_reducible refine vmR ?_|with_reducible refine vmV rfl ?_|with_reducible refine vmW rfl ?_|with_reducible refine blockW_y (by decide) ?_|with_reducible refine vmL ?_|((with_reducible first|apply vmO|apply vmT);(case a=>simp;with_reducible first|exact .v|exact .c))|((with_reducible apply vmC);(case e=>simp;with_reducible first|exact .t|exact .f)))
  refine A.mono (createW mine (by simp [mine]) p m _ w1 h2 T2.d) ?_
  rintro _ h3 ⟨_, d3, x3⟩
  rw [Dm_new] at d3
  have T3 := T2.dx d3 (Dm_wf [] 0 (by simp) (by simp)) x3
  have P3 : h3.pol = hb.pol := by rw [x3.pol]; exact P2
  have G3 : 0 < h3.ng := by have := x3.ng; omega
  refine ⟨_, by simp; first | done | rfl, ?_⟩
  have c3 := conv_b h3 safe (by omega)
  repeat (first|with_reducible refine vmR ?_|with_reducible refine vmV rfl ?_|with_reducible refine vmW rfl ?_|with_reducible refine blockW_y (by decide) ?_|with_reducible refine vmL ?_|((with_reducible first|apply vmO|apply vmT);(case a=>simp [c3];with_reducible first|exact .v|exact .c))|((with_reducible apply vmC);(case e=>simp [c3];with_reducible first|exact .t|exact .f)))
  have y3 : HE h3 { h3.drew with len := Mp.set h3.len h3.ng (safe.map byteAV).length, ng := h3.ng + 1 } := ((HE.refl h3).drew).newSl _
  simp only [List.length_map] at y3
  have T3' := T3.he y3
  refine A.mono (appendW mine safe _ (by omega) p m _ T3'.w _ T3'.d (BV.sv (.inr (.inl ⟨_, _, _, rfl⟩))) (fun q hq => by obtain ⟨_, _, _, _, _, e⟩ := hq; cases e) (by show h3.pol _ = false; rw [P3]; exact pb2)) ?_
  rintro _ h4 ⟨_, d4, x4⟩
  rw [Dm_app [] safe 0 (by simp; omega), List.nil_append] at d4
  have T4 := T3'.dx d4 (Dm_wf safe 0 (by omega) (by omega)) x4
  have P4 : h4.pol = hb.pol := by rw [x4.pol]; exact P3
  have G4 : 0 < h4.ng := Nat.lt_of_lt_of_le (Nat.lt_of_lt_of_le G3 y3.ng) x4.ng
  refine ⟨_, by simp; first | done | rfl, ?_⟩
  repeat (first|with_reducible refine vmR ?_|with_reducible refine vmV rfl ?_|with_reducible refine vmW rfl ?_|with_reducible refine blockW_y (by decide) ?_|with_reducible refine vmL ?_|((with_reducible first|apply vmO|apply vmT);(case a=>simp;with_reducible first|exact .v|exact .c))|((with_reducible apply vmC);(case e=>simp;with_reducible first|exact .t|exact .f)))
  refine A.mono (syncW mine p m _ T4.w h4 T4.d) ?_
  rintro _ h5 ⟨_, d5, x5⟩
  rw [Dm_syn safe 0] at d5
  have T5 := T4.dx d5 (Dm_wf safe safe.length (by omega) (by omega)) x5
  have P5 : h5.pol = hb.pol := by rw [x5.pol]; exact P4
  have G5 : 0 < h5.ng := by have := x5.ng; omega
  refine ⟨_, by simp; first | done | rfl, ?_⟩
  have c5 := conv_b h5 loose (by omega)
  repeat (first|with_reducible refine vmR ?_|with_reducible refine vmV rfl ?_|with_reducible refine vmW rfl ?_|with_reducible refine blockW_y (by decide) ?_|with_reducible refine vmL ?_|((with_reducible first|apply vmO|apply vmT);(case a=>simp [c5];with_reducible first|exact .v|exact .c))|((with_reducible apply vmC);(case e=>simp [c5];with_reducible first|exact .t|exact .f)))
  have y5 : HE h5 { h5.drew with len := Mp.set h5.len h5.ng (loose.map byteAV).length, ng := h5.ng + 1 } := ((HE.refl h5).drew).newSl _
  simp only [List.length_map] at y5
  have T5' := T5.he y5
  refine A.mono (appendW mine loose _ (by omega) p m _ T5'.w _ T5'.d (BV.sv (.inr (.inl ⟨_, _, _, rfl⟩))) (fun q hq => by obtain ⟨_, _, _, _, _, e⟩ := hq; cases e) (by show h5.pol _ = false; rw [P5]; exact pb2)) ?_
  rintro _ h6 ⟨_, d6, x6⟩
  rw [Dm_app safe loose _ (by omega), ← hall] at d6
  have T6 := T5'.dx d6 (Dm_wf all safe.length (by omega) (by rw [hall, List.length_append]; omega)) x6
  have P6 : h6.pol = hb.pol := by rw [x6.pol]; exact P5
  have G6 : 0 < h6.ng := Nat.lt_of_lt_of_le (Nat.lt_of_lt_of_le G5 y5.ng) x6.ng
  have M6 : MI (Dm all safe.length) false safe all := ⟨(all, safe.length), by simp [Dm, lookF], ⟨all.length, by simp⟩, Nat.le_refl _, by simp only; rw [hall, List.length_append]; omega, fun _ => rfl⟩
  refine ⟨_, by simp; first | done | rfl, ?_⟩
  repeat (first|with_reducible refine vmR ?_|with_reducible refine vmV rfl ?_|with_reducible refine vmW rfl ?_|with_reducible refine blockW_y (by decide) ?_|with_reducible refine vmL ?_|((with_reducible first|apply vmO|apply vmT);(case a=>simp;with_reducible first|exact .v|exact .c))|((with_reducible apply vmC);(case e=>simp;with_reducible first|exact .t|exact .f)))
  refine W.mono (R := fun e s => e = .exit 0 ∧ ∃ (t : Fm AV) (h : Hp Fm) (gone : Bool) (D : Dk), s = ⟨t, 133, h, none⟩ ∧ tget t 0 = .str safe ∧ tget t 1 = .str loose ∧ tget t 3 = vk ∧ tget t 9 = .ptr p 0 ∧ tget t 11 = .bool gone ∧ Two h p m r lo D ∧ MI D gone safe all ∧ h.pol = hb.pol ∧ 0 < h.ng) ?_ ?_
  · refine W_loop (fun mm s => ∃ (t : Fm AV) (h : Hp Fm) (i : Nat) (gone : Bool) (D : Dk), s = ⟨t, 133, h, none⟩ ∧ mm = 21 - i ∧ i ≤ 20 ∧ tget t 0 = .str safe ∧ tget t 1 = .str loose ∧ tget t 2 = lv ∧ tget t 3 = vk ∧ tget t 9 = .ptr p 0 ∧ tget t 10 = .ptr r 0 ∧ tget t 11 = .bool gone ∧ tget t 12 = .int .i64 i ∧ Two h p m r lo D ∧ MI D gone safe all ∧ h.pol = hb.pol ∧ 0 < h.ng) 21
      ⟨_, _, 0, false, _, rfl, rfl, by omega, by simp, by simp, by simp, by simp, by simp, by simp, by simp, by simp, T6, M6, P6, G6⟩ ?_
    clear T6 M6 P6 G6
    rintro _ _ ⟨t, h, i, gone, D, rfl, rfl, hi, t0, t1, t2, t3, t9, t10, t11, t12, T, M, P1, G⟩
    by_cases qa : i < l.length
    case neg =>
      have qa' : ¬ (i : Int) < l.length := by omega
      repeat (first|with_reducible refine vmR ?_|with_reducible refine vmV rfl ?_|with_reducible refine vmW rfl ?_|with_reducible refine blockW_y (by decide) ?_|with_reducible refine vmL ?_|((with_reducible first|apply vmO|apply vmT);(case a=>simp [t2, t12, lln, lnm, lc, li, qa, qa'];with_reducible first|exact .v|exact .c))|((with_reducible apply vmC);(case e=>simp [t2, t12, lln, lnm, lc, li, qa, qa'];with_reducible first|exact .t|exact .f)))
      exact ⟨rfl, _, _, gone, D, rfl, by simp [t0], by simp [t1], by simp [t3], by simp [t9], by simp [t11], T, M, P1, G⟩
    have qa' : (i : Int) < l.length := by omega
    by_cases qb : i < 20
    case neg =>
      have qb' : ¬ (i : Int) < 20 := by omega
      repeat (first|with_reducible refine vmR ?_|with_reducible refine vmV rfl ?_|with_reducible refine vmW rfl ?_|with_reducible refine blockW_y (by decide) ?_|with_reducible refine vmL ?_|((with_reducible first|apply vmO|apply vmT);(case a=>simp [t2, t12, lln, lnm, lc, li, qa, qa', qb, qb'];with_reducible first|exact .v|exact .c))|((with_reducible apply vmC);(case e=>simp [t2, t12, lln, lnm, lc, li, qa, qa', qb, qb'];with_reducible first|exact .t|exact .f)))
      exact ⟨rfl, _, _, gone, D, rfl, by simp [t0], by simp [t1], by simp [t3], by simp [t9], by simp [t11], T, M, P1, G⟩
    have qb' : (i : Int) < 20 := by omega
    obtain ⟨ip, hip⟩ : ∃ ip, ip = i + 1 := ⟨_, rfl⟩
    have wi : IntKind.i64.wrap ((i : Int) + 1) = (ip : Int) := by rw [wrap64 (by omega) (by omega)]; omega
    obtain ⟨x, hx⟩ : ∃ x, x = l[i] := ⟨_, rfl⟩
    have xok := hok x (by rw [hx]; exact List.getElem_mem qa)
    have ix := hl.idx (k := .i64) (i := (i : Int)) Try.underlying37 z42 (by omega) (by simpa using qa)
    simp only [List.getElem_map, Int.toNat_natCast, ← hx] at ix
    obtain ⟨⟨kd, n, m0, a, b, kp⟩, xv⟩ := x
    have kc := xok.ks.cells
    have ki := xok.ks.isCell
    simp only [encDeed] at ix
    obtain ⟨hX, hhX⟩ : ∃ hX : Hp Fm, hX = { h with obj := Mp.set (Mp.set h.obj h.no (.row [.int .i64 0, .int .i64 0, .int .i64 0, .str [], .str [], .nils])) h.no (.row [.int .i64 kd, .int .i64 n, .int .i64 m0, .str a, .str b, xv]), no := h.no + 1 } := ⟨_, rfl⟩
    have eX : HE h hX := by rw [hhX]; exact ((HE.refl h).new _).set (o := h.no) (Nat.le_refl _) _
    have bX : Mp.get hX.obj h.no = some (.row [.int .i64 kd, .int .i64 n, .int .i64 m0, .str a, .str b, xv]) := by rw [hhX]; simp
    have TX := T.he eX
    have PX : hX.pol = hb.pol := by rw [eX.pol]; exact P1
    have GX : 0 < hX.ng := by have := eX.ng; omega
    by_cases q7 : kd = 7
    · subst q7
      repeat (first|with_reducible refine vmR ?_|with_reducible refine vmV rfl ?_|with_reducible refine vmW rfl ?_|with_reducible refine blockW_y (by decide) ?_|with_reducible refine vmL ?_|((with_reducible first|apply vmO|apply vmT);(case a=>simp [t0, t1, t2, t3, t9, t10, t11, t12, lln, lnm, lc, li, qa, qa', qb, qb', ix, kc, ki, wi];with_reducible first|exact .v|exact .c))|((with_reducible apply vmC);(case e=>simp [t0, t1, t2, t3, t9, t10, t11, t12, lln, lnm, lc, li, qa, qa', qb, qb', ix, kc, ki, wi];with_reducible first|exact .t|exact .f)))
      rw [← hhX]
      exact ⟨21 - ip, by omega, _, _, ip, gone, D, rfl, rfl, by omega, by simp [t0], by simp [t1], by simp [t2], by simp [t3], by simp [t9], by simp [t10], by simp [t11], by simp, TX, M, PX, GX⟩
    repeat (first|with_reducible refine vmR ?_|with_reducible refine vmV rfl ?_|with_reducible refine vmW rfl ?_|with_reducible refine blockW_y (by decide) ?_|with_reducible refine vmL ?_|((with_reducible first|apply vmO|apply vmT);(case a=>simp [t0, t1, t2, t3, t9, t10, t11, t12, lln, lnm, lc, li, qa, qa', qb, qb', ix, kc, ki, q7];with_reducible first|exact .v|exact .c))|((with_reducible apply vmC);(case e=>simp [t0, t1, t2, t3, t9, t10, t11, t12, lln, lnm, lc, li, qa, qa', qb, qb', ix, kc, ki, q7];with_reducible first|exact .t|exact .f)))
    rw [← hhX]
    refine A.mono (few_ans a xok.al hX) ?_
    rintro _ hh ⟨rfl, ehh⟩
    rw [ehh]
    clear ehh hh
    refine ⟨_, by simp; first | done | rfl, ?_⟩
    by_cases qn : a.take 30 = mine
    · have qe : eqB (a.take 30) [109, 105, 110, 101] = true := by rw [eqB_dec]; simp [qn, mine]
      repeat (first|with_reducible refine vmR ?_|with_reducible refine vmV rfl ?_|with_reducible refine vmW rfl ?_|with_reducible refine blockW_y (by decide) ?_|with_reducible refine vmL ?_|((with_reducible first|apply vmO|apply vmT);(case a=>simp [qe, t12, wi];with_reducible first|exact .v|exact .c))|((with_reducible apply vmC);(case e=>simp [qe, t12, wi];with_reducible first|exact .t|exact .f)))
      exact ⟨21 - ip, by omega, _, _, ip, gone, D, rfl, rfl, by omega, by simp [t0], by simp [t1], by simp [t2], by simp [t3], by simp [t9], by simp [t10], by simp [t11], by simp, TX, M, PX, GX⟩
    have qe : eqB (a.take 30) [109, 105, 110, 101] = false := by rw [eqB_dec]; simpa [mine] using qn
    repeat (first|with_reducible refine vmR ?_|with_reducible refine vmV rfl ?_|with_reducible refine vmW rfl ?_|with_reducible refine blockW_y (by decide) ?_|with_reducible refine vmL ?_|((with_reducible first|apply vmO|apply vmT);(case a=>simp [qe, bX];with_reducible first|exact .v|exact .c))|((with_reducible apply vmC);(case e=>simp [qe, bX];with_reducible first|exact .t|exact .f)))
    refine A.mono (few_ans b xok.bl hX) ?_
    rintro _ hh ⟨rfl, ehh⟩
    rw [ehh]
    clear ehh hh
    refine ⟨_, by simp; first | done | rfl, ?_⟩
    by_cases qm : b.take 30 = mine
    · have qf : eqB (b.take 30) [109, 105, 110, 101] = true := by rw [eqB_dec]; simp [qm, mine]
      repeat (first|with_reducible refine vmR ?_|with_reducible refine vmV rfl ?_|with_reducible refine vmW rfl ?_|with_reducible refine blockW_y (by decide) ?_|with_reducible refine vmL ?_|((with_reducible first|apply vmO|apply vmT);(case a=>simp [qf, t12, wi];with_reducible first|exact .v|exact .c))|((with_reducible apply vmC);(case e=>simp [qf, t12, wi];with_reducible first|exact .t|exact .f)))
      exact ⟨21 - ip, by omega, _, _, ip, gone, D, rfl, rfl, by omega, by simp [t0], by simp [t1], by simp [t2], by simp [t3], by simp [t9], by simp [t10], by simp [t11], by simp, TX, M, PX, GX⟩
    have qf : eqB (b.take 30) [109, 105, 110, 101] = false := by rw [eqB_dec]; simpa [mine] using qm
    obtain ⟨gone2, hgone2⟩ : ∃ g2, g2 = (gone || (decide (kd = 6) && D.down)) := ⟨_, rfl⟩
    have M2 : MI D gone2 safe all := by
      cases gone2 with
      | true => exact M.mono
      | false =>
        have : gone = false := by cases gone with | false => rfl | true => simp at hgone2
        subst this; exact M
    cases gone with
    | true =>
      have eg : gone2 = true := by rw [hgone2]; rfl
      repeat (first|with_reducible refine vmR ?_|with_reducible refine vmV rfl ?_|with_reducible refine vmW rfl ?_|with_reducible refine blockW_y (by decide) ?_|with_reducible refine vmL ?_|((with_reducible first|apply vmO|apply vmT);(case a=>simp [qf, t9, t10, t11, bX];with_reducible first|exact .v|exact .c))|((with_reducible apply vmC);(case e=>simp [qf, t9, t10, t11, bX];with_reducible first|exact .t|exact .f)))
      refine A.mono (does_ans ⟨kd, n, m0, a, b, kp⟩ xv xok p m r lo D hX TX (by rw [PX]; exact pb1) (by rw [PX]; exact pb2)) ?_
      rintro _ h3 ⟨⟨z, rfl⟩, ⟨D3, s3, T3⟩, x3⟩
      have M3 := mi_step M2 qn qm (fun z6 zd => by rw [hgone2, zd, show kd = 6 from z6]; simp) s3
      refine ⟨_, by simp; first | done | rfl, ?_⟩
      repeat (first|with_reducible refine vmR ?_|with_reducible refine vmV rfl ?_|with_reducible refine vmW rfl ?_|with_reducible refine blockW_y (by decide) ?_|with_reducible refine vmL ?_|((with_reducible first|apply vmO|apply vmT);(case a=>simp [t12, wi];with_reducible first|exact .v|exact .c))|((with_reducible apply vmC);(case e=>simp [t12, wi];with_reducible first|exact .t|exact .f)))
      exact ⟨21 - ip, by omega, _, _, ip, gone2, D3, rfl, rfl, by omega, by simp [t0], by simp [t1], by simp [t2], by simp [t3], by simp [t9], by simp [t10], by simp [eg], by simp, T3, M3, by rw [x3.pol]; exact PX, by have := x3.ng; omega⟩
    | false =>
      by_cases q6 : kd = 6
      · have eg : gone2 = D.down := by rw [hgone2]; simp [q6]
        repeat (first|with_reducible refine vmR ?_|with_reducible refine vmV rfl ?_|with_reducible refine vmW rfl ?_|with_reducible refine blockW_y (by decide) ?_|with_reducible refine vmL ?_|((with_reducible first|apply vmO|apply vmT);(case a=>simp [qf, t9, t10, t11, bX, q6];with_reducible first|exact .v|exact .c))|((with_reducible apply vmC);(case e=>simp [qf, t9, t10, t11, bX, q6];with_reducible first|exact .t|exact .f)))
        refine A.mono (alive_ans p m D hX TX.d) ?_
        rintro _ hh ⟨rfl, ehh⟩
        rw [ehh]
        clear ehh hh
        refine ⟨_, by simp; first | done | rfl, ?_⟩
        repeat (first|with_reducible refine vmR ?_|with_reducible refine vmV rfl ?_|with_reducible refine vmW rfl ?_|with_reducible refine blockW_y (by decide) ?_|with_reducible refine vmL ?_|((with_reducible first|apply vmO|apply vmT);(case a=>simp [t9, t10, bX];with_reducible first|exact .v|exact .c))|((with_reducible apply vmC);(case e=>simp [t9, t10, bX];with_reducible first|exact .t|exact .f)))
        refine A.mono (does_ans ⟨kd, n, m0, a, b, kp⟩ xv xok p m r lo D hX TX (by rw [PX]; exact pb1) (by rw [PX]; exact pb2)) ?_
        rintro _ h3 ⟨⟨z, rfl⟩, ⟨D3, s3, T3⟩, x3⟩
        have M3 := mi_step M2 qn qm (fun z6 zd => by rw [hgone2, zd, show kd = 6 from z6]; simp) s3
        refine ⟨_, by simp; first | done | rfl, ?_⟩
        repeat (first|with_reducible refine vmR ?_|with_reducible refine vmV rfl ?_|with_reducible refine vmW rfl ?_|with_reducible refine blockW_y (by decide) ?_|with_reducible refine vmL ?_|((with_reducible first|apply vmO|apply vmT);(case a=>simp [t12, wi];with_reducible first|exact .v|exact .c))|((with_reducible apply vmC);(case e=>simp [t12, wi];with_reducible first|exact .t|exact .f)))
        exact ⟨21 - ip, by omega, _, _, ip, gone2, D3, rfl, rfl, by omega, by simp [t0], by simp [t1], by simp [t2], by simp [t3], by simp [t9], by simp [t10], by simp [eg], by simp, T3, M3, by rw [x3.pol]; exact PX, by have := x3.ng; omega⟩
      · have eg : gone2 = false := by rw [hgone2]; simp [q6]
        repeat (first|with_reducible refine vmR ?_|with_reducible refine vmV rfl ?_|with_reducible refine vmW rfl ?_|with_reducible refine blockW_y (by decide) ?_|with_reducible refine vmL ?_|((with_reducible first|apply vmO|apply vmT);(case a=>simp [qf, t9, t10, t11, bX, q6];with_reducible first|exact .v|exact .c))|((with_reducible apply vmC);(case e=>simp [qf, t9, t10, t11, bX, q6];with_reducible first|exact .t|exact .f)))
        refine A.mono (does_ans ⟨kd, n, m0, a, b, kp⟩ xv xok p m r lo D hX TX (by rw [PX]; exact pb1) (by rw [PX]; exact pb2)) ?_
        rintro _ h3 ⟨⟨z, rfl⟩, ⟨D3, s3, T3⟩, x3⟩
        have M3 := mi_step M2 qn qm (fun z6 zd => by rw [hgone2, zd, show kd = 6 from z6]; simp) s3
        refine ⟨_, by simp; first | done | rfl, ?_⟩
        repeat (first|with_reducible refine vmR ?_|with_reducible refine vmV rfl ?_|with_reducible refine vmW rfl ?_|with_reducible refine blockW_y (by decide) ?_|with_reducible refine vmL ?_|((with_reducible first|apply vmO|apply vmT);(case a=>simp [t12, wi];with_reducible first|exact .v|exact .c))|((with_reducible apply vmC);(case e=>simp [t12, wi];with_reducible first|exact .t|exact .f)))
        exact ⟨21 - ip, by omega, _, _, ip, gone2, D3, rfl, rfl, by omega, by simp [t0], by simp [t1], by simp [t2], by simp [t3], by simp [t9], by simp [t10], by simp [eg], by simp, T3, M3, by rw [x3.pol]; exact PX, by have := x3.ng; omega⟩
  clear T6 M6 P6 G6
  rintro e s ⟨rfl, t, h, gone, D, rfl, t0, t1, t3, t9, t11, T, M, P1, G⟩
  obtain ⟨gone3, hg3⟩ : ∃ g, g = (gone || D.down) := ⟨_, rfl⟩
  have Mg : MI D gone3 safe all := by
    cases gone3 with
    | true => exact M.mono
    | false =>
      have : gone = false := by cases gone with | false => rfl | true => simp at hg3
      subst this; exact M
  have lz : all.length ≤ 60 := al
  cases gone with
  | true =>
    have eg : gone3 = true := by rw [hg3]; rfl
    repeat (first|with_reducible refine vmR ?_|with_reducible refine vmV rfl ?_|with_reducible refine vmW rfl ?_|with_reducible refine blockW_y (by decide) ?_|with_reducible refine vmL ?_|((with_reducible first|apply vmO|apply vmT);(case a=>simp [t9, t11, t3];with_reducible first|exact .v|exact .c))|((with_reducible apply vmC);(case e=>simp [t9, t11, t3];with_reducible first|exact .t|exact .f)))
    refine A.mono (up_ans keep hk64 hkl vk kv p m D T.w.ok (by have := T.w.many; omega) h T.d) ?_
    rintro _ h7 ⟨u1, u2, x7⟩
    have hd : ∃ D', DKs h7 p m D' ∧ D'.wf ∧ MI D' gone3 safe all ∧ D'.down = false := by
      cases hd : D.down with
      | false => exact ⟨_, u1 hd, ⟨T.w.fok, T.w.used, T.w.many, by simp, T.w.quota⟩, Mg.fs rfl, hd⟩
      | true =>
        obtain ⟨l, l1, _, l3⟩ := u2 hd
        have e3 : gone3 = true := by rw [hg3, hd]; simp
        refine ⟨_, l3, wf_up T.w _ _, ?_, ?_⟩
        · rw [e3]; exact mi_up l (Mg.mono.fs rfl)
        · unfold Dk.up; rw [ups_down]
    obtain ⟨D2, d7, w7, M7, z7⟩ := hd
    have P7 : h7.pol = hb.pol := by rw [x7.pol]; exact P1
    have G7 : 0 < h7.ng := by have := x7.ng; omega
    refine ⟨_, by simp; first | done | rfl, ?_⟩
    repeat (first|with_reducible refine vmR ?_|with_reducible refine vmV rfl ?_|with_reducible refine vmW rfl ?_|with_reducible refine blockW_y (by decide) ?_|with_reducible refine vmL ?_|((with_reducible first|apply vmO|apply vmT);(case a=>simp [t9];with_reducible first|exact .v|exact .c))|((with_reducible apply vmC);(case e=>simp [t9];with_reducible first|exact .t|exact .f)))
    refine A.mono (readW mine 0 1000 p m D2 w7 h7 d7) ?_
    rintro _ h8 ⟨bv, rfl, b8, e8⟩
    obtain ⟨⟨bb, sf⟩, a1, ⟨n, a2⟩, a3, a4, a5⟩ := M7.a
    simp only at a2 a3 a4 a5
    have bl : bb.length ≤ all.length := by rw [a2, List.length_take]; omega
    have btk : all.take bb.length = bb := by
      rw [a2, List.length_take]
      by_cases q : n ≤ all.length
      · rw [Nat.min_eq_left q]
      · rw [Nat.min_eq_right (by omega), List.take_of_length_le (Nat.le_refl _), List.take_of_length_le (by omega)]
    have b1000 : bb.length ≤ 1000 := by omega
    have er : readR mine 0 1000 D2 = (bb, 0) := by
      have e1 : ((0 : Int) < 0 ∨ (1000 : Int) < 0) ↔ False := by decide
      simp only [readR, z7, a1, e1, if_false, Bool.false_eq_true]
      have e2 : (1000 : Int).toNat = 1000 := rfl
      rw [e2, Int.toNat_zero, List.drop_zero, List.take_of_length_le b1000]
    rw [er] at b8 ⊢
    simp only [NB, show h7.pol 5 = false by rw [P7]; exact pb1, Bool.false_eq_true, if_false] at b8
    have bc := b8.cells
    have bi := b8.isCell
    have bn := b8.nm
    have bln := b8.len Try.underlying22
    rw [List.length_map] at bln
    have cv := fun h => conv_txt h b8
    have hcat : safe.length + loose.length ≤ 2 ^ 46 := by omega
    have n1 : ¬ ((bb.length : Int) < safe.length) := by omega
    have n1' : ¬ (bb.length < safe.length) := by omega
    have n2 : ¬ ((all.length : Int) < bb.length) := by omega
    have n2' : ¬ (all.length < bb.length) := by omega
    have sl : sliceAV Try.prog 9 (.str all) none (some (.int .i64 (bb.length : Int))) none = some (.str bb) := by
      have e1 : (bb.length : Int) ≤ all.length := by omega
      simp [sliceAV, obound, bound, e1, bl, btk]
    have eb := eqB_rf bb
    refine ⟨_, by simp; first | done | rfl, ?_⟩
    repeat (first|with_reducible refine vmR ?_|with_reducible refine vmV rfl ?_|with_reducible refine vmW rfl ?_|with_reducible refine blockW_y (by decide) ?_|with_reducible refine vmL ?_|((with_reducible first|apply vmO|apply vmT);(case a=>simp [t0, t1, bc, bi, hcat, hall.symm];with_reducible first|exact .v|exact .c))|((with_reducible apply vmC);(case e=>simp [t0, t1, bc, bi, hcat, hall.symm];with_reducible first|exact .t|exact .f)))
    (with_reducible refine W_draw_id (pln := true) [0, 1, 2, 3, 4, 5, 6, 7, 8, 9, 10, 11, 12, 13, 14, 15, 16, 17, 18, 19, 20, 21, 22, 23, 24] [(18, (18, []))] (by kernel_rfl) rfl ?_)
    repeat (first|with_reducible refine vmR ?_|with_reducible refine vmV rfl ?_|with_reducible refine vmW rfl ?_|with_reducible refine blockW_y (by decide) ?_|with_reducible refine vmL ?_|((with_reducible first|apply vmO|apply vmT);(case a=>simp [t0, t1, bn, bln, n1, n1', n2, n2', sl, cv, eb];with_reducible first|exact .v|exact .c))|((with_reducible apply vmC);(case e=>simp [t0, t1, bn, bln, n1, n1', n2, n2', sl, cv, eb];with_reducible first|exact .t|exact .f)))
    refine ⟨by simp [readSame, beqAV_self, t0, t1, cv, sl]; done, _, by simp; first | done | rfl, ?_⟩
    repeat (first|with_reducible refine vmR ?_|with_reducible refine vmV rfl ?_|with_reducible refine vmW rfl ?_|with_reducible refine blockW_y (by decide) ?_|with_reducible refine vmL ?_|((with_reducible first|apply vmO|apply vmT);(case a=>simp [t0, t1, t11, eg];with_reducible first|exact .v|exact .c))|((with_reducible apply vmC);(case e=>simp [t0, t1, t11, eg];with_reducible first|exact .t|exact .f)))
    refine A.mono (lives_ans h8.drew (by have := e8.ng; show 0 < h8.ng; omega)) ?_
    rintro _ h9 ⟨rfl, _⟩
    refine ⟨_, by simp; first | done | rfl, ?_⟩
    repeat (first|with_reducible refine vmR ?_|with_reducible refine vmV rfl ?_|with_reducible refine vmW rfl ?_|with_reducible refine blockW_y (by decide) ?_|with_reducible refine vmL ?_|((with_reducible first|apply vmO|apply vmT);(case a=>simp;with_reducible first|exact .v|exact .c))|((with_reducible apply vmC);(case e=>simp;with_reducible first|exact .t|exact .f)))
    (first | apply endW_r | apply endW_n); (case h1 => (simp [Try.results7]; first | done | rfl))
    exact ⟨rfl, trivial⟩
  | false =>
    have eg : gone3 = D.down := by rw [hg3]; simp
    repeat (first|with_reducible refine vmR ?_|with_reducible refine vmV rfl ?_|with_reducible refine vmW rfl ?_|with_reducible refine blockW_y (by decide) ?_|with_reducible refine vmL ?_|((with_reducible first|apply vmO|apply vmT);(case a=>simp [t9, t11];with_reducible first|exact .v|exact .c))|((with_reducible apply vmC);(case e=>simp [t9, t11];with_reducible first|exact .t|exact .f)))
    refine A.mono (alive_ans p m D h T.d) ?_
    rintro _ hh ⟨rfl, ehh⟩
    rw [ehh]
    clear ehh hh
    refine ⟨_, by simp; first | done | rfl, ?_⟩
    repeat (first|with_reducible refine vmR ?_|with_reducible refine vmV rfl ?_|with_reducible refine vmW rfl ?_|with_reducible refine blockW_y (by decide) ?_|with_reducible refine vmL ?_|((with_reducible first|apply vmO|apply vmT);(case a=>simp [t9, t3];with_reducible first|exact .v|exact .c))|((with_reducible apply vmC);(case e=>simp [t9, t3];with_reducible first|exact .t|exact .f)))
    refine A.mono (up_ans keep hk64 hkl vk kv p m D T.w.ok (by have := T.w.many; omega) h T.d) ?_
    rintro _ h7 ⟨u1, u2, x7⟩
    have hd : ∃ D', DKs h7 p m D' ∧ D'.wf ∧ MI D' gone3 safe all ∧ D'.down = false := by
      cases hd : D.down with
      | false => exact ⟨_, u1 hd, ⟨T.w.fok, T.w.used, T.w.many, by simp, T.w.quota⟩, Mg.fs rfl, hd⟩
      | true =>
        obtain ⟨l, l1, _, l3⟩ := u2 hd
        have e3 : gone3 = true := by rw [hg3, hd]; simp
        refine ⟨_, l3, wf_up T.w _ _, ?_, ?_⟩
        · rw [e3]; exact mi_up l (Mg.mono.fs rfl)
        · unfold Dk.up; rw [ups_down]
    obtain ⟨D2, d7, w7, M7, z7⟩ := hd
    have P7 : h7.pol = hb.pol := by rw [x7.pol]; exact P1
    have G7 : 0 < h7.ng := by have := x7.ng; omega
    refine ⟨_, by simp; first | done | rfl, ?_⟩
    repeat (first|with_reducible refine vmR ?_|with_reducible refine vmV rfl ?_|with_reducible refine vmW rfl ?_|with_reducible refine blockW_y (by decide) ?_|with_reducible refine vmL ?_|((with_reducible first|apply vmO|apply vmT);(case a=>simp [t9];with_reducible first|exact .v|exact .c))|((with_reducible apply vmC);(case e=>simp [t9];with_reducible first|exact .t|exact .f)))
    refine A.mono (readW mine 0 1000 p m D2 w7 h7 d7) ?_
    rintro _ h8 ⟨bv, rfl, b8, e8⟩
    obtain ⟨⟨bb, sf⟩, a1, ⟨n, a2⟩, a3, a4, a5⟩ := M7.a
    simp only at a2 a3 a4 a5
    have bl : bb.length ≤ all.length := by rw [a2, List.length_take]; omega
    have btk : all.take bb.length = bb := by
      rw [a2, List.length_take]
      by_cases q : n ≤ all.length
      · rw [Nat.min_eq_left q]
      · rw [Nat.min_eq_right (by omega), List.take_of_length_le (Nat.le_refl _), List.take_of_length_le (by omega)]
    have b1000 : bb.length ≤ 1000 := by omega
    have er : readR mine 0 1000 D2 = (bb, 0) := by
      have e1 : ((0 : Int) < 0 ∨ (1000 : Int) < 0) ↔ False := by decide
      simp only [readR, z7, a1, e1, if_false, Bool.false_eq_true]
      have e2 : (1000 : Int).toNat = 1000 := rfl
      rw [e2, Int.toNat_zero, List.drop_zero, List.take_of_length_le b1000]
    rw [er] at b8 ⊢
    simp only [NB, show h7.pol 5 = false by rw [P7]; exact pb1, Bool.false_eq_true, if_false] at b8
    have bc := b8.cells
    have bi := b8.isCell
    have bn := b8.nm
    have bln := b8.len Try.underlying22
    rw [List.length_map] at bln
    have cv := fun h => conv_txt h b8
    have hcat : safe.length + loose.length ≤ 2 ^ 46 := by omega
    have n1 : ¬ ((bb.length : Int) < safe.length) := by omega
    have n1' : ¬ (bb.length < safe.length) := by omega
    have n2 : ¬ ((all.length : Int) < bb.length) := by omega
    have n2' : ¬ (all.length < bb.length) := by omega
    have sl : sliceAV Try.prog 9 (.str all) none (some (.int .i64 (bb.length : Int))) none = some (.str bb) := by
      have e1 : (bb.length : Int) ≤ all.length := by omega
      simp [sliceAV, obound, bound, e1, bl, btk]
    have eb := eqB_rf bb
    refine ⟨_, by simp; first | done | rfl, ?_⟩
    repeat (first|with_reducible refine vmR ?_|with_reducible refine vmV rfl ?_|with_reducible refine vmW rfl ?_|with_reducible refine blockW_y (by decide) ?_|with_reducible refine vmL ?_|((with_reducible first|apply vmO|apply vmT);(case a=>simp [t0, t1, bc, bi, hcat, hall.symm];with_reducible first|exact .v|exact .c))|((with_reducible apply vmC);(case e=>simp [t0, t1, bc, bi, hcat, hall.symm];with_reducible first|exact .t|exact .f)))
    (with_reducible refine W_draw_id (pln := true) [0, 1, 2, 3, 4, 5, 6, 7, 8, 9, 10, 11, 12, 13, 14, 15, 16, 17, 18, 19, 20, 21, 22, 23, 24] [(18, (18, []))] (by kernel_rfl) rfl ?_)
    repeat (first|with_reducible refine vmR ?_|with_reducible refine vmV rfl ?_|with_reducible refine vmW rfl ?_|with_reducible refine blockW_y (by decide) ?_|with_reducible refine vmL ?_|((with_reducible first|apply vmO|apply vmT);(case a=>simp [t0, t1, bn, bln, n1, n1', n2, n2', sl, cv, eb];with_reducible first|exact .v|exact .c))|((with_reducible apply vmC);(case e=>simp [t0, t1, bn, bln, n1, n1', n2, n2', sl, cv, eb];with_reducible first|exact .t|exact .f)))
    refine ⟨by simp [readSame, beqAV_self, t0, t1, cv, sl]; done, _, by simp; first | done | rfl, ?_⟩
    cases hz : D.down with
    | true =>
      repeat (first|with_reducible refine vmR ?_|with_reducible refine vmV rfl ?_|with_reducible refine vmW rfl ?_|with_reducible refine blockW_y (by decide) ?_|with_reducible refine vmL ?_|((with_reducible first|apply vmO|apply vmT);(case a=>simp [t0, t1, t11, hz];with_reducible first|exact .v|exact .c))|((with_reducible apply vmC);(case e=>simp [t0, t1, t11, hz];with_reducible first|exact .t|exact .f)))
      refine A.mono (lives_ans h8.drew (by have := e8.ng; show 0 < h8.ng; omega)) ?_
      rintro _ h9 ⟨rfl, _⟩
      refine ⟨_, by simp; first | done | rfl, ?_⟩
      repeat (first|with_reducible refine vmR ?_|with_reducible refine vmV rfl ?_|with_reducible refine vmW rfl ?_|with_reducible refine blockW_y (by decide) ?_|with_reducible refine vmL ?_|((with_reducible first|apply vmO|apply vmT);(case a=>simp;with_reducible first|exact .v|exact .c))|((with_reducible apply vmC);(case e=>simp;with_reducible first|exact .t|exact .f)))
      (first | apply endW_r | apply endW_n); (case h1 => (simp [Try.results7]; first | done | rfl))
      exact ⟨rfl, trivial⟩
    | false =>
      have ea := a5 (by rw [eg, hz])
      have eb2 : eqB bb all = true := by rw [ea]; exact eqB_rf all
      repeat (first|with_reducible refine vmR ?_|with_reducible refine vmV rfl ?_|with_reducible refine vmW rfl ?_|with_reducible refine blockW_y (by decide) ?_|with_reducible refine vmL ?_|((with_reducible first|apply vmO|apply vmT);(case a=>simp [t0, t1, t11, hz, cv, eb2];with_reducible first|exact .v|exact .c))|((with_reducible apply vmC);(case e=>simp [t0, t1, t11, hz, cv, eb2];with_reducible first|exact .t|exact .f)))
      refine A.mono (lives_ans h8.drew (by have := e8.ng; show 0 < h8.ng; omega)) ?_
      rintro _ h9 ⟨rfl, _⟩
      refine ⟨_, by simp; first | done | rfl, ?_⟩
      repeat (first|with_reducible refine vmR ?_|with_reducible refine vmV rfl ?_|with_reducible refine vmW rfl ?_|with_reducible refine blockW_y (by decide) ?_|with_reducible refine vmL ?_|((with_reducible first|apply vmO|apply vmT);(case a=>simp;with_reducible first|exact .v|exact .c))|((with_reducible apply vmC);(case e=>simp;with_reducible first|exact .t|exact .f)))
      (first | apply endW_r | apply endW_n); (case h1 => (simp [Try.results7]; first | done | rfl))
      exact ⟨rfl, trivial⟩
end Go.Vn
