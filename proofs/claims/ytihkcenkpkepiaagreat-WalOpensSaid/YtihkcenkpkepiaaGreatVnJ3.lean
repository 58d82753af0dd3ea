/- What functions of the program come to, in the value machine (a part of the proof of the claim's statement). No condition. -/
import Derived.Test.YtihkcenkpkepiaaGreatVnJ2
import Derived.Test.YtihkcenkpkepiaaGreatVnGe
import Derived.Test.YtihkcenkpkepiaaGreatVnH6
set_option linter.unusedSimpArgs false
set_option linter.unusedVariables false
set_option maxRecDepth 20000
namespace Go.Vn
open Go.Proofs

theorem four_num4 {b : List UInt8} (h : 4 ≤ b.length) : four (num4 b) = b.take 4 := by
  match b, h with
  | x0 :: x1 :: x2 :: x3 :: tl, _ =>
    have l0 := x0.toNat_lt
    have l1 := x1.toNat_lt
    have l2 := x2.toNat_lt
    have l3 := x3.toNat_lt
    have key : ∀ (x : UInt8) (n : Nat), n = x.toNat → UInt8.ofNat n = x := fun x n hh => by rw [hh]; simp
    simp only [num4, four, List.take_succ_cons, List.take_zero]
    rw [key x0 _ (by omega), key x1 _ (by omega), key x2 _ (by omega), key x3 _ (by omega)]
theorem oneP_can {b own rest : List UInt8} (h : oneP b = some (own, rest)) : b = frame own ++ rest := by
  have hl := oneP_len h
  unfold oneP at h
  split at h
  · cases h
  · rename_i q
    split at h
    · rename_i hc
      cases h
      obtain ⟨n, hn⟩ : ∃ n, n = num4 b := ⟨_, rfl⟩
      rw [← hn] at hc hl ⊢
      have ol : ((b.drop 8).take n).length = n := by rw [List.length_take, List.length_drop]; omega
      have e1 : four n = b.take 4 := by rw [hn]; exact four_num4 (by omega)
      have e2 : four (crcSum ((b.drop 8).take n)) = (b.drop 4).take 4 := by rw [hc]; exact four_num4 (by rw [List.length_drop]; omega)
      unfold frame
      rw [ol, e1, e2]
      have s1 : b = b.take 4 ++ b.drop 4 := (List.take_append_drop 4 b).symm
      have s2 : b.drop 4 = (b.drop 4).take 4 ++ b.drop 8 := by
        have := (List.take_append_drop 4 (b.drop 4)).symm
        rwa [List.drop_drop] at this
      have s3 : b.drop 8 = (b.drop 8).take n ++ b.drop (8 + n) := by
        have := (List.take_append_drop n (b.drop 8)).symm
        rwa [List.drop_drop] at this
      conv => lhs; rw [s1, s2, s3]
      simp only [List.append_assoc]
    · cases h
theorem readP_inv {b : List UInt8} {ep : Int} {vs : List Ver} (h : readP b = some (ep, vs)) : encG ep vs = b ∧ GMay ep vs = true ∧ vs.length * 8 ≤ b.length := by
  cases hn : numP b with
  | error e => rw [readP_no hn] at h; cases h
  | ok p =>
    obtain ⟨m, r⟩ := p
    cases ha : allX r with
    | error e => rw [readP_er hn ha] at h; cases h
    | ok l =>
      rw [readP_ok hn ha] at h
      split at h
      · rename_i q
        cases h
        have := (allX_all ha).1
        have := (numP_len hn).1
        exact ⟨q.2, q.1, by omega⟩
      · cases h
theorem grP_can : ∀ (n : Nat) (last : Int) (b : List UInt8), b.length ≤ n → n ≤ 1000000 → b.take (grP last (framesP b)).2 = fileB (grP last (framesP b)).1 ∧ GUp last (grP last (framesP b)).1
  | 0, last, b, h, _ => by
    have : b = [] := List.length_eq_zero_iff.mp (by omega)
    subst this
    rw [framesP_none oneP_nil]
    exact ⟨rfl, trivial⟩
  | n + 1, last, b, h, hn => by
    cases ho : oneP b with
    | none => rw [framesP_none ho]; exact ⟨by simp [grP, fileB], trivial⟩
    | some w =>
      obtain ⟨own, rest⟩ := w
      have hl := oneP_len ho
      have hb := oneP_can ho
      rw [framesP_some ho]
      cases hr : readP own with
      | none => rw [grP_none hr]; exact ⟨by simp [fileB], trivial⟩
      | some p =>
        obtain ⟨ep, vs⟩ := p
        by_cases q : ep ≤ last
        · rw [grP_old hr q]; exact ⟨by simp [fileB], trivial⟩
        · rw [grP_new hr q]
          obtain ⟨i1, i2, i3⟩ := readP_inv hr
          obtain ⟨h1, h2⟩ := grP_can n ep rest (by omega) (by omega)
          refine ⟨?_, by simp only; omega, i2, by rw [i1]; omega, by simp only; omega, h2⟩
          have e : fileB ((ep, vs) :: (grP ep (framesP rest)).1) = frame own ++ fileB (grP ep (framesP rest)).1 := by simp [fileB, i1]
          rw [e, ← h1]
          conv => lhs; rw [hb]
          rw [List.take_append]
          have fl : (frame own).length = own.length + 8 := frame_len own
          rw [fl, List.take_of_length_le (by omega)]
          congr 2
          omega
theorem GUp_mem : ∀ {last : Int} {gs : List (Int × List Ver)}, GUp last gs → ∀ g ∈ gs, GMay g.1 g.2 = true
  | _, _ :: _, h, g, hg => by
    rcases List.mem_cons.mp hg with rfl | hg
    · exact h.2.1
    · exact GUp_mem h.2.2.2.2 g hg
theorem fileB_mem {gs : List (Int × List Ver)} {g : Int × List Ver} (h : g ∈ gs) : (encG g.1 g.2).length + 8 ≤ (fileB gs).length := by
  induction gs with
  | nil => cases h
  | cons a gs ih =>
    have e : fileB (a :: gs) = frame (encG a.1 a.2) ++ fileB gs := by simp [fileB]
    rw [e, List.length_append, frame_len]
    rcases List.mem_cons.mp h with rfl | h
    · omega
    · have := ih h; omega
theorem encVb_pos {v : Ver} : 8 ≤ (encVb v).length := by
  have e : ∀ n, 1 ≤ (enc7 n).length := fun n => by
    by_cases q : n < 128
    · rw [enc7_lt q]; simp
    · rw [enc7_ge q]; simp
  have a1 := e v.br.toNat
  have a2 := e v.ep.toNat
  have a3 := e v.sq.toNat
  have a4 := e v.fr.toNat
  have a5 := e (v.to - v.fr).toNat
  have a6 := e (goneI v.gone).toNat
  have a7 := e v.key.length
  have a8 := e v.val.length
  simp only [encVb, encs, encT, List.flatMap_cons, List.flatMap_nil, List.length_append, List.length_nil]
  omega
theorem encG_vs {ep : Int} {vs : List Ver} : vs.length * 8 ≤ (encG ep vs).length := by
  have : vs.length * 8 ≤ (vs.flatMap encVb).length := by
    induction vs with
    | nil => simp
    | cons v vs ih =>
      have := encVb_pos (v := v)
      rw [List.flatMap_cons, List.length_append, List.length_cons]; omega
  simp only [encG, encL, List.length_append]; omega

theorem size_ans (k : List UInt8) (p m : Nat) (D : Dk) (a : FV) (h0 : Hp Fm) (d : DKs h0 p m D) (hd : D.down = false) (ha : lookF k D.fs = some a) :
    A Tryz.prog TT (.func 11) [.ptr p 0, .str k] h0 (fun r h' => r = .tup [.int .i64 a.1.length, .int .i64 0] ∧ HE h0 h') := by
  apply A_go Tryz.func11 rfl (by rfl); (case hn => (simp [Tryz.ntmps11]; rfl))
  repeat(first|with_reducible first|refine vmR ?_|refine vmV rfl ?_|refine vmW rfl ?_|refine vmL ?_|refine blockW_y (by decide) ?_|((with_reducible first|apply vmO|apply vmT|apply vmC);case a=>simp;with_reducible first|exact .v|exact .c|exact .t|exact .f))
  refine A.mono (there_ans k p m D h0 d) ?_
  rintro _ h1 ⟨rfl, e1⟩
  refine ⟨_, by simp; first | done | rfl, ?_⟩
  have d1 := d.he e1
  have hr := d1.row
  rw [hd] at hr
  have hh : has k D = true := by simp [has, ha]
  obtain ⟨es, hm, hes⟩ := d1.map
  obtain ⟨fv, ⟨bv, k1, rfl⟩, lk⟩ := look_some (m := m) (clk := D.clk) (k := k) Tryz.underlying45 Tryz.underlying9 hes ha
  have kl := k1.len Tryz.underlying22
  rw [List.length_map] at kl
  have kn := k1.nm
  have kc := k1.cells
  have ki := k1.isCell
  repeat(first|with_reducible first|refine vmR ?_|refine vmV rfl ?_|refine vmW rfl ?_|refine vmL ?_|refine blockW_y (by decide) ?_|((with_reducible first|apply vmO|apply vmT|apply vmC);case a=>simp [hr, hh];with_reducible first|exact .v|exact .c|exact .t|exact .f))
  repeat(first|with_reducible first|refine vmR ?_|refine vmV rfl ?_|refine vmW rfl ?_|refine vmL ?_|refine blockW_y (by decide) ?_|((with_reducible first|apply vmO|apply vmT|apply vmC);case a=>simp [hr, hh, hm, lk, kc, ki, kn, kl];with_reducible first|exact .v|exact .c|exact .t|exact .f))
  (first | apply endW_r | apply endW_n); (case h1 => (simp [Tryz.results11]; first | done | rfl))
  exact ⟨by simp, e1⟩

theorem wappX_ans (k : Tx) (bb cc : Nat) (ep : Int) (vs : List Ver) (rv : AV) (cs : Tx) (last : Int) (h0 : Hp Fm) (kv : SV 8 (vs.map encV) rv) (hl : vs.length ≤ 4) (hs : ∀ v ∈ vs, VSmall v) (hp : ∀ z, h0.pol z = false) (p m q : Nat) (w : (oneD k cs bb cc 100000).wf) (d : DKs h0 p m (oneD k cs bb cc 100000)) (lg : LGs h0 q p k last false) (n5 : q ≠ p) (n6 : q ≠ m) (room : cs.length + 8400 ≤ 100000) :
    A Tryz.prog TT (.func 14) [.ptr q 0, .agg [.int .i64 ep, rv]] h0 (fun r h' =>
      (((GMay ep vs = false ∨ ep ≤ last) ∧ r = .int .i64 1 ∧ DKs h' p m (oneD k cs bb cc 100000) ∧ LGs h' q p k last false) ∨
       (GMay ep vs = true ∧ last < ep ∧ r = .int .i64 0 ∧ DKs h' p m (oneD k (cs ++ frame (encG ep vs)) bb cc 100000) ∧ (oneD k (cs ++ frame (encG ep vs)) bb cc 100000).wf ∧ LGs h' q p k ep false)) ∧ HX (fun o => o = p ∨ o = m ∨ o = q) (fun _ => False) h0 h') := by
  have c1 := kv.cells
  have i1 := kv.isCell
  cases hg : GMay ep vs with
  | false =>
    refine A.mono (wappend_ans false ep last false k [] rv (by simp) c1 i1 p m q _ w h0 d lg n5 n6 hp (fun h hp' => by rw [← hg]; exact wmay_ans ep vs rv h kv (by omega) (fun v hv => by have := (hs v hv).1; omega) hp') (fun z => by cases z)) ?_
    rw [walApp_no false ep last k [] _ (.inl rfl)]
    rintro _ h1 ⟨rfl, d1, _, lg1, x1⟩
    exact ⟨.inl ⟨.inl rfl, rfl, d1, lg1⟩, x1⟩
  | true =>
    obtain ⟨h1, h2⟩ := gmay_all hg
    have gl := encG_len (ep := ep) (vs := vs) ⟨by omega, h1.2⟩ (by omega) (fun v hv => (h2 v hv).1) hs
    refine A.mono (wappend_ans true ep last false k (encG ep vs) rv (by omega) c1 i1 p m q _ w h0 d lg n5 n6 hp (fun h hp' => by rw [← hg]; exact wmay_ans ep vs rv h kv (by omega) (fun v hv => by have := (hs v hv).1; omega) hp') (fun _ h hp' => wwrite_ans ep vs rv h kv (by omega) (by omega) (fun v hv => (h2 v hv).1) hs hp')) ?_
    by_cases qe : ep ≤ last
    · rw [walApp_no true ep last k _ _ (.inr qe)]
      rintro _ h1 ⟨rfl, d1, _, lg1, x1⟩
      exact ⟨.inl ⟨.inr qe, rfl, d1, lg1⟩, x1⟩
    · have := walApp_one k cs (encG ep vs) bb cc 100000 ep last (by omega) (by omega)
      rw [this]
      rintro _ h1 ⟨rfl, d1, w1, lg1, x1⟩
      exact ⟨.inr ⟨rfl, by omega, rfl, d1, w1, lg1⟩, x1⟩

def xN : Tx := [120]
theorem named_x : namedP xN = true := by decide +kernel
def rawD (cs : Tx) : Dk := ⟨[(xN, (cs, 0), 0)], 1, 100000, -1, false⟩
theorem named_tempN : namedP tempN = true := named_temp
theorem create_x : Dk.create ⟨[], 0, 100000, -1, false⟩ xN = (0, rawD []) := by
  simp [Dk.create, Dk.deed, has, lookF, Dk.tick, Dk.put, setF, clkF, named_x, rawD]
theorem append_x (cs : Tx) (h : cs.length ≤ 100000) : Dk.append (rawD []) xN cs = (0, rawD cs) := by
  have h2 : ¬ (100000 : Int) < cs.length := by omega
  simp [Dk.append, Dk.deed, appE, has, lookF, Dk.tick, Dk.app, Dk.put, setF, clkF, used, rawD, h2]
theorem read_raw (cs : Tx) (h : cs.length ≤ 16777216) : readR xN 0 16777216 (rawD cs) = (cs, 0) := by
  simp only [readR, rawD, lookF]
  simp
  exact List.take_of_length_le (by omega)
theorem sync_raw (cs : Tx) : (rawD cs).sync xN = (0, oneD xN cs 0 1 100000) := by
  simp [Dk.sync, Dk.deed, has, lookF, rawD, oneD, Dk.tick, Dk.syn, setF, Dk.put, clkF]
theorem fresh_raw (cs ds : Tx) (h : cs.length + ds.length ≤ 100000) : freshD xN ds (rawD cs) = (0, oneD xN ds 0 2 100000) := by
  have hx : ¬ xN = tempN := by decide
  have hx' : ¬ tempN = xN := by decide
  have h1 : ¬ (100000 : Int) - (cs.length : Int) < ds.length := by omega
  have h2 : ¬ (100000 : Int) - ((cs.length : Int) + 0) < ds.length := by omega
  simp [freshD, runAll, Dk.remove, Dk.create, Dk.append, Dk.sync, Dk.rename, Dk.deed, appE, has, lookF, Dk.tick, Dk.app, Dk.put, setF, clkF, used, Dk.syn, Dk.ren, Dk.del, delF, oneD, rawD, hx, hx', h1, h2, named_tempN, named_x]
theorem read_one (cs : Tx) (b c : Nat) (h : cs.length ≤ 16777216) : readR xN 0 16777216 (oneD xN cs b c 100000) = (cs, 0) := by
  simp only [readR, oneD, lookF]
  simp
  exact List.take_of_length_le (by omega)
theorem sync_one (cs : Tx) (b c : Nat) : (oneD xN cs b c 100000).sync xN = (0, oneD xN cs b c 100000) := by
  simp [Dk.sync, Dk.deed, has, lookF, oneD, Dk.tick, Dk.syn, setF, Dk.put, clkF]
end Go.Vn

set_option maxRecDepth 20000
namespace Go.Vn
open Go.Proofs

theorem DKs.hx {h h' : Hp Fm} {p m : Nat} {D : Dk} {S G : Nat → Prop} (k : DKs h p m D) (he : HX S G h h') (h1 : ¬ S p) (h2 : ¬ S m) : DKs h' p m D := by
  obtain ⟨es, e1, e2⟩ := k.map
  exact ⟨(he.obj p k.pn h1).trans k.row, ⟨es, (he.obj m k.mn h2).trans e1, e2⟩, Nat.lt_of_lt_of_le k.pn he.no, Nat.lt_of_lt_of_le k.mn he.no, k.born⟩

theorem opened {b : Tx} (h : b.length ≤ 600) : ∃ c, (0, oneD xN (fileB (grP 0 (framesP b)).1) 0 c 100000) = (if (grP 0 (framesP b)).2 < b.length then freshD xN (b.take (grP 0 (framesP b)).2) (rawD b) else (rawD b).sync xN) ∧ ((rawD b).wf → (oneD xN (fileB (grP 0 (framesP b)).1) 0 c 100000).wf) := by
  obtain ⟨h1, h2⟩ := grP_can 600 0 b h (by omega)
  by_cases q : (grP 0 (framesP b)).2 < b.length
  · refine ⟨2, ?_, fun w => ?_⟩
    · rw [if_pos q, fresh_raw _ _ (by rw [List.length_take]; omega), h1]
    · have := wf_fresh w xN (b.take (grP 0 (framesP b)).2)
      rwa [fresh_raw _ _ (by rw [List.length_take]; omega), h1] at this
  · have hb : b = fileB (grP 0 (framesP b)).1 := by rw [← h1, List.take_of_length_le (by omega)]
    refine ⟨1, ?_, fun w => ?_⟩
    · rw [if_neg q, sync_raw, ← hb]
    · have := wf_sync w xN
      rw [sync_raw] at this
      rwa [← hb]

set_option maxHeartbeats 16000000 in
theorem walopens_law (b0 : Tx) (v0 : AV) (s0 : SV 1 (b0.map byteAV) v0) (hb0 : b0.length ≤ 9223372036854775807) (g : Gr) (hok : GrOk g) (h0 : Hp Fm) (hp : ∀ z, h0.pol z = false) :
    A Tryz.prog TT (.func 3) [v0, encGr g] h0 (fun r h' => r = .bool true ∧ HE h0 h') := by
  obtain ⟨ep, rv, vs⟩ := g
  obtain ⟨gsv, glen, gbig, _⟩ := hok
  simp only at gsv glen gbig
  have rc := gsv.cells
  have ri := gsv.isCell
  have c0 := s0.cells
  have i0 := s0.isCell
  have n0 := s0.nm
  have l0 := s0.len Tryz.underlying22
  rw [List.length_map] at l0
  obtain ⟨ha, hha⟩ : ∃ ha : Hp Fm, ha = { h0 with obj := Mp.set h0.obj h0.no (.row [.int .i64 ep, rv]), no := h0.no + 1 } := ⟨_, rfl⟩
  have e0a : HE h0 ha := by rw [hha]; exact (HE.refl h0).new _
  have ga : Mp.get ha.obj h0.no = some (.row [.int .i64 ep, rv]) := by rw [hha]; simp
  have hno : h0.no < ha.no := by rw [hha]; show h0.no < h0.no + 1; omega
  have pa : ∀ z, ha.pol z = false := fun z => by rw [e0a.pol]; exact hp z
  obtain ⟨b, hb⟩ : ∃ b, b = b0.take 600 := ⟨_, rfl⟩
  have bl : b.length ≤ 600 := by rw [hb, List.length_take]; omega
  obtain ⟨gs, hgs⟩ : ∃ gs, gs = (grP 0 (framesP b)).1 := ⟨_, rfl⟩
  obtain ⟨can1, hup⟩ := grP_can 600 0 b bl (by omega)
  have fgl : (fileB gs).length ≤ 600 := by rw [hgs, ← can1, List.length_take]; omega
  obtain ⟨c, hR, wR0⟩ := opened bl
  rw [← hgs] at hup hR wR0
  have gvl : ∀ g ∈ gs, g.2.length ≤ 100 := fun g hg => by
    have := fileB_mem hg
    have := encG_vs (ep := g.1) (vs := g.2)
    omega
  have gsl : gs.length ≤ 100 := by
    have : gs.length * 8 ≤ (fileB gs).length := by
      clear hgs hup fgl hR wR0 gvl
      induction gs with
      | nil => simp
      | cons a gs ih =>
        have e : fileB (a :: gs) = frame (encG a.1 a.2) ++ fileB gs := by simp [fileB]
        rw [e, List.length_append, frame_len, List.length_cons]; omega
    omega
  have wR : (oneD xN (fileB gs) 0 c 100000).wf := wR0 (by
    have := wf_append (by have := wf_create (wf_new 100000 (by omega)) xN; rwa [create_x] at this : (rawD []).wf) xN b
    rwa [append_x b (by omega)] at this)
  by_cases q : 600 < b0.length
  · have q' : (600 : Int) < b0.length := by omega
    obtain ⟨bv, hs, sb⟩ := s0.take Tryz.underlying22 z5 (k := .i64) (i := 600) (by omega) (by rw [List.length_map]; omega)
    rw [show (600 : Int).toNat = 600 from rfl, ← List.map_take, ← hb] at sb
    have bc := sb.cells
    have bi := sb.isCell
    apply A_go Tryz.func3 rfl (by rfl); (case hn => (simp [Tryz.ntmps3]; rfl))
    repeat(first|with_reducible first|refine vmR ?_|refine vmV rfl ?_|refine vmW rfl ?_|refine vmL ?_|refine blockW_y (by decide) ?_|((with_reducible first|apply vmO|apply vmT|apply vmC);case a=>simp [rc, ri, c0, i0, n0, l0, q, q', hs, bc, bi];with_reducible first|exact .v|exact .c|exact .t|exact .f))
    rw [← hha]
    refine A.mono (new_ans 100000 ha (by omega)) ?_
    rintro _ h1 ⟨p, m, rfl, d1, e1, pn, mn⟩
    have np : h0.no ≠ p := by omega
    have nm : h0.no ≠ m := by omega
    have w1 := wf_new 100000 (by omega)
    refine ⟨_, by simp; first | done | rfl, ?_⟩
    repeat(first|with_reducible first|refine vmR ?_|refine vmV rfl ?_|refine vmW rfl ?_|refine vmL ?_|refine blockW_y (by decide) ?_|((with_reducible first|apply vmO|apply vmT|apply vmC);case a=>simp [eqlAV];with_reducible first|exact .v|exact .c|exact .t|exact .f))
    refine A.mono (createW xN (by decide) p m _ w1 h1 d1) ?_
    rw [create_x]
    have w2 : (rawD []).wf := by have := wf_create w1 xN; rwa [create_x] at this
    rintro _ h2 ⟨rfl, d2, x2⟩
    have e2 : HE ha h2 := e1.x2 x2 (fun o ho => by rcases ho with rfl | rfl <;> assumption) (fun _ z => z.elim)
    refine ⟨_, by simp; first | done | rfl, ?_⟩
    repeat(first|with_reducible first|refine vmR ?_|refine vmV rfl ?_|refine vmW rfl ?_|refine vmL ?_|refine blockW_y (by decide) ?_|((with_reducible first|apply vmO|apply vmT|apply vmC);case a=>simp [bc, bi];with_reducible first|exact .v|exact .c|exact .t|exact .f))
    refine A.mono (appendW xN b bv (by omega) p m _ w2 h2 d2 (BV.sv sb) (fun q hq => absurd hq (sb.noRow q)) (by rw [e2.pol]; exact pa _)) ?_
    rw [append_x b (by omega)]
    have w3 : (rawD b).wf := by have := wf_append w2 xN b; rwa [append_x b (by omega)] at this
    rintro _ h3 ⟨rfl, d3, x3⟩
    have e3 : HE ha h3 := e2.x2 x3 (fun o ho => by rcases ho with rfl | rfl <;> assumption) (fun _ z => z.elim)
    have p3 : ∀ z, h3.pol z = false := fun z => by rw [e3.pol]; exact pa z
    refine ⟨_, by simp; first | done | rfl, ?_⟩
    repeat(first|with_reducible first|refine vmR ?_|refine vmV rfl ?_|refine vmW rfl ?_|refine vmL ?_|refine blockW_y (by decide) ?_|((with_reducible first|apply vmO|apply vmT|apply vmC);case a=>simp;with_reducible first|exact .v|exact .c|exact .t|exact .f))
    refine A.mono (wopen_ans xN b (by decide) p m _ w3 h3 d3 p3 (read_raw b (by omega)) (by omega) (0, oneD xN (fileB gs) 0 c 100000) hR) ?_
    rw [← hgs]
    rintro r h4 ⟨d4, x4, hr⟩
    rcases hr with ⟨_, q, gv, ws, rfl, lg, hq, sg, gf⟩ | ⟨z, _⟩
    case inr => exact absurd rfl z
    have e4 : HE ha h4 := e3.x2 x4 (fun o ho => by rcases ho with rfl | rfl <;> assumption) (fun _ z => z.elim)
    have p4 : ∀ z, h4.pol z = false := fun z => by rw [e4.pol]; exact pa z
    have nq : h0.no ≠ q := by have := e3.no; omega
    have qp : q ≠ p := by have := d3.pn; omega
    have qm : q ≠ m := by have := d3.mn; omega
    have qa : ha.no ≤ q := by have := e3.no; omega
    have gc := sg.cells
    have gi := sg.isCell
    refine ⟨_, by simp; first | done | rfl, ?_⟩
    repeat(first|with_reducible first|refine vmR ?_|refine vmV rfl ?_|refine vmW rfl ?_|refine vmL ?_|refine blockW_y (by decide) ?_|((with_reducible first|apply vmO|apply vmT|apply vmC);case a=>simp [bc, bi, gc, gi];with_reducible first|exact .v|exact .c|exact .t|exact .f))
    refine A.mono (groups15_ans b bv h4 sb (by omega) p4) ?_
    rw [← hgs]
    rintro wv h5 ⟨ws2, sw, gf2, e5⟩
    have wc := sw.cells
    have wi := sw.isCell
    have wn := sw.nm
    have wl := sw.len Tryz.underlying32
    rw [gf2.len] at wl
    refine ⟨_, by simp; first | done | rfl, ?_⟩
    repeat(first|with_reducible first|refine vmR ?_|refine vmV rfl ?_|refine vmW rfl ?_|refine vmL ?_|refine blockW_y (by decide) ?_|((with_reducible first|apply vmO|apply vmT|apply vmC);case a=>simp [eqlAV, gc, gi, wc, wi];with_reducible first|exact .v|exact .c|exact .t|exact .f))
    refine A.mono (same15_ans gs gs ws ws2 gv wv h5 sg sw gf gf2 (by omega) (by omega) (fun g hg => by have := gvl g hg; omega) (fun g hg => by have := gvl g hg; omega)) ?_
    rintro _ h6 ⟨rfl, e6⟩
    rw [decide_eq_true (rfl : gs = gs)]
    have e46 := e5.trans e6
    refine ⟨_, by simp; first | done | rfl, ?_⟩
    repeat(first|with_reducible first|refine vmR ?_|refine vmV rfl ?_|refine vmW rfl ?_|refine vmL ?_|refine blockW_y (by decide) ?_|((with_reducible first|apply vmO|apply vmT|apply vmC);case a=>simp [wc, wi];with_reducible first|exact .v|exact .c|exact .t|exact .f))
    refine W.mono (R := fun e s => e = .exit 0 ∧ ∃ (t : Fm AV) (h : Hp Fm), s = ⟨t, 149, h, none⟩ ∧ tget t 3 = .ptr h0.no 0 ∧ tget t 5 = .ptr p 0 ∧ tget t 6 = .ptr q 0 ∧ tget t 9 = wv ∧ tget t 10 = .bool true ∧ tget t 11 = .int .i64 (fileB gs).length ∧ tget t 12 = .int .i64 (lastE 0 gs) ∧ HE h6 h) ?_ ?_
    · refine W_loop (fun mm s => ∃ (t : Fm AV) (h : Hp Fm) (i : Nat), s = ⟨t, 149, h, none⟩ ∧ mm = gs.length - i ∧ i ≤ gs.length ∧ tget t 3 = .ptr h0.no 0 ∧ tget t 5 = .ptr p 0 ∧ tget t 6 = .ptr q 0 ∧ tget t 9 = wv ∧ tget t 10 = .bool true ∧ tget t 11 = .int .i64 (fileB (gs.take i)).length ∧ tget t 12 = .int .i64 (lastE 0 (gs.take i)) ∧ tget t 13 = .int .i64 i ∧ HE h6 h) gs.length
        ⟨_, _, 0, rfl, rfl, by omega, by simp, by simp, by simp, by simp, by simp, by simp [fileB], by simp [lastE], by simp, HE.refl h6⟩ ?_
      rintro mm s ⟨t, h, i, rfl, rfl, hi, t3, t5, t6, t9, t10, t11, t12, t13, he⟩
      by_cases qi : i < gs.length
      case neg =>
        have qi' : ¬ (i : Int) < gs.length := by omega
        rw [List.take_of_length_le (by omega)] at t11 t12
        repeat(first|with_reducible first|refine vmR ?_|refine vmV rfl ?_|refine vmW rfl ?_|refine vmL ?_|refine blockW_y (by decide) ?_|((with_reducible first|apply vmO|apply vmT|apply vmC);case a=>simp [t9, t13, wn, wl, wc, wi, qi, qi'];with_reducible first|exact .v|exact .c|exact .t|exact .f))
        exact ⟨rfl, _, _, rfl, by simp [t3], by simp [t5], by simp [t6], by simp [t9], by simp [t10], by simp [t11], by simp [t12], he⟩
      have qi' : (i : Int) < gs.length := by omega
      have lw := gf2.len
      have ix := sw.idx (k := .i64) (i := (i : Int)) Tryz.underlying32 z25 (by omega) (by simpa [lw] using qi)
      obtain ⟨u, eu, su⟩ := gf2.at i qi (by omega)
      simp only [Int.toNat_natCast, eu] at ix
      obtain ⟨x, hx⟩ : ∃ x, x = gs[i] := ⟨_, rfl⟩
      have xm : x ∈ gs := by rw [hx]; exact List.getElem_mem qi
      have et : gs.take (i + 1) = gs.take i ++ [x] := by rw [List.take_succ_eq_append_getElem qi, hx]
      rw [← hx] at ix su
      have hmx := GUp_mem hup x xm
      obtain ⟨hepx, hallx⟩ := gmay_all hmx
      have hvx := gvl x xm
      have hfx := fileB_mem xm
      have fl2 : (fileB (gs.take i)).length ≤ (fileB gs).length := by
        have : gs = gs.take i ++ gs.drop i := (List.take_append_drop i gs).symm
        conv => rhs; rw [this]
        unfold fileB
        rw [List.flatMap_append, List.length_append]; omega
      have uc := su.cells
      have ui := su.isCell
      have ph : ∀ z, h.pol z = false := fun z => by rw [he.pol, e46.pol]; exact p4 z
      have wi1 : IntKind.i64.wrap ((i : Int) + 1) = ((i + 1 : Nat) : Int) := by rw [wrap64 (by omega) (by omega)]; simp
      have W15 := write15_ans x.1 x.2 u h su (by omega) (by omega) (fun v hv => (hallx v hv).1) (fun v hv => by have := vmay_tiny (hallx v hv).1; exact ⟨by have := this.1; omega, by have := this.2; omega⟩) ph
      repeat(first|with_reducible first|refine vmR ?_|refine vmV rfl ?_|refine vmW rfl ?_|refine vmL ?_|refine blockW_y (by decide) ?_|((with_reducible first|apply vmO|apply vmT|apply vmC);case a=>simp [t9, t13, wn, wl, wc, wi, qi, qi', ix, uc, ui];with_reducible first|exact .v|exact .c|exact .t|exact .f))
      refine A.mono W15 ?_
      rintro y h7 ⟨sy, e7⟩
      have yc := sy.cells
      have yi := sy.isCell
      have yn := sy.nm
      have yl := sy.len Tryz.underlying22
      rw [List.length_map] at yl
      obtain ⟨fl8, hfl8⟩ : ∃ fl8, fl8 = (frame (encG x.1 x.2)).length := ⟨_, rfl⟩
      rw [← hfl8] at yl
      have hfl9 : fl8 = (encG x.1 x.2).length + 8 := by rw [hfl8, frame_len]
      obtain ⟨n1, hn1⟩ : ∃ n1, n1 = (fileB (gs.take i)).length := ⟨_, rfl⟩
      rw [← hn1] at t11 fl2
      obtain ⟨n2, hn2⟩ : ∃ n2, n2 = n1 + fl8 := ⟨_, rfl⟩
      have wn2 : IntKind.i64.wrap ((n1 : Int) + (fl8 : Int)) = (n2 : Int) := by rw [wrap64 (by omega) (by omega)]; omega
      refine ⟨_, by simp; first | done | rfl, ?_⟩
      repeat(first|with_reducible first|refine vmR ?_|refine vmV rfl ?_|refine vmW rfl ?_|refine vmL ?_|refine blockW_y (by decide) ?_|((with_reducible first|apply vmO|apply vmT|apply vmC);case a=>simp [t9, t11, t13, yc, yi, yn, yl, wn2, ix, wi1, wc, wi];with_reducible first|exact .v|exact .c|exact .t|exact .f))
      refine ⟨gs.length - (i + 1), by omega, _, h7, i + 1, rfl, rfl, by omega, by simp [t3], by simp [t5], by simp [t6], by simp [t9], by simp [t10], ?_, ?_, by simp, he.trans e7⟩
      · rw [et, fileB_app, List.length_append, ← hn1, ← hfl8, ← hn2]; simp
      · rw [et, lastE_app]; simp
    rintro _ _ ⟨rfl, t, h, rfl, t3, t5, t6, t9, t10, t11, t12, he⟩
    obtain ⟨last, hlast⟩ : ∃ last, last = lastE 0 gs := ⟨_, rfl⟩
    obtain ⟨n, hn⟩ : ∃ n, n = (fileB gs).length := ⟨_, rfl⟩
    rw [← hlast] at t12 lg
    rw [← hn] at t11
    have e4h := e46.trans he
    have dh := d4.he e4h
    have lgh := lg.he e4h
    repeat(first|with_reducible first|refine vmR ?_|refine vmV rfl ?_|refine vmW rfl ?_|refine vmL ?_|refine blockW_y (by decide) ?_|((with_reducible first|apply vmO|apply vmT|apply vmC);case a=>simp [t5];with_reducible first|exact .v|exact .c|exact .t|exact .f))
    refine A.mono (size_ans xN p m _ (fileB gs, (fileB gs).length) h dh rfl (by simp [oneD, lookF])) ?_
    rw [← hn]
    rintro _ h8 ⟨rfl, e8⟩
    have e48 := e4h.trans e8
    have ea8 := e4.trans e48
    have g8 := (ea8.obj _ hno).trans ga
    have p8 : ∀ z, h8.pol z = false := fun z => by rw [ea8.pol]; exact pa z
    refine ⟨_, by simp; first | done | rfl, ?_⟩
    repeat(first|with_reducible first|refine vmR ?_|refine vmV rfl ?_|refine vmW rfl ?_|refine vmL ?_|refine blockW_y (by decide) ?_|((with_reducible first|apply vmO|apply vmT|apply vmC);case a=>simp [t3, g8, rc, ri];with_reducible first|exact .v|exact .c|exact .t|exact .f))
    refine A.mono (cut15_ans ep vs rv h8 gsv glen gbig p8) ?_
    rintro _ h9 ⟨u3, rfl, s3, e9⟩
    have c3 := s3.cells
    have i3 := s3.isCell
    have cl := cut_len (ep := ep) (vs := vs)
    have csm := cut_small (ep := ep) (vs := vs)
    obtain ⟨cv, hcv⟩ : ∃ cv, cv = cutG ep vs := ⟨_, rfl⟩
    rw [← hcv] at s3 cl csm
    have ea9 := ea8.trans e9
    have g9 := (e9.obj _ (Nat.lt_of_lt_of_le hno ea8.no)).trans g8
    refine ⟨_, by simp; first | done | rfl, ?_⟩
    repeat(first|with_reducible first|refine vmR ?_|refine vmV rfl ?_|refine vmW rfl ?_|refine vmL ?_|refine blockW_y (by decide) ?_|((with_reducible first|apply vmO|apply vmT|apply vmC);case a=>simp [t3, g9, c3, i3];with_reducible first|exact .v|exact .c|exact .t|exact .f))
    obtain ⟨hx, hhx⟩ : ∃ hx : Hp Fm, hx = { h9 with obj := Mp.set h9.obj h0.no (.row [.int .i64 ep, u3]) } := ⟨_, rfl⟩
    rw [← hhx]
    have xx : HX (fun o => o = h0.no) (fun _ => False) h4 hx := by rw [hhx]; exact HX.set (S := fun o => o = h0.no) ((e48.trans e9).x (fun o => o = h0.no) (fun _ => False)) (fun _ => rfl) _
    have eax : HE h0 hx := by rw [hhx]; exact (e0a.trans ea9).set (Nat.le_refl _) _
    have gx : Mp.get hx.obj h0.no = some (.row [.int .i64 ep, u3]) := by rw [hhx]; simp
    have nx : h0.no < hx.no := by have := ea9.no; rw [hhx]; show h0.no < h9.no; omega
    have dx := d4.hx xx (Ne.symm np) (Ne.symm nm)
    have lgx : LGs hx q p xN last false := ⟨(xx.obj q lg.qn (Ne.symm nq)).trans lg.row, Nat.lt_of_lt_of_le lg.qn xx.no⟩
    have px : ∀ z, hx.pol z = false := fun z => by rw [eax.pol]; exact hp z
    clear hhx
    refine A.mono (may15_ans ep cv u3 hx s3 (by omega) (fun v hv => by have := (csm v hv).1; omega) px) ?_
    rintro _ h10 ⟨rfl, e10⟩
    have ea10 := eax.trans e10
    have g10 := (e10.obj _ nx).trans gx
    have n10 := Nat.lt_of_lt_of_le nx e10.no
    have d10 := dx.he e10
    have lg10 := lgx.he e10
    have p10 : ∀ z, h10.pol z = false := fun z => by rw [ea10.pol]; exact hp z
    have qa0 : h0.no ≤ q := by have := e0a.no; omega
    have pa0 : h0.no ≤ p := by have := e0a.no; omega
    have ma0 : h0.no ≤ m := by have := e0a.no; omega
    have APP := wappX_ans xN 0 c ep cv u3 (fileB gs) last h10 s3 cl csm p10 p m q wR d10 lg10 qp qm (by omega)
    obtain ⟨my, hmy⟩ : ∃ my, my = GMay ep cv := ⟨_, rfl⟩
    rw [← hmy] at APP ⊢
    refine ⟨_, by simp; first | done | rfl, ?_⟩
    repeat(first|with_reducible first|refine vmR ?_|refine vmV rfl ?_|refine vmW rfl ?_|refine vmL ?_|refine blockW_y (by decide) ?_|((with_reducible first|apply vmO|apply vmT|apply vmC);case a=>simp [t3, t6, g10, c3, i3];with_reducible first|exact .v|exact .c|exact .t|exact .f))
    refine A.mono APP ?_
    rintro r11 h11 ⟨hr11, x11⟩
    have ea11 : HE h0 h11 := ea10.x2 x11 (fun o ho => by rcases ho with rfl | rfl | rfl <;> assumption) (fun _ z => z.elim)
    have p11 : ∀ z, h11.pol z = false := fun z => by rw [ea11.pol]; exact hp z
    have g11 := (x11.obj _ n10 (fun z => by rcases z with z | z | z <;> contradiction)).trans g10
    rcases hr11 with ⟨hno, rfl, _, _⟩ | ⟨hyes, hlt, rfl, d11, w11, lg11⟩
    · refine ⟨_, by simp; first | done | rfl, ?_⟩
      cases my with
      | false =>
        repeat(first|with_reducible first|refine vmR ?_|refine vmV rfl ?_|refine vmW rfl ?_|refine vmL ?_|refine blockW_y (by decide) ?_|((with_reducible first|apply vmO|apply vmT|apply vmC);case a=>simp [t10, t11];with_reducible first|exact .v|exact .c|exact .t|exact .f))
        refine A.mono (wlives_ans h11 p11) ?_
        rintro _ h12 ⟨rfl, e12⟩
        refine ⟨_, by simp; first | done | rfl, ?_⟩
        repeat(first|with_reducible first|refine vmR ?_|refine vmV rfl ?_|refine vmW rfl ?_|refine vmL ?_|refine blockW_y (by decide) ?_|((with_reducible first|apply vmO|apply vmT|apply vmC);case a=>simp;with_reducible first|exact .v|exact .c|exact .t|exact .f))
        (first | apply endW_r | apply endW_n); (case h1 => (simp [Tryz.results3]; first | done | rfl))
        exact ⟨rfl, ea11.trans e12⟩
      | true =>
        have qe : ep ≤ last := by rcases hno with z | z; · cases z
                                  · exact z
        repeat(first|with_reducible first|refine vmR ?_|refine vmV rfl ?_|refine vmW rfl ?_|refine vmL ?_|refine blockW_y (by decide) ?_|((with_reducible first|apply vmO|apply vmT|apply vmC);case a=>simp [t3, t10, t11, t12, g11, qe];with_reducible first|exact .v|exact .c|exact .t|exact .f))
        refine A.mono (wlives_ans h11 p11) ?_
        rintro _ h12 ⟨rfl, e12⟩
        refine ⟨_, by simp; first | done | rfl, ?_⟩
        repeat(first|with_reducible first|refine vmR ?_|refine vmV rfl ?_|refine vmW rfl ?_|refine vmL ?_|refine blockW_y (by decide) ?_|((with_reducible first|apply vmO|apply vmT|apply vmC);case a=>simp;with_reducible first|exact .v|exact .c|exact .t|exact .f))
        (first | apply endW_r | apply endW_n); (case h1 => (simp [Tryz.results3]; first | done | rfl))
        exact ⟨rfl, ea11.trans e12⟩
    · have hmt : GMay ep cv = true := by rw [← hmy]; exact hyes
      have qe : ¬ ep ≤ last := by omega
      rw [hyes]
      obtain ⟨hep, hall⟩ := gmay_all hmt
      have gl := encG_len (ep := ep) (vs := cv) ⟨by omega, hep.2⟩ (by omega) (fun v hv => (hall v hv).1) csm
      have cs2 : fileB gs ++ frame (encG ep cv) = fileB (gs ++ [(ep, cv)]) := by rw [fileB_app]
      rw [cs2] at d11 w11
      have up2 : GUp 0 (gs ++ [(ep, cv)]) := GUp_app hup (by rw [← hlast]; exact hlt) hmt (by show (encG ep cv).length < _; omega) (by show cv.length < _; omega)
      have len2 : (fileB (gs ++ [(ep, cv)])).length ≤ 20000 := by
        rw [fileB_app, List.length_append, frame_len]; simp only; omega
      obtain ⟨gs2, hgs2⟩ : ∃ gs2, gs2 = gs ++ [(ep, cv)] := ⟨_, rfl⟩
      have gf3 := gf2.app (ep := ep) (vs := cv) s3
      have gvl2 : ∀ g ∈ gs2, g.2.length ≤ 100 := by
        intro g hg
        rw [hgs2] at hg
        rcases List.mem_append.mp hg with z | z
        · exact gvl g z
        · rw [List.mem_singleton.mp z]; simp only; omega
      have gl2 : gs2.length ≤ 101 := by rw [hgs2]; simp; omega
      rw [← hgs2] at d11 w11 up2 len2 gf3
      have hgr2 := grP_file 0 gs2 up2
      refine ⟨_, by simp; first | done | rfl, ?_⟩
      repeat(first|with_reducible first|refine vmR ?_|refine vmV rfl ?_|refine vmW rfl ?_|refine vmL ?_|refine blockW_y (by decide) ?_|((with_reducible first|apply vmO|apply vmT|apply vmC);case a=>simp [t3, t5, t12, g11, qe];with_reducible first|exact .v|exact .c|exact .t|exact .f))
      refine A.mono (wopen_ans xN (fileB gs2) (by decide) p m _ w11 h11 d11 p11 (read_one _ _ _ (by omega)) (by omega) (0, oneD xN (fileB gs2) 0 c 100000) (by rw [hgr2, if_neg (Nat.lt_irrefl _), sync_one])) ?_
      rw [hgr2]
      rintro r h12 ⟨_, x12, hr12⟩
      rcases hr12 with ⟨_, q2, gv2, ws3, rfl, _, _, sg2, gf4⟩ | ⟨z, _⟩
      case inr => exact absurd rfl z
      have ea12 : HE h0 h12 := ea11.x2 x12 (fun o ho => by rcases ho with rfl | rfl <;> assumption) (fun _ z => z.elim)
      have g12 := (x12.obj _ (Nat.lt_of_lt_of_le n10 x11.no) (fun z => by rcases z with z | z <;> contradiction)).trans g11
      have n12 : h0.no < h12.no := Nat.lt_of_lt_of_le (Nat.lt_of_lt_of_le n10 x11.no) x12.no
      have p12 : ∀ z, h12.pol z = false := fun z => by rw [ea12.pol]; exact hp z
      have gc2 := sg2.cells
      have gi2 := sg2.isCell
      refine ⟨_, by simp; first | done | rfl, ?_⟩
      repeat(first|with_reducible first|refine vmR ?_|refine vmV rfl ?_|refine vmW rfl ?_|refine vmL ?_|refine blockW_y (by decide) ?_|((with_reducible first|apply vmO|apply vmT|apply vmC);case a=>simp [gc2, gi2, t9, wc, wi];with_reducible first|exact .v|exact .c|exact .t|exact .f))
      with_reducible apply WO_app_i; (case hw => (simp [gc2, gi2, t9, wc, wi]; done)); (case ho => rfl); (case hb => rfl); (case ha => (simp [gc2, gi2, t9, wc, wi]; first | done | exact ⟨rfl, rfl⟩ | rfl)); (case h1 => (simp; first | done | rfl)); (case h2 => (simp; first | done | rfl))
      refine app_then (AC.appN (h0 := h12) (h := h12) (acc := []) (new := ws2) etG (.inl ⟨rfl, rfl⟩) (HE.refl h12) (p12 _) sw.newEls (by have := gf2.len; simp; omega)) ?_
      rintro x13 h13 ⟨ac13, e13, _, _, _⟩
      have ec13 := ac13.sv.cells
      have ei13 := ac13.sv.isCell
      have g13 := (e13.obj _ n12).trans g12
      have p13 : ∀ z, h13.pol z = false := fun z => by rw [e13.pol]; exact p12 z
      refine ⟨_, by simp; first | done | rfl, ?_⟩
      repeat(first|with_reducible first|refine vmR ?_|refine vmV rfl ?_|refine vmW rfl ?_|refine vmL ?_|refine blockW_y (by decide) ?_|((with_reducible first|apply vmO|apply vmT|apply vmC);case a=>simp [ec13, ei13, t3, g13, c3, i3, newSeq, newSl, p13];with_reducible first|exact .v|exact .c|exact .t|exact .f))
      with_reducible apply WO_app_i; (case hw => (simp [ec13, ei13, t3, g13, c3, i3, newSeq, newSl, p13]; done)); (case ho => rfl); (case hb => rfl); (case ha => (simp [ec13, ei13, t3, g13, c3, i3, newSeq, newSl, p13]; first | done | exact ⟨rfl, rfl⟩ | rfl)); (case h1 => (simp; first | done | rfl)); (case h2 => (simp; first | done | rfl))
      refine app_then (AC.app (h0 := h12) etG (ac13.of ((HE.refl h13).newSl 1)) (e13.newSl 1) (p12 _) (by have := gf2.len; simp; omega)) ?_
      rintro x14 h14 ⟨ac14, e14, _, _, _⟩
      have ec14 := ac14.sv.cells
      have ei14 := ac14.sv.isCell
      rw [List.nil_append] at ac14
      refine ⟨_, by simp; first | done | rfl, ?_⟩
      repeat(first|with_reducible first|refine vmR ?_|refine vmV rfl ?_|refine vmW rfl ?_|refine vmL ?_|refine blockW_y (by decide) ?_|((with_reducible first|apply vmO|apply vmT|apply vmC);case a=>simp [ec14, ei14, gc2, gi2];with_reducible first|exact .v|exact .c|exact .t|exact .f))
      refine A.mono (same15_ans gs2 gs2 ws3 _ gv2 x14 h14 sg2 ac14.sv gf4 gf3 (by omega) (by omega) (fun g hg => by have := gvl2 g hg; omega) (fun g hg => by have := gvl2 g hg; omega)) ?_
      rintro _ h15 ⟨rfl, e15⟩
      rw [decide_eq_true (rfl : gs2 = gs2)]
      have ea15 := (ea12.trans e14).trans e15
      refine ⟨_, by simp; first | done | rfl, ?_⟩
      repeat(first|with_reducible first|refine vmR ?_|refine vmV rfl ?_|refine vmW rfl ?_|refine vmL ?_|refine blockW_y (by decide) ?_|((with_reducible first|apply vmO|apply vmT|apply vmC);case a=>simp [t10, t11];with_reducible first|exact .v|exact .c|exact .t|exact .f))
      refine A.mono (wlives_ans h15 (fun z => by rw [ea15.pol]; exact hp z)) ?_
      rintro _ h16 ⟨rfl, e16⟩
      refine ⟨_, by simp; first | done | rfl, ?_⟩
      repeat(first|with_reducible first|refine vmR ?_|refine vmV rfl ?_|refine vmW rfl ?_|refine vmL ?_|refine blockW_y (by decide) ?_|((with_reducible first|apply vmO|apply vmT|apply vmC);case a=>simp;with_reducible first|exact .v|exact .c|exact .t|exact .f))
      (first | apply endW_r | apply endW_n); (case h1 => (simp [Tryz.results3]; first | done | rfl))
      exact ⟨rfl, ea15.trans e16⟩
  · have q' : ¬ (600 : Int) < b0.length := by omega
    have eb : b = b0 := by rw [hb]; exact List.take_of_length_le (by omega)
    have sb : SV 1 (b.map byteAV) v0 := by rw [eb]; exact s0
    obtain ⟨bv, hbv⟩ : ∃ bv, bv = v0 := ⟨_, rfl⟩
    rw [← hbv] at sb c0 i0 n0 l0 ⊢
    have bc := sb.cells
    have bi := sb.isCell
    apply A_go Tryz.func3 rfl (by rfl); (case hn => (simp [Tryz.ntmps3]; rfl))
    repeat(first|with_reducible first|refine vmR ?_|refine vmV rfl ?_|refine vmW rfl ?_|refine vmL ?_|refine blockW_y (by decide) ?_|((with_reducible first|apply vmO|apply vmT|apply vmC);case a=>simp [rc, ri, c0, i0, n0, l0, q, q'];with_reducible first|exact .v|exact .c|exact .t|exact .f))
    rw [← hha]
    refine A.mono (new_ans 100000 ha (by omega)) ?_
    rintro _ h1 ⟨p, m, rfl, d1, e1, pn, mn⟩
    have np : h0.no ≠ p := by omega
    have nm : h0.no ≠ m := by omega
    have w1 := wf_new 100000 (by omega)
    refine ⟨_, by simp; first | done | rfl, ?_⟩
    repeat(first|with_reducible first|refine vmR ?_|refine vmV rfl ?_|refine vmW rfl ?_|refine vmL ?_|refine blockW_y (by decide) ?_|((with_reducible first|apply vmO|apply vmT|apply vmC);case a=>simp [eqlAV];with_reducible first|exact .v|exact .c|exact .t|exact .f))
    refine A.mono (createW xN (by decide) p m _ w1 h1 d1) ?_
    rw [create_x]
    have w2 : (rawD []).wf := by have := wf_create w1 xN; rwa [create_x] at this
    rintro _ h2 ⟨rfl, d2, x2⟩
    have e2 : HE ha h2 := e1.x2 x2 (fun o ho => by rcases ho with rfl | rfl <;> assumption) (fun _ z => z.elim)
    refine ⟨_, by simp; first | done | rfl, ?_⟩
    repeat(first|with_reducible first|refine vmR ?_|refine vmV rfl ?_|refine vmW rfl ?_|refine vmL ?_|refine blockW_y (by decide) ?_|((with_reducible first|apply vmO|apply vmT|apply vmC);case a=>simp [bc, bi];with_reducible first|exact .v|exact .c|exact .t|exact .f))
    refine A.mono (appendW xN b bv (by omega) p m _ w2 h2 d2 (BV.sv sb) (fun q hq => absurd hq (sb.noRow q)) (by rw [e2.pol]; exact pa _)) ?_
    rw [append_x b (by omega)]
    have w3 : (rawD b).wf := by have := wf_append w2 xN b; rwa [append_x b (by omega)] at this
    rintro _ h3 ⟨rfl, d3, x3⟩
    have e3 : HE ha h3 := e2.x2 x3 (fun o ho => by rcases ho with rfl | rfl <;> assumption) (fun _ z => z.elim)
    have p3 : ∀ z, h3.pol z = false := fun z => by rw [e3.pol]; exact pa z
    refine ⟨_, by simp; first | done | rfl, ?_⟩
    repeat(first|with_reducible first|refine vmR ?_|refine vmV rfl ?_|refine vmW rfl ?_|refine vmL ?_|refine blockW_y (by decide) ?_|((with_reducible first|apply vmO|apply vmT|apply vmC);case a=>simp;with_reducible first|exact .v|exact .c|exact .t|exact .f))
    refine A.mono (wopen_ans xN b (by decide) p m _ w3 h3 d3 p3 (read_raw b (by omega)) (by omega) (0, oneD xN (fileB gs) 0 c 100000) hR) ?_
    rw [← hgs]
    rintro r h4 ⟨d4, x4, hr⟩
    rcases hr with ⟨_, q, gv, ws, rfl, lg, hq, sg, gf⟩ | ⟨z, _⟩
    case inr => exact absurd rfl z
    have e4 : HE ha h4 := e3.x2 x4 (fun o ho => by rcases ho with rfl | rfl <;> assumption) (fun _ z => z.elim)
    have p4 : ∀ z, h4.pol z = false := fun z => by rw [e4.pol]; exact pa z
    have nq : h0.no ≠ q := by have := e3.no; omega
    have qp : q ≠ p := by have := d3.pn; omega
    have qm : q ≠ m := by have := d3.mn; omega
    have qa : ha.no ≤ q := by have := e3.no; omega
    have gc := sg.cells
    have gi := sg.isCell
    refine ⟨_, by simp; first | done | rfl, ?_⟩
    repeat(first|with_reducible first|refine vmR ?_|refine vmV rfl ?_|refine vmW rfl ?_|refine vmL ?_|refine blockW_y (by decide) ?_|((with_reducible first|apply vmO|apply vmT|apply vmC);case a=>simp [bc, bi, gc, gi];with_reducible first|exact .v|exact .c|exact .t|exact .f))
    refine A.mono (groups15_ans b bv h4 sb (by omega) p4) ?_
    rw [← hgs]
    rintro wv h5 ⟨ws2, sw, gf2, e5⟩
    have wc := sw.cells
    have wi := sw.isCell
    have wn := sw.nm
    have wl := sw.len Tryz.underlying32
    rw [gf2.len] at wl
    refine ⟨_, by simp; first | done | rfl, ?_⟩
    repeat(first|with_reducible first|refine vmR ?_|refine vmV rfl ?_|refine vmW rfl ?_|refine vmL ?_|refine blockW_y (by decide) ?_|((with_reducible first|apply vmO|apply vmT|apply vmC);case a=>simp [eqlAV, gc, gi, wc, wi];with_reducible first|exact .v|exact .c|exact .t|exact .f))
    refine A.mono (same15_ans gs gs ws ws2 gv wv h5 sg sw gf gf2 (by omega) (by omega) (fun g hg => by have := gvl g hg; omega) (fun g hg => by have := gvl g hg; omega)) ?_
    rintro _ h6 ⟨rfl, e6⟩
    rw [decide_eq_true (rfl : gs = gs)]
    have e46 := e5.trans e6
    refine ⟨_, by simp; first | done | rfl, ?_⟩
    repeat(first|with_reducible first|refine vmR ?_|refine vmV rfl ?_|refine vmW rfl ?_|refine vmL ?_|refine blockW_y (by decide) ?_|((with_reducible first|apply vmO|apply vmT|apply vmC);case a=>simp [wc, wi];with_reducible first|exact .v|exact .c|exact .t|exact .f))
    refine W.mono (R := fun e s => e = .exit 0 ∧ ∃ (t : Fm AV) (h : Hp Fm), s = ⟨t, 149, h, none⟩ ∧ tget t 3 = .ptr h0.no 0 ∧ tget t 5 = .ptr p 0 ∧ tget t 6 = .ptr q 0 ∧ tget t 9 = wv ∧ tget t 10 = .bool true ∧ tget t 11 = .int .i64 (fileB gs).length ∧ tget t 12 = .int .i64 (lastE 0 gs) ∧ HE h6 h) ?_ ?_
    · refine W_loop (fun mm s => ∃ (t : Fm AV) (h : Hp Fm) (i : Nat), s = ⟨t, 149, h, none⟩ ∧ mm = gs.length - i ∧ i ≤ gs.length ∧ tget t 3 = .ptr h0.no 0 ∧ tget t 5 = .ptr p 0 ∧ tget t 6 = .ptr q 0 ∧ tget t 9 = wv ∧ tget t 10 = .bool true ∧ tget t 11 = .int .i64 (fileB (gs.take i)).length ∧ tget t 12 = .int .i64 (lastE 0 (gs.take i)) ∧ tget t 13 = .int .i64 i ∧ HE h6 h) gs.length
        ⟨_, _, 0, rfl, rfl, by omega, by simp, by simp, by simp, by simp, by simp, by simp [fileB], by simp [lastE], by simp, HE.refl h6⟩ ?_
      rintro mm s ⟨t, h, i, rfl, rfl, hi, t3, t5, t6, t9, t10, t11, t12, t13, he⟩
      by_cases qi : i < gs.length
      case neg =>
        have qi' : ¬ (i : Int) < gs.length := by omega
        rw [List.take_of_length_le (by omega)] at t11 t12
        repeat(first|with_reducible first|refine vmR ?_|refine vmV rfl ?_|refine vmW rfl ?_|refine vmL ?_|refine blockW_y (by decide) ?_|((with_reducible first|apply vmO|apply vmT|apply vmC);case a=>simp [t9, t13, wn, wl, wc, wi, qi, qi'];with_reducible first|exact .v|exact .c|exact .t|exact .f))
        exact ⟨rfl, _, _, rfl, by simp [t3], by simp [t5], by simp [t6], by simp [t9], by simp [t10], by simp [t11], by simp [t12], he⟩
      have qi' : (i : Int) < gs.length := by omega
      have lw := gf2.len
      have ix := sw.idx (k := .i64) (i := (i : Int)) Tryz.underlying32 z25 (by omega) (by simpa [lw] using qi)
      obtain ⟨u, eu, su⟩ := gf2.at i qi (by omega)
      simp only [Int.toNat_natCast, eu] at ix
      obtain ⟨x, hx⟩ : ∃ x, x = gs[i] := ⟨_, rfl⟩
      have xm : x ∈ gs := by rw [hx]; exact List.getElem_mem qi
      have et : gs.take (i + 1) = gs.take i ++ [x] := by rw [List.take_succ_eq_append_getElem qi, hx]
      rw [← hx] at ix su
      have hmx := GUp_mem hup x xm
      obtain ⟨hepx, hallx⟩ := gmay_all hmx
      have hvx := gvl x xm
      have hfx := fileB_mem xm
      have fl2 : (fileB (gs.take i)).length ≤ (fileB gs).length := by
        have : gs = gs.take i ++ gs.drop i := (List.take_append_drop i gs).symm
        conv => rhs; rw [this]
        unfold fileB
        rw [List.flatMap_append, List.length_append]; omega
      have uc := su.cells
      have ui := su.isCell
      have ph : ∀ z, h.pol z = false := fun z => by rw [he.pol, e46.pol]; exact p4 z
      have wi1 : IntKind.i64.wrap ((i : Int) + 1) = ((i + 1 : Nat) : Int) := by rw [wrap64 (by omega) (by omega)]; simp
      have W15 := write15_ans x.1 x.2 u h su (by omega) (by omega) (fun v hv => (hallx v hv).1) (fun v hv => by have := vmay_tiny (hallx v hv).1; exact ⟨by have := this.1; omega, by have := this.2; omega⟩) ph
      repeat(first|with_reducible first|refine vmR ?_|refine vmV rfl ?_|refine vmW rfl ?_|refine vmL ?_|refine blockW_y (by decide) ?_|((with_reducible first|apply vmO|apply vmT|apply vmC);case a=>simp [t9, t13, wn, wl, wc, wi, qi, qi', ix, uc, ui];with_reducible first|exact .v|exact .c|exact .t|exact .f))
      refine A.mono W15 ?_
      rintro y h7 ⟨sy, e7⟩
      have yc := sy.cells
      have yi := sy.isCell
      have yn := sy.nm
      have yl := sy.len Tryz.underlying22
      rw [List.length_map] at yl
      obtain ⟨fl8, hfl8⟩ : ∃ fl8, fl8 = (frame (encG x.1 x.2)).length := ⟨_, rfl⟩
      rw [← hfl8] at yl
      have hfl9 : fl8 = (encG x.1 x.2).length + 8 := by rw [hfl8, frame_len]
      obtain ⟨n1, hn1⟩ : ∃ n1, n1 = (fileB (gs.take i)).length := ⟨_, rfl⟩
      rw [← hn1] at t11 fl2
      obtain ⟨n2, hn2⟩ : ∃ n2, n2 = n1 + fl8 := ⟨_, rfl⟩
      have wn2 : IntKind.i64.wrap ((n1 : Int) + (fl8 : Int)) = (n2 : Int) := by rw [wrap64 (by omega) (by omega)]; omega
      refine ⟨_, by simp; first | done | rfl, ?_⟩
      repeat(first|with_reducible first|refine vmR ?_|refine vmV rfl ?_|refine vmW rfl ?_|refine vmL ?_|refine blockW_y (by decide) ?_|((with_reducible first|apply vmO|apply vmT|apply vmC);case a=>simp [t9, t11, t13, yc, yi, yn, yl, wn2, ix, wi1, wc, wi];with_reducible first|exact .v|exact .c|exact .t|exact .f))
      refine ⟨gs.length - (i + 1), by omega, _, h7, i + 1, rfl, rfl, by omega, by simp [t3], by simp [t5], by simp [t6], by simp [t9], by simp [t10], ?_, ?_, by simp, he.trans e7⟩
      · rw [et, fileB_app, List.length_append, ← hn1, ← hfl8, ← hn2]; simp
      · rw [et, lastE_app]; simp
    rintro _ _ ⟨rfl, t, h, rfl, t3, t5, t6, t9, t10, t11, t12, he⟩
    obtain ⟨last, hlast⟩ : ∃ last, last = lastE 0 gs := ⟨_, rfl⟩
    obtain ⟨n, hn⟩ : ∃ n, n = (fileB gs).length := ⟨_, rfl⟩
    rw [← hlast] at t12 lg
    rw [← hn] at t11
    have e4h := e46.trans he
    have dh := d4.he e4h
    have lgh := lg.he e4h
    repeat(first|with_reducible first|refine vmR ?_|refine vmV rfl ?_|refine vmW rfl ?_|refine vmL ?_|refine blockW_y (by decide) ?_|((with_reducible first|apply vmO|apply vmT|apply vmC);case a=>simp [t5];with_reducible first|exact .v|exact .c|exact .t|exact .f))
    refine A.mono (size_ans xN p m _ (fileB gs, (fileB gs).length) h dh rfl (by simp [oneD, lookF])) ?_
    rw [← hn]
    rintro _ h8 ⟨rfl, e8⟩
    have e48 := e4h.trans e8
    have ea8 := e4.trans e48
    have g8 := (ea8.obj _ hno).trans ga
    have p8 : ∀ z, h8.pol z = false := fun z => by rw [ea8.pol]; exact pa z
    refine ⟨_, by simp; first | done | rfl, ?_⟩
    repeat(first|with_reducible first|refine vmR ?_|refine vmV rfl ?_|refine vmW rfl ?_|refine vmL ?_|refine blockW_y (by decide) ?_|((with_reducible first|apply vmO|apply vmT|apply vmC);case a=>simp [t3, g8, rc, ri];with_reducible first|exact .v|exact .c|exact .t|exact .f))
    refine A.mono (cut15_ans ep vs rv h8 gsv glen gbig p8) ?_
    rintro _ h9 ⟨u3, rfl, s3, e9⟩
    have c3 := s3.cells
    have i3 := s3.isCell
    have cl := cut_len (ep := ep) (vs := vs)
    have csm := cut_small (ep := ep) (vs := vs)
    obtain ⟨cv, hcv⟩ : ∃ cv, cv = cutG ep vs := ⟨_, rfl⟩
    rw [← hcv] at s3 cl csm
    have ea9 := ea8.trans e9
    have g9 := (e9.obj _ (Nat.lt_of_lt_of_le hno ea8.no)).trans g8
    refine ⟨_, by simp; first | done | rfl, ?_⟩
    repeat(first|with_reducible first|refine vmR ?_|refine vmV rfl ?_|refine vmW rfl ?_|refine vmL ?_|refine blockW_y (by decide) ?_|((with_reducible first|apply vmO|apply vmT|apply vmC);case a=>simp [t3, g9, c3, i3];with_reducible first|exact .v|exact .c|exact .t|exact .f))
    obtain ⟨hx, hhx⟩ : ∃ hx : Hp Fm, hx = { h9 with obj := Mp.set h9.obj h0.no (.row [.int .i64 ep, u3]) } := ⟨_, rfl⟩
    rw [← hhx]
    have xx : HX (fun o => o = h0.no) (fun _ => False) h4 hx := by rw [hhx]; exact HX.set (S := fun o => o = h0.no) ((e48.trans e9).x (fun o => o = h0.no) (fun _ => False)) (fun _ => rfl) _
    have eax : HE h0 hx := by rw [hhx]; exact (e0a.trans ea9).set (Nat.le_refl _) _
    have gx : Mp.get hx.obj h0.no = some (.row [.int .i64 ep, u3]) := by rw [hhx]; simp
    have nx : h0.no < hx.no := by have := ea9.no; rw [hhx]; show h0.no < h9.no; omega
    have dx := d4.hx xx (Ne.symm np) (Ne.symm nm)
    have lgx : LGs hx q p xN last false := ⟨(xx.obj q lg.qn (Ne.symm nq)).trans lg.row, Nat.lt_of_lt_of_le lg.qn xx.no⟩
    have px : ∀ z, hx.pol z = false := fun z => by rw [eax.pol]; exact hp z
    clear hhx
    refine A.mono (may15_ans ep cv u3 hx s3 (by omega) (fun v hv => by have := (csm v hv).1; omega) px) ?_
    rintro _ h10 ⟨rfl, e10⟩
    have ea10 := eax.trans e10
    have g10 := (e10.obj _ nx).trans gx
    have n10 := Nat.lt_of_lt_of_le nx e10.no
    have d10 := dx.he e10
    have lg10 := lgx.he e10
    have p10 : ∀ z, h10.pol z = false := fun z => by rw [ea10.pol]; exact hp z
    have qa0 : h0.no ≤ q := by have := e0a.no; omega
    have pa0 : h0.no ≤ p := by have := e0a.no; omega
    have ma0 : h0.no ≤ m := by have := e0a.no; omega
    have APP := wappX_ans xN 0 c ep cv u3 (fileB gs) last h10 s3 cl csm p10 p m q wR d10 lg10 qp qm (by omega)
    obtain ⟨my, hmy⟩ : ∃ my, my = GMay ep cv := ⟨_, rfl⟩
    rw [← hmy] at APP ⊢
    refine ⟨_, by simp; first | done | rfl, ?_⟩
    repeat(first|with_reducible first|refine vmR ?_|refine vmV rfl ?_|refine vmW rfl ?_|refine vmL ?_|refine blockW_y (by decide) ?_|((with_reducible first|apply vmO|apply vmT|apply vmC);case a=>simp [t3, t6, g10, c3, i3];with_reducible first|exact .v|exact .c|exact .t|exact .f))
    refine A.mono APP ?_
    rintro r11 h11 ⟨hr11, x11⟩
    have ea11 : HE h0 h11 := ea10.x2 x11 (fun o ho => by rcases ho with rfl | rfl | rfl <;> assumption) (fun _ z => z.elim)
    have p11 : ∀ z, h11.pol z = false := fun z => by rw [ea11.pol]; exact hp z
    have g11 := (x11.obj _ n10 (fun z => by rcases z with z | z | z <;> contradiction)).trans g10
    rcases hr11 with ⟨hno, rfl, _, _⟩ | ⟨hyes, hlt, rfl, d11, w11, lg11⟩
    · refine ⟨_, by simp; first | done | rfl, ?_⟩
      cases my with
      | false =>
        repeat(first|with_reducible first|refine vmR ?_|refine vmV rfl ?_|refine vmW rfl ?_|refine vmL ?_|refine blockW_y (by decide) ?_|((with_reducible first|apply vmO|apply vmT|apply vmC);case a=>simp [t10, t11];with_reducible first|exact .v|exact .c|exact .t|exact .f))
        refine A.mono (wlives_ans h11 p11) ?_
        rintro _ h12 ⟨rfl, e12⟩
        refine ⟨_, by simp; first | done | rfl, ?_⟩
        repeat(first|with_reducible first|refine vmR ?_|refine vmV rfl ?_|refine vmW rfl ?_|refine vmL ?_|refine blockW_y (by decide) ?_|((with_reducible first|apply vmO|apply vmT|apply vmC);case a=>simp;with_reducible first|exact .v|exact .c|exact .t|exact .f))
        (first | apply endW_r | apply endW_n); (case h1 => (simp [Tryz.results3]; first | done | rfl))
        exact ⟨rfl, ea11.trans e12⟩
      | true =>
        have qe : ep ≤ last := by rcases hno with z | z; · cases z
                                  · exact z
        repeat(first|with_reducible first|refine vmR ?_|refine vmV rfl ?_|refine vmW rfl ?_|refine vmL ?_|refine blockW_y (by decide) ?_|((with_reducible first|apply vmO|apply vmT|apply vmC);case a=>simp [t3, t10, t11, t12, g11, qe];with_reducible first|exact .v|exact .c|exact .t|exact .f))
        refine A.mono (wlives_ans h11 p11) ?_
        rintro _ h12 ⟨rfl, e12⟩
        refine ⟨_, by simp; first | done | rfl, ?_⟩
        repeat(first|with_reducible first|refine vmR ?_|refine vmV rfl ?_|refine vmW rfl ?_|refine vmL ?_|refine blockW_y (by decide) ?_|((with_reducible first|apply vmO|apply vmT|apply vmC);case a=>simp;with_reducible first|exact .v|exact .c|exact .t|exact .f))
        (first | apply endW_r | apply endW_n); (case h1 => (simp [Tryz.results3]; first | done | rfl))
        exact ⟨rfl, ea11.trans e12⟩
    · have hmt : GMay ep cv = true := by rw [← hmy]; exact hyes
      have qe : ¬ ep ≤ last := by omega
      rw [hyes]
      obtain ⟨hep, hall⟩ := gmay_all hmt
      have gl := encG_len (ep := ep) (vs := cv) ⟨by omega, hep.2⟩ (by omega) (fun v hv => (hall v hv).1) csm
      have cs2 : fileB gs ++ frame (encG ep cv) = fileB (gs ++ [(ep, cv)]) := by rw [fileB_app]
      rw [cs2] at d11 w11
      have up2 : GUp 0 (gs ++ [(ep, cv)]) := GUp_app hup (by rw [← hlast]; exact hlt) hmt (by show (encG ep cv).length < _; omega) (by show cv.length < _; omega)
      have len2 : (fileB (gs ++ [(ep, cv)])).length ≤ 20000 := by
        rw [fileB_app, List.length_append, frame_len]; simp only; omega
      obtain ⟨gs2, hgs2⟩ : ∃ gs2, gs2 = gs ++ [(ep, cv)] := ⟨_, rfl⟩
      have gf3 := gf2.app (ep := ep) (vs := cv) s3
      have gvl2 : ∀ g ∈ gs2, g.2.length ≤ 100 := by
        intro g hg
        rw [hgs2] at hg
        rcases List.mem_append.mp hg with z | z
        · exact gvl g z
        · rw [List.mem_singleton.mp z]; simp only; omega
      have gl2 : gs2.length ≤ 101 := by rw [hgs2]; simp; omega
      rw [← hgs2] at d11 w11 up2 len2 gf3
      have hgr2 := grP_file 0 gs2 up2
      refine ⟨_, by simp; first | done | rfl, ?_⟩
      repeat(first|with_reducible first|refine vmR ?_|refine vmV rfl ?_|refine vmW rfl ?_|refine vmL ?_|refine blockW_y (by decide) ?_|((with_reducible first|apply vmO|apply vmT|apply vmC);case a=>simp [t3, t5, t12, g11, qe];with_reducible first|exact .v|exact .c|exact .t|exact .f))
      refine A.mono (wopen_ans xN (fileB gs2) (by decide) p m _ w11 h11 d11 p11 (read_one _ _ _ (by omega)) (by omega) (0, oneD xN (fileB gs2) 0 c 100000) (by rw [hgr2, if_neg (Nat.lt_irrefl _), sync_one])) ?_
      rw [hgr2]
      rintro r h12 ⟨_, x12, hr12⟩
      rcases hr12 with ⟨_, q2, gv2, ws3, rfl, _, _, sg2, gf4⟩ | ⟨z, _⟩
      case inr => exact absurd rfl z
      have ea12 : HE h0 h12 := ea11.x2 x12 (fun o ho => by rcases ho with rfl | rfl <;> assumption) (fun _ z => z.elim)
      have g12 := (x12.obj _ (Nat.lt_of_lt_of_le n10 x11.no) (fun z => by rcases z with z | z <;> contradiction)).trans g11
      have n12 : h0.no < h12.no := Nat.lt_of_lt_of_le (Nat.lt_of_lt_of_le n10 x11.no) x12.no
      have p12 : ∀ z, h12.pol z = false := fun z => by rw [ea12.pol]; exact hp z
      have gc2 := sg2.cells
      have gi2 := sg2.isCell
      refine ⟨_, by simp; first | done | rfl, ?_⟩
      repeat(first|with_reducible first|refine vmR ?_|refine vmV rfl ?_|refine vmW rfl ?_|refine vmL ?_|refine blockW_y (by decide) ?_|((with_reducible first|apply vmO|apply vmT|apply vmC);case a=>simp [gc2, gi2, t9, wc, wi];with_reducible first|exact .v|exact .c|exact .t|exact .f))
      with_reducible apply WO_app_i; (case hw => (simp [gc2, gi2, t9, wc, wi]; done)); (case ho => rfl); (case hb => rfl); (case ha => (simp [gc2, gi2, t9, wc, wi]; first | done | exact ⟨rfl, rfl⟩ | rfl)); (case h1 => (simp; first | done | rfl)); (case h2 => (simp; first | done | rfl))
      refine app_then (AC.appN (h0 := h12) (h := h12) (acc := []) (new := ws2) etG (.inl ⟨rfl, rfl⟩) (HE.refl h12) (p12 _) sw.newEls (by have := gf2.len; simp; omega)) ?_
      rintro x13 h13 ⟨ac13, e13, _, _, _⟩
      have ec13 := ac13.sv.cells
      have ei13 := ac13.sv.isCell
      have g13 := (e13.obj _ n12).trans g12
      have p13 : ∀ z, h13.pol z = false := fun z => by rw [e13.pol]; exact p12 z
      refine ⟨_, by simp; first | done | rfl, ?_⟩
      repeat(first|with_reducible first|refine vmR ?_|refine vmV rfl ?_|refine vmW rfl ?_|refine vmL ?_|refine blockW_y (by decide) ?_|((with_reducible first|apply vmO|apply vmT|apply vmC);case a=>simp [ec13, ei13, t3, g13, c3, i3, newSeq, newSl, p13];with_reducible first|exact .v|exact .c|exact .t|exact .f))
      with_reducible apply WO_app_i; (case hw => (simp [ec13, ei13, t3, g13, c3, i3, newSeq, newSl, p13]; done)); (case ho => rfl); (case hb => rfl); (case ha => (simp [ec13, ei13, t3, g13, c3, i3, newSeq, newSl, p13]; first | done | exact ⟨rfl, rfl⟩ | rfl)); (case h1 => (simp; first | done | rfl)); (case h2 => (simp; first | done | rfl))
      refine app_then (AC.app (h0 := h12) etG (ac13.of ((HE.refl h13).newSl 1)) (e13.newSl 1) (p12 _) (by have := gf2.len; simp; omega)) ?_
      rintro x14 h14 ⟨ac14, e14, _, _, _⟩
      have ec14 := ac14.sv.cells
      have ei14 := ac14.sv.isCell
      rw [List.nil_append] at ac14
      refine ⟨_, by simp; first | done | rfl, ?_⟩
      repeat(first|with_reducible first|refine vmR ?_|refine vmV rfl ?_|refine vmW rfl ?_|refine vmL ?_|refine blockW_y (by decide) ?_|((with_reducible first|apply vmO|apply vmT|apply vmC);case a=>simp [ec14, ei14, gc2, gi2];with_reducible first|exact .v|exact .c|exact .t|exact .f))
      refine A.mono (same15_ans gs2 gs2 ws3 _ gv2 x14 h14 sg2 ac14.sv gf4 gf3 (by omega) (by omega) (fun g hg => by have := gvl2 g hg; omega) (fun g hg => by have := gvl2 g hg; omega)) ?_
      rintro _ h15 ⟨rfl, e15⟩
      rw [decide_eq_true (rfl : gs2 = gs2)]
      have ea15 := (ea12.trans e14).trans e15
      refine ⟨_, by simp; first | done | rfl, ?_⟩
      repeat(first|with_reducible first|refine vmR ?_|refine vmV rfl ?_|refine vmW rfl ?_|refine vmL ?_|refine blockW_y (by decide) ?_|((with_reducible first|apply vmO|apply vmT|apply vmC);case a=>simp [t10, t11];with_reducible first|exact .v|exact .c|exact .t|exact .f))
      refine A.mono (wlives_ans h15 (fun z => by rw [ea15.pol]; exact hp z)) ?_
      rintro _ h16 ⟨rfl, e16⟩
      refine ⟨_, by simp; first | done | rfl, ?_⟩
      repeat(first|with_reducible first|refine vmR ?_|refine vmV rfl ?_|refine vmW rfl ?_|refine vmL ?_|refine blockW_y (by decide) ?_|((with_reducible first|apply vmO|apply vmT|apply vmC);case a=>simp;with_reducible first|exact .v|exact .c|exact .t|exact .f))
      (first | apply endW_r | apply endW_n); (case h1 => (simp [Tryz.results3]; first | done | rfl))
      exact ⟨rfl, ea15.trans e16⟩
end Go.Vn
