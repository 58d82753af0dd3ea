/- What functions of the program come to, in the value machine (a part of the proof of the claim's statement). No condition. -/
import Derived.Test.YtpneooihcofbbaaVnG6
import Derived.Test.YtpneooihcofbbaaVnG3
set_option linter.unusedSimpArgs false
set_option linter.unusedVariables false
set_option maxRecDepth 20000
namespace Go.Vn
open Go.Proofs

theorem u8B : isU8 Try.prog 5 = true := by kernel_rfl
theorem asBytes (cs : List UInt8) : (cs.map byteAV).mapM asByte = some cs := by
  induction cs with
  | nil => rfl
  | cons c cs ih =>
    rw [List.map_cons, List.mapM_cons, ih]
    simp [byteAV, asByte]
theorem asBytes2 (cs : List UInt8) : cs.mapM (asByte ∘ byteAV) = some cs := by
  induction cs with
  | nil => rfl
  | cons c cs ih =>
    rw [List.mapM_cons, ih]
    simp [byteAV, asByte]
theorem conv_txt (h : Hp Fm) {cs : List UInt8} {v : AV} (hv : SV 1 (cs.map byteAV) v) : convAV Try.prog h 22 9 v = some (.str cs, h) := by
  rcases hv with ⟨rfl, e⟩ | ⟨g, off, cp, rfl⟩ | ⟨c, rfl, e⟩
  · have : cs = [] := by simpa using e
    subst this
    simp [convAV, Try.underlying22, Try.underlying9, u8B]
  · simp [convAV, Try.underlying22, Try.underlying9, u8B, asBytes2]
  · have : cs = [] := by simpa using e
    subst this
    simp [convAV, Try.underlying22, Try.underlying9, u8B]
theorem conv_txtR (h : Hp Fm) {lo : Nat} {cs : List UInt8} {v : AV} (hv : RS lo h 1 false (cs.map byteAV) v) : convAV Try.prog h 22 9 v = some (.str cs, h) := by
  have hn := hv.newEls (fitBs cs) (by omega) (fun _ => rfl)
  rcases hv with ⟨rfl, e⟩ | ⟨o, cap, rfl, _⟩
  · have : cs = [] := by simpa using e
    subst this
    simp [convAV, Try.underlying22, Try.underlying9, u8B]
  · have hr : rsEls h o 0 1 false (cs.map byteAV).length = some (cs.map byteAV) := by simpa [newEls] using hn
    unfold convAV
    simp only [Try.underlying22, Try.underlying9, u8B, and_self, if_true, hr, Option.bind_some, asBytes]
    rfl
theorem conv_b (h : Hp Fm) (s : List UInt8) (hs : s.length ≤ 100000) : convAV Try.prog h 9 22 (.str s) = some (.sl h.ng 0 1 (h.grown s.length 0 5) (s.map byteAV), { h.drew with len := Mp.set h.len h.ng (s.map byteAV).length, ng := h.ng + 1 }) := by
  have h1 : s.length ≤ 2 ^ 40 := by omega
  unfold convAV
  simp [Try.underlying22, Try.underlying9, u8B, h1, newSl, Hp.drew]
theorem conv_bb (h : Hp Fm) {cs : List UInt8} {g off cp : Nat} (hg : g ≠ 0) (hc : cs ≠ []) : convAV Try.prog h 22 22 (.sl g off 1 cp (cs.map byteAV)) = some (.sl g off 1 cp (cs.map byteAV), h) := by
  have : cs.length ≠ 0 := by simpa using hc
  simp [convAV, Try.underlying22, u8B, hg, this]

theorem few_ans (s : List UInt8) (hs : s.length ≤ 9223372036854775807) (h0 : Hp Fm) : A Try.prog TT (.func 9) [.str s] h0 (fun r h' => r = .str (s.take 30) ∧ h' = h0) := by
  by_cases q : 30 < s.length
  · have q' : (30 : Int) < s.length := by omega
    have sl : sliceAV Try.prog 9 (.str s) none (some (.int .i64 30)) none = some (.str (s.take 30)) := by
      have : (30 : Int) ≤ s.length := by omega
      simp [sliceAV, obound, bound, this]
    apply A_go Try.func9 rfl (by rfl); (case hn => (simp [Try.ntmps9]; rfl))
    repeat (first|with_reducible refine vmR ?_|with_reducible refine vmV rfl ?_|with_reducible refine vmW rfl ?_|with_reducible refine blockW_y (by decide) ?_|with_reducible refine vmL ?_|((with_reducible first|apply vmO|apply vmT);(case a=>simp [q, q', sl];with_reducible first|exact .v|exact .c))|((with_reducible apply vmC);(case e=>simp [q, q', sl];with_reducible first|exact .t|exact .f)))
    (first | apply endW_r | apply endW_n); (case h1 => (simp [Try.results9]; first | done | rfl))
    exact ⟨rfl, rfl⟩
  · have q' : ¬ (30 : Int) < s.length := by omega
    apply A_go Try.func9 rfl (by rfl); (case hn => (simp [Try.ntmps9]; rfl))
    repeat (first|with_reducible refine vmR ?_|with_reducible refine vmV rfl ?_|with_reducible refine vmW rfl ?_|with_reducible refine blockW_y (by decide) ?_|with_reducible refine vmL ?_|((with_reducible first|apply vmO|apply vmT);(case a=>simp [q, q'];with_reducible first|exact .v|exact .c))|((with_reducible apply vmC);(case e=>simp [q, q'];with_reducible first|exact .t|exact .f)))
    (first | apply endW_r | apply endW_n); (case h1 => (simp [Try.results9]; first | done | rfl))
    exact ⟨by rw [List.take_of_length_le (by omega)], rfl⟩

/-- A disk's call. -/
theorem createW (k : Tx) (hk : k.length ≤ 1000000) (p m : Nat) (D : Dk) (w : D.wf) (h0 : Hp Fm) (d : DKs h0 p m D) :
    A Try.prog TT (.func 10) [.ptr p 0, .str k] h0 (fun r h' => r = .int .i64 (D.create k).1 ∧ DKs h' p m (D.create k).2 ∧ DX p m h0 h') :=
  create_ans k hk p m D h0 d w.left (by have := w.many; omega)
theorem appendW (k b : Tx) (v : AV) (hb : b.length ≤ 16777216) (p m : Nat) (D : Dk) (w : D.wf) (h0 : Hp Fm) (d : DKs h0 p m D) (kb : BV h0 v b) (kv : ∀ q, isRow v q → ¬ (q = p ∨ q = m)) (hp : h0.pol 22 = false) :
    A Try.prog TT (.func 11) [.ptr p 0, .str k, v] h0 (fun r h' => r = .int .i64 (D.append k b).1 ∧ DKs h' p m (D.append k b).2 ∧ DX p m h0 h') :=
  append_ans k b v hb p m D h0 d w.left w.quota w.used kb kv hp
theorem syncW (k : Tx) (p m : Nat) (D : Dk) (w : D.wf) (h0 : Hp Fm) (d : DKs h0 p m D) :
    A Try.prog TT (.func 19) [.ptr p 0, .str k] h0 (fun r h' => r = .int .i64 (D.sync k).1 ∧ DKs h' p m (D.sync k).2 ∧ DX p m h0 h') :=
  sync_ans k p m D h0 d w.left w.used
theorem readW (k : Tx) (at_ n : Int) (p m : Nat) (D : Dk) (w : D.wf) (h0 : Hp Fm) (d : DKs h0 p m D) :
    A Try.prog TT (.func 12) [.ptr p 0, .str k, .int .i64 at_, .int .i64 n] h0 (fun r h' => ∃ bv, r = .tup [bv, .int .i64 (readR k at_ n D).2] ∧ NB (h0.pol 5) h0.no h' (readR k at_ n D).1 bv ∧ HE h0 h') :=
  read_ans k at_ n p m D h0 d w.used
theorem HE.dx {h h' : Hp Fm} (k : HE h h') (p m : Nat) : DX p m h h' := k.x _ _

theorem lives_ans (h0 : Hp Fm) (hg0 : 0 < h0.ng) : A Try.prog TT (.func 13) [] h0 (fun r h' => r = .bool true ∧ HE h0 h') := by
  obtain ⟨ha, hha⟩ : ∃ ha : Hp Fm, ha = { h0 with pol := fun _ => false } := ⟨_, rfl⟩
  have ga : 0 < ha.ng := by rw [hha]; exact hg0
  have pa : ∀ t, ha.pol t = false := fun t => by rw [hha]
  have f0 : ∀ h' : Hp Fm, HE ha h' → HE h0 { h' with pol := h0.pol } := fun h' k => ⟨by have := k.no; rw [hha] at this; exact this, by have := k.ng; rw [hha] at this; exact this, rfl, by have := k.obj; rw [hha] at this; exact this, by have := k.len; rw [hha] at this; exact this⟩
  apply A_goT Try.func13 rfl (by rfl); (case hn => (simp [Try.ntmps13]; rfl))
  repeat (first|with_reducible refine vmR ?_|with_reducible refine vmV rfl ?_|with_reducible refine vmW rfl ?_|with_reducible refine blockW_y (by decide) ?_|with_reducible refine vmL ?_|((with_reducible first|apply vmO|apply vmT);(case a=>simp;with_reducible first|exact .v|exact .c))|((with_reducible apply vmC);(case e=>simp;with_reducible first|exact .t|exact .f)))
  rw [← hha]
  refine A.mono (new_ans 100 ha (by omega)) ?_
  rintro _ h1 ⟨p, m, rfl, d1, e1, pn, mn⟩
  have w1 := wf_new 100 (by omega)
  refine ⟨_, by simp; first | done | rfl, ?_⟩
  repeat (first|with_reducible refine vmR ?_|with_reducible refine vmV rfl ?_|with_reducible refine vmW rfl ?_|with_reducible refine blockW_y (by decide) ?_|with_reducible refine vmL ?_|((with_reducible first|apply vmO|apply vmT);(case a=>simp [eqlAV];with_reducible first|exact .v|exact .c))|((with_reducible apply vmC);(case e=>simp [eqlAV];with_reducible first|exact .t|exact .f)))
  refine A.mono (createW [97] (by simp) p m _ w1 h1 d1) ?_
  rintro _ h2 ⟨_, d2, e2⟩
  have w2 := wf_create w1 [97]
  rw [show (Dk.create ⟨[], 0, 100, -1, false⟩ [97]).2 = ⟨[([97], ([], 0), 0)], 1, 100, -1, false⟩ from rfl] at d2 w2
  have x2 : HE ha h2 := e1.x2 e2 (fun q hq => by rcases hq with rfl | rfl <;> assumption) (fun _ z => z.elim)
  have p2 : ∀ t, h2.pol t = false := fun t => by rw [x2.pol]; exact pa t
  have g2 : h2.ng ≠ 0 := by have := x2.ng; omega
  refine ⟨_, by simp; first | done | rfl, ?_⟩
  repeat (first|with_reducible refine vmR ?_|with_reducible refine vmV rfl ?_|with_reducible refine vmW rfl ?_|with_reducible refine blockW_y (by decide) ?_|with_reducible refine vmL ?_|((with_reducible first|apply vmO|apply vmT);(case a=>simp [newSeq, newSl, p2, convAV, u8B, setEls, g2];with_reducible first|exact .v|exact .c))|((with_reducible apply vmC);(case e=>simp [newSeq, newSl, p2, convAV, u8B, setEls, g2];with_reducible first|exact .t|exact .f)))
  have y2 := (HE.refl h2).newSl 3
  refine A.mono (appendW [97] [97, 98, 99] _ (by simp) p m _ w2 _ (d2.he y2) (BV.sv (.inr (.inl ⟨_, _, _, rfl⟩))) (fun q hq => by obtain ⟨_, _, _, _, _, e⟩ := hq; cases e) (by exact p2 _)) ?_
  rintro _ h3 ⟨_, d3, e3⟩
  have w3 := wf_append w2 [97] [97, 98, 99]
  rw [show (Dk.append ⟨[([97], ([], 0), 0)], 1, 100, -1, false⟩ [97] [97, 98, 99]).2 = ⟨[([97], ([97, 98, 99], 0), 0)], 1, 100, -1, false⟩ from rfl] at d3 w3
  have x3 : HE ha h3 := (x2.trans y2).x2 e3 (fun q hq => by rcases hq with rfl | rfl <;> assumption) (fun _ z => z.elim)
  refine ⟨_, by simp; first | done | rfl, ?_⟩
  repeat (first|with_reducible refine vmR ?_|with_reducible refine vmV rfl ?_|with_reducible refine vmW rfl ?_|with_reducible refine blockW_y (by decide) ?_|with_reducible refine vmL ?_|((with_reducible first|apply vmO|apply vmT);(case a=>simp;with_reducible first|exact .v|exact .c))|((with_reducible apply vmC);(case e=>simp;with_reducible first|exact .t|exact .f)))
  refine A.mono (syncW [97] p m _ w3 h3 d3) ?_
  rintro _ h4 ⟨_, d4, e4⟩
  have w4 := wf_sync w3 [97]
  rw [show (Dk.sync ⟨[([97], ([97, 98, 99], 0), 0)], 1, 100, -1, false⟩ [97]).2 = ⟨[([97], ([97, 98, 99], 3), 0)], 1, 100, -1, false⟩ from rfl] at d4 w4
  have x4 : HE ha h4 := x3.x2 e4 (fun q hq => by rcases hq with rfl | rfl <;> assumption) (fun _ z => z.elim)
  refine ⟨_, by simp; first | done | rfl, ?_⟩
  repeat (first|with_reducible refine vmR ?_|with_reducible refine vmV rfl ?_|with_reducible refine vmW rfl ?_|with_reducible refine blockW_y (by decide) ?_|with_reducible refine vmL ?_|((with_reducible first|apply vmO|apply vmT);(case a=>simp;with_reducible first|exact .v|exact .c))|((with_reducible apply vmC);(case e=>simp;with_reducible first|exact .t|exact .f)))
  refine A.mono (arm_ans 0 p m _ h4 d4) ?_
  rintro _ h5 ⟨d5, e5⟩
  have w5 := wf_arm w4 0 (by omega)
  rw [show (Dk.arm ⟨[([97], ([97, 98, 99], 3), 0)], 1, 100, -1, false⟩ 0) = ⟨[([97], ([97, 98, 99], 3), 0)], 1, 100, 0, false⟩ from rfl] at w5
  replace d5 : DKs h5 p m ⟨[([97], ([97, 98, 99], 3), 0)], 1, 100, 0, false⟩ := d5
  have x5 : HE ha h5 := x4.x2 e5 (fun q hq => by rcases hq with rfl | rfl <;> assumption) (fun _ z => z.elim)
  have p5 : ∀ t, h5.pol t = false := fun t => by rw [x5.pol]; exact pa t
  have g5 : h5.ng ≠ 0 := by have := x5.ng; omega
  refine ⟨_, by simp; first | done | rfl, ?_⟩
  repeat (first|with_reducible refine vmR ?_|with_reducible refine vmV rfl ?_|with_reducible refine vmW rfl ?_|with_reducible refine blockW_y (by decide) ?_|with_reducible refine vmL ?_|((with_reducible first|apply vmO|apply vmT);(case a=>simp [newSeq, newSl, p5, convAV, u8B, setEls, g5];with_reducible first|exact .v|exact .c))|((with_reducible apply vmC);(case e=>simp [newSeq, newSl, p5, convAV, u8B, setEls, g5];with_reducible first|exact .t|exact .f)))
  have y5 := (HE.refl h5).newSl 3
  refine A.mono (appendW [97] [100, 101, 102] _ (by simp) p m _ w5 _ (d5.he y5) (BV.sv (.inr (.inl ⟨_, _, _, rfl⟩))) (fun q hq => by obtain ⟨_, _, _, _, _, e⟩ := hq; cases e) (by exact p5 _)) ?_
  rintro _ h6 ⟨rfl, d6, e6⟩
  have w6 := wf_append w5 [97] [100, 101, 102]
  rw [show (Dk.append ⟨[([97], ([97, 98, 99], 3), 0)], 1, 100, 0, false⟩ [97] [100, 101, 102]).2 = ⟨[([97], ([97, 98, 99, 100, 101, 102], 3), 0)], 1, 100, -1, true⟩ from rfl] at d6 w6
  rw [show (Dk.append ⟨[([97], ([97, 98, 99], 3), 0)], 1, 100, 0, false⟩ [97] [100, 101, 102]).1 = 7 from rfl]
  have x6 : HE ha h6 := (x5.trans y5).x2 e6 (fun q hq => by rcases hq with rfl | rfl <;> assumption) (fun _ z => z.elim)
  have p6 : ∀ t, h6.pol t = false := fun t => by rw [x6.pol]; exact pa t
  refine ⟨_, by simp; first | done | rfl, ?_⟩
  repeat (first|with_reducible refine vmR ?_|with_reducible refine vmV rfl ?_|with_reducible refine vmW rfl ?_|with_reducible refine blockW_y (by decide) ?_|with_reducible refine vmL ?_|((with_reducible first|apply vmO|apply vmT);(case a=>simp [newSeq, newSl, p6, setEls];with_reducible first|exact .v|exact .c))|((with_reducible apply vmC);(case e=>simp [newSeq, newSl, p6, setEls];with_reducible first|exact .t|exact .f)))
  have y6 := (HE.refl h6).newSl 1
  refine A.mono (up_ans [1] (by simp) (by simp) _ (.inr (.inl ⟨_, _, _, rfl⟩)) p m _ w6.ok (by simp) _ (d6.he y6)) ?_
  rintro _ h7 ⟨_, d7, e7⟩
  obtain ⟨l, l1, _, d7⟩ := d7 rfl
  have hl : l = [[97]] := by simpa using l1
  subst hl
  have w7 := wf_up w6 [1] [[97]]
  rw [show (Dk.up [1] [[97]] ⟨[([97], ([97, 98, 99, 100, 101, 102], 3), 0)], 1, 100, -1, true⟩) = ⟨[([97], ([97, 98, 99, 100], 4), 0)], 1, 100, -1, false⟩ from rfl] at d7 w7
  have x7 : HE ha h7 := (x6.trans y6).x2 e7 (fun q hq => by rcases hq with rfl | rfl <;> assumption) (fun _ z => z.elim)
  have p7 : ∀ t, h7.pol t = false := fun t => by rw [x7.pol]; exact pa t
  refine ⟨_, by simp; first | done | rfl, ?_⟩
  repeat (first|with_reducible refine vmR ?_|with_reducible refine vmV rfl ?_|with_reducible refine vmW rfl ?_|with_reducible refine blockW_y (by decide) ?_|with_reducible refine vmL ?_|((with_reducible first|apply vmO|apply vmT);(case a=>simp;with_reducible first|exact .v|exact .c))|((with_reducible apply vmC);(case e=>simp;with_reducible first|exact .t|exact .f)))
  refine A.mono (readW [97] 0 9 p m _ w7 h7 d7) ?_
  rintro _ h8 ⟨bv, rfl, b8, e8⟩
  rw [show readR [97] 0 9 ⟨[([97], ([97, 98, 99, 100], 4), 0)], 1, 100, -1, false⟩ = ([97, 98, 99, 100], 0) from rfl] at b8 ⊢
  simp only [NB, p7, Bool.false_eq_true, if_false] at b8
  have bc := b8.cells
  have bi := b8.isCell
  have cv := conv_txt (cs := [97, 98, 99, 100]) (h := h8) b8
  refine ⟨_, by simp; first | done | rfl, ?_⟩
  repeat (first|with_reducible refine vmR ?_|with_reducible refine vmV rfl ?_|with_reducible refine vmW rfl ?_|with_reducible refine blockW_y (by decide) ?_|with_reducible refine vmL ?_|((with_reducible first|apply vmO|apply vmT);(case a=>simp [bc, bi, cv, eqB];with_reducible first|exact .v|exact .c))|((with_reducible apply vmC);(case e=>simp [bc, bi, cv, eqB];with_reducible first|exact .t|exact .f)))
  (first | apply endW_r | apply endW_n); (case h1 => (simp [Try.results13]; first | done | rfl))
  exact ⟨rfl, f0 _ (x7.trans e8)⟩
end Go.Vn

set_option maxRecDepth 20000
namespace Go.Vn
open Go.Proofs

theorem okc_tab : ∀ n, n < 256 → okc (UInt8.ofNat n) = ((decide (97 ≤ n) && decide (n ≤ 122)) || (decide (48 ≤ n) && decide (n ≤ 57)) || decide (n = 46) || decide (n = 45)) := by decide +kernel
theorem okc_eq (c : UInt8) : okc c = ((decide (97 ≤ c.toNat) && decide (c.toNat ≤ 122)) || (decide (48 ≤ c.toNat) && decide (c.toNat ≤ 57)) || decide (c.toNat = 46) || decide (c.toNat = 45)) := by
  have := okc_tab c.toNat c.toNat_lt
  simpa using this

theorem rnamed_ans (s : List UInt8) (hs : s.length ≤ 1000000) (h0 : Hp Fm) : A Try.prog TT (.func 14) [.str s] h0 (fun r h' => r = .bool (namedP s) ∧ h' = h0) := by
  obtain ⟨n, hn⟩ : ∃ n, n = s.length := ⟨_, rfl⟩
  apply A_go Try.func14 rfl (by rfl); (case hn => (simp [Try.ntmps14]; rfl))
  repeat (first|with_reducible refine vmR ?_|with_reducible refine vmV rfl ?_|with_reducible refine vmW rfl ?_|with_reducible refine blockW_y (by decide) ?_|with_reducible refine vmL ?_|((with_reducible first|apply vmO|apply vmT);(case a=>simp;with_reducible first|exact .v|exact .c))|((with_reducible apply vmC);(case e=>simp;with_reducible first|exact .t|exact .f)))
  refine W_loop (fun mm st => ∃ (t : Fm AV) (i : Nat), st = ⟨t, 46, h0, none⟩ ∧ mm = n - i ∧ i ≤ n ∧ (s.take i).all okc = true ∧ tget t 0 = .str s ∧ tget t 3 = .int .i64 i) n
      ⟨_, 0, rfl, rfl, by omega, by simp, by simp, by simp⟩ ?_
  rintro _ _ ⟨t, i, rfl, rfl, hi, ha, t0, t3⟩
  by_cases q : i < n
  case neg =>
    have q' : ¬ (i : Int) < n := by omega
    have : i = n := by omega
    subst this
    rw [hn, List.take_length] at ha
    rw [hn] at q'
    by_cases q2 : 1 ≤ s.length
    · have q2' : (1 : Int) ≤ s.length := by omega
      by_cases q3 : s.length ≤ 20
      · have q3' : (s.length : Int) ≤ 20 := by omega
        repeat (first|with_reducible refine vmR ?_|with_reducible refine vmV rfl ?_|with_reducible refine vmW rfl ?_|with_reducible refine blockW_y (by decide) ?_|with_reducible refine vmL ?_|((with_reducible first|apply vmO|apply vmT);(case a=>simp [t0, t3, hn, q', q2, q2', q3, q3'];with_reducible first|exact .v|exact .c))|((with_reducible apply vmC);(case e=>simp [t0, t3, hn, q', q2, q2', q3, q3'];with_reducible first|exact .t|exact .f)))
        (first | apply endW_r | apply endW_n); (case h1 => (simp [Try.results14]; first | done | rfl))
        exact ⟨by simp [namedP, ha, q2, q3], rfl⟩
      · have q3' : ¬ (s.length : Int) ≤ 20 := by omega
        repeat (first|with_reducible refine vmR ?_|with_reducible refine vmV rfl ?_|with_reducible refine vmW rfl ?_|with_reducible refine blockW_y (by decide) ?_|with_reducible refine vmL ?_|((with_reducible first|apply vmO|apply vmT);(case a=>simp [t0, t3, hn, q', q2, q2', q3, q3'];with_reducible first|exact .v|exact .c))|((with_reducible apply vmC);(case e=>simp [t0, t3, hn, q', q2, q2', q3, q3'];with_reducible first|exact .t|exact .f)))
        (first | apply endW_r | apply endW_n); (case h1 => (simp [Try.results14]; first | done | rfl))
        exact ⟨by simp [namedP, q3], rfl⟩
    · have q2' : ¬ (1 : Int) ≤ s.length := by omega
      repeat (first|with_reducible refine vmR ?_|with_reducible refine vmV rfl ?_|with_reducible refine vmW rfl ?_|with_reducible refine blockW_y (by decide) ?_|with_reducible refine vmL ?_|((with_reducible first|apply vmO|apply vmT);(case a=>simp [t0, t3, hn, q', q2, q2'];with_reducible first|exact .v|exact .c))|((with_reducible apply vmC);(case e=>simp [t0, t3, hn, q', q2, q2'];with_reducible first|exact .t|exact .f)))
      (first | apply endW_r | apply endW_n); (case h1 => (simp [Try.results14]; first | done | rfl))
      exact ⟨by simp [namedP, q2], rfl⟩
  have q' : (i : Int) < n := by omega
  rw [hn] at q'
  have qs : i < s.length := by omega
  have w1 : IntKind.i64.wrap ((i : Int) + 1) = ((i + 1 : Nat) : Int) := by rw [wrap64 (by omega) (by omega)]; simp
  have gi : s[i]? = some s[i] := List.getElem?_eq_getElem qs
  obtain ⟨c, hc⟩ : ∃ c, c = s[i] := ⟨_, rfl⟩
  rw [← hc] at gi
  by_cases a5 : c.toNat = 46
  · have a1 : ¬ (97 ≤ c.toNat) := by omega
    have a1' : ¬ ((97 : Int) ≤ c.toNat) := by omega
    have a3 : ¬ (48 ≤ c.toNat) := by omega
    have a3' : ¬ ((48 : Int) ≤ c.toNat) := by omega
    have a5' : (c.toNat : Int) = 46 := by omega
    have hk : okc c = true := by rw [okc_eq]; simp; omega
    repeat (first|with_reducible refine vmR ?_|with_reducible refine vmV rfl ?_|with_reducible refine vmW rfl ?_|with_reducible refine blockW_y (by decide) ?_|with_reducible refine vmL ?_|((with_reducible first|apply vmO|apply vmT);(case a=>simp [t0, t3, q', indexAV, gi, byteAV, w1, a1, a1', a3, a3', a5, a5'];with_reducible first|exact .v|exact .c))|((with_reducible apply vmC);(case e=>simp [t0, t3, q', indexAV, gi, byteAV, w1, a1, a1', a3, a3', a5, a5'];with_reducible first|exact .t|exact .f)))
    refine ⟨n - (i + 1), by omega, _, i + 1, rfl, rfl, by omega, ?_, by simp [t0], by simp⟩
    rw [List.take_succ_eq_append_getElem qs, List.all_append, ha, ← hc]; simp [hk]
  have a5' : ¬ ((c.toNat : Int) = 46) := by omega
  by_cases a6 : c.toNat = 45
  · have a1 : ¬ (97 ≤ c.toNat) := by omega
    have a1' : ¬ ((97 : Int) ≤ c.toNat) := by omega
    have a3 : ¬ (48 ≤ c.toNat) := by omega
    have a3' : ¬ ((48 : Int) ≤ c.toNat) := by omega
    have a6' : (c.toNat : Int) = 45 := by omega
    have hk : okc c = true := by rw [okc_eq]; simp; omega
    repeat (first|with_reducible refine vmR ?_|with_reducible refine vmV rfl ?_|with_reducible refine vmW rfl ?_|with_reducible refine blockW_y (by decide) ?_|with_reducible refine vmL ?_|((with_reducible first|apply vmO|apply vmT);(case a=>simp [t0, t3, q', indexAV, gi, byteAV, w1, a1, a1', a3, a3', a5, a5', a6, a6'];with_reducible first|exact .v|exact .c))|((with_reducible apply vmC);(case e=>simp [t0, t3, q', indexAV, gi, byteAV, w1, a1, a1', a3, a3', a5, a5', a6, a6'];with_reducible first|exact .t|exact .f)))
    refine ⟨n - (i + 1), by omega, _, i + 1, rfl, rfl, by omega, ?_, by simp [t0], by simp⟩
    rw [List.take_succ_eq_append_getElem qs, List.all_append, ha, ← hc]; simp [hk]
  have a6' : ¬ ((c.toNat : Int) = 45) := by omega
  by_cases a1 : 97 ≤ c.toNat
  · have a1' : (97 : Int) ≤ c.toNat := by omega
    have a3 : 48 ≤ c.toNat := by omega
    have a3' : (48 : Int) ≤ c.toNat := by omega
    have a4 : ¬ (c.toNat ≤ 57) := by omega
    have a4' : ¬ ((c.toNat : Int) ≤ 57) := by omega
    by_cases a2 : c.toNat ≤ 122
    · have a2' : (c.toNat : Int) ≤ 122 := by omega
      have hk : okc c = true := by rw [okc_eq]; simp; omega
      repeat (first|with_reducible refine vmR ?_|with_reducible refine vmV rfl ?_|with_reducible refine vmW rfl ?_|with_reducible refine blockW_y (by decide) ?_|with_reducible refine vmL ?_|((with_reducible first|apply vmO|apply vmT);(case a=>simp [t0, t3, q', indexAV, gi, byteAV, w1, a1, a1', a2, a2'];with_reducible first|exact .v|exact .c))|((with_reducible apply vmC);(case e=>simp [t0, t3, q', indexAV, gi, byteAV, w1, a1, a1', a2, a2'];with_reducible first|exact .t|exact .f)))
      refine ⟨n - (i + 1), by omega, _, i + 1, rfl, rfl, by omega, ?_, by simp [t0], by simp⟩
      rw [List.take_succ_eq_append_getElem qs, List.all_append, ha, ← hc]; simp [hk]
    · have a2' : ¬ ((c.toNat : Int) ≤ 122) := by omega
      have hk : okc c = false := by rw [okc_eq]; simp; omega
      repeat (first|with_reducible refine vmR ?_|with_reducible refine vmV rfl ?_|with_reducible refine vmW rfl ?_|with_reducible refine blockW_y (by decide) ?_|with_reducible refine vmL ?_|((with_reducible first|apply vmO|apply vmT);(case a=>simp [t0, t3, q', indexAV, gi, byteAV, w1, a1, a1', a2, a2', a3, a3', a4, a4', a5, a5', a6, a6'];with_reducible first|exact .v|exact .c))|((with_reducible apply vmC);(case e=>simp [t0, t3, q', indexAV, gi, byteAV, w1, a1, a1', a2, a2', a3, a3', a4, a4', a5, a5', a6, a6'];with_reducible first|exact .t|exact .f)))
      (first | apply endW_r | apply endW_n); (case h1 => (simp [Try.results14]; first | done | rfl))
      refine ⟨?_, rfl⟩
      have : s.all okc = false := by
        rw [List.all_eq_false]; exact ⟨c, by rw [hc]; exact List.getElem_mem qs, by simp [hk]⟩
      simp [namedP, this]
  have a1' : ¬ ((97 : Int) ≤ c.toNat) := by omega
  by_cases a3 : 48 ≤ c.toNat
  · have a3' : (48 : Int) ≤ c.toNat := by omega
    by_cases a4 : c.toNat ≤ 57
    · have a4' : (c.toNat : Int) ≤ 57 := by omega
      have hk : okc c = true := by rw [okc_eq]; simp; omega
      repeat (first|with_reducible refine vmR ?_|with_reducible refine vmV rfl ?_|with_reducible refine vmW rfl ?_|with_reducible refine blockW_y (by decide) ?_|with_reducible refine vmL ?_|((with_reducible first|apply vmO|apply vmT);(case a=>simp [t0, t3, q', indexAV, gi, byteAV, w1, a1, a1', a3, a3', a4, a4'];with_reducible first|exact .v|exact .c))|((with_reducible apply vmC);(case e=>simp [t0, t3, q', indexAV, gi, byteAV, w1, a1, a1', a3, a3', a4, a4'];with_reducible first|exact .t|exact .f)))
      refine ⟨n - (i + 1), by omega, _, i + 1, rfl, rfl, by omega, ?_, by simp [t0], by simp⟩
      rw [List.take_succ_eq_append_getElem qs, List.all_append, ha, ← hc]; simp [hk]
    · have a4' : ¬ ((c.toNat : Int) ≤ 57) := by omega
      have hk : okc c = false := by rw [okc_eq]; simp; omega
      repeat (first|with_reducible refine vmR ?_|with_reducible refine vmV rfl ?_|with_reducible refine vmW rfl ?_|with_reducible refine blockW_y (by decide) ?_|with_reducible refine vmL ?_|((with_reducible first|apply vmO|apply vmT);(case a=>simp [t0, t3, q', indexAV, gi, byteAV, w1, a1, a1', a3, a3', a4, a4', a5, a5', a6, a6'];with_reducible first|exact .v|exact .c))|((with_reducible apply vmC);(case e=>simp [t0, t3, q', indexAV, gi, byteAV, w1, a1, a1', a3, a3', a4, a4', a5, a5', a6, a6'];with_reducible first|exact .t|exact .f)))
      (first | apply endW_r | apply endW_n); (case h1 => (simp [Try.results14]; first | done | rfl))
      refine ⟨?_, rfl⟩
      have : s.all okc = false := by
        rw [List.all_eq_false]; exact ⟨c, by rw [hc]; exact List.getElem_mem qs, by simp [hk]⟩
      simp [namedP, this]
  · have a3' : ¬ ((48 : Int) ≤ c.toNat) := by omega
    have hk : okc c = false := by rw [okc_eq]; simp; omega
    repeat (first|with_reducible refine vmR ?_|with_reducible refine vmV rfl ?_|with_reducible refine vmW rfl ?_|with_reducible refine blockW_y (by decide) ?_|with_reducible refine vmL ?_|((with_reducible first|apply vmO|apply vmT);(case a=>simp [t0, t3, q', indexAV, gi, byteAV, w1, a1, a1', a3, a3', a5, a5', a6, a6'];with_reducible first|exact .v|exact .c))|((with_reducible apply vmC);(case e=>simp [t0, t3, q', indexAV, gi, byteAV, w1, a1, a1', a3, a3', a5, a5', a6, a6'];with_reducible first|exact .t|exact .f)))
    (first | apply endW_r | apply endW_n); (case h1 => (simp [Try.results14]; first | done | rfl))
    refine ⟨?_, rfl⟩
    have : s.all okc = false := by
      rw [List.all_eq_false]; exact ⟨c, by rw [hc]; exact List.getElem_mem qs, by simp [hk]⟩
    simp [namedP, this]

theorem nilptr (p : Nat) : eqlAV Try.prog 20 23 (.ptr p 0) .nilp = some false := by simp [eqlAV]

set_option maxHeartbeats 1000000 in
theorem disknames_law (nm : Tx) (hn : nm.length ≤ 9223372036854775807) (h0 : Hp Fm) (hg : 0 < h0.ng) : A Try.prog TT (.func 5) [.str nm] h0 (fun r h' => r = .bool true ∧ HE h0 h') := by
  obtain ⟨s, hs⟩ : ∃ s, s = nm.take 30 := ⟨_, rfl⟩
  have hsl : s.length ≤ 1000000 := by rw [hs, List.length_take]; omega
  apply A_go Try.func5 rfl (by rfl); (case hn => (simp [Try.ntmps5]; rfl))
  repeat (first|with_reducible refine vmR ?_|with_reducible refine vmV rfl ?_|with_reducible refine vmW rfl ?_|with_reducible refine blockW_y (by decide) ?_|with_reducible refine vmL ?_|((with_reducible first|apply vmO|apply vmT);(case a=>simp;with_reducible first|exact .v|exact .c))|((with_reducible apply vmC);(case e=>simp;with_reducible first|exact .t|exact .f)))
  refine A.mono (few_ans nm hn h0) ?_
  rintro _ hh ⟨rfl, ehh⟩
  rw [ehh, ← hs]
  refine ⟨_, by simp; first | done | rfl, ?_⟩
  repeat (first|with_reducible refine vmR ?_|with_reducible refine vmV rfl ?_|with_reducible refine vmW rfl ?_|with_reducible refine blockW_y (by decide) ?_|with_reducible refine vmL ?_|((with_reducible first|apply vmO|apply vmT);(case a=>simp;with_reducible first|exact .v|exact .c))|((with_reducible apply vmC);(case e=>simp;with_reducible first|exact .t|exact .f)))
  refine A.mono (new_ans 10 h0 (by omega)) ?_
  rintro _ h1 ⟨p, m, rfl, d1, e1, pn, mn⟩
  have w1 := wf_new 10 (by omega)
  obtain ⟨D0, hD0⟩ : ∃ D0 : Dk, D0 = ⟨[], 0, 10, -1, false⟩ := ⟨_, rfl⟩
  rw [← hD0] at d1 w1
  refine ⟨_, by simp; first | done | rfl, ?_⟩
  repeat (first|with_reducible refine vmR ?_|with_reducible refine vmV rfl ?_|with_reducible refine vmW rfl ?_|with_reducible refine blockW_y (by decide) ?_|with_reducible refine vmL ?_|((with_reducible first|apply vmO|apply vmT);(case a=>simp [eqlAV];with_reducible first|exact .v|exact .c))|((with_reducible apply vmC);(case e=>simp [eqlAV];with_reducible first|exact .t|exact .f)))
  refine A.mono (createW s hsl p m D0 w1 h1 d1) ?_
  rintro _ h2 ⟨rfl, d2, e2⟩
  have w2 := wf_create w1 s
  have x2 : HE h0 h2 := e1.x2 e2 (fun q hq => by rcases hq with rfl | rfl <;> assumption) (fun _ z => z.elim)
  refine ⟨_, by simp; first | done | rfl, ?_⟩
  repeat (first|with_reducible refine vmR ?_|with_reducible refine vmV rfl ?_|with_reducible refine vmW rfl ?_|with_reducible refine blockW_y (by decide) ?_|with_reducible refine vmL ?_|((with_reducible first|apply vmO|apply vmT);(case a=>simp;with_reducible first|exact .v|exact .c))|((with_reducible apply vmC);(case e=>simp;with_reducible first|exact .t|exact .f)))
  refine A.mono (rnamed_ans s hsl h2) ?_
  rintro _ hh ⟨rfl, ehh⟩
  rw [ehh]
  clear ehh hh
  refine ⟨_, by simp; first | done | rfl, ?_⟩
  repeat (first|with_reducible refine vmR ?_|with_reducible refine vmV rfl ?_|with_reducible refine vmW rfl ?_|with_reducible refine blockW_y (by decide) ?_|with_reducible refine vmL ?_|((with_reducible first|apply vmO|apply vmT);(case a=>simp;with_reducible first|exact .v|exact .c))|((with_reducible apply vmC);(case e=>simp;with_reducible first|exact .t|exact .f)))
  refine A.mono (list_ans p m (D0.create s).2 h2 d2 (by have := w2.many; omega)) ?_
  rintro lv h3 ⟨l, l1, e3, l2, l3⟩
  have lc := l1.cells
  have li := l1.isCell
  have ll := l1.len Try.underlying35
  rw [List.length_map] at ll
  have lm := l1.nm
  have g3 : 0 < h3.ng := by have := x2.ng; have := e3.ng; omega
  refine ⟨_, by simp; first | done | rfl, ?_⟩
  cases q : namedP s with
  | false =>
    have hc : (D0.create s) = (1, D0) := by rw [hD0]; simp [Dk.create, Dk.deed, q]
    rw [hc] at l3 ⊢
    have l0 : l = [] := by
      have := (l3 (by rw [hD0])).1
      rw [hD0] at this
      simpa using this
    subst l0
    repeat (first|with_reducible refine vmR ?_|with_reducible refine vmV rfl ?_|with_reducible refine vmW rfl ?_|with_reducible refine blockW_y (by decide) ?_|with_reducible refine vmL ?_|((with_reducible first|apply vmO|apply vmT);(case a=>simp [lc, li, ll, lm];with_reducible first|exact .v|exact .c))|((with_reducible apply vmC);(case e=>simp [lc, li, ll, lm];with_reducible first|exact .t|exact .f)))
    refine A.mono (lives_ans h3 g3) ?_
    rintro _ h4 ⟨rfl, e4⟩
    refine ⟨_, by simp; first | done | rfl, ?_⟩
    repeat (first|with_reducible refine vmR ?_|with_reducible refine vmV rfl ?_|with_reducible refine vmW rfl ?_|with_reducible refine blockW_y (by decide) ?_|with_reducible refine vmL ?_|((with_reducible first|apply vmO|apply vmT);(case a=>simp;with_reducible first|exact .v|exact .c))|((with_reducible apply vmC);(case e=>simp;with_reducible first|exact .t|exact .f)))
    (first | apply endW_r | apply endW_n); (case h1 => (simp [Try.results5]; first | done | rfl))
    exact ⟨rfl, (x2.trans e3).trans e4⟩
  | true =>
    have hc : (D0.create s) = (0, ⟨[(s, ([], 0), 0)], 1, 10, -1, false⟩) := by
      rw [hD0]; simp [Dk.create, Dk.deed, q, has, lookF, Dk.put, Dk.tick, setF, clkF]
    rw [hc] at l3 d2 w2 ⊢
    have l0 : l = [s] := by
      have := (l3 rfl).1
      simpa using this
    subst l0
    have lx := l1.idx (k := .i64) (i := 0) Try.underlying35 z9 (by omega) (by simp)
    simp only [List.map_cons, List.map_nil, Int.toNat_zero, List.getElem_cons_zero] at lx
    have es : eqB s s = true := by rw [eqB_dec]; simp
    repeat (first|with_reducible refine vmR ?_|with_reducible refine vmV rfl ?_|with_reducible refine vmW rfl ?_|with_reducible refine blockW_y (by decide) ?_|with_reducible refine vmL ?_|((with_reducible first|apply vmO|apply vmT);(case a=>simp [lc, li, ll, lm];with_reducible first|exact .v|exact .c))|((with_reducible apply vmC);(case e=>simp [lc, li, ll, lm];with_reducible first|exact .t|exact .f)))
    refine A.mono (createW s hsl p m _ w2 h3 (d2.he e3)) ?_
    rintro _ h4 ⟨rfl, d4, e4⟩
    have hc2 : (Dk.create ⟨[(s, ([], 0), 0)], 1, 10, -1, false⟩ s).1 = 9 := by simp [Dk.create, Dk.deed, q, has, lookF]
    rw [hc2]
    have x4 : HE h0 h4 := (x2.trans e3).x2 e4 (fun q hq => by rcases hq with rfl | rfl <;> assumption) (fun _ z => z.elim)
    refine ⟨_, by simp; first | done | rfl, ?_⟩
    repeat (first|with_reducible refine vmR ?_|with_reducible refine vmV rfl ?_|with_reducible refine vmW rfl ?_|with_reducible refine blockW_y (by decide) ?_|with_reducible refine vmL ?_|((with_reducible first|apply vmO|apply vmT);(case a=>simp [lc, li, ll, lm, lx, es];with_reducible first|exact .v|exact .c))|((with_reducible apply vmC);(case e=>simp [lc, li, ll, lm, lx, es];with_reducible first|exact .t|exact .f)))
    refine A.mono (lives_ans h4 (by have := x4.ng; omega)) ?_
    rintro _ h5 ⟨rfl, e5⟩
    refine ⟨_, by simp; first | done | rfl, ?_⟩
    repeat (first|with_reducible refine vmR ?_|with_reducible refine vmV rfl ?_|with_reducible refine vmW rfl ?_|with_reducible refine blockW_y (by decide) ?_|with_reducible refine vmL ?_|((with_reducible first|apply vmO|apply vmT);(case a=>simp;with_reducible first|exact .v|exact .c))|((with_reducible apply vmC);(case e=>simp;with_reducible first|exact .t|exact .f)))
    (first | apply endW_r | apply endW_n); (case h1 => (simp [Try.results5]; first | done | rfl))
    exact ⟨rfl, x4.trans e5⟩
end Go.Vn
