/- What functions of the program come to, in the value machine (a part of the proof of the claim's statement). No condition. -/
import Derived.Test.YtihkcenkpkepiaaGreatVnG1
import Derived.Test.YtihkcenkpkepiaaGreatVnG3
set_option linter.unusedSimpArgs false
set_option linter.unusedVariables false
set_option maxRecDepth 20000
namespace Go.Vn
open Go.Proofs
abbrev Tx := List UInt8

def keepN (keep : List Int) (i : Nat) : Nat := if keep.length = 0 then 0 else
  if keep.getD (i % keep.length) 0 < 0 then (-(keep.getD (i % keep.length) 0 + 1)).toNat else (keep.getD (i % keep.length) 0).toNat
def upStep (keep : List Int) (s : Dk × Nat) (k : Tx) : Dk × Nat := match lookF k s.1.fs with
  | none => s
  | some a => if a.2 < a.1.length then (s.1.put k (a.1.take (a.2 + keepN keep s.2 % (a.1.length - a.2 + 1)), a.2 + keepN keep s.2 % (a.1.length - a.2 + 1)), s.2 + 1) else s
def Dk.up (keep : List Int) (l : List Tx) (D : Dk) : Dk := (l.foldl (upStep keep) ({ D with left := -1, down := false }, 0)).1
def Dk.ok (D : Dk) : Prop := ∀ k a, lookF k D.fs = some a → a.2 ≤ a.1.length ∧ a.1.length ≤ 67108864

end Go.Vn

set_option maxRecDepth 20000
namespace Go.Vn
open Go.Proofs

def lenF (o : Option FV) : Nat := match o with | none => 0 | some a => a.1.length
theorem used_setF (k : Tx) (a : FV) (clk : Nat) (fs : Ents FV) : used (setF k a clk fs) + lenF (lookF k fs) = used fs + a.1.length := by
  induction fs with
  | nil => simp [setF, used, lookF, lenF]
  | cons f fs ih =>
    simp only [setF, lookF]
    split
    · simp only [used, List.map_cons, List.sum_cons, lenF] at ih ⊢; omega
    · simp only [used, List.map_cons, List.sum_cons] at ih ⊢; omega
theorem used_delF (k : Tx) (fs : Ents FV) : used (delF k fs) + lenF (lookF k fs) = used fs := by
  induction fs with
  | nil => simp [delF, used, lookF, lenF]
  | cons f fs ih =>
    simp only [delF, lookF]
    split
    · simp only [used, List.map_cons, List.sum_cons, lenF]; omega
    · simp only [used, List.map_cons, List.sum_cons] at ih ⊢; omega
theorem len_setF (k : Tx) (a : FV) (clk : Nat) (fs : Ents FV) : (setF k a clk fs).length = fs.length + if (lookF k fs).isSome then 0 else 1 := by
  have := congrArg List.length (setF_births (k := k) (a := a) (clk := clk) fs)
  rw [List.length_map] at this
  rw [this]
  split
  · rw [List.length_map]; omega
  · rw [List.length_append, List.length_map]; simp
theorem len_delF (k : Tx) (fs : Ents FV) : (delF k fs).length ≤ fs.length := (delF_sub k fs).length_le
theorem lookF_mem {k : Tx} {fs : Ents FV} {a : FV} (h : lookF k fs = some a) : ∃ f ∈ fs, f.1 = k ∧ f.2.1 = a := by
  induction fs with
  | nil => cases h
  | cons f fs ih =>
    simp only [lookF] at h
    split at h
    · rename_i e; cases h; exact ⟨f, by simp, e, rfl⟩
    · obtain ⟨g, g1, g2⟩ := ih h; exact ⟨g, List.mem_cons_of_mem _ g1, g2⟩

structure Dk.wf (D : Dk) : Prop where
  fok : ∀ f ∈ D.fs, f.2.1.2 ≤ f.2.1.1.length
  used : used D.fs ≤ 16777216
  many : D.fs.length ≤ 400
  left : -1 ≤ D.left ∧ D.left ≤ 9223372036854775807
  quota : 0 ≤ D.quota ∧ D.quota ≤ 16777216
theorem Dk.wf.ok {D : Dk} (h : D.wf) : D.ok := fun k a ha => by
  obtain ⟨f, f1, f2, rfl⟩ := lookF_mem ha
  have := lookF_used ha
  exact ⟨h.fok f f1, by have := h.used; omega⟩

theorem fok_setF {k : Tx} {a : FV} {clk : Nat} {fs : Ents FV} (h : ∀ f ∈ fs, f.2.1.2 ≤ f.2.1.1.length) (ha : a.2 ≤ a.1.length) : ∀ f ∈ setF k a clk fs, f.2.1.2 ≤ f.2.1.1.length := fun f hf => by
  rcases setF_mem hf with h1 | ⟨_, h1, _⟩
  · exact h f h1
  · rw [h1]; exact ha
theorem wf_put {D : Dk} (h : D.wf) (k : Tx) (a : FV) (ha : a.2 ≤ a.1.length) (hu : used D.fs + a.1.length ≤ 16777216 + lenF (lookF k D.fs)) (hn : (lookF k D.fs).isSome = true ∨ D.fs.length < 400) : (D.put k a).wf := by
  have hm := h.many
  refine ⟨fok_setF h.fok ha, ?_, ?_, h.left, h.quota⟩
  · have := used_setF k a D.clk D.fs; show Vn.used (setF k a D.clk D.fs) ≤ _; omega
  · show (setF k a D.clk D.fs).length ≤ 400
    rw [len_setF]
    split <;> rename_i q
    · omega
    · rcases hn with hn | hn
      · exact (q hn).elim
      · omega
theorem wf_del {D : Dk} (h : D.wf) (k : Tx) : (D.del k).wf :=
  ⟨fun f hf => h.fok f ((delF_sub k D.fs).subset hf), by have := used_delF k D.fs; have := h.used; show Vn.used (delF k D.fs) ≤ _; omega, by have := len_delF k D.fs; have := h.many; show (delF k D.fs).length ≤ _; omega, h.left, h.quota⟩
theorem wf_tick {D : Dk} (h : D.wf) : D.tick.wf := ⟨h.fok, h.used, h.many, by have := h.left; unfold Dk.tick; simp only; split <;> omega, h.quota⟩
theorem wf_cut {D : Dk} (h : D.wf) : D.cut.wf := ⟨h.fok, h.used, h.many, by unfold Dk.cut; simp, h.quota⟩
theorem wf_deed {D : Dk} (h : D.wf) (e : Int) (does torn : Dk → Dk) (h1 : e = 0 → (does D.tick).wf) (h2 : e = 0 → (torn D.cut).wf) : (D.deed e does torn).2.wf := by
  unfold Dk.deed
  split
  · exact h
  · split
    · exact h
    · rename_i q; have q : e = 0 := by omega
      split
      · exact h2 q
      · exact h1 q

def Dk.create (D : Dk) (k : Tx) : Int × Dk := D.deed (if namedP k then (if has k D then 9 else if 400 ≤ D.fs.length then 6 else 0) else 1) (fun D => D.put k ([], 0)) id
theorem wf_create {D : Dk} (h : D.wf) (k : Tx) : (D.create k).2.wf := by
  refine wf_deed h _ _ _ (fun e => ?_) (fun e => wf_cut h)
  have hh := wf_tick h
  have hn : D.fs.length < 400 := by
    split at e
    · split at e
      · cases e
      · split at e
        · cases e
        · omega
    · cases e
  exact wf_put hh k _ (by simp) (by have := hh.used; simp; omega) (.inr hn)
def Dk.append (D : Dk) (k b : Tx) : Int × Dk := D.deed (appE k b D) (Dk.app b k) (Dk.app b k)
theorem appE_ok {k b : Tx} {D : Dk} (e : appE k b D = 0) : has k D = true ∧ (b.length : Int) ≤ D.quota - used D.fs := by
  unfold appE at e
  split at e
  · rename_i q
    split at e
    · cases e
    · exact ⟨q, by omega⟩
  · cases e
theorem wf_app {D : Dk} (h : D.wf) (k b : Tx) (hq : (b.length : Int) ≤ D.quota - used D.fs) : (D.app b k).wf := by
  unfold Dk.app
  cases ha : lookF k D.fs with
  | none => exact h
  | some a =>
    obtain ⟨f, f1, f2, f3⟩ := lookF_mem ha
    have := h.fok f f1
    have h3 := h.quota
    rw [f3] at this
    refine wf_put h k _ (by simp only [List.length_append]; omega) ?_ (.inl (by rw [ha]; rfl))
    rw [ha]; simp only [lenF, List.length_append]; omega
theorem wf_append {D : Dk} (h : D.wf) (k b : Tx) : (D.append k b).2.wf :=
  wf_deed h _ _ _ (fun e => wf_app (wf_tick h) k b (appE_ok e).2) (fun e => wf_app (wf_cut h) k b (appE_ok e).2)
def Dk.sync (D : Dk) (k : Tx) : Int × Dk := D.deed (if has k D then 0 else 8) (Dk.syn k) id
theorem wf_syn {D : Dk} (h : D.wf) (k : Tx) : (D.syn k).wf := by
  unfold Dk.syn
  cases ha : lookF k D.fs with
  | none => exact h
  | some a =>
    have := h.used
    exact wf_put h k _ (by simp) (by rw [ha]; simp only [lenF]; omega) (.inl (by rw [ha]; rfl))
theorem wf_sync {D : Dk} (h : D.wf) (k : Tx) : (D.sync k).2.wf := wf_deed h _ _ _ (fun _ => wf_syn (wf_tick h) k) (fun _ => wf_cut h)
def Dk.remove (D : Dk) (k : Tx) : Int × Dk := D.deed (if has k D then 0 else 8) (fun D => D.del k) id
theorem wf_remove {D : Dk} (h : D.wf) (k : Tx) : (D.remove k).2.wf := wf_deed h _ _ _ (fun _ => wf_del (wf_tick h) k) (fun _ => wf_cut h)
def Dk.rename (D : Dk) (k k2 : Tx) : Int × Dk := D.deed (if has k D then (if namedP k2 then 0 else 1) else 8) (fun D => D.ren k k2) id
theorem delF_len {k : Tx} {fs : Ents FV} {a : FV} (h : lookF k fs = some a) : (delF k fs).length + 1 = fs.length := by
  induction fs with
  | nil => cases h
  | cons f fs ih =>
    simp only [lookF] at h
    simp only [delF]
    split at h
    · rename_i q; rw [if_pos q]; rfl
    · rename_i q; rw [if_neg q, List.length_cons, ih h, List.length_cons]
theorem wf_ren {D : Dk} (h : D.wf) (k k2 : Tx) : (D.ren k k2).wf := by
  unfold Dk.ren
  split
  · exact h
  · rename_i a ha
    obtain ⟨f, f1, f2, f3⟩ := lookF_mem ha
    have h1 := h.fok f f1
    rw [f3] at h1
    have h2 := used_delF k D.fs
    rw [ha] at h2
    simp only [lenF] at h2
    have h3 := h.used
    have h4 := delF_len ha
    have h5 := h.many
    refine wf_put (wf_del h k) k2 a h1 ?_ (.inr ?_)
    · show used (delF k D.fs) + a.1.length ≤ _; omega
    · show (delF k D.fs).length < 400; omega
theorem wf_rename {D : Dk} (h : D.wf) (k k2 : Tx) : (D.rename k k2).2.wf := wf_deed h _ _ _ (fun _ => wf_ren (wf_tick h) k k2) (fun _ => wf_cut h)
def Dk.arm (D : Dk) (n : Int) : Dk := { D with left := if n < -1 then -1 else n }
def Dk.setQuota (D : Dk) (q : Int) : Dk := if D.down ∨ q < 0 ∨ 16777216 < q then D else { D with quota := q }
theorem wf_new (q : Int) (hq : 0 ≤ q ∧ q ≤ 16777216) : ({ fs := [], clk := 0, quota := q, left := -1, down := false } : Dk).wf :=
  ⟨(fun _ h => by cases h), by simp [Vn.used], by simp, by simp, hq⟩
end Go.Vn

set_option maxRecDepth 20000
namespace Go.Vn
open Go.Proofs

theorem u8B : isU8 Tryz.prog 5 = true := by kernel_rfl
theorem asBytes2 (cs : List UInt8) : cs.mapM (asByte ∘ byteAV) = some cs := by
  induction cs with
  | nil => rfl
  | cons c cs ih =>
    rw [List.mapM_cons, ih]
    simp [byteAV, asByte]
theorem conv_txt (h : Hp Fm) {cs : List UInt8} {v : AV} (hv : SV 1 (cs.map byteAV) v) : convAV Tryz.prog h 22 9 v = some (.str cs, h) := by
  rcases hv with ⟨rfl, e⟩ | ⟨g, off, cp, rfl⟩ | ⟨c, rfl, e⟩
  · have : cs = [] := by simpa using e
    subst this
    simp [convAV, Tryz.underlying22, Tryz.underlying9, u8B]
  · simp [convAV, Tryz.underlying22, Tryz.underlying9, u8B, asBytes2]
  · have : cs = [] := by simpa using e
    subst this
    simp [convAV, Tryz.underlying22, Tryz.underlying9, u8B]
theorem conv_b (h : Hp Fm) (s : List UInt8) (hs : s.length ≤ 100000) : convAV Tryz.prog h 9 22 (.str s) = some (.sl h.ng 0 1 (h.grown s.length 0 5) (s.map byteAV), { h.drew with len := Mp.set h.len h.ng (s.map byteAV).length, ng := h.ng + 1 }) := by
  have h1 : s.length ≤ 2 ^ 40 := by omega
  unfold convAV
  simp [Tryz.underlying22, Tryz.underlying9, u8B, h1, newSl, Hp.drew]
theorem createW (k : Tx) (hk : k.length ≤ 1000000) (p m : Nat) (D : Dk) (w : D.wf) (h0 : Hp Fm) (d : DKs h0 p m D) :
    A Tryz.prog TT (.func 5) [.ptr p 0, .str k] h0 (fun r h' => r = .int .i64 (D.create k).1 ∧ DKs h' p m (D.create k).2 ∧ DX p m h0 h') :=
  create_ans k hk p m D h0 d w.left (by have := w.many; omega)
theorem appendW (k b : Tx) (v : AV) (hb : b.length ≤ 16777216) (p m : Nat) (D : Dk) (w : D.wf) (h0 : Hp Fm) (d : DKs h0 p m D) (kb : BV h0 v b) (kv : ∀ q, isRow v q → ¬ (q = p ∨ q = m)) (hp : h0.pol 22 = false) :
    A Tryz.prog TT (.func 6) [.ptr p 0, .str k, v] h0 (fun r h' => r = .int .i64 (D.append k b).1 ∧ DKs h' p m (D.append k b).2 ∧ DX p m h0 h') :=
  append_ans k b v hb p m D h0 d w.left w.quota w.used kb kv hp
theorem syncW (k : Tx) (p m : Nat) (D : Dk) (w : D.wf) (h0 : Hp Fm) (d : DKs h0 p m D) :
    A Tryz.prog TT (.func 29) [.ptr p 0, .str k] h0 (fun r h' => r = .int .i64 (D.sync k).1 ∧ DKs h' p m (D.sync k).2 ∧ DX p m h0 h') :=
  sync_ans k p m D h0 d w.left w.used
theorem readW (k : Tx) (at_ n : Int) (p m : Nat) (D : Dk) (w : D.wf) (h0 : Hp Fm) (d : DKs h0 p m D) :
    A Tryz.prog TT (.func 24) [.ptr p 0, .str k, .int .i64 at_, .int .i64 n] h0 (fun r h' => ∃ bv, r = .tup [bv, .int .i64 (readR k at_ n D).2] ∧ NB (h0.pol 5) h0.no h' (readR k at_ n D).1 bv ∧ HE h0 h') :=
  read_ans k at_ n p m D h0 d w.used
theorem HE.dx {h h' : Hp Fm} (k : HE h h') (p m : Nat) : DX p m h h' := k.x _ _

end Go.Vn
