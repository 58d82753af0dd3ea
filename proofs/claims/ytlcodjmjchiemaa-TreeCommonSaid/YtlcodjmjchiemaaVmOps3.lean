/- The value machine: numbers, texts, conversions, cuts, lengths. No condition. -/
import Derived.Test.YtlcodjmjchiemaaVmAppend
import Derived.Laws.Strings
import Derived.Laws.StructEq
import Derived.Laws.BytesString
set_option linter.unusedSimpArgs false
set_option linter.unusedVariables false
namespace Go.Vm

section
variable {μ : Type → Type} [Mp μ] {P : Program}
variable {ψ : Gh} {w : World} {h : Hp μ}

theorem ltB_eq : ∀ a b : List UInt8, ltB a b = Op.bytesLess a b
  | [], [] => rfl
  | [], _ :: _ => rfl
  | _ :: _, [] => rfl
  | a :: x, b :: y => by simp only [ltB, Op.bytesLess, ltB_eq x y]

theorem eqB_eq : ∀ a b : List UInt8, eqB a b = (a == b)
  | [], [] => rfl
  | [], _ :: _ => rfl
  | _ :: _, [] => rfl
  | a :: x, b :: y => by simp only [eqB, eqB_eq x y, List.cons_beq_cons]

theorem intBin_sound {op : BinOp} {t : TypeId} {k : IntKind} {a b : Int} {r : AV} (hl : intBin op k a b = some r) : ∃ u, (Go.binOp op t (.int k a) (.int k b)).run P w = .ok u w ∧ VR ψ w r u := by
  cases op <;> simp only [intBin] at hl
  case add => cases hl; exact ⟨_, by simp [Go.binOp, Op.intArith], .int _ _⟩
  case sub => cases hl; exact ⟨_, by simp [Go.binOp, Op.intArith], .int _ _⟩
  case mul => cases hl; exact ⟨_, by simp [Go.binOp, Op.intArith], .int _ _⟩
  case quo =>
    by_cases hb : b = 0
    · rw [if_pos hb] at hl; cases hl
    · rw [if_neg hb] at hl; cases hl; exact ⟨_, by simp [Go.binOp, Op.intDiv, hb], .int _ _⟩
  case rem =>
    by_cases hb : b = 0
    · rw [if_pos hb] at hl; cases hl
    · rw [if_neg hb] at hl; cases hl; exact ⟨_, by simp [Go.binOp, Op.intDiv, hb], .int _ _⟩
  case and => cases hl; exact ⟨_, by simp [Go.binOp, Op.intBits], .int _ _⟩
  case or => cases hl; exact ⟨_, by simp [Go.binOp, Op.intBits], .int _ _⟩
  case xor => cases hl; exact ⟨_, by simp [Go.binOp, Op.intBits], .int _ _⟩
  case andNot => cases hl; exact ⟨_, by simp [Go.binOp, Op.intBits], .int _ _⟩
  case eql => cases hl; exact ⟨.bool (a == b), by simp [Go.binOp, Op.intCmp], by rw [show (a == b) = decide (a = b) from by simp [BEq.beq]]; exact .bool _⟩
  case neq => cases hl; exact ⟨.bool (a != b), by simp [Go.binOp, Op.intCmp], by rw [show (a != b) = !decide (a = b) from by simp [bne, BEq.beq]]; exact .bool _⟩
  case lss => cases hl; exact ⟨.bool (decide (a < b)), by simp [Go.binOp, Op.intCmp], .bool _⟩
  case leq => cases hl; exact ⟨.bool (decide (a ≤ b)), by simp [Go.binOp, Op.intCmp], .bool _⟩
  case gtr => cases hl; exact ⟨.bool (decide (a > b)), by simp [Go.binOp, Op.intCmp], .bool _⟩
  case geq => cases hl; exact ⟨.bool (decide (a ≥ b)), by simp [Go.binOp, Op.intCmp], .bool _⟩
  all_goals cases hl

theorem shiftBin_sound {op : BinOp} (ho : op = .shl ∨ op = .shr) {t : TypeId} {k k' : IntKind} {a b : Int} {r : AV} (hl : shiftBin op k a b = some r) : ∃ u, (Go.binOp op t (.int k a) (.int k' b)).run P w = .ok u w ∧ VR ψ w r u := by
  unfold shiftBin at hl
  by_cases hb : b < 0
  · rw [if_pos hb] at hl; cases hl
  · rw [if_neg hb] at hl
    rcases ho with rfl | rfl
    · cases hl; exact ⟨_, by simp [Go.binOp, Op.shift, hb], .int _ _⟩
    · cases hl; exact ⟨_, by simp [Go.binOp, Op.shift, hb], .int _ _⟩

theorem strBin_sound {op : BinOp} {t : TypeId} {a b : List UInt8} {r : AV} (hl : strBin op a b = some r) : ∃ u, (Go.binOp op t (.string ⟨a.toArray⟩) (.string ⟨b.toArray⟩)).run P w = .ok u w ∧ VR ψ w r u := by
  have h1 : (ByteArray.mk a.toArray).toList = a := ByteArray.toList_mk a
  have h2 : (ByteArray.mk b.toArray).toList = b := ByteArray.toList_mk b
  cases op <;> simp only [strBin] at hl
  case add =>
    by_cases hb : a.length + b.length ≤ 2 ^ 46
    · rw [if_pos hb] at hl; cases hl
      have hs : ¬ (((ByteArray.mk a.toArray).size + (ByteArray.mk b.toArray).size : Nat) : Int) > IntKind.i64.max := by
        simp only [ByteArray.size, List.size_toArray, IntKind.max, IntKind.signed, IntKind.bits]; simp; omega
      refine ⟨.string (ByteArray.mk a.toArray ++ ByteArray.mk b.toArray), by simp only [Go.binOp, Op.stringOp]; rw [if_neg hs]; rfl, ?_⟩
      have : ByteArray.mk a.toArray ++ ByteArray.mk b.toArray = ByteArray.mk (a ++ b).toArray := by
        apply ByteArray.ext; simp
      rw [this]; exact .str _
    · rw [if_neg hb] at hl; cases hl
  case eql => cases hl; exact ⟨.bool (a == b), by simp [Go.binOp, Op.stringOp], by rw [eqB_eq]; exact .bool _⟩
  case neq => cases hl; exact ⟨.bool (!(a == b)), by simp [Go.binOp, Op.stringOp], by rw [eqB_eq]; exact .bool _⟩
  case lss => cases hl; exact ⟨.bool (Op.bytesLess a b), by simp [Go.binOp, Op.stringOp], by rw [ltB_eq]; exact .bool _⟩
  case leq => cases hl; exact ⟨.bool (Op.bytesLess a b || a == b), by simp [Go.binOp, Op.stringOp], by rw [ltB_eq, eqB_eq]; exact .bool _⟩
  case gtr => cases hl; exact ⟨.bool (!(Op.bytesLess a b || a == b)), by simp [Go.binOp, Op.stringOp], by rw [ltB_eq, eqB_eq]; exact .bool _⟩
  case geq => cases hl; exact ⟨.bool (!Op.bytesLess a b), by simp [Go.binOp, Op.stringOp], by rw [ltB_eq]; exact .bool _⟩
  all_goals cases hl

theorem un_sound {op : UnOp} {x r : AV} {v : Value} (hl : unAV op x = some r) (hv : VR ψ w x v) : ∃ u, (Op.unary op v).run P w = .ok u w ∧ VR ψ w r u := by
  cases op <;> cases hv <;> simp only [unAV] at hl <;> cases hl
  · exact ⟨_, rfl, .int _ _⟩
  · exact ⟨_, rfl, .int _ _⟩
  · exact ⟨_, rfl, .bool _⟩

theorem len_sound {ts : Array TypeId} {t ty : TypeId} {x r : AV} {v : Value} (h0 : ts[0]? = some t) (hl : lenAV P t x = some r) (hv : VR ψ w x v) : ∃ u, (Builtin.len_ ts ty #[v]).run P w = .ok u w ∧ VR ψ w r u := by
  unfold lenAV at hl
  cases hu : P.underlying t with
  | none => rw [hu] at hl; cases hl
  | some d =>
    rw [hu] at hl
    cases d <;> (try simp only at hl) <;> try (cases hl; done)
    · cases hv <;> cases hl
      rename_i s
      have hsz : (ByteArray.mk s.toArray).size = s.length := by simp [ByteArray.size]
      exact ⟨.int .i64 s.length, by simp [Builtin.len_, h0, underlying_run hu, goInt, hsz], .int _ _⟩
    · cases hv <;> cases hl
      · exact ⟨.int .i64 0, by simp [Builtin.len_, h0, underlying_run hu, goInt], .int _ _⟩
      · exact ⟨_, by simp [Builtin.len_, h0, underlying_run hu, goInt], .int _ _⟩
    · cases hl
      exact ⟨_, by simp [Builtin.len_, h0, underlying_run hu, goInt], .int _ _⟩
    · cases hv <;> cases hl
      exact ⟨.int .i64 0, by simp [Builtin.len_, h0, underlying_run hu, goInt], .int _ _⟩

theorem bound_sound {x : AV} {v : Value} {y n : Nat} {code : BoundsCode} (hl : bound x y = some n) (hv : VR ψ w x v) : (Instr.sliceBound v y code).run P w = .ok n w ∧ n ≤ y := by
  cases hv <;> try (cases hl; done)
  rename_i k i
  simp only [bound] at hl
  by_cases hb : 0 ≤ i ∧ i ≤ y
  · rw [if_pos hb] at hl; cases hl
    exact ⟨by simp [Instr.sliceBound, asIntOf, hb], by omega⟩
  · rw [if_neg hb] at hl; cases hl

/-- Operands that may be missing. -/
def VRo (ψ : Gh) (w : World) : Option AV → Option Value → Prop
  | none, none => True
  | some a, some v => VR ψ w a v
  | _, _ => False

theorem bounds_sound {isS : Bool} {len cap m h l : Nat} {lo hi mx : Option AV} {lv hv mv : Option Value} (r1 : VRo ψ w lo lv) (r2 : VRo ψ w hi hv) (r3 : VRo ψ w mx mv) (hmh : (mx.isSome && hi.isNone) = false)
    (h3 : ∀ q, mx = some q → bound q cap = some m) (h3' : mx = none → m = cap) (h2 : ∀ q, hi = some q → bound q m = some h) (h2' : hi = none → h = len) (h1 : obound lo 0 h = some l) :
    (Instr.sliceBounds isS len cap lv hv mv).run P w = .ok (l, h, m) w := by
  have key : ∀ (v : Value) (y n : Nat), (∀ code, (Instr.sliceBound v y code).run P w = .ok n w) → ∀ code, (Instr.sliceBound v y code).run P w = .ok n w := fun _ _ _ q => q
  cases mx with
  | none =>
    cases mv with
    | some v => cases r3
    | none =>
      obtain rfl := h3' rfl
      cases hi with
      | none =>
        cases hv with
        | some v => cases r2
        | none =>
          obtain rfl := h2' rfl
          cases lo with
          | none => cases lv with
            | some v => cases r1
            | none => simp only [obound] at h1; cases h1; simp [Instr.sliceBounds]
          | some q => cases lv with
            | none => cases r1
            | some v =>
              have b1 := key _ _ _ fun code => (bound_sound (P := P) (code := code) h1 r1).1
              simp [Instr.sliceBounds, b1]
      | some q2 =>
        cases hv with
        | none => cases r2
        | some v2 =>
          have b2 := key _ _ _ fun code => (bound_sound (P := P) (code := code) (h2 _ rfl) r2).1
          cases lo with
          | none => cases lv with
            | some v => cases r1
            | none => simp only [obound] at h1; cases h1; simp [Instr.sliceBounds, b2]
          | some q => cases lv with
            | none => cases r1
            | some v =>
              have b1 := key _ _ _ fun code => (bound_sound (P := P) (code := code) h1 r1).1
              simp [Instr.sliceBounds, b1, b2]
  | some q3 =>
    cases mv with
    | none => cases r3
    | some v3 =>
      have b3 := key _ _ _ fun code => (bound_sound (P := P) (code := code) (h3 _ rfl) r3).1
      cases hi with
      | none => simp at hmh
      | some q2 =>
        cases hv with
        | none => cases r2
        | some v2 =>
          have b2 := key _ _ _ fun code => (bound_sound (P := P) (code := code) (h2 _ rfl) r2).1
          cases lo with
          | none => cases lv with
            | some v => cases r1
            | none => simp only [obound] at h1; cases h1; simp [Instr.sliceBounds, b2, b3]
          | some q => cases lv with
            | none => cases r1
            | some v =>
              have b1 := key _ _ _ fun code => (bound_sound (P := P) (code := code) h1 r1).1
              simp [Instr.sliceBounds, b1, b2, b3]

theorem obound_le {x : Option AV} {d y n : Nat} (h : obound x d y = some n) (hd : d ≤ y) : n ≤ y := by
  cases x with
  | none => simp only [obound] at h; cases h; exact hd
  | some v =>
    simp only [obound] at h
    cases v <;> try (cases h; done)
    simp only [bound] at h
    split at h
    · cases h; omega
    · cases h

theorem slice_sound {t : TypeId} {x r : AV} {v : Value} {lo hi mx : Option AV} {lv hv mv : Option Value} (hl : sliceAV P t x lo hi mx = some r) (hx : VR ψ w x v) (r1 : VRo ψ w lo lv) (r2 : VRo ψ w hi hv) (r3 : VRo ψ w mx mv) :
    ∃ u, (Instr.sliceAt t v lv hv mv).run P w = .ok u w ∧ VR ψ w r u := by
  unfold sliceAV at hl
  cases hu : P.underlying t with
  | none => rw [hu] at hl; cases hl
  | some d =>
    rw [hu] at hl
    cases hx <;> cases d <;> simp only at hl <;> try (cases hl; done)
    · rename_i s
      by_cases hm : mx.isSome = true
      · rw [if_pos hm] at hl; cases hl
      · rw [if_neg hm] at hl
        have hmx : mx = none := by cases mx <;> simp at hm ⊢
        subst hmx
        have hmv : mv = none := by cases mv <;> simp [VRo] at r3 ⊢
        subst hmv
        cases h2 : obound hi s.length s.length with
        | none => rw [h2] at hl; cases hl
        | some hh =>
          rw [h2] at hl
          simp only [Option.bind_some] at hl
          cases h1 : obound lo 0 hh with
          | none => rw [h1] at hl; cases hl
          | some ll =>
            rw [h1] at hl; cases hl
            have hb := bounds_sound (P := P) (isS := false) (len := s.length) (cap := s.length) (m := s.length) r1 r2 r3 (by simp) (by simp) (fun _ => rfl) (fun q hq => by subst hq; exact h2) (fun hq => by subst hq; simp only [obound] at h2; cases h2; rfl) h1
            have hsz : (ByteArray.mk s.toArray).size = s.length := by simp [ByteArray.size]
            have hle := obound_le h2 (Nat.le_refl _)
            refine ⟨.string ((ByteArray.mk s.toArray).extract ll hh), ?_, ?_⟩
            · simp only [Instr.sliceAt, Instr.slice, Sem.run_bind, underlying_run hu, Result.andThen_ok, hsz, Option.isSome_none, Bool.false_eq_true, if_false, hb, Sem.run_pure]
            · have : (ByteArray.mk s.toArray).extract ll hh = ByteArray.mk ((s.drop ll).take (hh - ll)).toArray := by
                apply ByteArray.ext
                apply Array.toList_inj.1
                simp [ByteArray.data_extract]
              rw [this]; exact .str _
    · rename_i e
      cases hn : tsize P e with
      | none => rw [hn] at hl; cases hl
      | some sz =>
      rw [hn] at hl
      simp only [Option.bind_some] at hl
      cases h3 : obound mx 0 0 with
      | none => rw [h3] at hl; cases hl
      | some m =>
        rw [h3] at hl
        simp only [Option.bind_some] at hl
        cases h2 : obound hi 0 m with
        | none => rw [h2] at hl; cases hl
        | some hh =>
          rw [h2] at hl
          simp only [Option.bind_some] at hl
          cases h1 : obound lo 0 hh with
          | none => rw [h1] at hl; cases hl
          | some ll =>
            rw [h1] at hl
            simp only [Option.bind_some] at hl
            by_cases hq : (mx.isSome && hi.isNone) = true
            · rw [if_pos hq] at hl; cases hl
            · rw [if_neg hq] at hl; cases hl
              have m0 := obound_le h3 (Nat.le_refl _)
              have hh0 := obound_le h2 (by omega)
              have l0 := obound_le h1 (by omega)
              have em : m = 0 := by omega
              have eh : hh = 0 := by omega
              have el : ll = 0 := by omega
              subst em eh el
              have hb := bounds_sound (P := P) (isS := true) (len := 0) (cap := 0) (m := 0) (h := 0) (l := 0) r1 r2 r3 (by simpa only [Bool.not_eq_true] using hq) (fun q hq => by subst hq; exact h3) (fun _ => rfl) (fun q hq => by subst hq; exact h2) (fun _ => rfl) h1
              refine ⟨.slice none 0 0, ?_, .nils⟩
              simp [Instr.sliceAt, Instr.slice, underlying_run hu, hb, tsize_run hn]
    · rename_i g off sz cp els B p cap cs hgn hg he hsz hic hc hvv hlen hcap hcp hfr e
      by_cases hq : (mx.isSome && hi.isNone || tsize P e != some sz) = true
      · rw [if_pos hq] at hl; cases hl
      · rw [if_neg hq] at hl
        simp only [Bool.or_eq_true, not_or, Bool.not_eq_true, bne_eq_false_iff_eq] at hq
        obtain ⟨hq1, hq2⟩ := hq
        have hn : tsize P e = some sz := hq2
        cases h3 : obound mx els.length els.length with
        | none => rw [h3] at hl; cases hl
        | some m =>
          rw [h3] at hl
          simp only [Option.bind_some] at hl
          cases h2 : obound hi els.length m with
          | none => rw [h2] at hl; cases hl
          | some hh =>
            rw [h2] at hl
            simp only [Option.bind_some] at hl
            cases h1 : obound lo 0 hh with
            | none => rw [h1] at hl; cases hl
            | some ll =>
              rw [h1] at hl
              simp only [Option.bind_some] at hl
              cases hl
              have hm := obound_le h3 (Nat.le_refl _)
              have hhm : hh ≤ m := by
                cases hi with
                | some q => exact obound_le (x := some q) (d := 0) h2 (Nat.zero_le _)
                | none =>
                  simp only [obound] at h2
                  cases h2
                  cases mx with
                  | none => simp only [obound] at h3; cases h3; exact Nat.le_refl _
                  | some q => simp at hq1
              have hll := obound_le h1 (by omega)
              -- what the model's bounds are
              have hb : ∃ M, hh ≤ M ∧ M ≤ cap ∧ (mx.isSome = true → M = m) ∧ (mx.isSome = false → M = cap) ∧ (Instr.sliceBounds true els.length cap lv hv mv).run P w = .ok (ll, hh, M) w := by
                cases mx with
                | none =>
                  simp only [obound] at h3; cases h3
                  refine ⟨cap, by omega, Nat.le_refl _, by simp, by simp, ?_⟩
                  refine bounds_sound (P := P) r1 r2 r3 (by simp) (by simp) (fun _ => rfl) (fun q hq => ?_) (fun hq => by subst hq; simp only [obound] at h2; cases h2; rfl) h1
                  subst hq
                  simp only [obound] at h2
                  cases q <;> try (cases h2; done)
                  rename_i k i
                  simp only [bound] at h2 ⊢
                  split at h2
                  · cases h2
                    rename_i hx
                    rw [if_pos (by omega)]
                  · cases h2
                | some q =>
                  refine ⟨m, hhm, by omega, by simp, by simp, ?_⟩
                  refine bounds_sound (P := P) r1 r2 r3 hq1 (fun q' hq' => ?_) (by simp) (fun q hq => by subst hq; exact h2) (fun hq => by subst hq; simp at hq1) h1
                  cases hq'
                  simp only [obound] at h3
                  cases q <;> try (cases h3; done)
                  rename_i k i
                  simp only [bound] at h3 ⊢
                  split at h3
                  · cases h3
                    rename_i hx
                    rw [if_pos (by omega)]
                  · cases h3
              obtain ⟨M, hM1, hM2, hM3, hM4, hrun⟩ := hb
              have hlen2 : ((els.drop ll).take (hh - ll)).length = hh - ll := by rw [List.length_take, List.length_drop]; omega
              have hmul1 : ll * sz + (hh - ll) * sz ≤ els.length * sz := by rw [← Nat.add_mul]; exact Nat.mul_le_mul_right _ (by omega)
              have hsz' : ∀ x ∈ (els.drop ll).take (hh - ll), x.cells.length = sz := fun x hx => hsz x (List.mem_of_mem_drop (List.mem_of_mem_take hx))
              have hic' : ∀ x ∈ (els.drop ll).take (hh - ll), x.cells.all AV.isCell = true := fun x hx => hic x (List.mem_of_mem_drop (List.mem_of_mem_take hx))
              have hfl := flat_length hsz
              have hfl' := flat_length hsz'
              rw [hlen2] at hfl'
              have hpart : ∀ i, i < (hh - ll) * sz → ∃ (h1 : i < (flat ((els.drop ll).take (hh - ll))).length) (h2 : ll * sz + i < (flat els).length), (flat ((els.drop ll).take (hh - ll)))[i] = (flat els)[ll * sz + i] := fun i hi => by
                have hszp : 0 < sz := Nat.pos_of_ne_zero fun h => by rw [h] at hi; simp at hi
                have hj : i / sz < hh - ll := by rw [Nat.div_lt_iff_lt_mul hszp]; exact hi
                have hi' : i / sz * sz + i % sz = i := by rw [Nat.mul_comm]; exact Nat.div_add_mod i sz
                obtain ⟨a1, a2⟩ := flat_getElem hsz' (i / sz) (by omega) (i % sz) (Nat.mod_lt _ hszp)
                obtain ⟨b1, b2⟩ := flat_getElem hsz (ll + i / sz) (by omega) (i % sz) (Nat.mod_lt _ hszp)
                have e1 : (ll + i / sz) * sz + i % sz = ll * sz + i := by rw [Nat.add_mul]; omega
                simp only [hi'] at a1 a2
                simp only [e1] at b1 b2
                refine ⟨a1, b1, ?_⟩
                rw [a2, b2]
                simp only [List.getElem_take, List.getElem_drop]
              -- where it begins
              let p' := if M = ll then p else p + ll * sz
              have hp' : (els ≠ [] → p' + (hh - ll) * sz ≤ ψ.com B) ∧ (M ≠ ll → p' = p + ll * sz) := by
                by_cases hML : M = ll
                · have : hh - ll = 0 := by omega
                  simp only [p', if_pos hML, this, Nat.zero_mul]
                  exact ⟨fun hne => by have := he hne; omega, fun h => absurd hML h⟩
                · simp only [p', if_neg hML]
                  exact ⟨fun hne => by have := he hne; omega, fun _ => trivial⟩
              have hnn : (els.drop ll).take (hh - ll) ≠ [] → els ≠ [] := fun h1 h2 => h1 (by rw [h2]; simp)
              refine ⟨.slice (some ⟨B, p', none⟩) ((els.drop ll).take (hh - ll)).length (M - ll), ?_, ?_⟩
              · simp only [Instr.sliceAt, Instr.slice, Sem.run_bind, underlying_run hu, Result.andThen_ok, hrun, tsize_run hn, Sem.run_pure, hlen2, Option.map_some, addr_add, p']
                by_cases hML : M = ll
                · simp only [if_pos hML]
                · simp only [if_neg hML]
              · refine .sl g (off + ll) sz _ _ B p' (M - ll) (fun i => cs (ll * sz + i)) hgn (fun h => hg (hnn h)) (fun h => by rw [hlen2]; exact hp'.1 (hnn h)) hsz' hic' (fun i hi => ?_) (fun i hi => ?_) (fun k hk => ?_) (by rw [hlen2]; omega) (fun hcc => ?_) (fun hcc hlt k hk hke => ?_)
                · rw [hfl'] at hi
                  obtain ⟨a1, a2, a3⟩ := hpart i hi
                  have hML : M ≠ ll := fun h => by
                    have : hh - ll = 0 := by omega
                    rw [this] at hi; simp at hi
                  rw [hp'.2 hML, Nat.add_assoc]; exact hc _ a2
                · rw [hfl'] at hi
                  obtain ⟨a1, a2, a3⟩ := hpart i hi
                  rw [a3]; exact hvv _ a2
                · have := hlen k hk
                  rw [hlen2]; omega
                · rw [hlen2]
                  cases hmx : mx.isSome with
                  | true =>
                    rw [hmx] at hcc
                    simp only [if_true, beq_iff_eq] at hcc
                    have := hM3 hmx
                    omega
                  | false =>
                    rw [hmx] at hcc
                    simp only [Bool.false_eq_true, if_false, Bool.and_eq_true, beq_iff_eq] at hcc
                    have := hM4 hmx
                    have := hcp hcc.1
                    omega
                · rw [hlen2] at hlt hke ⊢
                  have hlk := hlen k hk
                  -- the end is the old end
                  have hhe : hh = els.length := by omega
                  have hML : M ≠ ll := by omega
                  rw [hp'.2 hML]
                  have hmx : mx.isSome = false := by
                    cases hmx : mx.isSome with
                    | false => rfl
                    | true => have := hM3 hmx; omega
                  have hMc := hM4 hmx
                  rw [hmx] at hcc
                  simp only [Bool.false_eq_true, if_false] at hcc
                  have hcp0 : cp = false := by
                    cases cp with
                    | false => rfl
                    | true => simp [hhe] at hcc
                  obtain ⟨f1, f2, f3⟩ := hfr hcp0 (by omega) k hk (by omega)
                  have hm1 : ll * sz + (hh - ll) * sz = els.length * sz := by rw [← Nat.add_mul]; congr 1; omega
                  have hm2 : ll * sz + (M - ll) * sz = cap * sz := by rw [← Nat.add_mul]; congr 1; omega
                  exact ⟨f1, by omega, by omega⟩
end
end Go.Vm
