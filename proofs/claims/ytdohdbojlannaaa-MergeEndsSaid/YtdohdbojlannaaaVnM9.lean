/- What is told so far is a beginning of what is told in whole. -/
import Derived.Test.YtdohdbojlannaaaVnM2
import Derived.Test.YtdohdbojlannaaaVnM6
import Derived.Test.YtdohdbojlannaaaVnM8
set_option linter.unusedSimpArgs false
set_option linter.unusedVariables false
namespace Go.Vn

theorem sort_one {E : Type} {c : E → E → Int} (k : CmpOk c) (m : List E) (hm : Sorted c m) (x : E) : ∃ m', Sorted c m' ∧ ∀ y, alike c y m' = alike c y m ++ alike c y [x] := by
  have hsp : m.takeWhile (fun y => !decide (c x y < 0)) ++ m.dropWhile (fun y => !decide (c x y < 0)) = m := List.takeWhile_append_dropWhile
  obtain ⟨a, ha⟩ : ∃ a, a = m.takeWhile (fun y => !decide (c x y < 0)) := ⟨_, rfl⟩
  obtain ⟨b, hb⟩ : ∃ b, b = m.dropWhile (fun y => !decide (c x y < 0)) := ⟨_, rfl⟩
  rw [← ha, ← hb] at hsp
  have h1 : ∀ y ∈ a, ¬ c x y < 0 := by
    intro y hy
    rw [ha] at hy
    have : ∀ (l : List E), y ∈ l.takeWhile (fun y => !decide (c x y < 0)) → (!decide (c x y < 0)) = true := by
      intro l
      induction l with
      | nil => intro h; cases h
      | cons z r ih =>
        intro h
        rw [List.takeWhile_cons] at h
        split at h
        · rename_i hz
          rcases List.mem_cons.mp h with e | e
          · subst e; exact hz
          · exact ih e
        · cases h
    simpa using this m hy
  have h2 : ∀ y ∈ b, c x y < 0 := by
    have hs : Sorted c b := by rw [← hsp] at hm; exact (sorted_split a b hm).2.1
    cases b with
    | nil => intro y hy; cases hy
    | cons b0 r =>
      have h0 : c x b0 < 0 := by
        have hne : m.dropWhile (fun y => !decide (c x y < 0)) ≠ [] := by rw [← hb]; simp
        have := List.head_dropWhile_not (fun y => !decide (c x y < 0)) hne
        simp only [← hb, List.head_cons] at this
        simpa using this
      intro y hy
      rcases List.mem_cons.mp hy with e | e
      · subst e; exact h0
      · exact k.ltl _ _ _ h0 (hs.1 y e)
  obtain ⟨p1, p2⟩ := put_in k (l := a) (m := b) (x := x) (by rw [hsp]; exact hm) (fun hn => h1 _ (List.getLast_mem hn)) h2
  exact ⟨_, p1, fun y => by rw [p2 y, hsp]⟩

theorem sort_all {E : Type} {c : E → E → Int} (k : CmpOk c) (l : List E) : ∃ m, Sorted c m ∧ ∀ y, alike c y m = alike c y l := by
  suffices h : ∀ n, ∀ l : List E, l.length = n → ∃ m, Sorted c m ∧ ∀ y, alike c y m = alike c y l from h _ l rfl
  intro n
  induction n with
  | zero => intro l hl; exact ⟨[], trivial, fun y => by rw [List.length_eq_zero_iff.mp hl]⟩
  | succ n ih =>
    intro l hl
    have hne : l ≠ [] := fun e => by rw [e] at hl; simp at hl
    obtain ⟨m, h1, h2⟩ := ih l.dropLast (by simp; omega)
    obtain ⟨m', h3, h4⟩ := sort_one k m h1 (l.getLast hne)
    refine ⟨m', h3, fun y => ?_⟩
    rw [h4 y, h2 y]
    have := congrArg (alike c y) (List.dropLast_concat_getLast hne)
    rw [← this]
    unfold alike; rw [List.filter_append]

theorem alike_mem {E : Type} {c : E → E → Int} (k : CmpOk c) {l m : List E} (h : ∀ y, alike c y l = alike c y m) {x : E} (hx : x ∈ l) : x ∈ m := by
  have h0 : c x x = 0 := by have := k.anti x x; omega
  have : x ∈ alike c x l := List.mem_filter.mpr ⟨hx, by simp [h0]⟩
  rw [h x] at this
  exact (List.mem_filter.mp this).1

theorem told_part {E : Type} [Inhabited E] {c : E → E → Int} (k : CmpOk c) {l : List (AV × List E)} (hs : ∀ q ∈ l, Sorted c q.2) {pre : List E} {L' : List (Hd E)} (h : Path (lessH c) (hds 0 l) pre L') :
    ∃ rest, Sorted c (pre ++ rest) ∧ ∀ x, alike c x (pre ++ rest) = alike c x (l.flatMap Prod.snd) := by
  have hso : ∀ w : Nat, Sorted c (((l[w]?).map Prod.snd).getD []) := by
    intro w
    cases e : l[w]? with
    | none => exact trivial
    | some q => exact hs q (List.mem_of_getElem? e)
  obtain ⟨M', hr, _, ha, hp, hle⟩ := h.law k (hds_rep l) hso
  obtain ⟨rest, r1, r2⟩ := sort_all k ((List.range l.length).flatMap M')
  refine ⟨rest, sorted_append _ _ hp r1 (fun p hp b hb => hle p hp b (alike_mem k r2 hb)), fun x => ?_⟩
  have := ha x
  rw [flat_nth] at this
  rw [this, ← r2 x]; simp [alike]
end Go.Vn

set_option maxRecDepth 20000
namespace Go.Vn
open Go.Proofs
@[simp] theorem hb4 : hasBody Try.prog 4 = true := by kernel_rfl
@[simp] theorem hb19' : hasBody Try.prog 19 = true := by kernel_rfl

@[simp] theorem eqf46 (f : Fn) (a b : List AV) : eqlAV Try.prog 20 46 (.fn f a b) .nilf = some false := by simp [eqlAV, Try.underlying46]

set_option maxHeartbeats 2000000 in
theorem merge_versions_law (l : List (AV × List Ver)) (a : AV) (hsv : SV 1 (l.map Prod.fst) a) (hin : ∀ q ∈ l, SV 8 (q.2.map encV) q.1) (h0 : Hp Fm) (hpol : h0.pol = fun _ => false) : A Try.prog TT (.func 4) [a] h0 (fun r h' => r = .bool true ∧ HE h0 h') := by
  have pf : ∀ h, HE h0 h → ∀ e, h.pol e = false := fun h he e => by rw [he.pol, hpol]
  apply A_go Try.func4 rfl (by rfl); (case hn => (simp [Try.ntmps4]; rfl))
  repeat (first | (with_reducible first | refine W_seq_i ?_ | refine W_block_i ?_ | refine W_region_i ?_ | refine W_skip_i ?_ | refine W_label_i ?_ | refine W_ret_i ?_ | refine W_exit_i ?_ | refine W_goto_i ?_ | refine W_scope_go ?_ | refine jumpW_r ?_ | refine jumpW_n ?_ | refine jumpW_x ?_ | refine blockW_g ?_ | refine thenW_n ?_ | refine blockW_n ?_ | refine blockW_x ?_ | refine blockW_y (by decide) ?_ | refine blockW_r ?_ | refine thenW_e (by simp; done) ?_ | refine WO_nil_i ?_ | refine WT_nil_i ?_) | (with_reducible apply W_cond_t; (case h => (simp; done))) | (with_reducible apply W_cond_f; (case h => (simp; done))) | ((with_reducible first | apply WO_val_i | apply WT_val_i); (case hw => (simp; done)); (case he => (simp; first | done | exact ⟨rfl, rfl⟩ | rfl)); (case hp => (simp; first | done | rfl))) | ((with_reducible first | apply WO_no_i | apply WT_no_i); (case hw => (simp; done)); (case hp => (simp; first | done | rfl))) | ((with_reducible first | apply WO_skip_i | apply WT_skip_i); (case hw => (simp; done)); (case he => (simp; first | done | rfl)); (case hp => (simp; first | done | rfl))) | ((with_reducible first | apply WO_call_i | apply WT_call_i); (case hw => (simp; done)); (case he => (simp; first | done | exact ⟨rfl, rfl, rfl⟩ | rfl))))
  refine A.mono (lists_ans l a hsv hin _ (pf _ (HE.refl _))) ?_
  rintro w0 h1 ⟨ls, hv0, hls, hlen, he1⟩
  have hsumL : left (hds 0 ls) ≤ 60 := by
    have := flat_le ls 12 (fun q hq => (hls q hq).2.2)
    rw [left_hds]; omega
  have v1 := hv0.cells
  have v2 := hv0.isCell
  have hsum : (ls.flatMap Prod.snd).length ≤ 60 := by
    have := flat_le ls 12 (fun q hq => (hls q hq).2.2)
    omega
  refine ⟨_, by simp; first | done | rfl, ?_⟩
  repeat (first | (with_reducible first | refine W_seq_i ?_ | refine W_block_i ?_ | refine W_region_i ?_ | refine W_skip_i ?_ | refine W_label_i ?_ | refine W_ret_i ?_ | refine W_exit_i ?_ | refine W_goto_i ?_ | refine W_scope_go ?_ | refine jumpW_r ?_ | refine jumpW_n ?_ | refine jumpW_x ?_ | refine blockW_g ?_ | refine thenW_n ?_ | refine blockW_n ?_ | refine blockW_x ?_ | refine blockW_y (by decide) ?_ | refine blockW_r ?_ | refine thenW_e (by simp; done) ?_ | refine WO_nil_i ?_ | refine WT_nil_i ?_) | (with_reducible apply W_cond_t; (case h => (simp [v1, v2]; done))) | (with_reducible apply W_cond_f; (case h => (simp [v1, v2]; done))) | ((with_reducible first | apply WO_val_i | apply WT_val_i); (case hw => (simp [v1, v2]; done)); (case he => (simp [v1, v2]; first | done | exact ⟨rfl, rfl⟩ | rfl)); (case hp => (simp [v1, v2]; first | done | rfl))) | ((with_reducible first | apply WO_no_i | apply WT_no_i); (case hw => (simp [v1, v2]; done)); (case hp => (simp [v1, v2]; first | done | rfl))) | ((with_reducible first | apply WO_skip_i | apply WT_skip_i); (case hw => (simp [v1, v2]; done)); (case he => (simp [v1, v2]; first | done | rfl)); (case hp => (simp [v1, v2]; first | done | rfl))) | ((with_reducible first | apply WO_call_i | apply WT_call_i); (case hw => (simp [v1, v2]; done)); (case he => (simp [v1, v2]; first | done | exact ⟨rfl, rfl, rfl⟩ | rfl))))
  refine A.mono (versions_ref ls w0 hv0 (fun q hq => (hls q hq).1) (by omega) (by omega) _ (pf _ he1 43)) ?_
  rintro w1 h2 ⟨want, q1, q2, q3, q4, he2⟩
  have u1 := q4.cells
  have u2 := q4.isCell
  have he2' := he1.trans he2
  refine ⟨_, by simp; first | done | rfl, ?_⟩
  repeat (first | (with_reducible first | refine W_seq_i ?_ | refine W_block_i ?_ | refine W_region_i ?_ | refine W_skip_i ?_ | refine W_label_i ?_ | refine W_ret_i ?_ | refine W_exit_i ?_ | refine W_goto_i ?_ | refine W_scope_go ?_ | refine jumpW_r ?_ | refine jumpW_n ?_ | refine jumpW_x ?_ | refine blockW_g ?_ | refine thenW_n ?_ | refine blockW_n ?_ | refine blockW_x ?_ | refine blockW_y (by decide) ?_ | refine blockW_r ?_ | refine thenW_e (by simp; done) ?_ | refine WO_nil_i ?_ | refine WT_nil_i ?_) | (with_reducible apply W_cond_t; (case h => (simp [u1, u2]; done))) | (with_reducible apply W_cond_f; (case h => (simp [u1, u2]; done))) | ((with_reducible first | apply WO_val_i | apply WT_val_i); (case hw => (simp [u1, u2]; done)); (case he => (simp [u1, u2]; first | done | exact ⟨rfl, rfl⟩ | rfl)); (case hp => (simp [u1, u2]; first | done | rfl))) | ((with_reducible first | apply WO_no_i | apply WT_no_i); (case hw => (simp [u1, u2]; done)); (case hp => (simp [u1, u2]; first | done | rfl))) | ((with_reducible first | apply WO_skip_i | apply WT_skip_i); (case hw => (simp [u1, u2]; done)); (case he => (simp [u1, u2]; first | done | rfl)); (case hp => (simp [u1, u2]; first | done | rfl))) | ((with_reducible first | apply WO_call_i | apply WT_call_i); (case hw => (simp [u1, u2]; done)); (case he => (simp [u1, u2]; first | done | exact ⟨rfl, rfl, rfl⟩ | rfl))))
  refine A.mono (all_ans ls w0 hv0 (fun q hq => (hls q hq).1) (fun q hq => (hls q hq).2.1) (by omega) (by omega) _ (pf _ he2' 43)) ?_
  rintro w3 h3 ⟨out, k1, k2, _, k3, he3⟩
  have hout : out = want := sorted_unique cmpV_ok _ _ k1 q1 (fun x => by rw [k2 x, q2 x])
  subst hout
  have he3' := he2'.trans he3
  refine ⟨_, by simp; first | done | rfl, ?_⟩
  repeat (first | (with_reducible first | refine W_seq_i ?_ | refine W_block_i ?_ | refine W_region_i ?_ | refine W_skip_i ?_ | refine W_label_i ?_ | refine W_ret_i ?_ | refine W_exit_i ?_ | refine W_goto_i ?_ | refine W_scope_go ?_ | refine jumpW_r ?_ | refine jumpW_n ?_ | refine jumpW_x ?_ | refine blockW_g ?_ | refine thenW_n ?_ | refine blockW_n ?_ | refine blockW_x ?_ | refine blockW_y (by decide) ?_ | refine blockW_r ?_ | refine thenW_e (by simp; done) ?_ | refine WO_nil_i ?_ | refine WT_nil_i ?_) | (with_reducible apply W_cond_t; (case h => (simp; done))) | (with_reducible apply W_cond_f; (case h => (simp; done))) | ((with_reducible first | apply WO_val_i | apply WT_val_i); (case hw => (simp; done)); (case he => (simp; first | done | exact ⟨rfl, rfl⟩ | rfl)); (case hp => (simp; first | done | rfl))) | ((with_reducible first | apply WO_no_i | apply WT_no_i); (case hw => (simp; done)); (case hp => (simp; first | done | rfl))) | ((with_reducible first | apply WO_skip_i | apply WT_skip_i); (case hw => (simp; done)); (case he => (simp; first | done | rfl)); (case hp => (simp; first | done | rfl))) | ((with_reducible first | apply WO_call_i | apply WT_call_i); (case hw => (simp; done)); (case he => (simp; first | done | exact ⟨rfl, rfl, rfl⟩ | rfl))))
  refine A.mono (same_ans _ _ w3 w1 k3 q4 (by omega) _) ?_
  rintro _ hb ⟨rfl, he4⟩
  have heb := he3'.trans he4
  refine ⟨_, by simp; first | done | rfl, ?_⟩
  repeat (first | (with_reducible first | refine W_seq_i ?_ | refine W_block_i ?_ | refine W_region_i ?_ | refine W_skip_i ?_ | refine W_label_i ?_ | refine W_ret_i ?_ | refine W_exit_i ?_ | refine W_goto_i ?_ | refine W_scope_go ?_ | refine jumpW_r ?_ | refine jumpW_n ?_ | refine jumpW_x ?_ | refine blockW_g ?_ | refine thenW_n ?_ | refine blockW_n ?_ | refine blockW_x ?_ | refine blockW_y (by decide) ?_ | refine blockW_r ?_ | refine thenW_e (by simp; done) ?_ | refine WO_nil_i ?_ | refine WT_nil_i ?_) | (with_reducible apply W_cond_t; (case h => (simp [v1, v2]; done))) | (with_reducible apply W_cond_f; (case h => (simp [v1, v2]; done))) | ((with_reducible first | apply WO_val_i | apply WT_val_i); (case hw => (simp [v1, v2]; done)); (case he => (simp [v1, v2]; first | done | exact ⟨rfl, rfl⟩ | rfl)); (case hp => (simp [v1, v2]; first | done | rfl))) | ((with_reducible first | apply WO_no_i | apply WT_no_i); (case hw => (simp [v1, v2]; done)); (case hp => (simp [v1, v2]; first | done | rfl))) | ((with_reducible first | apply WO_skip_i | apply WT_skip_i); (case hw => (simp [v1, v2]; done)); (case he => (simp [v1, v2]; first | done | rfl)); (case hp => (simp [v1, v2]; first | done | rfl))) | ((with_reducible first | apply WO_call_i | apply WT_call_i); (case hw => (simp [v1, v2]; done)); (case he => (simp [v1, v2]; first | done | exact ⟨rfl, rfl, rfl⟩ | rfl))))
  refine A.mono (seq_ver ⟨rfl, rfl⟩ ⟨v1, v2⟩ _) ?_
  rintro _ _ ⟨rfl, rfl⟩
  refine ⟨_, by simp; first | done | rfl, ?_⟩
  repeat (first | (with_reducible first | refine W_seq_i ?_ | refine W_block_i ?_ | refine W_region_i ?_ | refine W_skip_i ?_ | refine W_label_i ?_ | refine W_ret_i ?_ | refine W_exit_i ?_ | refine W_goto_i ?_ | refine W_scope_go ?_ | refine jumpW_r ?_ | refine jumpW_n ?_ | refine jumpW_x ?_ | refine blockW_g ?_ | refine thenW_n ?_ | refine blockW_n ?_ | refine blockW_x ?_ | refine blockW_y (by decide) ?_ | refine blockW_r ?_ | refine thenW_e (by simp; done) ?_ | refine WO_nil_i ?_ | refine WT_nil_i ?_) | (with_reducible apply W_cond_t; (case h => (simp; done))) | (with_reducible apply W_cond_f; (case h => (simp; done))) | ((with_reducible first | apply WO_val_i | apply WT_val_i); (case hw => (simp; done)); (case he => (simp; first | done | exact ⟨rfl, rfl⟩ | rfl)); (case hp => (simp; first | done | rfl))) | ((with_reducible first | apply WO_no_i | apply WT_no_i); (case hw => (simp; done)); (case hp => (simp; first | done | rfl))) | ((with_reducible first | apply WO_skip_i | apply WT_skip_i); (case hw => (simp; done)); (case he => (simp; first | done | rfl)); (case hp => (simp; first | done | rfl))) | ((with_reducible first | apply WO_call_i | apply WT_call_i); (case hw => (simp; done)); (case he => (simp; first | done | exact ⟨rfl, rfl, rfl⟩ | rfl))))
  refine W_range_i rfl (by simp [rangeE, laidF]; exact ⟨rfl, rfl, rfl⟩) ?_
  refine with_loop (hb.no + 1 + 2) _ (by simp; first | done | rfl) ?_
  intro lr hlr hget
  have pd : ({ hb with pol := (· == 67) } : Hp Fm).pol 43 = false := rfl
  refine A.mono (each_ver ord_ver (lessH_ord cmpV_ok) (hb.no + 1 + 2) (hb.no + 1) (hb.no + 1 + 1) w0 ls hv0 (fun q hq => (hls q hq).1) (by omega)
    (fun acc h => ∃ w, Mp.get h.obj hb.no = some (.row [w]) ∧ AC { hb with pol := (· == 67) } h 8 (acc.map encV) w ∧ HE { hb with pol := (· == 67) } h ∧ Mp.get h.obj (hb.no + 1 + 2) = some (.loop lr) ∧ hb.no + 1 + 2 < h.no)
    (fun _ _ => False) _ (by simp) (by simp) (by show hb.no + 1 < hb.no + 1 + 2 + 1; omega) (by show hb.no + 1 + 1 < hb.no + 1 + 2 + 1; omega) ?_ ?_ ?_) ?_
  · rintro acc h h' ⟨w, hw, hac, he, hl, hno⟩ hx
    have l1 : hb.no < h.no := by omega
    refine ⟨w, by rw [hx.obj _ l1 (by show ¬ (hb.no + 1 + 2 + 1 ≤ hb.no); omega)]; exact hw, hac.ofX hx, ?_, by rw [hx.obj _ hno (by show ¬ (hb.no + 1 + 2 + 1 ≤ hb.no + 1 + 2); omega)]; exact hl, Nat.lt_of_lt_of_le hno hx.no⟩
    exact ⟨Nat.le_trans he.no hx.no, Nat.le_trans he.ng hx.ng, hx.pol.trans he.pol, fun q hq => (hx.obj q (Nat.lt_of_lt_of_le hq he.no) (by have : q < hb.no := hq; show ¬ (hb.no + 1 + 2 + 1 ≤ q); omega)).trans (he.obj q hq), fun g hg => (hx.len g (Nat.lt_of_lt_of_le hg he.ng) (fun e => e)).trans (he.len g hg)⟩
  · intro acc x h L' hpath ⟨w, hw, hac, he, hl, hno⟩ hpol hno2
    obtain ⟨LR, hLR⟩ : ∃ LR, LR = lr := ⟨_, rfl⟩
    subst hlr
    refine A_round hl (by simp) ?_
    have ny : hb.no ≠ hb.no + 1 + 2 := by omega
    have ny2 : hb.no + 1 + 2 ≠ hb.no := by omega
    have nz1 : hb.no + 1 + 2 ≠ h.no := by omega
    have nz2 : hb.no ≠ h.no := by omega
    have nz3 : h.no ≠ hb.no + 1 + 2 := by omega
    have nz4 : h.no ≠ hb.no := by omega
    repeat (first | (with_reducible first | refine W_seq_i ?_ | refine W_block_i ?_ | refine W_region_i ?_ | refine W_skip_i ?_ | refine W_label_i ?_ | refine W_ret_i ?_ | refine W_exit_i ?_ | refine W_goto_i ?_ | refine W_scope_go ?_ | refine jumpW_r ?_ | refine jumpW_n ?_ | refine jumpW_x ?_ | refine blockW_g ?_ | refine thenW_n ?_ | refine blockW_n ?_ | refine blockW_x ?_ | refine blockW_y (by decide) ?_ | refine blockW_r ?_ | refine thenW_e (by simp; done) ?_ | refine WO_nil_i ?_ | refine WT_nil_i ?_) | (with_reducible apply W_cond_t; (case h => (simp [roundT]; done))) | (with_reducible apply W_cond_f; (case h => (simp [roundT]; done))) | ((with_reducible first | apply WO_val_i | apply WT_val_i); (case hw => (simp [roundT]; done)); (case he => (simp [roundT]; first | done | exact ⟨rfl, rfl⟩ | rfl)); (case hp => (simp [roundT]; first | done | rfl))) | ((with_reducible first | apply WO_no_i | apply WT_no_i); (case hw => (simp [roundT]; done)); (case hp => (simp [roundT]; first | done | rfl))) | ((with_reducible first | apply WO_skip_i | apply WT_skip_i); (case hw => (simp [roundT]; done)); (case he => (simp [roundT]; first | done | rfl)); (case hp => (simp [roundT]; first | done | rfl))) | ((with_reducible first | apply WO_call_i | apply WT_call_i); (case hw => (simp [roundT]; done)); (case he => (simp [roundT]; first | done | exact ⟨rfl, rfl, rfl⟩ | rfl))))
    refine ⟨rfl, _, by simp [beginR, hl, nz1]; first | done | rfl, ?_⟩
    have hp3 : h.pol 43 = false := by rw [hpol]; rfl
    repeat (first | (with_reducible first | refine W_seq_i ?_ | refine W_block_i ?_ | refine W_region_i ?_ | refine W_skip_i ?_ | refine W_label_i ?_ | refine W_ret_i ?_ | refine W_exit_i ?_ | refine W_goto_i ?_ | refine W_scope_go ?_ | refine jumpW_r ?_ | refine jumpW_n ?_ | refine jumpW_x ?_ | refine blockW_g ?_ | refine thenW_n ?_ | refine blockW_n ?_ | refine blockW_x ?_ | refine blockW_y (by decide) ?_ | refine blockW_r ?_ | refine thenW_e (by simp; done) ?_ | refine WO_nil_i ?_ | refine WT_nil_i ?_) | (with_reducible apply W_cond_t; (case h => (simp [roundT, hw, ny, ny2, nz1, nz2, nz3, nz4, newSeq, newSl, hp3]; done))) | (with_reducible apply W_cond_f; (case h => (simp [roundT, hw, ny, ny2, nz1, nz2, nz3, nz4, newSeq, newSl, hp3]; done))) | ((with_reducible first | apply WO_val_i | apply WT_val_i); (case hw => (simp [roundT, hw, ny, ny2, nz1, nz2, nz3, nz4, newSeq, newSl, hp3]; done)); (case he => (simp [roundT, hw, ny, ny2, nz1, nz2, nz3, nz4, newSeq, newSl, hp3]; first | done | exact ⟨rfl, rfl⟩ | rfl)); (case hp => (simp [roundT, hw, ny, ny2, nz1, nz2, nz3, nz4, newSeq, newSl, hp3]; first | done | rfl))) | ((with_reducible first | apply WO_no_i | apply WT_no_i); (case hw => (simp [roundT, hw, ny, ny2, nz1, nz2, nz3, nz4, newSeq, newSl, hp3]; done)); (case hp => (simp [roundT, hw, ny, ny2, nz1, nz2, nz3, nz4, newSeq, newSl, hp3]; first | done | rfl))) | ((with_reducible first | apply WO_skip_i | apply WT_skip_i); (case hw => (simp [roundT, hw, ny, ny2, nz1, nz2, nz3, nz4, newSeq, newSl, hp3]; done)); (case he => (simp [roundT, hw, ny, ny2, nz1, nz2, nz3, nz4, newSeq, newSl, hp3]; first | done | rfl)); (case hp => (simp [roundT, hw, ny, ny2, nz1, nz2, nz3, nz4, newSeq, newSl, hp3]; first | done | rfl))) | ((with_reducible first | apply WO_call_i | apply WT_call_i); (case hw => (simp [roundT, hw, ny, ny2, nz1, nz2, nz3, nz4, newSeq, newSl, hp3]; done)); (case he => (simp [roundT, hw, ny, ny2, nz1, nz2, nz3, nz4, newSeq, newSl, hp3]; first | done | exact ⟨rfl, rfl, rfl⟩ | rfl))))
    with_reducible apply WO_app_i; (case hw => (simp [roundT, hw, ny, ny2, nz1, nz2, nz3, nz4, newSeq, newSl, hp3]; done)); (case ho => rfl); (case hb => rfl); (case ha => (simp [roundT, hw, ny, ny2, nz1, nz2, nz3, nz4, newSeq, newSl, hp3]; first | done | exact ⟨rfl, rfl⟩ | rfl)); (case h1 => (simp; first | done | rfl)); (case h2 => (simp; first | done | rfl))
    have hlen3 : acc.length + 1 ≤ 1000000 := by
      have := hpath.left
      rw [List.length_append] at this
      simp at this; omega
    have hx3 := fun (lb : AObj Fm) => ((((HX.refl (· = hb.no + 1 + 2) (fun _ => False) h).new (.row [.str [], .int .i64 0, .int .i64 0, .int .i64 0, .int .i64 0, .int .i64 0, .str [], .bool false])).set (fun k => (Nat.lt_irrefl _ k).elim) (.row (encV x).cells)).set (fun _ => rfl) lb).newSl 1
    refine app_then (AC.app (h0 := { hb with pol := (· == 67) }) etl_ver (hac.ofX (hx3 _)) ((((he.new (.row [.str [], .int .i64 0, .int .i64 0, .int .i64 0, .int .i64 0, .int .i64 0, .str [], .bool false])).set (show hb.no ≤ h.no by omega) (.row (encV x).cells)).set (by show hb.no ≤ hb.no + 1 + 2; omega) _).newSl _) pd (by rw [List.length_map]; omega)) ?_
    rintro w2 h2 ⟨hac2, he2, ho2, hn2, hg2⟩
    refine ⟨_, by simp; rfl, ?_⟩
    have hw2 : Mp.get h2.obj hb.no = some (.row [w]) := by rw [ho2]; simp [ny, nz2, hw]
    have hc2 := hac2.sv.isCell
    have hcc2 := hac2.sv.cells
    repeat (first | (with_reducible first | refine W_seq_i ?_ | refine W_block_i ?_ | refine W_region_i ?_ | refine W_skip_i ?_ | refine W_label_i ?_ | refine W_ret_i ?_ | refine W_exit_i ?_ | refine W_goto_i ?_ | refine W_scope_go ?_ | refine jumpW_r ?_ | refine jumpW_n ?_ | refine jumpW_x ?_ | refine blockW_g ?_ | refine thenW_n ?_ | refine blockW_n ?_ | refine blockW_x ?_ | refine blockW_y (by decide) ?_ | refine blockW_r ?_ | refine thenW_e (by simp; done) ?_ | refine WO_nil_i ?_ | refine WT_nil_i ?_) | (with_reducible apply W_cond_t; (case h => (simp [roundT, hw, ny, ny2, nz1, nz2, nz3, nz4, newSeq, newSl, hp3, hw2, hc2, hcc2]; done))) | (with_reducible apply W_cond_f; (case h => (simp [roundT, hw, ny, ny2, nz1, nz2, nz3, nz4, newSeq, newSl, hp3, hw2, hc2, hcc2]; done))) | ((with_reducible first | apply WO_val_i | apply WT_val_i); (case hw => (simp [roundT, hw, ny, ny2, nz1, nz2, nz3, nz4, newSeq, newSl, hp3, hw2, hc2, hcc2]; done)); (case he => (simp [roundT, hw, ny, ny2, nz1, nz2, nz3, nz4, newSeq, newSl, hp3, hw2, hc2, hcc2]; first | done | exact ⟨rfl, rfl⟩ | rfl)); (case hp => (simp [roundT, hw, ny, ny2, nz1, nz2, nz3, nz4, newSeq, newSl, hp3, hw2, hc2, hcc2]; first | done | rfl))) | ((with_reducible first | apply WO_no_i | apply WT_no_i); (case hw => (simp [roundT, hw, ny, ny2, nz1, nz2, nz3, nz4, newSeq, newSl, hp3, hw2, hc2, hcc2]; done)); (case hp => (simp [roundT, hw, ny, ny2, nz1, nz2, nz3, nz4, newSeq, newSl, hp3, hw2, hc2, hcc2]; first | done | rfl))) | ((with_reducible first | apply WO_skip_i | apply WT_skip_i); (case hw => (simp [roundT, hw, ny, ny2, nz1, nz2, nz3, nz4, newSeq, newSl, hp3, hw2, hc2, hcc2]; done)); (case he => (simp [roundT, hw, ny, ny2, nz1, nz2, nz3, nz4, newSeq, newSl, hp3, hw2, hc2, hcc2]; first | done | rfl)); (case hp => (simp [roundT, hw, ny, ny2, nz1, nz2, nz3, nz4, newSeq, newSl, hp3, hw2, hc2, hcc2]; first | done | rfl))) | ((with_reducible first | apply WO_call_i | apply WT_call_i); (case hw => (simp [roundT, hw, ny, ny2, nz1, nz2, nz3, nz4, newSeq, newSl, hp3, hw2, hc2, hcc2]; done)); (case he => (simp [roundT, hw, ny, ny2, nz1, nz2, nz3, nz4, newSeq, newSl, hp3, hw2, hc2, hcc2]; first | done | exact ⟨rfl, rfl, rfl⟩ | rfl))))
    have hno3 : h2.no = h.no + 1 := hn2
    have hoo : ∀ q, q < h.no → q ≠ hb.no + 1 + 2 → Mp.get h2.obj q = Mp.get h.obj q := by
      intro q hqn hq
      rw [ho2]; simp [hq, Nat.ne_of_lt hqn]
    obtain ⟨lb, hlb, hlr2⟩ : ∃ lb : ALoop Fm, Mp.get h2.obj (hb.no + 1 + 2) = some (.loop lb) ∧ ({ lb with state := .ready, pending := none } : ALoop Fm) = LR := ⟨_, by rw [ho2]; simp; rfl, by rw [hLR]⟩
    refine ⟨_, _, by simp [endR, hlb, ny2]; exact ⟨rfl, rfl⟩, ?_⟩
    have hpq : h2.pol = h.pol := he2.pol.trans hpol.symm
    refine ⟨⟨by show h.no ≤ h2.no; omega, Nat.le_trans (Nat.le_succ _) hg2, hpq, ?_, fun g _ hn => (hn trivial).elim⟩, .inl ⟨rfl, w2, ?_, ?_, ?_, ?_, ?_⟩⟩
    · intro q hq hn
      have q1 : q ≠ hb.no + 1 + 2 := fun e => hn (by show q < hb.no + 1 + 2 + 1; omega)
      have q2 : q ≠ hb.no := fun e => hn (by show q < hb.no + 1 + 2 + 1; omega)
      simp [q1, q2, hoo q hq q1]
    · simp [ny]
    · rw [List.map_append]
      exact hac2.ofX ((HX.refl (fun _ => True) (fun _ => False) h2).set (fun _ => trivial) _ |>.set (fun _ => trivial) _)
    · exact (he2.set (Nat.le_refl _) _).set (by show hb.no ≤ hb.no + 1 + 2; omega) _
    · simp only [Mp.get_set, if_true]; rw [hlr2, hLR]
    · show hb.no + 1 + 2 < h2.no; omega
  · refine ⟨.nils, by simp [show hb.no ≠ hb.no + 1 + 2 by omega, show hb.no ≠ hb.no + 1 + 1 by omega], .inl ⟨rfl, rfl⟩, ?_, hget, by show hb.no + 1 + 2 < hb.no + 1 + 2 + 1; omega⟩
    refine ⟨by show hb.no ≤ hb.no + 1 + 2 + 1; omega, Nat.le_refl _, rfl, fun q hq => ?_, fun _ _ => rfl⟩
    have hq' : q < hb.no := hq
    simp [show q ≠ hb.no by omega, show q ≠ hb.no + 1 by omega, show q ≠ hb.no + 1 + 1 by omega, show q ≠ hb.no + 1 + 2 by omega]
  · rintro r h' ⟨h2, out2, L', rfl, hpol2, hpath, ⟨rfl, w, hw, hac, he, hl, hno⟩ | hk⟩
    · have hst : lr.state = .ready ∧ lr.pending = none := by subst hlr; exact ⟨rfl, rfl⟩
      refine ⟨_, _, by simp [rangeB, hl, hst.1, behind, hst.2]; exact ⟨rfl, rfl⟩, ?_⟩
      have ny : hb.no ≠ hb.no + 1 + 2 := by omega
      repeat (first | (with_reducible first | refine W_seq_i ?_ | refine W_block_i ?_ | refine W_region_i ?_ | refine W_skip_i ?_ | refine W_label_i ?_ | refine W_ret_i ?_ | refine W_exit_i ?_ | refine W_goto_i ?_ | refine W_scope_go ?_ | refine jumpW_r ?_ | refine jumpW_n ?_ | refine jumpW_x ?_ | refine blockW_g ?_ | refine thenW_n ?_ | refine blockW_n ?_ | refine blockW_x ?_ | refine blockW_y (by decide) ?_ | refine blockW_r ?_ | refine thenW_e (by simp; done) ?_ | refine WO_nil_i ?_ | refine WT_nil_i ?_) | (with_reducible apply W_cond_t; (case h => (simp [hw, ny]; done))) | (with_reducible apply W_cond_f; (case h => (simp [hw, ny]; done))) | ((with_reducible first | apply WO_val_i | apply WT_val_i); (case hw => (simp [hw, ny]; done)); (case he => (simp [hw, ny]; first | done | exact ⟨rfl, rfl⟩ | rfl)); (case hp => (simp [hw, ny]; first | done | rfl))) | ((with_reducible first | apply WO_no_i | apply WT_no_i); (case hw => (simp [hw, ny]; done)); (case hp => (simp [hw, ny]; first | done | rfl))) | ((with_reducible first | apply WO_skip_i | apply WT_skip_i); (case hw => (simp [hw, ny]; done)); (case he => (simp [hw, ny]; first | done | rfl)); (case hp => (simp [hw, ny]; first | done | rfl))) | ((with_reducible first | apply WO_call_i | apply WT_call_i); (case hw => (simp [hw, ny]; done)); (case he => (simp [hw, ny]; first | done | exact ⟨rfl, rfl, rfl⟩ | rfl))))
      obtain ⟨hg, hhg⟩ : ∃ hg : Hp Fm, hg = { h2 with obj := Mp.set h2.obj (hb.no + 1 + 2) (.loop { lr with state := .exhausted, pending := none }), pol := hb.pol } := ⟨_, rfl⟩
      have heg : HE hb hg := by
        rw [hhg]
        exact ⟨he.no, he.ng, rfl, fun q hq => by have hq' : q < hb.no := hq; simp [show q ≠ hb.no + 1 + 2 by omega]; exact he.obj q hq, he.len⟩
      have hgw : Mp.get hg.obj hb.no = some (.row [w]) := by rw [hhg]; simp [ny, hw]
      obtain ⟨o1, o2⟩ := told cmpV_ok (fun q hq => (hls q hq).2.1) hpath
      have hout2 : out2 = out := sorted_unique cmpV_ok _ _ o1 q1 (fun x => by rw [o2 x, q2 x])
      subst hout2
      rw [← hhg]
      refine A.mono (same_ans _ _ w w1 hac.sv q4 (by omega) _) ?_
      rintro _ hz ⟨rfl, hez⟩
      have hend := (heb.trans heg).trans hez
      refine ⟨_, by simp; first | done | rfl, ?_⟩
      repeat (first | (with_reducible first | refine W_seq_i ?_ | refine W_block_i ?_ | refine W_region_i ?_ | refine W_skip_i ?_ | refine W_label_i ?_ | refine W_ret_i ?_ | refine W_exit_i ?_ | refine W_goto_i ?_ | refine W_scope_go ?_ | refine jumpW_r ?_ | refine jumpW_n ?_ | refine jumpW_x ?_ | refine blockW_g ?_ | refine thenW_n ?_ | refine blockW_n ?_ | refine blockW_x ?_ | refine blockW_y (by decide) ?_ | refine blockW_r ?_ | refine thenW_e (by simp; done) ?_ | refine WO_nil_i ?_ | refine WT_nil_i ?_) | (with_reducible apply W_cond_t; (case h => (simp; done))) | (with_reducible apply W_cond_f; (case h => (simp; done))) | ((with_reducible first | apply WO_val_i | apply WT_val_i); (case hw => (simp; done)); (case he => (simp; first | done | exact ⟨rfl, rfl⟩ | rfl)); (case hp => (simp; first | done | rfl))) | ((with_reducible first | apply WO_no_i | apply WT_no_i); (case hw => (simp; done)); (case hp => (simp; first | done | rfl))) | ((with_reducible first | apply WO_skip_i | apply WT_skip_i); (case hw => (simp; done)); (case he => (simp; first | done | rfl)); (case hp => (simp; first | done | rfl))) | ((with_reducible first | apply WO_call_i | apply WT_call_i); (case hw => (simp; done)); (case he => (simp; first | done | exact ⟨rfl, rfl, rfl⟩ | rfl))))
      refine A.mono (lives_ans _ (pf _ hend _) (pf _ hend _)) ?_
      rintro _ h8 ⟨rfl, he8⟩
      refine ⟨_, by simp; first | done | rfl, ?_⟩
      repeat (first | (with_reducible first | refine W_seq_i ?_ | refine W_block_i ?_ | refine W_region_i ?_ | refine W_skip_i ?_ | refine W_label_i ?_ | refine W_ret_i ?_ | refine W_exit_i ?_ | refine W_goto_i ?_ | refine W_scope_go ?_ | refine jumpW_r ?_ | refine jumpW_n ?_ | refine jumpW_x ?_ | refine blockW_g ?_ | refine thenW_n ?_ | refine blockW_n ?_ | refine blockW_x ?_ | refine blockW_y (by decide) ?_ | refine blockW_r ?_ | refine thenW_e (by simp; done) ?_ | refine WO_nil_i ?_ | refine WT_nil_i ?_) | (with_reducible apply W_cond_t; (case h => (simp; done))) | (with_reducible apply W_cond_f; (case h => (simp; done))) | ((with_reducible first | apply WO_val_i | apply WT_val_i); (case hw => (simp; done)); (case he => (simp; first | done | exact ⟨rfl, rfl⟩ | rfl)); (case hp => (simp; first | done | rfl))) | ((with_reducible first | apply WO_no_i | apply WT_no_i); (case hw => (simp; done)); (case hp => (simp; first | done | rfl))) | ((with_reducible first | apply WO_skip_i | apply WT_skip_i); (case hw => (simp; done)); (case he => (simp; first | done | rfl)); (case hp => (simp; first | done | rfl))) | ((with_reducible first | apply WO_call_i | apply WT_call_i); (case hw => (simp; done)); (case he => (simp; first | done | exact ⟨rfl, rfl, rfl⟩ | rfl))))
      (first | apply endW_r | apply endW_n); (case h1 => (simp [Try.results4]; first | done | rfl))
      exact ⟨by simp, hend.trans he8⟩
    · exact hk.elim
end Go.Vn
