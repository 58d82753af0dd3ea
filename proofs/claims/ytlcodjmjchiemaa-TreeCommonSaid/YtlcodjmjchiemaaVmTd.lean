/- What functions of the program come to, in the value machine (a part of the proof of the claim's statement). No condition. -/
import Derived.Test.YtlcodjmjchiemaaVmTc
set_option linter.unusedSimpArgs false
set_option linter.unusedVariables false
namespace Go.Vm
open Go.Proofs

/-- The ways up. -/
def ways (l : List Br) : Nat → Int → Int → List (Int × Int)
  | 0, _, _ => []
  | n + 1, b, e => (b, e) :: match l[b.toNat]? with
    | some x => if 0 ≤ x.parent then ways l n x.parent (min e x.fork) else []
    | none => []

open Classical in
noncomputable def pathL (l : List Br) (b e : Int) : List (Int × Int) := if MayP l ∧ 0 ≤ b ∧ b < l.length then ways l (b.toNat + 1) b e else []

theorem MayP.parent {l : List Br} (h : MayP l) {i : Nat} (hi : i < l.length) : l[i].parent < i ∧ -1 ≤ l[i].parent := by
  have := h.1 i hi
  simp only [okAt, firstB, otherB, Bool.and_eq_true, Bool.or_eq_true, decide_eq_true_eq] at this
  omega

theorem ways_fuel {l : List Br} (hm : MayP l) : ∀ (n m : Nat) {b : Int} {e : Int}, b < n → 0 ≤ b → b < l.length → b < m → ways l n b e = ways l m b e := by
  intro n
  induction n with
  | zero => intro m b e h h0; omega
  | succ n ih =>
    intro m b e h h0 hl hb
    cases m with
    | zero => omega
    | succ m =>
      have hbl : b.toNat < l.length := by omega
      have hp := hm.parent hbl
      simp only [ways, List.getElem?_eq_getElem hbl]
      split
      · rw [ih m (by omega) (by omega) (by omega) (by omega)]
      · rfl

theorem path_loop (l : List Br) (hm : MayP l) (v : AV) (hv : SV 4 (l.map Br.enc) v) (h0 : Hp Fm) (b : Code) (hb : ∃ c, Try.f10.body = some (.seq c (.scope b))) (rest : Code) (hrest : findLabel b 0 = some rest) (fin : List (Int × Int)) :
    ∀ (n : Nat) (br : Nat) (e : Int) (acc : List (Int × Int)) (t : Fm AV) (h : Hp Fm) (a : AV), br < n → br < l.length → acc.length + br ≤ 16 → HE h0 h → AC h0 h 2 (acc.map leg) a → acc ++ ways l (br + 1) br e = fin →
      tget t 0 = v → tget t 1 = .int .i64 br → tget t 2 = .int .i64 e → tget t 7 = a →
      W Try.prog rest ⟨t, 42, h⟩ (jumpW Try.prog b <| endW Try.prog Try.f10 fun r h' => SV 2 (fin.map leg) r ∧ HE h0 h') := by
  obtain ⟨c, hb2⟩ := hb
  have hb' : some (Code.seq c (.scope b)) = Try.f10.body := hb2.symm
  injection hb' with hb'
  injection hb' with _ hb4
  injection hb4 with hb3
  subst hb3
  injection hrest with hrest
  subst hrest
  intro n
  induction n with
  | zero => intro br e acc t h a hn; omega
  | succ n ih =>
    intro br e acc t h a hn hbr hacc he hac hfin' t0 t1 t2 t7
    have hix := hv.idx (P := Try.prog) Try.underlying22 z36 (k := .i64) (i := br) (by simp) (by simpa using hbr)
    have hpar := hm.parent hbr
    have hfin : acc ++ ways l (br + 1) br e = acc ++ (((br : Int), e) :: if 0 ≤ l[br].parent then ways l br l[br].parent (min e l[br].fork) else []) := by simp [ways, hbr]
    rw [hfin] at hfin'
    generalize hb : l[br] = b at hix hpar hfin'
    obtain ⟨pa, fo, fl, dr⟩ := b
    clear hb2 hfin
    repeat (first | with_reducible refine W_seq_i ?_ | with_reducible refine W_block_i ?_ | with_reducible refine W_region_i ?_ | with_reducible refine W_skip_i ?_ | with_reducible refine W_label_i ?_ | with_reducible refine W_ret_i ?_ | with_reducible refine W_exit_i ?_ | with_reducible refine W_goto_i ?_ | with_reducible refine W_scope_go ?_ | with_reducible refine jumpW_r ?_ | with_reducible refine jumpW_n ?_ | with_reducible refine jumpW_x ?_ | with_reducible refine blockW_g ?_ | with_reducible refine thenW_n ?_ | with_reducible refine blockW_n ?_ | with_reducible refine blockW_x ?_ | with_reducible refine blockW_y (by decide) ?_ | with_reducible refine blockW_r ?_ | with_reducible refine thenW_e (by simp; done) ?_ | with_reducible refine WO_nil_i ?_ | with_reducible refine WT_nil_i ?_ | (with_reducible apply W_cond_t; (case h => (simp [t0, t1, t2, t7]; done))) | (with_reducible apply W_cond_f; (case h => (simp [t0, t1, t2, t7]; done))) | (with_reducible apply WO_val_i; (case hw => (simp [t0, t1, t2, t7]; done)); (case he => (simp [t0, t1, t2, t7]; first | done | exact ⟨rfl, rfl⟩ | rfl)); (case hp => (simp [t0, t1, t2, t7]; first | done | rfl))) | (with_reducible apply WO_no_i; (case hw => (simp [t0, t1, t2, t7]; done)); (case hp => (simp [t0, t1, t2, t7]; first | done | rfl))) | (with_reducible apply WO_skip_i; (case hw => (simp [t0, t1, t2, t7]; done)); (case he => (simp [t0, t1, t2, t7]; first | done | rfl)); (case hp => (simp [t0, t1, t2, t7]; first | done | rfl))) | (with_reducible apply WO_call_i; (case hw => (simp [t0, t1, t2, t7]; done)); (case he => (simp [t0, t1, t2, t7]; first | done | exact ⟨rfl, rfl, rfl⟩ | rfl))) | (with_reducible apply WT_val_i; (case hw => (simp [t0, t1, t2, t7]; done)); (case he => (simp [t0, t1, t2, t7]; first | done | exact ⟨rfl, rfl⟩ | rfl)); (case hp => (simp [t0, t1, t2, t7]; first | done | rfl))) | (with_reducible apply WT_no_i; (case hw => (simp [t0, t1, t2, t7]; done)); (case hp => (simp [t0, t1, t2, t7]; first | done | rfl))) | (with_reducible apply WT_skip_i; (case hw => (simp [t0, t1, t2, t7]; done)); (case he => (simp [t0, t1, t2, t7]; first | done | rfl)); (case hp => (simp [t0, t1, t2, t7]; first | done | rfl))) | (with_reducible apply WT_call_i; (case hw => (simp [t0, t1, t2, t7]; done)); (case he => (simp [t0, t1, t2, t7]; first | done | exact ⟨rfl, rfl, rfl⟩ | rfl))))
    with_reducible apply WO_app_i; (case hw => (simp [t0, t1, t2, t7]; done)); (case ho => rfl); (case hb => rfl); (case ha => (simp [t0, t1, t2, t7]; first | done | exact ⟨rfl, rfl⟩ | rfl)); (case h1 => (simp; first | done | rfl)); (case h2 => (simp; first | done | rfl))
    refine app_then (AC.app (h0 := h0) (acc := acc.map leg) (sz := 2) (by_ := 16) Try.underlying24 z28 b28 o28 rfl (by omega) (by omega) (hac.of ((HE.refl h).newSl _)) (he.newSl _) (by simp; omega)) ?_
    rintro a2 h2 ⟨hac2, he2, ho2, hn2⟩
    refine ⟨_, by simp; rfl, ?_⟩
    clear ho2 hn2
    repeat (first | with_reducible refine W_seq_i ?_ | with_reducible refine W_block_i ?_ | with_reducible refine W_region_i ?_ | with_reducible refine W_skip_i ?_ | with_reducible refine W_label_i ?_ | with_reducible refine W_ret_i ?_ | with_reducible refine W_exit_i ?_ | with_reducible refine W_goto_i ?_ | with_reducible refine W_scope_go ?_ | with_reducible refine jumpW_r ?_ | with_reducible refine jumpW_n ?_ | with_reducible refine jumpW_x ?_ | with_reducible refine blockW_g ?_ | with_reducible refine thenW_n ?_ | with_reducible refine blockW_n ?_ | with_reducible refine blockW_x ?_ | with_reducible refine blockW_y (by decide) ?_ | with_reducible refine blockW_r ?_ | with_reducible refine thenW_e (by simp; done) ?_ | with_reducible refine WO_nil_i ?_ | with_reducible refine WT_nil_i ?_ | (with_reducible apply W_cond_t; (case h => (simp [t0, t1, t2, t7, hix, hb]; done))) | (with_reducible apply W_cond_f; (case h => (simp [t0, t1, t2, t7, hix, hb]; done))) | (with_reducible apply WO_val_i; (case hw => (simp [t0, t1, t2, t7, hix, hb]; done)); (case he => (simp [t0, t1, t2, t7, hix, hb]; first | done | exact ⟨rfl, rfl⟩ | rfl)); (case hp => (simp [t0, t1, t2, t7, hix, hb]; first | done | rfl))) | (with_reducible apply WO_no_i; (case hw => (simp [t0, t1, t2, t7, hix, hb]; done)); (case hp => (simp [t0, t1, t2, t7, hix, hb]; first | done | rfl))) | (with_reducible apply WO_skip_i; (case hw => (simp [t0, t1, t2, t7, hix, hb]; done)); (case he => (simp [t0, t1, t2, t7, hix, hb]; first | done | rfl)); (case hp => (simp [t0, t1, t2, t7, hix, hb]; first | done | rfl))) | (with_reducible apply WO_call_i; (case hw => (simp [t0, t1, t2, t7, hix, hb]; done)); (case he => (simp [t0, t1, t2, t7, hix, hb]; first | done | exact ⟨rfl, rfl, rfl⟩ | rfl))) | (with_reducible apply WT_val_i; (case hw => (simp [t0, t1, t2, t7, hix, hb]; done)); (case he => (simp [t0, t1, t2, t7, hix, hb]; first | done | exact ⟨rfl, rfl⟩ | rfl)); (case hp => (simp [t0, t1, t2, t7, hix, hb]; first | done | rfl))) | (with_reducible apply WT_no_i; (case hw => (simp [t0, t1, t2, t7, hix, hb]; done)); (case hp => (simp [t0, t1, t2, t7, hix, hb]; first | done | rfl))) | (with_reducible apply WT_skip_i; (case hw => (simp [t0, t1, t2, t7, hix, hb]; done)); (case he => (simp [t0, t1, t2, t7, hix, hb]; first | done | rfl)); (case hp => (simp [t0, t1, t2, t7, hix, hb]; first | done | rfl))) | (with_reducible apply WT_call_i; (case hw => (simp [t0, t1, t2, t7, hix, hb]; done)); (case he => (simp [t0, t1, t2, t7, hix, hb]; first | done | exact ⟨rfl, rfl, rfl⟩ | rfl))))
    replace hpar : pa < br ∧ -1 ≤ pa := hpar
    have heN := ((he2.new (.row [.int .i64 0, .int .i64 0, .int .i64 0, .bool false])).set he2.no (.row [.int .i64 pa, .int .i64 fo, .int .i64 fl, .bool dr]))
    have hacN := (hac2.of (((HE.refl h2).new (.row [.int .i64 0, .int .i64 0, .int .i64 0, .bool false])).set (Nat.le_refl _) (.row [.int .i64 pa, .int .i64 fo, .int .i64 fl, .bool dr])))
    have hmap : acc.map leg ++ [.agg [.int .i64 br, .int .i64 e]] = (acc ++ [((br : Int), e)]).map leg := by simp
    rw [hmap] at hacN
    by_cases q : 0 ≤ pa
    · repeat (first | with_reducible refine W_seq_i ?_ | with_reducible refine W_block_i ?_ | with_reducible refine W_region_i ?_ | with_reducible refine W_skip_i ?_ | with_reducible refine W_label_i ?_ | with_reducible refine W_ret_i ?_ | with_reducible refine W_exit_i ?_ | with_reducible refine W_goto_i ?_ | with_reducible refine W_scope_go ?_ | with_reducible refine jumpW_r ?_ | with_reducible refine jumpW_n ?_ | with_reducible refine jumpW_x ?_ | with_reducible refine blockW_g ?_ | with_reducible refine thenW_n ?_ | with_reducible refine blockW_n ?_ | with_reducible refine blockW_x ?_ | with_reducible refine blockW_y (by decide) ?_ | with_reducible refine blockW_r ?_ | with_reducible refine thenW_e (by simp; done) ?_ | with_reducible refine WO_nil_i ?_ | with_reducible refine WT_nil_i ?_ | (with_reducible apply W_cond_t; (case h => (simp [q, t0, t1, t2, t7]; done))) | (with_reducible apply W_cond_f; (case h => (simp [q, t0, t1, t2, t7]; done))) | (with_reducible apply WO_val_i; (case hw => (simp [q, t0, t1, t2, t7]; done)); (case he => (simp [q, t0, t1, t2, t7]; first | done | exact ⟨rfl, rfl⟩ | rfl)); (case hp => (simp [q, t0, t1, t2, t7]; first | done | rfl))) | (with_reducible apply WO_no_i; (case hw => (simp [q, t0, t1, t2, t7]; done)); (case hp => (simp [q, t0, t1, t2, t7]; first | done | rfl))) | (with_reducible apply WO_skip_i; (case hw => (simp [q, t0, t1, t2, t7]; done)); (case he => (simp [q, t0, t1, t2, t7]; first | done | rfl)); (case hp => (simp [q, t0, t1, t2, t7]; first | done | rfl))) | (with_reducible apply WO_call_i; (case hw => (simp [q, t0, t1, t2, t7]; done)); (case he => (simp [q, t0, t1, t2, t7]; first | done | exact ⟨rfl, rfl, rfl⟩ | rfl))) | (with_reducible apply WT_val_i; (case hw => (simp [q, t0, t1, t2, t7]; done)); (case he => (simp [q, t0, t1, t2, t7]; first | done | exact ⟨rfl, rfl⟩ | rfl)); (case hp => (simp [q, t0, t1, t2, t7]; first | done | rfl))) | (with_reducible apply WT_no_i; (case hw => (simp [q, t0, t1, t2, t7]; done)); (case hp => (simp [q, t0, t1, t2, t7]; first | done | rfl))) | (with_reducible apply WT_skip_i; (case hw => (simp [q, t0, t1, t2, t7]; done)); (case he => (simp [q, t0, t1, t2, t7]; first | done | rfl)); (case hp => (simp [q, t0, t1, t2, t7]; first | done | rfl))) | (with_reducible apply WT_call_i; (case hw => (simp [q, t0, t1, t2, t7]; done)); (case he => (simp [q, t0, t1, t2, t7]; first | done | exact ⟨rfl, rfl, rfl⟩ | rfl))))
      with_reducible refine W_draw_i [(1, []), (4, [])] (by kernel_rfl) ?_
      repeat (first | with_reducible refine W_seq_i ?_ | with_reducible refine W_block_i ?_ | with_reducible refine W_region_i ?_ | with_reducible refine W_skip_i ?_ | with_reducible refine W_label_i ?_ | with_reducible refine W_ret_i ?_ | with_reducible refine W_exit_i ?_ | with_reducible refine W_goto_i ?_ | with_reducible refine W_scope_go ?_ | with_reducible refine jumpW_r ?_ | with_reducible refine jumpW_n ?_ | with_reducible refine jumpW_x ?_ | with_reducible refine blockW_g ?_ | with_reducible refine thenW_n ?_ | with_reducible refine blockW_n ?_ | with_reducible refine blockW_x ?_ | with_reducible refine blockW_y (by decide) ?_ | with_reducible refine blockW_r ?_ | with_reducible refine thenW_e (by simp; done) ?_ | with_reducible refine WO_nil_i ?_ | with_reducible refine WT_nil_i ?_ | (with_reducible apply W_cond_t; (case h => (simp [q, t0, t1, t2, t7]; done))) | (with_reducible apply W_cond_f; (case h => (simp [q, t0, t1, t2, t7]; done))) | (with_reducible apply WO_val_i; (case hw => (simp [q, t0, t1, t2, t7]; done)); (case he => (simp [q, t0, t1, t2, t7]; first | done | exact ⟨rfl, rfl⟩ | rfl)); (case hp => (simp [q, t0, t1, t2, t7]; first | done | rfl))) | (with_reducible apply WO_no_i; (case hw => (simp [q, t0, t1, t2, t7]; done)); (case hp => (simp [q, t0, t1, t2, t7]; first | done | rfl))) | (with_reducible apply WO_skip_i; (case hw => (simp [q, t0, t1, t2, t7]; done)); (case he => (simp [q, t0, t1, t2, t7]; first | done | rfl)); (case hp => (simp [q, t0, t1, t2, t7]; first | done | rfl))) | (with_reducible apply WO_call_i; (case hw => (simp [q, t0, t1, t2, t7]; done)); (case he => (simp [q, t0, t1, t2, t7]; first | done | exact ⟨rfl, rfl, rfl⟩ | rfl))) | (with_reducible apply WT_val_i; (case hw => (simp [q, t0, t1, t2, t7]; done)); (case he => (simp [q, t0, t1, t2, t7]; first | done | exact ⟨rfl, rfl⟩ | rfl)); (case hp => (simp [q, t0, t1, t2, t7]; first | done | rfl))) | (with_reducible apply WT_no_i; (case hw => (simp [q, t0, t1, t2, t7]; done)); (case hp => (simp [q, t0, t1, t2, t7]; first | done | rfl))) | (with_reducible apply WT_skip_i; (case hw => (simp [q, t0, t1, t2, t7]; done)); (case he => (simp [q, t0, t1, t2, t7]; first | done | rfl)); (case hp => (simp [q, t0, t1, t2, t7]; first | done | rfl))) | (with_reducible apply WT_call_i; (case hw => (simp [q, t0, t1, t2, t7]; done)); (case he => (simp [q, t0, t1, t2, t7]; first | done | exact ⟨rfl, rfl, rfl⟩ | rfl))))
      refine ⟨by first | rfl | (simp; done), _, by simp; first | done | rfl, ?_⟩
      repeat (first | with_reducible refine W_seq_i ?_ | with_reducible refine W_block_i ?_ | with_reducible refine W_region_i ?_ | with_reducible refine W_skip_i ?_ | with_reducible refine W_label_i ?_ | with_reducible refine W_ret_i ?_ | with_reducible refine W_exit_i ?_ | with_reducible refine W_goto_i ?_ | with_reducible refine W_scope_go ?_ | with_reducible refine jumpW_r ?_ | with_reducible refine jumpW_n ?_ | with_reducible refine jumpW_x ?_ | with_reducible refine blockW_g ?_ | with_reducible refine thenW_n ?_ | with_reducible refine blockW_n ?_ | with_reducible refine blockW_x ?_ | with_reducible refine blockW_y (by decide) ?_ | with_reducible refine blockW_r ?_ | with_reducible refine thenW_e (by simp; done) ?_ | with_reducible refine WO_nil_i ?_ | with_reducible refine WT_nil_i ?_ | (with_reducible apply W_cond_t; (case h => (simp; done))) | (with_reducible apply W_cond_f; (case h => (simp; done))) | (with_reducible apply WO_val_i; (case hw => (simp; done)); (case he => (simp; first | done | exact ⟨rfl, rfl⟩ | rfl)); (case hp => (simp; first | done | rfl))) | (with_reducible apply WO_no_i; (case hw => (simp; done)); (case hp => (simp; first | done | rfl))) | (with_reducible apply WO_skip_i; (case hw => (simp; done)); (case he => (simp; first | done | rfl)); (case hp => (simp; first | done | rfl))) | (with_reducible apply WO_call_i; (case hw => (simp; done)); (case he => (simp; first | done | exact ⟨rfl, rfl, rfl⟩ | rfl))) | (with_reducible apply WT_val_i; (case hw => (simp; done)); (case he => (simp; first | done | exact ⟨rfl, rfl⟩ | rfl)); (case hp => (simp; first | done | rfl))) | (with_reducible apply WT_no_i; (case hw => (simp; done)); (case hp => (simp; first | done | rfl))) | (with_reducible apply WT_skip_i; (case hw => (simp; done)); (case he => (simp; first | done | rfl)); (case hp => (simp; first | done | rfl))) | (with_reducible apply WT_call_i; (case hw => (simp; done)); (case he => (simp; first | done | exact ⟨rfl, rfl, rfl⟩ | rfl))))
      refine jumpW_g rfl (WS_run ?_)
      rw [if_pos q] at hfin'
      have hpn : ((pa.toNat : Nat) : Int) = pa := by omega
      have hbn : br = pa.toNat + (br - pa.toNat) := by omega
      refine ih pa.toNat (min e fo) (acc ++ [((br : Int), e)]) _ _ a2 ?_ ?_ ?_ heN hacN ?_ ?_ ?_ ?_ ?_
      · omega
      · omega
      · simp; omega
      · rw [List.append_assoc, ← hfin']
        rw [hpn]
        show _ = acc ++ ((br : Int), e) :: ways l br pa (min e fo)
        rw [← ways_fuel hm (pa.toNat + 1) br (b := pa) (e := min e fo) (by omega) (by omega) (by omega) (by omega)]
        rfl
      all_goals simp [t0, t1, t2, t7, hpn]
      simp only [Int.min_def]
      by_cases hfe : fo < e
      · rw [if_pos hfe, if_neg (by omega)]
      · rw [if_neg hfe, if_pos (by omega)]
    · repeat (first | with_reducible refine W_seq_i ?_ | with_reducible refine W_block_i ?_ | with_reducible refine W_region_i ?_ | with_reducible refine W_skip_i ?_ | with_reducible refine W_label_i ?_ | with_reducible refine W_ret_i ?_ | with_reducible refine W_exit_i ?_ | with_reducible refine W_goto_i ?_ | with_reducible refine W_scope_go ?_ | with_reducible refine jumpW_r ?_ | with_reducible refine jumpW_n ?_ | with_reducible refine jumpW_x ?_ | with_reducible refine blockW_g ?_ | with_reducible refine thenW_n ?_ | with_reducible refine blockW_n ?_ | with_reducible refine blockW_x ?_ | with_reducible refine blockW_y (by decide) ?_ | with_reducible refine blockW_r ?_ | with_reducible refine thenW_e (by simp; done) ?_ | with_reducible refine WO_nil_i ?_ | with_reducible refine WT_nil_i ?_ | (with_reducible apply W_cond_t; (case h => (simp [q, t0, t1, t2, t7]; done))) | (with_reducible apply W_cond_f; (case h => (simp [q, t0, t1, t2, t7]; done))) | (with_reducible apply WO_val_i; (case hw => (simp [q, t0, t1, t2, t7]; done)); (case he => (simp [q, t0, t1, t2, t7]; first | done | exact ⟨rfl, rfl⟩ | rfl)); (case hp => (simp [q, t0, t1, t2, t7]; first | done | rfl))) | (with_reducible apply WO_no_i; (case hw => (simp [q, t0, t1, t2, t7]; done)); (case hp => (simp [q, t0, t1, t2, t7]; first | done | rfl))) | (with_reducible apply WO_skip_i; (case hw => (simp [q, t0, t1, t2, t7]; done)); (case he => (simp [q, t0, t1, t2, t7]; first | done | rfl)); (case hp => (simp [q, t0, t1, t2, t7]; first | done | rfl))) | (with_reducible apply WO_call_i; (case hw => (simp [q, t0, t1, t2, t7]; done)); (case he => (simp [q, t0, t1, t2, t7]; first | done | exact ⟨rfl, rfl, rfl⟩ | rfl))) | (with_reducible apply WT_val_i; (case hw => (simp [q, t0, t1, t2, t7]; done)); (case he => (simp [q, t0, t1, t2, t7]; first | done | exact ⟨rfl, rfl⟩ | rfl)); (case hp => (simp [q, t0, t1, t2, t7]; first | done | rfl))) | (with_reducible apply WT_no_i; (case hw => (simp [q, t0, t1, t2, t7]; done)); (case hp => (simp [q, t0, t1, t2, t7]; first | done | rfl))) | (with_reducible apply WT_skip_i; (case hw => (simp [q, t0, t1, t2, t7]; done)); (case he => (simp [q, t0, t1, t2, t7]; first | done | rfl)); (case hp => (simp [q, t0, t1, t2, t7]; first | done | rfl))) | (with_reducible apply WT_call_i; (case hw => (simp [q, t0, t1, t2, t7]; done)); (case he => (simp [q, t0, t1, t2, t7]; first | done | exact ⟨rfl, rfl, rfl⟩ | rfl))))
      apply endW_r; (case h1 => (simp [Try.results10]; first | done | rfl))
      rw [if_neg q] at hfin'
      rw [← hfin']
      exact ⟨hacN.sv, heN⟩
end Go.Vm
