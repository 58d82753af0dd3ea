/- What functions of the program come to, in the value machine (a part of the proof of the claim's statement). No condition. -/
import Derived.Test.YtdohdbojlannaaaVnM1
import Derived.Test.YtdohdbojlannaaaVnM2
set_option linter.unusedSimpArgs false
set_option linter.unusedVariables false
set_option maxRecDepth 20000
namespace Go.Vn
open Go.Proofs

@[simp] theorem hbl44 : hasBody Try.prog 44 = true := by kernel_rfl
@[simp] theorem hbl68 : hasBody Try.prog 68 = true := by kernel_rfl
@[simp] theorem hbl71 : hasBody Try.prog 71 = true := by kernel_rfl
@[simp] theorem hbl69 : hasBody Try.prog 69 = true := by kernel_rfl

theorem len_str {E : Type} {F : AV} {p o : Nat} {h : Hp Fm} {L : List (Hd E)} (k : HH F p o h L) : A Try.prog TT (.func 44) [.ptr p 0] h (fun r h' => r = .int .i64 L.length ∧ h' = h) := by
  obtain ⟨cap, hp, hcap⟩ := k.hp
  apply A_go Try.func44 rfl (by rfl); (case hn => (simp [Try.ntmps44]; rfl))
  repeat (first | (with_reducible first | refine W_seq_i ?_ | refine W_block_i ?_ | refine W_region_i ?_ | refine W_skip_i ?_ | refine W_label_i ?_ | refine W_ret_i ?_ | refine W_exit_i ?_ | refine W_goto_i ?_ | refine W_scope_go ?_ | refine jumpW_r ?_ | refine jumpW_n ?_ | refine jumpW_x ?_ | refine blockW_g ?_ | refine thenW_n ?_ | refine blockW_n ?_ | refine blockW_x ?_ | refine blockW_y (by decide) ?_ | refine blockW_r ?_ | refine thenW_e (by simp; done) ?_ | refine WO_nil_i ?_ | refine WT_nil_i ?_) | (with_reducible apply W_cond_t; (case h => (simp [hp, lenAV]; done))) | (with_reducible apply W_cond_f; (case h => (simp [hp, lenAV]; done))) | ((with_reducible first | apply WO_val_i | apply WT_val_i); (case hw => (simp [hp, lenAV]; done)); (case he => (simp [hp, lenAV]; first | done | exact ⟨rfl, rfl⟩ | rfl)); (case hp => (simp [hp, lenAV]; first | done | rfl))) | ((with_reducible first | apply WO_no_i | apply WT_no_i); (case hw => (simp [hp, lenAV]; done)); (case hp => (simp [hp, lenAV]; first | done | rfl))) | ((with_reducible first | apply WO_skip_i | apply WT_skip_i); (case hw => (simp [hp, lenAV]; done)); (case he => (simp [hp, lenAV]; first | done | rfl)); (case hp => (simp [hp, lenAV]; first | done | rfl))) | ((with_reducible first | apply WO_call_i | apply WT_call_i); (case hw => (simp [hp, lenAV]; done)); (case he => (simp [hp, lenAV]; first | done | exact ⟨rfl, rfl, rfl⟩ | rfl))))
  (first | apply endW_r | apply endW_n); (case h1 => (simp [Try.results44]; first | done | rfl))
  simp

theorem less_str {F : AV} {c : (List UInt8) → (List UInt8) → Int} (hc : Cmp (List UInt8) encS F c) {p o : Nat} {h : Hp Fm} {L : List (Hd (List UInt8))} (k : HH F p o h L)
    (hs : ∀ x ∈ L, SV 1 (x.xs.map encS) x.s) (hpol : h.pol 3 = false) {i j : Nat} (hi : i < L.length) (hj : j < L.length) (ni : L[i].xs ≠ []) (nj : L[j].xs ≠ []) :
    A Try.prog TT (.func 68) [.ptr p 0, .int .i64 i, .int .i64 j] h (fun r h' => r = .bool (lessH c L[i] L[j]) ∧ HE h h') := by
  obtain ⟨f, rfl, hbf, hf⟩ := hc
  obtain ⟨cap, hp, hcap⟩ := k.hp
  obtain ⟨J, ho⟩ := k.ho
  have si := hs _ (List.getElem_mem hi)
  have sj := hs _ (List.getElem_mem hj)
  have pi := part_hrow (J := J) hi
  have pj := part_hrow (J := J) hj
  have e1 : p ≠ h.no := by have := k.pn; omega
  have e2 : o ≠ h.no := by have := k.on; omega
  have e3 : p ≠ h.no + 1 := by have := k.pn; omega
  have e4 : o ≠ h.no + 1 := by have := k.on; omega
  have x1 := si.idx Try.underlying26 z9 (k := .i64) (i := 0) (by omega) (by simpa using List.length_pos_iff.2 ni)
  have x2 := sj.idx Try.underlying26 z9 (k := .i64) (i := 0) (by omega) (by simpa using List.length_pos_iff.2 nj)
  have c1 := si.isCell
  have c2 := sj.isCell
  apply A_go Try.func68 rfl (by rfl); (case hn => (simp [Try.ntmps68]; rfl))
  repeat (first | (with_reducible first | refine W_seq_i ?_ | refine W_block_i ?_ | refine W_region_i ?_ | refine W_skip_i ?_ | refine W_label_i ?_ | refine W_ret_i ?_ | refine W_exit_i ?_ | refine W_goto_i ?_ | refine W_scope_go ?_ | refine jumpW_r ?_ | refine jumpW_n ?_ | refine jumpW_x ?_ | refine blockW_g ?_ | refine thenW_n ?_ | refine blockW_n ?_ | refine blockW_x ?_ | refine blockW_y (by decide) ?_ | refine blockW_r ?_ | refine thenW_e (by simp; done) ?_ | refine WO_nil_i ?_ | refine WT_nil_i ?_) | (with_reducible apply W_cond_t; (case h => (simp; done))) | (with_reducible apply W_cond_f; (case h => (simp; done))) | ((with_reducible first | apply WO_val_i | apply WT_val_i); (case hw => (simp; done)); (case he => (simp; first | done | exact ⟨rfl, rfl⟩ | rfl)); (case hp => (simp; first | done | rfl))) | ((with_reducible first | apply WO_no_i | apply WT_no_i); (case hw => (simp; done)); (case hp => (simp; first | done | rfl))) | ((with_reducible first | apply WO_skip_i | apply WT_skip_i); (case hw => (simp; done)); (case he => (simp; first | done | rfl)); (case hp => (simp; first | done | rfl))) | ((with_reducible first | apply WO_call_i | apply WT_call_i); (case hw => (simp; done)); (case he => (simp; first | done | exact ⟨rfl, rfl, rfl⟩ | rfl))))
  (with_reducible apply W_draw_i (pln := false) [0, 1, 2, 3, 4, 5, 6, 14, 15, 16, 7, 8, 9, 10, 11, 12, 13, 17] [(3, (3, [])), (6, (6, [])), (10, (13, [0])), (13, (16, [0]))] _ (by kernel_rfl)); (case hl => (simp only [inPlaces, List.filterMap_cons, List.filterMap_nil, List.getElem?_toArray, List.getElem?_cons_succ, List.getElem?_cons_zero]; rfl))
  repeat (first | (with_reducible first | refine W_seq_i ?_ | refine W_block_i ?_ | refine W_region_i ?_ | refine W_skip_i ?_ | refine W_label_i ?_ | refine W_ret_i ?_ | refine W_exit_i ?_ | refine W_goto_i ?_ | refine W_scope_go ?_ | refine jumpW_r ?_ | refine jumpW_n ?_ | refine jumpW_x ?_ | refine blockW_g ?_ | refine thenW_n ?_ | refine blockW_n ?_ | refine blockW_x ?_ | refine blockW_y (by decide) ?_ | refine blockW_r ?_ | refine thenW_e (by simp; done) ?_ | refine WO_nil_i ?_ | refine WT_nil_i ?_) | (with_reducible apply W_cond_t; (case h => (simp [hp, ho, hi, hj, e1, e2, e3, e4, c1, c2]; done))) | (with_reducible apply W_cond_f; (case h => (simp [hp, ho, hi, hj, e1, e2, e3, e4, c1, c2]; done))) | ((with_reducible first | apply WO_val_i | apply WT_val_i); (case hw => (simp [hp, ho, hi, hj, e1, e2, e3, e4, c1, c2]; done)); (case he => (simp [hp, ho, hi, hj, e1, e2, e3, e4, c1, c2]; first | done | exact ⟨rfl, rfl⟩ | rfl)); (case hp => (simp [hp, ho, hi, hj, e1, e2, e3, e4, c1, c2]; first | done | rfl))) | ((with_reducible first | apply WO_no_i | apply WT_no_i); (case hw => (simp [hp, ho, hi, hj, e1, e2, e3, e4, c1, c2]; done)); (case hp => (simp [hp, ho, hi, hj, e1, e2, e3, e4, c1, c2]; first | done | rfl))) | ((with_reducible first | apply WO_skip_i | apply WT_skip_i); (case hw => (simp [hp, ho, hi, hj, e1, e2, e3, e4, c1, c2]; done)); (case he => (simp [hp, ho, hi, hj, e1, e2, e3, e4, c1, c2]; first | done | rfl)); (case hp => (simp [hp, ho, hi, hj, e1, e2, e3, e4, c1, c2]; first | done | rfl))) | ((with_reducible first | apply WO_call_i | apply WT_call_i); (case hw => (simp [hp, ho, hi, hj, e1, e2, e3, e4, c1, c2]; done)); (case he => (simp [hp, ho, hi, hj, e1, e2, e3, e4, c1, c2]; first | done | exact ⟨rfl, rfl, rfl⟩ | rfl))))
  refine ⟨by simp [readSame, beqAV_self, hp, ho, hi, hj, e1, e2, e3, e4, c1, c2]; done, _, by simp; first | done | rfl, ?_⟩
  repeat (first | (with_reducible first | refine W_seq_i ?_ | refine W_block_i ?_ | refine W_region_i ?_ | refine W_skip_i ?_ | refine W_label_i ?_ | refine W_ret_i ?_ | refine W_exit_i ?_ | refine W_goto_i ?_ | refine W_scope_go ?_ | refine jumpW_r ?_ | refine jumpW_n ?_ | refine jumpW_x ?_ | refine blockW_g ?_ | refine thenW_n ?_ | refine blockW_n ?_ | refine blockW_x ?_ | refine blockW_y (by decide) ?_ | refine blockW_r ?_ | refine thenW_e (by simp; done) ?_ | refine WO_nil_i ?_ | refine WT_nil_i ?_) | (with_reducible apply W_cond_t; (case h => (simp; done))) | (with_reducible apply W_cond_f; (case h => (simp; done))) | ((with_reducible first | apply WO_val_i | apply WT_val_i); (case hw => (simp; done)); (case he => (simp; first | done | exact ⟨rfl, rfl⟩ | rfl)); (case hp => (simp; first | done | rfl))) | ((with_reducible first | apply WO_no_i | apply WT_no_i); (case hw => (simp; done)); (case hp => (simp; first | done | rfl))) | ((with_reducible first | apply WO_skip_i | apply WT_skip_i); (case hw => (simp; done)); (case he => (simp; first | done | rfl)); (case hp => (simp; first | done | rfl))) | ((with_reducible first | apply WO_call_i | apply WT_call_i); (case hw => (simp; done)); (case he => (simp; first | done | exact ⟨rfl, rfl, rfl⟩ | rfl))))
  (with_reducible refine W_draw_id (pln := true) [0, 1, 2, 3, 4, 5, 6, 7, 8, 9, 10, 11, 12, 13] [(3, (3, [])), (5, (5, [])), (7, (7, [])), (9, (9, [])), (11, (11, []))] (by kernel_rfl) rfl ?_)
  repeat (first | (with_reducible first | refine W_seq_i ?_ | refine W_block_i ?_ | refine W_region_i ?_ | refine W_skip_i ?_ | refine W_label_i ?_ | refine W_ret_i ?_ | refine W_exit_i ?_ | refine W_goto_i ?_ | refine W_scope_go ?_ | refine jumpW_r ?_ | refine jumpW_n ?_ | refine jumpW_x ?_ | refine blockW_g ?_ | refine thenW_n ?_ | refine blockW_n ?_ | refine blockW_x ?_ | refine blockW_y (by decide) ?_ | refine blockW_r ?_ | refine thenW_e (by simp; done) ?_ | refine WO_nil_i ?_ | refine WT_nil_i ?_) | (with_reducible apply W_cond_t; (case h => (simp [hp, ho, hi, hj, e1, e2, e3, e4, c1, c2, x1, x2, hbf]; done))) | (with_reducible apply W_cond_f; (case h => (simp [hp, ho, hi, hj, e1, e2, e3, e4, c1, c2, x1, x2, hbf]; done))) | ((with_reducible first | apply WO_val_i | apply WT_val_i); (case hw => (simp [hp, ho, hi, hj, e1, e2, e3, e4, c1, c2, x1, x2, hbf]; done)); (case he => (simp [hp, ho, hi, hj, e1, e2, e3, e4, c1, c2, x1, x2, hbf]; first | done | exact ⟨rfl, rfl⟩ | rfl)); (case hp => (simp [hp, ho, hi, hj, e1, e2, e3, e4, c1, c2, x1, x2, hbf]; first | done | rfl))) | ((with_reducible first | apply WO_no_i | apply WT_no_i); (case hw => (simp [hp, ho, hi, hj, e1, e2, e3, e4, c1, c2, x1, x2, hbf]; done)); (case hp => (simp [hp, ho, hi, hj, e1, e2, e3, e4, c1, c2, x1, x2, hbf]; first | done | rfl))) | ((with_reducible first | apply WO_skip_i | apply WT_skip_i); (case hw => (simp [hp, ho, hi, hj, e1, e2, e3, e4, c1, c2, x1, x2, hbf]; done)); (case he => (simp [hp, ho, hi, hj, e1, e2, e3, e4, c1, c2, x1, x2, hbf]; first | done | rfl)); (case hp => (simp [hp, ho, hi, hj, e1, e2, e3, e4, c1, c2, x1, x2, hbf]; first | done | rfl))) | ((with_reducible first | apply WO_call_i | apply WT_call_i); (case hw => (simp [hp, ho, hi, hj, e1, e2, e3, e4, c1, c2, x1, x2, hbf]; done)); (case he => (simp [hp, ho, hi, hj, e1, e2, e3, e4, c1, c2, x1, x2, hbf]; first | done | exact ⟨rfl, rfl, rfl⟩ | rfl))))
  refine A.mono (hf _ _ _ (by exact hpol)) ?_
  rintro _ h2 ⟨rfl, he⟩
  refine ⟨_, by simp; first | done | rfl, ?_⟩
  repeat (first | (with_reducible first | refine W_seq_i ?_ | refine W_block_i ?_ | refine W_region_i ?_ | refine W_skip_i ?_ | refine W_label_i ?_ | refine W_ret_i ?_ | refine W_exit_i ?_ | refine W_goto_i ?_ | refine W_scope_go ?_ | refine jumpW_r ?_ | refine jumpW_n ?_ | refine jumpW_x ?_ | refine blockW_g ?_ | refine thenW_n ?_ | refine blockW_n ?_ | refine blockW_x ?_ | refine blockW_y (by decide) ?_ | refine blockW_r ?_ | refine thenW_e (by simp; done) ?_ | refine WO_nil_i ?_ | refine WT_nil_i ?_) | (with_reducible apply W_cond_t; (case h => (simp; done))) | (with_reducible apply W_cond_f; (case h => (simp; done))) | ((with_reducible first | apply WO_val_i | apply WT_val_i); (case hw => (simp; done)); (case he => (simp; first | done | exact ⟨rfl, rfl⟩ | rfl)); (case hp => (simp; first | done | rfl))) | ((with_reducible first | apply WO_no_i | apply WT_no_i); (case hw => (simp; done)); (case hp => (simp; first | done | rfl))) | ((with_reducible first | apply WO_skip_i | apply WT_skip_i); (case hw => (simp; done)); (case he => (simp; first | done | rfl)); (case hp => (simp; first | done | rfl))) | ((with_reducible first | apply WO_call_i | apply WT_call_i); (case hw => (simp; done)); (case he => (simp; first | done | exact ⟨rfl, rfl, rfl⟩ | rfl))))
  refine ⟨by simp [readSame, beqAV_self, hp, ho, hi, hj, e1, e2, e3, e4, c1, c2]; done, _, by simp; first | done | rfl, ?_⟩
  have g1 : (L[i].xs)[0]'(List.length_pos_iff.2 ni) = L[i].xs.head! := head_bang ni
  have g2 : (L[j].xs)[0]'(List.length_pos_iff.2 nj) = L[j].xs.head! := head_bang nj
  have hr : lessH c L[i] L[j] = if c L[i].xs.head! L[j].xs.head! ≠ 0 then decide (c L[i].xs.head! L[j].xs.head! < 0) else decide (L[i].w < L[j].w) := rfl
  rw [hr]
  have E1 : HE h h2 := (((((HE.refl h).drew.new _).new _).set (by simp) _).set (by simp) _).drew.trans he
  by_cases q : c L[i].xs.head! L[j].xs.head! = 0
  · have r1 : Mp.get h2.obj h.no = some (.row [L[i].s, .int .i64 L[i].w]) := by rw [he.obj _ (by show _ < h.no + 1 + 1; omega)]; simp
    have r2 : Mp.get h2.obj (h.no + 1) = some (.row [L[j].s, .int .i64 L[j].w]) := by rw [he.obj _ (by show _ < h.no + 1 + 1; omega)]; simp
    repeat (first | (with_reducible first | refine W_seq_i ?_ | refine W_block_i ?_ | refine W_region_i ?_ | refine W_skip_i ?_ | refine W_label_i ?_ | refine W_ret_i ?_ | refine W_exit_i ?_ | refine W_goto_i ?_ | refine W_scope_go ?_ | refine jumpW_r ?_ | refine jumpW_n ?_ | refine jumpW_x ?_ | refine blockW_g ?_ | refine thenW_n ?_ | refine blockW_n ?_ | refine blockW_x ?_ | refine blockW_y (by decide) ?_ | refine blockW_r ?_ | refine thenW_e (by simp; done) ?_ | refine WO_nil_i ?_ | refine WT_nil_i ?_) | (with_reducible apply W_cond_t; (case h => (simp [g1, g2, q, r1, r2]; done))) | (with_reducible apply W_cond_f; (case h => (simp [g1, g2, q, r1, r2]; done))) | ((with_reducible first | apply WO_val_i | apply WT_val_i); (case hw => (simp [g1, g2, q, r1, r2]; done)); (case he => (simp [g1, g2, q, r1, r2]; first | done | exact ⟨rfl, rfl⟩ | rfl)); (case hp => (simp [g1, g2, q, r1, r2]; first | done | rfl))) | ((with_reducible first | apply WO_no_i | apply WT_no_i); (case hw => (simp [g1, g2, q, r1, r2]; done)); (case hp => (simp [g1, g2, q, r1, r2]; first | done | rfl))) | ((with_reducible first | apply WO_skip_i | apply WT_skip_i); (case hw => (simp [g1, g2, q, r1, r2]; done)); (case he => (simp [g1, g2, q, r1, r2]; first | done | rfl)); (case hp => (simp [g1, g2, q, r1, r2]; first | done | rfl))) | ((with_reducible first | apply WO_call_i | apply WT_call_i); (case hw => (simp [g1, g2, q, r1, r2]; done)); (case he => (simp [g1, g2, q, r1, r2]; first | done | exact ⟨rfl, rfl, rfl⟩ | rfl))))
    (first | apply endW_r | apply endW_n); (case h1 => (simp [Try.results68]; first | done | rfl))
    simp [q, E1]
  · repeat (first | (with_reducible first | refine W_seq_i ?_ | refine W_block_i ?_ | refine W_region_i ?_ | refine W_skip_i ?_ | refine W_label_i ?_ | refine W_ret_i ?_ | refine W_exit_i ?_ | refine W_goto_i ?_ | refine W_scope_go ?_ | refine jumpW_r ?_ | refine jumpW_n ?_ | refine jumpW_x ?_ | refine blockW_g ?_ | refine thenW_n ?_ | refine blockW_n ?_ | refine blockW_x ?_ | refine blockW_y (by decide) ?_ | refine blockW_r ?_ | refine thenW_e (by simp; done) ?_ | refine WO_nil_i ?_ | refine WT_nil_i ?_) | (with_reducible apply W_cond_t; (case h => (simp [g1, g2, q]; done))) | (with_reducible apply W_cond_f; (case h => (simp [g1, g2, q]; done))) | ((with_reducible first | apply WO_val_i | apply WT_val_i); (case hw => (simp [g1, g2, q]; done)); (case he => (simp [g1, g2, q]; first | done | exact ⟨rfl, rfl⟩ | rfl)); (case hp => (simp [g1, g2, q]; first | done | rfl))) | ((with_reducible first | apply WO_no_i | apply WT_no_i); (case hw => (simp [g1, g2, q]; done)); (case hp => (simp [g1, g2, q]; first | done | rfl))) | ((with_reducible first | apply WO_skip_i | apply WT_skip_i); (case hw => (simp [g1, g2, q]; done)); (case he => (simp [g1, g2, q]; first | done | rfl)); (case hp => (simp [g1, g2, q]; first | done | rfl))) | ((with_reducible first | apply WO_call_i | apply WT_call_i); (case hw => (simp [g1, g2, q]; done)); (case he => (simp [g1, g2, q]; first | done | exact ⟨rfl, rfl, rfl⟩ | rfl))))
    (first | apply endW_r | apply endW_n); (case h1 => (simp [Try.results68]; first | done | rfl))
    simp [q, E1]
theorem swap_str {F : AV} {p o : Nat} {h : Hp Fm} {L : List (Hd (List UInt8))} (k : HH F p o h L)
    (hs : ∀ x ∈ L, SV 1 (x.xs.map encS) x.s) {i j : Nat} (hi : i < L.length) (hj : j < L.length) :
    A Try.prog TT (.func 71) [.ptr p 0, .int .i64 i, .int .i64 j] h (fun r h' => r = .tup [] ∧ HH F p o h' (swapL L i j) ∧ HX (· = o) (fun _ => False) h h') := by
  obtain ⟨cap, hp, hcap⟩ := k.hp
  obtain ⟨J, ho⟩ := k.ho
  have c1 := (hs _ (List.getElem_mem hi)).isCell
  have c2 := (hs _ (List.getElem_mem hj)).isCell
  have e0 := k.ne
  have e1 := k.ne.symm
  apply A_go Try.func71 rfl (by rfl); (case hn => (simp [Try.ntmps71]; rfl))
  (with_reducible refine W_draw_id (pln := true) [0, 1, 2, 3, 4, 5, 6, 7, 8, 9, 10, 11, 12, 13, 14, 15, 16, 17, 18, 19, 20, 21, 22, 23, 24, 25, 26, 27] [(3, (3, [])), (8, (8, [])), (13, (13, [])), (16, (16, [])), (20, (20, [])), (23, (23, []))] (by kernel_rfl) rfl ?_)
  have l1 : i * 2 + 2 ≤ L.length * 2 + J.length := by omega
  have l2 : j * 2 + 2 ≤ L.length * 2 + J.length := by omega
  repeat (first | (with_reducible first | refine W_seq_i ?_ | refine W_block_i ?_ | refine W_region_i ?_ | refine W_skip_i ?_ | refine W_label_i ?_ | refine W_ret_i ?_ | refine W_exit_i ?_ | refine W_goto_i ?_ | refine W_scope_go ?_ | refine jumpW_r ?_ | refine jumpW_n ?_ | refine jumpW_x ?_ | refine blockW_g ?_ | refine thenW_n ?_ | refine blockW_n ?_ | refine blockW_x ?_ | refine blockW_y (by decide) ?_ | refine blockW_r ?_ | refine thenW_e (by simp; done) ?_ | refine WO_nil_i ?_ | refine WT_nil_i ?_) | (with_reducible apply W_cond_t; (case h => (simp [hp, ho, hi, hj, e0, e1, c1, c2, l1, l2]; done))) | (with_reducible apply W_cond_f; (case h => (simp [hp, ho, hi, hj, e0, e1, c1, c2, l1, l2]; done))) | ((with_reducible first | apply WO_val_i | apply WT_val_i); (case hw => (simp [hp, ho, hi, hj, e0, e1, c1, c2, l1, l2]; done)); (case he => (simp [hp, ho, hi, hj, e0, e1, c1, c2, l1, l2]; first | done | exact ⟨rfl, rfl⟩ | rfl)); (case hp => (simp [hp, ho, hi, hj, e0, e1, c1, c2, l1, l2]; first | done | rfl))) | ((with_reducible first | apply WO_no_i | apply WT_no_i); (case hw => (simp [hp, ho, hi, hj, e0, e1, c1, c2, l1, l2]; done)); (case hp => (simp [hp, ho, hi, hj, e0, e1, c1, c2, l1, l2]; first | done | rfl))) | ((with_reducible first | apply WO_skip_i | apply WT_skip_i); (case hw => (simp [hp, ho, hi, hj, e0, e1, c1, c2, l1, l2]; done)); (case he => (simp [hp, ho, hi, hj, e0, e1, c1, c2, l1, l2]; first | done | rfl)); (case hp => (simp [hp, ho, hi, hj, e0, e1, c1, c2, l1, l2]; first | done | rfl))) | ((with_reducible first | apply WO_call_i | apply WT_call_i); (case hw => (simp [hp, ho, hi, hj, e0, e1, c1, c2, l1, l2]; done)); (case he => (simp [hp, ho, hi, hj, e0, e1, c1, c2, l1, l2]; first | done | exact ⟨rfl, rfl, rfl⟩ | rfl))))
  refine ⟨by simp [readSame, beqAV_self, hp]; done, _, by simp; first | done | rfl, ?_⟩
  repeat (first | (with_reducible first | refine W_seq_i ?_ | refine W_block_i ?_ | refine W_region_i ?_ | refine W_skip_i ?_ | refine W_label_i ?_ | refine W_ret_i ?_ | refine W_exit_i ?_ | refine W_goto_i ?_ | refine W_scope_go ?_ | refine jumpW_r ?_ | refine jumpW_n ?_ | refine jumpW_x ?_ | refine blockW_g ?_ | refine thenW_n ?_ | refine blockW_n ?_ | refine blockW_x ?_ | refine blockW_y (by decide) ?_ | refine blockW_r ?_ | refine thenW_e (by simp; done) ?_ | refine WO_nil_i ?_ | refine WT_nil_i ?_) | (with_reducible apply W_cond_t; (case h => (simp; done))) | (with_reducible apply W_cond_f; (case h => (simp; done))) | ((with_reducible first | apply WO_val_i | apply WT_val_i); (case hw => (simp; done)); (case he => (simp; first | done | exact ⟨rfl, rfl⟩ | rfl)); (case hp => (simp; first | done | rfl))) | ((with_reducible first | apply WO_no_i | apply WT_no_i); (case hw => (simp; done)); (case hp => (simp; first | done | rfl))) | ((with_reducible first | apply WO_skip_i | apply WT_skip_i); (case hw => (simp; done)); (case he => (simp; first | done | rfl)); (case hp => (simp; first | done | rfl))) | ((with_reducible first | apply WO_call_i | apply WT_call_i); (case hw => (simp; done)); (case he => (simp; first | done | exact ⟨rfl, rfl, rfl⟩ | rfl))))
  (first | apply endW_r | apply endW_n); (case h1 => (simp [Try.results71]; first | done | rfl))
  refine ⟨by simp, ⟨⟨cap, ?_, ?_⟩, ⟨J, ?_⟩, k.ne, k.pn, k.on, ?_⟩, ?_⟩
  · simp [e0, e1, hp, swapL_eq hi hj]
  · simpa [swapL_eq hi hj] using hcap
  · simp [swapL_eq hi hj]
  · simpa [swapL_eq hi hj] using k.sm
  · exact ((HX.refl (· = o) (fun _ => False) h).drew.set (fun _ => rfl) _).set (fun _ => rfl) _

theorem pop_str {F : AV} {p o : Nat} {h : Hp Fm} {L : List (Hd (List UInt8))} (k : HH F p o h L)
    (hs : ∀ x ∈ L, SV 1 (x.xs.map encS) x.s) (hn : L ≠ []) :
    A Try.prog TT (.func 69) [.ptr p 0] h (fun r h' => HH F p o h' L.dropLast ∧ HX (· = p) (fun _ => False) h h') := by
  obtain ⟨cap, hp, hcap⟩ := k.hp
  obtain ⟨J, ho⟩ := k.ho
  have hl : 0 < L.length := List.length_pos_iff.2 hn
  have hi : L.length - 1 < L.length := by omega
  have hx : (L.length : Int) - 1 = ((L.length - 1 : Nat) : Int) := by omega
  have c1 := (hs _ (List.getElem_mem hi)).isCell
  have e0 := k.ne
  have e1 := k.ne.symm
  have e2 : p ≠ h.no := by have := k.pn; omega
  have e4 := e2.symm
  have e3 : o ≠ h.no := by have := k.on; omega
  apply A_go Try.func69 rfl (by rfl); (case hn => (simp [Try.ntmps69]; rfl))
  repeat (first | (with_reducible first | refine W_seq_i ?_ | refine W_block_i ?_ | refine W_region_i ?_ | refine W_skip_i ?_ | refine W_label_i ?_ | refine W_ret_i ?_ | refine W_exit_i ?_ | refine W_goto_i ?_ | refine W_scope_go ?_ | refine jumpW_r ?_ | refine jumpW_n ?_ | refine jumpW_x ?_ | refine blockW_g ?_ | refine thenW_n ?_ | refine blockW_n ?_ | refine blockW_x ?_ | refine blockW_y (by decide) ?_ | refine blockW_r ?_ | refine thenW_e (by simp; done) ?_ | refine WO_nil_i ?_ | refine WT_nil_i ?_) | (with_reducible apply W_cond_t; (case h => (simp; done))) | (with_reducible apply W_cond_f; (case h => (simp; done))) | ((with_reducible first | apply WO_val_i | apply WT_val_i); (case hw => (simp; done)); (case he => (simp; first | done | exact ⟨rfl, rfl⟩ | rfl)); (case hp => (simp; first | done | rfl))) | ((with_reducible first | apply WO_no_i | apply WT_no_i); (case hw => (simp; done)); (case hp => (simp; first | done | rfl))) | ((with_reducible first | apply WO_skip_i | apply WT_skip_i); (case hw => (simp; done)); (case he => (simp; first | done | rfl)); (case hp => (simp; first | done | rfl))) | ((with_reducible first | apply WO_call_i | apply WT_call_i); (case hw => (simp; done)); (case he => (simp; first | done | exact ⟨rfl, rfl, rfl⟩ | rfl))))
  (with_reducible refine W_draw_id (pln := true) [0, 1, 2, 3, 4, 5, 6, 7, 8, 9, 10, 11, 12, 13] [(3, (3, [13])), (7, (7, [13])), (11, (11, [13]))] (by kernel_rfl) rfl ?_)
  have hsm := k.sm
  have hw : IntKind.i64.wrap ((L.length - 1 : Nat) : Int) = ((L.length - 1 : Nat) : Int) := wrap64 (by omega) (by omega)
  have hz : ((L.length - 1 : Nat) : Int) < (L.length : Int) := by omega
  have hy : ((L.length - 1 : Nat) : Int) ≤ (L.length : Int) := by omega
  repeat (first | (with_reducible first | refine W_seq_i ?_ | refine W_block_i ?_ | refine W_region_i ?_ | refine W_skip_i ?_ | refine W_label_i ?_ | refine W_ret_i ?_ | refine W_exit_i ?_ | refine W_goto_i ?_ | refine W_scope_go ?_ | refine jumpW_r ?_ | refine jumpW_n ?_ | refine jumpW_x ?_ | refine blockW_g ?_ | refine thenW_n ?_ | refine blockW_n ?_ | refine blockW_x ?_ | refine blockW_y (by decide) ?_ | refine blockW_r ?_ | refine thenW_e (by simp; done) ?_ | refine WO_nil_i ?_ | refine WT_nil_i ?_) | (with_reducible apply W_cond_t; (case h => (simp [hp, ho, hi, hx, hl, e0, e1, e2, e3, c1, hw, hz]; done))) | (with_reducible apply W_cond_f; (case h => (simp [hp, ho, hi, hx, hl, e0, e1, e2, e3, c1, hw, hz]; done))) | ((with_reducible first | apply WO_val_i | apply WT_val_i); (case hw => (simp [hp, ho, hi, hx, hl, e0, e1, e2, e3, c1, hw, hz]; done)); (case he => (simp [hp, ho, hi, hx, hl, e0, e1, e2, e3, c1, hw, hz]; first | done | exact ⟨rfl, rfl⟩ | rfl)); (case hp => (simp [hp, ho, hi, hx, hl, e0, e1, e2, e3, c1, hw, hz]; first | done | rfl))) | ((with_reducible first | apply WO_no_i | apply WT_no_i); (case hw => (simp [hp, ho, hi, hx, hl, e0, e1, e2, e3, c1, hw, hz]; done)); (case hp => (simp [hp, ho, hi, hx, hl, e0, e1, e2, e3, c1, hw, hz]; first | done | rfl))) | ((with_reducible first | apply WO_skip_i | apply WT_skip_i); (case hw => (simp [hp, ho, hi, hx, hl, e0, e1, e2, e3, c1, hw, hz]; done)); (case he => (simp [hp, ho, hi, hx, hl, e0, e1, e2, e3, c1, hw, hz]; first | done | rfl)); (case hp => (simp [hp, ho, hi, hx, hl, e0, e1, e2, e3, c1, hw, hz]; first | done | rfl))) | ((with_reducible first | apply WO_call_i | apply WT_call_i); (case hw => (simp [hp, ho, hi, hx, hl, e0, e1, e2, e3, c1, hw, hz]; done)); (case he => (simp [hp, ho, hi, hx, hl, e0, e1, e2, e3, c1, hw, hz]; first | done | exact ⟨rfl, rfl, rfl⟩ | rfl))))
  refine ⟨by simp [readSame, beqAV_self, hp, ho, hi, hx, hl, e0, e1, e2, e3, c1, hw, hz]; done, _, by simp; first | done | rfl, ?_⟩
  repeat (first | (with_reducible first | refine W_seq_i ?_ | refine W_block_i ?_ | refine W_region_i ?_ | refine W_skip_i ?_ | refine W_label_i ?_ | refine W_ret_i ?_ | refine W_exit_i ?_ | refine W_goto_i ?_ | refine W_scope_go ?_ | refine jumpW_r ?_ | refine jumpW_n ?_ | refine jumpW_x ?_ | refine blockW_g ?_ | refine thenW_n ?_ | refine blockW_n ?_ | refine blockW_x ?_ | refine blockW_y (by decide) ?_ | refine blockW_r ?_ | refine thenW_e (by simp; done) ?_ | refine WO_nil_i ?_ | refine WT_nil_i ?_) | (with_reducible apply W_cond_t; (case h => (simp; done))) | (with_reducible apply W_cond_f; (case h => (simp; done))) | ((with_reducible first | apply WO_val_i | apply WT_val_i); (case hw => (simp; done)); (case he => (simp; first | done | exact ⟨rfl, rfl⟩ | rfl)); (case hp => (simp; first | done | rfl))) | ((with_reducible first | apply WO_no_i | apply WT_no_i); (case hw => (simp; done)); (case hp => (simp; first | done | rfl))) | ((with_reducible first | apply WO_skip_i | apply WT_skip_i); (case hw => (simp; done)); (case he => (simp; first | done | rfl)); (case hp => (simp; first | done | rfl))) | ((with_reducible first | apply WO_call_i | apply WT_call_i); (case hw => (simp; done)); (case he => (simp; first | done | exact ⟨rfl, rfl, rfl⟩ | rfl))))
  (with_reducible refine W_draw_id (pln := true) [0, 1, 2, 3, 4, 5, 6, 7, 8, 9, 10, 11, 12, 13, 14] [(4, (4, [])), (8, (8, []))] (by kernel_rfl) rfl ?_)
  repeat (first | (with_reducible first | refine W_seq_i ?_ | refine W_block_i ?_ | refine W_region_i ?_ | refine W_skip_i ?_ | refine W_label_i ?_ | refine W_ret_i ?_ | refine W_exit_i ?_ | refine W_goto_i ?_ | refine W_scope_go ?_ | refine jumpW_r ?_ | refine jumpW_n ?_ | refine jumpW_x ?_ | refine blockW_g ?_ | refine thenW_n ?_ | refine blockW_n ?_ | refine blockW_x ?_ | refine blockW_y (by decide) ?_ | refine blockW_r ?_ | refine thenW_e (by simp; done) ?_ | refine WO_nil_i ?_ | refine WT_nil_i ?_) | (with_reducible apply W_cond_t; (case h => (simp [hp, ho, hi, hx, hl, e0, e1, e2, e3, c1, hw, hz, hy, hcap]; done))) | (with_reducible apply W_cond_f; (case h => (simp [hp, ho, hi, hx, hl, e0, e1, e2, e3, c1, hw, hz, hy, hcap]; done))) | ((with_reducible first | apply WO_val_i | apply WT_val_i); (case hw => (simp [hp, ho, hi, hx, hl, e0, e1, e2, e3, c1, hw, hz, hy, hcap]; done)); (case he => (simp [hp, ho, hi, hx, hl, e0, e1, e2, e3, c1, hw, hz, hy, hcap]; first | done | exact ⟨rfl, rfl⟩ | rfl)); (case hp => (simp [hp, ho, hi, hx, hl, e0, e1, e2, e3, c1, hw, hz, hy, hcap]; first | done | rfl))) | ((with_reducible first | apply WO_no_i | apply WT_no_i); (case hw => (simp [hp, ho, hi, hx, hl, e0, e1, e2, e3, c1, hw, hz, hy, hcap]; done)); (case hp => (simp [hp, ho, hi, hx, hl, e0, e1, e2, e3, c1, hw, hz, hy, hcap]; first | done | rfl))) | ((with_reducible first | apply WO_skip_i | apply WT_skip_i); (case hw => (simp [hp, ho, hi, hx, hl, e0, e1, e2, e3, c1, hw, hz, hy, hcap]; done)); (case he => (simp [hp, ho, hi, hx, hl, e0, e1, e2, e3, c1, hw, hz, hy, hcap]; first | done | rfl)); (case hp => (simp [hp, ho, hi, hx, hl, e0, e1, e2, e3, c1, hw, hz, hy, hcap]; first | done | rfl))) | ((with_reducible first | apply WO_call_i | apply WT_call_i); (case hw => (simp [hp, ho, hi, hx, hl, e0, e1, e2, e3, c1, hw, hz, hy, hcap]; done)); (case he => (simp [hp, ho, hi, hx, hl, e0, e1, e2, e3, c1, hw, hz, hy, hcap]; first | done | exact ⟨rfl, rfl, rfl⟩ | rfl))))
  refine ⟨by simp [readSame, beqAV_self, hp, ho, hi, hx, hl, e0, e1, e2, e3, c1, hw, hz]; done, _, by simp; first | done | rfl, ?_⟩
  repeat (first | (with_reducible first | refine W_seq_i ?_ | refine W_block_i ?_ | refine W_region_i ?_ | refine W_skip_i ?_ | refine W_label_i ?_ | refine W_ret_i ?_ | refine W_exit_i ?_ | refine W_goto_i ?_ | refine W_scope_go ?_ | refine jumpW_r ?_ | refine jumpW_n ?_ | refine jumpW_x ?_ | refine blockW_g ?_ | refine thenW_n ?_ | refine blockW_n ?_ | refine blockW_x ?_ | refine blockW_y (by decide) ?_ | refine blockW_r ?_ | refine thenW_e (by simp; done) ?_ | refine WO_nil_i ?_ | refine WT_nil_i ?_) | (with_reducible apply W_cond_t; (case h => (simp [hp, ho, hi, hx, hl, e0, e1, e2, e3, e4, c1, hw, hz]; done))) | (with_reducible apply W_cond_f; (case h => (simp [hp, ho, hi, hx, hl, e0, e1, e2, e3, e4, c1, hw, hz]; done))) | ((with_reducible first | apply WO_val_i | apply WT_val_i); (case hw => (simp [hp, ho, hi, hx, hl, e0, e1, e2, e3, e4, c1, hw, hz]; done)); (case he => (simp [hp, ho, hi, hx, hl, e0, e1, e2, e3, e4, c1, hw, hz]; first | done | exact ⟨rfl, rfl⟩ | rfl)); (case hp => (simp [hp, ho, hi, hx, hl, e0, e1, e2, e3, e4, c1, hw, hz]; first | done | rfl))) | ((with_reducible first | apply WO_no_i | apply WT_no_i); (case hw => (simp [hp, ho, hi, hx, hl, e0, e1, e2, e3, e4, c1, hw, hz]; done)); (case hp => (simp [hp, ho, hi, hx, hl, e0, e1, e2, e3, e4, c1, hw, hz]; first | done | rfl))) | ((with_reducible first | apply WO_skip_i | apply WT_skip_i); (case hw => (simp [hp, ho, hi, hx, hl, e0, e1, e2, e3, e4, c1, hw, hz]; done)); (case he => (simp [hp, ho, hi, hx, hl, e0, e1, e2, e3, e4, c1, hw, hz]; first | done | rfl)); (case hp => (simp [hp, ho, hi, hx, hl, e0, e1, e2, e3, e4, c1, hw, hz]; first | done | rfl))) | ((with_reducible first | apply WO_call_i | apply WT_call_i); (case hw => (simp [hp, ho, hi, hx, hl, e0, e1, e2, e3, e4, c1, hw, hz]; done)); (case he => (simp [hp, ho, hi, hx, hl, e0, e1, e2, e3, e4, c1, hw, hz]; first | done | exact ⟨rfl, rfl, rfl⟩ | rfl))))
  (first | apply endW_r | apply endW_n); (case h1 => (simp [Try.results69]; first | done | rfl))
  have hd : hrow L J = hrow L.dropLast (L[L.length - 1].cells ++ J) := by
    have : L = L.dropLast ++ [L[L.length - 1]] := by
      conv => lhs; rw [← List.dropLast_concat_getLast hn]
      rw [List.getLast_eq_getElem]
    conv => lhs; rw [this]
    simp [hrow]
  have kp := k.pn
  have ko := k.on
  have hm : L.dropLast.length ≤ cap := by rw [List.length_dropLast]; omega
  have hm2 : L.dropLast.length < 2147483648 := by rw [List.length_dropLast]; omega
  refine ⟨⟨⟨cap, ?_, hm⟩, ⟨L[L.length - 1].cells ++ J, ?_⟩, k.ne, by show p < h.no + 1; omega, by show o < h.no + 1; omega, hm2⟩, ?_⟩
  · simp
  · simp [e0, e1, e3, ho]; exact hd
  · exact (((HX.refl (· = p) (fun _ => False) h).drew.new _).set (fun k => (Nat.lt_irrefl _ k).elim) _).drew.set (fun _ => rfl) _
end Go.Vn

set_option maxRecDepth 20000
namespace Go.Vn
open Go.Proofs

theorem meth_len_str (v : AV) : methodAV Try.prog 94 v "Len" = some (44, v) := by kernel_rfl
theorem meth_less_str (v : AV) : methodAV Try.prog 94 v "Less" = some (68, v) := by kernel_rfl
theorem meth_swap_str (v : AV) : methodAV Try.prog 94 v "Swap" = some (71, v) := by kernel_rfl
theorem meth_pop_str (v : AV) : methodAV Try.prog 94 v "Pop" = some (69, v) := by kernel_rfl

theorem len0_str {F : AV} {p : Nat} {h : Hp Fm} (hp : Mp.get h.obj p = some (.row [.nils, F])) : A Try.prog TT (.func 44) [.ptr p 0] h (fun r h' => r = .int .i64 (0 : Nat) ∧ h' = h) := by
  apply A_go Try.func44 rfl (by rfl); (case hn => (simp [Try.ntmps44]; rfl))
  repeat (first | (with_reducible first | refine W_seq_i ?_ | refine W_block_i ?_ | refine W_region_i ?_ | refine W_skip_i ?_ | refine W_label_i ?_ | refine W_ret_i ?_ | refine W_exit_i ?_ | refine W_goto_i ?_ | refine W_scope_go ?_ | refine jumpW_r ?_ | refine jumpW_n ?_ | refine jumpW_x ?_ | refine blockW_g ?_ | refine thenW_n ?_ | refine blockW_n ?_ | refine blockW_x ?_ | refine blockW_y (by decide) ?_ | refine blockW_r ?_ | refine thenW_e (by simp; done) ?_ | refine WO_nil_i ?_ | refine WT_nil_i ?_) | (with_reducible apply W_cond_t; (case h => (simp [hp, lenAV]; done))) | (with_reducible apply W_cond_f; (case h => (simp [hp, lenAV]; done))) | ((with_reducible first | apply WO_val_i | apply WT_val_i); (case hw => (simp [hp, lenAV]; done)); (case he => (simp [hp, lenAV]; first | done | exact ⟨rfl, rfl⟩ | rfl)); (case hp => (simp [hp, lenAV]; first | done | rfl))) | ((with_reducible first | apply WO_no_i | apply WT_no_i); (case hw => (simp [hp, lenAV]; done)); (case hp => (simp [hp, lenAV]; first | done | rfl))) | ((with_reducible first | apply WO_skip_i | apply WT_skip_i); (case hw => (simp [hp, lenAV]; done)); (case he => (simp [hp, lenAV]; first | done | rfl)); (case hp => (simp [hp, lenAV]; first | done | rfl))) | ((with_reducible first | apply WO_call_i | apply WT_call_i); (case hw => (simp [hp, lenAV]; done)); (case he => (simp [hp, lenAV]; first | done | exact ⟨rfl, rfl, rfl⟩ | rfl))))
  (first | apply endW_r | apply endW_n); (case h1 => (simp [Try.results44]; first | done | rfl))
  simp

theorem lenX_str {F : AV} {p o : Nat} {h : Hp Fm} {L : List (Hd (List UInt8))} (k : Xof p o F 1 encS h L) : A Try.prog TT (.func 44) [.ptr p 0] h (fun r h' => r = .int .i64 L.length ∧ h' = h) := by
  obtain ⟨k | ⟨rfl, hp, _⟩, hs, hpol⟩ := k
  · exact len_str k
  · exact len0_str hp

theorem hi_str {F : AV} {c : (List UInt8) → (List UInt8) → Int} (hc : Cmp (List UInt8) encS F c) (p o : Nat) : HI (.ifc 94 (.ptr p 0)) (Xof p o F 1 encS) (fun x : Hd (List UInt8) => x.xs ≠ []) (HX (fun q => q = p ∨ q = o) (fun _ => False)) (lessH c) where
  rf := fun h => HX.refl _ _ h
  tr := fun a b c h k => HX.trans h k
  sm := fun h L k => by
    rcases k.1 with k | ⟨rfl, _⟩
    · exact k.sm
    · simp
  len := by
    refine ⟨44, .ptr p 0, fun h => by simp [invokeFn, meth_len_str], fun h L k => ?_⟩
    have k0 := k
    obtain ⟨k | ⟨rfl, hp, _⟩, hs, hpol⟩ := k
    · refine (len_str k).mono ?_
      rintro r h' ⟨rfl, rfl⟩
      exact ⟨rfl, k0, HX.refl _ _ _⟩
    · refine (len0_str hp).mono ?_
      rintro r h' ⟨rfl, rfl⟩
      exact ⟨rfl, k0, HX.refl _ _ _⟩
  less := by
    refine ⟨68, .ptr p 0, fun h a b => by simp [invokeFn, meth_less_str], fun h L i j k hi hj gi gj => ?_⟩
    have k0 := k
    obtain ⟨k | ⟨rfl, hp, _⟩, hs, hpol⟩ := k
    · rw [getElem!_pos L i hi] at gi ⊢
      rw [getElem!_pos L j hj] at gj ⊢
      refine (less_str hc k hs hpol hi hj gi gj).mono ?_
      rintro r h' ⟨rfl, he⟩
      exact ⟨rfl, k0.of he, he.x _ _⟩
    · simp at hi
  swap := by
    refine ⟨71, .ptr p 0, fun h a b => by simp [invokeFn, meth_swap_str], fun h L i j k hi hj => ?_⟩
    obtain ⟨k | ⟨rfl, hp, _⟩, hs, hpol⟩ := k
    · refine (swap_str k hs hi hj).mono ?_
      rintro r h' ⟨_, hh, hx⟩
      refine ⟨⟨.inl hh, fun x hx => hs x ((swapL_perm hi hj).mem_iff.mp hx), by rw [hx.pol]; exact hpol⟩, hx.mono (fun q _ e => .inr e) (fun _ _ e => e)⟩
    · simp at hi
  pop := by
    refine ⟨69, .ptr p 0, fun h => by simp [invokeFn, meth_pop_str], fun h L k hn => ?_⟩
    obtain ⟨k | ⟨rfl, hp, _⟩, hs, hpol⟩ := k
    · refine (pop_str k hs hn).mono ?_
      rintro r h' ⟨hh, hx⟩
      refine ⟨⟨.inl hh, fun x hx => hs x (List.dropLast_subset _ hx), by rw [hx.pol]; exact hpol⟩, hx.mono (fun q _ e => .inl e) (fun _ _ e => e)⟩
    · exact (hn rfl).elim

theorem et99 : ElT Try.prog 95 99 2 32 true (.agg [.nils, .int .i64 0]) := ⟨Try.underlying95, z99, b99, a99, t99, rfl, rfl, (fun h => by cases h), by omega, by omega⟩

theorem each_str {F : AV} {c : (List UInt8) → (List UInt8) → Int} (hc : Cmp (List UInt8) encS F c) (ho : Ord (lessH c)) (y a b : Nat) (v : AV) (ls : List (AV × List (List UInt8))) (hv : SV 1 (ls.map Prod.fst) v) (hls : ∀ q ∈ ls, SV 1 (q.2.map encS) q.1) (hlen : ls.length ≤ 1000)
    (J K : List (List UInt8) → Hp Fm → Prop) (h0 : Hp Fm) (ha : Mp.get h0.obj a = some (.row [F])) (hb : Mp.get h0.obj b = some (.row [v])) (han : a < h0.no) (hbn : b < h0.no)
    (hJ : ∀ acc h h', J acc h → HX (h0.no ≤ ·) (fun _ => False) h h' → J acc h')
    (hy : ∀ acc x h L', Path (lessH c) (hds 0 ls) (acc ++ [x]) L' → J acc h → h.pol = (· == 99) → h0.no ≤ h.no → A Try.prog TT (.yield y) [encS x] h (fun r h' => HX (· < h0.no) (fun _ => True) h h' ∧ ((r = .bool true ∧ J (acc ++ [x]) h') ∨ (r = .bool false ∧ K (acc ++ [x]) h'))))
    (h00 : J [] { h0 with pol := (· == 99) }) :
    A Try.prog TT (.func 43) [.yl y, .ptr a 0, .ptr b 0] h0 (fun r h' => ∃ h'' pre L', h' = { h'' with pol := h0.pol } ∧ h''.pol = (· == 99) ∧ Path (lessH c) (hds 0 ls) pre L' ∧ ((L' = [] ∧ J pre h'') ∨ K pre h'')) := by
  have hvl := hv.len Try.underlying23
  rw [List.length_map] at hvl
  have hvm := hv.nm
  obtain ⟨f, rfl, hbf, hf⟩ := id hc
  apply A_goT Try.func43 rfl (by rfl); (case hn => (simp [Try.ntmps43]; rfl))
  have ea : a ≠ h0.no := by omega
  have eb : b ≠ h0.no := by omega
  repeat (first | (with_reducible first | refine W_seq_i ?_ | refine W_block_i ?_ | refine W_region_i ?_ | refine W_skip_i ?_ | refine W_label_i ?_ | refine W_ret_i ?_ | refine W_exit_i ?_ | refine W_goto_i ?_ | refine W_scope_go ?_ | refine jumpW_r ?_ | refine jumpW_n ?_ | refine jumpW_x ?_ | refine blockW_g ?_ | refine thenW_n ?_ | refine blockW_n ?_ | refine blockW_x ?_ | refine blockW_y (by decide) ?_ | refine blockW_r ?_ | refine thenW_e (by simp; done) ?_ | refine WO_nil_i ?_ | refine WT_nil_i ?_) | (with_reducible apply W_cond_t; (case h => (simp [ha, hb, ea, eb, hvl, hvm, buildAV]; done))) | (with_reducible apply W_cond_f; (case h => (simp [ha, hb, ea, eb, hvl, hvm, buildAV]; done))) | ((with_reducible first | apply WO_val_i | apply WT_val_i); (case hw => (simp [ha, hb, ea, eb, hvl, hvm, buildAV]; done)); (case he => (simp [ha, hb, ea, eb, hvl, hvm, buildAV]; first | done | exact ⟨rfl, rfl⟩ | rfl)); (case hp => (simp [ha, hb, ea, eb, hvl, hvm, buildAV]; first | done | rfl))) | ((with_reducible first | apply WO_no_i | apply WT_no_i); (case hw => (simp [ha, hb, ea, eb, hvl, hvm, buildAV]; done)); (case hp => (simp [ha, hb, ea, eb, hvl, hvm, buildAV]; first | done | rfl))) | ((with_reducible first | apply WO_skip_i | apply WT_skip_i); (case hw => (simp [ha, hb, ea, eb, hvl, hvm, buildAV]; done)); (case he => (simp [ha, hb, ea, eb, hvl, hvm, buildAV]; first | done | rfl)); (case hp => (simp [ha, hb, ea, eb, hvl, hvm, buildAV]; first | done | rfl))) | ((with_reducible first | apply WO_call_i | apply WT_call_i); (case hw => (simp [ha, hb, ea, eb, hvl, hvm, buildAV]; done)); (case he => (simp [ha, hb, ea, eb, hvl, hvm, buildAV]; first | done | exact ⟨rfl, rfl, rfl⟩ | rfl))))
  refine W_loop (fun m s => ∃ (t : Fm AV) (h : Hp Fm) (i : Nat) (w : AV), s = ⟨t, 76, h, none⟩ ∧ m = ls.length - i ∧ i ≤ ls.length ∧ tget t 0 = .yl y ∧ tget t 4 = .ptr h0.no 0 ∧ tget t 12 = v ∧ tget t 13 = .int .i64 ls.length ∧ tget t 14 = .int .i64 i ∧ h.pol = (· == 99) ∧ Mp.get h.obj h0.no = some (.row [w, .fn (.func f) [] []]) ∧ RS (h0.no + 1) h 2 true ((hds 0 (ls.take i)).map fun x => .agg x.cells) w ∧ HX (h0.no ≤ ·) (fun _ => False) { h0 with pol := (· == 99) } h ∧ h0.no < h.no) ls.length
    ⟨_, _, 0, .nils, rfl, rfl, Nat.zero_le _, by simp, by simp, by simp, by simp, by simp, rfl, by simp, .inl ⟨rfl, by simp [hds]⟩, (HX.refl _ _ _).new _, by simp⟩ ?_
  rintro m s ⟨t, h, i, w, rfl, rfl, hi, t0, t4, t12, t13, t14, hpol, hw, hrs, hx, hno⟩
  by_cases q : i < ls.length
  · have hix := hv.idx Try.underlying23 z26 (k := .i64) (i := i) (by simp) (by simpa using q)
    have hsv := hls _ (List.getElem_mem q)
    have hln := hsv.len Try.underlying26
    have hcl := hsv.cells
    have hsm := hsv.nm
    have w1 : IntKind.i64.wrap ((i : Int) + 1) = ((i + 1 : Nat) : Int) := by rw [wrap64 (by omega) (by omega)]; simp
    have htk := hds_take ls i q
    simp only [List.getElem_map, Int.toNat_natCast] at hix
    by_cases qe : ls[i].2 = []
    · rw [if_pos qe, List.append_nil] at htk
      repeat (first | (with_reducible first | refine W_seq_i ?_ | refine W_block_i ?_ | refine W_region_i ?_ | refine W_skip_i ?_ | refine W_label_i ?_ | refine W_ret_i ?_ | refine W_exit_i ?_ | refine W_goto_i ?_ | refine W_scope_go ?_ | refine jumpW_r ?_ | refine jumpW_n ?_ | refine jumpW_x ?_ | refine blockW_g ?_ | refine thenW_n ?_ | refine blockW_n ?_ | refine blockW_x ?_ | refine blockW_y (by decide) ?_ | refine blockW_r ?_ | refine thenW_e (by simp; done) ?_ | refine WO_nil_i ?_ | refine WT_nil_i ?_) | (with_reducible apply W_cond_t; (case h => (simp [t0, t4, t12, t13, t14, q, hix, hcl, hln, hsm, qe, w1]; done))) | (with_reducible apply W_cond_f; (case h => (simp [t0, t4, t12, t13, t14, q, hix, hcl, hln, hsm, qe, w1]; done))) | ((with_reducible first | apply WO_val_i | apply WT_val_i); (case hw => (simp [t0, t4, t12, t13, t14, q, hix, hcl, hln, hsm, qe, w1]; done)); (case he => (simp [t0, t4, t12, t13, t14, q, hix, hcl, hln, hsm, qe, w1]; first | done | exact ⟨rfl, rfl⟩ | rfl)); (case hp => (simp [t0, t4, t12, t13, t14, q, hix, hcl, hln, hsm, qe, w1]; first | done | rfl))) | ((with_reducible first | apply WO_no_i | apply WT_no_i); (case hw => (simp [t0, t4, t12, t13, t14, q, hix, hcl, hln, hsm, qe, w1]; done)); (case hp => (simp [t0, t4, t12, t13, t14, q, hix, hcl, hln, hsm, qe, w1]; first | done | rfl))) | ((with_reducible first | apply WO_skip_i | apply WT_skip_i); (case hw => (simp [t0, t4, t12, t13, t14, q, hix, hcl, hln, hsm, qe, w1]; done)); (case he => (simp [t0, t4, t12, t13, t14, q, hix, hcl, hln, hsm, qe, w1]; first | done | rfl)); (case hp => (simp [t0, t4, t12, t13, t14, q, hix, hcl, hln, hsm, qe, w1]; first | done | rfl))) | ((with_reducible first | apply WO_call_i | apply WT_call_i); (case hw => (simp [t0, t4, t12, t13, t14, q, hix, hcl, hln, hsm, qe, w1]; done)); (case he => (simp [t0, t4, t12, t13, t14, q, hix, hcl, hln, hsm, qe, w1]; first | done | exact ⟨rfl, rfl, rfl⟩ | rfl))))
      refine ⟨_, ?_, _, _, i + 1, w, rfl, rfl, by omega, by simp [t0], by simp [t4], by simp [t12], by simp [t13], by simp, hpol, hw, by rw [htk]; exact hrs, hx, hno⟩
      omega
    · rw [if_neg qe] at htk
      have qp : 0 < ls[i].2.length := List.length_pos_iff.2 qe
      have hci := hsv.isCell
      have en : h0.no ≠ h.no := by omega
      have hp92 : h.pol 99 = true := by rw [hpol]; rfl
      repeat (first | (with_reducible first | refine W_seq_i ?_ | refine W_block_i ?_ | refine W_region_i ?_ | refine W_skip_i ?_ | refine W_label_i ?_ | refine W_ret_i ?_ | refine W_exit_i ?_ | refine W_goto_i ?_ | refine W_scope_go ?_ | refine jumpW_r ?_ | refine jumpW_n ?_ | refine jumpW_x ?_ | refine blockW_g ?_ | refine thenW_n ?_ | refine blockW_n ?_ | refine blockW_x ?_ | refine blockW_y (by decide) ?_ | refine blockW_r ?_ | refine thenW_e (by simp; done) ?_ | refine WO_nil_i ?_ | refine WT_nil_i ?_) | (with_reducible apply W_cond_t; (case h => (simp [t0, t4, t12, t13, t14, q, hix, hcl, hci, hln, hsm, qe, qp, w1, hw, hp92, newSeq, newRs, buildAV, en]; done))) | (with_reducible apply W_cond_f; (case h => (simp [t0, t4, t12, t13, t14, q, hix, hcl, hci, hln, hsm, qe, qp, w1, hw, hp92, newSeq, newRs, buildAV, en]; done))) | ((with_reducible first | apply WO_val_i | apply WT_val_i); (case hw => (simp [t0, t4, t12, t13, t14, q, hix, hcl, hci, hln, hsm, qe, qp, w1, hw, hp92, newSeq, newRs, buildAV, en]; done)); (case he => (simp [t0, t4, t12, t13, t14, q, hix, hcl, hci, hln, hsm, qe, qp, w1, hw, hp92, newSeq, newRs, buildAV, en]; first | done | exact ⟨rfl, rfl⟩ | rfl)); (case hp => (simp [t0, t4, t12, t13, t14, q, hix, hcl, hci, hln, hsm, qe, qp, w1, hw, hp92, newSeq, newRs, buildAV, en]; first | done | rfl))) | ((with_reducible first | apply WO_no_i | apply WT_no_i); (case hw => (simp [t0, t4, t12, t13, t14, q, hix, hcl, hci, hln, hsm, qe, qp, w1, hw, hp92, newSeq, newRs, buildAV, en]; done)); (case hp => (simp [t0, t4, t12, t13, t14, q, hix, hcl, hci, hln, hsm, qe, qp, w1, hw, hp92, newSeq, newRs, buildAV, en]; first | done | rfl))) | ((with_reducible first | apply WO_skip_i | apply WT_skip_i); (case hw => (simp [t0, t4, t12, t13, t14, q, hix, hcl, hci, hln, hsm, qe, qp, w1, hw, hp92, newSeq, newRs, buildAV, en]; done)); (case he => (simp [t0, t4, t12, t13, t14, q, hix, hcl, hci, hln, hsm, qe, qp, w1, hw, hp92, newSeq, newRs, buildAV, en]; first | done | rfl)); (case hp => (simp [t0, t4, t12, t13, t14, q, hix, hcl, hci, hln, hsm, qe, qp, w1, hw, hp92, newSeq, newRs, buildAV, en]; first | done | rfl))) | ((with_reducible first | apply WO_call_i | apply WT_call_i); (case hw => (simp [t0, t4, t12, t13, t14, q, hix, hcl, hci, hln, hsm, qe, qp, w1, hw, hp92, newSeq, newRs, buildAV, en]; done)); (case he => (simp [t0, t4, t12, t13, t14, q, hix, hcl, hci, hln, hsm, qe, qp, w1, hw, hp92, newSeq, newRs, buildAV, en]; first | done | exact ⟨rfl, rfl, rfl⟩ | rfl))))
      with_reducible apply WO_app_i; (case hw => (simp [t0, t4, t12, t13, t14, q, hix, hcl, hci, hln, hsm, qe, qp, w1, hw, hp92, newSeq, newRs, buildAV, en]; done)); (case ho => rfl); (case hb => rfl); (case ha => (simp [t0, t4, t12, t13, t14, q, hix, hcl, hci, hln, hsm, qe, qp, w1, hw, hp92, newSeq, newRs, buildAV, en]; first | done | exact ⟨rfl, rfl⟩ | rfl)); (case h1 => (simp; first | done | rfl)); (case h2 => (simp; first | done | rfl))
      have hrs1 := hrs.of ((HX.refl (fun _ => False) (fun _ => False) h).new (.row [ls[i].1, .int .i64 i])) (fun _ _ k => k)
      have hfit : ∀ e ∈ (hds 0 (ls.take i)).map (fun x => AV.agg x.cells), Fit true 2 e := by
        intro e he
        obtain ⟨x, _, rfl⟩ := List.mem_map.mp he
        exact .inl ⟨rfl, _, rfl, rfl⟩
      have hlen2 : (hds 0 (ls.take i)).length ≤ 1000 := by
        have := hds_length (ls.take i) 0
        rw [List.length_take] at this; omega
      refine app_then (RS.appN et99 (new := [.agg [ls[i].1, .int .i64 i]]) hrs1 (by show h0.no + 1 ≤ h.no + 1; omega) hp92 (by simp [newEls, rsEls, chunkAV]) hfit (by intro e he; simp only [List.mem_singleton] at he; subst he; exact .inl ⟨rfl, _, rfl, rfl⟩) (by simp; omega)) ?_
      rintro w2 h2 ⟨hrs2, hx2, hpol2, hrow2⟩
      refine ⟨_, by simp; rfl, ?_⟩
      have hnr : ¬ isRow w h0.no := by
        rcases hrs with ⟨rfl, _⟩ | ⟨o, cap, rfl, hlo, _⟩
        · rintro ⟨_, _, _, _, _, e⟩; cases e
        · rintro ⟨_, _, _, _, _, e⟩; injection e with e; omega
      have hw2 : Mp.get h2.obj h0.no = some (.row [w, .fn (.func f) [] []]) := by
        rw [hx2.obj _ (by show h0.no < h.no + 1; omega) hnr]
        simp [en, hw]
      have hc2 := hrs2.isCell
      have hcc2 := hrs2.cells
      repeat (first | (with_reducible first | refine W_seq_i ?_ | refine W_block_i ?_ | refine W_region_i ?_ | refine W_skip_i ?_ | refine W_label_i ?_ | refine W_ret_i ?_ | refine W_exit_i ?_ | refine W_goto_i ?_ | refine W_scope_go ?_ | refine jumpW_r ?_ | refine jumpW_n ?_ | refine jumpW_x ?_ | refine blockW_g ?_ | refine thenW_n ?_ | refine blockW_n ?_ | refine blockW_x ?_ | refine blockW_y (by decide) ?_ | refine blockW_r ?_ | refine thenW_e (by simp; done) ?_ | refine WO_nil_i ?_ | refine WT_nil_i ?_) | (with_reducible apply W_cond_t; (case h => (simp [t0, t4, t12, t13, t14, q, hix, hcl, hci, hln, hsm, qe, qp, w1, hw, hp92, newSeq, newRs, buildAV, en, hw2, hc2, hcc2]; done))) | (with_reducible apply W_cond_f; (case h => (simp [t0, t4, t12, t13, t14, q, hix, hcl, hci, hln, hsm, qe, qp, w1, hw, hp92, newSeq, newRs, buildAV, en, hw2, hc2, hcc2]; done))) | ((with_reducible first | apply WO_val_i | apply WT_val_i); (case hw => (simp [t0, t4, t12, t13, t14, q, hix, hcl, hci, hln, hsm, qe, qp, w1, hw, hp92, newSeq, newRs, buildAV, en, hw2, hc2, hcc2]; done)); (case he => (simp [t0, t4, t12, t13, t14, q, hix, hcl, hci, hln, hsm, qe, qp, w1, hw, hp92, newSeq, newRs, buildAV, en, hw2, hc2, hcc2]; first | done | exact ⟨rfl, rfl⟩ | rfl)); (case hp => (simp [t0, t4, t12, t13, t14, q, hix, hcl, hci, hln, hsm, qe, qp, w1, hw, hp92, newSeq, newRs, buildAV, en, hw2, hc2, hcc2]; first | done | rfl))) | ((with_reducible first | apply WO_no_i | apply WT_no_i); (case hw => (simp [t0, t4, t12, t13, t14, q, hix, hcl, hci, hln, hsm, qe, qp, w1, hw, hp92, newSeq, newRs, buildAV, en, hw2, hc2, hcc2]; done)); (case hp => (simp [t0, t4, t12, t13, t14, q, hix, hcl, hci, hln, hsm, qe, qp, w1, hw, hp92, newSeq, newRs, buildAV, en, hw2, hc2, hcc2]; first | done | rfl))) | ((with_reducible first | apply WO_skip_i | apply WT_skip_i); (case hw => (simp [t0, t4, t12, t13, t14, q, hix, hcl, hci, hln, hsm, qe, qp, w1, hw, hp92, newSeq, newRs, buildAV, en, hw2, hc2, hcc2]; done)); (case he => (simp [t0, t4, t12, t13, t14, q, hix, hcl, hci, hln, hsm, qe, qp, w1, hw, hp92, newSeq, newRs, buildAV, en, hw2, hc2, hcc2]; first | done | rfl)); (case hp => (simp [t0, t4, t12, t13, t14, q, hix, hcl, hci, hln, hsm, qe, qp, w1, hw, hp92, newSeq, newRs, buildAV, en, hw2, hc2, hcc2]; first | done | rfl))) | ((with_reducible first | apply WO_call_i | apply WT_call_i); (case hw => (simp [t0, t4, t12, t13, t14, q, hix, hcl, hci, hln, hsm, qe, qp, w1, hw, hp92, newSeq, newRs, buildAV, en, hw2, hc2, hcc2]; done)); (case he => (simp [t0, t4, t12, t13, t14, q, hix, hcl, hci, hln, hsm, qe, qp, w1, hw, hp92, newSeq, newRs, buildAV, en, hw2, hc2, hcc2]; first | done | exact ⟨rfl, rfl, rfl⟩ | rfl))))
      have hxm : HX (h0.no ≤ ·) (fun _ => False) { h0 with pol := (· == 99) } h2 := by
        refine (hx.new (.row [ls[i].1, .int .i64 i])).trans (hx2.mono ?_ (fun _ _ k => k))
        intro q0 _ hq
        rcases hrs with ⟨rfl, _⟩ | ⟨o, cap, rfl, hlo, _⟩
        · obtain ⟨_, _, _, _, _, e⟩ := hq; cases e
        · obtain ⟨_, _, _, _, _, e⟩ := hq; injection e with e; show h0.no ≤ q0; omega
      have hno2 : h0.no < h2.no := Nat.lt_of_lt_of_le (by omega : h0.no < h.no + 1) hx2.no
      refine ⟨_, ?_, _, _, i + 1, w2, rfl, rfl, by omega, by simp [t0], by simp [t4], by simp [t12], by simp [t13], by simp, hpol2.trans hpol, by simp, ?_, hxm.set (fun _ => Nat.le_refl _) _, hno2⟩
      · omega
      · rw [htk, List.map_append]
        refine hrs2.of ((HX.refl (· = h0.no) (fun _ => False) h2).set (fun _ => rfl) _) ?_
        intro q0 hq he
        subst he
        rcases hrow2 _ hq with k | k
        · exact hnr k
        · have : h.no + 1 ≤ h0.no := k
          omega
  · have hie : i = ls.length := by omega
    subst hie
    rw [List.take_length] at hrs
    have qn : ¬ (ls.length < ls.length) := q
    have hpol3 : h.pol 3 = false := by rw [hpol]; rfl
    have hS : ∀ x ∈ hds 0 ls, SV 1 (x.xs.map encS) x.s := fun x hx => hls _ (hds_mem ls 0 x hx).1
    obtain ⟨o, hpo, hX⟩ := Xof.build (Z := 1) (enc := encS) hw hrs hno hS hpol3 (by have := hds_length ls 0; omega)
    have k := hi_str hc h0.no o
    repeat (first | (with_reducible first | refine W_seq_i ?_ | refine W_block_i ?_ | refine W_region_i ?_ | refine W_skip_i ?_ | refine W_label_i ?_ | refine W_ret_i ?_ | refine W_exit_i ?_ | refine W_goto_i ?_ | refine W_scope_go ?_ | refine jumpW_r ?_ | refine jumpW_n ?_ | refine jumpW_x ?_ | refine blockW_g ?_ | refine thenW_n ?_ | refine blockW_n ?_ | refine blockW_x ?_ | refine blockW_y (by decide) ?_ | refine blockW_r ?_ | refine thenW_e (by simp; done) ?_ | refine WO_nil_i ?_ | refine WT_nil_i ?_) | (with_reducible apply W_cond_t; (case h => (simp [t0, t4, t12, t13, t14, q]; done))) | (with_reducible apply W_cond_f; (case h => (simp [t0, t4, t12, t13, t14, q]; done))) | ((with_reducible first | apply WO_val_i | apply WT_val_i); (case hw => (simp [t0, t4, t12, t13, t14, q]; done)); (case he => (simp [t0, t4, t12, t13, t14, q]; first | done | exact ⟨rfl, rfl⟩ | rfl)); (case hp => (simp [t0, t4, t12, t13, t14, q]; first | done | rfl))) | ((with_reducible first | apply WO_no_i | apply WT_no_i); (case hw => (simp [t0, t4, t12, t13, t14, q]; done)); (case hp => (simp [t0, t4, t12, t13, t14, q]; first | done | rfl))) | ((with_reducible first | apply WO_skip_i | apply WT_skip_i); (case hw => (simp [t0, t4, t12, t13, t14, q]; done)); (case he => (simp [t0, t4, t12, t13, t14, q]; first | done | rfl)); (case hp => (simp [t0, t4, t12, t13, t14, q]; first | done | rfl))) | ((with_reducible first | apply WO_call_i | apply WT_call_i); (case hw => (simp [t0, t4, t12, t13, t14, q]; done)); (case he => (simp [t0, t4, t12, t13, t14, q]; first | done | exact ⟨rfl, rfl, rfl⟩ | rfl))))
    refine A.mono (init_ans k ho (hds 0 ls) h hX ?_) ?_
    · intro c hc
      have := (hds_mem ls 0 (hds 0 ls)[c]! (by rw [getElem!_pos _ c hc]; exact List.getElem_mem hc)).2
      exact this
    rintro _ h1 ⟨L1, hX1, hP1, hH1, hg1, hR1⟩
    refine ⟨_, by simp; first | done | rfl, ?_⟩
    repeat (first | (with_reducible first | refine W_seq_i ?_ | refine W_block_i ?_ | refine W_region_i ?_ | refine W_skip_i ?_ | refine W_label_i ?_ | refine W_ret_i ?_ | refine W_exit_i ?_ | refine W_goto_i ?_ | refine W_scope_go ?_ | refine jumpW_r ?_ | refine jumpW_n ?_ | refine jumpW_x ?_ | refine blockW_g ?_ | refine thenW_n ?_ | refine blockW_n ?_ | refine blockW_x ?_ | refine blockW_y (by decide) ?_ | refine blockW_r ?_ | refine thenW_e (by simp; done) ?_ | refine WO_nil_i ?_ | refine WT_nil_i ?_) | (with_reducible apply W_cond_t; (case h => (simp [t0, t4]; done))) | (with_reducible apply W_cond_f; (case h => (simp [t0, t4]; done))) | ((with_reducible first | apply WO_val_i | apply WT_val_i); (case hw => (simp [t0, t4]; done)); (case he => (simp [t0, t4]; first | done | exact ⟨rfl, rfl⟩ | rfl)); (case hp => (simp [t0, t4]; first | done | rfl))) | ((with_reducible first | apply WO_no_i | apply WT_no_i); (case hw => (simp [t0, t4]; done)); (case hp => (simp [t0, t4]; first | done | rfl))) | ((with_reducible first | apply WO_skip_i | apply WT_skip_i); (case hw => (simp [t0, t4]; done)); (case he => (simp [t0, t4]; first | done | rfl)); (case hp => (simp [t0, t4]; first | done | rfl))) | ((with_reducible first | apply WO_call_i | apply WT_call_i); (case hw => (simp [t0, t4]; done)); (case he => (simp [t0, t4]; first | done | exact ⟨rfl, rfl, rfl⟩ | rfl))))
    have hxp : ∀ {a b : Hp Fm}, HX (fun q => q = h0.no ∨ q = o) (fun _ => False) a b → HX (h0.no ≤ ·) (fun _ => False) a b := fun hh => hh.mono (fun q _ e => by rcases e with e | e <;> (show h0.no ≤ q; omega)) (fun _ _ e => e)
    have hx1 := hx.trans (hxp hR1)
    have hpol1 : h1.pol = (· == 99) := hR1.pol.trans hpol
    have hno1 : h0.no ≤ h1.no := hx1.no
    refine W_loop (fun m s => ∃ (t : Fm AV) (h : Hp Fm) (L : List (Hd (List UInt8))) (pre : List (List UInt8)), s = ⟨t, 76, h, none⟩ ∧ m = left L ∧ tget t 0 = .yl y ∧ tget t 4 = .ptr h0.no 0 ∧ h.pol = (· == 99) ∧ h0.no ≤ h.no ∧ Xof h0.no o (.fn (.func f) [] []) 1 encS h L ∧ Path (lessH c) (hds 0 ls) pre L ∧ Heap (lessH c) L L.length 0 ∧ (∀ c, c < L.length → L[c]!.xs ≠ []) ∧ J pre h) (left L1)
      ⟨_, _, L1, [], rfl, rfl, by simp [t0], by simp [t4], hpol1, hno1, hX1, .nil hP1, hH1, hg1, hJ _ _ _ h00 hx1⟩ ?_
    clear hw hrs hx hno hpol hX hR1 hx1 hpol1 hno1 hX1 hP1 hH1 hg1 t0 t4 t12 t13 t14 hpol3 hS
    rintro m s ⟨t, h, L, pre, rfl, rfl, t0, t4, hpol, hno, hX, hpath, hH, hg, hj⟩
    cases L with
    | nil =>
      repeat (first | (with_reducible first | refine W_seq_i ?_ | refine W_block_i ?_ | refine W_region_i ?_ | refine W_skip_i ?_ | refine W_label_i ?_ | refine W_ret_i ?_ | refine W_exit_i ?_ | refine W_goto_i ?_ | refine W_scope_go ?_ | refine jumpW_r ?_ | refine jumpW_n ?_ | refine jumpW_x ?_ | refine blockW_g ?_ | refine thenW_n ?_ | refine blockW_n ?_ | refine blockW_x ?_ | refine blockW_y (by decide) ?_ | refine blockW_r ?_ | refine thenW_e (by simp; done) ?_ | refine WO_nil_i ?_ | refine WT_nil_i ?_) | (with_reducible apply W_cond_t; (case h => (simp [t0, t4]; done))) | (with_reducible apply W_cond_f; (case h => (simp [t0, t4]; done))) | ((with_reducible first | apply WO_val_i | apply WT_val_i); (case hw => (simp [t0, t4]; done)); (case he => (simp [t0, t4]; first | done | exact ⟨rfl, rfl⟩ | rfl)); (case hp => (simp [t0, t4]; first | done | rfl))) | ((with_reducible first | apply WO_no_i | apply WT_no_i); (case hw => (simp [t0, t4]; done)); (case hp => (simp [t0, t4]; first | done | rfl))) | ((with_reducible first | apply WO_skip_i | apply WT_skip_i); (case hw => (simp [t0, t4]; done)); (case he => (simp [t0, t4]; first | done | rfl)); (case hp => (simp [t0, t4]; first | done | rfl))) | ((with_reducible first | apply WO_call_i | apply WT_call_i); (case hw => (simp [t0, t4]; done)); (case he => (simp [t0, t4]; first | done | exact ⟨rfl, rfl, rfl⟩ | rfl))))
      refine A.mono (lenX_str hX) ?_
      rintro _ _ ⟨rfl, rfl⟩
      refine ⟨_, by simp; first | done | rfl, ?_⟩
      repeat (first | (with_reducible first | refine W_seq_i ?_ | refine W_block_i ?_ | refine W_region_i ?_ | refine W_skip_i ?_ | refine W_label_i ?_ | refine W_ret_i ?_ | refine W_exit_i ?_ | refine W_goto_i ?_ | refine W_scope_go ?_ | refine jumpW_r ?_ | refine jumpW_n ?_ | refine jumpW_x ?_ | refine blockW_g ?_ | refine thenW_n ?_ | refine blockW_n ?_ | refine blockW_x ?_ | refine blockW_y (by decide) ?_ | refine blockW_r ?_ | refine thenW_e (by simp; done) ?_ | refine WO_nil_i ?_ | refine WT_nil_i ?_) | (with_reducible apply W_cond_t; (case h => (simp [t0, t4]; done))) | (with_reducible apply W_cond_f; (case h => (simp [t0, t4]; done))) | ((with_reducible first | apply WO_val_i | apply WT_val_i); (case hw => (simp [t0, t4]; done)); (case he => (simp [t0, t4]; first | done | exact ⟨rfl, rfl⟩ | rfl)); (case hp => (simp [t0, t4]; first | done | rfl))) | ((with_reducible first | apply WO_no_i | apply WT_no_i); (case hw => (simp [t0, t4]; done)); (case hp => (simp [t0, t4]; first | done | rfl))) | ((with_reducible first | apply WO_skip_i | apply WT_skip_i); (case hw => (simp [t0, t4]; done)); (case he => (simp [t0, t4]; first | done | rfl)); (case hp => (simp [t0, t4]; first | done | rfl))) | ((with_reducible first | apply WO_call_i | apply WT_call_i); (case hw => (simp [t0, t4]; done)); (case he => (simp [t0, t4]; first | done | exact ⟨rfl, rfl, rfl⟩ | rfl))))
      (first | apply endW_r | apply endW_n); (case h1 => (simp [Try.results43]; first | done | rfl))
      exact ⟨_, pre, [], rfl, hpol, hpath, .inl ⟨rfl, hj⟩⟩
    | cons x rest =>
      obtain ⟨s, xs, wh⟩ := x
      have hne : xs ≠ [] := by simpa using hg 0 (by simp)
      obtain ⟨hh, hs, hpol3⟩ := id hX
      have hh : HH (.fn (.func f) [] []) h0.no o h (⟨s, xs, wh⟩ :: rest) := by
        rcases hh with hh | ⟨e, _⟩
        · exact hh
        · cases e
      obtain ⟨cap, hp, hcap⟩ := hh.hp
      obtain ⟨J0, hrow⟩ := hh.ho
      cases xs with
      | nil => exact (hne rfl).elim
      | cons a r =>
        have hs0 := hs _ (List.mem_cons_self ..)
        have hix := hs0.idx Try.underlying26 z9 (k := .i64) (i := 0) (by omega) (by simp)
        obtain ⟨r1, hsl, hsv1⟩ := hs0.drop1 Try.underlying26 z9 (k := .i64) (by simp)
        have hlen0 : (0 : Int) < ((rest.length + 1 : Nat) : Int) := by omega
        have hpt : partAV false 1 (Vn.hrow (⟨s, a :: r, wh⟩ :: rest) J0) 0 = some s := by
          have := part_hrow_s (J := J0) (L := ⟨s, a :: r, wh⟩ :: rest) (i := 0) (by simp)
          simpa using this
        have hc1 := hsv1.isCell
        have hcc1 := hsv1.cells
        have hnm1 := hsv1.nm
        have hln1 : lenAV Try.prog 26 r1 = some (.int .i64 r.length) := by
          have := hsv1.len Try.underlying26
          simpa using this
        have hsp : splice (Vn.hrow (⟨s, a :: r, wh⟩ :: rest) J0) 0 [r1] = Vn.hrow (⟨r1, r, wh⟩ :: rest) J0 := by
          have := splice_hrow_s (J := J0) (L := ⟨s, a :: r, wh⟩ :: rest) (i := 0) (by simp) r1 r
          simpa using this
        have hpt1 : partAV false 1 (Vn.hrow (⟨r1, r, wh⟩ :: rest) J0) 0 = some r1 := by
          have := part_hrow_s (J := J0) (L := ⟨r1, r, wh⟩ :: rest) (i := 0) (by simp)
          simpa using this
        have hle : 1 ≤ (rest.length + 1) * 2 + J0.length := by omega
        have hop : h0.no ≠ o := by omega
        have en1 : h0.no ≠ h.no := by have := hh.pn; omega
        have en2 : o ≠ h.no := by have := hh.on; omega
        have en3 : h.no ≠ o := en2.symm
        have en4 : h.no ≠ h0.no := en1.symm
        have hX3 : Xof h0.no o (.fn (.func f) [] []) 1 encS { (h) with obj := Mp.set (h).obj o (.row (Vn.hrow (⟨r1, r, wh⟩ :: rest) J0)) } (⟨r1, r, wh⟩ :: rest) := by
          refine ⟨.inl ⟨⟨cap, ?_, by simpa using hcap⟩, ⟨J0, by simp⟩, hh.ne, by have := hh.pn; show h0.no < h.no; omega, by have := hh.on; show o < h.no; omega, by simpa using hh.sm⟩, ?_, hpol3⟩
          · have hp' := hp
            simp at hp'
            simp [hop, en1, hp']
          · intro x hx
            rcases List.mem_cons.mp hx with e | e
            · subst e; simpa using hsv1
            · exact hs _ (List.mem_cons_of_mem _ e)
        have hx3 : HX (fun q => q = h0.no ∨ q = o) (fun _ => False) h { (h) with obj := Mp.set (h).obj o (.row (Vn.hrow (⟨r1, r, wh⟩ :: rest) J0)) } := (HX.refl (fun q => q = h0.no ∨ q = o) (fun _ => False) h).set (fun _ => .inr rfl) _
        have hhx := heapX_top (y := (⟨r1, r, wh⟩ : Hd (List UInt8))) hH
        have hmin : ∀ y ∈ (⟨s, a :: r, wh⟩ :: rest : List (Hd (List UInt8))), lessH c y ⟨s, a :: r, wh⟩ = false := by
          intro y hy
          obtain ⟨n, hn, rfl⟩ := List.getElem_of_mem hy
          have := heap_top ho hH n hn
          rw [getElem!_pos _ n hn] at this
          simpa using this
        -- what is told
        have tell : ∀ (h4 : Hp Fm) (L' : List (Hd (List UInt8))), HX (fun q => q = h0.no ∨ q = o) (fun _ => False) h h4 → Xof h0.no o (.fn (.func f) [] []) 1 encS h4 L' → L'.Perm (if r = [] then rest else ⟨r1, r, wh⟩ :: rest) →
            A Try.prog TT (.yield y) [encS a] h4 (fun q h5 => Path (lessH c) (hds 0 ls) (pre ++ [a]) L' ∧ left L' < left (⟨s, a :: r, wh⟩ :: rest) ∧ h5.pol = (· == 99) ∧ ((q = .bool true ∧ Xof h0.no o (.fn (.func f) [] []) 1 encS h5 L' ∧ J (pre ++ [a]) h5 ∧ h0.no ≤ h5.no) ∨ (q = .bool false ∧ K (pre ++ [a]) h5))) := by
          intro h4 L' hx4 hX4 hP4
          have hpa : Path (lessH c) (hds 0 ls) (pre ++ [a]) L' := .snoc hpath ⟨_, r, rest, r1, List.Perm.refl _, rfl, hmin, hP4⟩
          refine (hy pre a h4 L' hpa (hJ _ _ _ hj (hxp hx4)) (hx4.pol.trans hpol) (Nat.le_trans hno hx4.no)).mono ?_
          rintro q h5 ⟨hx5, hq⟩
          refine ⟨hpa, ?_, hx5.pol.trans (hx4.pol.trans hpol), ?_⟩
          · rw [left_perm hP4]
            by_cases e : r = []
            · subst e; simp [left]
            · rw [if_neg e]; simp [left]
          · rcases hq with ⟨e, hj5⟩ | ⟨e, hk5⟩
            · exact .inl ⟨e, hX4.ofX hx5 (by show ¬ h0.no < h0.no; omega) (by show ¬ o < h0.no; omega), hj5, Nat.le_trans (Nat.le_trans hno hx4.no) hx5.no⟩
            · exact .inr ⟨e, hk5⟩
        repeat (first | (with_reducible first | refine W_seq_i ?_ | refine W_block_i ?_ | refine W_region_i ?_ | refine W_skip_i ?_ | refine W_label_i ?_ | refine W_ret_i ?_ | refine W_exit_i ?_ | refine W_goto_i ?_ | refine W_scope_go ?_ | refine jumpW_r ?_ | refine jumpW_n ?_ | refine jumpW_x ?_ | refine blockW_g ?_ | refine thenW_n ?_ | refine blockW_n ?_ | refine blockW_x ?_ | refine blockW_y (by decide) ?_ | refine blockW_r ?_ | refine thenW_e (by simp; done) ?_ | refine WO_nil_i ?_ | refine WT_nil_i ?_) | (with_reducible apply W_cond_t; (case h => (simp [t0, t4]; done))) | (with_reducible apply W_cond_f; (case h => (simp [t0, t4]; done))) | ((with_reducible first | apply WO_val_i | apply WT_val_i); (case hw => (simp [t0, t4]; done)); (case he => (simp [t0, t4]; first | done | exact ⟨rfl, rfl⟩ | rfl)); (case hp => (simp [t0, t4]; first | done | rfl))) | ((with_reducible first | apply WO_no_i | apply WT_no_i); (case hw => (simp [t0, t4]; done)); (case hp => (simp [t0, t4]; first | done | rfl))) | ((with_reducible first | apply WO_skip_i | apply WT_skip_i); (case hw => (simp [t0, t4]; done)); (case he => (simp [t0, t4]; first | done | rfl)); (case hp => (simp [t0, t4]; first | done | rfl))) | ((with_reducible first | apply WO_call_i | apply WT_call_i); (case hw => (simp [t0, t4]; done)); (case he => (simp [t0, t4]; first | done | exact ⟨rfl, rfl, rfl⟩ | rfl))))
        refine A.mono (lenX_str hX) ?_
        rintro _ hq0 ⟨rfl, ehq⟩
        rw [ehq]
        clear ehq hq0
        refine ⟨_, by simp; first | done | rfl, ?_⟩
        by_cases hr : r = []
        · subst hr
          repeat (first | (with_reducible first | refine W_seq_i ?_ | refine W_block_i ?_ | refine W_region_i ?_ | refine W_skip_i ?_ | refine W_label_i ?_ | refine W_ret_i ?_ | refine W_exit_i ?_ | refine W_goto_i ?_ | refine W_scope_go ?_ | refine jumpW_r ?_ | refine jumpW_n ?_ | refine jumpW_x ?_ | refine blockW_g ?_ | refine thenW_n ?_ | refine blockW_n ?_ | refine blockW_x ?_ | refine blockW_y (by decide) ?_ | refine blockW_r ?_ | refine thenW_e (by simp; done) ?_ | refine WO_nil_i ?_ | refine WT_nil_i ?_) | (with_reducible apply W_cond_t; (case h => (simp [t0, t4, hp, hrow, hix, hsl, hpt, hc1, hcc1, hsp, hle, hpt1, hln1, hnm1, hop, en1, en2, en3]; done))) | (with_reducible apply W_cond_f; (case h => (simp [t0, t4, hp, hrow, hix, hsl, hpt, hc1, hcc1, hsp, hle, hpt1, hln1, hnm1, hop, en1, en2, en3]; done))) | ((with_reducible first | apply WO_val_i | apply WT_val_i); (case hw => (simp [t0, t4, hp, hrow, hix, hsl, hpt, hc1, hcc1, hsp, hle, hpt1, hln1, hnm1, hop, en1, en2, en3]; done)); (case he => (simp [t0, t4, hp, hrow, hix, hsl, hpt, hc1, hcc1, hsp, hle, hpt1, hln1, hnm1, hop, en1, en2, en3]; first | done | exact ⟨rfl, rfl⟩ | rfl)); (case hp => (simp [t0, t4, hp, hrow, hix, hsl, hpt, hc1, hcc1, hsp, hle, hpt1, hln1, hnm1, hop, en1, en2, en3]; first | done | rfl))) | ((with_reducible first | apply WO_no_i | apply WT_no_i); (case hw => (simp [t0, t4, hp, hrow, hix, hsl, hpt, hc1, hcc1, hsp, hle, hpt1, hln1, hnm1, hop, en1, en2, en3]; done)); (case hp => (simp [t0, t4, hp, hrow, hix, hsl, hpt, hc1, hcc1, hsp, hle, hpt1, hln1, hnm1, hop, en1, en2, en3]; first | done | rfl))) | ((with_reducible first | apply WO_skip_i | apply WT_skip_i); (case hw => (simp [t0, t4, hp, hrow, hix, hsl, hpt, hc1, hcc1, hsp, hle, hpt1, hln1, hnm1, hop, en1, en2, en3]; done)); (case he => (simp [t0, t4, hp, hrow, hix, hsl, hpt, hc1, hcc1, hsp, hle, hpt1, hln1, hnm1, hop, en1, en2, en3]; first | done | rfl)); (case hp => (simp [t0, t4, hp, hrow, hix, hsl, hpt, hc1, hcc1, hsp, hle, hpt1, hln1, hnm1, hop, en1, en2, en3]; first | done | rfl))) | ((with_reducible first | apply WO_call_i | apply WT_call_i); (case hw => (simp [t0, t4, hp, hrow, hix, hsl, hpt, hc1, hcc1, hsp, hle, hpt1, hln1, hnm1, hop, en1, en2, en3]; done)); (case he => (simp [t0, t4, hp, hrow, hix, hsl, hpt, hc1, hcc1, hsp, hle, hpt1, hln1, hnm1, hop, en1, en2, en3]; first | done | exact ⟨rfl, rfl, rfl⟩ | rfl))))
          refine A.mono (remove_ans k ho _ _ hX3 (by simp) ?_ hhx) ?_
          · intro c c0 hc
            obtain ⟨c', rfl⟩ : ∃ c', c = c' + 1 := ⟨c - 1, by omega⟩
            have := hg (c' + 1) (by simpa using hc)
            simpa using this
          rintro _ h4 ⟨L4, hX4, hP4, hH4, hg4, hR4⟩
          refine ⟨_, by simp; first | done | rfl, ?_⟩
          repeat (first | (with_reducible first | refine W_seq_i ?_ | refine W_block_i ?_ | refine W_region_i ?_ | refine W_skip_i ?_ | refine W_label_i ?_ | refine W_ret_i ?_ | refine W_exit_i ?_ | refine W_goto_i ?_ | refine W_scope_go ?_ | refine jumpW_r ?_ | refine jumpW_n ?_ | refine jumpW_x ?_ | refine blockW_g ?_ | refine thenW_n ?_ | refine blockW_n ?_ | refine blockW_x ?_ | refine blockW_y (by decide) ?_ | refine blockW_r ?_ | refine thenW_e (by simp; done) ?_ | refine WO_nil_i ?_ | refine WT_nil_i ?_) | (with_reducible apply W_cond_t; (case h => (simp [t0, t4, t0]; done))) | (with_reducible apply W_cond_f; (case h => (simp [t0, t4, t0]; done))) | ((with_reducible first | apply WO_val_i | apply WT_val_i); (case hw => (simp [t0, t4, t0]; done)); (case he => (simp [t0, t4, t0]; first | done | exact ⟨rfl, rfl⟩ | rfl)); (case hp => (simp [t0, t4, t0]; first | done | rfl))) | ((with_reducible first | apply WO_no_i | apply WT_no_i); (case hw => (simp [t0, t4, t0]; done)); (case hp => (simp [t0, t4, t0]; first | done | rfl))) | ((with_reducible first | apply WO_skip_i | apply WT_skip_i); (case hw => (simp [t0, t4, t0]; done)); (case he => (simp [t0, t4, t0]; first | done | rfl)); (case hp => (simp [t0, t4, t0]; first | done | rfl))) | ((with_reducible first | apply WO_call_i | apply WT_call_i); (case hw => (simp [t0, t4, t0]; done)); (case he => (simp [t0, t4, t0]; first | done | exact ⟨rfl, rfl, rfl⟩ | rfl))))
          refine A.mono (tell h4 L4 (hx3.trans hR4) hX4 (by rw [if_pos rfl]; exact List.Perm.cons_inv hP4)) ?_
          rintro q h5 ⟨hpath5, hlt, hpol5, ⟨rfl, hX5, hj5, hno5⟩ | ⟨rfl, hk5⟩⟩
          · refine ⟨_, by simp; first | done | rfl, ?_⟩
            repeat (first | (with_reducible first | refine W_seq_i ?_ | refine W_block_i ?_ | refine W_region_i ?_ | refine W_skip_i ?_ | refine W_label_i ?_ | refine W_ret_i ?_ | refine W_exit_i ?_ | refine W_goto_i ?_ | refine W_scope_go ?_ | refine jumpW_r ?_ | refine jumpW_n ?_ | refine jumpW_x ?_ | refine blockW_g ?_ | refine thenW_n ?_ | refine blockW_n ?_ | refine blockW_x ?_ | refine blockW_y (by decide) ?_ | refine blockW_r ?_ | refine thenW_e (by simp; done) ?_ | refine WO_nil_i ?_ | refine WT_nil_i ?_) | (with_reducible apply W_cond_t; (case h => (simp [t0, t4]; done))) | (with_reducible apply W_cond_f; (case h => (simp [t0, t4]; done))) | ((with_reducible first | apply WO_val_i | apply WT_val_i); (case hw => (simp [t0, t4]; done)); (case he => (simp [t0, t4]; first | done | exact ⟨rfl, rfl⟩ | rfl)); (case hp => (simp [t0, t4]; first | done | rfl))) | ((with_reducible first | apply WO_no_i | apply WT_no_i); (case hw => (simp [t0, t4]; done)); (case hp => (simp [t0, t4]; first | done | rfl))) | ((with_reducible first | apply WO_skip_i | apply WT_skip_i); (case hw => (simp [t0, t4]; done)); (case he => (simp [t0, t4]; first | done | rfl)); (case hp => (simp [t0, t4]; first | done | rfl))) | ((with_reducible first | apply WO_call_i | apply WT_call_i); (case hw => (simp [t0, t4]; done)); (case he => (simp [t0, t4]; first | done | exact ⟨rfl, rfl, rfl⟩ | rfl))))
            exact ⟨_, hlt, _, _, L4, pre ++ [a], rfl, rfl, by simp [t0], by simp [t4], hpol5, hno5, hX5, hpath5, hH4, hg4, hj5⟩
          · refine ⟨_, by simp; first | done | rfl, ?_⟩
            repeat (first | (with_reducible first | refine W_seq_i ?_ | refine W_block_i ?_ | refine W_region_i ?_ | refine W_skip_i ?_ | refine W_label_i ?_ | refine W_ret_i ?_ | refine W_exit_i ?_ | refine W_goto_i ?_ | refine W_scope_go ?_ | refine jumpW_r ?_ | refine jumpW_n ?_ | refine jumpW_x ?_ | refine blockW_g ?_ | refine thenW_n ?_ | refine blockW_n ?_ | refine blockW_x ?_ | refine blockW_y (by decide) ?_ | refine blockW_r ?_ | refine thenW_e (by simp; done) ?_ | refine WO_nil_i ?_ | refine WT_nil_i ?_) | (with_reducible apply W_cond_t; (case h => (simp [t0, t4]; done))) | (with_reducible apply W_cond_f; (case h => (simp [t0, t4]; done))) | ((with_reducible first | apply WO_val_i | apply WT_val_i); (case hw => (simp [t0, t4]; done)); (case he => (simp [t0, t4]; first | done | exact ⟨rfl, rfl⟩ | rfl)); (case hp => (simp [t0, t4]; first | done | rfl))) | ((with_reducible first | apply WO_no_i | apply WT_no_i); (case hw => (simp [t0, t4]; done)); (case hp => (simp [t0, t4]; first | done | rfl))) | ((with_reducible first | apply WO_skip_i | apply WT_skip_i); (case hw => (simp [t0, t4]; done)); (case he => (simp [t0, t4]; first | done | rfl)); (case hp => (simp [t0, t4]; first | done | rfl))) | ((with_reducible first | apply WO_call_i | apply WT_call_i); (case hw => (simp [t0, t4]; done)); (case he => (simp [t0, t4]; first | done | exact ⟨rfl, rfl, rfl⟩ | rfl))))
            (first | apply endW_r | apply endW_n); (case h1 => (simp [Try.results43]; first | done | rfl))
            exact ⟨_, pre ++ [a], L4, rfl, hpol5, hpath5, .inr hk5⟩
        · have hr0 : ¬ (r.length = 0) := fun e => hr (List.length_eq_zero_iff.mp e)
          repeat (first | (with_reducible first | refine W_seq_i ?_ | refine W_block_i ?_ | refine W_region_i ?_ | refine W_skip_i ?_ | refine W_label_i ?_ | refine W_ret_i ?_ | refine W_exit_i ?_ | refine W_goto_i ?_ | refine W_scope_go ?_ | refine jumpW_r ?_ | refine jumpW_n ?_ | refine jumpW_x ?_ | refine blockW_g ?_ | refine thenW_n ?_ | refine blockW_n ?_ | refine blockW_x ?_ | refine blockW_y (by decide) ?_ | refine blockW_r ?_ | refine thenW_e (by simp; done) ?_ | refine WO_nil_i ?_ | refine WT_nil_i ?_) | (with_reducible apply W_cond_t; (case h => (simp [t0, t4, hp, hrow, hix, hsl, hpt, hc1, hcc1, hsp, hle, hpt1, hln1, hnm1, hop, en1, en2, en3, hr, hr0]; done))) | (with_reducible apply W_cond_f; (case h => (simp [t0, t4, hp, hrow, hix, hsl, hpt, hc1, hcc1, hsp, hle, hpt1, hln1, hnm1, hop, en1, en2, en3, hr, hr0]; done))) | ((with_reducible first | apply WO_val_i | apply WT_val_i); (case hw => (simp [t0, t4, hp, hrow, hix, hsl, hpt, hc1, hcc1, hsp, hle, hpt1, hln1, hnm1, hop, en1, en2, en3, hr, hr0]; done)); (case he => (simp [t0, t4, hp, hrow, hix, hsl, hpt, hc1, hcc1, hsp, hle, hpt1, hln1, hnm1, hop, en1, en2, en3, hr, hr0]; first | done | exact ⟨rfl, rfl⟩ | rfl)); (case hp => (simp [t0, t4, hp, hrow, hix, hsl, hpt, hc1, hcc1, hsp, hle, hpt1, hln1, hnm1, hop, en1, en2, en3, hr, hr0]; first | done | rfl))) | ((with_reducible first | apply WO_no_i | apply WT_no_i); (case hw => (simp [t0, t4, hp, hrow, hix, hsl, hpt, hc1, hcc1, hsp, hle, hpt1, hln1, hnm1, hop, en1, en2, en3, hr, hr0]; done)); (case hp => (simp [t0, t4, hp, hrow, hix, hsl, hpt, hc1, hcc1, hsp, hle, hpt1, hln1, hnm1, hop, en1, en2, en3, hr, hr0]; first | done | rfl))) | ((with_reducible first | apply WO_skip_i | apply WT_skip_i); (case hw => (simp [t0, t4, hp, hrow, hix, hsl, hpt, hc1, hcc1, hsp, hle, hpt1, hln1, hnm1, hop, en1, en2, en3, hr, hr0]; done)); (case he => (simp [t0, t4, hp, hrow, hix, hsl, hpt, hc1, hcc1, hsp, hle, hpt1, hln1, hnm1, hop, en1, en2, en3, hr, hr0]; first | done | rfl)); (case hp => (simp [t0, t4, hp, hrow, hix, hsl, hpt, hc1, hcc1, hsp, hle, hpt1, hln1, hnm1, hop, en1, en2, en3, hr, hr0]; first | done | rfl))) | ((with_reducible first | apply WO_call_i | apply WT_call_i); (case hw => (simp [t0, t4, hp, hrow, hix, hsl, hpt, hc1, hcc1, hsp, hle, hpt1, hln1, hnm1, hop, en1, en2, en3, hr, hr0]; done)); (case he => (simp [t0, t4, hp, hrow, hix, hsl, hpt, hc1, hcc1, hsp, hle, hpt1, hln1, hnm1, hop, en1, en2, en3, hr, hr0]; first | done | exact ⟨rfl, rfl, rfl⟩ | rfl))))
          refine A.mono (fix_ans k ho _ _ hX3 ?_ hhx) ?_
          · intro c hc
            cases c with
            | zero => simpa using hr
            | succ c =>
              have := hg (c + 1) (by simpa using hc)
              simpa using this
          rintro _ h4 ⟨L4, hX4, hP4, hH4, hg4, hR4⟩
          refine ⟨_, by simp; first | done | rfl, ?_⟩
          repeat (first | (with_reducible first | refine W_seq_i ?_ | refine W_block_i ?_ | refine W_region_i ?_ | refine W_skip_i ?_ | refine W_label_i ?_ | refine W_ret_i ?_ | refine W_exit_i ?_ | refine W_goto_i ?_ | refine W_scope_go ?_ | refine jumpW_r ?_ | refine jumpW_n ?_ | refine jumpW_x ?_ | refine blockW_g ?_ | refine thenW_n ?_ | refine blockW_n ?_ | refine blockW_x ?_ | refine blockW_y (by decide) ?_ | refine blockW_r ?_ | refine thenW_e (by simp; done) ?_ | refine WO_nil_i ?_ | refine WT_nil_i ?_) | (with_reducible apply W_cond_t; (case h => (simp [t0, t4, t0]; done))) | (with_reducible apply W_cond_f; (case h => (simp [t0, t4, t0]; done))) | ((with_reducible first | apply WO_val_i | apply WT_val_i); (case hw => (simp [t0, t4, t0]; done)); (case he => (simp [t0, t4, t0]; first | done | exact ⟨rfl, rfl⟩ | rfl)); (case hp => (simp [t0, t4, t0]; first | done | rfl))) | ((with_reducible first | apply WO_no_i | apply WT_no_i); (case hw => (simp [t0, t4, t0]; done)); (case hp => (simp [t0, t4, t0]; first | done | rfl))) | ((with_reducible first | apply WO_skip_i | apply WT_skip_i); (case hw => (simp [t0, t4, t0]; done)); (case he => (simp [t0, t4, t0]; first | done | rfl)); (case hp => (simp [t0, t4, t0]; first | done | rfl))) | ((with_reducible first | apply WO_call_i | apply WT_call_i); (case hw => (simp [t0, t4, t0]; done)); (case he => (simp [t0, t4, t0]; first | done | exact ⟨rfl, rfl, rfl⟩ | rfl))))
          refine A.mono (tell h4 L4 (hx3.trans hR4) hX4 (by rw [if_neg hr]; exact hP4)) ?_
          rintro q h5 ⟨hpath5, hlt, hpol5, ⟨rfl, hX5, hj5, hno5⟩ | ⟨rfl, hk5⟩⟩
          · refine ⟨_, by simp; first | done | rfl, ?_⟩
            repeat (first | (with_reducible first | refine W_seq_i ?_ | refine W_block_i ?_ | refine W_region_i ?_ | refine W_skip_i ?_ | refine W_label_i ?_ | refine W_ret_i ?_ | refine W_exit_i ?_ | refine W_goto_i ?_ | refine W_scope_go ?_ | refine jumpW_r ?_ | refine jumpW_n ?_ | refine jumpW_x ?_ | refine blockW_g ?_ | refine thenW_n ?_ | refine blockW_n ?_ | refine blockW_x ?_ | refine blockW_y (by decide) ?_ | refine blockW_r ?_ | refine thenW_e (by simp; done) ?_ | refine WO_nil_i ?_ | refine WT_nil_i ?_) | (with_reducible apply W_cond_t; (case h => (simp [t0, t4]; done))) | (with_reducible apply W_cond_f; (case h => (simp [t0, t4]; done))) | ((with_reducible first | apply WO_val_i | apply WT_val_i); (case hw => (simp [t0, t4]; done)); (case he => (simp [t0, t4]; first | done | exact ⟨rfl, rfl⟩ | rfl)); (case hp => (simp [t0, t4]; first | done | rfl))) | ((with_reducible first | apply WO_no_i | apply WT_no_i); (case hw => (simp [t0, t4]; done)); (case hp => (simp [t0, t4]; first | done | rfl))) | ((with_reducible first | apply WO_skip_i | apply WT_skip_i); (case hw => (simp [t0, t4]; done)); (case he => (simp [t0, t4]; first | done | rfl)); (case hp => (simp [t0, t4]; first | done | rfl))) | ((with_reducible first | apply WO_call_i | apply WT_call_i); (case hw => (simp [t0, t4]; done)); (case he => (simp [t0, t4]; first | done | exact ⟨rfl, rfl, rfl⟩ | rfl))))
            exact ⟨_, hlt, _, _, L4, pre ++ [a], rfl, rfl, by simp [t0], by simp [t4], hpol5, hno5, hX5, hpath5, hH4, hg4, hj5⟩
          · refine ⟨_, by simp; first | done | rfl, ?_⟩
            repeat (first | (with_reducible first | refine W_seq_i ?_ | refine W_block_i ?_ | refine W_region_i ?_ | refine W_skip_i ?_ | refine W_label_i ?_ | refine W_ret_i ?_ | refine W_exit_i ?_ | refine W_goto_i ?_ | refine W_scope_go ?_ | refine jumpW_r ?_ | refine jumpW_n ?_ | refine jumpW_x ?_ | refine blockW_g ?_ | refine thenW_n ?_ | refine blockW_n ?_ | refine blockW_x ?_ | refine blockW_y (by decide) ?_ | refine blockW_r ?_ | refine thenW_e (by simp; done) ?_ | refine WO_nil_i ?_ | refine WT_nil_i ?_) | (with_reducible apply W_cond_t; (case h => (simp [t0, t4]; done))) | (with_reducible apply W_cond_f; (case h => (simp [t0, t4]; done))) | ((with_reducible first | apply WO_val_i | apply WT_val_i); (case hw => (simp [t0, t4]; done)); (case he => (simp [t0, t4]; first | done | exact ⟨rfl, rfl⟩ | rfl)); (case hp => (simp [t0, t4]; first | done | rfl))) | ((with_reducible first | apply WO_no_i | apply WT_no_i); (case hw => (simp [t0, t4]; done)); (case hp => (simp [t0, t4]; first | done | rfl))) | ((with_reducible first | apply WO_skip_i | apply WT_skip_i); (case hw => (simp [t0, t4]; done)); (case he => (simp [t0, t4]; first | done | rfl)); (case hp => (simp [t0, t4]; first | done | rfl))) | ((with_reducible first | apply WO_call_i | apply WT_call_i); (case hw => (simp [t0, t4]; done)); (case he => (simp [t0, t4]; first | done | exact ⟨rfl, rfl, rfl⟩ | rfl))))
            (first | apply endW_r | apply endW_n); (case h1 => (simp [Try.results43]; first | done | rfl))
            exact ⟨_, pre ++ [a], L4, rfl, hpol5, hpath5, .inr hk5⟩
end Go.Vn

set_option maxRecDepth 20000
namespace Go.Vn
open Go.Proofs

@[simp] theorem hbe37 : hasBody Try.prog 37 = true := by kernel_rfl
@[simp] theorem hbe43 : hasBody Try.prog 43 = true := by kernel_rfl
@[simp] theorem hbe25 : hasBody Try.prog 25 = true := by kernel_rfl

theorem seq_str {F v : AV} (hF : F.cells = [F] ∧ F.isCell = true) (hv : v.cells = [v] ∧ v.isCell = true) (h : Hp Fm) : A Try.prog TT (.func 37) [F, v] h (fun r h' => r = .fn (.func 43) [] [.ptr h.no 0, .ptr (h.no + 1) 0] ∧ h' = { h with obj := Mp.set (Mp.set h.obj h.no (.row [F])) (h.no + 1) (.row [v]), no := h.no + 2 }) := by
  obtain ⟨f1, f2⟩ := hF
  obtain ⟨v1, v2⟩ := hv
  apply A_go Try.func37 rfl (by rfl); (case hn => (simp [Try.ntmps37]; rfl))
  repeat (first | (with_reducible first | refine W_seq_i ?_ | refine W_block_i ?_ | refine W_region_i ?_ | refine W_skip_i ?_ | refine W_label_i ?_ | refine W_ret_i ?_ | refine W_exit_i ?_ | refine W_goto_i ?_ | refine W_scope_go ?_ | refine jumpW_r ?_ | refine jumpW_n ?_ | refine jumpW_x ?_ | refine blockW_g ?_ | refine thenW_n ?_ | refine blockW_n ?_ | refine blockW_x ?_ | refine blockW_y (by decide) ?_ | refine blockW_r ?_ | refine thenW_e (by simp; done) ?_ | refine WO_nil_i ?_ | refine WT_nil_i ?_) | (with_reducible apply W_cond_t; (case h => (simp [f1, f2, v1, v2]; done))) | (with_reducible apply W_cond_f; (case h => (simp [f1, f2, v1, v2]; done))) | ((with_reducible first | apply WO_val_i | apply WT_val_i); (case hw => (simp [f1, f2, v1, v2]; done)); (case he => (simp [f1, f2, v1, v2]; first | done | exact ⟨rfl, rfl⟩ | rfl)); (case hp => (simp [f1, f2, v1, v2]; first | done | rfl))) | ((with_reducible first | apply WO_no_i | apply WT_no_i); (case hw => (simp [f1, f2, v1, v2]; done)); (case hp => (simp [f1, f2, v1, v2]; first | done | rfl))) | ((with_reducible first | apply WO_skip_i | apply WT_skip_i); (case hw => (simp [f1, f2, v1, v2]; done)); (case he => (simp [f1, f2, v1, v2]; first | done | rfl)); (case hp => (simp [f1, f2, v1, v2]; first | done | rfl))) | ((with_reducible first | apply WO_call_i | apply WT_call_i); (case hw => (simp [f1, f2, v1, v2]; done)); (case he => (simp [f1, f2, v1, v2]; first | done | exact ⟨rfl, rfl, rfl⟩ | rfl))))
  (first | apply endW_r | apply endW_n); (case h1 => (simp [Try.results37]; first | done | rfl))
  simp

theorem etl_str : ElT Try.prog 26 9 1 16 false (.str []) := ⟨Try.underlying26, z9, b9, a9, t9, rfl, rfl, (fun h => by first | rfl | cases h), by omega, by omega⟩

theorem all_str {F : AV} {c : (List UInt8) → (List UInt8) → Int} (hc : Cmp (List UInt8) encS F c) (ho : Ord (lessH c)) (v : AV) (ls : List (AV × List (List UInt8))) (hv : SV 1 (ls.map Prod.fst) v) (hls : ∀ q ∈ ls, SV 1 (q.2.map encS) q.1) (hlen : ls.length ≤ 1000) (hsum : left (hds 0 ls) ≤ 1000000) (h0 : Hp Fm) (hp0 : h0.pol 9 = false) :
    A Try.prog TT (.func 25) [F, v] h0 (fun r h' => ∃ out, Path (lessH c) (hds 0 ls) out [] ∧ SV 1 (out.map encS) r ∧ HE h0 h') := by
  obtain ⟨f, rfl, hbf, hf⟩ := id hc
  have v1 := hv.cells
  have v2 := hv.isCell
  apply A_go Try.func25 rfl (by rfl); (case hn => (simp [Try.ntmps25]; rfl))
  repeat (first | (with_reducible first | refine W_seq_i ?_ | refine W_block_i ?_ | refine W_region_i ?_ | refine W_skip_i ?_ | refine W_label_i ?_ | refine W_ret_i ?_ | refine W_exit_i ?_ | refine W_goto_i ?_ | refine W_scope_go ?_ | refine jumpW_r ?_ | refine jumpW_n ?_ | refine jumpW_x ?_ | refine blockW_g ?_ | refine thenW_n ?_ | refine blockW_n ?_ | refine blockW_x ?_ | refine blockW_y (by decide) ?_ | refine blockW_r ?_ | refine thenW_e (by simp; done) ?_ | refine WO_nil_i ?_ | refine WT_nil_i ?_) | (with_reducible apply W_cond_t; (case h => (simp; done))) | (with_reducible apply W_cond_f; (case h => (simp; done))) | ((with_reducible first | apply WO_val_i | apply WT_val_i); (case hw => (simp; done)); (case he => (simp; first | done | exact ⟨rfl, rfl⟩ | rfl)); (case hp => (simp; first | done | rfl))) | ((with_reducible first | apply WO_no_i | apply WT_no_i); (case hw => (simp; done)); (case hp => (simp; first | done | rfl))) | ((with_reducible first | apply WO_skip_i | apply WT_skip_i); (case hw => (simp; done)); (case he => (simp; first | done | rfl)); (case hp => (simp; first | done | rfl))) | ((with_reducible first | apply WO_call_i | apply WT_call_i); (case hw => (simp; done)); (case he => (simp; first | done | exact ⟨rfl, rfl, rfl⟩ | rfl))))
  refine A.mono (seq_str ⟨rfl, rfl⟩ ⟨v1, v2⟩ _) ?_
  rintro _ _ ⟨rfl, rfl⟩
  refine ⟨_, by simp; first | done | rfl, ?_⟩
  repeat (first | (with_reducible first | refine W_seq_i ?_ | refine W_block_i ?_ | refine W_region_i ?_ | refine W_skip_i ?_ | refine W_label_i ?_ | refine W_ret_i ?_ | refine W_exit_i ?_ | refine W_goto_i ?_ | refine W_scope_go ?_ | refine jumpW_r ?_ | refine jumpW_n ?_ | refine jumpW_x ?_ | refine blockW_g ?_ | refine thenW_n ?_ | refine blockW_n ?_ | refine blockW_x ?_ | refine blockW_y (by decide) ?_ | refine blockW_r ?_ | refine thenW_e (by simp; done) ?_ | refine WO_nil_i ?_ | refine WT_nil_i ?_) | (with_reducible apply W_cond_t; (case h => (simp; done))) | (with_reducible apply W_cond_f; (case h => (simp; done))) | ((with_reducible first | apply WO_val_i | apply WT_val_i); (case hw => (simp; done)); (case he => (simp; first | done | exact ⟨rfl, rfl⟩ | rfl)); (case hp => (simp; first | done | rfl))) | ((with_reducible first | apply WO_no_i | apply WT_no_i); (case hw => (simp; done)); (case hp => (simp; first | done | rfl))) | ((with_reducible first | apply WO_skip_i | apply WT_skip_i); (case hw => (simp; done)); (case he => (simp; first | done | rfl)); (case hp => (simp; first | done | rfl))) | ((with_reducible first | apply WO_call_i | apply WT_call_i); (case hw => (simp; done)); (case he => (simp; first | done | exact ⟨rfl, rfl, rfl⟩ | rfl))))
  refine W_range_i rfl (by simp [rangeE, laidF]; exact ⟨rfl, rfl, rfl⟩) ?_
  refine with_loop (h0.no + 1 + 2) _ (by simp; first | done | rfl) ?_
  intro lr hlr hget
  have pd : ({ h0 with pol := (· == 99) } : Hp Fm).pol 9 = false := rfl
  refine A.mono (each_str hc ho (h0.no + 1 + 2) (h0.no + 1) (h0.no + 1 + 1) v ls hv hls hlen
    (fun acc h => ∃ w, Mp.get h.obj h0.no = some (.row [w]) ∧ AC { h0 with pol := (· == 99) } h 1 (acc.map encS) w ∧ HE { h0 with pol := (· == 99) } h ∧ Mp.get h.obj (h0.no + 1 + 2) = some (.loop lr) ∧ h0.no + 1 + 2 < h.no)
    (fun _ _ => False) _ (by simp) (by simp) (by show h0.no + 1 < h0.no + 1 + 2 + 1; omega) (by show h0.no + 1 + 1 < h0.no + 1 + 2 + 1; omega) ?_ ?_ ?_) ?_
  · rintro acc h h' ⟨w, hw, hac, he, hl, hno⟩ hx
    have l1 : h0.no < h.no := by omega
    refine ⟨w, by rw [hx.obj _ l1 (by show ¬ (h0.no + 1 + 2 + 1 ≤ h0.no); omega)]; exact hw, hac.ofX hx, ?_, by rw [hx.obj _ hno (by show ¬ (h0.no + 1 + 2 + 1 ≤ h0.no + 1 + 2); omega)]; exact hl, Nat.lt_of_lt_of_le hno hx.no⟩
    exact ⟨Nat.le_trans he.no hx.no, Nat.le_trans he.ng hx.ng, hx.pol.trans he.pol, fun q hq => (hx.obj q (Nat.lt_of_lt_of_le hq he.no) (by have : q < h0.no := hq; show ¬ (h0.no + 1 + 2 + 1 ≤ q); omega)).trans (he.obj q hq), fun g hg => (hx.len g (Nat.lt_of_lt_of_le hg he.ng) (fun e => e)).trans (he.len g hg)⟩
  · intro acc x h L' hpath ⟨w, hw, hac, he, hl, hno⟩ hpol hno2
    obtain ⟨LR, hLR⟩ : ∃ LR, LR = lr := ⟨_, rfl⟩
    subst hlr
    refine A_round hl (by simp) ?_
    have ny : h0.no ≠ h0.no + 1 + 2 := by omega
    have ny2 : h0.no + 1 + 2 ≠ h0.no := by omega
    have nz1 : h0.no + 1 + 2 ≠ h.no := by omega
    have nz2 : h0.no ≠ h.no := by omega
    have nz3 : h.no ≠ h0.no + 1 + 2 := by omega
    have nz4 : h.no ≠ h0.no := by omega
    repeat (first | (with_reducible first | refine W_seq_i ?_ | refine W_block_i ?_ | refine W_region_i ?_ | refine W_skip_i ?_ | refine W_label_i ?_ | refine W_ret_i ?_ | refine W_exit_i ?_ | refine W_goto_i ?_ | refine W_scope_go ?_ | refine jumpW_r ?_ | refine jumpW_n ?_ | refine jumpW_x ?_ | refine blockW_g ?_ | refine thenW_n ?_ | refine blockW_n ?_ | refine blockW_x ?_ | refine blockW_y (by decide) ?_ | refine blockW_r ?_ | refine thenW_e (by simp; done) ?_ | refine WO_nil_i ?_ | refine WT_nil_i ?_) | (with_reducible apply W_cond_t; (case h => (simp [roundT]; done))) | (with_reducible apply W_cond_f; (case h => (simp [roundT]; done))) | ((with_reducible first | apply WO_val_i | apply WT_val_i); (case hw => (simp [roundT]; done)); (case he => (simp [roundT]; first | done | exact ⟨rfl, rfl⟩ | rfl)); (case hp => (simp [roundT]; first | done | rfl))) | ((with_reducible first | apply WO_no_i | apply WT_no_i); (case hw => (simp [roundT]; done)); (case hp => (simp [roundT]; first | done | rfl))) | ((with_reducible first | apply WO_skip_i | apply WT_skip_i); (case hw => (simp [roundT]; done)); (case he => (simp [roundT]; first | done | rfl)); (case hp => (simp [roundT]; first | done | rfl))) | ((with_reducible first | apply WO_call_i | apply WT_call_i); (case hw => (simp [roundT]; done)); (case he => (simp [roundT]; first | done | exact ⟨rfl, rfl, rfl⟩ | rfl))))
    refine ⟨rfl, _, by simp [beginR, hl, nz1]; first | done | rfl, ?_⟩
    have hp3 : h.pol 9 = false := by rw [hpol]; rfl
    repeat (first | (with_reducible first | refine W_seq_i ?_ | refine W_block_i ?_ | refine W_region_i ?_ | refine W_skip_i ?_ | refine W_label_i ?_ | refine W_ret_i ?_ | refine W_exit_i ?_ | refine W_goto_i ?_ | refine W_scope_go ?_ | refine jumpW_r ?_ | refine jumpW_n ?_ | refine jumpW_x ?_ | refine blockW_g ?_ | refine thenW_n ?_ | refine blockW_n ?_ | refine blockW_x ?_ | refine blockW_y (by decide) ?_ | refine blockW_r ?_ | refine thenW_e (by simp; done) ?_ | refine WO_nil_i ?_ | refine WT_nil_i ?_) | (with_reducible apply W_cond_t; (case h => (simp [roundT, hw, ny, ny2, nz1, nz2, nz3, nz4, newSeq, newSl, hp3]; done))) | (with_reducible apply W_cond_f; (case h => (simp [roundT, hw, ny, ny2, nz1, nz2, nz3, nz4, newSeq, newSl, hp3]; done))) | ((with_reducible first | apply WO_val_i | apply WT_val_i); (case hw => (simp [roundT, hw, ny, ny2, nz1, nz2, nz3, nz4, newSeq, newSl, hp3]; done)); (case he => (simp [roundT, hw, ny, ny2, nz1, nz2, nz3, nz4, newSeq, newSl, hp3]; first | done | exact ⟨rfl, rfl⟩ | rfl)); (case hp => (simp [roundT, hw, ny, ny2, nz1, nz2, nz3, nz4, newSeq, newSl, hp3]; first | done | rfl))) | ((with_reducible first | apply WO_no_i | apply WT_no_i); (case hw => (simp [roundT, hw, ny, ny2, nz1, nz2, nz3, nz4, newSeq, newSl, hp3]; done)); (case hp => (simp [roundT, hw, ny, ny2, nz1, nz2, nz3, nz4, newSeq, newSl, hp3]; first | done | rfl))) | ((with_reducible first | apply WO_skip_i | apply WT_skip_i); (case hw => (simp [roundT, hw, ny, ny2, nz1, nz2, nz3, nz4, newSeq, newSl, hp3]; done)); (case he => (simp [roundT, hw, ny, ny2, nz1, nz2, nz3, nz4, newSeq, newSl, hp3]; first | done | rfl)); (case hp => (simp [roundT, hw, ny, ny2, nz1, nz2, nz3, nz4, newSeq, newSl, hp3]; first | done | rfl))) | ((with_reducible first | apply WO_call_i | apply WT_call_i); (case hw => (simp [roundT, hw, ny, ny2, nz1, nz2, nz3, nz4, newSeq, newSl, hp3]; done)); (case he => (simp [roundT, hw, ny, ny2, nz1, nz2, nz3, nz4, newSeq, newSl, hp3]; first | done | exact ⟨rfl, rfl, rfl⟩ | rfl))))
    with_reducible apply WO_app_i; (case hw => (simp [roundT, hw, ny, ny2, nz1, nz2, nz3, nz4, newSeq, newSl, hp3]; done)); (case ho => rfl); (case hb => rfl); (case ha => (simp [roundT, hw, ny, ny2, nz1, nz2, nz3, nz4, newSeq, newSl, hp3]; first | done | exact ⟨rfl, rfl⟩ | rfl)); (case h1 => (simp; first | done | rfl)); (case h2 => (simp; first | done | rfl))
    have hlen3 : acc.length + 1 ≤ 1000000 := by
      have := hpath.left
      rw [List.length_append] at this
      simp at this; omega
    have hx3 := fun (lb : AObj Fm) => ((HX.refl (· = h0.no + 1 + 2) (fun _ => False) h).set (fun _ => rfl) lb).newSl 1
    refine app_then (AC.app (h0 := { h0 with pol := (· == 99) }) etl_str (hac.ofX (hx3 _)) (((he).set (by show h0.no ≤ h0.no + 1 + 2; omega) _).newSl _) pd (by rw [List.length_map]; omega)) ?_
    rintro w2 h2 ⟨hac2, he2, ho2, hn2, hg2⟩
    refine ⟨_, by simp; rfl, ?_⟩
    have hw2 : Mp.get h2.obj h0.no = some (.row [w]) := by rw [ho2]; simp [ny, nz2, hw]
    have hc2 := hac2.sv.isCell
    have hcc2 := hac2.sv.cells
    repeat (first | (with_reducible first | refine W_seq_i ?_ | refine W_block_i ?_ | refine W_region_i ?_ | refine W_skip_i ?_ | refine W_label_i ?_ | refine W_ret_i ?_ | refine W_exit_i ?_ | refine W_goto_i ?_ | refine W_scope_go ?_ | refine jumpW_r ?_ | refine jumpW_n ?_ | refine jumpW_x ?_ | refine blockW_g ?_ | refine thenW_n ?_ | refine blockW_n ?_ | refine blockW_x ?_ | refine blockW_y (by decide) ?_ | refine blockW_r ?_ | refine thenW_e (by simp; done) ?_ | refine WO_nil_i ?_ | refine WT_nil_i ?_) | (with_reducible apply W_cond_t; (case h => (simp [roundT, hw, ny, ny2, nz1, nz2, nz3, nz4, newSeq, newSl, hp3, hw2, hc2, hcc2]; done))) | (with_reducible apply W_cond_f; (case h => (simp [roundT, hw, ny, ny2, nz1, nz2, nz3, nz4, newSeq, newSl, hp3, hw2, hc2, hcc2]; done))) | ((with_reducible first | apply WO_val_i | apply WT_val_i); (case hw => (simp [roundT, hw, ny, ny2, nz1, nz2, nz3, nz4, newSeq, newSl, hp3, hw2, hc2, hcc2]; done)); (case he => (simp [roundT, hw, ny, ny2, nz1, nz2, nz3, nz4, newSeq, newSl, hp3, hw2, hc2, hcc2]; first | done | exact ⟨rfl, rfl⟩ | rfl)); (case hp => (simp [roundT, hw, ny, ny2, nz1, nz2, nz3, nz4, newSeq, newSl, hp3, hw2, hc2, hcc2]; first | done | rfl))) | ((with_reducible first | apply WO_no_i | apply WT_no_i); (case hw => (simp [roundT, hw, ny, ny2, nz1, nz2, nz3, nz4, newSeq, newSl, hp3, hw2, hc2, hcc2]; done)); (case hp => (simp [roundT, hw, ny, ny2, nz1, nz2, nz3, nz4, newSeq, newSl, hp3, hw2, hc2, hcc2]; first | done | rfl))) | ((with_reducible first | apply WO_skip_i | apply WT_skip_i); (case hw => (simp [roundT, hw, ny, ny2, nz1, nz2, nz3, nz4, newSeq, newSl, hp3, hw2, hc2, hcc2]; done)); (case he => (simp [roundT, hw, ny, ny2, nz1, nz2, nz3, nz4, newSeq, newSl, hp3, hw2, hc2, hcc2]; first | done | rfl)); (case hp => (simp [roundT, hw, ny, ny2, nz1, nz2, nz3, nz4, newSeq, newSl, hp3, hw2, hc2, hcc2]; first | done | rfl))) | ((with_reducible first | apply WO_call_i | apply WT_call_i); (case hw => (simp [roundT, hw, ny, ny2, nz1, nz2, nz3, nz4, newSeq, newSl, hp3, hw2, hc2, hcc2]; done)); (case he => (simp [roundT, hw, ny, ny2, nz1, nz2, nz3, nz4, newSeq, newSl, hp3, hw2, hc2, hcc2]; first | done | exact ⟨rfl, rfl, rfl⟩ | rfl))))
    have hno3 : h2.no = h.no := hn2
    have hoo : ∀ q, q < h.no → q ≠ h0.no + 1 + 2 → Mp.get h2.obj q = Mp.get h.obj q := by
      intro q hqn hq
      rw [ho2]; simp [hq, Nat.ne_of_lt hqn]
    obtain ⟨lb, hlb, hlr2⟩ : ∃ lb : ALoop Fm, Mp.get h2.obj (h0.no + 1 + 2) = some (.loop lb) ∧ ({ lb with state := .ready, pending := none } : ALoop Fm) = LR := ⟨_, by rw [ho2]; simp; rfl, by rw [hLR]⟩
    refine ⟨_, _, by simp [endR, hlb, ny2]; exact ⟨rfl, rfl⟩, ?_⟩
    have hpq : h2.pol = h.pol := he2.pol.trans hpol.symm
    refine ⟨⟨by show h.no ≤ h2.no; omega, Nat.le_trans (Nat.le_succ _) hg2, hpq, ?_, fun g _ hn => (hn trivial).elim⟩, .inl ⟨rfl, w2, ?_, ?_, ?_, ?_, ?_⟩⟩
    · intro q hq hn
      have q1 : q ≠ h0.no + 1 + 2 := fun e => hn (by show q < h0.no + 1 + 2 + 1; omega)
      have q2 : q ≠ h0.no := fun e => hn (by show q < h0.no + 1 + 2 + 1; omega)
      simp [q1, q2, hoo q hq q1]
    · simp [ny]
    · rw [List.map_append]
      exact hac2.ofX ((HX.refl (fun _ => True) (fun _ => False) h2).set (fun _ => trivial) _ |>.set (fun _ => trivial) _)
    · exact (he2.set (Nat.le_refl _) _).set (by show h0.no ≤ h0.no + 1 + 2; omega) _
    · simp only [Mp.get_set, if_true]; rw [hlr2, hLR]
    · show h0.no + 1 + 2 < h2.no; omega
  · refine ⟨.nils, by simp [show h0.no ≠ h0.no + 1 + 2 by omega, show h0.no ≠ h0.no + 1 + 1 by omega], .inl ⟨rfl, rfl⟩, ?_, hget, by show h0.no + 1 + 2 < h0.no + 1 + 2 + 1; omega⟩
    refine ⟨by show h0.no ≤ h0.no + 1 + 2 + 1; omega, Nat.le_refl _, rfl, fun q hq => ?_, fun _ _ => rfl⟩
    have hq' : q < h0.no := hq
    simp [show q ≠ h0.no by omega, show q ≠ h0.no + 1 by omega, show q ≠ h0.no + 1 + 1 by omega, show q ≠ h0.no + 1 + 2 by omega]
  · rintro r h' ⟨h2, out, L', rfl, hpol2, hpath, ⟨rfl, w, hw, hac, he, hl, hno⟩ | hk⟩
    · have hst : lr.state = .ready ∧ lr.pending = none := by subst hlr; exact ⟨rfl, rfl⟩
      refine ⟨_, _, by simp [rangeB, hl, hst.1, behind, hst.2]; exact ⟨rfl, rfl⟩, ?_⟩
      have ny : h0.no ≠ h0.no + 1 + 2 := by omega
      repeat (first | (with_reducible first | refine W_seq_i ?_ | refine W_block_i ?_ | refine W_region_i ?_ | refine W_skip_i ?_ | refine W_label_i ?_ | refine W_ret_i ?_ | refine W_exit_i ?_ | refine W_goto_i ?_ | refine W_scope_go ?_ | refine jumpW_r ?_ | refine jumpW_n ?_ | refine jumpW_x ?_ | refine blockW_g ?_ | refine thenW_n ?_ | refine blockW_n ?_ | refine blockW_x ?_ | refine blockW_y (by decide) ?_ | refine blockW_r ?_ | refine thenW_e (by simp; done) ?_ | refine WO_nil_i ?_ | refine WT_nil_i ?_) | (with_reducible apply W_cond_t; (case h => (simp [hw, ny]; done))) | (with_reducible apply W_cond_f; (case h => (simp [hw, ny]; done))) | ((with_reducible first | apply WO_val_i | apply WT_val_i); (case hw => (simp [hw, ny]; done)); (case he => (simp [hw, ny]; first | done | exact ⟨rfl, rfl⟩ | rfl)); (case hp => (simp [hw, ny]; first | done | rfl))) | ((with_reducible first | apply WO_no_i | apply WT_no_i); (case hw => (simp [hw, ny]; done)); (case hp => (simp [hw, ny]; first | done | rfl))) | ((with_reducible first | apply WO_skip_i | apply WT_skip_i); (case hw => (simp [hw, ny]; done)); (case he => (simp [hw, ny]; first | done | rfl)); (case hp => (simp [hw, ny]; first | done | rfl))) | ((with_reducible first | apply WO_call_i | apply WT_call_i); (case hw => (simp [hw, ny]; done)); (case he => (simp [hw, ny]; first | done | exact ⟨rfl, rfl, rfl⟩ | rfl))))
      (first | apply endW_r | apply endW_n); (case h1 => (simp [Try.results25]; first | done | rfl))
      refine ⟨out, hpath, hac.sv, ?_⟩
      exact ⟨he.no, he.ng, rfl, fun q hq => by have hq' : q < h0.no := hq; simp [show q ≠ h0.no + 1 + 2 by omega]; exact he.obj q hq, he.len⟩
    · exact hk.elim
end Go.Vn

set_option maxRecDepth 20000
namespace Go.Vn
open Go.Proofs

theorem ord_str : Cmp (List UInt8) encS (.fn (.func 26) [] []) cmpS := ⟨26, rfl, hb26, fun a b h _ => (compare_str a b h).mono fun r h' ⟨e, q⟩ => ⟨e, by rw [q]; exact HE.refl _⟩⟩
@[simp] theorem hb12 : hasBody Try.prog 12 = true := by kernel_rfl

theorem strings_ans (v : AV) (ls : List (AV × List (List UInt8))) (hv : SV 1 (ls.map Prod.fst) v) (hls : ∀ q ∈ ls, SV 1 (q.2.map encS) q.1) (hlen : ls.length ≤ 1000) (hsum : left (hds 0 ls) ≤ 1000000) (h0 : Hp Fm) (hp0 : h0.pol 9 = false) :
    A Try.prog TT (.func 12) [v] h0 (fun r h' => ∃ out, Path (lessH cmpS) (hds 0 ls) out [] ∧ SV 1 (out.map encS) r ∧ HE h0 h') := by
  apply A_go Try.func12 rfl (by rfl); (case hn => (simp [Try.ntmps12]; rfl))
  repeat (first | (with_reducible first | refine W_seq_i ?_ | refine W_block_i ?_ | refine W_region_i ?_ | refine W_skip_i ?_ | refine W_label_i ?_ | refine W_ret_i ?_ | refine W_exit_i ?_ | refine W_goto_i ?_ | refine W_scope_go ?_ | refine jumpW_r ?_ | refine jumpW_n ?_ | refine jumpW_x ?_ | refine blockW_g ?_ | refine thenW_n ?_ | refine blockW_n ?_ | refine blockW_x ?_ | refine blockW_y (by decide) ?_ | refine blockW_r ?_ | refine thenW_e (by simp; done) ?_ | refine WO_nil_i ?_ | refine WT_nil_i ?_) | (with_reducible apply W_cond_t; (case h => (simp; done))) | (with_reducible apply W_cond_f; (case h => (simp; done))) | ((with_reducible first | apply WO_val_i | apply WT_val_i); (case hw => (simp; done)); (case he => (simp; first | done | exact ⟨rfl, rfl⟩ | rfl)); (case hp => (simp; first | done | rfl))) | ((with_reducible first | apply WO_no_i | apply WT_no_i); (case hw => (simp; done)); (case hp => (simp; first | done | rfl))) | ((with_reducible first | apply WO_skip_i | apply WT_skip_i); (case hw => (simp; done)); (case he => (simp; first | done | rfl)); (case hp => (simp; first | done | rfl))) | ((with_reducible first | apply WO_call_i | apply WT_call_i); (case hw => (simp; done)); (case he => (simp; first | done | exact ⟨rfl, rfl, rfl⟩ | rfl))))
  refine A.mono (all_str ord_str (lessH_ord cmpS_ok) v ls hv hls hlen hsum _ hp0) ?_
  rintro r h' ⟨out, h1, h2, h3⟩
  refine ⟨_, by simp; first | done | rfl, ?_⟩
  repeat (first | (with_reducible first | refine W_seq_i ?_ | refine W_block_i ?_ | refine W_region_i ?_ | refine W_skip_i ?_ | refine W_label_i ?_ | refine W_ret_i ?_ | refine W_exit_i ?_ | refine W_goto_i ?_ | refine W_scope_go ?_ | refine jumpW_r ?_ | refine jumpW_n ?_ | refine jumpW_x ?_ | refine blockW_g ?_ | refine thenW_n ?_ | refine blockW_n ?_ | refine blockW_x ?_ | refine blockW_y (by decide) ?_ | refine blockW_r ?_ | refine thenW_e (by simp; done) ?_ | refine WO_nil_i ?_ | refine WT_nil_i ?_) | (with_reducible apply W_cond_t; (case h => (simp; done))) | (with_reducible apply W_cond_f; (case h => (simp; done))) | ((with_reducible first | apply WO_val_i | apply WT_val_i); (case hw => (simp; done)); (case he => (simp; first | done | exact ⟨rfl, rfl⟩ | rfl)); (case hp => (simp; first | done | rfl))) | ((with_reducible first | apply WO_no_i | apply WT_no_i); (case hw => (simp; done)); (case hp => (simp; first | done | rfl))) | ((with_reducible first | apply WO_skip_i | apply WT_skip_i); (case hw => (simp; done)); (case he => (simp; first | done | rfl)); (case hp => (simp; first | done | rfl))) | ((with_reducible first | apply WO_call_i | apply WT_call_i); (case hw => (simp; done)); (case he => (simp; first | done | exact ⟨rfl, rfl, rfl⟩ | rfl))))
  (first | apply endW_r | apply endW_n); (case h1 => (simp [Try.results12]; first | done | rfl))
  exact ⟨out, h1, h2, h3⟩

end Go.Vn
