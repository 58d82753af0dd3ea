/- What functions of the program come to, in the value machine (a part of the proof of the claim's statement). No condition. -/
import Derived.Test.YtpneooihcofbbaaVnG8
set_option linter.unusedSimpArgs false
set_option linter.unusedVariables false
set_option maxRecDepth 20000
namespace Go.Vn
open Go.Proofs

set_option maxHeartbeats 1000000 in
theorem rends_ans (k : Tx) (rm : Bool) (h0 : Hp Fm) (r lo : Nat) (fs : List RF) (Max Left : Int) (Down : Bool) (fv : AV) (d : RKs h0 r lo fs Max Left Down fv) (w : RWf fs Max) :
    A Try.prog TT (.func 34) [.ptr r 0, .str k, .bool rm] h0 (fun res h' => (∃ e, res = .int .i64 e) ∧ RD h' r lo ∧ RX r lo h0 h') := by
  have hr := d.row
  have hmany := w.many
  apply A_go Try.func34 rfl (by rfl); (case hn => (simp [Try.ntmps34]; rfl))
  repeat (first|with_reducible refine vmR ?_|with_reducible refine vmV rfl ?_|with_reducible refine vmW rfl ?_|with_reducible refine blockW_y (by decide) ?_|with_reducible refine vmL ?_|((with_reducible first|apply vmO|apply vmT);(case a=>simp;with_reducible first|exact .v|exact .c))|((with_reducible apply vmC);(case e=>simp;with_reducible first|exact .t|exact .f)))
  refine A.mono (rat_ans k h0 r lo fs Max Left Down fv d (by omega)) ?_
  rintro _ hh ⟨hat, ehh⟩
  rw [ehh]
  clear ehh hh
  refine ⟨_, by simp; first | done | rfl, ?_⟩
  rcases hat with rfl | ⟨i, hi, rfl⟩
  · repeat (first|with_reducible refine vmR ?_|with_reducible refine vmV rfl ?_|with_reducible refine vmW rfl ?_|with_reducible refine blockW_y (by decide) ?_|with_reducible refine vmL ?_|((with_reducible first|apply vmO|apply vmT);(case a=>simp;with_reducible first|exact .v|exact .c))|((with_reducible apply vmC);(case e=>simp;with_reducible first|exact .t|exact .f)))
    refine A.mono (rmay_ans 8 h0 r lo fs Max Left Down fv d) ?_
    rintro _ hm ⟨e', rfl, hc, ⟨L2, D2, dm⟩, xm⟩
    refine ⟨_, by simp; first | done | rfl, ?_⟩
    have ne : e' ≠ 0 := by rcases hc with ⟨_, rfl⟩ | ⟨_, _, rfl⟩ | ⟨_, z, _⟩ <;> omega
    repeat (first|with_reducible refine vmR ?_|with_reducible refine vmV rfl ?_|with_reducible refine vmW rfl ?_|with_reducible refine blockW_y (by decide) ?_|with_reducible refine vmL ?_|((with_reducible first|apply vmO|apply vmT);(case a=>simp [ne];with_reducible first|exact .v|exact .c))|((with_reducible apply vmC);(case e=>simp [ne];with_reducible first|exact .t|exact .f)))
    (first | apply endW_r | apply endW_n); (case h1 => (simp [Try.results34]; first | done | rfl))
    exact ⟨⟨_, rfl⟩, ⟨fs, Max, L2, D2, fv, dm, w⟩, RX.of xm⟩
  have ni : ¬ (i : Int) < 0 := by omega
  repeat (first|with_reducible refine vmR ?_|with_reducible refine vmV rfl ?_|with_reducible refine vmW rfl ?_|with_reducible refine blockW_y (by decide) ?_|with_reducible refine vmL ?_|((with_reducible first|apply vmO|apply vmT);(case a=>simp [ni];with_reducible first|exact .v|exact .c))|((with_reducible apply vmC);(case e=>simp [ni];with_reducible first|exact .t|exact .f)))
  refine A.mono (rmay_ans 0 h0 r lo fs Max Left Down fv d) ?_
  rintro _ hm ⟨e', rfl, hc, ⟨L2, D2, dm⟩, xm⟩
  refine ⟨_, by simp; first | done | rfl, ?_⟩
  by_cases ne : e' = 0
  case neg =>
    repeat (first|with_reducible refine vmR ?_|with_reducible refine vmV rfl ?_|with_reducible refine vmW rfl ?_|with_reducible refine blockW_y (by decide) ?_|with_reducible refine vmL ?_|((with_reducible first|apply vmO|apply vmT);(case a=>simp [ne];with_reducible first|exact .v|exact .c))|((with_reducible apply vmC);(case e=>simp [ne];with_reducible first|exact .t|exact .f)))
    (first | apply endW_r | apply endW_n); (case h1 => (simp [Try.results34]; first | done | rfl))
    exact ⟨⟨_, rfl⟩, ⟨fs, Max, L2, D2, fv, dm, w⟩, RX.of xm⟩
  cases rm with
  | true =>
    repeat (first|with_reducible refine vmR ?_|with_reducible refine vmV rfl ?_|with_reducible refine vmW rfl ?_|with_reducible refine blockW_y (by decide) ?_|with_reducible refine vmL ?_|((with_reducible first|apply vmO|apply vmT);(case a=>simp [ne];with_reducible first|exact .v|exact .c))|((with_reducible apply vmC);(case e=>simp [ne];with_reducible first|exact .t|exact .f)))
    refine A.mono (rcut_ans i hm r lo fs Max L2 D2 fv dm (by omega) hi) ?_
    rintro _ h3 ⟨⟨fv3, d3, _⟩, x3⟩
    refine ⟨_, by simp; first | done | rfl, ?_⟩
    repeat (first|with_reducible refine vmR ?_|with_reducible refine vmV rfl ?_|with_reducible refine vmW rfl ?_|with_reducible refine blockW_y (by decide) ?_|with_reducible refine vmL ?_|((with_reducible first|apply vmO|apply vmT);(case a=>simp;with_reducible first|exact .v|exact .c))|((with_reducible apply vmC);(case e=>simp;with_reducible first|exact .t|exact .f)))
    (first | apply endW_r | apply endW_n); (case h1 => (simp [Try.results34]; first | done | rfl))
    refine ⟨⟨_, rfl⟩, ⟨_, Max, L2, D2, fv3, d3, ⟨by simp; omega, fun f hf => ?_, w.max⟩⟩, RX.of (xm.trans (x3.mono (fun _ _ z => z) (fun _ _ z => z)))⟩
    rcases List.mem_append.mp hf with hf | hf
    · exact w.ok f (List.mem_of_mem_take hf)
    · exact w.ok f (List.mem_of_mem_drop hf)
  | false =>
    obtain ⟨o, cap, J, hfv, hlo, ho, gr, jl, jc⟩ := dm.at_ hi
    have ix := ixF (o := o) (cap := cap) hi
    have g1 := getF1 (J := J) hi
    have l2 := lenF2 (J := J) hi
    have st2 := setF2 (J := J) (gt fs i).b.length hi
    have hrm := dm.row
    rw [hfv] at hrm
    have hro : o ≠ r := by have := d.rn; omega
    have hmem : gt fs i ∈ fs := by rw [gt_eq hi]; exact List.getElem_mem hi
    repeat (first|with_reducible refine vmR ?_|with_reducible refine vmV rfl ?_|with_reducible refine vmW rfl ?_|with_reducible refine blockW_y (by decide) ?_|with_reducible refine vmL ?_|((with_reducible first|apply vmO|apply vmT);(case a=>simp [ne];with_reducible first|exact .v|exact .c))|((with_reducible apply vmC);(case e=>simp [ne];with_reducible first|exact .t|exact .f)))
    (with_reducible refine W_draw_id (pln := true) [0, 1, 2, 3, 4, 5, 6, 7, 8, 9, 10, 11, 12, 13, 14, 15, 16] [(3, (3, [])), (8, (8, [])), (12, (12, []))] (by kernel_rfl) rfl ?_)
    repeat (first|with_reducible refine vmR ?_|with_reducible refine vmV rfl ?_|with_reducible refine vmW rfl ?_|with_reducible refine blockW_y (by decide) ?_|with_reducible refine vmL ?_|((with_reducible first|apply vmO|apply vmT);(case a=>simp [hrm, gr, ix, g1, l2, st2];with_reducible first|exact .v|exact .c))|((with_reducible apply vmC);(case e=>simp [hrm, gr, ix, g1, l2, st2];with_reducible first|exact .t|exact .f)))
    refine ⟨by simp [readSame, beqAV_self, hrm, gr]; done, _, by simp; first | done | rfl, ?_⟩
    repeat (first|with_reducible refine vmR ?_|with_reducible refine vmV rfl ?_|with_reducible refine vmW rfl ?_|with_reducible refine blockW_y (by decide) ?_|with_reducible refine vmL ?_|((with_reducible first|apply vmO|apply vmT);(case a=>simp;with_reducible first|exact .v|exact .c))|((with_reducible apply vmC);(case e=>simp;with_reducible first|exact .t|exact .f)))
    (first | apply endW_r | apply endW_n); (case h1 => (simp [Try.results34]; first | done | rfl))
    have k' : RS lo { hm.drew with obj := Mp.set hm.drew.obj o (.row (clsE encF (fs.set i { gt fs i with s := (gt fs i).b.length }) ++ J)) } 3 true ((fs.set i { gt fs i with s := (gt fs i).b.length }).map encF) fv := by
      rw [hfv]
      exact .inr ⟨o, cap, by simp, hlo, ⟨J, by rw [flatF]; simp, by simpa using jl⟩, by simpa using jc, ho⟩
    refine ⟨⟨_, rfl⟩, ⟨_, Max, L2, D2, fv, ⟨by simp [Ne.symm hro, hrm, hfv], k', dm.rn, dm.ln, dm.pol⟩, ⟨by simpa using w.many, fun f hf => ?_, w.max⟩⟩, ?_⟩
    · rcases List.mem_or_eq_of_mem_set hf with h | rfl
      · exact w.ok f h
      · have := w.ok _ hmem; simp only; omega
    · exact ((RX.of xm).drew).set (o := o) (fun _ => .inr hlo) _

set_option maxHeartbeats 1000000 in
theorem rrename_ans (k k2 : Tx) (hk2 : k2.length ≤ 1000) (h0 : Hp Fm) (r lo : Nat) (fs : List RF) (Max Left : Int) (Down : Bool) (fv : AV) (d : RKs h0 r lo fs Max Left Down fv) (w : RWf fs Max) :
    A Try.prog TT (.func 36) [.ptr r 0, .str k, .str k2] h0 (fun res h' => (∃ e, res = .int .i64 e) ∧ RD h' r lo ∧ RX r lo h0 h') := by
  have hr := d.row
  have hmany := w.many
  apply A_go Try.func36 rfl (by rfl); (case hn => (simp [Try.ntmps36]; rfl))
  repeat (first|with_reducible refine vmR ?_|with_reducible refine vmV rfl ?_|with_reducible refine vmW rfl ?_|with_reducible refine blockW_y (by decide) ?_|with_reducible refine vmL ?_|((with_reducible first|apply vmO|apply vmT);(case a=>simp;with_reducible first|exact .v|exact .c))|((with_reducible apply vmC);(case e=>simp;with_reducible first|exact .t|exact .f)))
  refine A.mono (rat_ans k h0 r lo fs Max Left Down fv d (by omega)) ?_
  rintro _ hh ⟨hat, ehh⟩
  rw [ehh]
  clear ehh hh
  refine ⟨_, by simp; first | done | rfl, ?_⟩
  repeat (first|with_reducible refine vmR ?_|with_reducible refine vmV rfl ?_|with_reducible refine vmW rfl ?_|with_reducible refine blockW_y (by decide) ?_|with_reducible refine vmL ?_|((with_reducible first|apply vmO|apply vmT);(case a=>simp;with_reducible first|exact .v|exact .c))|((with_reducible apply vmC);(case e=>simp;with_reducible first|exact .t|exact .f)))
  refine A.mono (rnamed_ans k2 (by omega) h0) ?_
  rintro _ hh ⟨rfl, ehh⟩
  rw [ehh]
  clear ehh hh
  refine ⟨_, by simp; first | done | rfl, ?_⟩
  rcases hat with rfl | ⟨i, hi, rfl⟩
  · repeat (first|with_reducible refine vmR ?_|with_reducible refine vmV rfl ?_|with_reducible refine vmW rfl ?_|with_reducible refine blockW_y (by decide) ?_|with_reducible refine vmL ?_|((with_reducible first|apply vmO|apply vmT);(case a=>simp;with_reducible first|exact .v|exact .c))|((with_reducible apply vmC);(case e=>simp;with_reducible first|exact .t|exact .f)))
    refine A.mono (rmay_ans 8 h0 r lo fs Max Left Down fv d) ?_
    rintro _ hm ⟨e', rfl, hc, ⟨L2, D2, dm⟩, xm⟩
    refine ⟨_, by simp; first | done | rfl, ?_⟩
    have ne : e' ≠ 0 := by rcases hc with ⟨_, rfl⟩ | ⟨_, _, rfl⟩ | ⟨_, z, _⟩ <;> omega
    repeat (first|with_reducible refine vmR ?_|with_reducible refine vmV rfl ?_|with_reducible refine vmW rfl ?_|with_reducible refine blockW_y (by decide) ?_|with_reducible refine vmL ?_|((with_reducible first|apply vmO|apply vmT);(case a=>simp [ne];with_reducible first|exact .v|exact .c))|((with_reducible apply vmC);(case e=>simp [ne];with_reducible first|exact .t|exact .f)))
    (first | apply endW_r | apply endW_n); (case h1 => (simp [Try.results36]; first | done | rfl))
    exact ⟨⟨_, rfl⟩, ⟨fs, Max, L2, D2, fv, dm, w⟩, RX.of xm⟩
  have ni : ¬ (i : Int) < 0 := by omega
  cases q1 : namedP k2 with
  | false =>
    repeat (first|with_reducible refine vmR ?_|with_reducible refine vmV rfl ?_|with_reducible refine vmW rfl ?_|with_reducible refine blockW_y (by decide) ?_|with_reducible refine vmL ?_|((with_reducible first|apply vmO|apply vmT);(case a=>simp [ni];with_reducible first|exact .v|exact .c))|((with_reducible apply vmC);(case e=>simp [ni];with_reducible first|exact .t|exact .f)))
    refine A.mono (rmay_ans 1 h0 r lo fs Max Left Down fv d) ?_
    rintro _ hm ⟨e', rfl, hc, ⟨L2, D2, dm⟩, xm⟩
    refine ⟨_, by simp; first | done | rfl, ?_⟩
    have ne : e' ≠ 0 := by rcases hc with ⟨_, rfl⟩ | ⟨_, _, rfl⟩ | ⟨_, z, _⟩ <;> omega
    repeat (first|with_reducible refine vmR ?_|with_reducible refine vmV rfl ?_|with_reducible refine vmW rfl ?_|with_reducible refine blockW_y (by decide) ?_|with_reducible refine vmL ?_|((with_reducible first|apply vmO|apply vmT);(case a=>simp [ne];with_reducible first|exact .v|exact .c))|((with_reducible apply vmC);(case e=>simp [ne];with_reducible first|exact .t|exact .f)))
    (first | apply endW_r | apply endW_n); (case h1 => (simp [Try.results36]; first | done | rfl))
    exact ⟨⟨_, rfl⟩, ⟨fs, Max, L2, D2, fv, dm, w⟩, RX.of xm⟩
  | true =>
    repeat (first|with_reducible refine vmR ?_|with_reducible refine vmV rfl ?_|with_reducible refine vmW rfl ?_|with_reducible refine blockW_y (by decide) ?_|with_reducible refine vmL ?_|((with_reducible first|apply vmO|apply vmT);(case a=>simp [ni];with_reducible first|exact .v|exact .c))|((with_reducible apply vmC);(case e=>simp [ni];with_reducible first|exact .t|exact .f)))
    refine A.mono (rmay_ans 0 h0 r lo fs Max Left Down fv d) ?_
    rintro _ hm ⟨e', rfl, hc, ⟨L2, D2, dm⟩, xm⟩
    refine ⟨_, by simp; first | done | rfl, ?_⟩
    by_cases ne : e' = 0
    case neg =>
      repeat (first|with_reducible refine vmR ?_|with_reducible refine vmV rfl ?_|with_reducible refine vmW rfl ?_|with_reducible refine blockW_y (by decide) ?_|with_reducible refine vmL ?_|((with_reducible first|apply vmO|apply vmT);(case a=>simp [ne];with_reducible first|exact .v|exact .c))|((with_reducible apply vmC);(case e=>simp [ne];with_reducible first|exact .t|exact .f)))
      (first | apply endW_r | apply endW_n); (case h1 => (simp [Try.results36]; first | done | rfl))
      exact ⟨⟨_, rfl⟩, ⟨fs, Max, L2, D2, fv, dm, w⟩, RX.of xm⟩
    obtain ⟨o, cap, J, hfv, hlo, ho, gr, jl, jc⟩ := dm.at_ hi
    have ix := ixF (o := o) (cap := cap) hi
    have gF := getF (J := J) hi
    have hrm := dm.row
    rw [hfv] at hrm
    have hmem : gt fs i ∈ fs := by rw [gt_eq hi]; exact List.getElem_mem hi
    have rn := dm.rn
    have ln := dm.ln
    obtain ⟨g, hg⟩ : ∃ g, g = gt fs i := ⟨_, rfl⟩
    rw [← hg] at gF hmem
    repeat (first|with_reducible refine vmR ?_|with_reducible refine vmV rfl ?_|with_reducible refine vmW rfl ?_|with_reducible refine blockW_y (by decide) ?_|with_reducible refine vmL ?_|((with_reducible first|apply vmO|apply vmT);(case a=>simp [ne, hrm, gr, ix, gF];with_reducible first|exact .v|exact .c))|((with_reducible apply vmC);(case e=>simp [ne, hrm, gr, ix, gF];with_reducible first|exact .t|exact .f)))
    obtain ⟨ha, hha⟩ : ∃ ha : Hp Fm, ha = { hm with obj := Mp.set (Mp.set hm.obj hm.no (.row [.str [], .str [], .int .i64 0])) hm.no (.row [.str g.n, .str g.b, .int .i64 (g.s : Nat)]), no := hm.no + 1 } := ⟨_, rfl⟩
    have ea : HE hm ha := by rw [hha]; exact ((HE.refl hm).new _).set (Nat.le_refl _) _
    have ba : Mp.get ha.obj hm.no = some (.row [.str g.n, .str g.b, .int .i64 (g.s : Nat)]) := by rw [hha]; simp
    have na : ha.no = hm.no + 1 := by rw [hha]
    rw [← hha]
    have da := dm.he ea
    refine A.mono (rcut_ans i ha r lo fs Max L2 D2 fv da (by omega) hi) ?_
    rintro _ h3 ⟨⟨fv3, d3, f3⟩, x3⟩
    have b3 : Mp.get h3.obj hm.no = some (.row [.str g.n, .str g.b, .int .i64 (g.s : Nat)]) := (x3.obj _ (by omega) (by omega)).trans ba
    refine ⟨_, by simp; first | done | rfl, ?_⟩
    have nrm : hm.no ≠ r := by omega
    repeat (first|with_reducible refine vmR ?_|with_reducible refine vmV rfl ?_|with_reducible refine vmW rfl ?_|with_reducible refine blockW_y (by decide) ?_|with_reducible refine vmL ?_|((with_reducible first|apply vmO|apply vmT);(case a=>simp [b3];with_reducible first|exact .v|exact .c))|((with_reducible apply vmC);(case e=>simp [b3];with_reducible first|exact .t|exact .f)))
    obtain ⟨hb, hhb⟩ : ∃ hb : Hp Fm, hb = { h3 with obj := Mp.set h3.obj hm.no (.row [.str k2, .str g.b, .int .i64 (g.s : Nat)]) } := ⟨_, rfl⟩
    rw [← hhb]
    have x3n := x3.no
    have xb : HX (fun q => q = hm.no) (fun _ => False) h3 hb := by rw [hhb]; exact (HX.refl (fun q => q = hm.no) (fun _ => False) h3).set (fun _ => rfl) _
    have db := d3.hx xb (by omega) (fun q hq e => by have := f3 q hq; omega)
    have bb : Mp.get hb.obj hm.no = some (.row [.str k2, .str g.b, .int .i64 (g.s : Nat)]) := by rw [hhb]; simp
    repeat (first|with_reducible refine vmR ?_|with_reducible refine vmV rfl ?_|with_reducible refine vmW rfl ?_|with_reducible refine blockW_y (by decide) ?_|with_reducible refine vmL ?_|((with_reducible first|apply vmO|apply vmT);(case a=>simp [bb];with_reducible first|exact .v|exact .c))|((with_reducible apply vmC);(case e=>simp [bb];with_reducible first|exact .t|exact .f)))
    refine A.mono (rput_ans ⟨k2, g.b, g.s⟩ hb r lo _ Max L2 D2 fv3 db (by simp; omega)) ?_
    rintro _ h4 ⟨⟨fv4, fs4, d4, l4, s4⟩, x4⟩
    refine ⟨_, by simp; first | done | rfl, ?_⟩
    repeat (first|with_reducible refine vmR ?_|with_reducible refine vmV rfl ?_|with_reducible refine vmW rfl ?_|with_reducible refine blockW_y (by decide) ?_|with_reducible refine vmL ?_|((with_reducible first|apply vmO|apply vmT);(case a=>simp;with_reducible first|exact .v|exact .c))|((with_reducible apply vmC);(case e=>simp;with_reducible first|exact .t|exact .f)))
    (first | apply endW_r | apply endW_n); (case h1 => (simp [Try.results36]; first | done | rfl))
    have xmn := xm.no
    have xz : HX (fun o => o = r ∨ o = hm.no) (fun _ => False) h0 hb := (((xm.mono (fun _ _ z => .inl z) (fun _ _ z => z)).trans (ea.x _ _)).trans (x3.mono (fun _ _ z => .inl z) (fun _ _ z => z))).trans (xb.mono (fun _ _ z => .inr z) (fun _ _ z => z))
    have xa : HX (fun o => o = r) (fun _ => False) h0 hb := xz.mono (fun q hq e => by omega) (fun _ _ z => z)
    refine ⟨⟨_, rfl⟩, ⟨fs4, Max, L2, D2, fv4, d4, ⟨by rw [List.length_append, List.length_take, List.length_drop] at l4; omega, fun f hf => ?_, w.max⟩⟩, RX.of (xa.trans (x4.mono (fun _ _ z => z) (fun _ _ z => z)))⟩
    rcases s4 f hf with h | rfl
    · rcases List.mem_append.mp h with hf | hf
      · exact w.ok f (List.mem_of_mem_take hf)
      · exact w.ok f (List.mem_of_mem_drop hf)
    · exact w.ok g hmem

theorem rread_ans (k : Tx) (at_ n : Int) (ha : -9223372036854775808 ≤ at_ ∧ at_ ≤ 9223372036854775807) (hn : -9223372036854775808 ≤ n ∧ n ≤ 9223372036854775807) (h0 : Hp Fm) (r lo : Nat) (fs : List RF) (Max Left : Int) (Down : Bool) (fv : AV) (d : RKs h0 r lo fs Max Left Down fv) (w : RWf fs Max) :
    A Try.prog TT (.func 40) [.ptr r 0, .str k, .int .i64 at_, .int .i64 n] h0 (fun res h' => (∃ s e, res = .tup [.str s, .int .i64 e]) ∧ h' = h0) := by
  have hr := d.row
  have hmany := w.many
  apply A_go Try.func40 rfl (by rfl); (case hn => (simp [Try.ntmps40]; rfl))
  repeat (first|with_reducible refine vmR ?_|with_reducible refine vmV rfl ?_|with_reducible refine vmW rfl ?_|with_reducible refine blockW_y (by decide) ?_|with_reducible refine vmL ?_|((with_reducible first|apply vmO|apply vmT);(case a=>simp;with_reducible first|exact .v|exact .c))|((with_reducible apply vmC);(case e=>simp;with_reducible first|exact .t|exact .f)))
  refine A.mono (rat_ans k h0 r lo fs Max Left Down fv d (by omega)) ?_
  rintro _ hh ⟨hat, ehh⟩
  rw [ehh]
  clear ehh hh
  refine ⟨_, by simp; first | done | rfl, ?_⟩
  cases q0 : Down with
  | true =>
    rw [q0] at hr
    repeat (first|with_reducible refine vmR ?_|with_reducible refine vmV rfl ?_|with_reducible refine vmW rfl ?_|with_reducible refine blockW_y (by decide) ?_|with_reducible refine vmL ?_|((with_reducible first|apply vmO|apply vmT);(case a=>simp [hr];with_reducible first|exact .v|exact .c))|((with_reducible apply vmC);(case e=>simp [hr];with_reducible first|exact .t|exact .f)))
    (first | apply endW_r | apply endW_n); (case h1 => (simp [Try.results40]; first | done | rfl))
    exact ⟨⟨_, _, rfl⟩, rfl⟩
  | false =>
    rw [q0] at hr
    rcases hat with rfl | ⟨i, hi, rfl⟩
    · repeat (first|with_reducible refine vmR ?_|with_reducible refine vmV rfl ?_|with_reducible refine vmW rfl ?_|with_reducible refine blockW_y (by decide) ?_|with_reducible refine vmL ?_|((with_reducible first|apply vmO|apply vmT);(case a=>simp [hr];with_reducible first|exact .v|exact .c))|((with_reducible apply vmC);(case e=>simp [hr];with_reducible first|exact .t|exact .f)))
      (first | apply endW_r | apply endW_n); (case h1 => (simp [Try.results40]; first | done | rfl))
      exact ⟨⟨_, _, rfl⟩, rfl⟩
    have ni : ¬ (i : Int) < 0 := by omega
    by_cases q1 : at_ < 0
    · repeat (first|with_reducible refine vmR ?_|with_reducible refine vmV rfl ?_|with_reducible refine vmW rfl ?_|with_reducible refine blockW_y (by decide) ?_|with_reducible refine vmL ?_|((with_reducible first|apply vmO|apply vmT);(case a=>simp [hr, ni, q1];with_reducible first|exact .v|exact .c))|((with_reducible apply vmC);(case e=>simp [hr, ni, q1];with_reducible first|exact .t|exact .f)))
      (first | apply endW_r | apply endW_n); (case h1 => (simp [Try.results40]; first | done | rfl))
      exact ⟨⟨_, _, rfl⟩, rfl⟩
    by_cases q2 : n < 0
    · repeat (first|with_reducible refine vmR ?_|with_reducible refine vmV rfl ?_|with_reducible refine vmW rfl ?_|with_reducible refine blockW_y (by decide) ?_|with_reducible refine vmL ?_|((with_reducible first|apply vmO|apply vmT);(case a=>simp [hr, ni, q1, q2];with_reducible first|exact .v|exact .c))|((with_reducible apply vmC);(case e=>simp [hr, ni, q1, q2];with_reducible first|exact .t|exact .f)))
      (first | apply endW_r | apply endW_n); (case h1 => (simp [Try.results40]; first | done | rfl))
      exact ⟨⟨_, _, rfl⟩, rfl⟩
    obtain ⟨o, cap, J, hfv, hlo, ho, gr, jl, jc⟩ := d.at_ hi
    have ix := ixF (o := o) (cap := cap) hi
    have g1 := getF1 (J := J) hi
    rw [hfv] at hr
    obtain ⟨s, hs⟩ : ∃ s, s = (gt fs i).b := ⟨_, rfl⟩
    have hsl : s.length ≤ 33554432 := by rw [hs, gt_eq hi]; exact (w.ok _ (List.getElem_mem hi)).2
    rw [← hs] at g1
    by_cases q3 : (s.length : Int) ≤ at_
    · repeat (first|with_reducible refine vmR ?_|with_reducible refine vmV rfl ?_|with_reducible refine vmW rfl ?_|with_reducible refine blockW_y (by decide) ?_|with_reducible refine vmL ?_|((with_reducible first|apply vmO|apply vmT);(case a=>simp [hr, ni, q1, q2, gr, ix, g1, q3];with_reducible first|exact .v|exact .c))|((with_reducible apply vmC);(case e=>simp [hr, ni, q1, q2, gr, ix, g1, q3];with_reducible first|exact .t|exact .f)))
      (first | apply endW_r | apply endW_n); (case h1 => (simp [Try.results40]; first | done | rfl))
      exact ⟨⟨_, _, rfl⟩, rfl⟩
    obtain ⟨a, rfl⟩ : ∃ a : Nat, at_ = (a : Int) := ⟨at_.toNat, by omega⟩
    obtain ⟨m, rfl⟩ : ∃ m : Nat, n = (m : Int) := ⟨n.toNat, by omega⟩
    have q3n : ¬ (s.length ≤ a) := by omega
    obtain ⟨c, hc⟩ : ∃ c, c = s.length - a := ⟨_, rfl⟩
    have w1 : IntKind.i64.wrap ((s.length : Int) - (a : Int)) = (c : Int) := by rw [wrap64 (by omega) (by omega)]; omega
    have sub : ∀ b : Nat, a ≤ b → b ≤ s.length → sliceAV Try.prog 9 (.str s) (some (.int .i64 (a : Int))) (some (.int .i64 (b : Int))) none = some (.str ((s.drop a).take (b - a))) := fun b h1 h2 => by
      have e1 : (a : Int) ≤ b := by omega
      have e2 : (b : Int) ≤ s.length := by omega
      simp [sliceAV, obound, bound, e1, e2, h1, h2]
    by_cases q4 : c < m
    · have q4' : (c : Int) < m := by omega
      obtain ⟨b, hb⟩ : ∃ b, b = a + c := ⟨_, rfl⟩
      have w2 : IntKind.i64.wrap ((a : Int) + (c : Int)) = (b : Int) := by rw [wrap64 (by omega) (by omega)]; omega
      have sb := sub b (by omega) (by omega)
      repeat (first|with_reducible refine vmR ?_|with_reducible refine vmV rfl ?_|with_reducible refine vmW rfl ?_|with_reducible refine blockW_y (by decide) ?_|with_reducible refine vmL ?_|((with_reducible first|apply vmO|apply vmT);(case a=>simp [hr, ni, q1, q2, gr, ix, g1, q3, q3n, w1, q4, q4', w2, sb];with_reducible first|exact .v|exact .c))|((with_reducible apply vmC);(case e=>simp [hr, ni, q1, q2, gr, ix, g1, q3, q3n, w1, q4, q4', w2, sb];with_reducible first|exact .t|exact .f)))
      (first | apply endW_r | apply endW_n); (case h1 => (simp [Try.results40]; first | done | rfl))
      exact ⟨⟨_, _, rfl⟩, rfl⟩
    · have q4' : ¬ (c : Int) < m := by omega
      obtain ⟨b, hb⟩ : ∃ b, b = a + m := ⟨_, rfl⟩
      have w2 : IntKind.i64.wrap ((a : Int) + (m : Int)) = (b : Int) := by rw [wrap64 (by omega) (by omega)]; omega
      have sb := sub b (by omega) (by omega)
      repeat (first|with_reducible refine vmR ?_|with_reducible refine vmV rfl ?_|with_reducible refine vmW rfl ?_|with_reducible refine blockW_y (by decide) ?_|with_reducible refine vmL ?_|((with_reducible first|apply vmO|apply vmT);(case a=>simp [hr, ni, q1, q2, gr, ix, g1, q3, q3n, w1, q4, q4', w2, sb];with_reducible first|exact .v|exact .c))|((with_reducible apply vmC);(case e=>simp [hr, ni, q1, q2, gr, ix, g1, q3, q3n, w1, q4, q4', w2, sb];with_reducible first|exact .t|exact .f)))
      (first | apply endW_r | apply endW_n); (case h1 => (simp [Try.results40]; first | done | rfl))
      exact ⟨⟨_, _, rfl⟩, rfl⟩
end Go.Vn

set_option maxRecDepth 20000
namespace Go.Vn
open Go.Proofs

set_option maxHeartbeats 4000000 in
theorem rup_ans (keep : List Int) (hk64 : ∀ x ∈ keep, -9223372036854775808 ≤ x ∧ x ≤ 9223372036854775807) (hkl : keep.length ≤ 9223372036854775807) (vk : AV) (kv : SV 1 (keep.map (AV.int .i64)) vk) (h0 : Hp Fm) (r lo : Nat) (fs : List RF) (Max Left : Int) (Down : Bool) (fv : AV) (d : RKs h0 r lo fs Max Left Down fv) (w : RWf fs Max) :
    A Try.prog TT (.func 38) [.ptr r 0, vk] h0 (fun _ h' => RD h' r lo ∧ RX r lo h0 h') := by
  have hr := d.row
  have hmany := w.many
  cases q0 : Down with
  | false =>
    rw [q0] at hr
    apply A_go Try.func38 rfl (by rfl); (case hn => (simp [Try.ntmps38]; rfl))
    repeat (first|with_reducible refine vmR ?_|with_reducible refine vmV rfl ?_|with_reducible refine vmW rfl ?_|with_reducible refine blockW_y (by decide) ?_|with_reducible refine vmL ?_|((with_reducible first|apply vmO|apply vmT);(case a=>simp [hr];with_reducible first|exact .v|exact .c))|((with_reducible apply vmC);(case e=>simp [hr];with_reducible first|exact .t|exact .f)))
    (first | apply endW_r | apply endW_n); (case h1 => (simp [Try.results38]; first | done | rfl))
    exact ⟨⟨fs, Max, -1, false, fv, d.set Max (-1) false d.rs, w⟩, RX.of ((HX.refl (fun o => o = r) (fun _ => False) h0).set (fun _ => rfl) _)⟩
  | true =>
    rw [q0] at hr
    obtain ⟨ha, hha⟩ : ∃ ha : Hp Fm, ha = { h0 with obj := Mp.set (Mp.set h0.obj r (.row [fv, .int .i64 Max, .int .i64 (-1), .bool true])) r (.row [fv, .int .i64 Max, .int .i64 (-1), .bool false]) } := ⟨_, rfl⟩
    have da : RKs ha r lo fs Max (-1) false fv := by
      have d1 := d.set Max (-1) true d.rs
      have := d1.set Max (-1) false d1.rs
      rw [hha]; exact this
    have xa : RX r lo h0 ha := by rw [hha]; exact RX.of (((HX.refl (fun o => o = r) (fun _ => False) h0).set (fun _ => rfl) _).set (fun _ => rfl) _)
    obtain ⟨n, hn⟩ : ∃ n, n = fs.length := ⟨_, rfl⟩
    apply A_go Try.func38 rfl (by rfl); (case hn => (simp [Try.ntmps38]; rfl))
    repeat (first|with_reducible refine vmR ?_|with_reducible refine vmV rfl ?_|with_reducible refine vmW rfl ?_|with_reducible refine blockW_y (by decide) ?_|with_reducible refine vmL ?_|((with_reducible first|apply vmO|apply vmT);(case a=>simp [hr];with_reducible first|exact .v|exact .c))|((with_reducible apply vmC);(case e=>simp [hr];with_reducible first|exact .t|exact .f)))
    rw [← hha]
    refine W_loop (fun mm s => ∃ (t : Fm AV) (h : Hp Fm) (j i : Nat) (fs : List RF), s = ⟨t, 86, h, none⟩ ∧ mm = n - j ∧ j ≤ n ∧ i ≤ j ∧ fs.length = n ∧ tget t 0 = .ptr r 0 ∧ tget t 1 = vk ∧ tget t 5 = .int .i64 j ∧ tget t 4 = .int .i64 i ∧ RKs h r lo fs Max (-1) false fv ∧ RWf fs Max ∧ RX r lo ha h) n
      ⟨_, _, 0, 0, fs, rfl, rfl, by omega, by omega, hn.symm, by simp, by simp, by simp, by simp, da, w, HX.refl _ _ _⟩ ?_
    clear da w hn d hr fs hmany
    rintro _ _ ⟨t, h, j, i, fs, rfl, rfl, hj, hij, hn, t0, t1, t5, t4, d, w, dx⟩
    have hr := d.row
    have dl := d.len
    have dm := d.nm
    have hmany := w.many
    by_cases q1 : j < n
    case neg =>
      have q1' : ¬ (j : Int) < fs.length := by omega
      have q1'' : ¬ j < fs.length := by omega
      repeat (first|with_reducible refine vmR ?_|with_reducible refine vmV rfl ?_|with_reducible refine vmW rfl ?_|with_reducible refine blockW_y (by decide) ?_|with_reducible refine vmL ?_|((with_reducible first|apply vmO|apply vmT);(case a=>simp [t0, t1, t5, t4, hr, dl, dm, q1', q1''];with_reducible first|exact .v|exact .c))|((with_reducible apply vmC);(case e=>simp [t0, t1, t5, t4, hr, dl, dm, q1', q1''];with_reducible first|exact .t|exact .f)))
      (first | apply endW_r | apply endW_n); (case h1 => (simp [Try.results38]; first | done | rfl))
      exact ⟨⟨fs, Max, -1, false, fv, d, w⟩, xa.trans dx⟩
    have q1' : (j : Int) < fs.length := by omega
    have q1'' : j < fs.length := by omega
    obtain ⟨jp, hjp⟩ : ∃ jp, jp = j + 1 := ⟨_, rfl⟩
    have wj : IntKind.i64.wrap ((j : Int) + 1) = (jp : Int) := by rw [wrap64 (by omega) (by omega)]; omega
    obtain ⟨o, cap, J, hfv, hlo, ho, gr, jl, jc⟩ := d.at_ q1''
    have ix := ixF (o := o) (cap := cap) q1''
    have gF := getF (J := J) q1''
    have hmem : gt fs j ∈ fs := by rw [gt_eq q1'']; exact List.getElem_mem q1''
    obtain ⟨ok1, ok2⟩ := w.ok _ hmem
    have rn := d.rn
    have ln := d.ln
    have hrf := hr
    rw [hfv] at hrf
    rw [hfv] at dl dm
    obtain ⟨g, hg⟩ : ∃ g, g = gt fs j := ⟨_, rfl⟩
    rw [← hg] at gF ok1 ok2
    obtain ⟨hX, hhX⟩ : ∃ hX : Hp Fm, hX = { h with obj := Mp.set (Mp.set h.obj h.no (.row [.str [], .str [], .int .i64 0])) h.no (.row [.str g.n, .str g.b, .int .i64 (g.s : Nat)]), no := h.no + 1 } := ⟨_, rfl⟩
    have eX : HE h hX := by rw [hhX]; exact ((HE.refl h).new _).set (o := h.no) (Nat.le_refl _) _
    have nX : hX.no = h.no + 1 := by rw [hhX]
    have bX : Mp.get hX.obj h.no = some (.row [.str g.n, .str g.b, .int .i64 (g.s : Nat)]) := by rw [hhX]; simp
    by_cases q2 : g.b.length = g.s
    · have q2' : ((g.b.length : Nat) : Int) = (g.s : Nat) := by omega
      repeat (first|with_reducible refine vmR ?_|with_reducible refine vmV rfl ?_|with_reducible refine vmW rfl ?_|with_reducible refine blockW_y (by decide) ?_|with_reducible refine vmL ?_|((with_reducible first|apply vmO|apply vmT);(case a=>simp [t0, t1, t5, t4, hrf, dl, dm, q1', q1'', ix, gr, gF, q2, q2', wj];with_reducible first|exact .v|exact .c))|((with_reducible apply vmC);(case e=>simp [t0, t1, t5, t4, hrf, dl, dm, q1', q1'', ix, gr, gF, q2, q2', wj];with_reducible first|exact .t|exact .f)))
      rw [← hhX]
      refine ⟨n - jp, by omega, _, _, jp, i, fs, rfl, rfl, by omega, by omega, hn, by simp [t0], by simp [t1], by simp, by simp [t4], d.he eX, w, dx.trans (eX.x _ _)⟩
    have q2' : ¬ (((g.b.length : Nat) : Int) = (g.s : Nat)) := by omega
    have kvl := kv.len Try.underlying40
    rw [List.length_map] at kvl
    have kvn := kv.nm
    repeat (first|with_reducible refine vmR ?_|with_reducible refine vmV rfl ?_|with_reducible refine vmW rfl ?_|with_reducible refine blockW_y (by decide) ?_|with_reducible refine vmL ?_|((with_reducible first|apply vmO|apply vmT);(case a=>simp [t0, t1, t5, t4, hrf, dl, dm, q1', q1'', ix, gr, gF, q2, q2', kvl, kvn];with_reducible first|exact .v|exact .c))|((with_reducible apply vmC);(case e=>simp [t0, t1, t5, t4, hrf, dl, dm, q1', q1'', ix, gr, gF, q2, q2', kvl, kvn];with_reducible first|exact .t|exact .f)))
    rw [← hhX]
    obtain ⟨lo1, hlo1⟩ : ∃ x, x = g.b.length - g.s := ⟨_, rfl⟩
    have wlo : IntKind.i64.wrap ((g.b.length : Int) - (g.s : Int)) = (lo1 : Int) := by rw [wrap64 (by omega) (by omega)]; omega
    obtain ⟨lo2, hlo2⟩ : ∃ x, x = lo1 + 1 := ⟨_, rfl⟩
    have wlo2 : IntKind.i64.wrap ((lo1 : Int) + 1) = (lo2 : Int) := by rw [wrap64 (by omega) (by omega)]; omega
    refine W.mono (R := fun e s => e = .normal ∧ ∃ (t : Fm AV) (kn : Nat), s = ⟨t, 86, hX, none⟩ ∧ tget t 0 = .ptr r 0 ∧ tget t 1 = vk ∧ tget t 5 = .int .i64 j ∧ tget t 4 = .int .i64 i ∧ tget t 6 = .ptr h.no 0 ∧ tget t 7 = .int .i64 kn ∧ kn ≤ lo1) ?_ ?_
    · by_cases q3 : 0 < keep.length
      case neg =>
        have q3' : ¬ (0 : Int) < keep.length := by omega
        repeat (first|with_reducible refine vmR ?_|with_reducible refine vmV rfl ?_|with_reducible refine vmW rfl ?_|with_reducible refine blockW_y (by decide) ?_|with_reducible refine vmL ?_|((with_reducible first|apply vmO|apply vmT);(case a=>simp [q3, q3'];with_reducible first|exact .v|exact .c))|((with_reducible apply vmC);(case e=>simp [q3, q3'];with_reducible first|exact .t|exact .f)))
        exact ⟨rfl, _, 0, rfl, by simp [t0], by simp [t1], by simp [t5], by simp [t4], by simp, by simp, by omega⟩
      have q3' : (0 : Int) < keep.length := by omega
      have nz : ¬ ((keep.length : Int) = 0) := by omega
      have nz' : ¬ (keep.length = 0) := by omega
      obtain ⟨rr, hrr⟩ : ∃ r, r = i % keep.length := ⟨_, rfl⟩
      have hmod : Int.tmod (i : Int) (keep.length : Int) = (rr : Int) := by rw [Int.tmod_eq_emod_of_nonneg (by omega), hrr]; simp
      have hrl : rr < keep.length := by rw [hrr]; exact Nat.mod_lt _ q3
      obtain ⟨x, hx⟩ : ∃ x, x = keep[rr] := ⟨_, rfl⟩
      obtain ⟨b1, b2⟩ := hk64 x (by rw [hx]; exact List.getElem_mem hrl)
      have ixk := kv.idx (k := .i64) (i := (rr : Int)) Try.underlying40 z3 (by omega) (by simpa using hrl)
      simp only [List.getElem_map, Int.toNat_natCast, ← hx] at ixk
      have nz2 : ¬ ((lo2 : Int) = 0) := by omega
      have nz2' : ¬ (lo2 = 0) := by omega
      obtain ⟨y, hy⟩ : ∃ y : Nat, y = if x < 0 then (-(x + 1)).toNat else x.toNat := ⟨_, rfl⟩
      have hmod2 : Int.tmod (y : Int) (lo2 : Int) = ((y % lo2 : Nat) : Int) := by rw [Int.tmod_eq_emod_of_nonneg (by omega)]; simp
      obtain ⟨md, hmd⟩ : ∃ md, md = y % lo2 := ⟨_, rfl⟩
      rw [← hmd] at hmod2
      have mdl : md < lo2 := by rw [hmd]; exact Nat.mod_lt _ (by omega)
      by_cases q4 : x < 0
      · have u1 : IntKind.i64.wrap (x + 1) = x + 1 := wrap64 (by omega) (by omega)
        have u2 : IntKind.i64.wrap (0 - (x + 1)) = (y : Int) := by rw [wrap64 (by omega) (by omega), hy, if_pos q4]; omega
        have u2' : IntKind.i64.wrap (-(x + 1)) = (y : Int) := by rw [← u2]; congr 1; omega
        have u2'' : IntKind.i64.wrap (-1 + -x) = (y : Int) := by rw [← u2]; congr 1; omega
        repeat (first|with_reducible refine vmR ?_|with_reducible refine vmV rfl ?_|with_reducible refine vmW rfl ?_|with_reducible refine blockW_y (by decide) ?_|with_reducible refine vmL ?_|((with_reducible first|apply vmO|apply vmT);(case a=>simp [q3, q3', t1, t4, kvl, kvn, nz, nz', hmod, ixk, q4, u1, u2, u2', u2'', bX, wlo, wlo2, nz2, nz2', hmod2];with_reducible first|exact .v|exact .c))|((with_reducible apply vmC);(case e=>simp [q3, q3', t1, t4, kvl, kvn, nz, nz', hmod, ixk, q4, u1, u2, u2', u2'', bX, wlo, wlo2, nz2, nz2', hmod2];with_reducible first|exact .t|exact .f)))
        exact ⟨rfl, _, md, rfl, by simp [t0], by simp [t1], by simp [t5], by simp [t4], by simp, by simp, by omega⟩
      · have u2 : x = (y : Int) := by rw [hy, if_neg q4]; omega
        subst u2
        repeat (first|with_reducible refine vmR ?_|with_reducible refine vmV rfl ?_|with_reducible refine vmW rfl ?_|with_reducible refine blockW_y (by decide) ?_|with_reducible refine vmL ?_|((with_reducible first|apply vmO|apply vmT);(case a=>simp [q3, q3', t1, t4, kvl, kvn, nz, nz', hmod, ixk, q4, bX, wlo, wlo2, nz2, nz2', hmod2];with_reducible first|exact .v|exact .c))|((with_reducible apply vmC);(case e=>simp [q3, q3', t1, t4, kvl, kvn, nz, nz', hmod, ixk, q4, bX, wlo, wlo2, nz2, nz2', hmod2];with_reducible first|exact .t|exact .f)))
        exact ⟨rfl, _, md, rfl, by simp [t0], by simp [t1], by simp [t5], by simp [t4], by simp, by simp, by omega⟩
    clear t0 t1 t5 t4
    rintro e s ⟨rfl, t, kn, rfl, t0, t1, t5, t4, t6, t7, hkn⟩
    obtain ⟨c, hc⟩ : ∃ c, c = g.s + kn := ⟨_, rfl⟩
    have wc : IntKind.i64.wrap ((g.s : Int) + (kn : Int)) = (c : Int) := by rw [wrap64 (by omega) (by omega)]; omega
    have sl : sliceAV Try.prog 9 (.str g.b) none (some (.int .i64 (c : Int))) none = some (.str (g.b.take c)) := by
      have e1 : (c : Int) ≤ g.b.length := by omega
      have e2 : c ≤ g.b.length := by omega
      simp [sliceAV, obound, bound, e1, e2]
    obtain ⟨nb, hnb⟩ : ∃ nb, nb = g.b.take c := ⟨_, rfl⟩
    have nbl : nb.length = c := by rw [hnb, List.length_take]; omega
    rw [← hnb] at sl
    obtain ⟨ip, hip⟩ : ∃ ip, ip = i + 1 := ⟨_, rfl⟩
    have wi : IntKind.i64.wrap ((i : Int) + 1) = (ip : Int) := by rw [wrap64 (by omega) (by omega)]; omega
    have x1 : h.no ≠ r := by omega
    have x2 : h.no ≠ o := by omega
    have x1' : r ≠ h.no := by omega
    have x2' : o ≠ h.no := by omega
    have l3 := lenF3 (J := J) q1''
    have st3 := setF3 (J := J) ⟨g.n, nb, nb.length⟩ q1''
    have hrX := (eX.obj r (by omega)).trans hrf
    have grX := (eX.obj o ho).trans gr
    have hro : o ≠ r := by omega
    repeat (first|with_reducible refine vmR ?_|with_reducible refine vmV rfl ?_|with_reducible refine vmW rfl ?_|with_reducible refine blockW_y (by decide) ?_|with_reducible refine vmL ?_|((with_reducible first|apply vmO|apply vmT);(case a=>simp [t0, t6, t7, bX, wc, sl];with_reducible first|exact .v|exact .c))|((with_reducible apply vmC);(case e=>simp [t0, t6, t7, bX, wc, sl];with_reducible first|exact .t|exact .f)))
    (with_reducible refine W_draw_id (pln := true) [0, 1, 2, 3, 4, 5, 6, 7] [(3, (3, [])), (5, (5, []))] (by kernel_rfl) rfl ?_)
    repeat (first|with_reducible refine vmR ?_|with_reducible refine vmV rfl ?_|with_reducible refine vmW rfl ?_|with_reducible refine blockW_y (by decide) ?_|with_reducible refine vmL ?_|((with_reducible first|apply vmO|apply vmT);(case a=>simp [t0, t5, t6, hrX, grX, ix, l3, st3, x1, x2, x1', x2'];with_reducible first|exact .v|exact .c))|((with_reducible apply vmC);(case e=>simp [t0, t5, t6, hrX, grX, ix, l3, st3, x1, x2, x1', x2'];with_reducible first|exact .t|exact .f)))
    refine ⟨by simp [readSame, beqAV_self, t0, t5, t6, hrX, grX, x1, x2, x1', x2']; done, _, by simp; first | done | rfl, ?_⟩
    repeat (first|with_reducible refine vmR ?_|with_reducible refine vmV rfl ?_|with_reducible refine vmW rfl ?_|with_reducible refine blockW_y (by decide) ?_|with_reducible refine vmL ?_|((with_reducible first|apply vmO|apply vmT);(case a=>simp [t4, t5, wi, wj];with_reducible first|exact .v|exact .c))|((with_reducible apply vmC);(case e=>simp [t4, t5, wi, wj];with_reducible first|exact .t|exact .f)))
    have hxz : ∀ S : Nat → Prop, S o → HX S (fun _ => False) h { hX.drew with obj := Mp.set (Mp.set (Mp.set hX.obj h.no (.row [.str g.n, .str nb, .int .i64 (g.s : Nat)])) h.no (.row [.str g.n, .str nb, .int .i64 (nb.length : Nat)])) o (.row (clsE encF (fs.set j ⟨g.n, nb, nb.length⟩) ++ J)) } := fun S hS =>
      ((((eX.x S (fun _ => False)).set (o := h.no) (fun z => by omega) _).set (o := h.no) (fun z => by omega) _).drew).set (o := o) (fun _ => hS) _
    refine ⟨n - jp, by omega, _, _, jp, ip, fs.set j ⟨g.n, nb, nb.length⟩, rfl, rfl, by omega, by omega, by simpa using hn, by simp [t0], by simp [t1], by simp, by simp, ⟨?_, ?_, rn, ?_, ?_⟩, ⟨by simpa using hmany, fun f hf => ?_, w.max⟩, dx.trans (hxz _ (.inr hlo))⟩
    · exact ((hxz (fun z => z = o) rfl).obj r (by omega) (Ne.symm hro)).trans hr
    · rw [hfv]
      exact .inr ⟨o, cap, by simp, hlo, ⟨J, by rw [flatF]; simp, by simpa using jl⟩, by simpa using jc, by show o < hX.no; omega⟩
    · show lo ≤ hX.no; omega
    · show hX.pol 77 = true; rw [eX.pol]; exact d.pol
    · rcases List.mem_or_eq_of_mem_set hf with h | rfl
      · exact w.ok f h
      · simp only; omega
end Go.Vn

set_option maxRecDepth 20000
namespace Go.Vn
open Go.Proofs

structure Deed where
  kd : Int
  n : Int
  m : Int
  a : Tx
  b : Tx
  keep : List Int
def encDeed (x : Deed) (vk : AV) : AV := .agg [.int .i64 x.kd, .int .i64 x.n, .int .i64 x.m, .str x.a, .str x.b, vk]
def i64r (n : Int) : Prop := -9223372036854775808 ≤ n ∧ n ≤ 9223372036854775807
structure DeedOk (x : Deed) (vk : AV) : Prop where
  n : i64r x.n
  m : i64r x.m
  al : x.a.length ≤ 9223372036854775807
  bl : x.b.length ≤ 9223372036854775807
  ks : SV 1 (x.keep.map (AV.int .i64)) vk
  kl : x.keep.length ≤ 9223372036854775807
  kr : ∀ z ∈ x.keep, i64r z
/-- What a deed makes of a disk. -/
def DStep (D : Dk) (x : Deed) (D' : Dk) : Prop :=
  if x.kd = 0 then D' = (D.create (x.a.take 30)).2 else
  if x.kd = 1 then D' = (D.append (x.a.take 30) (x.b.take 30)).2 else
  if x.kd = 2 then D' = (D.sync (x.a.take 30)).2 else
  if x.kd = 3 then D' = (D.rename (x.a.take 30) (x.b.take 30)).2 else
  if x.kd = 4 then D' = (D.remove (x.a.take 30)).2 else
  if x.kd = 5 then D' = D.arm x.n else
  if x.kd = 6 then (D.down = false ∧ D' = { D with left := -1 }) ∨ (D.down = true ∧ ∃ l : List Tx, l.Perm (D.fs.map (·.1)) ∧ D' = D.up x.keep l) else
  if x.kd = 7 then D' = D.setQuota x.n else D' = D
theorem wf_step {D D' : Dk} {x : Deed} (h : D.wf) (hn : i64r x.n) (s : DStep D x D') : D'.wf := by
  unfold DStep at s
  split at s
  · rw [s]; exact wf_create h _
  split at s
  · rw [s]; exact wf_append h _ _
  split at s
  · rw [s]; exact wf_sync h _
  split at s
  · rw [s]; exact wf_rename h _ _
  split at s
  · rw [s]; exact wf_remove h _
  split at s
  · rw [s]; exact wf_arm h _ hn.2
  split at s
  · rcases s with ⟨_, s⟩ | ⟨_, l, _, s⟩
    · rw [s]; exact ⟨h.fok, h.used, h.many, by simp, h.quota⟩
    · rw [s]; exact wf_up h _ _
  split at s
  · rw [s]; exact wf_quota h _
  · rw [s]; exact h

abbrev WX (p m r lo : Nat) (h h' : Hp Fm) : Prop := HX (fun o => o = p ∨ o = m ∨ o = r ∨ lo ≤ o) (fun _ => False) h h'
theorem RD.hx {h h' : Hp Fm} {r lo : Nat} {S G : Nat → Prop} (k : RD h r lo) (x : HX S G h h') (h1 : ¬ S r) (h2 : ∀ q, lo ≤ q → ¬ S q) : RD h' r lo := by
  obtain ⟨fs, Max, Left, Down, fv, d, w⟩ := k
  exact ⟨fs, Max, Left, Down, fv, d.hx x h1 (fun q hq => h2 q (d.rs.rows q hq)), w⟩
/-- Both disks. -/
structure Two (h : Hp Fm) (p m r lo : Nat) (D : Dk) : Prop where
  d : DKs h p m D
  w : D.wf
  rd : RD h r lo
  pl : p < lo
  ml : m < lo
  rl : r < lo
  ll : lo ≤ h.no
  pr : p ≠ r
  mr : m ≠ r
theorem Two.dx {h h' : Hp Fm} {p m r lo : Nat} {D D' : Dk} (k : Two h p m r lo D) (d : DKs h' p m D') (w : D'.wf) (x : DX p m h h') : Two h' p m r lo D' := by
  have h1 := k.pl; have h2 := k.ml; have h3 := k.pr; have h4 := k.mr; have h5 := x.no; have h6 := k.ll
  exact ⟨d, w, k.rd.hx x (by omega) (fun q hq => by omega), k.pl, k.ml, k.rl, by omega, k.pr, k.mr⟩
theorem Two.rx {h h' : Hp Fm} {p m r lo : Nat} {D : Dk} (k : Two h p m r lo D) (d : RD h' r lo) (x : RX r lo h h') : Two h' p m r lo D := by
  have h1 := k.pl; have h2 := k.ml; have h3 := k.pr; have h4 := k.mr; have h5 := x.no; have h6 := k.ll
  exact ⟨k.d.hx x (by omega) (by omega), k.w, d, k.pl, k.ml, k.rl, by omega, k.pr, k.mr⟩
theorem Two.he {h h' : Hp Fm} {p m r lo : Nat} {D : Dk} (k : Two h p m r lo D) (x : HE h h') : Two h' p m r lo D := k.rx (k.rd.hx (x.x (fun _ => False) (fun _ => False)) (fun z => z) (fun _ _ z => z)) (x.x _ _)
theorem DX.wx {p m r lo : Nat} {h h' : Hp Fm} (x : DX p m h h') : WX p m r lo h h' := x.mono (fun _ _ z => by rcases z with z | z; exact .inl z; exact .inr (.inl z)) (fun _ _ z => z)
theorem RX.wx {p m r lo : Nat} {h h' : Hp Fm} (x : RX r lo h h') : WX p m r lo h h' := x.mono (fun _ _ z => by rcases z with z | z; exact .inr (.inr (.inl z)); exact .inr (.inr (.inr z))) (fun _ _ z => z)


set_option maxHeartbeats 4000000 in
theorem does_ans (x : Deed) (vk : AV) (ok : DeedOk x vk) (p m r lo : Nat) (D : Dk) (h0 : Hp Fm) (k : Two h0 p m r lo D) (hp1 : h0.pol 5 = false) (hp2 : h0.pol 22 = false) :
    A Try.prog TT (.func 17) [.ptr p 0, .ptr r 0, encDeed x vk] h0 (fun res h' => (∃ q, res = .bool q) ∧ (∃ D', DStep D x D' ∧ Two h' p m r lo D') ∧ WX p m r lo h0 h') := by
  obtain ⟨kd, n, m0, a, b, keep⟩ := x
  have kc := ok.ks.cells
  have ki := ok.ks.isCell
  obtain ⟨hs, hhs⟩ : ∃ hs : Hp Fm, hs = { h0 with obj := Mp.set h0.obj h0.no (.row [.int .i64 kd, .int .i64 n, .int .i64 m0, .str a, .str b, vk]), no := h0.no + 1 } := ⟨_, rfl⟩
  have es : HE h0 hs := by rw [hhs]; exact (HE.refl h0).new _
  have bs : Mp.get hs.obj h0.no = some (.row [.int .i64 kd, .int .i64 n, .int .i64 m0, .str a, .str b, vk]) := by rw [hhs]; simp
  have ns : h0.no < hs.no := by rw [hhs]; simp
  have ks := k.he es
  have q1 : hs.pol 5 = false := by rw [es.pol]; exact hp1
  have q2 : hs.pol 22 = false := by rw [es.pol]; exact hp2
  have pl := k.pl
  have ml := k.ml
  have rl := k.rl
  have ll := k.ll
  have pr := k.pr
  have mr := k.mr
  obtain ⟨fa, hfa⟩ : ∃ fa, fa = a.take 30 := ⟨_, rfl⟩
  obtain ⟨fb, hfb⟩ : ∃ fb, fb = b.take 30 := ⟨_, rfl⟩
  have fal : fa.length ≤ 30 := by rw [hfa, List.length_take]; omega
  have fbl : fb.length ≤ 30 := by rw [hfb, List.length_take]; omega
  apply A_go Try.func17 rfl (by rfl); (case hn => (simp [Try.ntmps17]; rfl))
  repeat (first|with_reducible refine vmR ?_|with_reducible refine vmV rfl ?_|with_reducible refine vmW rfl ?_|with_reducible refine blockW_y (by decide) ?_|with_reducible refine vmL ?_|((with_reducible first|apply vmO|apply vmT);(case a=>simp [encDeed, kc, ki];with_reducible first|exact .v|exact .c))|((with_reducible apply vmC);(case e=>simp [encDeed, kc, ki];with_reducible first|exact .t|exact .f)))
  rw [← hhs]
  repeat (first|with_reducible refine vmR ?_|with_reducible refine vmV rfl ?_|with_reducible refine vmW rfl ?_|with_reducible refine blockW_y (by decide) ?_|with_reducible refine vmL ?_|((with_reducible first|apply vmO|apply vmT);(case a=>simp [bs];with_reducible first|exact .v|exact .c))|((with_reducible apply vmC);(case e=>simp [bs];with_reducible first|exact .t|exact .f)))
  refine A.mono (few_ans a ok.al hs) ?_
  rintro _ hh ⟨rfl, ehh⟩
  rw [ehh, ← hfa]
  clear ehh hh
  refine ⟨_, by simp; first | done | rfl, ?_⟩
  repeat (first|with_reducible refine vmR ?_|with_reducible refine vmV rfl ?_|with_reducible refine vmW rfl ?_|with_reducible refine blockW_y (by decide) ?_|with_reducible refine vmL ?_|((with_reducible first|apply vmO|apply vmT);(case a=>simp [bs];with_reducible first|exact .v|exact .c))|((with_reducible apply vmC);(case e=>simp [bs];with_reducible first|exact .t|exact .f)))
  refine A.mono (few_ans b ok.bl hs) ?_
  rintro _ hh ⟨rfl, ehh⟩
  rw [ehh, ← hfb]
  clear ehh hh
  refine ⟨_, by simp; first | done | rfl, ?_⟩
  by_cases k0 : kd = 0
  · subst k0
    repeat (first|with_reducible refine vmR ?_|with_reducible refine vmV rfl ?_|with_reducible refine vmW rfl ?_|with_reducible refine blockW_y (by decide) ?_|with_reducible refine vmL ?_|((with_reducible first|apply vmO|apply vmT);(case a=>simp [bs];with_reducible first|exact .v|exact .c))|((with_reducible apply vmC);(case e=>simp [bs];with_reducible first|exact .t|exact .f)))
    refine A.mono (createW fa (by omega) p m D ks.w hs ks.d) ?_
    rintro _ h1 ⟨rfl, d1, x1⟩
    have T1 := ks.dx d1 (wf_create ks.w fa) x1
    refine ⟨_, by simp; first | done | rfl, ?_⟩
    repeat (first|with_reducible refine vmR ?_|with_reducible refine vmV rfl ?_|with_reducible refine vmW rfl ?_|with_reducible refine blockW_y (by decide) ?_|with_reducible refine vmL ?_|((with_reducible first|apply vmO|apply vmT);(case a=>simp;with_reducible first|exact .v|exact .c))|((with_reducible apply vmC);(case e=>simp;with_reducible first|exact .t|exact .f)))
    obtain ⟨fs, Max, Left, Down, fv, rd, rw_⟩ := T1.rd
    refine A.mono (rcreate_ans fa (by omega) h1 r lo fs Max Left Down fv rd rw_) ?_
    rintro _ h2 ⟨⟨e, rfl⟩, r2, x2⟩
    have T2 := T1.rx r2 x2
    refine ⟨_, by simp; first | done | rfl, ?_⟩
    repeat (first|with_reducible refine vmR ?_|with_reducible refine vmV rfl ?_|with_reducible refine vmW rfl ?_|with_reducible refine blockW_y (by decide) ?_|with_reducible refine vmL ?_|((with_reducible first|apply vmO|apply vmT);(case a=>simp;with_reducible first|exact .v|exact .c))|((with_reducible apply vmC);(case e=>simp;with_reducible first|exact .t|exact .f)))
    (first | apply endW_r | apply endW_n); (case h1 => (simp [Try.results17]; first | done | rfl))
    exact ⟨⟨_, rfl⟩, ⟨_, by simp [DStep, hfa], T2⟩, ((es.x _ _).trans (DX.wx x1)).trans (RX.wx x2)⟩
  by_cases k1 : kd = 1
  · subst k1
    have cv := conv_b hs fb (by omega)
    repeat (first|with_reducible refine vmR ?_|with_reducible refine vmV rfl ?_|with_reducible refine vmW rfl ?_|with_reducible refine blockW_y (by decide) ?_|with_reducible refine vmL ?_|((with_reducible first|apply vmO|apply vmT);(case a=>simp [bs, cv];with_reducible first|exact .v|exact .c))|((with_reducible apply vmC);(case e=>simp [bs, cv];with_reducible first|exact .t|exact .f)))
    have y1 : HE hs { hs.drew with len := Mp.set hs.len hs.ng (fb.map byteAV).length, ng := hs.ng + 1 } := ((HE.refl hs).drew).newSl _
    simp only [List.length_map] at y1
    have ky := ks.he y1
    refine A.mono (appendW fa fb _ (by omega) p m D ky.w _ ky.d (BV.sv (.inr (.inl ⟨_, _, _, rfl⟩))) (fun q hq => by obtain ⟨_, _, _, _, _, e⟩ := hq; cases e) (by exact q2)) ?_
    rintro _ h1 ⟨rfl, d1, x1⟩
    have T1 := ky.dx d1 (wf_append ky.w fa fb) x1
    refine ⟨_, by simp; first | done | rfl, ?_⟩
    repeat (first|with_reducible refine vmR ?_|with_reducible refine vmV rfl ?_|with_reducible refine vmW rfl ?_|with_reducible refine blockW_y (by decide) ?_|with_reducible refine vmL ?_|((with_reducible first|apply vmO|apply vmT);(case a=>simp;with_reducible first|exact .v|exact .c))|((with_reducible apply vmC);(case e=>simp;with_reducible first|exact .t|exact .f)))
    obtain ⟨fs, Max, Left, Down, fv, rd, rw_⟩ := T1.rd
    refine A.mono (rappend_ans fa fb (by omega) h1 r lo fs Max Left Down fv rd rw_) ?_
    rintro _ h2 ⟨⟨e, rfl⟩, r2, x2⟩
    have T2 := T1.rx r2 x2
    refine ⟨_, by simp; first | done | rfl, ?_⟩
    repeat (first|with_reducible refine vmR ?_|with_reducible refine vmV rfl ?_|with_reducible refine vmW rfl ?_|with_reducible refine blockW_y (by decide) ?_|with_reducible refine vmL ?_|((with_reducible first|apply vmO|apply vmT);(case a=>simp;with_reducible first|exact .v|exact .c))|((with_reducible apply vmC);(case e=>simp;with_reducible first|exact .t|exact .f)))
    (first | apply endW_r | apply endW_n); (case h1 => (simp [Try.results17]; first | done | rfl))
    exact ⟨⟨_, rfl⟩, ⟨_, by simp [DStep, hfa, hfb], T2⟩, (((es.trans y1).x _ _).trans (DX.wx x1)).trans (RX.wx x2)⟩
  by_cases k2 : kd = 2
  · subst k2
    repeat (first|with_reducible refine vmR ?_|with_reducible refine vmV rfl ?_|with_reducible refine vmW rfl ?_|with_reducible refine blockW_y (by decide) ?_|with_reducible refine vmL ?_|((with_reducible first|apply vmO|apply vmT);(case a=>simp [bs];with_reducible first|exact .v|exact .c))|((with_reducible apply vmC);(case e=>simp [bs];with_reducible first|exact .t|exact .f)))
    refine A.mono (syncW fa p m D ks.w hs ks.d) ?_
    rintro _ h1 ⟨rfl, d1, x1⟩
    have T1 := ks.dx d1 (wf_sync ks.w fa) x1
    refine ⟨_, by simp; first | done | rfl, ?_⟩
    repeat (first|with_reducible refine vmR ?_|with_reducible refine vmV rfl ?_|with_reducible refine vmW rfl ?_|with_reducible refine blockW_y (by decide) ?_|with_reducible refine vmL ?_|((with_reducible first|apply vmO|apply vmT);(case a=>simp;with_reducible first|exact .v|exact .c))|((with_reducible apply vmC);(case e=>simp;with_reducible first|exact .t|exact .f)))
    obtain ⟨fs, Max, Left, Down, fv, rd, rw_⟩ := T1.rd
    refine A.mono (rends_ans fa false h1 r lo fs Max Left Down fv rd rw_) ?_
    rintro _ h2 ⟨⟨e, rfl⟩, r2, x2⟩
    have T2 := T1.rx r2 x2
    refine ⟨_, by simp; first | done | rfl, ?_⟩
    repeat (first|with_reducible refine vmR ?_|with_reducible refine vmV rfl ?_|with_reducible refine vmW rfl ?_|with_reducible refine blockW_y (by decide) ?_|with_reducible refine vmL ?_|((with_reducible first|apply vmO|apply vmT);(case a=>simp;with_reducible first|exact .v|exact .c))|((with_reducible apply vmC);(case e=>simp;with_reducible first|exact .t|exact .f)))
    (first | apply endW_r | apply endW_n); (case h1 => (simp [Try.results17]; first | done | rfl))
    exact ⟨⟨_, rfl⟩, ⟨_, by simp [DStep, hfa], T2⟩, ((es.x _ _).trans (DX.wx x1)).trans (RX.wx x2)⟩
  by_cases k3 : kd = 3
  · subst k3
    repeat (first|with_reducible refine vmR ?_|with_reducible refine vmV rfl ?_|with_reducible refine vmW rfl ?_|with_reducible refine blockW_y (by decide) ?_|with_reducible refine vmL ?_|((with_reducible first|apply vmO|apply vmT);(case a=>simp [bs];with_reducible first|exact .v|exact .c))|((with_reducible apply vmC);(case e=>simp [bs];with_reducible first|exact .t|exact .f)))
    refine A.mono (rename_ans fa fb (by omega) p m D hs ks.d ks.w.left) ?_
    rintro _ h1 ⟨rfl, d1, x1⟩
    have T1 := ks.dx (D' := (D.rename fa fb).2) d1 (wf_rename ks.w fa fb) x1
    refine ⟨_, by simp; first | done | rfl, ?_⟩
    repeat (first|with_reducible refine vmR ?_|with_reducible refine vmV rfl ?_|with_reducible refine vmW rfl ?_|with_reducible refine blockW_y (by decide) ?_|with_reducible refine vmL ?_|((with_reducible first|apply vmO|apply vmT);(case a=>simp;with_reducible first|exact .v|exact .c))|((with_reducible apply vmC);(case e=>simp;with_reducible first|exact .t|exact .f)))
    obtain ⟨fs, Max, Left, Down, fv, rd, rw_⟩ := T1.rd
    refine A.mono (rrename_ans fa fb (by omega) h1 r lo fs Max Left Down fv rd rw_) ?_
    rintro _ h2 ⟨⟨e, rfl⟩, r2, x2⟩
    have T2 := T1.rx r2 x2
    refine ⟨_, by simp; first | done | rfl, ?_⟩
    repeat (first|with_reducible refine vmR ?_|with_reducible refine vmV rfl ?_|with_reducible refine vmW rfl ?_|with_reducible refine blockW_y (by decide) ?_|with_reducible refine vmL ?_|((with_reducible first|apply vmO|apply vmT);(case a=>simp;with_reducible first|exact .v|exact .c))|((with_reducible apply vmC);(case e=>simp;with_reducible first|exact .t|exact .f)))
    (first | apply endW_r | apply endW_n); (case h1 => (simp [Try.results17]; first | done | rfl))
    exact ⟨⟨_, rfl⟩, ⟨_, by simp [DStep, hfa, hfb], T2⟩, ((es.x _ _).trans (DX.wx x1)).trans (RX.wx x2)⟩
  by_cases k4 : kd = 4
  · subst k4
    repeat (first|with_reducible refine vmR ?_|with_reducible refine vmV rfl ?_|with_reducible refine vmW rfl ?_|with_reducible refine blockW_y (by decide) ?_|with_reducible refine vmL ?_|((with_reducible first|apply vmO|apply vmT);(case a=>simp [bs];with_reducible first|exact .v|exact .c))|((with_reducible apply vmC);(case e=>simp [bs];with_reducible first|exact .t|exact .f)))
    refine A.mono (remove_ans fa p m D hs ks.d ks.w.left) ?_
    rintro _ h1 ⟨rfl, d1, x1⟩
    have T1 := ks.dx (D' := (D.remove fa).2) d1 (wf_remove ks.w fa) x1
    refine ⟨_, by simp; first | done | rfl, ?_⟩
    repeat (first|with_reducible refine vmR ?_|with_reducible refine vmV rfl ?_|with_reducible refine vmW rfl ?_|with_reducible refine blockW_y (by decide) ?_|with_reducible refine vmL ?_|((with_reducible first|apply vmO|apply vmT);(case a=>simp;with_reducible first|exact .v|exact .c))|((with_reducible apply vmC);(case e=>simp;with_reducible first|exact .t|exact .f)))
    obtain ⟨fs, Max, Left, Down, fv, rd, rw_⟩ := T1.rd
    refine A.mono (rends_ans fa true h1 r lo fs Max Left Down fv rd rw_) ?_
    rintro _ h2 ⟨⟨e, rfl⟩, r2, x2⟩
    have T2 := T1.rx r2 x2
    refine ⟨_, by simp; first | done | rfl, ?_⟩
    repeat (first|with_reducible refine vmR ?_|with_reducible refine vmV rfl ?_|with_reducible refine vmW rfl ?_|with_reducible refine blockW_y (by decide) ?_|with_reducible refine vmL ?_|((with_reducible first|apply vmO|apply vmT);(case a=>simp;with_reducible first|exact .v|exact .c))|((with_reducible apply vmC);(case e=>simp;with_reducible first|exact .t|exact .f)))
    (first | apply endW_r | apply endW_n); (case h1 => (simp [Try.results17]; first | done | rfl))
    exact ⟨⟨_, rfl⟩, ⟨_, by simp [DStep, hfa], T2⟩, ((es.x _ _).trans (DX.wx x1)).trans (RX.wx x2)⟩
  by_cases k5 : kd = 5
  · subst k5
    repeat (first|with_reducible refine vmR ?_|with_reducible refine vmV rfl ?_|with_reducible refine vmW rfl ?_|with_reducible refine blockW_y (by decide) ?_|with_reducible refine vmL ?_|((with_reducible first|apply vmO|apply vmT);(case a=>simp [bs];with_reducible first|exact .v|exact .c))|((with_reducible apply vmC);(case e=>simp [bs];with_reducible first|exact .t|exact .f)))
    refine A.mono (arm_ans n p m D hs ks.d) ?_
    rintro _ h1 ⟨d1, x1⟩
    have T1 := ks.dx (D' := D.arm n) d1 (wf_arm ks.w n ok.n.2) x1
    have b1 := (x1.obj h0.no ns (by omega)).trans bs
    refine ⟨_, by simp; first | done | rfl, ?_⟩
    obtain ⟨fs, Max, Left, Down, fv, rd, rw_⟩ := T1.rd
    have hr := rd.row
    have r1 : r ≠ h0.no := by omega
    have r2 : h0.no ≠ r := by omega
    have s1 := rd.set Max n Down rd.rs
    have s2 := s1.set Max (-1) Down s1.rs
    have xz : ∀ c, RX r lo h1 { h1 with obj := Mp.set h1.obj r c } := fun c => (HX.refl (fun o => o = r ∨ lo ≤ o) (fun _ => False) h1).set (fun _ => .inl rfl) _
    by_cases qn : n < 0
    · repeat (first|with_reducible refine vmR ?_|with_reducible refine vmV rfl ?_|with_reducible refine vmW rfl ?_|with_reducible refine blockW_y (by decide) ?_|with_reducible refine vmL ?_|((with_reducible first|apply vmO|apply vmT);(case a=>simp [b1, hr, r1, r2, qn];with_reducible first|exact .v|exact .c))|((with_reducible apply vmC);(case e=>simp [b1, hr, r1, r2, qn];with_reducible first|exact .t|exact .f)))
      (first | apply endW_r | apply endW_n); (case h1 => (simp [Try.results17]; first | done | rfl))
      have x2 : RX r lo h1 { h1 with obj := Mp.set (Mp.set h1.obj r (.row [fv, .int .i64 Max, .int .i64 n, .bool Down])) r (.row [fv, .int .i64 Max, .int .i64 (-1), .bool Down]) } := (xz _).set (fun _ => .inl rfl) _
      exact ⟨⟨_, rfl⟩, ⟨_, by simp [DStep], T1.rx ⟨fs, Max, -1, Down, fv, s2, rw_⟩ x2⟩, ((es.x _ _).trans (DX.wx x1)).trans (RX.wx x2)⟩
    · repeat (first|with_reducible refine vmR ?_|with_reducible refine vmV rfl ?_|with_reducible refine vmW rfl ?_|with_reducible refine blockW_y (by decide) ?_|with_reducible refine vmL ?_|((with_reducible first|apply vmO|apply vmT);(case a=>simp [b1, hr, r1, r2, qn];with_reducible first|exact .v|exact .c))|((with_reducible apply vmC);(case e=>simp [b1, hr, r1, r2, qn];with_reducible first|exact .t|exact .f)))
      (first | apply endW_r | apply endW_n); (case h1 => (simp [Try.results17]; first | done | rfl))
      exact ⟨⟨_, rfl⟩, ⟨_, by simp [DStep], T1.rx ⟨fs, Max, n, Down, fv, s1, rw_⟩ (xz _)⟩, ((es.x _ _).trans (DX.wx x1)).trans (RX.wx (xz _))⟩
  by_cases k6 : kd = 6
  · subst k6
    repeat (first|with_reducible refine vmR ?_|with_reducible refine vmV rfl ?_|with_reducible refine vmW rfl ?_|with_reducible refine blockW_y (by decide) ?_|with_reducible refine vmL ?_|((with_reducible first|apply vmO|apply vmT);(case a=>simp [bs];with_reducible first|exact .v|exact .c))|((with_reducible apply vmC);(case e=>simp [bs];with_reducible first|exact .t|exact .f)))
    refine A.mono (up_ans keep ok.kr ok.kl vk ok.ks p m D ks.w.ok (by have := ks.w.many; omega) hs ks.d) ?_
    rintro _ h1 ⟨u1, u2, x1⟩
    have b1 := (x1.obj h0.no ns (by omega)).trans bs
    have hd : ∃ D', DStep D ⟨6, n, m0, a, b, keep⟩ D' ∧ DKs h1 p m D' := by
      cases hd : D.down with
      | false => exact ⟨_, by simp [DStep, hd], u1 hd⟩
      | true =>
        obtain ⟨l, l1, _, l3⟩ := u2 hd
        exact ⟨_, by simp [DStep, hd]; exact ⟨l, l1, rfl⟩, l3⟩
    obtain ⟨D', s1, d1⟩ := hd
    have T1 := ks.dx d1 (wf_step ks.w ok.n s1) x1
    refine ⟨_, by simp; first | done | rfl, ?_⟩
    repeat (first|with_reducible refine vmR ?_|with_reducible refine vmV rfl ?_|with_reducible refine vmW rfl ?_|with_reducible refine blockW_y (by decide) ?_|with_reducible refine vmL ?_|((with_reducible first|apply vmO|apply vmT);(case a=>simp [b1];with_reducible first|exact .v|exact .c))|((with_reducible apply vmC);(case e=>simp [b1];with_reducible first|exact .t|exact .f)))
    obtain ⟨fs, Max, Left, Down, fv, rd, rw_⟩ := T1.rd
    refine A.mono (rup_ans keep ok.kr ok.kl vk ok.ks h1 r lo fs Max Left Down fv rd rw_) ?_
    rintro _ h2 ⟨r2, x2⟩
    refine ⟨_, by simp; first | done | rfl, ?_⟩
    repeat (first|with_reducible refine vmR ?_|with_reducible refine vmV rfl ?_|with_reducible refine vmW rfl ?_|with_reducible refine blockW_y (by decide) ?_|with_reducible refine vmL ?_|((with_reducible first|apply vmO|apply vmT);(case a=>simp;with_reducible first|exact .v|exact .c))|((with_reducible apply vmC);(case e=>simp;with_reducible first|exact .t|exact .f)))
    (first | apply endW_r | apply endW_n); (case h1 => (simp [Try.results17]; first | done | rfl))
    exact ⟨⟨_, rfl⟩, ⟨D', s1, T1.rx r2 x2⟩, ((es.x _ _).trans (DX.wx x1)).trans (RX.wx x2)⟩
  by_cases k7 : kd = 7
  · subst k7
    repeat (first|with_reducible refine vmR ?_|with_reducible refine vmV rfl ?_|with_reducible refine vmW rfl ?_|with_reducible refine blockW_y (by decide) ?_|with_reducible refine vmL ?_|((with_reducible first|apply vmO|apply vmT);(case a=>simp [bs];with_reducible first|exact .v|exact .c))|((with_reducible apply vmC);(case e=>simp [bs];with_reducible first|exact .t|exact .f)))
    refine A.mono (quota_ans n p m D hs ks.d) ?_
    rintro _ h1 ⟨rfl, d1, x1⟩
    have T1 := ks.dx (D' := D.setQuota n) d1 (wf_quota ks.w n) x1
    have b1 := (x1.obj h0.no ns (by omega)).trans bs
    refine ⟨_, by simp; first | done | rfl, ?_⟩
    obtain ⟨fs, Max, Left, Down, fv, rd, rw_⟩ := T1.rd
    have hr := rd.row
    have r1 : r ≠ h0.no := by omega
    have r2 : h0.no ≠ r := by omega
    have sd : DStep D ⟨7, n, m0, a, b, keep⟩ (D.setQuota n) := by simp [DStep]
    have xx : WX p m r lo h0 h1 := (es.x _ _).trans (DX.wx x1)
    cases Down with
    | true =>
      repeat (first|with_reducible refine vmR ?_|with_reducible refine vmV rfl ?_|with_reducible refine vmW rfl ?_|with_reducible refine blockW_y (by decide) ?_|with_reducible refine vmL ?_|((with_reducible first|apply vmO|apply vmT);(case a=>simp [b1, hr, r1, r2];with_reducible first|exact .v|exact .c))|((with_reducible apply vmC);(case e=>simp [b1, hr, r1, r2];with_reducible first|exact .t|exact .f)))
      (first | apply endW_r | apply endW_n); (case h1 => (simp [Try.results17]; first | done | rfl))
      exact ⟨⟨_, rfl⟩, ⟨_, sd, T1⟩, xx⟩
    | false =>
      by_cases qn : n < 0
      · repeat (first|with_reducible refine vmR ?_|with_reducible refine vmV rfl ?_|with_reducible refine vmW rfl ?_|with_reducible refine blockW_y (by decide) ?_|with_reducible refine vmL ?_|((with_reducible first|apply vmO|apply vmT);(case a=>simp [b1, hr, r1, r2, qn];with_reducible first|exact .v|exact .c))|((with_reducible apply vmC);(case e=>simp [b1, hr, r1, r2, qn];with_reducible first|exact .t|exact .f)))
        (first | apply endW_r | apply endW_n); (case h1 => (simp [Try.results17]; first | done | rfl))
        exact ⟨⟨_, rfl⟩, ⟨_, sd, T1⟩, xx⟩
      · by_cases qm : 16777216 < n
        · repeat (first|with_reducible refine vmR ?_|with_reducible refine vmV rfl ?_|with_reducible refine vmW rfl ?_|with_reducible refine blockW_y (by decide) ?_|with_reducible refine vmL ?_|((with_reducible first|apply vmO|apply vmT);(case a=>simp [b1, hr, r1, r2, qn, qm];with_reducible first|exact .v|exact .c))|((with_reducible apply vmC);(case e=>simp [b1, hr, r1, r2, qn, qm];with_reducible first|exact .t|exact .f)))
          (first | apply endW_r | apply endW_n); (case h1 => (simp [Try.results17]; first | done | rfl))
          exact ⟨⟨_, rfl⟩, ⟨_, sd, T1⟩, xx⟩
        · repeat (first|with_reducible refine vmR ?_|with_reducible refine vmV rfl ?_|with_reducible refine vmW rfl ?_|with_reducible refine blockW_y (by decide) ?_|with_reducible refine vmL ?_|((with_reducible first|apply vmO|apply vmT);(case a=>simp [b1, hr, r1, r2, qn, qm];with_reducible first|exact .v|exact .c))|((with_reducible apply vmC);(case e=>simp [b1, hr, r1, r2, qn, qm];with_reducible first|exact .t|exact .f)))
          (first | apply endW_r | apply endW_n); (case h1 => (simp [Try.results17]; first | done | rfl))
          have s1 := rd.set n Left false rd.rs
          have xz : RX r lo h1 { h1 with obj := Mp.set h1.obj r (.row [fv, .int .i64 n, .int .i64 Left, .bool false]) } := (HX.refl (fun o => o = r ∨ lo ≤ o) (fun _ => False) h1).set (fun _ => .inl rfl) _
          exact ⟨⟨_, rfl⟩, ⟨_, sd, T1.rx ⟨fs, n, Left, false, fv, s1, ⟨rw_.many, rw_.ok, by omega⟩⟩ xz⟩, xx.trans (RX.wx xz)⟩
  have sd : DStep D ⟨kd, n, m0, a, b, keep⟩ D := by simp [DStep, k0, k1, k2, k3, k4, k5, k6, k7]
  by_cases k8 : kd = 8
  · subst k8
    repeat (first|with_reducible refine vmR ?_|with_reducible refine vmV rfl ?_|with_reducible refine vmW rfl ?_|with_reducible refine blockW_y (by decide) ?_|with_reducible refine vmL ?_|((with_reducible first|apply vmO|apply vmT);(case a=>simp [bs];with_reducible first|exact .v|exact .c))|((with_reducible apply vmC);(case e=>simp [bs];with_reducible first|exact .t|exact .f)))
    refine A.mono (readW fa n m0 p m D ks.w hs ks.d) ?_
    rintro _ h1 ⟨bv, rfl, b1, e1⟩
    simp only [NB, q1, Bool.false_eq_true, if_false] at b1
    have bc := b1.cells
    have bi := b1.isCell
    have cv := fun h => conv_txt h b1
    have T1 := ks.he e1
    have bs1 := (e1.obj h0.no ns).trans bs
    refine ⟨_, by simp; first | done | rfl, ?_⟩
    repeat (first|with_reducible refine vmR ?_|with_reducible refine vmV rfl ?_|with_reducible refine vmW rfl ?_|with_reducible refine blockW_y (by decide) ?_|with_reducible refine vmL ?_|((with_reducible first|apply vmO|apply vmT);(case a=>simp [bs1, bc, bi];with_reducible first|exact .v|exact .c))|((with_reducible apply vmC);(case e=>simp [bs1, bc, bi];with_reducible first|exact .t|exact .f)))
    obtain ⟨fs, Max, Left, Down, fv, rd, rw_⟩ := T1.rd
    refine A.mono (rread_ans fa n m0 ok.n ok.m h1 r lo fs Max Left Down fv rd rw_) ?_
    rintro _ hh ⟨⟨s2, e2, rfl⟩, ehh⟩
    rw [ehh]
    clear ehh hh
    refine ⟨_, by simp; first | done | rfl, ?_⟩
    cases qe : eqB (readR fa n m0 D).1 s2 with
    | true =>
      repeat (first|with_reducible refine vmR ?_|with_reducible refine vmV rfl ?_|with_reducible refine vmW rfl ?_|with_reducible refine blockW_y (by decide) ?_|with_reducible refine vmL ?_|((with_reducible first|apply vmO|apply vmT);(case a=>simp [cv, qe];with_reducible first|exact .v|exact .c))|((with_reducible apply vmC);(case e=>simp [cv, qe];with_reducible first|exact .t|exact .f)))
      (first | apply endW_r | apply endW_n); (case h1 => (simp [Try.results17]; first | done | rfl))
      exact ⟨⟨_, rfl⟩, ⟨D, sd, T1⟩, (es.trans e1).x _ _⟩
    | false =>
      repeat (first|with_reducible refine vmR ?_|with_reducible refine vmV rfl ?_|with_reducible refine vmW rfl ?_|with_reducible refine blockW_y (by decide) ?_|with_reducible refine vmL ?_|((with_reducible first|apply vmO|apply vmT);(case a=>simp [cv, qe];with_reducible first|exact .v|exact .c))|((with_reducible apply vmC);(case e=>simp [cv, qe];with_reducible first|exact .t|exact .f)))
      (first | apply endW_r | apply endW_n); (case h1 => (simp [Try.results17]; first | done | rfl))
      exact ⟨⟨_, rfl⟩, ⟨D, sd, T1⟩, (es.trans e1).x _ _⟩
  repeat (first|with_reducible refine vmR ?_|with_reducible refine vmV rfl ?_|with_reducible refine vmW rfl ?_|with_reducible refine blockW_y (by decide) ?_|with_reducible refine vmL ?_|((with_reducible first|apply vmO|apply vmT);(case a=>simp [bs, k0, k1, k2, k3, k4, k5, k6, k7, k8];with_reducible first|exact .v|exact .c))|((with_reducible apply vmC);(case e=>simp [bs, k0, k1, k2, k3, k4, k5, k6, k7, k8];with_reducible first|exact .t|exact .f)))
  (first | apply endW_r | apply endW_n); (case h1 => (simp [Try.results17]; first | done | rfl))
  exact ⟨⟨_, rfl⟩, ⟨D, sd, ks⟩, es.x _ _⟩
end Go.Vn

set_option maxRecDepth 20000
namespace Go.Vn
open Go.Proofs

def UF (q : Int) (D : Dk) : Prop := D.quota = q ∧ (used D.fs : Int) ≤ q
theorem uf_deed {q : Int} {D : Dk} (h : UF q D) (e : Int) (does torn : Dk → Dk) (h1 : e = 0 → ∀ E : Dk, E.fs = D.fs → UF q E → UF q (does E)) (h2 : e = 0 → ∀ E : Dk, E.fs = D.fs → UF q E → UF q (torn E)) : UF q (D.deed e does torn).2 := by
  unfold Dk.deed
  split
  · exact h
  · split
    · exact h
    · rename_i z; have z : e = 0 := by omega
      split
      · exact h2 z D.cut rfl h
      · exact h1 z D.tick rfl h
theorem uf_put {q : Int} {D : Dk} (h : UF q D) (k : Tx) (a : FV) (hu : (used D.fs : Int) + a.1.length ≤ q + lenF (lookF k D.fs)) : UF q (D.put k a) := by
  refine ⟨h.1, ?_⟩
  have := used_setF k a D.clk D.fs
  show ((used (setF k a D.clk D.fs) : Nat) : Int) ≤ q
  omega
theorem uf_up {q : Int} {keep : List Int} : ∀ (l : List Tx) {s : Dk × Nat}, UF q s.1 → UF q (l.foldl (upStep keep) s).1
  | [], _, h => h
  | k :: l, s, h => by
    refine uf_up l ?_
    unfold upStep
    split
    · exact h
    · rename_i a ha
      split
      · refine uf_put h k _ ?_
        have h2 := h.2
        rw [ha]; simp only [lenF, List.length_take]; omega
      · exact h
theorem uf_step {q : Int} {D D' : Dk} {x : Deed} (h : UF q D) (h7 : x.kd ≠ 7) (s : DStep D x D') : UF q D' := by
  unfold DStep at s
  split at s
  · rw [s]
    refine uf_deed h _ _ _ (fun _ E e1 e2 => uf_put e2 _ _ ?_) (fun _ E _ e => e)
    have := e2.2; simp; omega
  split at s
  · rw [s]
    have key : appE (x.a.take 30) (x.b.take 30) D = 0 → ∀ E : Dk, E.fs = D.fs → UF q E → UF q (Dk.app (x.b.take 30) (x.a.take 30) E) := fun z E e1 e2 => by
      unfold Dk.app
      cases ha : lookF (x.a.take 30) E.fs with
      | none => exact e2
      | some a =>
        obtain ⟨_, z2⟩ := appE_ok z
        refine uf_put e2 _ _ ?_
        rw [ha, e1]
        have := h.1
        simp only [lenF, List.length_append]; omega
    exact uf_deed h _ _ _ key key
  split at s
  · rw [s]
    refine uf_deed h _ _ _ (fun _ E e1 e2 => ?_) (fun _ E _ e => e)
    unfold Dk.syn
    cases ha : lookF (x.a.take 30) E.fs with
    | none => exact e2
    | some a =>
      refine uf_put e2 _ _ ?_
      have := e2.2
      rw [ha]; simp only [lenF]; omega
  split at s
  · rw [s]
    refine uf_deed h _ _ _ (fun _ E e1 e2 => ?_) (fun _ E _ e => e)
    unfold Dk.ren
    cases ha : lookF (x.a.take 30) E.fs with
    | none => exact e2
    | some a =>
      have h2 := used_delF (x.a.take 30) E.fs
      rw [ha] at h2
      simp only [lenF] at h2
      have h3 := e2.2
      have d : UF q (E.del (x.a.take 30)) := ⟨e2.1, by show ((used (delF _ E.fs) : Nat) : Int) ≤ q; omega⟩
      refine uf_put d _ _ ?_
      show ((used (delF _ E.fs) : Nat) : Int) + _ ≤ _; omega
  split at s
  · rw [s]
    refine uf_deed h _ _ _ (fun _ E e1 e2 => ?_) (fun _ E _ e => e)
    have h2 := used_delF (x.a.take 30) E.fs
    have h3 := e2.2
    exact ⟨e2.1, by show ((used (delF _ E.fs) : Nat) : Int) ≤ q; omega⟩
  split at s
  · rw [s]; exact h
  split at s
  · rcases s with ⟨_, s⟩ | ⟨_, l, _, s⟩
    · rw [s]; exact h
    · rw [s]; exact uf_up l h
  · first
    | (rw [s]; exact h)
    | (rw [if_neg h7] at s; rw [s]; exact h)

set_option maxHeartbeats 2000000 in
theorem diskfull_law (quota : Int) (hq : -9223372036854775808 ≤ quota ∧ quota ≤ 9223372036854775807) (l : List (Deed × AV)) (lv : AV) (hl : SV 6 (l.map fun q => encDeed q.1 q.2) lv) (hll : l.length ≤ 9223372036854775807) (hok : ∀ q ∈ l, DeedOk q.1 q.2) (h0 : Hp Fm) (hg : 0 < h0.ng) (hp : ∀ t, h0.pol t = false) :
    A Try.prog TT (.func 6) [.int .i64 quota, lv] h0 (fun r h' => r = .bool true ∧ True) := by
  obtain ⟨hb, hhb⟩ : ∃ hb : Hp Fm, hb = { h0 with pol := (· == 77) } := ⟨_, rfl⟩
  have gb : 0 < hb.ng := by rw [hhb]; exact hg
  have pb : hb.pol 77 = true := by rw [hhb]; rfl
  have pb1 : hb.pol 5 = false := by rw [hhb]; rfl
  have pb2 : hb.pol 22 = false := by rw [hhb]; rfl
  have lc := hl.cells
  have li := hl.isCell
  have lln := hl.len Try.underlying37
  rw [List.length_map] at lln
  have lnm := hl.nm
  apply A_goT Try.func6 rfl (by rfl); (case hn => (simp [Try.ntmps6]; rfl))
  repeat (first|with_reducible refine vmR ?_|with_reducible refine vmV rfl ?_|with_reducible refine vmW rfl ?_|with_reducible refine blockW_y (by decide) ?_|with_reducible refine vmL ?_|((with_reducible first|apply vmO|apply vmT);(case a=>simp;with_reducible first|exact .v|exact .c))|((with_reducible apply vmC);(case e=>simp;with_reducible first|exact .t|exact .f)))
  rw [← hhb]
  obtain ⟨q1, hq1⟩ : ∃ q1 : Nat, q1 = (if quota < 0 then (-(quota + 1)).toNat else quota.toNat) := ⟨_, rfl⟩
  refine W.mono (R := fun e s => e = .normal ∧ ∃ (t : Fm AV), s = ⟨t, 54, hb, none⟩ ∧ tget t 0 = .int .i64 q1 ∧ tget t 1 = lv) ?_ ?_
  · by_cases q : quota < 0
    · have u1 : IntKind.i64.wrap (quota + 1) = quota + 1 := wrap64 (by omega) (by omega)
      have u2 : IntKind.i64.wrap (0 - (quota + 1)) = (q1 : Int) := by rw [wrap64 (by omega) (by omega), hq1, if_pos q]; omega
      have u2' : IntKind.i64.wrap (-(quota + 1)) = (q1 : Int) := by rw [← u2]; congr 1; omega
      have u2'' : IntKind.i64.wrap (-1 + -quota) = (q1 : Int) := by rw [← u2]; congr 1; omega
      repeat (first|with_reducible refine vmR ?_|with_reducible refine vmV rfl ?_|with_reducible refine vmW rfl ?_|with_reducible refine blockW_y (by decide) ?_|with_reducible refine vmL ?_|((with_reducible first|apply vmO|apply vmT);(case a=>simp [q, u1, u2, u2', u2''];with_reducible first|exact .v|exact .c))|((with_reducible apply vmC);(case e=>simp [q, u1, u2, u2', u2''];with_reducible first|exact .t|exact .f)))
      exact ⟨rfl, _, rfl, by simp, by simp⟩
    · have u2 : quota = (q1 : Int) := by rw [hq1, if_neg q]; omega
      repeat (first|with_reducible refine vmR ?_|with_reducible refine vmV rfl ?_|with_reducible refine vmW rfl ?_|with_reducible refine blockW_y (by decide) ?_|with_reducible refine vmL ?_|((with_reducible first|apply vmO|apply vmT);(case a=>simp [q];with_reducible first|exact .v|exact .c))|((with_reducible apply vmC);(case e=>simp [q];with_reducible first|exact .t|exact .f)))
      exact ⟨rfl, _, rfl, by simp [← u2], by simp⟩
  rintro e s ⟨rfl, t, rfl, t0, t1⟩
  obtain ⟨q2, hq2⟩ : ∃ q2, q2 = q1 % 101 := ⟨_, rfl⟩
  have hmod : Int.tmod (q1 : Int) 101 = (q2 : Int) := by rw [Int.tmod_eq_emod_of_nonneg (by omega), hq2]; simp
  have q2l : q2 ≤ 100 := by omega
  repeat (first|with_reducible refine vmR ?_|with_reducible refine vmV rfl ?_|with_reducible refine vmW rfl ?_|with_reducible refine blockW_y (by decide) ?_|with_reducible refine vmL ?_|((with_reducible first|apply vmO|apply vmT);(case a=>simp [t0, t1, hmod];with_reducible first|exact .v|exact .c))|((with_reducible apply vmC);(case e=>simp [t0, t1, hmod];with_reducible first|exact .t|exact .f)))
  refine A.mono (new_ans q2 hb (by omega)) ?_
  rintro _ h1 ⟨p, m, rfl, d1, e1, pn, mn⟩
  have w1 := wf_new q2 (by omega)
  refine ⟨_, by simp; first | done | rfl, ?_⟩
  repeat (first|with_reducible refine vmR ?_|with_reducible refine vmV rfl ?_|with_reducible refine vmW rfl ?_|with_reducible refine blockW_y (by decide) ?_|with_reducible refine vmL ?_|((with_reducible first|apply vmO|apply vmT);(case a=>simp;with_reducible first|exact .v|exact .c))|((with_reducible apply vmC);(case e=>simp;with_reducible first|exact .t|exact .f)))
  refine A.mono (rnew_ans q2 (by omega) h1 (by rw [e1.pol]; exact pb)) ?_
  rintro _ h2 ⟨rfl, r2, e2, n2⟩
  have pp := d1.pn
  have mm := d1.mn
  have T2 : Two h2 p m h1.no (h1.no + 1) ⟨[], 0, q2, -1, false⟩ := ⟨d1.he e2, w1, r2 _ rfl, by omega, by omega, by omega, by omega, by omega, by omega⟩
  obtain ⟨r, hr⟩ : ∃ r, r = h1.no := ⟨_, rfl⟩
  obtain ⟨lo, hlo⟩ : ∃ lo, lo = h1.no + 1 := ⟨_, rfl⟩
  rw [← hlo, ← hr] at T2
  rw [← hr]
  have u2 : UF q2 ⟨[], 0, q2, -1, false⟩ := ⟨rfl, by simp [used]⟩
  have P2 : h2.pol = hb.pol ∧ 0 < h2.ng := ⟨by rw [e2.pol, e1.pol], by have := e1.ng; have := e2.ng; omega⟩
  refine ⟨_, by simp; first | done | rfl, ?_⟩
  repeat (first|with_reducible refine vmR ?_|with_reducible refine vmV rfl ?_|with_reducible refine vmW rfl ?_|with_reducible refine blockW_y (by decide) ?_|with_reducible refine vmL ?_|((with_reducible first|apply vmO|apply vmT);(case a=>simp [eqlAV];with_reducible first|exact .v|exact .c))|((with_reducible apply vmC);(case e=>simp [eqlAV];with_reducible first|exact .t|exact .f)))
  refine W_loop (fun mm s => ∃ (t : Fm AV) (h : Hp Fm) (i : Nat) (D : Dk), s = ⟨t, 54, h, none⟩ ∧ mm = 31 - i ∧ i ≤ 30 ∧ tget t 0 = .int .i64 q2 ∧ tget t 1 = lv ∧ tget t 5 = .ptr p 0 ∧ tget t 6 = .ptr r 0 ∧ tget t 7 = .int .i64 i ∧ Two h p m r lo D ∧ UF q2 D ∧ (h.pol = hb.pol ∧ 0 < h.ng)) 31
    ⟨_, _, 0, _, rfl, rfl, by omega, by simp, by simp [t1], by simp, by simp, by simp, T2, u2, P2⟩ ?_
  clear t0 t1 T2 u2 P2 hmod
  rintro _ _ ⟨t, h, i, D, rfl, rfl, hi, t0, t1, t5, t6, t7, T, U, P1, P2⟩
  by_cases qa : i < l.length
  case neg =>
    have qa' : ¬ (i : Int) < l.length := by omega
    repeat (first|with_reducible refine vmR ?_|with_reducible refine vmV rfl ?_|with_reducible refine vmW rfl ?_|with_reducible refine blockW_y (by decide) ?_|with_reducible refine vmL ?_|((with_reducible first|apply vmO|apply vmT);(case a=>simp [t0, t1, t5, t6, t7, lln, lnm, lc, li, qa, qa'];with_reducible first|exact .v|exact .c))|((with_reducible apply vmC);(case e=>simp [t0, t1, t5, t6, t7, lln, lnm, lc, li, qa, qa'];with_reducible first|exact .t|exact .f)))
    refine A.mono (lives_ans h P2) ?_
    rintro _ h3 ⟨rfl, _⟩
    refine ⟨_, by simp; first | done | rfl, ?_⟩
    repeat (first|with_reducible refine vmR ?_|with_reducible refine vmV rfl ?_|with_reducible refine vmW rfl ?_|with_reducible refine blockW_y (by decide) ?_|with_reducible refine vmL ?_|((with_reducible first|apply vmO|apply vmT);(case a=>simp;with_reducible first|exact .v|exact .c))|((with_reducible apply vmC);(case e=>simp;with_reducible first|exact .t|exact .f)))
    (first | apply endW_r | apply endW_n); (case h1 => (simp [Try.results6]; first | done | rfl))
    exact ⟨rfl, trivial⟩
  have qa' : (i : Int) < l.length := by omega
  by_cases qb : i < 30
  case neg =>
    have qb' : ¬ (i : Int) < 30 := by omega
    repeat (first|with_reducible refine vmR ?_|with_reducible refine vmV rfl ?_|with_reducible refine vmW rfl ?_|with_reducible refine blockW_y (by decide) ?_|with_reducible refine vmL ?_|((with_reducible first|apply vmO|apply vmT);(case a=>simp [t0, t1, t5, t6, t7, lln, lnm, lc, li, qa, qa', qb, qb'];with_reducible first|exact .v|exact .c))|((with_reducible apply vmC);(case e=>simp [t0, t1, t5, t6, t7, lln, lnm, lc, li, qa, qa', qb, qb'];with_reducible first|exact .t|exact .f)))
    refine A.mono (lives_ans h P2) ?_
    rintro _ h3 ⟨rfl, _⟩
    refine ⟨_, by simp; first | done | rfl, ?_⟩
    repeat (first|with_reducible refine vmR ?_|with_reducible refine vmV rfl ?_|with_reducible refine vmW rfl ?_|with_reducible refine blockW_y (by decide) ?_|with_reducible refine vmL ?_|((with_reducible first|apply vmO|apply vmT);(case a=>simp;with_reducible first|exact .v|exact .c))|((with_reducible apply vmC);(case e=>simp;with_reducible first|exact .t|exact .f)))
    (first | apply endW_r | apply endW_n); (case h1 => (simp [Try.results6]; first | done | rfl))
    exact ⟨rfl, trivial⟩
  have qb' : (i : Int) < 30 := by omega
  obtain ⟨ip, hip⟩ : ∃ ip, ip = i + 1 := ⟨_, rfl⟩
  have wi : IntKind.i64.wrap ((i : Int) + 1) = (ip : Int) := by rw [wrap64 (by omega) (by omega)]; omega
  obtain ⟨x, hx⟩ : ∃ x, x = l[i] := ⟨_, rfl⟩
  have xok := hok x (by rw [hx]; exact List.getElem_mem qa)
  have ix := hl.idx (k := .i64) (i := (i : Int)) Try.underlying37 z42 (by omega) (by simpa using qa)
  simp only [List.getElem_map, Int.toNat_natCast, ← hx] at ix
  obtain ⟨⟨kd, n, m0, a, b, keep⟩, vk⟩ := x
  have kc := xok.ks.cells
  have ki := xok.ks.isCell
  simp only [encDeed] at ix
  by_cases q7 : kd = 7
  · subst q7
    repeat (first|with_reducible refine vmR ?_|with_reducible refine vmV rfl ?_|with_reducible refine vmW rfl ?_|with_reducible refine blockW_y (by decide) ?_|with_reducible refine vmL ?_|((with_reducible first|apply vmO|apply vmT);(case a=>simp [t0, t1, t5, t6, t7, lln, lnm, lc, li, qa, qa', qb, qb', ix, wi];with_reducible first|exact .v|exact .c))|((with_reducible apply vmC);(case e=>simp [t0, t1, t5, t6, t7, lln, lnm, lc, li, qa, qa', qb, qb', ix, wi];with_reducible first|exact .t|exact .f)))
    exact ⟨31 - ip, by omega, _, _, ip, D, rfl, rfl, by omega, by simp [t0], by simp [t1], by simp [t5], by simp [t6], by simp, T, U, P1, P2⟩
  repeat (first|with_reducible refine vmR ?_|with_reducible refine vmV rfl ?_|with_reducible refine vmW rfl ?_|with_reducible refine blockW_y (by decide) ?_|with_reducible refine vmL ?_|((with_reducible first|apply vmO|apply vmT);(case a=>simp [t0, t1, t5, t6, t7, lln, lnm, lc, li, qa, qa', qb, qb', ix, q7, kc, ki];with_reducible first|exact .v|exact .c))|((with_reducible apply vmC);(case e=>simp [t0, t1, t5, t6, t7, lln, lnm, lc, li, qa, qa', qb, qb', ix, q7, kc, ki];with_reducible first|exact .t|exact .f)))
  refine A.mono (does_ans ⟨kd, n, m0, a, b, keep⟩ vk xok p m r lo D h T (by rw [P1]; exact pb1) (by rw [P1]; exact pb2)) ?_
  rintro _ h3 ⟨⟨z, rfl⟩, ⟨D3, s3, T3⟩, x3⟩
  have U3 := uf_step U q7 s3
  have P3 : h3.pol = hb.pol := by rw [x3.pol]; exact P1
  have g3 := x3.ng
  refine ⟨_, by simp; first | done | rfl, ?_⟩
  repeat (first|with_reducible refine vmR ?_|with_reducible refine vmV rfl ?_|with_reducible refine vmW rfl ?_|with_reducible refine blockW_y (by decide) ?_|with_reducible refine vmL ?_|((with_reducible first|apply vmO|apply vmT);(case a=>simp [t0, t5];with_reducible first|exact .v|exact .c))|((with_reducible apply vmC);(case e=>simp [t0, t5];with_reducible first|exact .t|exact .f)))
  refine A.mono (used_ans p m D3 h3 T3.d (by have := T3.w.used; omega)) ?_
  rintro _ h4 ⟨rfl, e4⟩
  have T4 := T3.he e4
  have nu : ¬ ((q2 : Int) < (used D3.fs : Nat)) := by have := U3.2; omega
  have nu' : ¬ (q2 < used D3.fs) := by have := U3.2; omega
  refine ⟨_, by simp; first | done | rfl, ?_⟩
  repeat (first|with_reducible refine vmR ?_|with_reducible refine vmV rfl ?_|with_reducible refine vmW rfl ?_|with_reducible refine blockW_y (by decide) ?_|with_reducible refine vmL ?_|((with_reducible first|apply vmO|apply vmT);(case a=>simp [t0, t5, nu, nu'];with_reducible first|exact .v|exact .c))|((with_reducible apply vmC);(case e=>simp [t0, t5, nu, nu'];with_reducible first|exact .t|exact .f)))
  refine A.mono (used_ans p m D3 h4 T4.d (by have := T3.w.used; omega)) ?_
  rintro _ h5 ⟨rfl, e5⟩
  have T5 := T4.he e5
  have nz : ¬ (((used D3.fs : Nat) : Int) < 0) := by omega
  refine ⟨_, by simp; first | done | rfl, ?_⟩
  repeat (first|with_reducible refine vmR ?_|with_reducible refine vmV rfl ?_|with_reducible refine vmW rfl ?_|with_reducible refine blockW_y (by decide) ?_|with_reducible refine vmL ?_|((with_reducible first|apply vmO|apply vmT);(case a=>simp [t0, t5, t7, nz, wi];with_reducible first|exact .v|exact .c))|((with_reducible apply vmC);(case e=>simp [t0, t5, t7, nz, wi];with_reducible first|exact .t|exact .f)))
  exact ⟨31 - ip, by omega, _, _, ip, D3, rfl, rfl, by omega, by simp [t0], by simp [t1], by simp [t5], by simp [t6], by simp, T5, U3, by rw [e5.pol, e4.pol]; exact P3, by have := e4.ng; have := e5.ng; omega⟩
end Go.Vn
