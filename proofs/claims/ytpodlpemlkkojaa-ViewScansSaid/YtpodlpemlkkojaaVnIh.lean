/- What functions of the program come to, in the value machine (a part of the proof of the claim's statement). No condition. -/
import Derived.Test.YtpodlpemlkkojaaVnI3
set_option linter.unusedSimpArgs false
set_option linter.unusedVariables false
set_option maxRecDepth 20000
namespace Go.Vn
open Go.Proofs

theorem view_scans_law (l : List Ver) (a : AV) (hv : SV 8 (l.map encV) a) (path : List Lg) (b : AV) (hp : SV 2 (path.map encL) b) (tm : Int) (h0 : Hp Fm) (hpol : h0.pol = fun _ => false) :
    A Try.prog TT (.func 6) [a, b, .int .i64 tm] h0 (fun r h' => r = .bool true ∧ HE h0 h') := by
  have pf : ∀ h, HE h0 h → ∀ e, h.pol e = false := fun h he e => by rw [he.pol, hpol]
  have ac := hv.cells
  have ad := hv.isCell
  have bc := hp.cells
  have bd := hp.isCell
  apply A_go Try.func6 rfl (by rfl); (case hn => (simp [Try.ntmps6]; rfl))
  repeat(first|with_reducible first|refine vmR ?_|refine vmV rfl ?_|refine vmW rfl ?_|refine vmL ?_|refine blockW_y (by decide) ?_|((with_reducible first|apply vmO|apply vmT|apply vmC);case a=>simp [ac, ad, bc, bd];with_reducible first|exact .v|exact .c|exact .t|exact .f))
  refine A.mono (lcut_ans l a hv path b hp _ (pf _ (HE.refl _))) ?_
  rintro _ h1 ⟨xs, v, ps, vp, rfl, hxs, hxl, hvp, hpl, e1⟩
  have vc := hxs.sv.cells
  have vd := hxs.sv.isCell
  have pc := hvp.cells
  have pd := hvp.isCell
  refine ⟨_, by simp; first | done | rfl, ?_⟩
  repeat(first|with_reducible first|refine vmR ?_|refine vmV rfl ?_|refine vmW rfl ?_|refine vmL ?_|refine blockW_y (by decide) ?_|((with_reducible first|apply vmO|apply vmT|apply vmC);case a=>simp [vc, vd, pc, pd];with_reducible first|exact .v|exact .c|exact .t|exact .f))
  refine A.mono (scan_ans ps vp hvp (by omega) xs v hxs.sv hxl tm h1 (pf _ e1)) ?_
  rintro u h2 ⟨ks, hu, s1, m1, n1, e2⟩
  have hx2 := e1.trans e2
  have uc := hu.cells
  have ud := hu.isCell
  refine ⟨_, by simp; first | done | rfl, ?_⟩
  repeat(first|with_reducible first|refine vmR ?_|refine vmV rfl ?_|refine vmW rfl ?_|refine vmL ?_|refine blockW_y (by decide) ?_|((with_reducible first|apply vmO|apply vmT|apply vmC);case a=>simp [vc, vd, pc, pd, uc, ud];with_reducible first|exact .v|exact .c|exact .t|exact .f))
  refine A.mono (scan14_ans ps vp hvp (by omega) xs v hxs.sv (by omega) tm h2 (pf _ hx2)) ?_
  rintro w h3 ⟨ls, hw, s2, m2, n2, e3⟩
  have hx3 := hx2.trans e3
  have ekl : ls = ks := str_ext s2 s1 (fun k => (m2 k).trans (m1 k).symm)
  rw [ekl] at hw
  have wc := hw.cells
  have wd := hw.isCell
  have hsl := scanP_len ps xs tm ks
  obtain ⟨rs, hrs⟩ : ∃ rs, rs = scanP ps xs tm ks := ⟨_, rfl⟩
  rw [← hrs] at hu hw hsl
  refine ⟨_, by simp; first | done | rfl, ?_⟩
  repeat(first|with_reducible first|refine vmR ?_|refine vmV rfl ?_|refine vmW rfl ?_|refine vmL ?_|refine blockW_y (by decide) ?_|((with_reducible first|apply vmO|apply vmT|apply vmC);case a=>simp [uc, ud, wc, wd];with_reducible first|exact .v|exact .c|exact .t|exact .f))
  refine A.mono (pairs14_ans rs rs u w h3 hu hw (by omega) (by omega)) ?_
  rintro _ h4 ⟨rfl, e4⟩
  have hx4 := hx3.trans e4
  have dt : decide (rs = rs) = true := by simp
  rw [dt]
  refine ⟨_, by simp; first | done | rfl, ?_⟩
  repeat(first|with_reducible first|refine vmR ?_|refine vmV rfl ?_|refine vmW rfl ?_|refine vmL ?_|refine blockW_y (by decide) ?_|((with_reducible first|apply vmO|apply vmT|apply vmC);case a=>simp;with_reducible first|exact .v|exact .c|exact .t|exact .f))
  refine A.mono (lives_ans h4 (pf _ hx4)) ?_
  rintro _ h5 ⟨rfl, e5⟩
  refine ⟨_, by simp; first | done | rfl, ?_⟩
  repeat(first|with_reducible first|refine vmR ?_|refine vmV rfl ?_|refine vmW rfl ?_|refine vmL ?_|refine blockW_y (by decide) ?_|((with_reducible first|apply vmO|apply vmT|apply vmC);case a=>simp;with_reducible first|exact .v|exact .c|exact .t|exact .f))
  (first | apply endW_r | apply endW_n); (case h1 => (simp [Try.results6]; first | done | rfl))
  exact ⟨by simp, hx4.trans e5⟩
end Go.Vn
