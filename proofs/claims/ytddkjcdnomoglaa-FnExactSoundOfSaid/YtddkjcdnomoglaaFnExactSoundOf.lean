/- The statement FnExactSoundOfSaid: for every input the law returns true and its arguments read as before. No condition. -/
import Derived.Test.YtddkjcdnomoglaaGA
import Derived.Test.YtddkjcdnomoglaaGC
import Derived.Test.YtddkjcdnomoglaaLawSoundOf
import Derived.Test.YtddkjcdnomoglaaOpen3
namespace Go.Proofs.Ytddkjcdnomoglaa
set_option linter.unusedVariables false
open Go.RowKit Go.Proofs.Bell Go.BigFrame
set_option maxRecDepth 100000
open Go.ChangeShapes Go.WideShapes Go.ChangeAt

theorem lawSoundOf_walk (W : World) (args : Array Value) (h : Args Try.prog Try.f14 W args) :
    Calls Try.prog 14 args W (RetB (.bool true) W) := by
  obtain ⟨H, enc, base, ds, p, hval, hA, _⟩ := h
  rw [Try.params14] at hA hval
  obtain ⟨v0, v1, d0, d1, p0, p1, rfl, rfl, rfl, h0, h1⟩ := trodAll_two hA
  obtain ⟨zv0, wv0, bv0, z0, ws0, bs0, rfl, hz0, hw0, hb0, w0⟩ := open_lModel (hval 0 69 v0 rfl rfl) h0
  obtain ⟨nm1, sv1, z1, rfl, hnm1, h1, w1⟩ := open_lProfile (hval 1 24 v1 rfl rfl) h1
  exact lawSoundOf_c W zv0 wv0 bv0 z0 ws0 bs0 hz0 hw0 hb0 w0 nm1 sv1 z1 hnm1 h1 w1

theorem FnExactSoundOf_holds : Rows.FnExactSoundOfSaid :=
  OpenClaim.holds_of_wide 14 Try.f14 rfl rfl rfl rfl rfl rfl rfl ⟨rfl, rfl, rfl, rfl, rfl⟩ rfl rfl rfl rfl rfl (by kernel_rfl) Try.func14 (by kernel_rfl)
    (of_decide_eq_true (by kernel_rfl)) (by unfold Func.isWrapper; rw [if_neg (of_decide_eq_false (by kernel_rfl))]; exact ⟨rfl, rfl⟩)
    (fun os started H enc _ => law_lifted (s := Rows.fnExactSoundOfSpec) (n := 2) (tb := 4) Try.func14 (by kernel_rfl) rfl (by intro H ds h; match ds, h with | [_, _], _ => rfl) (by kernel_rfl) Try.underlying4 (by kernel_rfl) (by kernel_rfl) lawSoundOf_walk os started H enc
      (ChangeSpec.witness6 (enc := enc) (C := Try.checked) false ⟨#[], #[.agg #[.slice none 0 0, .slice none 0 0, .slice none 0 0], .agg #[.string ⟨#[]⟩, .slice none 0 0]], []⟩ 8 (by kernel_rfl) (by kernel_rfl) (by kernel_rfl) (by kernel_rfl)))

end Go.Proofs.Ytddkjcdnomoglaa
