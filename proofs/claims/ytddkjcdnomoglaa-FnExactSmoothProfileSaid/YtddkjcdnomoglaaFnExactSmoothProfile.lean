/- The statement FnExactSmoothProfileSaid: for every input the law returns true and its arguments read as before. No condition. -/
import Derived.Test.YtddkjcdnomoglaaGA
import Derived.Test.YtddkjcdnomoglaaGC
import Derived.Test.YtddkjcdnomoglaaLawSmoothProfile
namespace Go.Proofs.Ytddkjcdnomoglaa
set_option linter.unusedVariables false
open Go.RowKit Go.Proofs.Bell Go.BigFrame
set_option maxRecDepth 100000
open Go.ChangeShapes Go.WideShapes Go.ChangeAt

theorem lawSmoothProfile_walk (W : World) (args : Array Value) (h : Args Try.prog Try.f6 W args) :
    Calls Try.prog 6 args W (RetB (.bool true) W) := by
  obtain ⟨H, enc, base, ds, p, hval, hA, _⟩ := h
  rw [Try.params6] at hA hval
  obtain ⟨v0, d0, rfl, rfl, h0⟩ := trodAll_one hA
  obtain ⟨nm0, sv0, z0, rfl, hnm0, h0, w0⟩ := open_lProfile (hval 0 24 v0 rfl rfl) h0
  exact lawSmoothProfile_c W nm0 sv0 z0 hnm0 h0 w0

theorem FnExactSmoothProfile_holds : Rows.FnExactSmoothProfileSaid :=
  OpenClaim.holds_of_wide 6 Try.f6 rfl rfl rfl rfl rfl rfl rfl ⟨rfl, rfl, rfl, rfl, rfl⟩ rfl rfl rfl rfl rfl (by kernel_rfl) Try.func6 (by kernel_rfl)
    (of_decide_eq_true (by kernel_rfl)) (by unfold Func.isWrapper; rw [if_neg (of_decide_eq_false (by kernel_rfl))]; exact ⟨rfl, rfl⟩)
    (fun os started H enc _ => law_lifted (s := Rows.fnExactSmoothProfileSpec) (n := 1) (tb := 4) Try.func6 (by kernel_rfl) rfl (by intro H ds h; match ds, h with | [_], _ => rfl) (by kernel_rfl) Try.underlying4 (by kernel_rfl) (by kernel_rfl) lawSmoothProfile_walk os started H enc
      (ChangeSpec.witness6 (enc := enc) (C := Try.checked) false ⟨#[], #[.agg #[.string ⟨#[]⟩, .slice none 0 0]], []⟩ 8 (by kernel_rfl) (by kernel_rfl) (by kernel_rfl) (by kernel_rfl)))

end Go.Proofs.Ytddkjcdnomoglaa
