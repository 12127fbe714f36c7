/- The statement FnExactTotalStepsSaid: for every input the law returns true and its arguments read as before. No condition. -/
import Derived.Test.YtpefhgkfgbigbaaLift
import Derived.Test.YtpefhgkfgbigbaaOpen2
import Derived.Test.YtpefhgkfgbigbaaLawCuts
namespace Go.Proofs.Ytpefhgkfgbigbaa
set_option linter.unusedVariables false
open Go.RowKit Go.Proofs.Bell Go.BigFrame
open Go.ChangeShapes Go.WideShapes Go.ChangeAt

theorem lawTotalSteps_walk (W : World) (args : Array Value) (h : Args Try.prog Try.f9 W args) :
    Calls Try.prog 9 args W (RetB (.bool true) W) := by
  obtain ⟨H, enc, base, ds, p, hval, hA, _⟩ := h
  rw [Try.params9] at hA hval
  obtain ⟨v0, d0, rfl, rfl, h0⟩ := trodAll_one hA
  obtain ⟨z0, h0, w0⟩ := open_lCutS (hval 0 41 v0 rfl rfl) h0
  exact lawTotalSteps_c v0 z0 W h0

theorem FnExactTotalSteps_holds : Rows.FnExactTotalStepsSaid :=
  OpenClaim.holds_of_wide 9 Try.f9 rfl rfl rfl rfl rfl rfl rfl ⟨rfl, rfl, rfl, rfl, rfl⟩ rfl rfl rfl rfl rfl (by kernel_rfl) Try.func9 (by kernel_rfl)
    (of_decide_eq_true (by kernel_rfl)) (by unfold Func.isWrapper; rw [if_neg (of_decide_eq_false (by kernel_rfl))]; exact ⟨rfl, rfl⟩)
    (fun os started H enc _ => law_lifted (s := Rows.fnExactTotalStepsSpec) (n := 1) (tb := 4) Try.func9 (by kernel_rfl) rfl (by intro H ds h; match ds, h with | [_], _ => rfl) (by kernel_rfl) Try.underlying4 (by kernel_rfl) (by kernel_rfl) lawTotalSteps_walk os started H enc
      (ChangeSpec.witness6 (enc := enc) (C := Try.checked) false ⟨#[], #[.slice none 0 0], []⟩ 8 (by kernel_rfl) (by kernel_rfl) (by kernel_rfl) (by kernel_rfl)))

end Go.Proofs.Ytpefhgkfgbigbaa
