/- The statement FnExactValidGoalSaid: for every input the law returns true and its arguments read as before. No condition. -/
import Derived.Test.YtpefhgkfgbigbaaLift
import Derived.Test.YtpefhgkfgbigbaaOpen2
import Derived.Test.YtpefhgkfgbigbaaLawValidGoal
namespace Go.Proofs.Ytpefhgkfgbigbaa
set_option linter.unusedVariables false
open Go.RowKit Go.Proofs.Bell Go.BigFrame
open Go.ChangeShapes Go.WideShapes Go.ChangeAt

theorem lawValidGoal_walk (W : World) (args : Array Value) (h : Args Try.prog Try.f3 W args) :
    Calls Try.prog 3 args W (RetB (.bool true) W) := by
  obtain ⟨H, enc, base, ds, p, hval, hA, _⟩ := h
  rw [Try.params3] at hA hval
  obtain ⟨v0, d0, rfl, rfl, h0⟩ := trodAll_one hA
  obtain ⟨a0, b0, c0, e0, f0, t0, m0, rfl, w0⟩ := open_lGoal (hval 0 25 v0 rfl rfl) h0
  exact lawValidGoal_c W a0 b0 c0 e0 f0 t0 m0 w0

theorem FnExactValidGoal_holds : Rows.FnExactValidGoalSaid :=
  OpenClaim.holds_of_wide 3 Try.f3 rfl rfl rfl rfl rfl rfl rfl ⟨rfl, rfl, rfl, rfl, rfl⟩ rfl rfl rfl rfl rfl (by kernel_rfl) Try.func3 (by kernel_rfl)
    (of_decide_eq_true (by kernel_rfl)) (by unfold Func.isWrapper; rw [if_neg (of_decide_eq_false (by kernel_rfl))]; exact ⟨rfl, rfl⟩)
    (fun os started H enc _ => law_lifted (s := Rows.fnExactValidGoalSpec) (n := 1) (tb := 4) Try.func3 (by kernel_rfl) rfl (by intro H ds h; match ds, h with | [_], _ => rfl) (by kernel_rfl) Try.underlying4 (by kernel_rfl) (by kernel_rfl) lawValidGoal_walk os started H enc
      (ChangeSpec.witness6 (enc := enc) (C := Try.checked) false ⟨#[], #[.agg #[.int .i64 0, .int .i64 0, .int .i64 0, .int .i64 0, .int .i64 0, .int .i64 0, .int .i64 0]], []⟩ 8 (by kernel_rfl) (by kernel_rfl) (by kernel_rfl) (by kernel_rfl)))

end Go.Proofs.Ytpefhgkfgbigbaa
