/- The statement FnSensitivitySaid: for every input the law returns true and its arguments read as before. No condition. -/
import Derived.Test.YtmeeibcbhjifbaaGA
import Derived.Test.YtmeeibcbhjifbaaLawFnSensitivity
import Derived.Test.YtmeeibcbhjifbaaOpenU
namespace Go.Proofs.Ytmeeibcbhjifbaa
set_option linter.unusedVariables false
open Go.RowKit Go.Proofs.Bell Go.BigFrame
set_option maxRecDepth 100000
open Go.ChangeShapes Go.WideShapes Go.ChangeAt

theorem lawFnSensitivity_walk (W : World) (args : Array Value) (h : Args Try.prog Try.f5 W args) :
    Calls Try.prog 5 args W (RetB (.bool true) W) := by
  obtain ⟨H, enc, base, ds, p, hval, hA, _⟩ := h
  rw [Try.params5] at hA hval
  obtain ⟨v0, d0, rfl, rfl, h0⟩ := trodAll_one hA
  obtain ⟨z0, h0, w0⟩ := open_uint8S (hval 0 54 v0 rfl rfl) h0
  exact lawFnSensitivity_c W v0 z0 h0 w0

theorem FnSensitivity_holds : Rows.FnSensitivitySaid :=
  OpenClaim.holds_of_wide 5 Try.f5 rfl rfl rfl rfl rfl rfl rfl ⟨rfl, rfl, rfl, rfl, rfl⟩ rfl rfl rfl rfl rfl (by kernel_rfl) Try.func5 (by kernel_rfl)
    (of_decide_eq_true (by kernel_rfl)) (by unfold Func.isWrapper; rw [if_neg (of_decide_eq_false (by kernel_rfl))]; exact ⟨rfl, rfl⟩)
    (fun os started H enc _ => law_lifted (s := Rows.fnSensitivitySpec) (n := 1) (tb := 4) Try.func5 (by kernel_rfl) rfl (by intro H ds h; match ds, h with | [_], _ => rfl) (by kernel_rfl) Try.underlying4 (by kernel_rfl) (by kernel_rfl) lawFnSensitivity_walk os started H enc
      (ChangeSpec.witness6 (enc := enc) (C := Try.checked) false ⟨#[], #[.slice none 0 0], []⟩ 8 (by kernel_rfl) (by kernel_rfl) (by kernel_rfl) (by kernel_rfl)))

end Go.Proofs.Ytmeeibcbhjifbaa
