/- The statement FnVolumesSaid: for every input the law returns true and its arguments read as before. No condition. -/
import Derived.Test.YtmickkodcclocaaGA
import Derived.Test.YtmickkodcclocaaLawFnVolumes
import Derived.Test.YtmickkodcclocaaOpenU
namespace Go.Proofs.Ytmickkodcclocaa
set_option linter.unusedVariables false
open Go.RowKit Go.Proofs.Bell Go.BigFrame
set_option maxRecDepth 100000
open Go.ChangeShapes Go.WideShapes Go.ChangeAt

theorem lawFnVolumes_walk (W : World) (args : Array Value) (h : Args Try.prog Try.f12 W args) :
    Calls Try.prog 12 args W (RetB (.bool true) W) := by
  obtain ⟨H, enc, base, ds, p, hval, hA, _⟩ := h
  rw [Try.params12] at hA hval
  obtain ⟨v0, v1, d0, d1, p0, p1, rfl, rfl, rfl, h0, h1⟩ := trodAll_two hA
  obtain ⟨z0, h0, w0⟩ := open_uint8S (hval 0 67 v0 rfl rfl) h0
  obtain ⟨z1, h1, w1⟩ := open_uint8S (hval 1 67 v1 rfl rfl) h1
  exact lawFnVolumes_c W v0 v1 z0 z1 h0 h1 w0 w1

theorem FnVolumes_holds : Rows.FnVolumesSaid :=
  OpenClaim.holds_of_wide 12 Try.f12 rfl rfl rfl rfl rfl rfl rfl ⟨rfl, rfl, rfl, rfl, rfl⟩ rfl rfl rfl rfl rfl (by kernel_rfl) Try.func12 (by kernel_rfl)
    (of_decide_eq_true (by kernel_rfl)) (by unfold Func.isWrapper; rw [if_neg (of_decide_eq_false (by kernel_rfl))]; exact ⟨rfl, rfl⟩)
    (fun os started H enc _ => law_lifted (s := Rows.fnVolumesSpec) (n := 2) (tb := 4) Try.func12 (by kernel_rfl) rfl (by intro H ds h; match ds, h with | [_, _], _ => rfl) (by kernel_rfl) Try.underlying4 (by kernel_rfl) (by kernel_rfl) lawFnVolumes_walk os started H enc
      (ChangeSpec.witness6 (enc := enc) (C := Try.checked) false ⟨#[], #[.slice none 0 0, .slice none 0 0], []⟩ 8 (by kernel_rfl) (by kernel_rfl) (by kernel_rfl) (by kernel_rfl)))

end Go.Proofs.Ytmickkodcclocaa
