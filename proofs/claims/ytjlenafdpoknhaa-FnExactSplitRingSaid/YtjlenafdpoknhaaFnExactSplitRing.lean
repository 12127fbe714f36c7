/- The statement FnExactSplitRingSaid: for every input the law returns true and its arguments read as before. No condition. -/
import Derived.Test.YtjlenafdpoknhaaGA
import Derived.Test.YtjlenafdpoknhaaGC
import Derived.Test.YtjlenafdpoknhaaLawSplitRing
namespace Go.Proofs.Ytjlenafdpoknhaa
set_option linter.unusedVariables false
open Go.RowKit Go.Proofs.Bell Go.BigFrame
set_option maxRecDepth 100000
open Go.ChangeShapes Go.WideShapes Go.ChangeAt

theorem lawSplitRing_walk (W : World) (args : Array Value) (h : Args Try.prog Try.f3 W args) :
    Calls Try.prog 3 args W (RetB (.bool true) W) := by
  obtain ⟨H, enc, base, ds, p, hval, hA, _⟩ := h
  rw [Try.params3] at hA hval
  obtain ⟨v0, v1, d0, d1, p0, p1, rfl, rfl, rfl, h0, h1⟩ := trodAll_two hA
  obtain ⟨nm0, sv0, z0, rfl, hnm0, h0, w0⟩ := open_lProfile (hval 0 24 v0 rfl rfl) h0
  obtain ⟨a1, rfl, rfl, rfl, w1⟩ := open_int Try.underlying2 (hval 1 2 v1 rfl rfl) h1
  have w1 := i64_of_wf w1
  exact lawSplitRing_c W nm0 sv0 z0 hnm0 h0 w0 a1 w1

theorem FnExactSplitRing_holds : Rows.FnExactSplitRingSaid :=
  OpenClaim.holds_of_wide 3 Try.f3 rfl rfl rfl rfl rfl rfl rfl ⟨rfl, rfl, rfl, rfl, rfl⟩ rfl rfl rfl rfl rfl (by kernel_rfl) Try.func3 (by kernel_rfl)
    (of_decide_eq_true (by kernel_rfl)) (by unfold Func.isWrapper; rw [if_neg (of_decide_eq_false (by kernel_rfl))]; exact ⟨rfl, rfl⟩)
    (fun os started H enc _ => law_lifted (s := Rows.fnExactSplitRingSpec) (n := 2) (tb := 4) Try.func3 (by kernel_rfl) rfl (by intro H ds h; match ds, h with | [_, _], _ => rfl) (by kernel_rfl) Try.underlying4 (by kernel_rfl) (by kernel_rfl) lawSplitRing_walk os started H enc
      (ChangeSpec.witness6 (enc := enc) (C := Try.checked) false ⟨#[], #[.agg #[.string ⟨#[]⟩, .slice none 0 0], .int .i64 0], []⟩ 8 (by kernel_rfl) (by kernel_rfl) (by kernel_rfl) (by kernel_rfl)))

end Go.Proofs.Ytjlenafdpoknhaa
