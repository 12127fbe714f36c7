/- The statement FnExactValidModelSaid: for every input the law returns true and its arguments read as before. No condition. -/
import Derived.Test.YtjbbhfmojfdcaaaLift
import Derived.Test.YtjbbhfmojfdcaaaOpen2
import Derived.Test.YtjbbhfmojfdcaaaOpen3
import Derived.Test.YtjbbhfmojfdcaaaLawValidModel
namespace Go.Proofs.Ytjbbhfmojfdcaaa
set_option linter.unusedVariables false
open Go.RowKit Go.Proofs.Bell Go.BigFrame
set_option maxRecDepth 100000
open Go.ChangeShapes Go.WideShapes Go.ChangeAt

theorem lawValidModel_walk (W : World) (args : Array Value) (h : Args Try.prog Try.f5 W args) :
    Calls Try.prog 5 args W (RetB (.bool true) W) := by
  obtain ⟨H, enc, base, ds, p, hval, hA, _⟩ := h
  rw [Try.params5] at hA hval
  obtain ⟨v0, d0, rfl, rfl, h0⟩ := trodAll_one hA
  obtain ⟨zv0, wv0, bv0, z0, ws0, bs0, rfl, hz0, hw0, hb0, w0⟩ := open_lModel (hval 0 25 v0 rfl rfl) h0
  exact lawValidModel_c W zv0 wv0 bv0 z0 ws0 bs0 hz0 hw0 hb0 w0

theorem FnExactValidModel_holds : Rows.FnExactValidModelSaid :=
  OpenClaim.holds_of_wide 5 Try.f5 rfl rfl rfl rfl rfl rfl rfl ⟨rfl, rfl, rfl, rfl, rfl⟩ rfl rfl rfl rfl rfl (by kernel_rfl) Try.func5 (by kernel_rfl)
    (of_decide_eq_true (by kernel_rfl)) (by unfold Func.isWrapper; rw [if_neg (of_decide_eq_false (by kernel_rfl))]; exact ⟨rfl, rfl⟩)
    (fun os started H enc _ => law_lifted (s := Rows.fnExactValidModelSpec) (n := 1) (tb := 4) Try.func5 (by kernel_rfl) rfl (by intro H ds h; match ds, h with | [_], _ => rfl) (by kernel_rfl) Try.underlying4 (by kernel_rfl) (by kernel_rfl) lawValidModel_walk os started H enc
      (ChangeSpec.witness6 (enc := enc) (C := Try.checked) false ⟨#[], #[.agg #[.slice none 0 0, .slice none 0 0, .slice none 0 0]], []⟩ 8 (by kernel_rfl) (by kernel_rfl) (by kernel_rfl) (by kernel_rfl)))

end Go.Proofs.Ytjbbhfmojfdcaaa
