/- The statement FnExactChipsOfSaid: for every input the law returns true and its arguments read as before. No condition. -/
import Derived.Test.YtddkjcdnomoglaaGA
import Derived.Test.YtddkjcdnomoglaaGC
import Derived.Test.YtddkjcdnomoglaaLawChipsOf
namespace Go.Proofs.Ytddkjcdnomoglaa
set_option linter.unusedVariables false
open Go.RowKit Go.Proofs.Bell Go.BigFrame
set_option maxRecDepth 100000
open Go.ChangeShapes Go.WideShapes Go.ChangeAt

theorem lawChipsOf_walk (W : World) (args : Array Value) (h : Args Try.prog Try.f11 W args) :
    Calls Try.prog 11 args W (RetB (.bool true) W) := by
  obtain ⟨H, enc, base, ds, p, hval, hA, _⟩ := h
  rw [Try.params11] at hA hval
  obtain ⟨v0, v1, v2, d0, d1, d2, p0, p1, p2, rfl, rfl, rfl, h0, h1, h2⟩ := trodAll_three hA
  obtain ⟨nm0, sv0, z0, rfl, hnm0, h0, w0⟩ := open_lProfile (hval 0 24 v0 rfl rfl) h0
  obtain ⟨z1, h1, w1⟩ := open_int64S (hval 1 25 v1 rfl rfl) h1
  obtain ⟨z2, h2, w2⟩ := open_lCutS (hval 2 61 v2 rfl rfl) h2
  exact lawChipsOf_c W nm0 sv0 z0 hnm0 h0 w0 v1 z1 h1 w1 v2 z2 h2 w2

theorem FnExactChipsOf_holds : Rows.FnExactChipsOfSaid :=
  OpenClaim.holds_of_wide 11 Try.f11 rfl rfl rfl rfl rfl rfl rfl ⟨rfl, rfl, rfl, rfl, rfl⟩ rfl rfl rfl rfl rfl (by kernel_rfl) Try.func11 (by kernel_rfl)
    (of_decide_eq_true (by kernel_rfl)) (by unfold Func.isWrapper; rw [if_neg (of_decide_eq_false (by kernel_rfl))]; exact ⟨rfl, rfl⟩)
    (fun os started H enc _ => law_lifted (s := Rows.fnExactChipsOfSpec) (n := 3) (tb := 4) Try.func11 (by kernel_rfl) rfl (by intro H ds h; match ds, h with | [_, _, _], _ => rfl) (by kernel_rfl) Try.underlying4 (by kernel_rfl) (by kernel_rfl) lawChipsOf_walk os started H enc
      (ChangeSpec.witness6 (enc := enc) (C := Try.checked) false ⟨#[], #[.agg #[.string ⟨#[]⟩, .slice none 0 0], .slice none 0 0, .slice none 0 0], []⟩ 8 (by kernel_rfl) (by kernel_rfl) (by kernel_rfl) (by kernel_rfl)))

end Go.Proofs.Ytddkjcdnomoglaa
