/- The statement FnExactPitchAfterSaid: for every input the law returns true and its arguments read as before. No condition. -/
import Derived.Test.YtpefhgkfgbigbaaLift
import Derived.Test.YtpefhgkfgbigbaaPitch
namespace Go.Proofs.Ytpefhgkfgbigbaa
open Go.ChangeShapes Go.WideShapes Go.ChangeAt Go.RowKit Go.Proofs.Bell

theorem lawPitchAfter_walk (W : World) (args : Array Value) (h : Args Try.prog Try.f4 W args) :
    Calls Try.prog 4 args W (RetB (.bool true) W) := by
  obtain ⟨H, enc, base, ds, p, hval, hA, _⟩ := h
  rw [Try.params4] at hA hval
  obtain ⟨v0, v1, v2, d0, d1, d2, p0, p1, p2, rfl, rfl, rfl, h0, h1, h2⟩ := trodAll_three hA
  obtain ⟨a0, rfl, rfl, rfl, _⟩ := open_int Try.underlying2 (hval 0 2 v0 rfl rfl) h0
  obtain ⟨a1, rfl, rfl, rfl, _⟩ := open_int Try.underlying2 (hval 1 2 v1 rfl rfl) h1
  obtain ⟨a2, rfl, rfl, rfl, _⟩ := open_int Try.underlying2 (hval 2 2 v2 rfl rfl) h2
  exact (lawPitchAfter_c a0 a1 a2 W).mono fun e w' ⟨he, n, hw⟩ => ⟨he, hw ▸ below_drewN (Below.refl _ _) n⟩

theorem FnExactPitchAfter_holds : Rows.FnExactPitchAfterSaid :=
  OpenClaim.holds_of_wide 4 Try.f4 rfl rfl rfl rfl rfl rfl rfl ⟨rfl, rfl, rfl, rfl, rfl⟩ rfl rfl rfl rfl rfl (by kernel_rfl) Try.func4 (by kernel_rfl)
    (of_decide_eq_true (by kernel_rfl)) (by unfold Func.isWrapper; rw [if_neg (of_decide_eq_false (by kernel_rfl))]; exact ⟨rfl, rfl⟩)
    (fun os started H enc _ => law_lifted (s := Rows.fnExactPitchAfterSpec) (n := 3) (tb := 4) Try.func4 (by kernel_rfl) rfl (by intro H ds h; match ds, h with | [_, _, _], _ => rfl) (by kernel_rfl) Try.underlying4 (by kernel_rfl) (by kernel_rfl) lawPitchAfter_walk os started H enc
      (ChangeSpec.witness6 (enc := enc) (C := Try.checked) false ⟨#[], #[.int .i64 0, .int .i64 0, .int .i64 0], []⟩ 8 (by kernel_rfl) (by kernel_rfl) (by kernel_rfl) (by kernel_rfl)))

end Go.Proofs.Ytpefhgkfgbigbaa
