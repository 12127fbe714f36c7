/- The statement FnExactIsPlanSaid: for every input the law returns true and its arguments read as before. No condition. -/
import Derived.Test.YtmeeibcbhjifbaaGreatGA
import Derived.Test.YtmeeibcbhjifbaaGreatGC
import Derived.Test.YtmeeibcbhjifbaaGreatLawIsPlan
import Derived.Test.YtmeeibcbhjifbaaGreatOpen3
namespace Go.Proofs.YtmeeibcbhjifbaaGreat
set_option linter.unusedVariables false
open Go.RowKit Go.Proofs.Bell Go.BigFrame
set_option maxRecDepth 100000
open Go.ChangeShapes Go.WideShapes Go.ChangeAt

theorem lawIsPlan_walk (W : World) (args : Array Value) (h : Args Tryz.prog Tryz.f3 W args) :
    Calls Tryz.prog 3 args W (RetB (.bool true) W) := by
  obtain ⟨H, enc, base, ds, p, hval, hA, _⟩ := h
  rw [Tryz.params3] at hA hval
  obtain ⟨v0, v1, v2, v3, d0, d1, d2, d3, p0, p1, p2, p3, rfl, rfl, rfl, h0, h1, h2, h3⟩ := trodAll_four hA
  obtain ⟨zv0, wv0, bv0, z0, ws0, bs0, rfl, hz0, hw0, hb0, w0⟩ := open_lModel (hval 0 25 v0 rfl rfl) h0
  obtain ⟨nm1, sv1, z1, rfl, hnm1, h1, w1⟩ := open_lProfile (hval 1 28 v1 rfl rfl) h1
  obtain ⟨a2, b2, c2, e2, f2, t2, m2, rfl, w2⟩ := open_lGoal (hval 2 32 v2 rfl rfl) h2
  obtain ⟨z3, h3, w3⟩ := open_lCutS (hval 3 33 v3 rfl rfl) h3
  exact lawIsPlan_c W zv0 wv0 bv0 z0 ws0 bs0 hz0 hw0 hb0 w0 nm1 sv1 z1 hnm1 h1 w1 a2 b2 c2 e2 f2 t2 m2 w2 v3 z3 h3 w3

theorem FnExactIsPlan_holds : Rows.FnExactIsPlanSaid :=
  OpenClaim.holds_of_wide 3 Tryz.f3 rfl rfl rfl rfl rfl rfl rfl ⟨rfl, rfl, rfl, rfl, rfl⟩ rfl rfl rfl rfl rfl (by kernel_rfl) Tryz.func3 (by kernel_rfl)
    (of_decide_eq_true (by kernel_rfl)) (by unfold Func.isWrapper; rw [if_neg (of_decide_eq_false (by kernel_rfl))]; exact ⟨rfl, rfl⟩)
    (fun os started H enc _ => law_lifted (s := Rows.fnExactIsPlanSpec) (n := 4) (tb := 4) Tryz.func3 (by kernel_rfl) rfl (by intro H ds h; match ds, h with | [_, _, _, _], _ => rfl) (by kernel_rfl) Tryz.underlying4 (by kernel_rfl) (by kernel_rfl) lawIsPlan_walk os started H enc
      (ChangeSpec.witness6 (enc := enc) (C := Tryz.checked) false ⟨#[], #[.agg #[.slice none 0 0, .slice none 0 0, .slice none 0 0], .agg #[.string ⟨#[]⟩, .slice none 0 0], .agg #[.int .i64 0, .int .i64 0, .int .i64 0, .int .i64 0, .int .i64 0, .int .i64 0, .int .i64 0], .slice none 0 0], []⟩ 8 (by kernel_rfl) (by kernel_rfl) (by kernel_rfl) (by kernel_rfl)))

end Go.Proofs.YtmeeibcbhjifbaaGreat
