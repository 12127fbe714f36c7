/- The statement FnExactGoalTextSaid: for every input the law returns true and its arguments read as before. The tables that it looks into are laid. -/
import Derived.Test.YtgdadbmhdljcdaaDoorGA
import Derived.Test.YtgdadbmhdljcdaaDoorGC
import Derived.Test.YtgdadbmhdljcdaaDoorLawGoalText
import Derived.Test.YtgdadbmhdljcdaaDoorLiftT
import Derived.Test.YtgdadbmhdljcdaaDoorCards
import Derived.Test.YtgdadbmhdljcdaaDoorTie
import Derived.SevenTiedAt
namespace Go.Proofs.YtgdadbmhdljcdaaDoor
set_option linter.unusedVariables false
open Go.RowKit Go.Proofs.Bell Go.BigFrame
set_option maxRecDepth 100000
open Go.ChangeShapes Go.WideShapes Go.ChangeAt

theorem lawGoalText_walk (W : World) (args : Array Value) (htab : Tab W) (h : Args Tryd.prog Tryd.f6 W args) :
    Calls Tryd.prog 6 args W (RetB (.bool true) W) := by
  obtain ⟨H, enc, base, ds, p, hval, hA, _⟩ := h
  rw [Tryd.params6] at hA hval
  obtain ⟨v0, d0, rfl, rfl, h0⟩ := trodAll_one hA
  obtain ⟨a0, b0, c0, e0, f0, t0, m0, rfl, w0⟩ := open_lGoal (hval 0 52 v0 rfl rfl) h0
  exact lawGoalText_c W htab a0 b0 c0 e0 f0 t0 m0 w0

theorem FnExactGoalText_holds : Rows.FnExactGoalTextSaid :=
  OpenClaim.holds_of_wide 6 Tryd.f6 rfl rfl rfl rfl rfl rfl rfl ⟨rfl, rfl, rfl, rfl, rfl⟩ rfl rfl rfl rfl rfl (by kernel_rfl) Tryd.func6 (by kernel_rfl)
    (of_decide_eq_true (by kernel_rfl)) (by unfold Func.isWrapper; rw [if_neg (of_decide_eq_false (by kernel_rfl))]; exact ⟨rfl, rfl⟩)
    (fun os started H enc _ => law_liftedT (s := Rows.fnExactGoalTextSpec) (n := 1) (tb := 4) Tryd.func6 (by kernel_rfl) rfl (by intro H ds h; match ds, h with | [_], _ => rfl) (by kernel_rfl) Tryd.underlying4 (by kernel_rfl) (by kernel_rfl) lawGoalText_walk os started H enc
      (ChangeSpec.witness_shaped (enc := enc) (C := Tryd.checked) (os := os) (X := fun w _ => laidMetH Tryd.prog laid3 w) false (World.doorLaid Tryd.prog 4000 os) #[.agg #[.int .i64 0, .int .i64 0, .int .i64 0, .int .i64 0, .int .i64 0, .int .i64 0, .int .i64 0]] 8 rfl (World.shaped_of_RefB (by kernel_rfl) (by kernel_rfl)) (by kernel_rfl) (by kernel_rfl) (by kernel_rfl) (door_met os _)))

theorem FnExactGoalTextCard_holds : Rows.FnExactGoalTextCardSaid :=
  Claim7.holds_tied_plain_at .later [] [.data, .data, .data] true (true, "d5189e9fa1ddd2a7faaf8a35996be3b6118b851532171c213547fac380d7b4fe") true
    FnExactGoalText_holds (fun _ h => by cases h) (by kernel_rfl) (fun _ h => by cases h) fnExactGoalText_row_tie rfl ⟨rfl, rfl⟩ (by kernel_rfl) rfl
    (fun f fn hf hfn => by
      obtain rfl : f = 6 := Option.some.inj ((show Tryd.prog.funcNamed "loop.example/g00952/laws.FnExactGoalText" = some 6 by kernel_rfl).symm.trans hf) |>.symm
      obtain rfl : fn = Tryd.f6 := (Option.some.inj (Tryd.func6.symm.trans hfn)).symm
      exact ⟨by kernel_rfl, fun j t ht => by
        rw [Tryd.params6] at ht
        have hm : t ∈ [52] := by simpa using Array.mem_of_getElem? ht
        have hall : ([52].all fun u => !Tryd.prog.wantsStandIn u) = true := by kernel_rfl
        exact (show Tryd.prog.wantsStandIn t = false by simpa using List.all_eq_true.1 hall t hm)⟩)
    (by kernel_rfl)

end Go.Proofs.YtgdadbmhdljcdaaDoor
