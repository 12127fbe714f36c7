/- The statement FnModelSaid: for every input the law returns true and its arguments read as before. The tables that it looks into are laid. -/
import Derived.Test.YtgdadbmhdljcdaaGreatDoorGA
import Derived.Test.YtgdadbmhdljcdaaGreatDoorLawFnModel
import Derived.Test.YtgdadbmhdljcdaaGreatDoorTI
import Derived.Test.YtgdadbmhdljcdaaGreatDoorWL
import Derived.Test.YtgdadbmhdljcdaaGreatDoorCards
import Derived.Test.YtgdadbmhdljcdaaGreatDoorTie
import Derived.SevenTiedAt
namespace Go.Proofs.YtgdadbmhdljcdaaGreatDoor
set_option linter.unusedVariables false
open Go.RowKit Go.Proofs.Bell Go.BigFrame
set_option maxRecDepth 100000
open Go.ChangeShapes Go.WideShapes Go.ChangeAt

theorem lawFnModel_walk (W : World) (args : Array Value) (htab : RTab W) (h : Args Tryz.prog Tryz.f4 W args) :
    Calls Tryz.prog 4 args W (RetB (.bool true) W) := by
  obtain ⟨H, enc, base, ds, p, hval, hA, _⟩ := h
  rw [Tryz.params4] at hA hval
  obtain ⟨v0, v1, d0, d1, p0, p1, rfl, rfl, rfl, h0, h1⟩ := trodAll_two hA
  obtain ⟨z0, h0, w0⟩ := open_uint8S (hval 0 22 v0 rfl rfl) h0
  obtain ⟨z1, h1, w1⟩ := open_uint8S (hval 1 22 v1 rfl rfl) h1
  exact lawFnModel_c W htab v0 v1 z0 z1 h0 h1 w0 w1

theorem FnModel_holds : Rows.FnModelSaid :=
  OpenClaim.holds_of_wide 4 Tryz.f4 rfl rfl rfl rfl rfl rfl rfl ⟨rfl, rfl, rfl, rfl, rfl⟩ rfl rfl rfl rfl rfl (by kernel_rfl) Tryz.func4 (by kernel_rfl)
    (of_decide_eq_true (by kernel_rfl)) (by unfold Func.isWrapper; rw [if_neg (of_decide_eq_false (by kernel_rfl))]; exact ⟨rfl, rfl⟩)
    (fun os started H enc _ => law_liftedR (s := Rows.fnModelSpec) (n := 2) (tb := 4) Tryz.func4 (by kernel_rfl) rfl (by intro H ds h; match ds, h with | [_, _], _ => rfl) (by kernel_rfl) Tryz.underlying4 (by kernel_rfl) (by kernel_rfl) lawFnModel_walk os started H enc
      (ChangeSpec.witness_shaped (enc := enc) (C := Tryz.checked) (os := os) (X := fun w _ => laidMetH Tryz.prog laid7 w) false (World.laidAll Tryz.prog os laid7) #[.slice none 0 0, .slice none 0 0] 8 (World.laidAll_os _ _ _) (World.shaped_of_ZipB (by kernel_rfl) (by kernel_rfl)) (by kernel_rfl) (by kernel_rfl) (by kernel_rfl) (door_met7 os _)))

theorem FnModelCard_holds : Rows.FnModelCardSaid :=
  Claim7.holds_tied_plain_at .later [] [.data, .data, .data, .data, .sentinel, .sentinel, .pinned] true (true, "5f60df191a21fa572af5c32766b6ccc57b2cea556fe83644d68344bb2b6aadcc") true
    FnModel_holds (fun _ h => by cases h) (by kernel_rfl) (fun _ h => by cases h) fnModel_row_tie rfl ⟨rfl, rfl⟩ (by kernel_rfl) rfl
    (fun f fn hf hfn => by
      obtain rfl : f = 4 := Option.some.inj ((show Tryz.prog.funcNamed "loop.example/g00952/laws.FnModel" = some 4 by kernel_rfl).symm.trans hf) |>.symm
      obtain rfl : fn = Tryz.f4 := (Option.some.inj (Tryz.func4.symm.trans hfn)).symm
      exact ⟨by kernel_rfl, fun j t ht => by
        rw [Tryz.params4] at ht
        have hm : t ∈ [22] := by simpa using Array.mem_of_getElem? ht
        have hall : ([22].all fun u => !Tryz.prog.wantsStandIn u) = true := by kernel_rfl
        exact (show Tryz.prog.wantsStandIn t = false by simpa using List.all_eq_true.1 hall t hm)⟩)
    (by kernel_rfl)

end Go.Proofs.YtgdadbmhdljcdaaGreatDoor
