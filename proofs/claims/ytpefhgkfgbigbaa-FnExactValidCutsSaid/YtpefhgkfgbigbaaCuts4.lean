/- The reference's ValidCuts. -/
import Derived.Test.YtpefhgkfgbigbaaCuts2
namespace Go.Proofs.Ytpefhgkfgbigbaa
set_option linter.unusedVariables false
open Go.RowKit Go.Proofs.Bell Go.BigFrame

theorem specValidCuts_c (v : Value) (ps : List (Int × Int)) (w : World) (h : Rd w v ps.length (pairs ps)) :
    Calls Try.prog 21 #[v] w (RetS (.bool (cutsB ps)) w) := by
  have hl := l09Cuts_c v ps w h
  have HL := Lib.hid hl; clear hl
  clear h
  go_enter Try.func21, Try.ntmps21
  go_wp2_with (go_at_call 46; refine HL.out.mono ?_; rintro _ _ ⟨rfl, rfl⟩)
  go_returns
  exact RetS.mk rfl

end Go.Proofs.Ytpefhgkfgbigbaa
