/- What FnCentres and FnVolumes call besides. -/
import Derived.Test.YtmeeibcbhjifbaaCentL
import Derived.Test.YtmeeibcbhjifbaaOpenU
import Derived.Test.YtmeeibcbhjifbaaWE
namespace Go.Proofs.Ytmeeibcbhjifbaa
set_option linter.unusedVariables false
open Go.RowKit Go.Proofs.Bell Go.BigFrame

theorem b10Long_c (v : Value) (zs : List Int) (w : World) (h : Rd w v zs.length (bytesV zs)) : Calls Try.prog 24 #[v] w (RetS (.bool (decide (1048576 < zs.length))) w) := by
  obtain ⟨hn, ao, cap, b, off, rfl, hao, hcell⟩ := h.open
  clear hcell h hao
  generalize zs.length = n at *
  cases t1 : decide (1048576 < n)
  · have t2 : decide ((1048576 : Int) < (n : Int)) = false := decide_eq_false (by have := of_decide_eq_false t1; omega)
    go_enter Try.func24, Try.ntmps24
    go_wp2
    go_returns
    exact RetS.mk rfl
  · have t2 : decide ((1048576 : Int) < (n : Int)) = true := decide_eq_true (by have := of_decide_eq_true t1; omega)
    go_enter Try.func24, Try.ntmps24
    go_wp2
    go_returns
    exact RetS.mk rfl

end Go.Proofs.Ytmeeibcbhjifbaa
