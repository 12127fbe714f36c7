/- Two lists of rings: equal. -/
import Derived.Test.YtmeeibcbhjifbaaGB
import Derived.Test.YtmeeibcbhjifbaaGD
namespace Go.Proofs.Ytmeeibcbhjifbaa
set_option linter.unusedVariables false
open Go.RowKit Go.Proofs.Bell Go.BigFrame

def eqT (ps qs : List (Int × Int × Int)) : Bool := decide (ps = qs)
theorem take_step3 {α : Type} {ps qs : List α} {k : Nat} (h : ps.take k = qs.take k) (h1 : k < ps.length) (h2 : k < qs.length) (h3 : ps[k] = qs[k]) : ps.take (k + 1) = qs.take (k + 1) := by
  rw [List.take_succ_eq_append_getElem h1, List.take_succ_eq_append_getElem h2, h, h3]

end Go.Proofs.Ytmeeibcbhjifbaa
