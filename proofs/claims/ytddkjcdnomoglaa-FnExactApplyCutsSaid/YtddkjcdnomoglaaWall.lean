/- The wall at a height. -/
import Derived.Test.YtddkjcdnomoglaaAt2
import Derived.Test.YtddkjcdnomoglaaVols
namespace Go.Proofs.Ytddkjcdnomoglaa
set_option linter.unusedVariables false
open Go.RowKit Go.Proofs.Bell Go.BigFrame

def wallT (p : Int × Int × Int) : Int := p.1 - p.2.1
def wallAtI (nm : ByteArray) (rs : List (Int × Int × Int)) (h : Int) : Int × Int := if askI nm rs h = 0 then (wallT (rg rs (atK rs h)), 0) else (0, askI nm rs h)
theorem wallT_c (p : Int × Int × Int) (w : World) (h : ringT p = true) : Calls Try.prog 136 #[.agg #[.int .i64 p.1, .int .i64 p.2.1, .int .i64 p.2.2]] w (RetB (.int .i64 (wallT p)) w) := by
  have r := ringT_t h
  unfold wallT
  obtain ⟨a, b, c⟩ := p
  simp only at r
  clear h
  go_enter Try.func136, Try.ntmps136
  go_wp2
  go_returns
  exact RetB.mk rfl (by go_grown)

end Go.Proofs.Ytddkjcdnomoglaa
