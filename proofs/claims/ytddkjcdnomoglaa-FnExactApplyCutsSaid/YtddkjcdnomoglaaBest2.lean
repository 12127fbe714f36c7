/- The widest and the thinnest ring: the program's, and the reference's thinnest. -/
import Derived.Test.YtddkjcdnomoglaaBest
namespace Go.Proofs.Ytddkjcdnomoglaa
set_option linter.unusedVariables false
open Go.RowKit Go.Proofs.Bell Go.BigFrame

theorem wall_c (a b c : Int) (w : World) (h1 : 0 ≤ a) (h2 : a ≤ 1000000) (h3 : 0 ≤ b) (h4 : b ≤ 1000000) : Calls Try.prog 136 #[.agg #[.int .i64 a, .int .i64 b, .int .i64 c]] w (RetB (.int .i64 (a - b)) w) := by
  go_enter Try.func136, Try.ntmps136
  go_wp2
  go_returns
  exact RetB.mk rfl (by go_grown)

end Go.Proofs.Ytddkjcdnomoglaa
