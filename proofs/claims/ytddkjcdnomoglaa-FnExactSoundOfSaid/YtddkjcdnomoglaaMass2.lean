/- Masses: the contracts. -/
import Derived.Test.YtddkjcdnomoglaaMass
namespace Go.Proofs.Ytddkjcdnomoglaa
set_option linter.unusedVariables false
open Go.RowKit Go.Proofs.Bell Go.BigFrame

theorem massI_bd {rs : List (Int × Int × Int)} {d : Int} (h : rs.all ringT = true) (hl : rs.length ≤ 32) (h1 : 0 ≤ d) (h2 : d ≤ 20000) : 0 ≤ volI rs * d ∧ volI rs * d ≤ 13571681760000000 := by
  have a := volI_bd h hl
  have b := mul_bd a.1 h1 a.2 h2
  omega

end Go.Proofs.Ytddkjcdnomoglaa
