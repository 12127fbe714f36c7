/- Are two models the same? -/
import Derived.Test.YtgdadbmhdljcdaaDoorSS2
namespace Go.Proofs.YtgdadbmhdljcdaaDoor
set_option linter.unusedVariables false
open Go.RowKit Go.Proofs.Bell Go.BigFrame

def sameMB (zs : List Int) (ws : List (List Int)) (bs zs' : List Int) (ws' : List (List Int)) (bs' : List Int) : Bool := eqZs zs zs' && eqWs ws ws' && eqZs bs bs'

end Go.Proofs.YtgdadbmhdljcdaaDoor
