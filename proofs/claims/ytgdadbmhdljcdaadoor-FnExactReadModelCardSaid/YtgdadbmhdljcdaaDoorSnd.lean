/- The sound with five partials. -/
import Derived.Test.YtgdadbmhdljcdaaDoorGF
import Derived.Test.YtgdadbmhdljcdaaDoorGoals2
namespace Go.Proofs.YtgdadbmhdljcdaaDoor
set_option linter.unusedVariables false
open Go.RowKit Go.Proofs.Bell Go.BigFrame

def sndV (r : List Int) : Value := .agg #[.int .i64 (r.getD 0 0), .int .i64 (r.getD 1 0), .int .i64 (r.getD 2 0), .int .i64 (r.getD 3 0), .int .i64 (r.getD 4 0)]

end Go.Proofs.YtgdadbmhdljcdaaDoor
