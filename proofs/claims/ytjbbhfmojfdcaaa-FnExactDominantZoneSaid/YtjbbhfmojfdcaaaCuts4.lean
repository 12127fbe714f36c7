/- The reference's ValidCuts. -/
import Derived.Test.YtjbbhfmojfdcaaaCuts2
namespace Go.Proofs.Ytjbbhfmojfdcaaa
set_option linter.unusedVariables false
open Go.RowKit Go.Proofs.Bell Go.BigFrame

end Go.Proofs.Ytjbbhfmojfdcaaa
