/- The program's thinnest ring. -/
import Derived.Test.YtpaciehgafobfaaBest2
namespace Go.Proofs.Ytpaciehgafobfaa
set_option linter.unusedVariables false
open Go.RowKit Go.Proofs.Bell Go.BigFrame

end Go.Proofs.Ytpaciehgafobfaa
