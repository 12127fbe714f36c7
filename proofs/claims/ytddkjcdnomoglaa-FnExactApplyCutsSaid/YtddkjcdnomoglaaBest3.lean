/- The program's thinnest ring. -/
import Derived.Test.YtddkjcdnomoglaaBest2
namespace Go.Proofs.Ytddkjcdnomoglaa
set_option linter.unusedVariables false
open Go.RowKit Go.Proofs.Bell Go.BigFrame

end Go.Proofs.Ytddkjcdnomoglaa
