/- What cuts take away: the program. -/
import Derived.Test.YtgdadbmhdljcdaaGreatDoorChips
namespace Go.Proofs.YtgdadbmhdljcdaaGreatDoor
set_option linter.unusedVariables false
open Go.RowKit Go.Proofs.Bell Go.BigFrame

end Go.Proofs.YtgdadbmhdljcdaaGreatDoor
