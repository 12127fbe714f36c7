/- What the laws' walks share. -/
import Derived.Test.YtpaciehgafobfaaOpen2
import Derived.Test.YtpaciehgafobfaaProf
import Derived.Test.YtpaciehgafobfaaMarks
import Derived.Deep.RegionWith
import Derived.Deep.DeepCutAuto
import Derived.Deep.RegionHeld3
namespace Go.Proofs.Ytpaciehgafobfaa
set_option linter.unusedVariables false
open Go.RowKit Go.Proofs.Bell Go.BigFrame

theorem eqPr_refl (nm : ByteArray) (rs : List (Int × Int × Int)) : eqPr nm nm rs rs = true := by simp [eqPr, eqNm, eqRs_refl]

end Go.Proofs.Ytpaciehgafobfaa
