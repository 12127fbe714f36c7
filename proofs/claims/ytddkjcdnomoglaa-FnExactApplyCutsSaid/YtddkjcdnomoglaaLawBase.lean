/- What the laws' walks share. -/
import Derived.Test.YtddkjcdnomoglaaOpen2
import Derived.Test.YtddkjcdnomoglaaProf
import Derived.Test.YtddkjcdnomoglaaMarks
import Derived.Deep.RegionWith
import Derived.Deep.DeepCutAuto
import Derived.Deep.RegionHeld3
namespace Go.Proofs.Ytddkjcdnomoglaa
set_option linter.unusedVariables false
open Go.RowKit Go.Proofs.Bell Go.BigFrame

theorem eqPr_refl (nm : ByteArray) (rs : List (Int × Int × Int)) : eqPr nm nm rs rs = true := by simp [eqPr, eqNm, eqRs_refl]

end Go.Proofs.Ytddkjcdnomoglaa
