/- A profile of another size: both sides of ScaleProfile. -/
import Derived.Test.YtmeeibcbhjifbaaScaled
namespace Go.Proofs.Ytmeeibcbhjifbaa
set_option linter.unusedVariables false
open Go.RowKit Go.Proofs.Bell Go.BigFrame

def scaleI (nm : ByteArray) (ps : List (Int × Int × Int)) (num den : Int) : ByteArray × List (Int × Int × Int) × Int := if profB nm ps then (if scl2B num den then doneR nm (mapK (scT num den) ps ps.length) else (⟨#[]⟩, [], 2)) else (⟨#[]⟩, [], 1)
theorem scaleI_len (nm : ByteArray) (ps : List (Int × Int × Int)) (num den : Int) : (scaleI nm ps num den).2.1.length ≤ 32 := by
  unfold scaleI
  split
  · split
    · exact doneR_len _ _
    · simp
  · simp

end Go.Proofs.Ytmeeibcbhjifbaa
