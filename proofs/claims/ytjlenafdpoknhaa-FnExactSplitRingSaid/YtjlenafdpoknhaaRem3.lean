/- A ring is removed: the program's side. -/
import Derived.Test.YtjlenafdpoknhaaGF
import Derived.Test.YtjlenafdpoknhaaRem2
import Derived.Test.YtjlenafdpoknhaaThick
namespace Go.Proofs.Ytjlenafdpoknhaa
set_option linter.unusedVariables false
open Go.RowKit Go.Proofs.Bell Go.BigFrame

def remL (ps : List (Int × Int × Int)) (k : Int) : List (Int × Int × Int) := ps.take k.toNat ++ ps.drop (k.toNat + 1)
def remI (nm : ByteArray) (ps : List (Int × Int × Int)) (k : Int) : ByteArray × List (Int × Int × Int) × Int := if profB nm ps then (if inB k 0 ((ps.length : Int) - 1) then doneR nm (remL ps k) else (⟨#[]⟩, [], 2)) else (⟨#[]⟩, [], 1)
theorem remI_len (nm : ByteArray) (ps : List (Int × Int × Int)) (k : Int) : (remI nm ps k).2.1.length ≤ 32 := by
  unfold remI
  split
  · split
    · exact doneR_len _ _
    · simp
  · simp

end Go.Proofs.Ytjlenafdpoknhaa
