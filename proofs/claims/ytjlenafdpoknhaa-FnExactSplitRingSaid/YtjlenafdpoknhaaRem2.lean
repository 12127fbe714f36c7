/- slices.Delete at rings. -/
import Derived.Test.YtjlenafdpoknhaaRem
import Derived.Lib.Walk
namespace Go.Proofs.Ytjlenafdpoknhaa
set_option linter.unusedVariables false
open Go.RowKit Go.Proofs.Bell Go.BigFrame

def RetDel (base g n cap : Nat) (rs : List (Int × Int × Int)) (w : World) (e : Ending) (w' : World) : Prop := e = .returned (.slice (some ⟨g, 0, none⟩) n cap) ∧ OwnR base w' (.slice (some ⟨g, 0, none⟩) rs.length cap) rs ∧ Only (fun b => b = g) w w'
end Go.Proofs.Ytjlenafdpoknhaa
