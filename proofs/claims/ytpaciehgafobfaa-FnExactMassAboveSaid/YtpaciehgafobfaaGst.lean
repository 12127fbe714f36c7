/- The greatest step of a profile. -/
import Derived.Test.YtpaciehgafobfaaVols
namespace Go.Proofs.Ytpaciehgafobfaa
set_option linter.unusedVariables false
open Go.RowKit Go.Proofs.Bell Go.BigFrame

def gstep (rs : List (Int × Int × Int)) (k : Nat) : Int := absI ((rg rs k).1 - (rg rs (k - 1)).1)
def gstK (rs : List (Int × Int × Int)) : Nat → Int
  | 0 => 0
  | k + 1 => if k = 0 then 0 else max (gstK rs k) (gstep rs k)
def gstI (nm : ByteArray) (rs : List (Int × Int × Int)) : Int × Int := if profB nm rs then (gstK rs rs.length, 0) else (0, 1)
theorem gstK_step {rs : List (Int × Int × Int)} {k : Nat} (h : 1 ≤ k) : gstK rs (k + 1) = max (gstK rs k) (gstep rs k) := by
  rw [gstK, if_neg (by omega)]

end Go.Proofs.Ytpaciehgafobfaa
