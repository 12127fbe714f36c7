/- Slices of cuts: the law's copy, size, comparison, marks. -/
import Derived.Test.YtpaciehgafobfaaInts
import Derived.Test.YtpaciehgafobfaaMem
import Derived.Test.YtpaciehgafobfaaNums
import Derived.Lib.Hide
namespace Go.Proofs.Ytpaciehgafobfaa
set_option linter.unusedVariables false
open Go.RowKit Go.Proofs.Bell Go.BigFrame

def eqP (p q : Int × Int) : Bool := decide (p = q)
def eqPs (ps qs : List (Int × Int)) : Bool := decide (ps = qs)
theorem eqPs_refl (ps : List (Int × Int)) : eqPs ps ps = true := decide_eq_true rfl

/-- the marks of `n` of them, from `k0` on -/
def mk2 (k0 : Int) (n : Nat) : List (Int × Int) := (List.range n).map fun i : Nat => (k0 + 2 * (i : Int), k0 + 2 * (i : Int) + 1)
theorem mk2_len (k0 : Int) (n : Nat) : (mk2 k0 n).length = n := by simp [mk2]
theorem mk2_get {k0 : Int} {n i : Nat} (h : i < (mk2 k0 n).length) : (mk2 k0 n)[i] = (k0 + 2 * (i : Int), k0 + 2 * (i : Int) + 1) := by simp [mk2]

end Go.Proofs.Ytpaciehgafobfaa
