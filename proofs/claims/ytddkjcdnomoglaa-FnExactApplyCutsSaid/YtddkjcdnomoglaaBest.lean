/- The widest and the thinnest ring. -/
import Derived.Test.YtddkjcdnomoglaaValid2
namespace Go.Proofs.Ytddkjcdnomoglaa
set_option linter.unusedVariables false
open Go.RowKit Go.Proofs.Bell Go.BigFrame

def bestK (b : (Int × Int × Int) → (Int × Int × Int) → Bool) (rs : List (Int × Int × Int)) : Nat → Nat
  | 0 => 0
  | k + 1 => if b (rg rs k) (rg rs (bestK b rs k)) then k else bestK b rs k
theorem bestK_lt {b : (Int × Int × Int) → (Int × Int × Int) → Bool} {rs : List (Int × Int × Int)} {n : Nat} (hn : 1 ≤ n) : ∀ k, k ≤ n → bestK b rs k < n
  | 0, _ => by simp [bestK]; omega
  | k + 1, h => by
    have := bestK_lt (b := b) (rs := rs) hn k (by omega)
    simp only [bestK]
    split <;> omega
def widB (p q : Int × Int × Int) : Bool := decide (q.1 < p.1)
def thinB (p q : Int × Int × Int) : Bool := decide (p.1 - p.2.1 < q.1 - q.2.1)
theorem widK_one (rs : List (Int × Int × Int)) : bestK widB rs 1 = 0 := by cases h : widB (rg rs 0) (rg rs 0) <;> simp [bestK, h]
theorem thinK_one (rs : List (Int × Int × Int)) : bestK thinB rs 1 = 0 := by cases h : thinB (rg rs 0) (rg rs 0) <;> simp [bestK, h]
def widI (nm : ByteArray) (rs : List (Int × Int × Int)) : Int × Int := if profB nm rs then ((bestK widB rs rs.length : Int), 0) else (0, 1)
def thinI (nm : ByteArray) (rs : List (Int × Int × Int)) : Int × Int := if profB nm rs then ((bestK thinB rs rs.length : Int), 0) else (0, 1)
theorem profB_t {nm : ByteArray} {rs : List (Int × Int × Int)} (h : profB nm rs = true) : 1 ≤ rs.length ∧ rs.length ≤ 32 ∧ rs.all ringT = true ∧ heightI rs ≤ 300000 := by
  simp only [profB, Bool.and_eq_true, decide_eq_true_eq] at h
  exact ⟨h.1.1.1.1.2, h.1.1.1.2, h.1.1.2, h.2⟩

end Go.Proofs.Ytddkjcdnomoglaa
