/- Plain integer mathematics of the program: no program in sight. -/
import Derived.WalkKit
namespace Go.Proofs.Bell

/-- `n` lies from `lo` to `hi`. -/
def inB (n lo hi : Int) : Bool := decide (lo ≤ n ∧ n ≤ hi)
theorem inB_t {n lo hi : Int} (h : inB n lo hi = true) : lo ≤ n ∧ n ≤ hi := of_decide_eq_true h
theorem inB_f {n lo hi : Int} (h : inB n lo hi = false) : ¬ (lo ≤ n ∧ n ≤ hi) := of_decide_eq_false h
theorem inB_mk {n lo hi : Int} (h : lo ≤ n ∧ n ≤ hi) : inB n lo hi = true := decide_eq_true h
theorem inB_no {n lo hi : Int} (h : ¬ (lo ≤ n ∧ n ≤ hi)) : inB n lo hi = false := decide_eq_false h

/-- the nearest quotient, halves away from nought; `b` is positive -/
def rnd (a b : Int) : Int := if a < 0 then -((b - 2 * a) / (2 * b)) else (2 * a + b) / (2 * b)

/-- a product of two bounded numbers -/
theorem mul_le_of {a b A B : Int} (ha : 0 ≤ a) (hb : 0 ≤ b) (h1 : a ≤ A) (h2 : b ≤ B) : 0 ≤ a * b ∧ a * b ≤ A * B :=
  ⟨Int.mul_nonneg ha hb, Int.mul_le_mul h1 h2 hb (by omega)⟩

/-- what nearest computes, from the quotient and the rest -/
theorem rnd_pos (a b : Int) (ha : 0 ≤ a) (hb : 0 < b) : rnd a b = if b - a % b ≤ a % b then a / b + 1 else a / b := by
  unfold rnd
  rw [if_neg (by omega)]
  have h1 := Int.mul_ediv_add_emod a b
  have h2 := Int.emod_nonneg a (by omega : b ≠ 0)
  have h3 := Int.emod_lt_of_pos a hb
  generalize a / b = q at *
  generalize a % b = r at *
  have e : 2 * a + b = (2 * r + b) + (2 * b) * q := by rw [← h1]; rw [Int.mul_add, Int.mul_assoc]; omega
  rw [e, Int.add_mul_ediv_left _ _ (by omega)]
  split
  · have : (2 * r + b) / (2 * b) = 1 := by
      rw [Int.ediv_eq_iff_of_pos (by omega)]; omega
    omega
  · have : (2 * r + b) / (2 * b) = 0 := Int.ediv_eq_zero_of_lt (by omega) (by omega)
    omega

theorem rnd_neg (a b : Int) (ha : a < 0) : rnd a b = - rnd (-a) b := by
  unfold rnd
  rw [if_pos ha, if_neg (by omega)]
  have : b - 2 * a = 2 * -a + b := by omega
  rw [this]

end Go.Proofs.Bell
