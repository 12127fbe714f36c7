/- Logarithms of frequencies: the plain words. -/
import Derived.Test.YtmeeibcbhjifbaaGreatGA
namespace Go.Proofs.YtmeeibcbhjifbaaGreat
set_option linter.unusedVariables false
open Go.RowKit Go.Proofs.Bell Go.BigFrame

def cStep (p : Int × Int) : Int × Int := if 2147483648 ≤ p.1 * p.1 / 1073741824 then (p.1 * p.1 / 1073741824 / 2, p.2 * 2 + 1) else (p.1 * p.1 / 1073741824, p.2 * 2)
def cK (x : Int) : Nat → Int × Int
  | 0 => (x, 0)
  | k + 1 => cStep (cK x k)
def lg (n : Nat) : Nat := Nat.log2 n
def fineV (n : Nat) : Int := (lg n : Int) * 16777216 + (cK ((n * 2 ^ (30 - lg n) : Nat) : Int) 24).2
def logV (n : Nat) : Int := 12000 * fineV n / 16777216
def betV (f g : Nat) : Int := logV g - logV f

theorem lg_le {n k : Nat} (h : 0 < n) : k ≤ lg n ↔ 2 ^ k ≤ n := Nat.le_log2 (by omega)
theorem lg_lt {n k : Nat} (h : 0 < n) : lg n < k ↔ n < 2 ^ k := Nat.log2_lt (by omega)
theorem lg_bd {n : Nat} (h1 : 1 ≤ n) (h2 : n ≤ 20000000) : lg n ≤ 24 := by
  have := (lg_lt (k := 25) (show 0 < n by omega)).2 (by omega)
  omega
theorem top_bd {n : Nat} (h1 : 1 ≤ n) (h2 : n ≤ 20000000) : 1073741824 ≤ n * 2 ^ (30 - lg n) ∧ n * 2 ^ (30 - lg n) < 2147483648 := by
  have hb := lg_bd h1 h2
  have a := (lg_le (k := lg n) (show 0 < n by omega)).1 (Nat.le_refl _)
  have b := (lg_lt (k := lg n + 1) (show 0 < n by omega)).1 (Nat.lt_succ_self _)
  have e1 : 2 ^ lg n * 2 ^ (30 - lg n) = 1073741824 := by rw [← Nat.pow_add, show lg n + (30 - lg n) = 30 by omega]
  have e2 : 2 ^ (lg n + 1) * 2 ^ (30 - lg n) = 2147483648 := by rw [← Nat.pow_add, show lg n + 1 + (30 - lg n) = 31 by omega]
  have hp : 0 < 2 ^ (30 - lg n) := Nat.pow_pos (by decide)
  refine ⟨?_, ?_⟩
  · rw [← e1]; exact Nat.mul_le_mul_right _ a
  · rw [← e2]; exact Nat.mul_lt_mul_of_pos_right b hp
theorem sq_bd {x : Int} (h1 : 1073741824 ≤ x) (h2 : x < 2147483648) : 1152921504606846976 ≤ x * x ∧ x * x ≤ 4611686014132420609 ∧ 1073741824 ≤ x * x / 1073741824 ∧ x * x / 1073741824 < 4294967296 := by
  have a : 1073741824 * 1073741824 ≤ x * x := Int.mul_le_mul h1 h1 (by omega) (by omega)
  have b : x * x ≤ 2147483647 * 2147483647 := Int.mul_le_mul (by omega) (by omega) (by omega) (by omega)
  omega
theorem cK_bd {x : Int} (h1 : 1073741824 ≤ x) (h2 : x < 2147483648) : ∀ k, 1073741824 ≤ (cK x k).1 ∧ (cK x k).1 < 2147483648 ∧ 0 ≤ (cK x k).2 ∧ (cK x k).2 < 2 ^ k
  | 0 => by simp only [cK]; omega
  | k + 1 => by
    obtain ⟨a, b, c, d⟩ := cK_bd h1 h2 k
    obtain ⟨_, _, e, f⟩ := sq_bd a b
    have hp : (2 : Int) ^ (k + 1) = 2 * 2 ^ k := by rw [Int.pow_succ, Int.mul_comm]
    rw [cK, cStep]
    generalize (cK x k).1 * (cK x k).1 / 1073741824 = y at *
    generalize (cK x k).2 = r at *
    rw [hp]
    split
    · simp only; omega
    · simp only; omega
theorem pow_24 : ∀ k : Nat, k ≤ 24 → (2 : Int) ^ k ≤ 16777216
  | k, h => by
    have : (2 : Nat) ^ k ≤ 2 ^ 24 := Nat.pow_le_pow_right (by decide) h
    have h2 : ((2 : Nat) ^ k : Int) = ((2 ^ k : Nat) : Int) := by simp
    have h3 : (2 : Int) ^ k = ((2 ^ k : Nat) : Int) := by simp
    rw [h3]
    omega
theorem fine_bd {n : Nat} (h1 : 1 ≤ n) (h2 : n ≤ 20000000) : 0 ≤ fineV n ∧ fineV n ≤ 419430400 := by
  have hb := lg_bd h1 h2
  have ht := top_bd h1 h2
  obtain ⟨_, _, c, d⟩ := cK_bd (x := ((n * 2 ^ (30 - lg n) : Nat) : Int)) (by omega) (by omega) 24
  unfold fineV
  have : (2 : Int) ^ 24 = 16777216 := by decide
  omega
theorem log_bd {n : Nat} (h1 : 1 ≤ n) (h2 : n ≤ 20000000) : 0 ≤ logV n ∧ logV n ≤ 300000 := by
  have := fine_bd h1 h2
  unfold logV
  omega

end Go.Proofs.YtmeeibcbhjifbaaGreat
