/- One ring: area and volume, the program's and the reference's. -/
import Derived.Test.YtddkjcdnomoglaaRing
import Derived.Test.YtddkjcdnomoglaaMem
import Derived.Lib.Hide
namespace Go.Proofs.Ytddkjcdnomoglaa
set_option linter.unusedVariables false
open Go.RowKit Go.Proofs.Bell Go.BigFrame

theorem sq_le {a A : Int} (ha : 0 ≤ a) (h : a ≤ A) : 0 ≤ a * a ∧ a * a ≤ A * A := mul_le_of ha ha h h

def secI (o i : Int) : Int := o * o - i * i
theorem secI_bd {o i h : Int} (hh : ringB o i h = true) : 0 ≤ secI o i ∧ secI o i ≤ 22500000000 ∧ 0 ≤ o * o ∧ o * o ≤ 22500000000 ∧ 0 ≤ i * i ∧ i * i ≤ 22500000000 := by
  obtain ⟨h1, h2, h3, h4, h5, h6⟩ := ringB_t hh
  have a := sq_le (a := o) (A := 150000) (by omega) h2
  have b := sq_le (a := i) (A := 150000) h3 (by omega)
  have c : i * i ≤ o * o := Int.mul_le_mul (by omega) (by omega) h3 (by omega)
  unfold secI
  omega

theorem rnd_nonneg {a b : Int} (ha : 0 ≤ a) (hb : 1 ≤ b) : 0 ≤ rnd a b := by
  unfold rnd; rw [if_neg (by omega)]; exact Int.ediv_nonneg (by omega) (by omega)
/-- a quotient of a bounded number -/
theorem rnd_le {a b q : Int} (ha : 0 ≤ a) (hb : 1 ≤ b) (h : 2 * a + b < 2 * b * (q + 1)) : rnd a b ≤ q := by
  unfold rnd; rw [if_neg (by omega)]
  exact Int.lt_add_one_iff.mp (Int.ediv_lt_of_lt_mul (by omega) (by rw [show (q + 1) * (2 * b) = 2 * b * (q + 1) from Int.mul_comm _ _]; exact h))

def tubeI (sq h : Int) : Int := rnd (rnd (sq * h) 1000000 * 3141593) 1000000
theorem tube_bd {sq h : Int} (h1 : 0 ≤ sq) (h2 : sq ≤ 22500000000) (h3 : 0 ≤ h) (h4 : h ≤ 300000) :
    0 ≤ sq * h ∧ sq * h ≤ 6750000000000000 ∧ 0 ≤ rnd (sq * h) 1000000 ∧ rnd (sq * h) 1000000 ≤ 6750000000 ∧ 0 ≤ tubeI sq h ∧ tubeI sq h ≤ 21205752750 := by
  have a := mul_le_of h1 h3 h2 h4
  have b := rnd_nonneg (a := sq * h) (b := 1000000) a.1 (by omega)
  have c := rnd_le (a := sq * h) (b := 1000000) (q := 6750000000) a.1 (by omega) (by omega)
  have d := rnd_nonneg (a := rnd (sq * h) 1000000 * 3141593) (b := 1000000) (by omega) (by omega)
  have e := rnd_le (a := rnd (sq * h) 1000000 * 3141593) (b := 1000000) (q := 21205752750) (by omega) (by omega) (by omega)
  unfold tubeI
  omega

def areaI (o i h : Int) : Int × Int := if ringB o i h then (rnd (secI o i * 3141593) 10000000000, 0) else (0, 1)
def rvolI (o i h : Int) : Int × Int := if ringB o i h then (tubeI (secI o i) h, 0) else (0, 1)

theorem area_bd {o i h : Int} (hh : ringB o i h = true) : 0 ≤ secI o i * 3141593 ∧ secI o i * 3141593 ≤ 4000000000000000000 := by
  have := secI_bd hh; omega

end Go.Proofs.Ytddkjcdnomoglaa
