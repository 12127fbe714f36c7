/- The moment of inertia. -/
import Derived.Test.YtmeeibcbhjifbaaGH
namespace Go.Proofs.Ytmeeibcbhjifbaa
set_option linter.unusedVariables false
open Go.RowKit Go.Proofs.Bell Go.BigFrame

def radT (p : Int × Int × Int) : Int := rnd (p.1 * p.1 + p.2.1 * p.2.1) 20000
def momT (d : Int) (p : Int × Int × Int) : Int := rmassT d p * radT p
def momOfI (nm : ByteArray) (rs : List (Int × Int × Int)) (d : Int) : Int × Int := if denseI nm rs d = 0 then (fsum (momT d) rs, 0) else (0, denseI nm rs d)
theorem radT_bd {p : Int × Int × Int} (h : ringT p = true) : 0 ≤ p.1 * p.1 ∧ 0 ≤ p.2.1 * p.2.1 ∧ p.1 * p.1 ≤ 22500000000 ∧ p.2.1 * p.2.1 ≤ 22500000000 ∧ 0 ≤ radT p ∧ radT p ≤ 2250000 := by
  have s := secI_bd (o := p.1) (i := p.2.1) (h := p.2.2) h
  have c := rnd_nonneg (a := p.1 * p.1 + p.2.1 * p.2.1) (b := 20000) (by omega) (by omega)
  have e := rnd_le (a := p.1 * p.1 + p.2.1 * p.2.1) (b := 20000) (q := 2250000) (by omega) (by omega) (by omega)
  unfold radT
  omega
theorem momT_bd {d : Int} (h1 : 0 ≤ d) (h2 : d ≤ 20000) {p : Int × Int × Int} (h : ringT p = true) : 0 ≤ momT d p ∧ momT d p ≤ 954258873750000 := by
  have a := rmassT_bd h1 h2 h
  have b := radT_bd h
  have c := mul_bd a.2.2.1 b.2.2.2.2.1 a.2.2.2 b.2.2.2.2.2
  unfold momT
  omega
theorem masses_getD (ps : List (Int × Int × Int)) (d : Int) {k : Nat} (h : k < ps.length) : (massesI ps d).getD k 0 = rmassT d (rg ps k) := by
  rw [rg_eq h]; simp [massesI, List.getD, h]
theorem massesI_len (ps : List (Int × Int × Int)) (d : Int) : (massesI ps d).length = ps.length := by simp [massesI]

end Go.Proofs.Ytmeeibcbhjifbaa
