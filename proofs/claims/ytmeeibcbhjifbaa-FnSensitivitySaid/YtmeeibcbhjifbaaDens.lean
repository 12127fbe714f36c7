/- The least density. -/
import Derived.Test.YtmeeibcbhjifbaaGH
namespace Go.Proofs.Ytmeeibcbhjifbaa
set_option linter.unusedVariables false
open Go.RowKit Go.Proofs.Bell Go.BigFrame

theorem rnd_mono {a b m : Int} (ha : 0 ≤ a) (h : a ≤ b) (hm : 1 ≤ m) : rnd a m ≤ rnd b m := by
  unfold rnd
  rw [if_neg (by omega), if_neg (by omega)]
  exact Int.ediv_le_ediv (by omega) (by omega)
theorem mass_mono {rs : List (Int × Int × Int)} {d e : Int} (hv : 0 ≤ volI rs) (h0 : 0 ≤ d) (h : d ≤ e) : massI rs d ≤ massI rs e :=
  rnd_mono (Int.mul_nonneg hv h0) (Int.mul_le_mul_of_nonneg_left h hv) (by omega)
theorem below_next {p : Nat → Bool} {k : Nat} (h : ∀ i, i < k → p i = false) (hk : p k = false) : ∀ i, i < k + 1 → p i = false := fun i hi => by
  rcases Nat.lt_or_ge i k with h1 | h1
  · exact h i h1
  · rw [show i = k by omega]; exact hk
theorem low_next {p : Nat → Bool} {q : Nat} (hup : ∀ i j, i ≤ j → p i = true → p j = true) (hq : p q = false) : ∀ i, i < q + 1 → p i = false := fun i hi => by
  cases hh : p i
  · rfl
  · have := hup i q (by omega) hh
    rw [hq] at this; cases this
/-- is it enough? -/
def enoughB (rs : List (Int × Int × Int)) (m : Int) (j : Nat) : Bool := decide (m ≤ massI rs (1000 + (j : Int)))
def leastJ (rs : List (Int × Int × Int)) (m : Int) : Nat := (List.range 19001).findIdx (enoughB rs m)
theorem leastJ_eq {rs : List (Int × Int × Int)} {m : Int} {j : Nat} (hj : j < 19001) (h1 : enoughB rs m j = true) (h0 : ∀ i, i < j → enoughB rs m i = false) : leastJ rs m = j := by
  unfold leastJ
  rw [List.findIdx_eq (by simpa using hj)]
  exact ⟨by simpa using h1, fun i hi => by simpa using h0 i hi⟩
theorem leastJ_none {rs : List (Int × Int × Int)} {m : Int} (h0 : ∀ i, i < 19001 → enoughB rs m i = false) : leastJ rs m = 19001 := by
  unfold leastJ
  have := List.findIdx_eq_length (p := enoughB rs m) (xs := List.range 19001)
  rw [List.length_range] at this
  exact this.2 (fun x hx => h0 x (List.mem_range.1 hx))
def densJ (rs : List (Int × Int × Int)) (m : Int) : Int × Int := if leastJ rs m < 19001 then (1000 + (leastJ rs m : Int), 0) else (0, 3)
theorem densJ_yes {rs : List (Int × Int × Int)} {m : Int} {j : Nat} (h : leastJ rs m = j) (hj : j ≤ 19000) : densJ rs m = (1000 + (j : Int), 0) := by unfold densJ; rw [h, if_pos (by omega)]
theorem densJ_no {rs : List (Int × Int × Int)} {m : Int} (h : leastJ rs m = 19001) : densJ rs m = (0, 3) := by unfold densJ; rw [h, if_neg (by omega)]
def densI (nm : ByteArray) (rs : List (Int × Int × Int)) (m : Int) : Int × Int :=
  if profB nm rs then (if inB m 0 1000000000 then densJ rs m else (0, 2)) else (0, 1)

end Go.Proofs.Ytmeeibcbhjifbaa
