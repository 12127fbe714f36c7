/- Several texts of the proofs in one: Cuts3, Cuts4. -/
import Derived.Test.YtgdadbmhdljcdaaDoorGA
import Derived.Test.YtgdadbmhdljcdaaDoorGB
/- Cuts: the sums of steps, in all and for each zone. -/
namespace Go.Proofs.YtgdadbmhdljcdaaDoor
set_option linter.unusedVariables false
open Go.RowKit Go.Proofs.Bell Go.BigFrame

/-- the sum of all steps -/
def sumSteps (ps : List (Int × Int)) : Int := (ps.map (·.2)).sum
theorem sumSteps_snoc (ps : List (Int × Int)) {k : Nat} (h : k < ps.length) : sumSteps (ps.take (k + 1)) = sumSteps (ps.take k) + ps[k].2 := by
  show ((ps.take (k + 1)).map (·.2)).sum = ((ps.take k).map (·.2)).sum + _
  rw [List.take_succ_eq_append_getElem h, List.map_append, List.sum_append]; simp
theorem sumSteps_bd {ps : List (Int × Int)} (h : ps.all cutB = true) : ∀ k, 0 ≤ sumSteps (ps.take k) ∧ sumSteps (ps.take k) ≤ 20 * k := by
  intro k
  induction k with
  | zero => simp [sumSteps]
  | succ k ih =>
    rcases Nat.lt_or_ge k ps.length with hk | hk
    · rw [sumSteps_snoc ps hk]
      have h1 := List.all_eq_true.1 h ps[k] (List.getElem_mem hk)
      simp only [cutB, Bool.and_eq_true] at h1
      have := inB_t h1.2
      omega
    · rw [List.take_of_length_le (by omega)] at ih ⊢; omega

def totalI (ps : List (Int × Int)) : Int × Int := if cutsB ps then (sumSteps ps, 0) else (0, 1)

/-- the steps of one zone, of all zones -/
def zoneSum (ps : List (Int × Int)) (z : Nat) : Int := ((ps.filter (fun p => p.1 == (z : Int))).map (·.2)).sum
def sumsOf (ps : List (Int × Int)) : List Int := (List.range 8).map (zoneSum ps)
theorem sumsOf_len (ps : List (Int × Int)) : (sumsOf ps).length = 8 := by simp [sumsOf]
theorem sumsOf_at (ps : List (Int × Int)) {z : Nat} (h : z < 8) : (sumsOf ps)[z]? = some (zoneSum ps z) := by
  simp only [sumsOf, List.getElem?_map, List.getElem?_range h, Option.map_some]
theorem zoneSum_snoc (ps : List (Int × Int)) (p : Int × Int) (z : Nat) : zoneSum (ps ++ [p]) z = zoneSum ps z + if p.1 = (z : Int) then p.2 else 0 := by
  unfold zoneSum
  rw [List.filter_append, List.map_append, List.sum_append]
  by_cases h : p.1 = (z : Int) <;> simp [List.filter_cons, h]
theorem sumsOf_snoc (ps : List (Int × Int)) {k : Nat} (h : k < ps.length) {z : Nat} (hz : ps[k].1 = (z : Int)) : sumsOf (ps.take (k + 1)) = (sumsOf (ps.take k)).set z (zoneSum (ps.take k) z + ps[k].2) := by
  apply List.ext_getElem?
  intro j
  rw [List.take_succ_eq_append_getElem h]
  rcases Nat.lt_or_ge j 8 with hj | hj
  · rw [sumsOf_at _ hj, zoneSum_snoc, hz]
    by_cases e : z = j
    · subst e; rw [List.getElem?_set_self (by rw [sumsOf_len]; exact hj)]; simp
    · rw [List.getElem?_set_ne e, sumsOf_at _ hj]
      have : ¬ ((z : Int) = (j : Int)) := by omega
      simp [this]
  · rw [List.getElem?_eq_none (by rw [sumsOf_len]; exact hj), List.getElem?_eq_none (by rw [List.length_set, sumsOf_len]; exact hj)]
theorem zoneSum_bd {ps : List (Int × Int)} (h : ps.all cutB = true) (z : Nat) : ∀ k, 0 ≤ zoneSum (ps.take k) z ∧ zoneSum (ps.take k) z ≤ 20 * k := by
  intro k
  induction k with
  | zero => simp [zoneSum]
  | succ k ih =>
    rcases Nat.lt_or_ge k ps.length with hk | hk
    · rw [List.take_succ_eq_append_getElem hk, zoneSum_snoc]
      have h1 := List.all_eq_true.1 h ps[k] (List.getElem_mem hk)
      simp only [cutB, Bool.and_eq_true] at h1
      have := inB_t h1.2
      split <;> omega
    · rw [List.take_of_length_le (by omega)] at ih ⊢; omega

theorem ints_set (zs : List Int) (z : Nat) (x : Int) : (ints zs).set z (.int .i64 x) = ints (zs.set z x) := by simp [ints]

theorem sum_set : ∀ (l : List Int) (z : Nat) (x y : Int), l[z]? = some y → (l.set z x).sum = l.sum + x - y
  | [], z, x, y, h => by simp at h
  | a :: l, 0, x, y, h => by simp at h; subst h; simp; omega
  | a :: l, z + 1, x, y, h => by
    simp only [List.getElem?_cons_succ] at h
    have := sum_set l z x y h
    simp only [List.set_cons_succ, List.sum_cons]
    omega
theorem sum_sumsOf {ps : List (Int × Int)} (h : ps.all cutB = true) : ∀ k, (sumsOf (ps.take k)).sum = sumSteps (ps.take k) := by
  intro k
  induction k with
  | zero => rfl
  | succ k ih =>
    rcases Nat.lt_or_ge k ps.length with hk | hk
    · have h1 := List.all_eq_true.1 h ps[k] (List.getElem_mem hk)
      simp only [cutB, Bool.and_eq_true] at h1
      obtain ⟨q1, q2⟩ := inB_t h1.1
      obtain ⟨z, hz⟩ := Int.eq_ofNat_of_zero_le q1
      rw [sumsOf_snoc ps hk hz, sum_set _ z _ _ (sumsOf_at _ (by omega)), ih, sumSteps_snoc ps hk]
      omega
    · rw [List.take_of_length_le (by omega)] at ih ⊢; exact ih

end Go.Proofs.YtgdadbmhdljcdaaDoor

/- The reference's ValidCuts. -/
namespace Go.Proofs.YtgdadbmhdljcdaaDoor
set_option linter.unusedVariables false
open Go.RowKit Go.Proofs.Bell Go.BigFrame

end Go.Proofs.YtgdadbmhdljcdaaDoor

