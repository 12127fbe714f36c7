/- What cuts take away. -/
import Derived.Test.YtmeeibcbhjifbaaGreatApply2
import Derived.Test.YtmeeibcbhjifbaaGreatMom
namespace Go.Proofs.YtmeeibcbhjifbaaGreat
set_option linter.unusedVariables false
open Go.RowKit Go.Proofs.Bell Go.BigFrame

def chipK (ps qs : List (Int × Int × Int)) : Nat → Int
  | 0 => 0
  | k + 1 => chipK ps qs k + ((rg qs k).2.1 - (rg ps k).2.1) * (rg ps k).2.2
def chipsI (nm : ByteArray) (ps : List (Int × Int × Int)) (zs : List Int) (cs : List (Int × Int)) : Int × Int := if (applyI nm ps zs cs).2.2 = 0 then (chipK ps (applyI nm ps zs cs).2.1 ps.length, 0) else (0, (applyI nm ps zs cs).2.2)
theorem prod_bd {x y : Int} (h1 : -150000 ≤ x) (h2 : x ≤ 150000) (h3 : 0 ≤ y) (h4 : y ≤ 300000) : -45000000000 ≤ x * y ∧ x * y ≤ 45000000000 := by
  have a := Int.mul_le_mul_of_nonneg_right h2 h3
  have b := Int.mul_le_mul_of_nonneg_right h1 h3
  omega
theorem chipK_bd {ps qs : List (Int × Int × Int)} (h : ps.all ringT = true) (h' : qs.all ringT = true) : ∀ k, k ≤ ps.length → k ≤ qs.length → -45000000000 * (k : Int) ≤ chipK ps qs k ∧ chipK ps qs k ≤ 45000000000 * k
  | 0, _, _ => by simp [chipK]
  | k + 1, h1, h2 => by
    have ih := chipK_bd h h' k (by omega) (by omega)
    have a := ringT_t (all_at h (show k < ps.length by omega))
    have b := ringT_t (all_at h' (show k < qs.length by omega))
    have := prod_bd (x := (rg qs k).2.1 - (rg ps k).2.1) (y := (rg ps k).2.2) (by omega) (by omega) (by omega) (by omega)
    simp only [chipK]
    omega
theorem doneR_ok {nm : ByteArray} {qs : List (Int × Int × Int)} (h : (doneR nm qs).2.2 = 0) : profB nm qs = true ∧ (doneR nm qs).1 = nm ∧ (doneR nm qs).2.1 = qs := by
  unfold doneR at h ⊢
  cases t : profB nm qs
  · simp [t] at h
  · simp
theorem applyI_ok {nm : ByteArray} {ps : List (Int × Int × Int)} {zs : List Int} {cs : List (Int × Int)} (h : (applyI nm ps zs cs).2.2 = 0) :
    profB nm ps = true ∧ (applyI nm ps zs cs).2.1.length = ps.length ∧ (applyI nm ps zs cs).2.1.all ringT = true := by
  by_cases t0 : cutAsk nm ps zs cs = 0
  · have he : applyI nm ps zs cs = doneR nm (mapK (turnT zs (sumsOf cs)) ps ps.length) := by simp [applyI, t0]
    rw [he] at h ⊢
    obtain ⟨h1, h2, h3⟩ := doneR_ok h
    rw [h3]
    obtain ⟨t1, _⟩ := cutAsk_ok t0
    have hpz : profB nm ps = true ∧ zonesB zs ((ps.length : Int) - 1) = true := by simpa only [vzB, Bool.and_eq_true] using t1
    exact ⟨hpz.1, mapK_len _ _ _, (profB_t h1).2.2.1⟩
  · have he : applyI nm ps zs cs = (⟨#[]⟩, [], cutAsk nm ps zs cs) := by simp [applyI, t0]
    rw [he] at h
    exact absurd h t0

end Go.Proofs.YtmeeibcbhjifbaaGreat
