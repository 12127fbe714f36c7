/- The zone of a ring lies where the zones' bounds say. -/
import Derived.Test.YtddkjcdnomoglaaTurn2
namespace Go.Proofs.Ytddkjcdnomoglaa
set_option linter.unusedVariables false
open Go.RowKit Go.Proofs.Bell Go.BigFrame

theorem zs_step {zs : List Int} {m z : Nat} (h : zonesB zs ((m : Int) - 1) = true) (hz : z + 1 < zs.length) : zs.getD z 0 < zs.getD (z + 1) 0 := by
  have h1 := (zones_at h (show z < zs.length by omega)).2.1
  simpa only [zEnd, if_pos hz] using h1
theorem zs_rise {zs : List Int} {m z : Nat} (h : zonesB zs ((m : Int) - 1) = true) : ∀ d, z + d < zs.length → zs.getD z 0 ≤ zs.getD (z + d) 0
  | 0, _ => by simp
  | d + 1, hd => by
    have h1 := zs_rise (z := z) h d (by omega)
    have h2 := zs_step h (show (z + d) + 1 < zs.length by omega)
    rw [show z + (d + 1) = z + d + 1 by omega]
    omega
theorem zoneI_at {zs : List Int} {n z k : Nat} (h : zonesB zs ((n : Int) - 1) = true) (hz : z < zs.length) (h1 : zs.getD z 0 ≤ (k : Int)) (h2 : (k : Int) < zEnd zs n z) : zoneI zs k = z := by
  have key : ∀ d, z + 1 + d ≤ zs.length → lastLe zs k (z + 1 + d) = z := by
    intro d
    induction d with
    | zero => intro _; exact lastLe_yes hz (by rw [← getD_eq hz]; exact h1)
    | succ d ih =>
      intro hd
      have hlt : z + 1 + d < zs.length := by omega
      have hr := zs_rise (z := z + 1) h d hlt
      have he : zEnd zs n z = zs.getD (z + 1) 0 := by simp only [zEnd, if_pos (show z + 1 < zs.length by omega)]
      rw [show z + 1 + (d + 1) = (z + 1 + d) + 1 by omega, lastLe_no hlt (by rw [← getD_eq hlt]; omega)]
      exact ih (by omega)
  have := key (zs.length - (z + 1)) (by omega)
  rw [show z + 1 + (zs.length - (z + 1)) = zs.length by omega] at this
  exact this
theorem zoneI_lt (zs : List Int) (r : Int) (h : 1 ≤ zs.length) : zoneI zs r < zs.length := by
  unfold zoneI
  have key : ∀ k, 1 ≤ k → lastLe zs r k < k := by
    intro k hk
    obtain ⟨j, rfl⟩ : ∃ j, k = j + 1 := ⟨k - 1, by omega⟩
    unfold lastLe
    have := lastLe_le zs r j
    split <;> omega
  exact key _ h
theorem zs_zero {zs : List Int} {m : Nat} (h : zonesB zs ((m : Int) - 1) = true) : zs.getD 0 0 = 0 := by
  simp only [zonesB, Bool.and_eq_true, beq_iff_eq] at h
  exact h.1.2

end Go.Proofs.Ytddkjcdnomoglaa
