/- Cuts made: the reference. -/
import Derived.Test.YtgdadbmhdljcdaaGreatDoorAsk
namespace Go.Proofs.YtgdadbmhdljcdaaGreatDoor
set_option linter.unusedVariables false
open Go.RowKit Go.Proofs.Bell Go.BigFrame

def applyI (nm : ByteArray) (ps : List (Int × Int × Int)) (zs : List Int) (cs : List (Int × Int)) : ByteArray × List (Int × Int × Int) × Int := if cutAsk nm ps zs cs = 0 then doneR nm (mapK (turnT zs (sumsOf cs)) ps ps.length) else (⟨#[]⟩, [], cutAsk nm ps zs cs)
theorem applyI_len (nm : ByteArray) (ps : List (Int × Int × Int)) (zs : List Int) (cs : List (Int × Int)) : (applyI nm ps zs cs).2.1.length ≤ 32 := by
  unfold applyI
  split
  · exact doneR_len _ _
  · simp
theorem cutAsk_ok {nm : ByteArray} {ps : List (Int × Int × Int)} {zs : List Int} {cs : List (Int × Int)} (h : cutAsk nm ps zs cs = 0) : vzB nm ps zs = true ∧ cutsB cs = true ∧ overB zs cs = false ∧ (sumsOf cs).all (fun z => decide (z ≤ 20)) = true := by
  unfold cutAsk at h
  cases h1 : vzB nm ps zs <;> cases h2 : cutsB cs <;> cases h3 : overB zs cs <;> cases h4 : (sumsOf cs).all (fun z => decide (z ≤ 20)) <;> simp [h1, h2, h3, h4] at h ⊢
theorem sums_bd {cs : List (Int × Int)} (h : cutsB cs = true) (k : Nat) : 0 ≤ (sumsOf cs).getD k 0 ∧ (sumsOf cs).getD k 0 ≤ 1000000000000 := by
  rcases Nat.lt_or_ge k 8 with hk | hk
  · have h1 := sumsOf_at cs hk
    rw [List.getD, h1]
    simp only [cutsB, Bool.and_eq_true, decide_eq_true_eq] at h
    have := zoneSum_bd h.1 k cs.length
    rw [List.take_of_length_le (Nat.le_refl _)] at this
    simp only [Option.getD_some]
    omega
  · rw [List.getD, List.getElem?_eq_none (by rw [sumsOf_len]; exact hk)]
    simp

end Go.Proofs.YtgdadbmhdljcdaaGreatDoor
