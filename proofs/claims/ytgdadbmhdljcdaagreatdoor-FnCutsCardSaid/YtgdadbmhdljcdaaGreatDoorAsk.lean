/- Cuts: whether they can be made. -/
import Derived.Test.YtgdadbmhdljcdaaGreatDoorGG
import Derived.Test.YtgdadbmhdljcdaaGreatDoorUB
namespace Go.Proofs.YtgdadbmhdljcdaaGreatDoor
set_option linter.unusedVariables false
open Go.RowKit Go.Proofs.Bell Go.BigFrame

def overB (zs : List Int) (cs : List (Int × Int)) : Bool := cs.any (fun c => decide ((zs.length : Int) ≤ c.1))
def cutAsk (nm : ByteArray) (ps : List (Int × Int × Int)) (zs : List Int) (cs : List (Int × Int)) : Int := if vzB nm ps zs && cutsB cs then (if overB zs cs then 2 else if (sumsOf cs).all (fun z => decide (z ≤ 20)) then 0 else 5) else 1
theorem over_yes {zs : List Int} {cs : List (Int × Int)} {k : Nat} (hk : k < cs.length) (h : (zs.length : Int) ≤ cs[k].1) : overB zs cs = true := by
  unfold overB
  exact List.any_eq_true.2 ⟨cs[k], List.getElem_mem hk, by simpa using h⟩
theorem over_no {zs : List Int} {cs : List (Int × Int)} (h : ∀ j (hj : j < cs.length), ¬ (zs.length : Int) ≤ cs[j].1) : overB zs cs = false := by
  unfold overB
  rw [List.any_eq_false]
  intro x hx
  obtain ⟨j, hj, rfl⟩ := List.mem_iff_getElem.1 hx
  simpa using h j hj

end Go.Proofs.YtgdadbmhdljcdaaGreatDoor
