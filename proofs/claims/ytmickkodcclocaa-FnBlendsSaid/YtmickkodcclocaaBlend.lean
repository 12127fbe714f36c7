/- A profile between two: the reference. -/
import Derived.Test.YtmickkodcclocaaBld
import Derived.BigQuiet
namespace Go.Proofs.Ytmickkodcclocaa
set_option linter.unusedVariables false
open Go.RowKit Go.Proofs.Bell Go.BigFrame

def btw (a b share : Int) : Int := a + rnd ((b - a) * share) 1000
def blT (share : Int) (qs : List (Int × Int × Int)) (k : Nat) (r : Int × Int × Int) : Int × Int × Int := (btw r.1 (rg qs k).1 share, btw r.2.1 (rg qs k).2.1 share, btw r.2.2 (rg qs k).2.2 share)
def blendI (nm : ByteArray) (ps : List (Int × Int × Int)) (nm' : ByteArray) (qs : List (Int × Int × Int)) (share : Int) : ByteArray × List (Int × Int × Int) × Int :=
  if profB nm ps && profB nm' qs then (if inB share 0 1000 then (if ps.length = qs.length then doneR nm (mapK (blT share qs) ps ps.length) else (⟨#[]⟩, [], 7)) else (⟨#[]⟩, [], 2)) else (⟨#[]⟩, [], 1)
theorem blendI_len (nm : ByteArray) (ps : List (Int × Int × Int)) (nm' : ByteArray) (qs : List (Int × Int × Int)) (share : Int) : (blendI nm ps nm' qs share).2.1.length ≤ 32 := by
  unfold blendI
  split
  · split
    · split
      · exact doneR_len _ _
      · simp
    · simp
  · simp
theorem mixm_bd {x y : Int} (h1 : -300000 ≤ x) (h2 : x ≤ 300000) (h3 : 0 ≤ y) (h4 : y ≤ 1000) : -300000000 ≤ x * y ∧ x * y ≤ 300000000 := by
  have a := Int.mul_le_mul_of_nonneg_right h2 h3
  have b := Int.mul_le_mul_of_nonneg_right h1 h3
  omega

end Go.Proofs.Ytmickkodcclocaa
