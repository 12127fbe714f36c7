/- Several texts of the proofs in one: Ren, Thick. -/
import Derived.Test.YtgdadbmhdljcdaaGreatDoorGE
/- A profile with another name. -/
namespace Go.Proofs.YtgdadbmhdljcdaaGreatDoor
set_option linter.unusedVariables false
open Go.RowKit Go.Proofs.Bell Go.BigFrame

def renI (nm : ByteArray) (rs : List (Int × Int × Int)) (n2 : ByteArray) : ByteArray × List (Int × Int × Int) × Int := if profB nm rs && nameB n2 then (n2, rs, 0) else (⟨#[]⟩, [], 1)
theorem renI_len (nm : ByteArray) (rs : List (Int × Int × Int)) (n2 : ByteArray) : (renI nm rs n2).2.1.length ≤ 32 := by
  unfold renI
  split
  · rename_i h
    simp only [Bool.and_eq_true] at h
    exact (profB_t h.1).2.1
  · simp

end Go.Proofs.YtgdadbmhdljcdaaGreatDoor

/- A profile, thickened. -/
namespace Go.Proofs.YtgdadbmhdljcdaaGreatDoor
set_option linter.unusedVariables false
open Go.RowKit Go.Proofs.Bell Go.BigFrame

def thickT (d : Int) (_ : Nat) (r : Int × Int × Int) : Int × Int × Int := (r.1 + d, r.2.1, r.2.2)
def thickI (nm : ByteArray) (ps : List (Int × Int × Int)) (d : Int) : ByteArray × List (Int × Int × Int) × Int := if profB nm ps then (if inB d (-150000) 150000 then doneR nm (mapK (thickT d) ps ps.length) else (⟨#[]⟩, [], 2)) else (⟨#[]⟩, [], 1)
theorem doneR_len (nm : ByteArray) (qs : List (Int × Int × Int)) : (doneR nm qs).2.1.length ≤ 32 := by
  unfold doneR
  split
  · rename_i h; exact (profB_t h).2.1
  · simp
theorem thickI_len (nm : ByteArray) (ps : List (Int × Int × Int)) (d : Int) : (thickI nm ps d).2.1.length ≤ 32 := by
  unfold thickI
  split
  · split
    · exact doneR_len _ _
    · simp
  · simp

end Go.Proofs.YtgdadbmhdljcdaaGreatDoor

