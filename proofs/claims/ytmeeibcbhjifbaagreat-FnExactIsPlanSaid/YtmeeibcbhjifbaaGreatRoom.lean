/- The room of all zones. -/
import Derived.Test.YtmeeibcbhjifbaaGreatGC
import Derived.Test.YtmeeibcbhjifbaaGreatGG
namespace Go.Proofs.YtmeeibcbhjifbaaGreat
set_option linter.unusedVariables false
open Go.RowKit Go.Proofs.Bell Go.BigFrame

def roomK (nm : ByteArray) (ps : List (Int × Int × Int)) (zs : List Int) : Nat → List Int
  | 0 => []
  | k + 1 => roomK nm ps zs k ++ [((mostI nm ps zs k : Nat) : Int)]
theorem roomK_len (nm : ByteArray) (ps : List (Int × Int × Int)) (zs : List Int) : ∀ k, (roomK nm ps zs k).length = k
  | 0 => rfl
  | k + 1 => by rw [roomK, List.length_append, roomK_len nm ps zs k]; rfl
def roomI (nm : ByteArray) (ps : List (Int × Int × Int)) (zs : List Int) : List Int × Int := if vzB nm ps zs then (roomK nm ps zs zs.length, 0) else ([], 1)
theorem roomI_len (nm : ByteArray) (ps : List (Int × Int × Int)) (zs : List Int) : (roomI nm ps zs).1.length ≤ 8 := by
  unfold roomI
  split
  · rename_i h
    simp only [vzB, Bool.and_eq_true] at h
    rw [roomK_len]; exact (zones_len h.2).2
  · simp

end Go.Proofs.YtmeeibcbhjifbaaGreat
