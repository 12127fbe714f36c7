/- The mean walls of zones: both. -/
import Derived.Test.YtmeeibcbhjifbaaGreatZW2
namespace Go.Proofs.YtmeeibcbhjifbaaGreat
set_option linter.unusedVariables false
open Go.RowKit Go.Proofs.Bell Go.BigFrame

def zoneWallsI (nm : ByteArray) (ps : List (Int × Int × Int)) (zs : List Int) : List Int × Int := if profB nm ps then (if vzB nm ps zs then (zwK ps zs zs.length, 0) else ([], 2)) else ([], 1)
theorem zoneWallsI_len (nm : ByteArray) (ps : List (Int × Int × Int)) (zs : List Int) : (zoneWallsI nm ps zs).1.length ≤ 8 := by
  unfold zoneWallsI
  split
  · split
    · rename_i h
      simp only [vzB, Bool.and_eq_true] at h
      rw [zwK_len]; exact (zones_len h.2).2
    · simp
  · simp

end Go.Proofs.YtmeeibcbhjifbaaGreat
