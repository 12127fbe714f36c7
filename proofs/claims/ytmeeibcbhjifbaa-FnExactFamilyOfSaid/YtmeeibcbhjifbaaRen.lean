/- A profile with another name. -/
import Derived.Test.YtmeeibcbhjifbaaGE
namespace Go.Proofs.Ytmeeibcbhjifbaa
set_option linter.unusedVariables false
open Go.RowKit Go.Proofs.Bell Go.BigFrame

def renI (nm : ByteArray) (rs : List (Int × Int × Int)) (n2 : ByteArray) : ByteArray × List (Int × Int × Int) × Int := if profB nm rs && nameB n2 then (n2, rs, 0) else (⟨#[]⟩, [], 1)
theorem renI_len (nm : ByteArray) (rs : List (Int × Int × Int)) (n2 : ByteArray) : (renI nm rs n2).2.1.length ≤ 32 := by
  unfold renI
  split
  · rename_i h
    simp only [Bool.and_eq_true] at h
    exact (profB_t h.1).2.1
  · simp

end Go.Proofs.Ytmeeibcbhjifbaa
