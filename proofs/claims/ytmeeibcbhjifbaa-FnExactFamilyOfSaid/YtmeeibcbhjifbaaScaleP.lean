/- A profile of another size: both sides of ScaleForPitch. -/
import Derived.Test.YtmeeibcbhjifbaaGoals
import Derived.Test.YtmeeibcbhjifbaaScaled
namespace Go.Proofs.Ytmeeibcbhjifbaa
set_option linter.unusedVariables false
open Go.RowKit Go.Proofs.Bell Go.BigFrame

def pitchPI (nm : ByteArray) (ps : List (Int × Int × Int)) (num den : Int) : ByteArray × List (Int × Int × Int) × Int := if profB nm ps then (if freqB num && freqB den then doneR nm (mapK (scT num den) ps ps.length) else (⟨#[]⟩, [], 2)) else (⟨#[]⟩, [], 1)
theorem pitchPI_len (nm : ByteArray) (ps : List (Int × Int × Int)) (num den : Int) : (pitchPI nm ps num den).2.1.length ≤ 32 := by
  unfold pitchPI
  split
  · split
    · exact doneR_len _ _
    · simp
  · simp
theorem rd_two {w : World} {b : Nat} {a0 a1 : Int} (hb : b < w.heap.size) (h0 : w.cell? ⟨b, 0, none⟩ = some (.int .i64 a0)) (h1 : w.cell? ⟨b, 1, none⟩ = some (.int .i64 a1)) : Rd w (.slice (some ⟨b, 0, none⟩) 2 2) 2 (ints [a0, a1]) := by
  refine ⟨by decide, .inr ⟨by decide, b, 0, 2, rfl, by decide, by decide, hb, fun j u hj => ?_⟩⟩
  match j, hj with
  | 0, hj => simp [ints] at hj; subst hj; simpa using h0
  | 1, hj => simp [ints] at hj; subst hj; simpa using h1
  | n + 2, hj => simp [ints] at hj

end Go.Proofs.Ytmeeibcbhjifbaa
