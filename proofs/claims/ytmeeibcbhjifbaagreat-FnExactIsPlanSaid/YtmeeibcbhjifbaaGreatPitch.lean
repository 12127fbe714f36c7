/- PitchAfter of the program and of the reference, and the law. -/
import Derived.Test.YtmeeibcbhjifbaaGreatGA
namespace Go.Proofs.YtmeeibcbhjifbaaGreat
set_option linter.unusedVariables false
open Go.RowKit Go.Proofs.Bell

def freqB (f : Int) : Bool := inB f 10000 20000000
def sclB (n : Int) : Bool := inB n 1 1000
theorem freqB_t {f : Int} (h : freqB f = true) : 10000 ≤ f ∧ f ≤ 20000000 := inB_t h
theorem sclB_t {f : Int} (h : sclB f = true) : 1 ≤ f ∧ f ≤ 1000 := inB_t h
def scl2B (a b : Int) : Bool := sclB a && sclB b

theorem IsFrequency_c (f : Int) (w : World) : Calls Tryz.prog 114 #[.int .i64 f] w (RetS (.bool (freqB f)) w) := by
  go_enter Tryz.func114, Tryz.ntmps114
  go_wp2_with (go_at_call 66; refine (within_c _ _ _ _).mono ?_; rintro _ _ ⟨rfl, rfl⟩)
  go_ret
  exact RetS.mk rfl

def pitchI (f num den : Int) : Int × Int :=
  if freqB f && sclB num && sclB den then (if freqB (rnd (f * den) num) then (rnd (f * den) num, 0) else (0, 6)) else (0, 2)

theorem pitch_bd {f num den : Int} (h1 : freqB f = true) (_h2 : sclB num = true) (h3 : sclB den = true) : 0 ≤ f * den ∧ f * den ≤ 20000000 * 1000 := by
  have a := freqB_t h1; have c := sclB_t h3
  exact mul_le_of (by omega) (by omega) (by omega) (by omega)

end Go.Proofs.YtmeeibcbhjifbaaGreat
