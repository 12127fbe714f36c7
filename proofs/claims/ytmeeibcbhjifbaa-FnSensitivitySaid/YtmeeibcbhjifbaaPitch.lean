/- PitchAfter of the program and of the reference, and the law. -/
import Derived.Test.YtmeeibcbhjifbaaGA
namespace Go.Proofs.Ytmeeibcbhjifbaa
set_option linter.unusedVariables false
open Go.RowKit Go.Proofs.Bell

def freqB (f : Int) : Bool := inB f 10000 20000000
def sclB (n : Int) : Bool := inB n 1 1000
theorem freqB_t {f : Int} (h : freqB f = true) : 10000 ≤ f ∧ f ≤ 20000000 := inB_t h
theorem sclB_t {f : Int} (h : sclB f = true) : 1 ≤ f ∧ f ≤ 1000 := inB_t h
def scl2B (a b : Int) : Bool := sclB a && sclB b

theorem IsFrequency_c (f : Int) (w : World) : Calls Try.prog 151 #[.int .i64 f] w (RetS (.bool (freqB f)) w) := by
  go_enter Try.func151, Try.ntmps151
  go_wp2_with (go_at_call 42; refine (within_c _ _ _ _).mono ?_; rintro _ _ ⟨rfl, rfl⟩)
  go_ret
  exact RetS.mk rfl

theorem isScale_c (f : Int) (w : World) : Calls Try.prog 41 #[.int .i64 f] w (RetS (.bool (sclB f)) w) := by
  go_enter Try.func41, Try.ntmps41
  go_wp2_with (go_at_call 42; refine (within_c _ _ _ _).mono ?_; rintro _ _ ⟨rfl, rfl⟩)
  go_ret
  exact RetS.mk rfl

theorem l07Scale_c (a b : Int) (w : World) : Calls Try.prog 35 #[.int .i64 a, .int .i64 b] w (RetS (.bool (scl2B a b)) w) := by
  cases ha : inB a 1 1000 <;>
  · go_enter Try.func35, Try.ntmps35
    go_wp2_with (go_at_call 36; refine (l00In_c _ _ _ _).mono ?_; rintro _ _ ⟨rfl, rfl⟩)
    go_ret
    exact RetS.mk (bool_eq (by simp [scl2B, sclB, ha]))

def pitchI (f num den : Int) : Int × Int :=
  if freqB f && sclB num && sclB den then (if freqB (rnd (f * den) num) then (rnd (f * den) num, 0) else (0, 6)) else (0, 2)

theorem pitch_bd {f num den : Int} (h1 : freqB f = true) (_h2 : sclB num = true) (h3 : sclB den = true) : 0 ≤ f * den ∧ f * den ≤ 20000000 * 1000 := by
  have a := freqB_t h1; have c := sclB_t h3
  exact mul_le_of (by omega) (by omega) (by omega) (by omega)

end Go.Proofs.Ytmeeibcbhjifbaa
