/- PitchAfter of the program and of the reference, and the law. -/
import Derived.Test.YtmickkodcclocaaGA
namespace Go.Proofs.Ytmickkodcclocaa
set_option linter.unusedVariables false
open Go.RowKit Go.Proofs.Bell

def freqB (f : Int) : Bool := inB f 10000 20000000
def sclB (n : Int) : Bool := inB n 1 1000
theorem freqB_t {f : Int} (h : freqB f = true) : 10000 ≤ f ∧ f ≤ 20000000 := inB_t h
theorem sclB_t {f : Int} (h : sclB f = true) : 1 ≤ f ∧ f ≤ 1000 := inB_t h
def scl2B (a b : Int) : Bool := sclB a && sclB b

theorem l02Ok_c (f : Int) (w : World) : Calls Try.prog 92 #[.int .i64 f] w (RetS (.bool (freqB f)) w) := by
  go_enter Try.func92, Try.ntmps92
  go_wp2_with (go_at_call 94; refine (l00In_c _ _ _ _).mono ?_; rintro _ _ ⟨rfl, rfl⟩)
  go_ret
  exact RetS.mk rfl

theorem IsFrequency_c (f : Int) (w : World) : Calls Try.prog 133 #[.int .i64 f] w (RetS (.bool (freqB f)) w) := by
  go_enter Try.func133, Try.ntmps133
  go_wp2_with (go_at_call 96; refine (within_c _ _ _ _).mono ?_; rintro _ _ ⟨rfl, rfl⟩)
  go_ret
  exact RetS.mk rfl

theorem isScale_c (f : Int) (w : World) : Calls Try.prog 87 #[.int .i64 f] w (RetS (.bool (sclB f)) w) := by
  go_enter Try.func87, Try.ntmps87
  go_wp2_with (go_at_call 96; refine (within_c _ _ _ _).mono ?_; rintro _ _ ⟨rfl, rfl⟩)
  go_ret
  exact RetS.mk rfl

theorem l07Scale_c (a b : Int) (w : World) : Calls Try.prog 82 #[.int .i64 a, .int .i64 b] w (RetS (.bool (scl2B a b)) w) := by
  cases ha : inB a 1 1000 <;>
  · go_enter Try.func82, Try.ntmps82
    go_wp2_with (go_at_call 94; refine (l00In_c _ _ _ _).mono ?_; rintro _ _ ⟨rfl, rfl⟩)
    go_ret
    exact RetS.mk (bool_eq (by simp [scl2B, sclB, ha]))

def pitchI (f num den : Int) : Int × Int :=
  if freqB f && sclB num && sclB den then (if freqB (rnd (f * den) num) then (rnd (f * den) num, 0) else (0, 6)) else (0, 2)

theorem pitch_bd {f num den : Int} (h1 : freqB f = true) (_h2 : sclB num = true) (h3 : sclB den = true) : 0 ≤ f * den ∧ f * den ≤ 20000000 * 1000 := by
  have a := freqB_t h1; have c := sclB_t h3
  exact mul_le_of (by omega) (by omega) (by omega) (by omega)

set_option maxHeartbeats 400000 in
theorem implPitchAfter_c (f num den : Int) (w : World) : Calls Try.prog 51 #[.int .i64 f, .int .i64 num, .int .i64 den] w
    (RetD (.tuple #[.int .i64 (pitchI f num den).1, .int .i64 (pitchI f num den).2]) w) := by
  cases h1 : freqB f
  · go_enter Try.func51, Try.ntmps51
    go_wp2_with (go_at_call 133; refine (IsFrequency_c _ _).mono ?_; rintro _ _ ⟨rfl, rfl⟩)
    go_ret2
    exact RetD.mk (ints_eq (by simp [pitchI, h1]) (by simp [pitchI, h1])) ⟨0, rfl⟩
  · cases h2 : sclB num <;> cases h3 : sclB den
    case true.true =>
      have bd := pitch_bd h1 h2 h3
      have bn := sclB_t h2
      cases h4 : freqB (rnd (f * den) num) <;>
      · go_enter Try.func51, Try.ntmps51
        go_wp2_with (first | (go_at_call 133; refine (IsFrequency_c _ _).mono ?_; rintro _ _ ⟨rfl, rfl⟩) | (go_at_call 87; refine (isScale_c _ _).mono ?_; rintro _ _ ⟨rfl, rfl⟩) | (go_at_call 106; refine (nearest_c _ _ _ (by omega) (by omega) (by omega) (by omega)).mono ?_; rintro _ _ ⟨rfl, _, rfl⟩))
        go_ret2
        exact RetD.mk (ints_eq (by simp [pitchI, *]) (by simp [pitchI, *])) ⟨_, rfl⟩
    all_goals
      go_enter Try.func51, Try.ntmps51
      go_wp2_with (first | (go_at_call 133; refine (IsFrequency_c _ _).mono ?_; rintro _ _ ⟨rfl, rfl⟩) | (go_at_call 87; refine (isScale_c _ _).mono ?_; rintro _ _ ⟨rfl, rfl⟩))
      go_ret2
      exact RetD.mk (ints_eq (by simp [pitchI, *]) (by simp [pitchI, *])) ⟨0, rfl⟩

end Go.Proofs.Ytmickkodcclocaa
