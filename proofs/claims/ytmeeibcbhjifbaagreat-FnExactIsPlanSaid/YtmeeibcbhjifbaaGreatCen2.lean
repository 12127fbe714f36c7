/- Intervals between frequencies, and what is too low or too high. -/
import Derived.Test.YtmeeibcbhjifbaaGreatCen
import Derived.Test.YtmeeibcbhjifbaaGreatVF
namespace Go.Proofs.YtmeeibcbhjifbaaGreat
set_option linter.unusedVariables false
open Go.RowKit Go.Proofs.Bell Go.BigFrame

set_option maxHeartbeats 800000 in
theorem logTenths_c (n : Nat) (w : World) (h1 : 1 ≤ n) (h2 : n ≤ 20000000) : Calls Tryz.prog 97 #[.int .i64 n] w (RetS (.int .i64 (logV n)) w) := by
  have hf := fineLog_c n w h1 h2
  have hb := fine_bd h1 h2
  unfold logV
  generalize fineV n = x at *
  have HF := Lib.hid hf; clear hf
  go_enter Tryz.func97, Tryz.ntmps97
  go_wp2_with fail
  refine HF.out.mono ?_
  rintro _ _ ⟨rfl, rfl⟩
  go_wp2
  go_returns
  exact RetS.mk rfl
set_option maxHeartbeats 800000 in
theorem l02Log_c (n : Nat) (w : World) (h1 : 1 ≤ n) (h2 : n ≤ 20000000) : Calls Tryz.prog 86 #[.int .i64 n] w (RetS (.int .i64 (logV n)) w) := by
  have hf := l02Fine_c n w h1 h2
  have hb := fine_bd h1 h2
  unfold logV
  generalize fineV n = x at *
  have HF := Lib.hid hf; clear hf
  go_enter Tryz.func86, Tryz.ntmps86
  go_wp2_with fail
  refine HF.out.mono ?_
  rintro _ _ ⟨rfl, rfl⟩
  go_wp2
  go_returns
  exact RetS.mk rfl
set_option maxHeartbeats 800000 in
theorem cents_c (f g : Nat) (w : World) (h1 : 1 ≤ f) (h2 : f ≤ 20000000) (h3 : 1 ≤ g) (h4 : g ≤ 20000000) : Calls Tryz.prog 78 #[.int .i64 f, .int .i64 g] w (RetS (.int .i64 (betV f g)) w) := by
  have a := logTenths_c f w h1 h2
  have b := logTenths_c g w h3 h4
  have a1 := log_bd h1 h2
  have b1 := log_bd h3 h4
  unfold betV
  generalize logV f = x at *
  generalize logV g = y at *
  have A := Lib.hid a; clear a
  have B := Lib.hid b; clear b
  go_enter Tryz.func78, Tryz.ntmps78
  go_wp2_with fail
  refine B.out.mono ?_
  rintro _ _ ⟨rfl, rfl⟩
  go_wp2_with fail
  refine A.out.mono ?_
  rintro _ _ ⟨rfl, rfl⟩
  go_wp2
  go_returns
  exact RetS.mk rfl
set_option maxHeartbeats 800000 in
theorem l02Between_c (f g : Nat) (w : World) (h1 : 1 ≤ f) (h2 : f ≤ 20000000) (h3 : 1 ≤ g) (h4 : g ≤ 20000000) : Calls Tryz.prog 59 #[.int .i64 f, .int .i64 g] w (RetS (.int .i64 (betV f g)) w) := by
  have a := l02Log_c f w h1 h2
  have b := l02Log_c g w h3 h4
  have a1 := log_bd h1 h2
  have b1 := log_bd h3 h4
  unfold betV
  generalize logV f = x at *
  generalize logV g = y at *
  have A := Lib.hid a; clear a
  have B := Lib.hid b; clear b
  go_enter Tryz.func59, Tryz.ntmps59
  go_wp2_with fail
  refine B.out.mono ?_
  rintro _ _ ⟨rfl, rfl⟩
  go_wp2_with fail
  refine A.out.mono ?_
  rintro _ _ ⟨rfl, rfl⟩
  go_wp2
  go_returns
  exact RetS.mk rfl
theorem bet_bd {f g : Nat} (h1 : 1 ≤ f) (h2 : f ≤ 20000000) (h3 : 1 ≤ g) (h4 : g ≤ 20000000) : -300000 ≤ betV f g ∧ betV f g ≤ 300000 := by
  have a1 := log_bd h1 h2
  have b1 := log_bd h3 h4
  unfold betV
  omega

def lowB (t f tol : Int) : Bool := decide (f < 10000) || (decide (f ≤ 20000000) && decide (betV t.toNat f.toNat < -tol))
def highB (t f tol : Int) : Bool := decide (20000000 < f) || (decide (10000 ≤ f) && decide (tol < betV t.toNat f.toNat))

end Go.Proofs.YtmeeibcbhjifbaaGreat
