/- The statements FnExactValidCutsSaid and FnExactTotalStepsSaid: their laws, walked. -/
import Derived.Test.YtpefhgkfgbigbaaCuts3
import Derived.Test.YtpefhgkfgbigbaaOpen
import Derived.Test.YtpefhgkfgbigbaaLift
namespace Go.Proofs.Ytpefhgkfgbigbaa
set_option linter.unusedVariables false
open Go.RowKit Go.Proofs.Bell Go.BigFrame


set_option maxHeartbeats 800000 in
theorem lawTotalSteps_c (v : Value) (ps : List (Int × Int)) (w : World) (h : Rd w v ps.length (pairs ps)) :
    Calls Try.prog 9 #[v] w (RetB (.bool true) w) := by
  have hsz := szCutS_c v ps.length (pairs ps) 1048576 w h (by omega) (by omega)
  have HSZ := Lib.hid hsz; clear hsz
  by_cases hl : ps.length ≤ 1048576
  · have hlo : leftOf 1048576 ps.length = 1048576 - (ps.length : Int) := by unfold leftOf; rw [if_neg (by omega)]
    rw [hlo] at HSZ
    have hr : ∀ w', Below w.heap.size w w' → Calls Try.prog 22 #[v] w' (RetOwnC ps w') := fun w' hb => toCutS_c v ps w' (h.later hb) (by omega)
    have hs : ∀ w' u, Rd w' u ps.length (pairs ps) → Calls Try.prog 29 #[u] w' (RetS (.tuple #[.int .i64 (totalI ps).1, .int .i64 (totalI ps).2]) w') := fun w' u hu => specTotalSteps_c u ps w' hu
    have hi : ∀ w' u, Rd w' u ps.length (pairs ps) → Calls Try.prog 30 #[u] w' (RetB (.tuple #[.int .i64 (totalI ps).1, .int .i64 (totalI ps).2]) w') := fun w' u hu => implTotalSteps_c u ps w' hu
    have he : ∀ w' u u', Rd w' u ps.length (pairs ps) → Rd w' u' ps.length (pairs ps) → Calls Try.prog 24 #[u, u'] w' (RetB (.bool true) w') := fun w' u u' h1 h2 => by
      have := eqCutS_c u u' ps ps w' h1 h2
      rwa [eqPs_refl] at this
    have HR := Lib.hid hr; clear hr
    have HS := Lib.hid hs; clear hs
    have HI := Lib.hid hi; clear hi
    have HE := Lib.hid he; clear he
    clear hlo
    generalize (totalI ps).1 = t1 at *
    generalize (totalI ps).2 = t2 at *
    have HV := Lib.hid h; clear h
    go_enter Try.func9, Try.ntmps9
    go_wp2_with (go_at_call 20; refine HSZ.out.mono ?_; rintro _ _ ⟨rfl, rfl⟩)
    -- the reference
    refine (HR.out _ (Below.refl _ _)).mono ?_
    rintro _ w1 ⟨u1, rfl, o1, b1⟩
    have O1 := Lib.hid o1; clear o1
    go_wp2_with (go_at_call 29; refine (HS.out _ _ (Rd.of_own O1.out)).mono ?_; rintro _ _ ⟨rfl, rfl⟩)
    -- the program
    refine (HR.out _ b1).mono ?_
    rintro _ w2 ⟨u2, rfl, o2, b2⟩
    have b12 := b1.trans (b2.mono b1.size)
    have O2 := Lib.hid o2; clear o2
    go_wp2_with (go_at_call 30; refine (HI.out _ _ (Rd.of_own O2.out)).mono ?_; rintro _ w3 ⟨rfl, b3⟩)
    have b13 := b12.trans (b3.mono b12.size)
    have o3 := own_later O2.out b3
    have O3 := Lib.hid o3; clear o3
    refine (HR.out _ b13).mono ?_
    rintro _ w4 ⟨u4, rfl, o4, b4⟩
    have b14 := b13.trans (b4.mono b13.size)
    have o34 := own_later O3.out b4
    have O34 := Lib.hid o34; clear o34
    have O4 := Lib.hid o4; clear o4
    go_wp2_with (go_at_call 24; refine (HE.out _ _ _ (Rd.of_own O34.out) (Rd.of_own O4.out)).mono ?_; rintro _ w5 ⟨rfl, b5⟩)
    go_returns
    exact RetB.mk rfl (b14.trans (b5.mono b14.size))
  · have hlo : leftOf 1048576 ps.length = -1 := by unfold leftOf; rw [if_pos (by omega)]
    rw [hlo] at HSZ
    go_enter Try.func9, Try.ntmps9
    go_wp2_with (go_at_call 20; refine HSZ.out.mono ?_; rintro _ _ ⟨rfl, rfl⟩)
    go_returns
    exact RetB.mk rfl (Below.refl _ _)

end Go.Proofs.Ytpefhgkfgbigbaa
