/- One ring: the law's copy, validity, area and volume. -/
import Derived.Test.YtgdadbmhdljcdaaGreatDoorGA
import Derived.Handy
namespace Go.Proofs.YtgdadbmhdljcdaaGreatDoor
set_option linter.unusedVariables false
open Go.RowKit Go.Proofs.Bell

def ringB (o i h : Int) : Bool := inB o 500 150000 && inB i 0 (o - 100) && inB h 10 300000
theorem ringB_t {o i h : Int} (hh : ringB o i h = true) : 500 ≤ o ∧ o ≤ 150000 ∧ 0 ≤ i ∧ i ≤ o - 100 ∧ 10 ≤ h ∧ h ≤ 300000 := by
  simp only [ringB, Bool.and_eq_true] at hh
  have h1 := inB_t hh.1.1; have h2 := inB_t hh.1.2; have h3 := inB_t hh.2
  omega

set_option maxHeartbeats 400000 in
theorem ValidRing_c (o i h : Int) (w : World) : Calls Tryz.prog 55 #[.agg #[.int .i64 o, .int .i64 i, .int .i64 h]] w (RetB (.bool (ringB o i h)) w) := by
  cases h1 : inB o 500 150000
  · go_enter Tryz.func55, Tryz.ntmps55
    go_wp2_with (go_at_call 56; refine (within_c _ _ _ _).mono ?_; rintro _ _ ⟨rfl, rfl⟩)
    go_returns
    refine RetB.mk (bool_eq (by simp [ringB, h1])) ?_
    go_grown
  · obtain ⟨b1, b2⟩ := inB_t h1
    cases h2 : inB i 0 (o - 100) <;>
    · go_enter Tryz.func55, Tryz.ntmps55
      go_wp2_with (go_at_call 56; refine (within_c _ _ _ _).mono ?_; rintro _ _ ⟨rfl, rfl⟩)
      go_returns
      refine RetB.mk (bool_eq (by simp [ringB, h1, h2])) ?_
      go_grown

set_option maxHeartbeats 400000 in
theorem l05Ring_c (o i h : Int) (b off : Nat) (w : World) (h0 : w.cell? ⟨b, off, none⟩ = some (.int .i64 o)) (h1 : w.cell? ⟨b, off + 1, none⟩ = some (.int .i64 i)) (h2 : w.cell? ⟨b, off + 2, none⟩ = some (.int .i64 h)) :
    Calls Tryz.prog 181 #[.pointer (some ⟨b, off, none⟩)] w (RetD (.bool (ringB o i h)) w) := by
  cases t1 : inB o 500 150000
  · go_enter Tryz.func181, Tryz.ntmps181
    go_wp2_with fail
    go_quiet ((go_at_call 124; first | exact quietS (l00In_is _ (by assumption)) | exact quietS (l00In_is _ rfl)))
    go_wp2
    go_returns
    exact RetD.mk (bool_eq (by simp [ringB, t1])) ⟨_, rfl⟩
  · obtain ⟨b1, b2⟩ := inB_t t1
    cases t2 : inB i 0 (o - 100) <;>
    · go_enter Tryz.func181, Tryz.ntmps181
      go_wp2_with fail
      go_quiet ((go_at_call 124; first | exact quietS (l00In_is _ (by assumption)) | exact quietS (l00In_is _ rfl)))
      go_wp2
      go_returns
      exact RetD.mk (bool_eq (by simp [ringB, t1, t2])) ⟨_, rfl⟩

end Go.Proofs.YtgdadbmhdljcdaaGreatDoor
