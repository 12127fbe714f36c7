/- One ring: the law's copy, validity, area and volume. -/
import Derived.Test.YtmeeibcbhjifbaaGA
import Derived.Handy
namespace Go.Proofs.Ytmeeibcbhjifbaa
set_option linter.unusedVariables false
open Go.RowKit Go.Proofs.Bell

theorem toRing_c (a b c : Int) (w : World) : Calls Try.prog 94 #[.agg #[.int .i64 a, .int .i64 b, .int .i64 c]] w (RetB (.agg #[.int .i64 a, .int .i64 b, .int .i64 c]) w) := by
  go_enter Try.func94, Try.ntmps94
  go_wp2
  go_returns
  refine RetB.mk rfl ?_
  go_grown

def ringB (o i h : Int) : Bool := inB o 500 150000 && inB i 0 (o - 100) && inB h 10 300000
theorem ringB_t {o i h : Int} (hh : ringB o i h = true) : 500 ≤ o ∧ o ≤ 150000 ∧ 0 ≤ i ∧ i ≤ o - 100 ∧ 10 ≤ h ∧ h ≤ 300000 := by
  simp only [ringB, Bool.and_eq_true] at hh
  have h1 := inB_t hh.1.1; have h2 := inB_t hh.1.2; have h3 := inB_t hh.2
  omega

set_option maxHeartbeats 400000 in
theorem ValidRing_c (o i h : Int) (w : World) : Calls Try.prog 98 #[.agg #[.int .i64 o, .int .i64 i, .int .i64 h]] w (RetB (.bool (ringB o i h)) w) := by
  cases h1 : inB o 500 150000
  · go_enter Try.func98, Try.ntmps98
    go_wp2_with (go_at_call 42; refine (within_c _ _ _ _).mono ?_; rintro _ _ ⟨rfl, rfl⟩)
    go_returns
    refine RetB.mk (bool_eq (by simp [ringB, h1])) ?_
    go_grown
  · obtain ⟨b1, b2⟩ := inB_t h1
    cases h2 : inB i 0 (o - 100) <;>
    · go_enter Try.func98, Try.ntmps98
      go_wp2_with (go_at_call 42; refine (within_c _ _ _ _).mono ?_; rintro _ _ ⟨rfl, rfl⟩)
      go_returns
      refine RetB.mk (bool_eq (by simp [ringB, h1, h2])) ?_
      go_grown

set_option maxHeartbeats 400000 in
theorem l05Ring_c (o i h : Int) (b off : Nat) (w : World) (h0 : w.cell? ⟨b, off, none⟩ = some (.int .i64 o)) (h1 : w.cell? ⟨b, off + 1, none⟩ = some (.int .i64 i)) (h2 : w.cell? ⟨b, off + 2, none⟩ = some (.int .i64 h)) :
    Calls Try.prog 90 #[.pointer (some ⟨b, off, none⟩)] w (RetD (.bool (ringB o i h)) w) := by
  cases t1 : inB o 500 150000
  · go_enter Try.func90, Try.ntmps90
    go_wp2_with fail
    go_quiet ((go_at_call 36; first | exact quietS (l00In_is _ (by assumption)) | exact quietS (l00In_is _ rfl)))
    go_wp2
    go_returns
    exact RetD.mk (bool_eq (by simp [ringB, t1])) ⟨_, rfl⟩
  · obtain ⟨b1, b2⟩ := inB_t t1
    cases t2 : inB i 0 (o - 100) <;>
    · go_enter Try.func90, Try.ntmps90
      go_wp2_with fail
      go_quiet ((go_at_call 36; first | exact quietS (l00In_is _ (by assumption)) | exact quietS (l00In_is _ rfl)))
      go_wp2
      go_returns
      exact RetD.mk (bool_eq (by simp [ringB, t1, t2])) ⟨_, rfl⟩

end Go.Proofs.Ytmeeibcbhjifbaa
