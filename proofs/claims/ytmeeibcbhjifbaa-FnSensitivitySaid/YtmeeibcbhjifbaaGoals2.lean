/- Goals: validity, and the law. -/
import Derived.Test.YtmeeibcbhjifbaaGoals
namespace Go.Proofs.Ytmeeibcbhjifbaa
set_option linter.unusedVariables false
open Go.RowKit Go.Proofs.Bell Go.BigFrame

def goalB (a b c d f t m : Int) : Bool := soundB a b c d f && inB t 0 20000 && inB m 0 20

theorem l04Ok_c (a b c d f : Int) (g : Nat) (w : World) (h0 : w.cell? ⟨g, 0, none⟩ = some (.int .i64 a)) (h1 : w.cell? ⟨g, 1, none⟩ = some (.int .i64 b)) (h2 : w.cell? ⟨g, 2, none⟩ = some (.int .i64 c)) (h3 : w.cell? ⟨g, 3, none⟩ = some (.int .i64 d)) (h4 : w.cell? ⟨g, 4, none⟩ = some (.int .i64 f)) :
    Calls Try.prog 52 #[.pointer (some ⟨g, 0, none⟩)] w (RetB (.bool (soundB a b c d f)) w) := by
  have hl := l04List_c a b c d f g 0 w h0 h1 h2 h3 h4
  have HL := Lib.hid hl; clear hl
  clear h0 h1 h2 h3 h4
  go_enter Try.func52, Try.ntmps52
  go_wp2_with (first | (go_at_call 105; refine HL.out.mono ?_; rintro _ w1 ⟨v1, rfl, r1, s1⟩; have R1 := Lib.hid r1; clear r1) | (go_at_call 104; refine (l00Rises_c v1 _ _ _ _ R1.out).mono ?_; rintro _ _ ⟨rfl, n, rfl⟩))
  go_returns
  exact RetB.mk rfl (below_drewN s1 _)

theorem l10Goal_c (a b c d f t m : Int) (g : Nat) (w : World) (h0 : w.cell? ⟨g, 0, none⟩ = some (.int .i64 a)) (h1 : w.cell? ⟨g, 1, none⟩ = some (.int .i64 b)) (h2 : w.cell? ⟨g, 2, none⟩ = some (.int .i64 c)) (h3 : w.cell? ⟨g, 3, none⟩ = some (.int .i64 d)) (h4 : w.cell? ⟨g, 4, none⟩ = some (.int .i64 f)) (h5 : w.cell? ⟨g, 5, none⟩ = some (.int .i64 t)) (h6 : w.cell? ⟨g, 6, none⟩ = some (.int .i64 m)) :
    Calls Try.prog 137 #[.pointer (some ⟨g, 0, none⟩)] w (RetB (.bool (goalB a b c d f t m)) w) := by
  have hl := l04Ok_c a b c d f g w h0 h1 h2 h3 h4
  have HL := Lib.hid hl; clear hl
  clear h0 h1 h2 h3 h4
  cases t0 : soundB a b c d f <;> rw [t0] at HL
  · go_enter Try.func137, Try.ntmps137
    go_wp2_with (first | (go_at_call 52; refine HL.out.mono ?_; rintro _ w1 ⟨rfl, s1⟩))
    go_returns
    exact RetB.mk (bool_eq (by simp [goalB, t0])) s1
  · cases t1 : inB t 0 20000 <;>
    · go_enter Try.func137, Try.ntmps137
      go_wp2_with (first | (go_at_call 52; refine HL.out.mono ?_; rintro _ w1 ⟨rfl, s1⟩; have k5 := below_cell s1 h5; have k6 := below_cell s1 h6) | (go_at_call 36; refine (l00In_c _ _ _ _).mono ?_; rintro _ _ ⟨rfl, rfl⟩; try rw [t1]))
      go_returns
      exact RetB.mk (bool_eq (by simp [goalB, t0, t1])) s1

theorem implValidGoal_c (a b c d f t m : Int) (w : World) : Calls Try.prog 142 #[.agg #[.int .i64 a, .int .i64 b, .int .i64 c, .int .i64 d, .int .i64 f, .int .i64 t, .int .i64 m]] w (RetB (.bool (goalB a b c d f t m)) w) := by
  have hl := fun w' => ValidSound_c a b c d f w'
  have HL := Lib.hid hl; clear hl
  cases t0 : soundB a b c d f <;> rw [t0] at HL
  · go_enter Try.func142, Try.ntmps142
    go_wp2_with (first | (go_at_call 58; refine (HL.out _).mono ?_; rintro _ w1 ⟨rfl, s1⟩))
    go_returns
    exact RetB.mk (bool_eq (by simp [goalB, t0])) (Below.trans (by go_grown) (s1.mono (by simp)))
  · cases t1 : inB t 0 20000 <;>
    · go_enter Try.func142, Try.ntmps142
      go_wp2_with (first | (go_at_call 58; refine (HL.out _).mono ?_; rintro _ w1 ⟨rfl, s1⟩; have k5 := below_cell s1 (p := ⟨w.heap.size, 5, none⟩) (v := .int .i64 t) (by simp [go_sem]); have k6 := below_cell s1 (p := ⟨w.heap.size, 6, none⟩) (v := .int .i64 m) (by simp [go_sem])) | (go_at_call 42; refine (within_c _ _ _ _).mono ?_; rintro _ _ ⟨rfl, rfl⟩; try rw [t1]))
      go_returns
      exact RetB.mk (bool_eq (by simp [goalB, t0, t1])) (Below.trans (by go_grown) (s1.mono (by simp)))

end Go.Proofs.Ytmeeibcbhjifbaa
