/- The five frequencies of a sound as a list of one's own. -/
import Derived.Test.YtmeeibcbhjifbaaFitD
namespace Go.Proofs.Ytmeeibcbhjifbaa
set_option linter.unusedVariables false
open Go.RowKit Go.Proofs.Bell Go.BigFrame

theorem listOfO_c (a b c d f : Int) (w : World) : Calls Try.prog 62 #[.agg #[.int .i64 a, .int .i64 b, .int .i64 c, .int .i64 d, .int .i64 f]] w (RetOwnI [a, b, c, d, f] w) := by
  go_enter Try.func62, Try.ntmps62
  go_wp2
  go_returns
  exact ⟨_, rfl, by
    have h := own_five (w.alloc (.cells #[.int .i64 a, .int .i64 b, .int .i64 c, .int .i64 d, .int .i64 f] 49)) a b c d f w.heap.size (by simp)
    simpa using h, by go_grown⟩
theorem l04ListO_c (a b c d f : Int) (g : Nat) (w : World) (h0 : w.cell? ⟨g, 0, none⟩ = some (.int .i64 a)) (h1 : w.cell? ⟨g, 1, none⟩ = some (.int .i64 b)) (h2 : w.cell? ⟨g, 2, none⟩ = some (.int .i64 c)) (h3 : w.cell? ⟨g, 3, none⟩ = some (.int .i64 d)) (h4 : w.cell? ⟨g, 4, none⟩ = some (.int .i64 f)) :
    Calls Try.prog 105 #[.pointer (some ⟨g, 0, none⟩)] w (RetOwnI [a, b, c, d, f] w) := by
  go_enter Try.func105, Try.ntmps105
  go_wp2_with fail
  go_region
  all_goals (try go_wp2)
  all_goals go_returns
  all_goals (exact ⟨_, rfl, own_five w a b c d f _ (Nat.le_refl _), by go_grown⟩)

end Go.Proofs.Ytmeeibcbhjifbaa
