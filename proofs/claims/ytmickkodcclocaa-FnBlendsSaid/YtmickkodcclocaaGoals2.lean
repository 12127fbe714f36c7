/- Goals: validity, and the law. -/
import Derived.Test.YtmickkodcclocaaGoals
namespace Go.Proofs.Ytmickkodcclocaa
set_option linter.unusedVariables false
open Go.RowKit Go.Proofs.Bell Go.BigFrame

def goalB (a b c d f t m : Int) : Bool := soundB a b c d f && inB t 0 20000 && inB m 0 20

theorem l04Ok_c (a b c d f : Int) (g : Nat) (w : World) (h0 : w.cell? ⟨g, 0, none⟩ = some (.int .i64 a)) (h1 : w.cell? ⟨g, 1, none⟩ = some (.int .i64 b)) (h2 : w.cell? ⟨g, 2, none⟩ = some (.int .i64 c)) (h3 : w.cell? ⟨g, 3, none⟩ = some (.int .i64 d)) (h4 : w.cell? ⟨g, 4, none⟩ = some (.int .i64 f)) :
    Calls Try.prog 117 #[.pointer (some ⟨g, 0, none⟩)] w (RetB (.bool (soundB a b c d f)) w) := by
  have hl := l04List_c a b c d f g 0 w h0 h1 h2 h3 h4
  have HL := Lib.hid hl; clear hl
  clear h0 h1 h2 h3 h4
  go_enter Try.func117, Try.ntmps117
  go_wp2_with (first | (go_at_call 176; refine HL.out.mono ?_; rintro _ w1 ⟨v1, rfl, r1, s1⟩; have R1 := Lib.hid r1; clear r1) | (go_at_call 173; refine (l00Rises_c v1 _ _ _ _ R1.out).mono ?_; rintro _ _ ⟨rfl, n, rfl⟩))
  go_returns
  exact RetB.mk rfl (below_drewN s1 _)

end Go.Proofs.Ytmickkodcclocaa
