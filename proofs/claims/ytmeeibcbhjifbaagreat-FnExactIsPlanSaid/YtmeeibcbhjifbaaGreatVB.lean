/- Several texts of the proofs in one: Cen7, Cen8. -/
import Derived.Test.YtmeeibcbhjifbaaGreatCen2
import Derived.Test.YtmeeibcbhjifbaaGreatVA
/- What is too low, what is too high: the program's. -/
namespace Go.Proofs.YtmeeibcbhjifbaaGreat
set_option linter.unusedVariables false
open Go.RowKit Go.Proofs.Bell Go.BigFrame

/-- six cells of a goal -/
structure H6 (g : Nat) (a b c d f tol : Int) (w' : World) : Prop where
  p0 : w'.cell? ⟨g, 0, none⟩ = some (.int .i64 a)
  p1 : w'.cell? ⟨g, 1, none⟩ = some (.int .i64 b)
  p2 : w'.cell? ⟨g, 2, none⟩ = some (.int .i64 c)
  p3 : w'.cell? ⟨g, 3, none⟩ = some (.int .i64 d)
  p4 : w'.cell? ⟨g, 4, none⟩ = some (.int .i64 f)
  p5 : w'.cell? ⟨g, 5, none⟩ = some (.int .i64 tol)
theorem H6.later {g : Nat} {a b c d f tol : Int} {w w' : World} (h : H6 g a b c d f tol w) (hb : Below w.heap.size w w') : H6 g a b c d f tol w' :=
  ⟨below_cell hb h.p0, below_cell hb h.p1, below_cell hb h.p2, below_cell hb h.p3, below_cell hb h.p4, below_cell hb h.p5⟩

end Go.Proofs.YtmeeibcbhjifbaaGreat

/- What is too low, what is too high: the reference's. -/
namespace Go.Proofs.YtmeeibcbhjifbaaGreat
set_option linter.unusedVariables false
open Go.RowKit Go.Proofs.Bell Go.BigFrame

end Go.Proofs.YtmeeibcbhjifbaaGreat

