/- A string as it comes in. -/
import Derived.Test.YtgdadbmhdljcdaaDoorGC
namespace Go.Proofs.YtgdadbmhdljcdaaDoor
set_option linter.unusedVariables false
open Go.RowKit Go.Proofs.Bell Go.BigFrame
set_option maxRecDepth 100000
open Go.ChangeShapes Go.WideShapes Go.Deep

theorem open_string {H : Type} {enc : TypeId × Value → H} {w : World} {v : Value} {d : DataW H} {p : List MemPlace} {r : Reach} {b0 : Nat}
    (hv : Value.okWide Tryd.prog w r b0 9 v) (h : DataW.Trod enc Tryd.prog w 0 (fun _ => true) true 9 v d p) :
    ∃ s : ByteArray, v = .string s ∧ s.size ≤ maxLen := by
  obtain ⟨s, rfl⟩ := okWide_string Tryd.underlying9 hv
  obtain ⟨fuel, hx⟩ := h
  simp only [Value.cells] at hx
  obtain ⟨s', e0, _, w0⟩ := DataW.trod_string Tryd.underlying9 hx
  simp at e0
  subst e0
  exact ⟨s, rfl, w0⟩

end Go.Proofs.YtgdadbmhdljcdaaDoor
