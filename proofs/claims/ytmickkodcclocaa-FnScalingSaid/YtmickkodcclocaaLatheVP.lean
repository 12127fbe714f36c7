/- The reference's test of a profile. -/
import Derived.Test.YtmickkodcclocaaGD
namespace Go.Proofs.Ytmickkodcclocaa
set_option linter.unusedVariables false
open Go.RowKit Go.Proofs.Bell Go.BigFrame

set_option maxHeartbeats 800000 in
theorem specVP_c (nm : ByteArray) (v : Value) (ps : List (Int × Int × Int)) (w : World) (hnm : nm.size ≤ maxLen) (h : Rd w v ps.length (trips ps)) : Calls Try.prog 54 #[.agg #[.string nm, v]] w (RetB (.bool (profB nm ps)) w) := by
  have hok := fun w' g hg c0 c1 (hb : Below w.heap.size w w') => l05Ok_c g nm v ps w' hg hnm c0 c1 (h.later hb)
  have HOK := Lib.hid hok; clear hok
  obtain ⟨_, ao, cap, _, _, rfl, _, _⟩ := h.open
  clear h
  go_enter Try.func54, Try.ntmps54
  have b0 : Below w.heap.size w w := Below.refl _ _
  have z0 : w.heap.size ≤ w.heap.size := Nat.le_refl _
  go_wp2_with fail
  refine (HOK.out _ _ (by simp) (by simp [go_sem]) (by simp [go_sem]) (by go_grown)).mono ?_
  rintro _ w1 ⟨rfl, d1⟩
  have r1 := Dr.below d1; clear d1
  have s1 : Below w.heap.size w w1 := Below.trans (by go_grown) (r1.mono (by simp; try omega))
  have b1 := b0.trans (s1.mono z0)
  have z1 := b1.size
  have y1 := s1.size
  have c0_0_1 := below_cell r1 (p := ⟨w.heap.size, 0, none⟩) (v := .string nm) (by simp [go_sem])
  have c0_1_1 := below_cell r1 (p := ⟨w.heap.size, 1, none⟩) (v := .slice ao ps.length cap) (by simp [go_sem])
  clear r1
  go_wp2
  go_returns
  exact RetB.mk rfl b1

end Go.Proofs.Ytmickkodcclocaa
