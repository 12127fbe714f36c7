/- What FnCentres and FnVolumes call besides. -/
import Derived.Test.YtmickkodcclocaaCentL
import Derived.Test.YtmickkodcclocaaOpenU
import Derived.Test.YtmickkodcclocaaScalL
namespace Go.Proofs.Ytmickkodcclocaa
set_option linter.unusedVariables false
open Go.RowKit Go.Proofs.Bell Go.BigFrame

theorem b10Long_c (v : Value) (zs : List Int) (w : World) (h : Rd w v zs.length (bytesV zs)) : Calls Try.prog 55 #[v] w (RetS (.bool (decide (1048576 < zs.length))) w) := by
  obtain ⟨hn, ao, cap, b, off, rfl, hao, hcell⟩ := h.open
  clear hcell h hao
  generalize zs.length = n at *
  cases t1 : decide (1048576 < n)
  · have t2 : decide ((1048576 : Int) < (n : Int)) = false := decide_eq_false (by have := of_decide_eq_false t1; omega)
    go_enter Try.func55, Try.ntmps55
    go_wp2
    go_returns
    exact RetS.mk rfl
  · have t2 : decide ((1048576 : Int) < (n : Int)) = true := decide_eq_true (by have := of_decide_eq_true t1; omega)
    go_enter Try.func55, Try.ntmps55
    go_wp2
    go_returns
    exact RetS.mk rfl

set_option maxHeartbeats 800000 in
theorem b10Sum_c (v : Value) (zs : List Int) (w : World) (hr : Rd w v zs.length (ints zs)) (hbd : ∀ k, k ≤ zs.length → 0 ≤ sumK zs k ∧ sumK zs k ≤ 1000000000000) : Calls Try.prog 61 #[v] w (RetS (.int .i64 (sumK zs zs.length)) w) := by
  have hst := fun k => (show sumK zs k + zs.getD k 0 = sumK zs (k + 1) from rfl)
  have HST := Lib.hid hst; clear hst
  have HBD := Lib.hid hbd; clear hbd
  generalize hn : zs.length = n at *
  have HN := Lib.hid hn; clear hn
  obtain ⟨hn, ao, cap, bb, off, rfl, hao, hcell⟩ := hr.open
  clear hr
  have b0 : Below w.heap.size w w := Below.refl _ _
  have z0 : w.heap.size ≤ w.heap.size := Nat.le_refl _
  go_enter Try.func61, Try.ntmps61
  go_wp2_with fail
  go_loop [4, 3] (fun i s => ∃ (k : Nat), k ≤ n ∧ i = .int .i64 k ∧ s = .int .i64 (sumK zs k)) (fun i _ => n - (intOf i).toNat)
  case atStart => exact ⟨0, Nat.zero_le _, rfl, rfl⟩
  case round =>
    obtain ⟨k, hk, rfl, rfl⟩ := hrel
    by_cases hlt : k < n
    · skip
      have hlt_z : k < zs.length := by rw [HN.out]; omega
      have hix_z := ix (P := Try.prog) (T := 41) (cap := cap) Try.underlying41 cells_int64 has_int64 hao (k := k) (by omega) _ (rfl)
      rw [Nat.mul_one] at hix_z
      have hz : w.cell? ⟨bb, off + k, none⟩ = some (.int .i64 (zs.getD k 0)) := by rw [getD_eq hlt_z]; exact hcell _ b0 _ _ (by omega) (intsAt hlt_z)
      have g1 := HBD.out (k + 1) (by have := HN.out; omega)
      have hw : IntKind.i64.wrap (sumK zs k + zs.getD k 0) = sumK zs (k + 1) := by rw [HST.out k]; exact IntWalk.i64_in _ (by omega)
      clear hcell hlt_z g1
      obtain ⟨s2, hs2⟩ : ∃ s2, s2 = sumK zs (k + 1) := ⟨_, rfl⟩
      rw [← hs2] at hw
      have hs3 := congrArg (Value.int .i64) hs2
      have HS2 := Lib.hid hs3; clear hs3
      clear hs2
      generalize sumK zs k = s1 at *
      generalize zs.getD k 0 = z at *
      go_wp2
      go_round
      case rel => exact ⟨k + 1, by omega, by go_num, by rw [HS2.out]⟩
      case measure => simp [intOf]; omega
    · obtain rfl : k = n := by omega
      go_wp2
      go_returns
      exact RetS.mk rfl

set_option maxHeartbeats 800000 in
theorem specHeightF_c (nm : ByteArray) (v : Value) (ps : List (Int × Int × Int)) (w : World) (hnm : nm.size ≤ maxLen) (h : Rd w v ps.length (trips ps)) (hp : profB nm ps = false) : Calls Try.prog 53 #[.agg #[.string nm, v]] w (RetB (.tuple #[.int .i64 0, .int .i64 1]) w) := by
  have hok := fun w' g hg c0 c1 (hb : Below w.heap.size w w') => l05Ok_c g nm v ps w' hg hnm c0 c1 (h.later hb)
  rw [hp] at hok
  have HOK := Lib.hid hok; clear hok
  obtain ⟨_, ao, cap, _, _, rfl, _, _⟩ := h.open
  clear h hp
  go_enter Try.func53, Try.ntmps53
  have b0 : Below w.heap.size w w := Below.refl _ _
  have z0 : w.heap.size ≤ w.heap.size := Nat.le_refl _
  go_wp2_with fail
  refine (HOK.out _ _ (by simp) (by simp [go_sem]) (by simp [go_sem]) (by go_grown)).mono ?_
  rintro _ w1 ⟨rfl, d1⟩
  have r1 := Dr.below d1; clear d1
  have s1 : Below w.heap.size w w1 := Below.trans (by go_grown) (r1.mono (by simp; try omega))
  have b1 := b0.trans (s1.mono z0)
  have z1 := b1.size
  have y1 := s1.size
  have c0_0_1 := below_cell r1 (p := ⟨w.heap.size, 0, none⟩) (v := .string nm) (by simp [go_sem])
  have c0_1_1 := below_cell r1 (p := ⟨w.heap.size, 1, none⟩) (v := .slice ao ps.length cap) (by simp [go_sem])
  clear r1
  go_wp2
  go_returns
  exact RetB.mk rfl b1

end Go.Proofs.Ytmickkodcclocaa
