/- The greatest step of a profile. -/
import Derived.Test.YtmickkodcclocaaGE
namespace Go.Proofs.Ytmickkodcclocaa
set_option linter.unusedVariables false
open Go.RowKit Go.Proofs.Bell Go.BigFrame

theorem l00Max_c (a b : Int) (w : World) : Calls Try.prog 175 #[.int .i64 a, .int .i64 b] w (RetS (.int .i64 (max a b)) w) := by
  by_cases h1 : b < a <;>
  · go_enter Try.func175, Try.ntmps175
    go_wp2
    go_ret
    exact RetS.mk (int_eq (by omega))
def gstep (rs : List (Int × Int × Int)) (k : Nat) : Int := absI ((rg rs k).1 - (rg rs (k - 1)).1)
def gstK (rs : List (Int × Int × Int)) : Nat → Int
  | 0 => 0
  | k + 1 => if k = 0 then 0 else max (gstK rs k) (gstep rs k)
def gstI (nm : ByteArray) (rs : List (Int × Int × Int)) : Int × Int := if profB nm rs then (gstK rs rs.length, 0) else (0, 1)
theorem gstK_step {rs : List (Int × Int × Int)} {k : Nat} (h : 1 ≤ k) : gstK rs (k + 1) = max (gstK rs k) (gstep rs k) := by
  rw [gstK, if_neg (by omega)]

set_option maxHeartbeats 1600000 in
theorem implGreatestStep_c (nm : ByteArray) (sv : Value) (ps : List (Int × Int × Int)) (w : World) (hnm : nm.size ≤ maxLen) (hr : Rd w sv ps.length (trips ps)) :
    Calls Try.prog 79 #[.agg #[.string nm, sv]] w (RetB (.tuple #[.int .i64 (gstI nm ps).1, .int .i64 (gstI nm ps).2]) w) := by
  have hok := fun w' (hb : Below w.heap.size w w') => ValidProfile_c nm sv ps w' hnm (hr.later hb)
  cases t0 : profB nm ps <;> rw [t0] at hok
  · have HOK := Lib.hid hok; clear hok
    go_enter Try.func79, Try.ntmps79
    have b0 : Below w.heap.size w w := Below.refl _ _
    have z0 : w.heap.size ≤ w.heap.size := Nat.le_refl _
    go_wp2_with fail
    refine (HOK.out _ (by go_grown)).mono ?_
    rintro _ w1 ⟨rfl, r1⟩
    have s1 : Below w.heap.size w w1 := Below.trans (by go_grown) (r1.mono (by simp; try omega))
    have b1 := b0.trans (s1.mono z0)
    have z1 := b1.size
    have y1 := s1.size
    have c0_0_1 := below_cell r1 (p := ⟨w.heap.size, 0, none⟩) (v := .string nm) (by simp [go_sem])
    have c0_1_1 := below_cell r1 (p := ⟨w.heap.size, 1, none⟩) (v := sv) (by simp [go_sem])
    clear r1
    go_wp2
    go_returns
    exact RetB.mk (ints_eq (by simp [gstI, t0]) (by simp [gstI, t0])) b1
  · have HOK := Lib.hid hok; clear hok
    obtain ⟨hl1, hl2, hal, hht⟩ := profB_t t0
    have hre : gstI nm ps = (gstK ps ps.length, 0) := by simp [gstI, t0]
    rw [hre]
    have HAL := Lib.hid hal; clear hal
    clear hre hht
    generalize hn : ps.length = n at *
    have HN := Lib.hid hn; clear hn
    obtain ⟨hn, ao, cap, bb, off, rfl, hao, hcell⟩ := hr.open
    clear hr
    go_enter Try.func79, Try.ntmps79
    have b0 : Below w.heap.size w w := Below.refl _ _
    have z0 : w.heap.size ≤ w.heap.size := Nat.le_refl _
    go_wp2_with fail
    refine (HOK.out _ (by go_grown)).mono ?_
    rintro _ w1 ⟨rfl, r1⟩
    have s1 : Below w.heap.size w w1 := Below.trans (by go_grown) (r1.mono (by simp; try omega))
    have b1 := b0.trans (s1.mono z0)
    have z1 := b1.size
    have y1 := s1.size
    have c0_0_1 := below_cell r1 (p := ⟨w.heap.size, 0, none⟩) (v := .string nm) (by simp [go_sem])
    have c0_1_1 := below_cell r1 (p := ⟨w.heap.size, 1, none⟩) (v := .slice ao n cap) (by simp [go_sem])
    clear r1
    go_wp2_with fail
    go_loopw [5, 4] (fun i s wr => ∃ (k : Nat), 1 ≤ k ∧ k ≤ n ∧ i = .int .i64 k ∧ s = .int .i64 (gstK ps k) ∧ Below w.heap.size w wr ∧ wr.cell? ⟨w.heap.size, 0, none⟩ = some (.string nm) ∧ wr.cell? ⟨w.heap.size, 1, none⟩ = some (.slice ao n cap)) (fun i s _ => n - (intOf i).toNat)
    case atStart => exact ⟨1, Nat.le_refl _, hl1, rfl, rfl, b1, c0_0_1, c0_1_1⟩
    case round =>
      obtain ⟨k, hk1, hk, rfl, rfl, br0, c0_0_r0, c0_1_r0⟩ := hrel
      have zr0 := br0.size
      by_cases hlt : k < n
      · skip
        have hlt_p : k < ps.length := by rw [HN.out]; omega
        have hix_p := ix (P := Try.prog) (T := 26) (cap := cap) Try.underlying26 cells_Ring has_Ring hao (k := k) (by omega) _ (rfl)
        have hp0 : wr.cell? ⟨bb, off + k * 3, none⟩ = some (.int .i64 (rg ps k).1) := by rw [rg_eq hlt_p]; exact hcell _ br0 _ _ (by omega) (trips_at hlt_p).1
        have hp1 : wr.cell? ⟨bb, off + k * 3 + 1, none⟩ = some (.int .i64 (rg ps k).2.1) := by rw [rg_eq hlt_p]; exact hcell _ br0 _ _ (by omega) (trips_at hlt_p).2.1
        have hp2 : wr.cell? ⟨bb, off + k * 3 + 2, none⟩ = some (.int .i64 (rg ps k).2.2) := by rw [rg_eq hlt_p]; exact hcell _ br0 _ _ (by omega) (trips_at hlt_p).2.2
        have hlt_q : (k - 1) < ps.length := by rw [HN.out]; omega
        have hix_q := ix (P := Try.prog) (T := 26) (cap := cap) Try.underlying26 cells_Ring has_Ring hao (k := (k - 1)) (by omega) ((k : Int) - 1) (by omega)
        have hq0 : wr.cell? ⟨bb, off + (k - 1) * 3, none⟩ = some (.int .i64 (rg ps (k - 1)).1) := by rw [rg_eq hlt_q]; exact hcell _ br0 _ _ (by omega) (trips_at hlt_q).1
        have hq1 : wr.cell? ⟨bb, off + (k - 1) * 3 + 1, none⟩ = some (.int .i64 (rg ps (k - 1)).2.1) := by rw [rg_eq hlt_q]; exact hcell _ br0 _ _ (by omega) (trips_at hlt_q).2.1
        have hq2 : wr.cell? ⟨bb, off + (k - 1) * 3 + 2, none⟩ = some (.int .i64 (rg ps (k - 1)).2.2) := by rw [rg_eq hlt_q]; exact hcell _ br0 _ _ (by omega) (trips_at hlt_q).2.2
        have hs := gstK_step (rs := ps) hk1
        have r1 := ringT_t (all_at HAL.out hlt_p)
        have r2 := ringT_t (all_at HAL.out hlt_q)
        unfold gstep at hs
        have HS := Lib.hid hs; clear hs
        clear hcell hp1 hp2 hq1 hq2
        have q0 : IntKind.i64.wrap ((k : Int) - 1) = (k : Int) - 1 := IntWalk.i64_in _ (by omega)
        generalize gstK ps k = s at *
        generalize (rg ps k).1 = x at *
        generalize (rg ps (k - 1)).1 = y at *
        have q1 : IntKind.i64.wrap (x - y) = x - y := IntWalk.i64_in _ (by omega)
        have hab := fun w' => abs_c (x - y) w' (by omega) (by omega)
        have HAB := Lib.hid hab; clear hab
        go_wp2_with fail
        go_quiet ((go_at_call 107; exact quietS (HAB.out _)))
        clear q0 q1
        go_wp2
        go_roundw
        case rel => exact ⟨k + 1, by omega, by omega, by go_num, by rw [HS.out]; exact int_eq (by split <;> omega), (by first | exact br0 | exact below_drewN br0 _ | go_grown), (by first | exact c0_0_r0 | exact alloc_cell _ c0_0_r0 | exact below_cell (below_drewN (Below.refl _ _) _) c0_0_r0 | simp [go_sem, c0_0_r0]), (by first | exact c0_1_r0 | exact alloc_cell _ c0_1_r0 | exact below_cell (below_drewN (Below.refl _ _) _) c0_1_r0 | simp [go_sem, c0_1_r0])⟩
        case measure => simp [intOf]; omega
      · obtain rfl : k = n := by omega
        go_wp2
        go_returns
        exact RetB.mk (ints_eq rfl rfl) br0

end Go.Proofs.Ytmickkodcclocaa
