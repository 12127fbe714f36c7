/- The wall at a height. -/
import Derived.Test.YtpaciehgafobfaaAt2
import Derived.Test.YtpaciehgafobfaaVols
namespace Go.Proofs.Ytpaciehgafobfaa
set_option linter.unusedVariables false
open Go.RowKit Go.Proofs.Bell Go.BigFrame

def wallT (p : Int × Int × Int) : Int := p.1 - p.2.1
def wallAtI (nm : ByteArray) (rs : List (Int × Int × Int)) (h : Int) : Int × Int := if askI nm rs h = 0 then (wallT (rg rs (atK rs h)), 0) else (0, askI nm rs h)
theorem wallT_c (p : Int × Int × Int) (w : World) (h : ringT p = true) : Calls Try.prog 52 #[.agg #[.int .i64 p.1, .int .i64 p.2.1, .int .i64 p.2.2]] w (RetB (.int .i64 (wallT p)) w) := by
  have r := ringT_t h
  unfold wallT
  obtain ⟨a, b, c⟩ := p
  simp only at r
  clear h
  go_enter Try.func52, Try.ntmps52
  go_wp2
  go_returns
  exact RetB.mk rfl (by go_grown)

set_option maxHeartbeats 800000 in
theorem implWallAt_c (nm : ByteArray) (sv : Value) (ps : List (Int × Int × Int)) (h : Int) (w : World) (hnm : nm.size ≤ maxLen) (hr : Rd w sv ps.length (trips ps)) :
    Calls Try.prog 18 #[.agg #[.string nm, sv], .int .i64 h] w (RetB (.tuple #[.int .i64 (wallAtI nm ps h).1, .int .i64 (wallAtI nm ps h).2]) w) := by
  have hok := fun w' (hb : Below w.heap.size w w') => implRingAt_c nm sv ps h w' hnm (hr.later hb)
  by_cases t0 : askI nm ps h = 0
  · obtain ⟨hal, hl1, hl2, h0, h1⟩ := askI_zero t0
    have hk := atK_lt hl1 h1
    have hring := all_at hal hk
    have he : wallAtI nm ps h = (wallT (rg ps (atK ps h)), 0) := by simp [wallAtI, t0]
    have he2 : ringAtI nm ps h = ((atK ps h : Int), 0) := by simp [ringAtI, t0]
    rw [he]
    rw [he2] at hok
    have hw := fun w' => wallT_c (rg ps (atK ps h)) w' hring
    have HOK := Lib.hid hok; clear hok
    have HW := Lib.hid hw; clear hw
    clear he he2 hal h1 hring t0
    generalize atK ps h = k at *
    generalize hn : ps.length = n at *
    have HN := Lib.hid hn; clear hn
    obtain ⟨hn, ao, cap, bb, off, rfl, hao, hcell⟩ := hr.open
    clear hr
    go_enter Try.func18, Try.ntmps18
    have b0 : Below w.heap.size w w := Below.refl _ _
    have z0 : w.heap.size ≤ w.heap.size := Nat.le_refl _
    go_wp2_with fail
    refine (HOK.out _ (by go_grown)).mono ?_
    rintro _ w1 ⟨rfl, r1⟩
    have s1 : Below w.heap.size w w1 := Below.trans (by go_grown) (r1.mono (by simp; try omega))
    have b1 := b0.trans (s1.mono z0)
    have z1 := b1.size
    have c0_0_1 := below_cell r1 (p := ⟨w.heap.size, 0, none⟩) (v := .string nm) (by simp [go_sem])
    have c0_1_1 := below_cell r1 (p := ⟨w.heap.size, 1, none⟩) (v := .slice ao n cap) (by simp [go_sem])
    clear r1
    have hlt_p : k < ps.length := by rw [HN.out]; omega
    have hix_p := ix (P := Try.prog) (T := 28) (cap := cap) Try.underlying28 cells_Ring has_Ring hao (k := k) (by omega) _ (rfl)
    have hp0 : w1.cell? ⟨bb, off + k * 3, none⟩ = some (.int .i64 (rg ps k).1) := by rw [rg_eq hlt_p]; exact hcell _ b1 _ _ (by omega) (trips_at hlt_p).1
    have hp1 : w1.cell? ⟨bb, off + k * 3 + 1, none⟩ = some (.int .i64 (rg ps k).2.1) := by rw [rg_eq hlt_p]; exact hcell _ b1 _ _ (by omega) (trips_at hlt_p).2.1
    have hp2 : w1.cell? ⟨bb, off + k * 3 + 2, none⟩ = some (.int .i64 (rg ps k).2.2) := by rw [rg_eq hlt_p]; exact hcell _ b1 _ _ (by omega) (trips_at hlt_p).2.2
    clear hcell hao
    generalize (rg ps k).1 = x0 at *
    generalize (rg ps k).2.1 = x1 at *
    generalize (rg ps k).2.2 = x2 at *
    generalize wallT (rg ps k) = z at *
    go_wp2_with fail
    refine (HW.out _).mono ?_
    rintro _ w2 ⟨rfl, r2⟩
    have s2 := r2
    have b2 := b1.trans (s2.mono z1)
    have z2 := b2.size
    have c0_0_2 := below_cell s2 c0_0_1; clear c0_0_1
    have c0_1_2 := below_cell s2 c0_1_1; clear c0_1_1
    clear r2
    go_wp2
    go_returns
    exact RetB.mk (rfl) b2
  · have he : wallAtI nm ps h = (0, askI nm ps h) := by simp [wallAtI, t0]
    have he2 : ringAtI nm ps h = (0, askI nm ps h) := by simp [ringAtI, t0]
    rw [he]
    rw [he2] at hok
    have HOK := Lib.hid hok; clear hok
    clear he he2 hr
    generalize askI nm ps h = c at *
    go_enter Try.func18, Try.ntmps18
    have b0 : Below w.heap.size w w := Below.refl _ _
    have z0 : w.heap.size ≤ w.heap.size := Nat.le_refl _
    go_wp2_with fail
    refine (HOK.out _ (by go_grown)).mono ?_
    rintro _ w1 ⟨rfl, r1⟩
    have s1 : Below w.heap.size w w1 := Below.trans (by go_grown) (r1.mono (by simp; try omega))
    have b1 := b0.trans (s1.mono z0)
    have z1 := b1.size
    have c0_0_1 := below_cell r1 (p := ⟨w.heap.size, 0, none⟩) (v := .string nm) (by simp [go_sem])
    have c0_1_1 := below_cell r1 (p := ⟨w.heap.size, 1, none⟩) (v := sv) (by simp [go_sem])
    clear r1
    go_wp2
    go_returns
    exact RetB.mk (rfl) b1

set_option maxHeartbeats 800000 in
theorem specWallAt_c (nm : ByteArray) (sv : Value) (ps : List (Int × Int × Int)) (h : Int) (w : World) (hnm : nm.size ≤ maxLen) (hr : Rd w sv ps.length (trips ps)) :
    Calls Try.prog 16 #[.agg #[.string nm, sv], .int .i64 h] w (RetB (.tuple #[.int .i64 (wallAtI nm ps h).1, .int .i64 (wallAtI nm ps h).2]) w) := by
  have hok := fun w' g hg c0 c1 (hb : Below w.heap.size w w') => l05Ask_c g nm sv ps h w' hg hnm c0 c1 (hr.later hb)
  by_cases t0 : ¬ askI nm ps h = 0
  · have he : wallAtI nm ps h = (0, askI nm ps h) := by simp [wallAtI, t0]
    rw [he]
    clear he
    have HOK := Lib.hid hok; clear hok
    generalize askI nm ps h = code at *
    go_enter Try.func16, Try.ntmps16
    have b0 : Below w.heap.size w w := Below.refl _ _
    have z0 : w.heap.size ≤ w.heap.size := Nat.le_refl _
    go_wp2_with fail
    refine (HOK.out _ _ (by simp) (by simp [go_sem]) (by simp [go_sem]) (by go_grown)).mono ?_
    rintro _ w1 ⟨rfl, d1⟩
    have r1 := Dr.below d1; clear d1
    have s1 : Below w.heap.size w w1 := Below.trans (by go_grown) (r1.mono (by simp; try omega))
    have b1 := b0.trans (s1.mono z0)
    have z1 := b1.size
    have c0_0_1 := below_cell r1 (p := ⟨w.heap.size, 0, none⟩) (v := .string nm) (by simp [go_sem])
    have c0_1_1 := below_cell r1 (p := ⟨w.heap.size, 1, none⟩) (v := sv) (by simp [go_sem])
    clear r1
    go_wp2
    go_returns
    exact RetB.mk (rfl) b1
  · have t0 : askI nm ps h = 0 := Classical.not_not.1 t0
    rw [t0] at hok
    have HOK := Lib.hid hok; clear hok
    obtain ⟨hal, hl1, hl2, h0, h1⟩ := askI_zero t0
    have hk := atK_lt hl1 h1
    have r := ringT_t (all_at hal hk)
    have he : wallAtI nm ps h = (wallT (rg ps (atK ps h)), 0) := by simp [wallAtI, t0]
    rw [he]
    have hv := fun w' g c1 (hb : Below w.heap.size w w') => l05At_c g sv ps h w' c1 (hr.later hb) hal hl1 hl2 h0 h1
    unfold wallT
    clear he hal h1 t0
    generalize heightI (ps.take (atK ps h)) = hb0 at *
    generalize atK ps h = k at *
    have HV := Lib.hid hv; clear hv
    generalize hn : ps.length = n at *
    have HN := Lib.hid hn; clear hn
    obtain ⟨hn, ao, cap, bb, off, rfl, hao, hcell⟩ := hr.open
    clear hr
    go_enter Try.func16, Try.ntmps16
    have b0 : Below w.heap.size w w := Below.refl _ _
    have z0 : w.heap.size ≤ w.heap.size := Nat.le_refl _
    go_wp2_with fail
    refine (HOK.out _ _ (by simp) (by simp [go_sem]) (by simp [go_sem]) (by go_grown)).mono ?_
    rintro _ w1 ⟨rfl, d1⟩
    have r1 := Dr.below d1; clear d1
    have s1 : Below w.heap.size w w1 := Below.trans (by go_grown) (r1.mono (by simp; try omega))
    have b1 := b0.trans (s1.mono z0)
    have z1 := b1.size
    have c0_0_1 := below_cell r1 (p := ⟨w.heap.size, 0, none⟩) (v := .string nm) (by simp [go_sem])
    have c0_1_1 := below_cell r1 (p := ⟨w.heap.size, 1, none⟩) (v := .slice ao n cap) (by simp [go_sem])
    clear r1
    go_wp2_with fail
    refine (HV.out _ _ c0_1_1 b1).mono ?_
    rintro _ _ ⟨rfl, rfl⟩
    have hlt_p : k < ps.length := by rw [HN.out]; omega
    have hix_p := ix (P := Try.prog) (T := 28) (cap := cap) Try.underlying28 cells_Ring has_Ring hao (k := k) (by omega) _ (rfl)
    have hp0 : w1.cell? ⟨bb, off + k * 3, none⟩ = some (.int .i64 (rg ps k).1) := by rw [rg_eq hlt_p]; exact hcell _ b1 _ _ (by omega) (trips_at hlt_p).1
    have hp1 : w1.cell? ⟨bb, off + k * 3 + 1, none⟩ = some (.int .i64 (rg ps k).2.1) := by rw [rg_eq hlt_p]; exact hcell _ b1 _ _ (by omega) (trips_at hlt_p).2.1
    have hp2 : w1.cell? ⟨bb, off + k * 3 + 2, none⟩ = some (.int .i64 (rg ps k).2.2) := by rw [rg_eq hlt_p]; exact hcell _ b1 _ _ (by omega) (trips_at hlt_p).2.2
    clear hcell hao
    generalize (rg ps k).1 = x0 at *
    generalize (rg ps k).2.1 = x1 at *
    generalize (rg ps k).2.2 = x2 at *
    have q1 : IntKind.i64.wrap (x0 - x1) = x0 - x1 := IntWalk.i64_in _ (by omega)
    go_wp2_with fail
    go_quiet (fail)
    clear q1
    go_wp2
    go_returns
    exact RetB.mk rfl (below_drewN b1 _)

end Go.Proofs.Ytpaciehgafobfaa
