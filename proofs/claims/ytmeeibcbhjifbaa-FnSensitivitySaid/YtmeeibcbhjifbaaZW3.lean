/- The mean walls of zones: both. -/
import Derived.Test.YtmeeibcbhjifbaaZW2
namespace Go.Proofs.Ytmeeibcbhjifbaa
set_option linter.unusedVariables false
open Go.RowKit Go.Proofs.Bell Go.BigFrame

def zoneWallsI (nm : ByteArray) (ps : List (Int × Int × Int)) (zs : List Int) : List Int × Int := if profB nm ps then (if vzB nm ps zs then (zwK ps zs zs.length, 0) else ([], 2)) else ([], 1)
theorem zoneWallsI_len (nm : ByteArray) (ps : List (Int × Int × Int)) (zs : List Int) : (zoneWallsI nm ps zs).1.length ≤ 8 := by
  unfold zoneWallsI
  split
  · split
    · rename_i h
      simp only [vzB, Bool.and_eq_true] at h
      rw [zwK_len]; exact (zones_len h.2).2
    · simp
  · simp

set_option maxRecDepth 100000 in
set_option maxHeartbeats 1600000 in
theorem implZoneWalls_c (nm : ByteArray) (sv : Value) (ps : List (Int × Int × Int)) (v : Value) (zs : List Int) (w : World) (hnm : nm.size ≤ maxLen) (hr : Rd w sv ps.length (trips ps)) (h : Rd w v zs.length (ints zs)) :
    Calls Try.prog 29 #[.agg #[.string nm, sv], v] w (RetI2 (zoneWallsI nm ps zs).1 (.int .i64 (zoneWallsI nm ps zs).2) w) := by
  have hok := fun w' (hb : Below w.heap.size w w') => ValidProfile_c nm sv ps w' hnm (hr.later hb)
  have hvz := fun w' (hb : Below w.heap.size w w') => ValidZones_c nm sv ps v zs w' hnm (hr.later hb) (h.later hb)
  cases t0 : profB nm ps <;> rw [t0] at hok
  · have he : zoneWallsI nm ps zs = ([], 1) := by simp [zoneWallsI, t0]
    rw [he]
    have HOK := Lib.hid hok; clear hok
    clear he hr hvz h
    go_enter Try.func29, Try.ntmps29
    have b0 : Below w.heap.size w w := Below.refl _ _
    have z0 : w.heap.size ≤ w.heap.size := Nat.le_refl _
    go_wp2_with fail
    refine (HOK.out _ (by go_grown)).mono ?_
    rintro _ w1 ⟨rfl, r1⟩
    have s1 : Below w.heap.size w w1 := Below.trans (by go_grown) (r1.mono (by simp; try omega))
    have b1 := b0.trans (s1.mono z0)
    have z1 := b1.size
    have y1 := s1.size
    have c0_0_1 := below_cell r1 (p := ⟨w.heap.size, 0, none⟩) (v := .string nm) (by simp [go_sem])
    have c0_1_1 := below_cell r1 (p := ⟨w.heap.size, 1, none⟩) (v := sv) (by simp [go_sem])
    clear r1
    go_wp2
    go_returns
    exact ⟨_, rfl, World.ownsRow_nil _ _ _ _, b1⟩
  · have HOK := Lib.hid hok; clear hok
    obtain ⟨hl1, hl2, hal, hht⟩ := profB_t t0
    cases t1 : vzB nm ps zs <;> rw [t1] at hvz
    · have he : zoneWallsI nm ps zs = ([], 2) := by simp [zoneWallsI, t0, t1]
      rw [he]
      have HVZ := Lib.hid hvz; clear hvz
      clear he hr h
      go_enter Try.func29, Try.ntmps29
      have b0 : Below w.heap.size w w := Below.refl _ _
      have z0 : w.heap.size ≤ w.heap.size := Nat.le_refl _
      go_wp2_with fail
      refine (HOK.out _ (by go_grown)).mono ?_
      rintro _ w1 ⟨rfl, r1⟩
      have s1 : Below w.heap.size w w1 := Below.trans (by go_grown) (r1.mono (by simp; try omega))
      have b1 := b0.trans (s1.mono z0)
      have z1 := b1.size
      have y1 := s1.size
      have c0_0_1 := below_cell r1 (p := ⟨w.heap.size, 0, none⟩) (v := .string nm) (by simp [go_sem])
      have c0_1_1 := below_cell r1 (p := ⟨w.heap.size, 1, none⟩) (v := sv) (by simp [go_sem])
      clear r1
      go_wp2_with fail
      refine (HVZ.out _ b1).mono ?_
      rintro _ w2 ⟨rfl, r2⟩
      have s2 := r2
      have b2 := b1.trans (s2.mono z1)
      have z2 := b2.size
      have y2 := s2.size
      have c0_0_2 := below_cell s2 c0_0_1; clear c0_0_1
      have c0_1_2 := below_cell s2 c0_1_1; clear c0_1_1
      clear r2
      go_wp2
      go_returns
      exact ⟨_, rfl, World.ownsRow_nil _ _ _ _, b2⟩
    · have he : zoneWallsI nm ps zs = (zwK ps zs zs.length, 0) := by simp [zoneWallsI, t0, t1]
      rw [he]
      have hzb : zonesB zs ((ps.length : Int) - 1) = true := by simp only [vzB, Bool.and_eq_true] at t1; exact t1.2
      have hw := fun w' (hb : Below w.heap.size w w') => zoneWalls_c nm sv ps v zs w' (hr.later hb) (h.later hb) hal hl2 hzb
      have HVZ := Lib.hid hvz; clear hvz
      have HW := Lib.hid hw; clear hw
      clear he hr h hzb hal t1
      generalize zwK ps zs zs.length = RES at *
      go_enter Try.func29, Try.ntmps29
      have b0 : Below w.heap.size w w := Below.refl _ _
      have z0 : w.heap.size ≤ w.heap.size := Nat.le_refl _
      go_wp2_with fail
      refine (HOK.out _ (by go_grown)).mono ?_
      rintro _ w1 ⟨rfl, r1⟩
      have s1 : Below w.heap.size w w1 := Below.trans (by go_grown) (r1.mono (by simp; try omega))
      have b1 := b0.trans (s1.mono z0)
      have z1 := b1.size
      have y1 := s1.size
      have c0_0_1 := below_cell r1 (p := ⟨w.heap.size, 0, none⟩) (v := .string nm) (by simp [go_sem])
      have c0_1_1 := below_cell r1 (p := ⟨w.heap.size, 1, none⟩) (v := sv) (by simp [go_sem])
      clear r1
      go_wp2_with fail
      refine (HVZ.out _ b1).mono ?_
      rintro _ w2 ⟨rfl, r2⟩
      have s2 := r2
      have b2 := b1.trans (s2.mono z1)
      have z2 := b2.size
      have y2 := s2.size
      have c0_0_2 := below_cell s2 c0_0_1; clear c0_0_1
      have c0_1_2 := below_cell s2 c0_1_1; clear c0_1_1
      clear r2
      go_wp2_with fail
      refine (HW.out _ b2).mono ?_
      rintro _ w3 ⟨x3, rfl, n3, r3⟩
      have s3 := r3
      have b3 := b2.trans (s3.mono z2)
      have z3 := b3.size
      have y3 := s3.size
      have c0_0_3 := below_cell s3 c0_0_2; clear c0_0_2
      have c0_1_3 := below_cell s3 c0_1_2; clear c0_1_2
      clear r3
      go_wp2
      go_returns
      exact ⟨_, rfl, own_base n3 (by omega), b3⟩

end Go.Proofs.Ytmeeibcbhjifbaa
