/- MostSteps, both. -/
import Derived.Test.YtddkjcdnomoglaaMost2
import Derived.Test.YtddkjcdnomoglaaZones2
namespace Go.Proofs.Ytddkjcdnomoglaa
set_option linter.unusedVariables false
open Go.RowKit Go.Proofs.Bell Go.BigFrame

def mostStepsI (nm : ByteArray) (ps : List (Int × Int × Int)) (zs : List Int) (z : Int) : Int × Int := if vzB nm ps zs then (if inB z 0 ((zs.length : Int) - 1) then ((mostI nm ps zs z.toNat : Nat), 0) else (0, 2)) else (0, 1)

set_option maxRecDepth 100000 in
set_option maxHeartbeats 1600000 in
theorem specMostSteps_c (nm : ByteArray) (sv : Value) (ps : List (Int × Int × Int)) (v : Value) (zs : List Int) (z : Int) (w : World) (hnm : nm.size ≤ maxLen) (hr : Rd w sv ps.length (trips ps)) (h : Rd w v zs.length (ints zs)) :
    Calls Try.prog 16 #[.agg #[.string nm, sv], v, .int .i64 z] w (RetB (.tuple #[.int .i64 (mostStepsI nm ps zs z).1, .int .i64 (mostStepsI nm ps zs z).2]) w) := by
  have hvz := fun w' g hg c0 c1 (hb : Below w.heap.size w w') => l09Zones_c g nm sv ps v zs w' hg hnm c0 c1 (hr.later hb) (h.later hb)
  cases t1 : vzB nm ps zs <;> rw [t1] at hvz
  · have he : mostStepsI nm ps zs z = (0, 1) := by simp [mostStepsI, t1]
    rw [he]
    have HVZ := Lib.hid hvz; clear hvz
    clear he hr h
    go_enter Try.func16, Try.ntmps16
    have b0 : Below w.heap.size w w := Below.refl _ _
    have z0 : w.heap.size ≤ w.heap.size := Nat.le_refl _
    go_wp2_with fail
    refine (HVZ.out _ _ (by simp; try omega) (by simp [go_sem]) (by simp [go_sem]) (by go_grown)).mono ?_
    rintro _ w1 ⟨rfl, d1⟩
    have r1 := Dr.below d1; clear d1
    have s1 : Below w.heap.size w w1 := Below.trans (by go_grown) (r1.mono (by simp; try omega))
    have b1 := b0.trans (s1.mono z0)
    have z1 := b1.size
    have y1 := s1.size
    have c0_0_1 := below_cell r1 (p := ⟨w.heap.size, 0, none⟩) (v := .string nm) (by simp [go_sem])
    have c0_1_1 := below_cell r1 (p := ⟨w.heap.size, 1, none⟩) (v := sv) (by simp [go_sem])
    clear r1
    go_wp2
    go_returns
    exact RetB.mk (rfl) b1
  · have hin := fun w' => l00In_c z 0 ((zs.length : Int) - 1) w'
    have hpz : profB nm ps = true ∧ zonesB zs ((ps.length : Int) - 1) = true := by simpa only [vzB, Bool.and_eq_true] using t1
    obtain ⟨hz1, hz8⟩ := zones_len hpz.2
    cases t2 : inB z 0 ((zs.length : Int) - 1) <;> rw [t2] at hin
    · have he : mostStepsI nm ps zs z = (0, 2) := by simp [mostStepsI, t1, t2]
      rw [he]
      obtain ⟨hnq, aoq, capq, bq, offq, rfl, haoq, hcellq⟩ := h.open
      have HVZ := Lib.hid hvz; clear hvz
      have HIN := Lib.hid hin; clear hin
      clear he hr hcellq haoq hpz t1 t2
      go_enter Try.func16, Try.ntmps16
      have b0 : Below w.heap.size w w := Below.refl _ _
      have z0 : w.heap.size ≤ w.heap.size := Nat.le_refl _
      go_wp2_with fail
      refine (HVZ.out _ _ (by simp; try omega) (by simp [go_sem]) (by simp [go_sem]) (by go_grown)).mono ?_
      rintro _ w1 ⟨rfl, d1⟩
      have r1 := Dr.below d1; clear d1
      have s1 : Below w.heap.size w w1 := Below.trans (by go_grown) (r1.mono (by simp; try omega))
      have b1 := b0.trans (s1.mono z0)
      have z1 := b1.size
      have y1 := s1.size
      have c0_0_1 := below_cell r1 (p := ⟨w.heap.size, 0, none⟩) (v := .string nm) (by simp [go_sem])
      have c0_1_1 := below_cell r1 (p := ⟨w.heap.size, 1, none⟩) (v := sv) (by simp [go_sem])
      clear r1
      go_wp2_with fail
      refine (HIN.out _).mono ?_
      rintro _ _ ⟨rfl, rfl⟩
      go_wp2
      go_returns
      exact RetB.mk (rfl) b1
    · obtain ⟨hl1, hl2, hal, hht⟩ := profB_t hpz.1
      obtain ⟨q1, q2⟩ := inB_t t2
      obtain ⟨k, rfl⟩ := Int.eq_ofNat_of_zero_le q1
      have he : mostStepsI nm ps zs k = (((mostI nm ps zs k : Nat) : Int), (0 : Int)) := by simp [mostStepsI, t1, t2]
      rw [he]
      have hw := fun w' g hg c0 c1 (hb : Below w.heap.size w w') => l09Most_c g nm sv ps v zs k w' hg hnm c0 c1 (hr.later hb) (h.later hb) hl1 hl2 hal hpz.2 (by omega)
      obtain ⟨hnq, aoq, capq, bq, offq, rfl, haoq, hcellq⟩ := h.open
      have HVZ := Lib.hid hvz; clear hvz
      have HIN := Lib.hid hin; clear hin
      have HW := Lib.hid hw; clear hw
      clear he hr hcellq haoq hpz t1 t2 hal
      generalize mostI nm ps zs k = RES at *
      go_enter Try.func16, Try.ntmps16
      have b0 : Below w.heap.size w w := Below.refl _ _
      have z0 : w.heap.size ≤ w.heap.size := Nat.le_refl _
      go_wp2_with fail
      refine (HVZ.out _ _ (by simp; try omega) (by simp [go_sem]) (by simp [go_sem]) (by go_grown)).mono ?_
      rintro _ w1 ⟨rfl, d1⟩
      have r1 := Dr.below d1; clear d1
      have s1 : Below w.heap.size w w1 := Below.trans (by go_grown) (r1.mono (by simp; try omega))
      have b1 := b0.trans (s1.mono z0)
      have z1 := b1.size
      have y1 := s1.size
      have c0_0_1 := below_cell r1 (p := ⟨w.heap.size, 0, none⟩) (v := .string nm) (by simp [go_sem])
      have c0_1_1 := below_cell r1 (p := ⟨w.heap.size, 1, none⟩) (v := sv) (by simp [go_sem])
      clear r1
      go_wp2_with fail
      refine (HIN.out _).mono ?_
      rintro _ _ ⟨rfl, rfl⟩
      have zz2 := World.block_lt_of_cell? _ ⟨w.heap.size, 0, none⟩ c0_0_1
      go_wp2_with fail
      refine (HW.out _ _ (by simpa using zz2) c0_0_1 c0_1_1 b1).mono ?_
      rintro _ w2 ⟨rfl, r2⟩
      have s2 := r2
      have b2 := b1.trans (s2.mono z1)
      have z2 := b2.size
      have y2 := s2.size
      have c0_0_2 := below_cell s2 c0_0_1; clear c0_0_1
      have c0_1_2 := below_cell s2 c0_1_1; clear c0_1_1
      clear r2
      go_wp2
      go_returns
      exact RetB.mk (rfl) b2

set_option maxRecDepth 100000 in
set_option maxHeartbeats 1600000 in
theorem implMostSteps_c (nm : ByteArray) (sv : Value) (ps : List (Int × Int × Int)) (v : Value) (zs : List Int) (z : Int) (w : World) (hnm : nm.size ≤ maxLen) (hr : Rd w sv ps.length (trips ps)) (h : Rd w v zs.length (ints zs)) :
    Calls Try.prog 19 #[.agg #[.string nm, sv], v, .int .i64 z] w (RetB (.tuple #[.int .i64 (mostStepsI nm ps zs z).1, .int .i64 (mostStepsI nm ps zs z).2]) w) := by
  have hvz := fun w' (hb : Below w.heap.size w w') => ValidZones_c nm sv ps v zs w' hnm (hr.later hb) (h.later hb)
  cases t1 : vzB nm ps zs <;> rw [t1] at hvz
  · have he : mostStepsI nm ps zs z = (0, 1) := by simp [mostStepsI, t1]
    rw [he]
    have HVZ := Lib.hid hvz; clear hvz
    clear he hr h
    go_enter Try.func19, Try.ntmps19
    have b0 : Below w.heap.size w w := Below.refl _ _
    have z0 : w.heap.size ≤ w.heap.size := Nat.le_refl _
    go_wp2_with fail
    refine (HVZ.out _ (by go_grown)).mono ?_
    rintro _ w1 ⟨rfl, r1⟩
    have s1 : Below w.heap.size w w1 := Below.trans (by go_grown) (r1.mono (by simp; try omega))
    have b1 := b0.trans (s1.mono z0)
    have z1 := b1.size
    have y1 := s1.size
    have c0_0_1 := below_cell r1 (p := ⟨w.heap.size, 0, none⟩) (v := .string nm) (by simp [go_sem])
    have c0_1_1 := below_cell r1 (p := ⟨w.heap.size, 1, none⟩) (v := sv) (by simp [go_sem])
    clear r1
    go_wp2
    go_returns
    exact RetB.mk (rfl) b1
  · have hin := fun w' => within_c z 0 ((zs.length : Int) - 1) w'
    have hsz := fun w' (hb : Below w.heap.size w w') => size64_c v zs.length (ints zs) w' (h.later hb)
    have hpz : profB nm ps = true ∧ zonesB zs ((ps.length : Int) - 1) = true := by simpa only [vzB, Bool.and_eq_true] using t1
    obtain ⟨hz1, hz8⟩ := zones_len hpz.2
    cases t2 : inB z 0 ((zs.length : Int) - 1) <;> rw [t2] at hin
    · have he : mostStepsI nm ps zs z = (0, 2) := by simp [mostStepsI, t1, t2]
      rw [he]
      have HVZ := Lib.hid hvz; clear hvz
      have HIN := Lib.hid hin; clear hin
      have HSZ := Lib.hid hsz; clear hsz
      clear he hr h hpz t1 t2
      go_enter Try.func19, Try.ntmps19
      have b0 : Below w.heap.size w w := Below.refl _ _
      have z0 : w.heap.size ≤ w.heap.size := Nat.le_refl _
      go_wp2_with fail
      refine (HVZ.out _ (by go_grown)).mono ?_
      rintro _ w1 ⟨rfl, r1⟩
      have s1 : Below w.heap.size w w1 := Below.trans (by go_grown) (r1.mono (by simp; try omega))
      have b1 := b0.trans (s1.mono z0)
      have z1 := b1.size
      have y1 := s1.size
      have c0_0_1 := below_cell r1 (p := ⟨w.heap.size, 0, none⟩) (v := .string nm) (by simp [go_sem])
      have c0_1_1 := below_cell r1 (p := ⟨w.heap.size, 1, none⟩) (v := sv) (by simp [go_sem])
      clear r1
      go_wp2_with fail
      refine (HSZ.out _ b1).mono ?_
      rintro _ _ ⟨rfl, rfl⟩
      go_wp2_with fail
      refine (HIN.out _).mono ?_
      rintro _ _ ⟨rfl, rfl⟩
      go_wp2
      go_returns
      exact RetB.mk (rfl) b1
    · obtain ⟨hl1, hl2, hal, hht⟩ := profB_t hpz.1
      obtain ⟨q1, q2⟩ := inB_t t2
      obtain ⟨k, rfl⟩ := Int.eq_ofNat_of_zero_le q1
      have he : mostStepsI nm ps zs k = (((mostI nm ps zs k : Nat) : Int), (0 : Int)) := by simp [mostStepsI, t1, t2]
      rw [he]
      have hw := fun w' (hb : Below w.heap.size w w') => mostSteps_c nm sv ps v zs k w' hnm (hr.later hb) (h.later hb) hl1 hl2 hal hpz.2 (by omega)
      have HVZ := Lib.hid hvz; clear hvz
      have HIN := Lib.hid hin; clear hin
      have HSZ := Lib.hid hsz; clear hsz
      have HW := Lib.hid hw; clear hw
      clear he hr h hpz t1 t2 hal
      generalize mostI nm ps zs k = RES at *
      go_enter Try.func19, Try.ntmps19
      have b0 : Below w.heap.size w w := Below.refl _ _
      have z0 : w.heap.size ≤ w.heap.size := Nat.le_refl _
      go_wp2_with fail
      refine (HVZ.out _ (by go_grown)).mono ?_
      rintro _ w1 ⟨rfl, r1⟩
      have s1 : Below w.heap.size w w1 := Below.trans (by go_grown) (r1.mono (by simp; try omega))
      have b1 := b0.trans (s1.mono z0)
      have z1 := b1.size
      have y1 := s1.size
      have c0_0_1 := below_cell r1 (p := ⟨w.heap.size, 0, none⟩) (v := .string nm) (by simp [go_sem])
      have c0_1_1 := below_cell r1 (p := ⟨w.heap.size, 1, none⟩) (v := sv) (by simp [go_sem])
      clear r1
      go_wp2_with fail
      refine (HSZ.out _ b1).mono ?_
      rintro _ _ ⟨rfl, rfl⟩
      go_wp2_with fail
      refine (HIN.out _).mono ?_
      rintro _ _ ⟨rfl, rfl⟩
      go_wp2_with fail
      refine (HW.out _ b1).mono ?_
      rintro _ w2 ⟨rfl, r2⟩
      have s2 := r2
      have b2 := b1.trans (s2.mono z1)
      have z2 := b2.size
      have y2 := s2.size
      have c0_0_2 := below_cell s2 c0_0_1; clear c0_0_1
      have c0_1_2 := below_cell s2 c0_1_1; clear c0_1_1
      clear r2
      go_wp2
      go_returns
      exact RetB.mk (rfl) b2

end Go.Proofs.Ytddkjcdnomoglaa
