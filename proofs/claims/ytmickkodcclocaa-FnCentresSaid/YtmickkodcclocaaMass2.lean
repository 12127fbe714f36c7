/- Masses: the contracts. -/
import Derived.Test.YtmickkodcclocaaMass
namespace Go.Proofs.Ytmickkodcclocaa
set_option linter.unusedVariables false
open Go.RowKit Go.Proofs.Bell Go.BigFrame

theorem isDensity_c (n : Int) (w : World) : Calls Try.prog 193 #[.int .i64 n] w (RetS (.bool (inB n 1000 20000)) w) := by
  go_enter Try.func193, Try.ntmps193
  go_wp2_with (go_at_call 96; refine (within_c _ _ _ _).mono ?_; rintro _ _ ⟨rfl, rfl⟩)
  go_returns
  exact RetS.mk rfl
set_option maxHeartbeats 800000 in
theorem dense_c (nm : ByteArray) (sv : Value) (ps : List (Int × Int × Int)) (d : Int) (w : World) (hnm : nm.size ≤ maxLen) (hr : Rd w sv ps.length (trips ps)) :
    Calls Try.prog 139 #[.agg #[.string nm, sv], .int .i64 d] w (RetB (.int .i64 (denseI nm ps d)) w) := by
  have hok := fun w' (hb : Below w.heap.size w w') => ValidProfile_c nm sv ps w' hnm (hr.later hb)
  cases t0 : profB nm ps <;> rw [t0] at hok
  · have HOK := Lib.hid hok; clear hok
    go_enter Try.func139, Try.ntmps139
    have b0 : Below w.heap.size w w := Below.refl _ _
    have z0 : w.heap.size ≤ w.heap.size := Nat.le_refl _
    go_wp2_with fail
    refine (HOK.out _ (by go_grown)).mono ?_
    rintro _ w1 ⟨rfl, r1⟩
    have s1 : Below w.heap.size w w1 := Below.trans (by go_grown) (r1.mono (by simp; try omega))
    have b1 := b0.trans (s1.mono z0)
    have z1 := b1.size
    have y1 := s1.size
    have c0_0_1 := below_cell r1 (p := ⟨w.heap.size, 0, none⟩) (v := .string nm) (by simp [go_sem])
    have c0_1_1 := below_cell r1 (p := ⟨w.heap.size, 1, none⟩) (v := sv) (by simp [go_sem])
    clear r1
    go_wp2
    go_returns
    exact RetB.mk (int_eq (by simp [denseI, t0])) b1
  · have HOK := Lib.hid hok; clear hok
    obtain ⟨hl1, hl2, hal, hht⟩ := profB_t t0
    clear hal hr
    cases t1 : inB d 1000 20000 <;>
    · have hl := fun w' => isDensity_c d w'
      rw [t1] at hl
      have HL := Lib.hid hl; clear hl
      go_enter Try.func139, Try.ntmps139
      have b0 : Below w.heap.size w w := Below.refl _ _
      have z0 : w.heap.size ≤ w.heap.size := Nat.le_refl _
      go_wp2_with fail
      refine (HOK.out _ (by go_grown)).mono ?_
      rintro _ w1 ⟨rfl, r1⟩
      have s1 : Below w.heap.size w w1 := Below.trans (by go_grown) (r1.mono (by simp; try omega))
      have b1 := b0.trans (s1.mono z0)
      have z1 := b1.size
      have y1 := s1.size
      have c0_0_1 := below_cell r1 (p := ⟨w.heap.size, 0, none⟩) (v := .string nm) (by simp [go_sem])
      have c0_1_1 := below_cell r1 (p := ⟨w.heap.size, 1, none⟩) (v := sv) (by simp [go_sem])
      clear r1
      go_wp2_with (go_at_call 193; refine (HL.out _).mono ?_; rintro _ _ ⟨rfl, rfl⟩)
      go_returns
      exact RetB.mk (int_eq (by simp [denseI, t0, t1])) b1

theorem massI_bd {rs : List (Int × Int × Int)} {d : Int} (h : rs.all ringT = true) (hl : rs.length ≤ 32) (h1 : 0 ≤ d) (h2 : d ≤ 20000) : 0 ≤ volI rs * d ∧ volI rs * d ≤ 13571681760000000 := by
  have a := volI_bd h hl
  have b := mul_bd a.1 h1 a.2 h2
  omega

theorem massOf_c (nm : ByteArray) (sv : Value) (ps : List (Int × Int × Int)) (d : Int) (w : World) (hr : Rd w sv ps.length (trips ps)) (hal : ps.all ringT = true) (hl : ps.length ≤ 32) (h1 : 0 ≤ d) (h2 : d ≤ 20000) :
    Calls Try.prog 145 #[.agg #[.string nm, sv], .int .i64 d] w (RetB (.int .i64 (massI ps d)) w) := by
  have hv := fun w' (hb : Below w.heap.size w w') => volumeOf_c nm sv ps w' (hr.later hb) hal hl
  have hm := massI_bd hal hl h1 h2
  have ha := volI_bd hal hl
  unfold massI
  have HV := Lib.hid hv; clear hv
  clear hr hal
  generalize volI ps = v at *
  go_enter Try.func145, Try.ntmps145
  have b0 : Below w.heap.size w w := Below.refl _ _
  have z0 : w.heap.size ≤ w.heap.size := Nat.le_refl _
  go_wp2_with fail
  refine (HV.out _ (by go_grown)).mono ?_
  rintro _ w1 ⟨rfl, r1⟩
  have s1 : Below w.heap.size w w1 := Below.trans (by go_grown) (r1.mono (by simp; try omega))
  have b1 := b0.trans (s1.mono z0)
  have z1 := b1.size
  have y1 := s1.size
  have c0_0_1 := below_cell r1 (p := ⟨w.heap.size, 0, none⟩) (v := .string nm) (by simp [go_sem])
  have c0_1_1 := below_cell r1 (p := ⟨w.heap.size, 1, none⟩) (v := sv) (by simp [go_sem])
  clear r1
  go_wp2_with fail
  refine (nearest_c _ _ _ (by omega) (by omega) (by omega) (by omega)).mono ?_
  rintro _ w2 ⟨rfl, d2⟩
  have r2 := Dr.below d2; clear d2
  have s2 := r2
  have b2 := b1.trans (s2.mono z1)
  have z2 := b2.size
  have y2 := s2.size
  have c0_0_2 := below_cell s2 c0_0_1; clear c0_0_1
  have c0_1_2 := below_cell s2 c0_1_1; clear c0_1_1
  clear r2
  go_wp2
  go_returns
  exact RetB.mk (rfl) b2

set_option maxHeartbeats 800000 in
theorem implMassOf_c (nm : ByteArray) (sv : Value) (ps : List (Int × Int × Int)) (d : Int) (w : World) (hnm : nm.size ≤ maxLen) (hr : Rd w sv ps.length (trips ps)) :
    Calls Try.prog 65 #[.agg #[.string nm, sv], .int .i64 d] w (RetB (.tuple #[.int .i64 (massOfI nm ps d).1, .int .i64 (massOfI nm ps d).2]) w) := by
  have hok := fun w' (hb : Below w.heap.size w w') => dense_c nm sv ps d w' hnm (hr.later hb)
  by_cases t0 : ¬ denseI nm ps d = 0
  · have he : massOfI nm ps d = (0, denseI nm ps d) := by simp [massOfI, t0]
    rw [he]
    clear he
    have HOK := Lib.hid hok; clear hok
    generalize denseI nm ps d = code at *
    go_enter Try.func65, Try.ntmps65
    have b0 : Below w.heap.size w w := Below.refl _ _
    have z0 : w.heap.size ≤ w.heap.size := Nat.le_refl _
    go_wp2_with fail
    refine (HOK.out _ (by go_grown)).mono ?_
    rintro _ w1 ⟨rfl, r1⟩
    have s1 : Below w.heap.size w w1 := Below.trans (by go_grown) (r1.mono (by simp; try omega))
    have b1 := b0.trans (s1.mono z0)
    have z1 := b1.size
    have y1 := s1.size
    have c0_0_1 := below_cell r1 (p := ⟨w.heap.size, 0, none⟩) (v := .string nm) (by simp [go_sem])
    have c0_1_1 := below_cell r1 (p := ⟨w.heap.size, 1, none⟩) (v := sv) (by simp [go_sem])
    clear r1
    go_wp2
    go_returns
    exact RetB.mk (rfl) b1
  · have t0 : denseI nm ps d = 0 := Classical.not_not.1 t0
    rw [t0] at hok
    have HOK := Lib.hid hok; clear hok
    obtain ⟨hp, hd1, hd2⟩ := denseI_zero t0
    obtain ⟨hl1, hl2, hal, hht⟩ := profB_t hp
    have he : massOfI nm ps d = (massI ps d, 0) := by simp [massOfI, t0]
    rw [he]
    clear he
    have hv := fun w' (hb : Below w.heap.size w w') => massOf_c nm sv ps d w' (hr.later hb) hal hl2 (by omega) (by omega)
    have HV := Lib.hid hv; clear hv
    go_enter Try.func65, Try.ntmps65
    have b0 : Below w.heap.size w w := Below.refl _ _
    have z0 : w.heap.size ≤ w.heap.size := Nat.le_refl _
    go_wp2_with fail
    refine (HOK.out _ (by go_grown)).mono ?_
    rintro _ w1 ⟨rfl, r1⟩
    have s1 : Below w.heap.size w w1 := Below.trans (by go_grown) (r1.mono (by simp; try omega))
    have b1 := b0.trans (s1.mono z0)
    have z1 := b1.size
    have y1 := s1.size
    have c0_0_1 := below_cell r1 (p := ⟨w.heap.size, 0, none⟩) (v := .string nm) (by simp [go_sem])
    have c0_1_1 := below_cell r1 (p := ⟨w.heap.size, 1, none⟩) (v := sv) (by simp [go_sem])
    clear r1
    go_wp2_with fail
    refine (HV.out _ b1).mono ?_
    rintro _ w2 ⟨rfl, r2⟩
    have s2 := r2
    have b2 := b1.trans (s2.mono z1)
    have z2 := b2.size
    have y2 := s2.size
    have c0_0_2 := below_cell s2 c0_0_1; clear c0_0_1
    have c0_1_2 := below_cell s2 c0_1_1; clear c0_1_1
    clear r2
    go_wp2
    go_returns
    exact RetB.mk (rfl) b2

end Go.Proofs.Ytmickkodcclocaa
