/- The law FnVolumes, walked. -/
import Derived.Test.YtmickkodcclocaaCentW
import Derived.Test.YtmickkodcclocaaGH
import Derived.Test.YtmickkodcclocaaGJ
import Derived.Test.YtmickkodcclocaaMomD
import Derived.Test.YtmickkodcclocaaVolL
namespace Go.Proofs.Ytmickkodcclocaa
set_option linter.unusedVariables false
open Go.RowKit Go.Proofs.Bell Go.BigFrame

set_option maxRecDepth 100000 in
set_option maxHeartbeats 6400000 in
theorem lawFnVolumes_c (w : World) (v0 v1 : Value) (z0s z1s : List Int) (h0 : Rd w v0 z0s.length (bytesV z0s)) (h1 : Rd w v1 z1s.length (bytesV z1s)) (hb0 : ∀ z ∈ z0s, Byte z) (hb1 : ∀ z ∈ z1s, Byte z) : Calls Try.prog 12 #[v0, v1] w (RetB (.bool true) w) := by
  have hl0 := b10Long_c v0 z0s w h0
  have hl1 := b10Long_c v1 z1s w h1
  cases l0 : decide (1048576 < z0s.length) <;> rw [l0] at hl0
  · cases l1 : decide (1048576 < z1s.length) <;> rw [l1] at hl1
    · have k0 : z0s.length ≤ 1048576 := by have := of_decide_eq_false l0; omega
      have k1 : z1s.length ≤ 1048576 := by have := of_decide_eq_false l1; omega
      have hdp := DrawRingVolume_c v0 z0s w h0 hb0 k0
      have hdq := fun w' (hx : Below w.heap.size w w') => DrawRingMasses_c v1 z1s w' (h1.later hx) hb1 k1
      have HL0 := Lib.hid hl0; clear hl0
      have HL1 := Lib.hid hl1; clear hl1
      have HDP := Lib.hid hdp; clear hdp
      have HDQ := Lib.hid hdq; clear hdq
      obtain ⟨_, aoA, capA, _, _, rfl, _, _⟩ := h0.open
      obtain ⟨_, aoB, capB, _, _, rfl, _, _⟩ := h1.open
      clear h0 h1 hb0 hb1 l0 l1 k0 k1
      generalize z0s.length = na at *
      generalize z1s.length = nb at *
      go_enter Try.func12, Try.ntmps12
      have b0 : Below w.heap.size w w := Below.refl _ _
      have z0 : w.heap.size ≤ w.heap.size := Nat.le_refl _
      go_wp2_with fail
      refine HL0.out.mono ?_
      rintro _ _ ⟨rfl, rfl⟩
      go_wp2_with fail
      refine HL1.out.mono ?_
      rintro _ _ ⟨rfl, rfl⟩
      go_wp2_with fail
      refine HDP.out.mono ?_
      rintro _ w1 ⟨o, i, h, rfl, r1⟩
      have s1 := r1
      have b1 := b0.trans (s1.mono z0)
      have z1 := b1.size
      have y1 := s1.size
      have hv1 := fun w' => implRingVolume_c o i h w'
      obtain ⟨i2, hw⟩ : ∃ i2, IntKind.i64.wrap (i + 1) = i2 := ⟨_, rfl⟩
      have hv2 := fun w' => implRingVolume_c o i2 h w'
      by_cases e1 : (rvolI o i h).2 = 0
      · obtain ⟨g0, g1, g2⟩ := rvol_law o i h e1
        rw [hw] at g1
        rw [← g1] at g2
        by_cases e2 : (rvolI o i2 h).2 = 0
        · have g3 := g2 e2
          rw [e1] at hv1
          rw [e2] at hv2
          clear g1 g2 e1 e2
          generalize (rvolI o i h).1 = A at *
          generalize (rvolI o i2 h).1 = B at *
          have t1 : decide (A < 0) = false := decide_eq_false (by omega)
          have t2 : decide (A < B) = false := decide_eq_false (by omega)
          clear g0 g3
          have HV1 := Lib.hid hv1; clear hv1
          have HV2 := Lib.hid hv2; clear hv2
          go_wp2_with fail
          refine (HV1.out _).mono ?_
          rintro _ w2 ⟨rfl, r2⟩
          have s2 : Below w1.heap.size w1 w2 := Below.trans (by go_grown) (r2.mono (by simp; try omega))
          have b2 := b1.trans (s2.mono z1)
          have z2 := b2.size
          have y2 := s2.size
          have c0_0_2 := below_cell r2 (p := ⟨w1.heap.size, 0, none⟩) (v := .int .i64 o) (by simp [go_sem])
          have c0_1_2 := below_cell r2 (p := ⟨w1.heap.size, 1, none⟩) (v := .int .i64 i) (by simp [go_sem])
          have c0_2_2 := below_cell r2 (p := ⟨w1.heap.size, 2, none⟩) (v := .int .i64 h) (by simp [go_sem])
          clear r2
          go_wp2_with fail
          refine (HV2.out _).mono ?_
          rintro _ w3 ⟨rfl, r3⟩
          have s3 : Below w2.heap.size w2 w3 := Below.trans (by go_grown) (r3.mono (by simp; try omega))
          have b3 := b2.trans (s3.mono z2)
          have z3 := b3.size
          have y3 := s3.size
          clear r3
          go_wp2_with fail
          refine (HDQ.out _ b3).mono ?_
          rintro _ w8 ⟨nm2, rs, u2, d, rfl, o8, hnm2, hr8, r8⟩
          have s4 := r8
          have b4 := b3.trans (s4.mono z3)
          have z4 := b4.size
          have y4 := s4.size
          obtain ⟨a8, c8, rfl⟩ := own_shape o8
          have ob := own_base o8 (Nat.le_refl _)
          have OB := Lib.hid ob; clear ob
          clear o8
          have hrm := fun w' u (hr : Rd w' u rs.length (trips rs)) => implRingMasses_c nm2 u rs d w' hnm2 hr
          have hma := fun w' u (hr : Rd w' u rs.length (trips rs)) => implMassOf_c nm2 u rs d w' hnm2 hr
          have hvo := fun w' u (hr : Rd w' u rs.length (trips rs)) => implVolumeOf_c nm2 u rs w' hnm2 hr
          have HVO := Lib.hid hvo; clear hvo
          by_cases t0 : ¬ denseI nm2 rs d = 0
          · rw [show ringMassesI nm2 rs d = ([], denseI nm2 rs d) by simp [ringMassesI, t0]] at hrm
            rw [show massOfI nm2 rs d = (0, denseI nm2 rs d) by simp [massOfI, t0]] at hma
            generalize denseI nm2 rs d = code at *
            have t1 : (code == 0) = false := by simpa using t0
            have HMA := Lib.hid hma; clear hma
            have HRM := Lib.hid hrm; clear hrm
            clear hr8 hnm2
            go_wp2_with fail
            refine (HRM.out _ _ ((Rd.of_own OB.out).later (by go_grown))).mono ?_
            rintro _ w5 ⟨x5, rfl, n5, r5⟩
            have s5 : Below w8.heap.size w8 w5 := Below.trans (by go_grown) (r5.mono (by simp; try omega))
            have b5 := b4.trans (s5.mono z4)
            have z5 := b5.size
            have y5 := s5.size
            have c2_0_5 := below_cell r5 (p := ⟨w8.heap.size, 0, none⟩) (v := .string nm2) (by simp [go_sem])
            have c2_1_5 := below_cell r5 (p := ⟨w8.heap.size, 1, none⟩) (v := .slice a8 rs.length c8) (by simp [go_sem])
            have o1_5 := own_later OB.out s5; have O1_5 := Lib.hid o1_5; clear o1_5
            clear r5
            obtain ⟨am, cm, rfl⟩ := own_shape n5
            clear n5
            go_wp2_with fail
            refine (HMA.out _ _ (Rd.of_own O1_5.out)).mono ?_
            rintro _ w6 ⟨rfl, r6⟩
            have s6 := r6
            have b6 := b5.trans (s6.mono z5)
            have z6 := b6.size
            have y6 := s6.size
            have c2_0_6 := below_cell s6 c2_0_5; clear c2_0_5
            have c2_1_6 := below_cell s6 c2_1_5; clear c2_1_5
            have o1_6 := own_later O1_5.out s6; have O1_6 := Lib.hid o1_6; clear o1_6
            clear r6
            go_wp2_with fail
            refine (HVO.out _ _ (Rd.of_own O1_6.out)).mono ?_
            rintro _ w7 ⟨rfl, r7⟩
            have s7 := r7
            have b7 := b6.trans (s7.mono z6)
            have z7 := b7.size
            have y7 := s7.size
            have c2_0_7 := below_cell s7 c2_0_6; clear c2_0_6
            have c2_1_7 := below_cell s7 c2_1_6; clear c2_1_6
            have o1_7 := own_later O1_6.out s7; have O1_7 := Lib.hid o1_7; clear o1_7
            clear r7
            go_wp2
            go_returns
            exact RetB.mk rfl b7
          · have t0 : denseI nm2 rs d = 0 := Classical.not_not.1 t0
            obtain ⟨q1, q2, q3, q4, q5, q6, q7, q8, q9, q10, ee, q11, q12, q13, q14⟩ := vol_law t0
            have hde := fun w' u (hr : Rd w' u rs.length (trips rs)) => implDensityFor_c nm2 u rs (massI rs d) w' hnm2 hr
            have hab := fun w' u (hr : Rd w' u rs.length (trips rs)) => implMassAbove_c nm2 u rs d 0 w' hnm2 hr
            have hme := fun w' u (hr : Rd w' u rs.length (trips rs)) => implMassOf_c nm2 u rs ee w' hnm2 hr
            rw [q1] at hrm
            rw [q2] at hma
            rw [q8] at hab
            rw [q11] at hde
            rw [q13] at hme
            have hvo := HVO.out
            rw [q3] at hvo
            clear HVO
            obtain ⟨hp2, hd1, hd2⟩ := denseI_zero t0
            obtain ⟨l1, l2, hal, _⟩ := profB_t hp2
            have hml : (massesI rs d).length = rs.length := by simp [massesI]
            have hsb := sumK_bd (zs := massesI rs d) (M := 424115055) (by omega) (fun z hz => by
              obtain ⟨p, hp, rfl⟩ := List.mem_map.1 hz
              exact (rmassT_bd (by omega) hd2 (List.all_eq_true.1 hal _ hp)).2.2)
            have hss : sumK (massesI rs d) (massesI rs d).length = (massesI rs d).sum := by rw [sumK_take _ _ (Nat.le_refl _), List.take_length]
            have hsm := hsb _ (Nat.le_refl _)
            rw [hss] at hsm
            have hsu := fun w' v (hr : Rd w' v (massesI rs d).length (ints (massesI rs d))) => b10Sum_c v (massesI rs d) w' hr (fun k hk => by have := hsb k hk; omega)
            rw [hss] at hsu
            clear q1 q2 q3 q8 q11 q13 t0 hp2 hnm2 hr8 hal hss hsb
            generalize massesI rs d = ms at *
            generalize massI rs d = M at *
            generalize massI rs ee = ME at *
            generalize volI rs = V at *
            have hsm2 : ms.sum ≤ 424115055 * 32 := by omega
            have e1 : IntKind.i64.wrap (ms.sum - M) = ms.sum - M := IntWalk.i64_in _ (by omega)
            have e2 : IntKind.i64.wrap ((rs.length : Int) + 1) = (rs.length : Int) + 1 := IntWalk.i64_in _ (by omega)
            have habs := fun w' => b10Abs_c (ms.sum - M) 100000000000000 w' (by omega) (by omega) (by omega)
            obtain ⟨AB, hAB⟩ : ∃ AB, AB = (if ms.sum - M < 0 then -(ms.sum - M) else ms.sum - M) := ⟨_, rfl⟩
            rw [← hAB] at habs
            have t1 : decide ((rs.length : Int) + 1 < AB) = false := decide_eq_false (by rw [hAB]; split <;> omega)
            have t2 : decide (d < ee) = false := decide_eq_false (by omega)
            have t3 : decide (M ≤ ME) = true := decide_eq_true q14
            have t4 : decide (0 ≤ V) = true := decide_eq_true q4
            have HRM := Lib.hid hrm; clear hrm
            have HMA := Lib.hid hma; clear hma
            have HVO := Lib.hid hvo; clear hvo
            have HDE := Lib.hid hde; clear hde
            have HAB := Lib.hid hab; clear hab
            have HME := Lib.hid hme; clear hme
            have HSU := Lib.hid hsu; clear hsu
            have HABS := Lib.hid habs; clear habs
            have HML := Lib.hid hml; clear hml
            clear hAB hsm hsm2 q4 q5 q6 q7 q9 q10 q12 q14 hd1 hd2 l1 l2
            go_wp2_with fail
            refine (HRM.out _ _ ((Rd.of_own OB.out).later (by go_grown))).mono ?_
            rintro _ w5 ⟨x5, rfl, n5, r5⟩
            have s5 : Below w8.heap.size w8 w5 := Below.trans (by go_grown) (r5.mono (by simp; try omega))
            have b5 := b4.trans (s5.mono z4)
            have z5 := b5.size
            have y5 := s5.size
            have c2_0_5 := below_cell r5 (p := ⟨w8.heap.size, 0, none⟩) (v := .string nm2) (by simp [go_sem])
            have c2_1_5 := below_cell r5 (p := ⟨w8.heap.size, 1, none⟩) (v := .slice a8 rs.length c8) (by simp [go_sem])
            have o1_5 := own_later OB.out s5; have O1_5 := Lib.hid o1_5; clear o1_5
            clear r5
            obtain ⟨am, cm, hu⟩ := own_shape n5
            rw [HML.out] at hu
            subst hu
            have om := n5
            have OM := Lib.hid om; clear om
            clear n5
            go_wp2_with fail
            refine (HMA.out _ _ (Rd.of_own O1_5.out)).mono ?_
            rintro _ w6 ⟨rfl, r6⟩
            have s6 := r6
            have b6 := b5.trans (s6.mono z5)
            have z6 := b6.size
            have y6 := s6.size
            have c2_0_6 := below_cell s6 c2_0_5; clear c2_0_5
            have c2_1_6 := below_cell s6 c2_1_5; clear c2_1_5
            have o1_6 := own_later O1_5.out s6; have O1_6 := Lib.hid o1_6; clear o1_6
            have o2_6 := own_later OM.out s6; have O2_6 := Lib.hid o2_6; clear o2_6
            clear r6
            go_wp2_with fail
            refine (HVO.out _ _ (Rd.of_own O1_6.out)).mono ?_
            rintro _ w7 ⟨rfl, r7⟩
            have s7 := r7
            have b7 := b6.trans (s7.mono z6)
            have z7 := b7.size
            have y7 := s7.size
            have c2_0_7 := below_cell s7 c2_0_6; clear c2_0_6
            have c2_1_7 := below_cell s7 c2_1_6; clear c2_1_6
            have o1_7 := own_later O1_6.out s7; have O1_7 := Lib.hid o1_7; clear o1_7
            have o2_7 := own_later O2_6.out s7; have O2_7 := Lib.hid o2_7; clear o2_7
            clear r7
            go_wp2_with fail
            refine (HDE.out _ _ (Rd.of_own O1_7.out)).mono ?_
            rintro _ w8 ⟨rfl, r8⟩
            have s8 := r8
            have b8 := b7.trans (s8.mono z7)
            have z8 := b8.size
            have y8 := s8.size
            have c2_0_8 := below_cell s8 c2_0_7; clear c2_0_7
            have c2_1_8 := below_cell s8 c2_1_7; clear c2_1_7
            have o1_8 := own_later O1_7.out s8; have O1_8 := Lib.hid o1_8; clear o1_8
            have o2_8 := own_later O2_7.out s8; have O2_8 := Lib.hid o2_8; clear o2_8
            clear r8
            go_wp2_with fail
            refine (HAB.out _ _ (Rd.of_own O1_8.out)).mono ?_
            rintro _ w9 ⟨rfl, r9⟩
            have s9 := r9
            have b9 := b8.trans (s9.mono z8)
            have z9 := b9.size
            have y9 := s9.size
            have c2_0_9 := below_cell s9 c2_0_8; clear c2_0_8
            have c2_1_9 := below_cell s9 c2_1_8; clear c2_1_8
            have o1_9 := own_later O1_8.out s9; have O1_9 := Lib.hid o1_9; clear o1_9
            have o2_9 := own_later O2_8.out s9; have O2_9 := Lib.hid o2_9; clear o2_9
            clear r9
            go_wp2_with fail
            refine (HSU.out _ _ (Rd.of_own O2_9.out)).mono ?_
            rintro _ _ ⟨rfl, rfl⟩
            go_wp2_with fail
            refine (HABS.out _).mono ?_
            rintro _ _ ⟨rfl, rfl⟩
            go_wp2_with fail
            refine (HSU.out _ _ (Rd.of_own O2_9.out)).mono ?_
            rintro _ _ ⟨rfl, rfl⟩
            go_wp2_with fail
            refine (HME.out _ _ (Rd.of_own O1_9.out)).mono ?_
            rintro _ w10 ⟨rfl, r10⟩
            have s10 := r10
            have b10 := b9.trans (s10.mono z9)
            have z10 := b10.size
            have y10 := s10.size
            have c2_0_10 := below_cell s10 c2_0_9; clear c2_0_9
            have c2_1_10 := below_cell s10 c2_1_9; clear c2_1_9
            have o1_10 := own_later O1_9.out s10; have O1_10 := Lib.hid o1_10; clear o1_10
            have o2_10 := own_later O2_9.out s10; have O2_10 := Lib.hid o2_10; clear o2_10
            clear r10
            go_wp2
            go_returns
            exact RetB.mk rfl b10
        · rw [e1] at hv1
          have t2 : ((rvolI o i2 h).2 == 0) = false := by simpa using e2
          clear g1 g2 e1 e2
          generalize (rvolI o i h).1 = A at *
          generalize (rvolI o i2 h).1 = B at *
          generalize (rvolI o i2 h).2 = C at *
          have t1 : decide (A < 0) = false := decide_eq_false (by omega)
          clear g0
          have HV1 := Lib.hid hv1; clear hv1
          have HV2 := Lib.hid hv2; clear hv2
          go_wp2_with fail
          refine (HV1.out _).mono ?_
          rintro _ w2 ⟨rfl, r2⟩
          have s2 : Below w1.heap.size w1 w2 := Below.trans (by go_grown) (r2.mono (by simp; try omega))
          have b2 := b1.trans (s2.mono z1)
          have z2 := b2.size
          have y2 := s2.size
          have c0_0_2 := below_cell r2 (p := ⟨w1.heap.size, 0, none⟩) (v := .int .i64 o) (by simp [go_sem])
          have c0_1_2 := below_cell r2 (p := ⟨w1.heap.size, 1, none⟩) (v := .int .i64 i) (by simp [go_sem])
          have c0_2_2 := below_cell r2 (p := ⟨w1.heap.size, 2, none⟩) (v := .int .i64 h) (by simp [go_sem])
          clear r2
          go_wp2_with fail
          refine (HV2.out _).mono ?_
          rintro _ w3 ⟨rfl, r3⟩
          have s3 : Below w2.heap.size w2 w3 := Below.trans (by go_grown) (r3.mono (by simp; try omega))
          have b3 := b2.trans (s3.mono z2)
          have z3 := b3.size
          have y3 := s3.size
          clear r3
          go_wp2_with fail
          refine (HDQ.out _ b3).mono ?_
          rintro _ w8 ⟨nm2, rs, u2, d, rfl, o8, hnm2, hr8, r8⟩
          have s4 := r8
          have b4 := b3.trans (s4.mono z3)
          have z4 := b4.size
          have y4 := s4.size
          obtain ⟨a8, c8, rfl⟩ := own_shape o8
          have ob := own_base o8 (Nat.le_refl _)
          have OB := Lib.hid ob; clear ob
          clear o8
          have hrm := fun w' u (hr : Rd w' u rs.length (trips rs)) => implRingMasses_c nm2 u rs d w' hnm2 hr
          have hma := fun w' u (hr : Rd w' u rs.length (trips rs)) => implMassOf_c nm2 u rs d w' hnm2 hr
          have hvo := fun w' u (hr : Rd w' u rs.length (trips rs)) => implVolumeOf_c nm2 u rs w' hnm2 hr
          have HVO := Lib.hid hvo; clear hvo
          by_cases t0 : ¬ denseI nm2 rs d = 0
          · rw [show ringMassesI nm2 rs d = ([], denseI nm2 rs d) by simp [ringMassesI, t0]] at hrm
            rw [show massOfI nm2 rs d = (0, denseI nm2 rs d) by simp [massOfI, t0]] at hma
            generalize denseI nm2 rs d = code at *
            have t1 : (code == 0) = false := by simpa using t0
            have HMA := Lib.hid hma; clear hma
            have HRM := Lib.hid hrm; clear hrm
            clear hr8 hnm2
            go_wp2_with fail
            refine (HRM.out _ _ ((Rd.of_own OB.out).later (by go_grown))).mono ?_
            rintro _ w5 ⟨x5, rfl, n5, r5⟩
            have s5 : Below w8.heap.size w8 w5 := Below.trans (by go_grown) (r5.mono (by simp; try omega))
            have b5 := b4.trans (s5.mono z4)
            have z5 := b5.size
            have y5 := s5.size
            have c2_0_5 := below_cell r5 (p := ⟨w8.heap.size, 0, none⟩) (v := .string nm2) (by simp [go_sem])
            have c2_1_5 := below_cell r5 (p := ⟨w8.heap.size, 1, none⟩) (v := .slice a8 rs.length c8) (by simp [go_sem])
            have o1_5 := own_later OB.out s5; have O1_5 := Lib.hid o1_5; clear o1_5
            clear r5
            obtain ⟨am, cm, rfl⟩ := own_shape n5
            clear n5
            go_wp2_with fail
            refine (HMA.out _ _ (Rd.of_own O1_5.out)).mono ?_
            rintro _ w6 ⟨rfl, r6⟩
            have s6 := r6
            have b6 := b5.trans (s6.mono z5)
            have z6 := b6.size
            have y6 := s6.size
            have c2_0_6 := below_cell s6 c2_0_5; clear c2_0_5
            have c2_1_6 := below_cell s6 c2_1_5; clear c2_1_5
            have o1_6 := own_later O1_5.out s6; have O1_6 := Lib.hid o1_6; clear o1_6
            clear r6
            go_wp2_with fail
            refine (HVO.out _ _ (Rd.of_own O1_6.out)).mono ?_
            rintro _ w7 ⟨rfl, r7⟩
            have s7 := r7
            have b7 := b6.trans (s7.mono z6)
            have z7 := b7.size
            have y7 := s7.size
            have c2_0_7 := below_cell s7 c2_0_6; clear c2_0_6
            have c2_1_7 := below_cell s7 c2_1_6; clear c2_1_6
            have o1_7 := own_later O1_6.out s7; have O1_7 := Lib.hid o1_7; clear o1_7
            clear r7
            go_wp2
            go_returns
            exact RetB.mk rfl b7
          · have t0 : denseI nm2 rs d = 0 := Classical.not_not.1 t0
            obtain ⟨q1, q2, q3, q4, q5, q6, q7, q8, q9, q10, ee, q11, q12, q13, q14⟩ := vol_law t0
            have hde := fun w' u (hr : Rd w' u rs.length (trips rs)) => implDensityFor_c nm2 u rs (massI rs d) w' hnm2 hr
            have hab := fun w' u (hr : Rd w' u rs.length (trips rs)) => implMassAbove_c nm2 u rs d 0 w' hnm2 hr
            have hme := fun w' u (hr : Rd w' u rs.length (trips rs)) => implMassOf_c nm2 u rs ee w' hnm2 hr
            rw [q1] at hrm
            rw [q2] at hma
            rw [q8] at hab
            rw [q11] at hde
            rw [q13] at hme
            have hvo := HVO.out
            rw [q3] at hvo
            clear HVO
            obtain ⟨hp2, hd1, hd2⟩ := denseI_zero t0
            obtain ⟨l1, l2, hal, _⟩ := profB_t hp2
            have hml : (massesI rs d).length = rs.length := by simp [massesI]
            have hsb := sumK_bd (zs := massesI rs d) (M := 424115055) (by omega) (fun z hz => by
              obtain ⟨p, hp, rfl⟩ := List.mem_map.1 hz
              exact (rmassT_bd (by omega) hd2 (List.all_eq_true.1 hal _ hp)).2.2)
            have hss : sumK (massesI rs d) (massesI rs d).length = (massesI rs d).sum := by rw [sumK_take _ _ (Nat.le_refl _), List.take_length]
            have hsm := hsb _ (Nat.le_refl _)
            rw [hss] at hsm
            have hsu := fun w' v (hr : Rd w' v (massesI rs d).length (ints (massesI rs d))) => b10Sum_c v (massesI rs d) w' hr (fun k hk => by have := hsb k hk; omega)
            rw [hss] at hsu
            clear q1 q2 q3 q8 q11 q13 t0 hp2 hnm2 hr8 hal hss hsb
            generalize massesI rs d = ms at *
            generalize massI rs d = M at *
            generalize massI rs ee = ME at *
            generalize volI rs = V at *
            have hsm2 : ms.sum ≤ 424115055 * 32 := by omega
            have e1 : IntKind.i64.wrap (ms.sum - M) = ms.sum - M := IntWalk.i64_in _ (by omega)
            have e2 : IntKind.i64.wrap ((rs.length : Int) + 1) = (rs.length : Int) + 1 := IntWalk.i64_in _ (by omega)
            have habs := fun w' => b10Abs_c (ms.sum - M) 100000000000000 w' (by omega) (by omega) (by omega)
            obtain ⟨AB, hAB⟩ : ∃ AB, AB = (if ms.sum - M < 0 then -(ms.sum - M) else ms.sum - M) := ⟨_, rfl⟩
            rw [← hAB] at habs
            have t1 : decide ((rs.length : Int) + 1 < AB) = false := decide_eq_false (by rw [hAB]; split <;> omega)
            have t2 : decide (d < ee) = false := decide_eq_false (by omega)
            have t3 : decide (M ≤ ME) = true := decide_eq_true q14
            have t4 : decide (0 ≤ V) = true := decide_eq_true q4
            have HRM := Lib.hid hrm; clear hrm
            have HMA := Lib.hid hma; clear hma
            have HVO := Lib.hid hvo; clear hvo
            have HDE := Lib.hid hde; clear hde
            have HAB := Lib.hid hab; clear hab
            have HME := Lib.hid hme; clear hme
            have HSU := Lib.hid hsu; clear hsu
            have HABS := Lib.hid habs; clear habs
            have HML := Lib.hid hml; clear hml
            clear hAB hsm hsm2 q4 q5 q6 q7 q9 q10 q12 q14 hd1 hd2 l1 l2
            go_wp2_with fail
            refine (HRM.out _ _ ((Rd.of_own OB.out).later (by go_grown))).mono ?_
            rintro _ w5 ⟨x5, rfl, n5, r5⟩
            have s5 : Below w8.heap.size w8 w5 := Below.trans (by go_grown) (r5.mono (by simp; try omega))
            have b5 := b4.trans (s5.mono z4)
            have z5 := b5.size
            have y5 := s5.size
            have c2_0_5 := below_cell r5 (p := ⟨w8.heap.size, 0, none⟩) (v := .string nm2) (by simp [go_sem])
            have c2_1_5 := below_cell r5 (p := ⟨w8.heap.size, 1, none⟩) (v := .slice a8 rs.length c8) (by simp [go_sem])
            have o1_5 := own_later OB.out s5; have O1_5 := Lib.hid o1_5; clear o1_5
            clear r5
            obtain ⟨am, cm, hu⟩ := own_shape n5
            rw [HML.out] at hu
            subst hu
            have om := n5
            have OM := Lib.hid om; clear om
            clear n5
            go_wp2_with fail
            refine (HMA.out _ _ (Rd.of_own O1_5.out)).mono ?_
            rintro _ w6 ⟨rfl, r6⟩
            have s6 := r6
            have b6 := b5.trans (s6.mono z5)
            have z6 := b6.size
            have y6 := s6.size
            have c2_0_6 := below_cell s6 c2_0_5; clear c2_0_5
            have c2_1_6 := below_cell s6 c2_1_5; clear c2_1_5
            have o1_6 := own_later O1_5.out s6; have O1_6 := Lib.hid o1_6; clear o1_6
            have o2_6 := own_later OM.out s6; have O2_6 := Lib.hid o2_6; clear o2_6
            clear r6
            go_wp2_with fail
            refine (HVO.out _ _ (Rd.of_own O1_6.out)).mono ?_
            rintro _ w7 ⟨rfl, r7⟩
            have s7 := r7
            have b7 := b6.trans (s7.mono z6)
            have z7 := b7.size
            have y7 := s7.size
            have c2_0_7 := below_cell s7 c2_0_6; clear c2_0_6
            have c2_1_7 := below_cell s7 c2_1_6; clear c2_1_6
            have o1_7 := own_later O1_6.out s7; have O1_7 := Lib.hid o1_7; clear o1_7
            have o2_7 := own_later O2_6.out s7; have O2_7 := Lib.hid o2_7; clear o2_7
            clear r7
            go_wp2_with fail
            refine (HDE.out _ _ (Rd.of_own O1_7.out)).mono ?_
            rintro _ w8 ⟨rfl, r8⟩
            have s8 := r8
            have b8 := b7.trans (s8.mono z7)
            have z8 := b8.size
            have y8 := s8.size
            have c2_0_8 := below_cell s8 c2_0_7; clear c2_0_7
            have c2_1_8 := below_cell s8 c2_1_7; clear c2_1_7
            have o1_8 := own_later O1_7.out s8; have O1_8 := Lib.hid o1_8; clear o1_8
            have o2_8 := own_later O2_7.out s8; have O2_8 := Lib.hid o2_8; clear o2_8
            clear r8
            go_wp2_with fail
            refine (HAB.out _ _ (Rd.of_own O1_8.out)).mono ?_
            rintro _ w9 ⟨rfl, r9⟩
            have s9 := r9
            have b9 := b8.trans (s9.mono z8)
            have z9 := b9.size
            have y9 := s9.size
            have c2_0_9 := below_cell s9 c2_0_8; clear c2_0_8
            have c2_1_9 := below_cell s9 c2_1_8; clear c2_1_8
            have o1_9 := own_later O1_8.out s9; have O1_9 := Lib.hid o1_9; clear o1_9
            have o2_9 := own_later O2_8.out s9; have O2_9 := Lib.hid o2_9; clear o2_9
            clear r9
            go_wp2_with fail
            refine (HSU.out _ _ (Rd.of_own O2_9.out)).mono ?_
            rintro _ _ ⟨rfl, rfl⟩
            go_wp2_with fail
            refine (HABS.out _).mono ?_
            rintro _ _ ⟨rfl, rfl⟩
            go_wp2_with fail
            refine (HSU.out _ _ (Rd.of_own O2_9.out)).mono ?_
            rintro _ _ ⟨rfl, rfl⟩
            go_wp2_with fail
            refine (HME.out _ _ (Rd.of_own O1_9.out)).mono ?_
            rintro _ w10 ⟨rfl, r10⟩
            have s10 := r10
            have b10 := b9.trans (s10.mono z9)
            have z10 := b10.size
            have y10 := s10.size
            have c2_0_10 := below_cell s10 c2_0_9; clear c2_0_9
            have c2_1_10 := below_cell s10 c2_1_9; clear c2_1_9
            have o1_10 := own_later O1_9.out s10; have O1_10 := Lib.hid o1_10; clear o1_10
            have o2_10 := own_later O2_9.out s10; have O2_10 := Lib.hid o2_10; clear o2_10
            clear r10
            go_wp2
            go_returns
            exact RetB.mk rfl b10
      · have t1 : ((rvolI o i h).2 == 0) = false := by simpa using e1
        clear e1
        generalize (rvolI o i h).1 = A at *
        generalize (rvolI o i h).2 = D at *
        generalize (rvolI o i2 h).1 = B at *
        generalize (rvolI o i2 h).2 = C at *
        have HV1 := Lib.hid hv1; clear hv1
        have HV2 := Lib.hid hv2; clear hv2
        go_wp2_with fail
        refine (HV1.out _).mono ?_
        rintro _ w2 ⟨rfl, r2⟩
        have s2 : Below w1.heap.size w1 w2 := Below.trans (by go_grown) (r2.mono (by simp; try omega))
        have b2 := b1.trans (s2.mono z1)
        have z2 := b2.size
        have y2 := s2.size
        have c0_0_2 := below_cell r2 (p := ⟨w1.heap.size, 0, none⟩) (v := .int .i64 o) (by simp [go_sem])
        have c0_1_2 := below_cell r2 (p := ⟨w1.heap.size, 1, none⟩) (v := .int .i64 i) (by simp [go_sem])
        have c0_2_2 := below_cell r2 (p := ⟨w1.heap.size, 2, none⟩) (v := .int .i64 h) (by simp [go_sem])
        clear r2
        go_wp2_with fail
        refine (HV2.out _).mono ?_
        rintro _ w3 ⟨rfl, r3⟩
        have s3 : Below w2.heap.size w2 w3 := Below.trans (by go_grown) (r3.mono (by simp; try omega))
        have b3 := b2.trans (s3.mono z2)
        have z3 := b3.size
        have y3 := s3.size
        clear r3
        go_wp2_with fail
        refine (HDQ.out _ b3).mono ?_
        rintro _ w8 ⟨nm2, rs, u2, d, rfl, o8, hnm2, hr8, r8⟩
        have s4 := r8
        have b4 := b3.trans (s4.mono z3)
        have z4 := b4.size
        have y4 := s4.size
        obtain ⟨a8, c8, rfl⟩ := own_shape o8
        have ob := own_base o8 (Nat.le_refl _)
        have OB := Lib.hid ob; clear ob
        clear o8
        have hrm := fun w' u (hr : Rd w' u rs.length (trips rs)) => implRingMasses_c nm2 u rs d w' hnm2 hr
        have hma := fun w' u (hr : Rd w' u rs.length (trips rs)) => implMassOf_c nm2 u rs d w' hnm2 hr
        have hvo := fun w' u (hr : Rd w' u rs.length (trips rs)) => implVolumeOf_c nm2 u rs w' hnm2 hr
        have HVO := Lib.hid hvo; clear hvo
        by_cases t0 : ¬ denseI nm2 rs d = 0
        · rw [show ringMassesI nm2 rs d = ([], denseI nm2 rs d) by simp [ringMassesI, t0]] at hrm
          rw [show massOfI nm2 rs d = (0, denseI nm2 rs d) by simp [massOfI, t0]] at hma
          generalize denseI nm2 rs d = code at *
          have t1 : (code == 0) = false := by simpa using t0
          have HMA := Lib.hid hma; clear hma
          have HRM := Lib.hid hrm; clear hrm
          clear hr8 hnm2
          go_wp2_with fail
          refine (HRM.out _ _ ((Rd.of_own OB.out).later (by go_grown))).mono ?_
          rintro _ w5 ⟨x5, rfl, n5, r5⟩
          have s5 : Below w8.heap.size w8 w5 := Below.trans (by go_grown) (r5.mono (by simp; try omega))
          have b5 := b4.trans (s5.mono z4)
          have z5 := b5.size
          have y5 := s5.size
          have c2_0_5 := below_cell r5 (p := ⟨w8.heap.size, 0, none⟩) (v := .string nm2) (by simp [go_sem])
          have c2_1_5 := below_cell r5 (p := ⟨w8.heap.size, 1, none⟩) (v := .slice a8 rs.length c8) (by simp [go_sem])
          have o1_5 := own_later OB.out s5; have O1_5 := Lib.hid o1_5; clear o1_5
          clear r5
          obtain ⟨am, cm, rfl⟩ := own_shape n5
          clear n5
          go_wp2_with fail
          refine (HMA.out _ _ (Rd.of_own O1_5.out)).mono ?_
          rintro _ w6 ⟨rfl, r6⟩
          have s6 := r6
          have b6 := b5.trans (s6.mono z5)
          have z6 := b6.size
          have y6 := s6.size
          have c2_0_6 := below_cell s6 c2_0_5; clear c2_0_5
          have c2_1_6 := below_cell s6 c2_1_5; clear c2_1_5
          have o1_6 := own_later O1_5.out s6; have O1_6 := Lib.hid o1_6; clear o1_6
          clear r6
          go_wp2_with fail
          refine (HVO.out _ _ (Rd.of_own O1_6.out)).mono ?_
          rintro _ w7 ⟨rfl, r7⟩
          have s7 := r7
          have b7 := b6.trans (s7.mono z6)
          have z7 := b7.size
          have y7 := s7.size
          have c2_0_7 := below_cell s7 c2_0_6; clear c2_0_6
          have c2_1_7 := below_cell s7 c2_1_6; clear c2_1_6
          have o1_7 := own_later O1_6.out s7; have O1_7 := Lib.hid o1_7; clear o1_7
          clear r7
          go_wp2
          go_returns
          exact RetB.mk rfl b7
        · have t0 : denseI nm2 rs d = 0 := Classical.not_not.1 t0
          obtain ⟨q1, q2, q3, q4, q5, q6, q7, q8, q9, q10, ee, q11, q12, q13, q14⟩ := vol_law t0
          have hde := fun w' u (hr : Rd w' u rs.length (trips rs)) => implDensityFor_c nm2 u rs (massI rs d) w' hnm2 hr
          have hab := fun w' u (hr : Rd w' u rs.length (trips rs)) => implMassAbove_c nm2 u rs d 0 w' hnm2 hr
          have hme := fun w' u (hr : Rd w' u rs.length (trips rs)) => implMassOf_c nm2 u rs ee w' hnm2 hr
          rw [q1] at hrm
          rw [q2] at hma
          rw [q8] at hab
          rw [q11] at hde
          rw [q13] at hme
          have hvo := HVO.out
          rw [q3] at hvo
          clear HVO
          obtain ⟨hp2, hd1, hd2⟩ := denseI_zero t0
          obtain ⟨l1, l2, hal, _⟩ := profB_t hp2
          have hml : (massesI rs d).length = rs.length := by simp [massesI]
          have hsb := sumK_bd (zs := massesI rs d) (M := 424115055) (by omega) (fun z hz => by
            obtain ⟨p, hp, rfl⟩ := List.mem_map.1 hz
            exact (rmassT_bd (by omega) hd2 (List.all_eq_true.1 hal _ hp)).2.2)
          have hss : sumK (massesI rs d) (massesI rs d).length = (massesI rs d).sum := by rw [sumK_take _ _ (Nat.le_refl _), List.take_length]
          have hsm := hsb _ (Nat.le_refl _)
          rw [hss] at hsm
          have hsu := fun w' v (hr : Rd w' v (massesI rs d).length (ints (massesI rs d))) => b10Sum_c v (massesI rs d) w' hr (fun k hk => by have := hsb k hk; omega)
          rw [hss] at hsu
          clear q1 q2 q3 q8 q11 q13 t0 hp2 hnm2 hr8 hal hss hsb
          generalize massesI rs d = ms at *
          generalize massI rs d = M at *
          generalize massI rs ee = ME at *
          generalize volI rs = V at *
          have hsm2 : ms.sum ≤ 424115055 * 32 := by omega
          have e1 : IntKind.i64.wrap (ms.sum - M) = ms.sum - M := IntWalk.i64_in _ (by omega)
          have e2 : IntKind.i64.wrap ((rs.length : Int) + 1) = (rs.length : Int) + 1 := IntWalk.i64_in _ (by omega)
          have habs := fun w' => b10Abs_c (ms.sum - M) 100000000000000 w' (by omega) (by omega) (by omega)
          obtain ⟨AB, hAB⟩ : ∃ AB, AB = (if ms.sum - M < 0 then -(ms.sum - M) else ms.sum - M) := ⟨_, rfl⟩
          rw [← hAB] at habs
          have t1 : decide ((rs.length : Int) + 1 < AB) = false := decide_eq_false (by rw [hAB]; split <;> omega)
          have t2 : decide (d < ee) = false := decide_eq_false (by omega)
          have t3 : decide (M ≤ ME) = true := decide_eq_true q14
          have t4 : decide (0 ≤ V) = true := decide_eq_true q4
          have HRM := Lib.hid hrm; clear hrm
          have HMA := Lib.hid hma; clear hma
          have HVO := Lib.hid hvo; clear hvo
          have HDE := Lib.hid hde; clear hde
          have HAB := Lib.hid hab; clear hab
          have HME := Lib.hid hme; clear hme
          have HSU := Lib.hid hsu; clear hsu
          have HABS := Lib.hid habs; clear habs
          have HML := Lib.hid hml; clear hml
          clear hAB hsm hsm2 q4 q5 q6 q7 q9 q10 q12 q14 hd1 hd2 l1 l2
          go_wp2_with fail
          refine (HRM.out _ _ ((Rd.of_own OB.out).later (by go_grown))).mono ?_
          rintro _ w5 ⟨x5, rfl, n5, r5⟩
          have s5 : Below w8.heap.size w8 w5 := Below.trans (by go_grown) (r5.mono (by simp; try omega))
          have b5 := b4.trans (s5.mono z4)
          have z5 := b5.size
          have y5 := s5.size
          have c2_0_5 := below_cell r5 (p := ⟨w8.heap.size, 0, none⟩) (v := .string nm2) (by simp [go_sem])
          have c2_1_5 := below_cell r5 (p := ⟨w8.heap.size, 1, none⟩) (v := .slice a8 rs.length c8) (by simp [go_sem])
          have o1_5 := own_later OB.out s5; have O1_5 := Lib.hid o1_5; clear o1_5
          clear r5
          obtain ⟨am, cm, hu⟩ := own_shape n5
          rw [HML.out] at hu
          subst hu
          have om := n5
          have OM := Lib.hid om; clear om
          clear n5
          go_wp2_with fail
          refine (HMA.out _ _ (Rd.of_own O1_5.out)).mono ?_
          rintro _ w6 ⟨rfl, r6⟩
          have s6 := r6
          have b6 := b5.trans (s6.mono z5)
          have z6 := b6.size
          have y6 := s6.size
          have c2_0_6 := below_cell s6 c2_0_5; clear c2_0_5
          have c2_1_6 := below_cell s6 c2_1_5; clear c2_1_5
          have o1_6 := own_later O1_5.out s6; have O1_6 := Lib.hid o1_6; clear o1_6
          have o2_6 := own_later OM.out s6; have O2_6 := Lib.hid o2_6; clear o2_6
          clear r6
          go_wp2_with fail
          refine (HVO.out _ _ (Rd.of_own O1_6.out)).mono ?_
          rintro _ w7 ⟨rfl, r7⟩
          have s7 := r7
          have b7 := b6.trans (s7.mono z6)
          have z7 := b7.size
          have y7 := s7.size
          have c2_0_7 := below_cell s7 c2_0_6; clear c2_0_6
          have c2_1_7 := below_cell s7 c2_1_6; clear c2_1_6
          have o1_7 := own_later O1_6.out s7; have O1_7 := Lib.hid o1_7; clear o1_7
          have o2_7 := own_later O2_6.out s7; have O2_7 := Lib.hid o2_7; clear o2_7
          clear r7
          go_wp2_with fail
          refine (HDE.out _ _ (Rd.of_own O1_7.out)).mono ?_
          rintro _ w8 ⟨rfl, r8⟩
          have s8 := r8
          have b8 := b7.trans (s8.mono z7)
          have z8 := b8.size
          have y8 := s8.size
          have c2_0_8 := below_cell s8 c2_0_7; clear c2_0_7
          have c2_1_8 := below_cell s8 c2_1_7; clear c2_1_7
          have o1_8 := own_later O1_7.out s8; have O1_8 := Lib.hid o1_8; clear o1_8
          have o2_8 := own_later O2_7.out s8; have O2_8 := Lib.hid o2_8; clear o2_8
          clear r8
          go_wp2_with fail
          refine (HAB.out _ _ (Rd.of_own O1_8.out)).mono ?_
          rintro _ w9 ⟨rfl, r9⟩
          have s9 := r9
          have b9 := b8.trans (s9.mono z8)
          have z9 := b9.size
          have y9 := s9.size
          have c2_0_9 := below_cell s9 c2_0_8; clear c2_0_8
          have c2_1_9 := below_cell s9 c2_1_8; clear c2_1_8
          have o1_9 := own_later O1_8.out s9; have O1_9 := Lib.hid o1_9; clear o1_9
          have o2_9 := own_later O2_8.out s9; have O2_9 := Lib.hid o2_9; clear o2_9
          clear r9
          go_wp2_with fail
          refine (HSU.out _ _ (Rd.of_own O2_9.out)).mono ?_
          rintro _ _ ⟨rfl, rfl⟩
          go_wp2_with fail
          refine (HABS.out _).mono ?_
          rintro _ _ ⟨rfl, rfl⟩
          go_wp2_with fail
          refine (HSU.out _ _ (Rd.of_own O2_9.out)).mono ?_
          rintro _ _ ⟨rfl, rfl⟩
          go_wp2_with fail
          refine (HME.out _ _ (Rd.of_own O1_9.out)).mono ?_
          rintro _ w10 ⟨rfl, r10⟩
          have s10 := r10
          have b10 := b9.trans (s10.mono z9)
          have z10 := b10.size
          have y10 := s10.size
          have c2_0_10 := below_cell s10 c2_0_9; clear c2_0_9
          have c2_1_10 := below_cell s10 c2_1_9; clear c2_1_9
          have o1_10 := own_later O1_9.out s10; have O1_10 := Lib.hid o1_10; clear o1_10
          have o2_10 := own_later O2_9.out s10; have O2_10 := Lib.hid o2_10; clear o2_10
          clear r10
          go_wp2
          go_returns
          exact RetB.mk rfl b10
    · have HL0 := Lib.hid hl0; clear hl0
      have HL1 := Lib.hid hl1; clear hl1
      obtain ⟨_, aoA, capA, _, _, rfl, _, _⟩ := h0.open
      obtain ⟨_, aoB, capB, _, _, rfl, _, _⟩ := h1.open
      clear h0 h1 hb0 hb1 l0 l1
      generalize z0s.length = na at *
      generalize z1s.length = nb at *
      go_enter Try.func12, Try.ntmps12
      have b0 : Below w.heap.size w w := Below.refl _ _
      have z0 : w.heap.size ≤ w.heap.size := Nat.le_refl _
      go_wp2_with fail
      refine HL0.out.mono ?_
      rintro _ _ ⟨rfl, rfl⟩
      go_wp2_with fail
      refine HL1.out.mono ?_
      rintro _ _ ⟨rfl, rfl⟩
      go_wp2
      go_returns
      exact RetB.mk rfl b0
  · have HL0 := Lib.hid hl0; clear hl0
    obtain ⟨_, aoA, capA, _, _, rfl, _, _⟩ := h0.open
    obtain ⟨_, aoB, capB, _, _, rfl, _, _⟩ := h1.open
    clear h0 h1 hb0 hb1 l0 hl1
    generalize z0s.length = na at *
    generalize z1s.length = nb at *
    go_enter Try.func12, Try.ntmps12
    have b0 : Below w.heap.size w w := Below.refl _ _
    have z0 : w.heap.size ≤ w.heap.size := Nat.le_refl _
    go_wp2_with fail
    refine HL0.out.mono ?_
    rintro _ _ ⟨rfl, rfl⟩
    go_wp2
    go_returns
    exact RetB.mk rfl b0

end Go.Proofs.Ytmickkodcclocaa
