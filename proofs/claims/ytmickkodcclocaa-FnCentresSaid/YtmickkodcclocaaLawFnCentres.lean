/- The law FnCentres, walked. -/
import Derived.Test.YtmickkodcclocaaCent
import Derived.Test.YtmickkodcclocaaCentW
import Derived.Test.YtmickkodcclocaaMass3
import Derived.Test.YtmickkodcclocaaMom
import Derived.Test.YtmickkodcclocaaMomD
namespace Go.Proofs.Ytmickkodcclocaa
set_option linter.unusedVariables false
open Go.RowKit Go.Proofs.Bell Go.BigFrame

set_option maxRecDepth 100000 in
set_option maxHeartbeats 6400000 in
theorem lawFnCentres_c (w : World) (v0 v1 : Value) (z0s z1s : List Int) (h0 : Rd w v0 z0s.length (bytesV z0s)) (h1 : Rd w v1 z1s.length (bytesV z1s)) (hb0 : ∀ z ∈ z0s, Byte z) (hb1 : ∀ z ∈ z1s, Byte z) : Calls Try.prog 11 #[v0, v1] w (RetB (.bool true) w) := by
  have hl0 := b10Long_c v0 z0s w h0
  have hl1 := b10Long_c v1 z1s w h1
  cases l0 : decide (1048576 < z0s.length) <;> rw [l0] at hl0
  · cases l1 : decide (1048576 < z1s.length) <;> rw [l1] at hl1
    · have k0 : z0s.length ≤ 1048576 := by have := of_decide_eq_false l0; omega
      have k1 : z1s.length ≤ 1048576 := by have := of_decide_eq_false l1; omega
      have hdp := DrawCentreOf_c v0 z0s w h0 hb0 k0
      have hdq := fun w' (hx : Below w.heap.size w w') => DrawMomentOf_c v1 z1s w' (h1.later hx) hb1 k1
      have HL0 := Lib.hid hl0; clear hl0
      have HL1 := Lib.hid hl1; clear hl1
      have HDP := Lib.hid hdp; clear hdp
      have HDQ := Lib.hid hdq; clear hdq
      obtain ⟨_, aoA, capA, _, _, rfl, _, _⟩ := h0.open
      obtain ⟨_, aoB, capB, _, _, rfl, _, _⟩ := h1.open
      clear h0 h1 hb0 hb1 l0 l1 k0 k1
      generalize z0s.length = na at *
      generalize z1s.length = nb at *
      go_enter Try.func11, Try.ntmps11
      have b0 : Below w.heap.size w w := Below.refl _ _
      have z0 : w.heap.size ≤ w.heap.size := Nat.le_refl _
      go_wp2_with fail
      refine HL0.out.mono ?_
      rintro _ _ ⟨rfl, rfl⟩
      go_wp2_with fail
      refine HL1.out.mono ?_
      rintro _ _ ⟨rfl, rfl⟩
      go_wp2_with fail
      refine HDP.out.mono ?_
      rintro _ w1 ⟨nm, ps, u, rfl, ou, hnm, hr9, r1⟩
      have s1 := r1
      have b1 := b0.trans (s1.mono z0)
      have z1 := b1.size
      have y1 := s1.size
      obtain ⟨au, cu, rfl⟩ := own_shape ou
      have oa := own_base ou (Nat.le_refl _)
      have OA := Lib.hid oa; clear oa
      clear ou
      have hce := fun w' u (hr : Rd w' u ps.length (trips ps)) => implCentreOf_c nm u ps w' hnm hr
      cases hp : profB nm ps
      · have hhe := fun w' u (hr : Rd w' u ps.length (trips ps)) => specHeightF_c nm u ps w' hnm hr hp
        rw [centre_no hp] at hce
        have HCE := Lib.hid hce; clear hce
        have HHE := Lib.hid hhe; clear hhe
        have HNM := Lib.hid hnm; clear hnm
        clear hr9 hp
        go_wp2_with fail
        refine (HCE.out _ _ ((Rd.of_own OA.out).later (by go_grown))).mono ?_
        rintro _ w2 ⟨rfl, r2⟩
        have s2 : Below w1.heap.size w1 w2 := Below.trans (by go_grown) (r2.mono (by simp; try omega))
        have b2 := b1.trans (s2.mono z1)
        have z2 := b2.size
        have y2 := s2.size
        have c0_0_2 := below_cell r2 (p := ⟨w1.heap.size, 0, none⟩) (v := .string nm) (by simp [go_sem])
        have c0_1_2 := below_cell r2 (p := ⟨w1.heap.size, 1, none⟩) (v := .slice au ps.length cu) (by simp [go_sem])
        have o0_2 := own_later OA.out s2; have O0_2 := Lib.hid o0_2; clear o0_2
        clear r2
        go_wp2_with fail
        refine (HHE.out _ _ (Rd.of_own O0_2.out)).mono ?_
        rintro _ w3 ⟨rfl, r3⟩
        have s3 := r3
        have b3 := b2.trans (s3.mono z2)
        have z3 := b3.size
        have y3 := s3.size
        have c0_0_3 := below_cell s3 c0_0_2; clear c0_0_2
        have c0_1_3 := below_cell s3 c0_1_2; clear c0_1_2
        have o0_3 := own_later O0_2.out s3; have O0_3 := Lib.hid o0_3; clear o0_3
        clear r3
        go_wp2_with fail
        refine (HDQ.out _ b3).mono ?_
        rintro _ w8 ⟨nm2, rs, u2, d, rfl, o8, hnm2, hr8, r8⟩
        have s4 := r8
        have b4 := b3.trans (s4.mono z3)
        have z4 := b4.size
        have y4 := s4.size
        have c0_0_4 := below_cell s4 c0_0_3; clear c0_0_3
        have c0_1_4 := below_cell s4 c0_1_3; clear c0_1_3
        have o0_4 := own_later O0_3.out s4; have O0_4 := Lib.hid o0_4; clear o0_4
        obtain ⟨a8, c8, rfl⟩ := own_shape o8
        have ob := own_base o8 (Nat.le_refl _)
        have OB := Lib.hid ob; clear ob
        clear o8
        have ac0_0 := fun o => alloc_cell o c0_0_4
        have ac0_1 := fun o => alloc_cell o c0_1_4
        have hmo := fun w' u (hr : Rd w' u rs.length (trips rs)) => implMomentOf_c nm2 u rs d w' hnm2 hr
        by_cases t0 : ¬ denseI nm2 rs d = 0
        · rw [show momOfI nm2 rs d = (0, denseI nm2 rs d) by simp [momOfI, t0]] at hmo
          generalize denseI nm2 rs d = code at *
          have t1 : (code == 0) = false := by simpa using t0
          have HMO := Lib.hid hmo; clear hmo
          clear hr8 hnm2
          go_wp2_with fail
          refine (HMO.out _ _ ((Rd.of_own OB.out).later (by go_grown))).mono ?_
          rintro _ w5 ⟨rfl, r5⟩
          have s5 : Below w8.heap.size w8 w5 := Below.trans (by go_grown) (r5.mono (by simp; try omega))
          have b5 := b4.trans (s5.mono z4)
          have z5 := b5.size
          have y5 := s5.size
          have c0_0_5 := below_cell s5 c0_0_4; clear c0_0_4
          have c0_1_5 := below_cell s5 c0_1_4; clear c0_1_4
          have c1_0_5 := below_cell r5 (p := ⟨w8.heap.size, 0, none⟩) (v := .string nm2) (by simp [go_sem])
          have c1_1_5 := below_cell r5 (p := ⟨w8.heap.size, 1, none⟩) (v := .slice a8 rs.length c8) (by simp [go_sem])
          have o0_5 := own_later O0_4.out s5; have O0_5 := Lib.hid o0_5; clear o0_5
          have o1_5 := own_later OB.out s5; have O1_5 := Lib.hid o1_5; clear o1_5
          clear r5
          go_wp2
          go_returns
          exact RetB.mk rfl b5
        · have t0 : denseI nm2 rs d = 0 := Classical.not_not.1 t0
          obtain ⟨hp2, hd1, hd2⟩ := denseI_zero t0
          rw [show momOfI nm2 rs d = (fsum (momT d) rs, 0) by simp [momOfI, t0]] at hmo
          have hrm := fun w' u (hr : Rd w' u rs.length (trips rs)) => implRingMasses_c nm2 u rs d w' hnm2 hr
          rw [show ringMassesI nm2 rs d = (massesI rs d, 0) by simp [ringMassesI, t0]] at hrm
          obtain ⟨q1, q2, hal, _⟩ := profB_t hp2
          obtain ⟨m0, m1, m2⟩ := mom_le (d := d) (by omega) hd2 hal
          obtain ⟨W0, W1, _⟩ := widK_bd hal rs.length (Nat.le_refl _)
          have hml : (massesI rs d).length = rs.length := by simp [massesI]
          have hsb := sumK_bd (zs := massesI rs d) (M := 424115055) (by omega) (fun z hz => by
            obtain ⟨p, hp, rfl⟩ := List.mem_map.1 hz
            exact (rmassT_bd (by omega) hd2 (List.all_eq_true.1 hal _ hp)).2.2)
          have hss : sumK (massesI rs d) (massesI rs d).length = (massesI rs d).sum := by rw [sumK_take _ _ (Nat.le_refl _), List.take_length]
          have hsm := hsb _ (Nat.le_refl _)
          rw [hss] at hsm
          have hsu := fun w' v (hr : Rd w' v (massesI rs d).length (ints (massesI rs d))) => b10Sum_c v (massesI rs d) w' hr (fun k hk => by have := hsb k hk; omega)
          rw [hss] at hsu
          have hst := fun k => (show (if widK rs k < (rg rs k).1 then (rg rs k).1 else widK rs k) = widK rs (k + 1) from rfl)
          generalize massesI rs d = ms at *
          generalize fsum (momT d) rs = M at *
          clear hsb hss hp2 hnm2 hr8
          have HMO := Lib.hid hmo; clear hmo
          have HRM := Lib.hid hrm; clear hrm
          have HSU := Lib.hid hsu; clear hsu
          have HST := Lib.hid hst; clear hst
          have HML := Lib.hid hml; clear hml
          have hsm2 : ms.sum ≤ 424115055 * 32 := by have := HML.out; omega
          clear hsm
          have M0 := Lib.hid m0; clear m0
          have M1 := Lib.hid m1; clear m1
          have M2 := Lib.hid m2; clear m2
          have HAL := Lib.hid hal; clear hal
          go_wp2_with fail
          refine (HMO.out _ _ ((Rd.of_own OB.out).later (by go_grown))).mono ?_
          rintro _ w5 ⟨rfl, r5⟩
          have s5 : Below w8.heap.size w8 w5 := Below.trans (by go_grown) (r5.mono (by simp; try omega))
          have b5 := b4.trans (s5.mono z4)
          have z5 := b5.size
          have y5 := s5.size
          have c0_0_5 := below_cell s5 c0_0_4; clear c0_0_4
          have c0_1_5 := below_cell s5 c0_1_4; clear c0_1_4
          have c1_0_5 := below_cell r5 (p := ⟨w8.heap.size, 0, none⟩) (v := .string nm2) (by simp [go_sem])
          have c1_1_5 := below_cell r5 (p := ⟨w8.heap.size, 1, none⟩) (v := .slice a8 rs.length c8) (by simp [go_sem])
          have o0_5 := own_later O0_4.out s5; have O0_5 := Lib.hid o0_5; clear o0_5
          have o1_5 := own_later OB.out s5; have O1_5 := Lib.hid o1_5; clear o1_5
          clear r5
          go_wp2_with fail
          refine (HRM.out _ _ (Rd.of_own O1_5.out)).mono ?_
          rintro _ w6 ⟨x6, rfl, n6, r6⟩
          have s6 := r6
          have b6 := b5.trans (s6.mono z5)
          have z6 := b6.size
          have y6 := s6.size
          have c0_0_6 := below_cell s6 c0_0_5; clear c0_0_5
          have c0_1_6 := below_cell s6 c0_1_5; clear c0_1_5
          have c1_0_6 := below_cell s6 c1_0_5; clear c1_0_5
          have c1_1_6 := below_cell s6 c1_1_5; clear c1_1_5
          have o0_6 := own_later O0_5.out s6; have O0_6 := Lib.hid o0_6; clear o0_6
          have o1_6 := own_later O1_5.out s6; have O1_6 := Lib.hid o1_6; clear o1_6
          clear r6
          obtain ⟨am, cm, rfl⟩ := own_shape n6
          have om := n6
          have OM := Lib.hid om; clear om
          clear n6
          obtain ⟨_, _, gu, hvu, hau, _⟩ := own_open O1_6.out
          cases hvu
          obtain rfl : a8 = some ⟨gu, 0, none⟩ := hau (by omega)
          go_wp2_with fail
          go_loop [17, 16] (fun i s => ∃ (k : Nat), k ≤ rs.length ∧ i = .int .i64 k ∧ s = .int .i64 (widK rs k)) (fun i _ => rs.length - (intOf i).toNat)
          case atStart => exact ⟨0, Nat.zero_le _, rfl, rfl⟩
          case round =>
            obtain ⟨k, hk, rfl, rfl⟩ := hrel
            by_cases hlt : k < rs.length
            · have x0 : w6.cell? ⟨gu, k * 3, none⟩ = some (.int .i64 (rg rs k).1) := (World.ownsRow.cellAt O1_6.out (k * 3) (by omega)).trans (by rw [rg_eq hlt]; exact (trips_at hlt).1)
              have ixk := ix (P := Try.prog) (T := 26) (n := rs.length) (cap := c8) Try.underlying26 cells_Ring has_Ring (ao := some ⟨gu, 0, none⟩) (b := gu) (off := 0) (fun _ => rfl) (k := k) hlt k rfl
              simp only [Nat.zero_add] at ixk
              have hs := HST.out k
              by_cases hg : widK rs k < (rg rs k).1
              · rw [if_pos hg] at hs
                have hs3 := congrArg (Value.int .i64) hs
                have HS3 := Lib.hid hs3; clear hs3
                clear hs
                generalize (rg rs k).1 = x at *
                generalize widK rs k = y at *
                go_wp2
                go_round
                case rel => exact ⟨k + 1, by omega, by go_num, HS3.out⟩
                case measure => simp [intOf]; omega
              · rw [if_neg hg] at hs
                have hs3 := congrArg (Value.int .i64) hs
                have HS3 := Lib.hid hs3; clear hs3
                clear hs
                generalize (rg rs k).1 = x at *
                generalize widK rs k = y at *
                go_wp2
                go_round
                case rel => exact ⟨k + 1, by omega, by go_num, HS3.out⟩
                case measure => simp [intOf]; omega
            · have hk' : k = rs.length := by omega
              subst hk'
              have m0 := M0.out
              have m1 := M1.out
              have m2 := M2.out
              generalize widK rs rs.length = W at *
              have p1 := mul_bd (a := W) (b := W) (A := 150000) (B := 150000) W0 W0 W1 W1
              have e1 : IntKind.i64.wrap (W * W) = W * W := IntWalk.i64_in _ (by omega)
              have e0 : (W * W).tdiv 10000 = W * W / 10000 := Int.tdiv_eq_ediv_of_nonneg p1.1
              rw [← e0] at m1
              have e2 : IntKind.i64.wrap ((W * W).tdiv 10000) = (W * W).tdiv 10000 := IntWalk.i64_in _ (by omega)
              have e3 : IntKind.i64.wrap ((W * W).tdiv 10000 + 1) = (W * W).tdiv 10000 + 1 := IntWalk.i64_in _ (by omega)
              have p2 := mul_bd (a := ms.sum) (b := (W * W).tdiv 10000 + 1) (A := 13571681760) (B := 2250001) m2 (by omega) (by omega) (by omega)
              have e4 : IntKind.i64.wrap (ms.sum * ((W * W).tdiv 10000 + 1)) = ms.sum * ((W * W).tdiv 10000 + 1) := IntWalk.i64_in _ (by omega)
              have t5 : decide (M ≤ ms.sum * ((W * W).tdiv 10000 + 1)) = true := decide_eq_true m1
              have t6 : decide (0 ≤ M) = true := decide_eq_true m0
              clear e0 p1 p2 m0 m1 m2 hsm2
              go_wp2_with fail
              refine (HSU.out _ _ (Rd.of_own OM.out)).mono ?_
              rintro _ _ ⟨rfl, rfl⟩
              go_wp2
              go_returns
              exact RetB.mk rfl b6
      · have hhe := fun w' u (hr : Rd w' u ps.length (trips ps)) => specHeight_c nm u ps w' hnm hr hp
        obtain ⟨g0, g1, g2⟩ := centre_le hp
        rw [g2] at hce
        generalize (centreI nm ps).1 = cen at *
        generalize heightI ps = hei at *
        have t8 : decide (cen < 0) = false := decide_eq_false (by omega)
        have t9 : decide (hei < cen) = false := decide_eq_false (by omega)
        have HCE := Lib.hid hce; clear hce
        have HHE := Lib.hid hhe; clear hhe
        have HNM := Lib.hid hnm; clear hnm
        clear hr9 hp g2
        go_wp2_with fail
        refine (HCE.out _ _ ((Rd.of_own OA.out).later (by go_grown))).mono ?_
        rintro _ w2 ⟨rfl, r2⟩
        have s2 : Below w1.heap.size w1 w2 := Below.trans (by go_grown) (r2.mono (by simp; try omega))
        have b2 := b1.trans (s2.mono z1)
        have z2 := b2.size
        have y2 := s2.size
        have c0_0_2 := below_cell r2 (p := ⟨w1.heap.size, 0, none⟩) (v := .string nm) (by simp [go_sem])
        have c0_1_2 := below_cell r2 (p := ⟨w1.heap.size, 1, none⟩) (v := .slice au ps.length cu) (by simp [go_sem])
        have o0_2 := own_later OA.out s2; have O0_2 := Lib.hid o0_2; clear o0_2
        clear r2
        go_wp2_with fail
        refine (HHE.out _ _ (Rd.of_own O0_2.out)).mono ?_
        rintro _ w3 ⟨rfl, r3⟩
        have s3 := r3
        have b3 := b2.trans (s3.mono z2)
        have z3 := b3.size
        have y3 := s3.size
        have c0_0_3 := below_cell s3 c0_0_2; clear c0_0_2
        have c0_1_3 := below_cell s3 c0_1_2; clear c0_1_2
        have o0_3 := own_later O0_2.out s3; have O0_3 := Lib.hid o0_3; clear o0_3
        clear r3
        go_wp2_with fail
        refine (HDQ.out _ b3).mono ?_
        rintro _ w8 ⟨nm2, rs, u2, d, rfl, o8, hnm2, hr8, r8⟩
        have s4 := r8
        have b4 := b3.trans (s4.mono z3)
        have z4 := b4.size
        have y4 := s4.size
        have c0_0_4 := below_cell s4 c0_0_3; clear c0_0_3
        have c0_1_4 := below_cell s4 c0_1_3; clear c0_1_3
        have o0_4 := own_later O0_3.out s4; have O0_4 := Lib.hid o0_4; clear o0_4
        obtain ⟨a8, c8, rfl⟩ := own_shape o8
        have ob := own_base o8 (Nat.le_refl _)
        have OB := Lib.hid ob; clear ob
        clear o8
        have ac0_0 := fun o => alloc_cell o c0_0_4
        have ac0_1 := fun o => alloc_cell o c0_1_4
        have hmo := fun w' u (hr : Rd w' u rs.length (trips rs)) => implMomentOf_c nm2 u rs d w' hnm2 hr
        by_cases t0 : ¬ denseI nm2 rs d = 0
        · rw [show momOfI nm2 rs d = (0, denseI nm2 rs d) by simp [momOfI, t0]] at hmo
          generalize denseI nm2 rs d = code at *
          have t1 : (code == 0) = false := by simpa using t0
          have HMO := Lib.hid hmo; clear hmo
          clear hr8 hnm2
          go_wp2_with fail
          refine (HMO.out _ _ ((Rd.of_own OB.out).later (by go_grown))).mono ?_
          rintro _ w5 ⟨rfl, r5⟩
          have s5 : Below w8.heap.size w8 w5 := Below.trans (by go_grown) (r5.mono (by simp; try omega))
          have b5 := b4.trans (s5.mono z4)
          have z5 := b5.size
          have y5 := s5.size
          have c0_0_5 := below_cell s5 c0_0_4; clear c0_0_4
          have c0_1_5 := below_cell s5 c0_1_4; clear c0_1_4
          have c1_0_5 := below_cell r5 (p := ⟨w8.heap.size, 0, none⟩) (v := .string nm2) (by simp [go_sem])
          have c1_1_5 := below_cell r5 (p := ⟨w8.heap.size, 1, none⟩) (v := .slice a8 rs.length c8) (by simp [go_sem])
          have o0_5 := own_later O0_4.out s5; have O0_5 := Lib.hid o0_5; clear o0_5
          have o1_5 := own_later OB.out s5; have O1_5 := Lib.hid o1_5; clear o1_5
          clear r5
          go_wp2
          go_returns
          exact RetB.mk rfl b5
        · have t0 : denseI nm2 rs d = 0 := Classical.not_not.1 t0
          obtain ⟨hp2, hd1, hd2⟩ := denseI_zero t0
          rw [show momOfI nm2 rs d = (fsum (momT d) rs, 0) by simp [momOfI, t0]] at hmo
          have hrm := fun w' u (hr : Rd w' u rs.length (trips rs)) => implRingMasses_c nm2 u rs d w' hnm2 hr
          rw [show ringMassesI nm2 rs d = (massesI rs d, 0) by simp [ringMassesI, t0]] at hrm
          obtain ⟨q1, q2, hal, _⟩ := profB_t hp2
          obtain ⟨m0, m1, m2⟩ := mom_le (d := d) (by omega) hd2 hal
          obtain ⟨W0, W1, _⟩ := widK_bd hal rs.length (Nat.le_refl _)
          have hml : (massesI rs d).length = rs.length := by simp [massesI]
          have hsb := sumK_bd (zs := massesI rs d) (M := 424115055) (by omega) (fun z hz => by
            obtain ⟨p, hp, rfl⟩ := List.mem_map.1 hz
            exact (rmassT_bd (by omega) hd2 (List.all_eq_true.1 hal _ hp)).2.2)
          have hss : sumK (massesI rs d) (massesI rs d).length = (massesI rs d).sum := by rw [sumK_take _ _ (Nat.le_refl _), List.take_length]
          have hsm := hsb _ (Nat.le_refl _)
          rw [hss] at hsm
          have hsu := fun w' v (hr : Rd w' v (massesI rs d).length (ints (massesI rs d))) => b10Sum_c v (massesI rs d) w' hr (fun k hk => by have := hsb k hk; omega)
          rw [hss] at hsu
          have hst := fun k => (show (if widK rs k < (rg rs k).1 then (rg rs k).1 else widK rs k) = widK rs (k + 1) from rfl)
          generalize massesI rs d = ms at *
          generalize fsum (momT d) rs = M at *
          clear hsb hss hp2 hnm2 hr8
          have HMO := Lib.hid hmo; clear hmo
          have HRM := Lib.hid hrm; clear hrm
          have HSU := Lib.hid hsu; clear hsu
          have HST := Lib.hid hst; clear hst
          have HML := Lib.hid hml; clear hml
          have hsm2 : ms.sum ≤ 424115055 * 32 := by have := HML.out; omega
          clear hsm
          have M0 := Lib.hid m0; clear m0
          have M1 := Lib.hid m1; clear m1
          have M2 := Lib.hid m2; clear m2
          have HAL := Lib.hid hal; clear hal
          go_wp2_with fail
          refine (HMO.out _ _ ((Rd.of_own OB.out).later (by go_grown))).mono ?_
          rintro _ w5 ⟨rfl, r5⟩
          have s5 : Below w8.heap.size w8 w5 := Below.trans (by go_grown) (r5.mono (by simp; try omega))
          have b5 := b4.trans (s5.mono z4)
          have z5 := b5.size
          have y5 := s5.size
          have c0_0_5 := below_cell s5 c0_0_4; clear c0_0_4
          have c0_1_5 := below_cell s5 c0_1_4; clear c0_1_4
          have c1_0_5 := below_cell r5 (p := ⟨w8.heap.size, 0, none⟩) (v := .string nm2) (by simp [go_sem])
          have c1_1_5 := below_cell r5 (p := ⟨w8.heap.size, 1, none⟩) (v := .slice a8 rs.length c8) (by simp [go_sem])
          have o0_5 := own_later O0_4.out s5; have O0_5 := Lib.hid o0_5; clear o0_5
          have o1_5 := own_later OB.out s5; have O1_5 := Lib.hid o1_5; clear o1_5
          clear r5
          go_wp2_with fail
          refine (HRM.out _ _ (Rd.of_own O1_5.out)).mono ?_
          rintro _ w6 ⟨x6, rfl, n6, r6⟩
          have s6 := r6
          have b6 := b5.trans (s6.mono z5)
          have z6 := b6.size
          have y6 := s6.size
          have c0_0_6 := below_cell s6 c0_0_5; clear c0_0_5
          have c0_1_6 := below_cell s6 c0_1_5; clear c0_1_5
          have c1_0_6 := below_cell s6 c1_0_5; clear c1_0_5
          have c1_1_6 := below_cell s6 c1_1_5; clear c1_1_5
          have o0_6 := own_later O0_5.out s6; have O0_6 := Lib.hid o0_6; clear o0_6
          have o1_6 := own_later O1_5.out s6; have O1_6 := Lib.hid o1_6; clear o1_6
          clear r6
          obtain ⟨am, cm, rfl⟩ := own_shape n6
          have om := n6
          have OM := Lib.hid om; clear om
          clear n6
          obtain ⟨_, _, gu, hvu, hau, _⟩ := own_open O1_6.out
          cases hvu
          obtain rfl : a8 = some ⟨gu, 0, none⟩ := hau (by omega)
          go_wp2_with fail
          go_loop [17, 16] (fun i s => ∃ (k : Nat), k ≤ rs.length ∧ i = .int .i64 k ∧ s = .int .i64 (widK rs k)) (fun i _ => rs.length - (intOf i).toNat)
          case atStart => exact ⟨0, Nat.zero_le _, rfl, rfl⟩
          case round =>
            obtain ⟨k, hk, rfl, rfl⟩ := hrel
            by_cases hlt : k < rs.length
            · have x0 : w6.cell? ⟨gu, k * 3, none⟩ = some (.int .i64 (rg rs k).1) := (World.ownsRow.cellAt O1_6.out (k * 3) (by omega)).trans (by rw [rg_eq hlt]; exact (trips_at hlt).1)
              have ixk := ix (P := Try.prog) (T := 26) (n := rs.length) (cap := c8) Try.underlying26 cells_Ring has_Ring (ao := some ⟨gu, 0, none⟩) (b := gu) (off := 0) (fun _ => rfl) (k := k) hlt k rfl
              simp only [Nat.zero_add] at ixk
              have hs := HST.out k
              by_cases hg : widK rs k < (rg rs k).1
              · rw [if_pos hg] at hs
                have hs3 := congrArg (Value.int .i64) hs
                have HS3 := Lib.hid hs3; clear hs3
                clear hs
                generalize (rg rs k).1 = x at *
                generalize widK rs k = y at *
                go_wp2
                go_round
                case rel => exact ⟨k + 1, by omega, by go_num, HS3.out⟩
                case measure => simp [intOf]; omega
              · rw [if_neg hg] at hs
                have hs3 := congrArg (Value.int .i64) hs
                have HS3 := Lib.hid hs3; clear hs3
                clear hs
                generalize (rg rs k).1 = x at *
                generalize widK rs k = y at *
                go_wp2
                go_round
                case rel => exact ⟨k + 1, by omega, by go_num, HS3.out⟩
                case measure => simp [intOf]; omega
            · have hk' : k = rs.length := by omega
              subst hk'
              have m0 := M0.out
              have m1 := M1.out
              have m2 := M2.out
              generalize widK rs rs.length = W at *
              have p1 := mul_bd (a := W) (b := W) (A := 150000) (B := 150000) W0 W0 W1 W1
              have e1 : IntKind.i64.wrap (W * W) = W * W := IntWalk.i64_in _ (by omega)
              have e0 : (W * W).tdiv 10000 = W * W / 10000 := Int.tdiv_eq_ediv_of_nonneg p1.1
              rw [← e0] at m1
              have e2 : IntKind.i64.wrap ((W * W).tdiv 10000) = (W * W).tdiv 10000 := IntWalk.i64_in _ (by omega)
              have e3 : IntKind.i64.wrap ((W * W).tdiv 10000 + 1) = (W * W).tdiv 10000 + 1 := IntWalk.i64_in _ (by omega)
              have p2 := mul_bd (a := ms.sum) (b := (W * W).tdiv 10000 + 1) (A := 13571681760) (B := 2250001) m2 (by omega) (by omega) (by omega)
              have e4 : IntKind.i64.wrap (ms.sum * ((W * W).tdiv 10000 + 1)) = ms.sum * ((W * W).tdiv 10000 + 1) := IntWalk.i64_in _ (by omega)
              have t5 : decide (M ≤ ms.sum * ((W * W).tdiv 10000 + 1)) = true := decide_eq_true m1
              have t6 : decide (0 ≤ M) = true := decide_eq_true m0
              clear e0 p1 p2 m0 m1 m2 hsm2
              go_wp2_with fail
              refine (HSU.out _ _ (Rd.of_own OM.out)).mono ?_
              rintro _ _ ⟨rfl, rfl⟩
              go_wp2
              go_returns
              exact RetB.mk rfl b6
    · have HL0 := Lib.hid hl0; clear hl0
      have HL1 := Lib.hid hl1; clear hl1
      obtain ⟨_, aoA, capA, _, _, rfl, _, _⟩ := h0.open
      obtain ⟨_, aoB, capB, _, _, rfl, _, _⟩ := h1.open
      clear h0 h1 hb0 hb1 l0 l1
      generalize z0s.length = na at *
      generalize z1s.length = nb at *
      go_enter Try.func11, Try.ntmps11
      have b0 : Below w.heap.size w w := Below.refl _ _
      have z0 : w.heap.size ≤ w.heap.size := Nat.le_refl _
      go_wp2_with fail
      refine HL0.out.mono ?_
      rintro _ _ ⟨rfl, rfl⟩
      go_wp2_with fail
      refine HL1.out.mono ?_
      rintro _ _ ⟨rfl, rfl⟩
      go_wp2
      go_returns
      exact RetB.mk rfl b0
  · have HL0 := Lib.hid hl0; clear hl0
    obtain ⟨_, aoA, capA, _, _, rfl, _, _⟩ := h0.open
    obtain ⟨_, aoB, capB, _, _, rfl, _, _⟩ := h1.open
    clear h0 h1 hb0 hb1 l0 hl1
    generalize z0s.length = na at *
    generalize z1s.length = nb at *
    go_enter Try.func11, Try.ntmps11
    have b0 : Below w.heap.size w w := Below.refl _ _
    have z0 : w.heap.size ≤ w.heap.size := Nat.le_refl _
    go_wp2_with fail
    refine HL0.out.mono ?_
    rintro _ _ ⟨rfl, rfl⟩
    go_wp2
    go_returns
    exact RetB.mk rfl b0

end Go.Proofs.Ytmickkodcclocaa
