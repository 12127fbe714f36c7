/- The law FnLathe, walked. -/
import Derived.Test.YtmickkodcclocaaLatheL
import Derived.Test.YtmickkodcclocaaOpenU
import Derived.Test.YtmickkodcclocaaR8Z
namespace Go.Proofs.Ytmickkodcclocaa
set_option linter.unusedVariables false
open Go.RowKit Go.Proofs.Bell Go.BigFrame

theorem rdc1 {w : World} {b : Nat} {a0 a1 : Int} (hb : b < w.heap.size) (h0 : w.cell? ⟨b, 0, none⟩ = some (.int .i64 a0)) (h1 : w.cell? ⟨b, 1, none⟩ = some (.int .i64 a1)) : Rd w (.slice (some ⟨b, 0, none⟩) 1 1) 1 (pairs [(a0, a1)]) := by
  refine ⟨by decide, .inr ⟨by decide, b, 0, 1, rfl, by decide, by decide, hb, fun j u hj => ?_⟩⟩
  match j, hj with
  | 0, hj => simp [pairs] at hj; subst hj; simpa using h0
  | 1, hj => simp [pairs] at hj; subst hj; simpa using h1
  | n + 2, hj => simp [pairs] at hj
set_option maxHeartbeats 800000 in
theorem specVP_c (nm : ByteArray) (v : Value) (ps : List (Int × Int × Int)) (w : World) (hnm : nm.size ≤ maxLen) (h : Rd w v ps.length (trips ps)) : Calls Try.prog 54 #[.agg #[.string nm, v]] w (RetB (.bool (profB nm ps)) w) := by
  have hok := fun w' g hg c0 c1 (hb : Below w.heap.size w w') => l05Ok_c g nm v ps w' hg hnm c0 c1 (h.later hb)
  have HOK := Lib.hid hok; clear hok
  obtain ⟨_, ao, cap, _, _, rfl, _, _⟩ := h.open
  clear h
  go_enter Try.func54, Try.ntmps54
  have b0 : Below w.heap.size w w := Below.refl _ _
  have z0 : w.heap.size ≤ w.heap.size := Nat.le_refl _
  go_wp2_with fail
  refine (HOK.out _ _ (by simp) (by simp [go_sem]) (by simp [go_sem]) (by go_grown)).mono ?_
  rintro _ w1 ⟨rfl, d1⟩
  have r1 := Dr.below d1; clear d1
  have s1 : Below w.heap.size w w1 := Below.trans (by go_grown) (r1.mono (by simp; try omega))
  have b1 := b0.trans (s1.mono z0)
  have z1 := b1.size
  have y1 := s1.size
  have c0_0_1 := below_cell r1 (p := ⟨w.heap.size, 0, none⟩) (v := .string nm) (by simp [go_sem])
  have c0_1_1 := below_cell r1 (p := ⟨w.heap.size, 1, none⟩) (v := .slice ao ps.length cap) (by simp [go_sem])
  clear r1
  go_wp2
  go_returns
  exact RetB.mk rfl b1

set_option maxRecDepth 100000 in
set_option maxHeartbeats 6400000 in
theorem lawFnLathe_c (w : World) (v0 v1 : Value) (z0s z1s : List Int) (h0 : Rd w v0 z0s.length (bytesV z0s)) (h1 : Rd w v1 z1s.length (bytesV z1s)) (hb0 : ∀ z ∈ z0s, Byte z) (hb1 : ∀ z ∈ z1s, Byte z) : Calls Try.prog 13 #[v0, v1] w (RetB (.bool true) w) := by
  by_cases l0 : z0s.length ≤ 1048576
  · have hlo := r8Long_c v0 v1 z0s z1s w h0 h1 l0
    cases l1 : decide (1048576 < z1s.length) <;> rw [l1] at hlo
    · have l1' : z1s.length ≤ 1048576 := by have := of_decide_eq_false l1; omega
      have hr8 := fun w' (hx : Below w.heap.size w w') => R8Profile_c v0 z0s w' (h0.later hx) hb0 l0
      have hzo := fun nm ps w' u (hx : Below w.heap.size w w') (hr : Rd w' u ps.length (trips ps)) (q1 : 1 ≤ ps.length) (q2 : ps.length ≤ 32) => R8Zones_c v1 z1s nm u ps w' (h1.later hx) hb1 l1' hr q1 q2
      have hct := fun zs w' u (hx : Below w.heap.size w w') (hr : Rd w' u zs.length (ints zs)) (q1 : 1 ≤ zs.length) (q2 : zs.length ≤ 32) => R8Cuts_c v0 z0s u zs w' (h0.later hx) hb0 l0 hr q1 q2
      have hat := fun n w' (hx : Below w.heap.size w w') (q1 : n ≤ 1000000) (q2 : -10 ≤ n) => r8At_c v1 z1s 0 n w' (h1.later hx) hb1 (by omega) q1 q2
      rw [show ((0 : Nat) : Int) = 0 from rfl] at hat
      obtain ⟨_, aoA, capA, _, _, rfl, _, _⟩ := h0.open
      obtain ⟨_, aoB, capB, _, _, rfl, _, _⟩ := h1.open
      have HLO := Lib.hid hlo; clear hlo
      have HR8 := Lib.hid hr8; clear hr8
      have HZO := Lib.hid hzo; clear hzo
      have HCT := Lib.hid hct; clear hct
      have HAT0 := Lib.hid hat; clear hat
      clear h0 h1 hb0 hb1 l0 l1 l1'
      generalize z0s.length = na at *
      generalize z1s.length = nb at *
      go_enter Try.func13, Try.ntmps13
      have b0 : Below w.heap.size w w := Below.refl _ _
      have z0 : w.heap.size ≤ w.heap.size := Nat.le_refl _
      go_wp2_with fail
      refine HLO.out.mono ?_
      rintro _ _ ⟨rfl, rfl⟩
      go_wp2_with fail
      refine (HR8.out _ b0).mono ?_
      rintro _ w1 ⟨nm, ps, u, rfl, ou, hp, hnm, h2, h9, r1⟩
      have s1 := r1
      have b1 := b0.trans (s1.mono z0)
      have z1 := b1.size
      have y1 := s1.size
      obtain ⟨au, cu, rfl⟩ := own_shape ou
      have oa := own_base ou (Nat.le_refl _)
      have OA := Lib.hid oa; clear oa
      clear ou
      go_wp2_with fail
      refine (HZO.out nm ps _ _ (by go_grown) ((Rd.of_own OA.out).later (by go_grown)) (by omega) (by omega)).mono ?_
      rintro _ w2 ⟨zs, zv, rfl, oz, hzb, r2⟩
      have s2 : Below w1.heap.size w1 w2 := Below.trans (by go_grown) (r2.mono (by simp; try omega))
      have b2 := b1.trans (s2.mono z1)
      have z2 := b2.size
      have y2 := s2.size
      have c0_0_2 := below_cell r2 (p := ⟨w1.heap.size, 0, none⟩) (v := .string nm) (by simp [go_sem])
      have c0_1_2 := below_cell r2 (p := ⟨w1.heap.size, 1, none⟩) (v := .slice au ps.length cu) (by simp [go_sem])
      have o0_2 := own_later OA.out s2; have O0_2 := Lib.hid o0_2; clear o0_2
      clear r2
      obtain ⟨az, cz, rfl⟩ := own_shape oz
      obtain ⟨hz1, hz8⟩ := (show 1 ≤ zs.length ∧ zs.length ≤ 8 by rw [zones_eq] at hzb; simp only [Bool.and_eq_true, decide_eq_true_eq] at hzb; exact ⟨hzb.1.1.1, hzb.1.1.2⟩)
      have OZ := Lib.hid oz; clear oz
      go_wp2_with fail
      refine (HCT.out zs _ _ b2 (Rd.of_own OZ.out) (by omega) (by omega)).mono ?_
      rintro _ w3 ⟨cs, cv, rfl, oc, hc4, hci, r3⟩
      have s3 := r3
      have b3 := b2.trans (s3.mono z2)
      have z3 := b3.size
      have y3 := s3.size
      have c0_0_3 := below_cell s3 c0_0_2; clear c0_0_2
      have c0_1_3 := below_cell s3 c0_1_2; clear c0_1_2
      have o0_3 := own_later O0_2.out s3; have O0_3 := Lib.hid o0_3; clear o0_3
      have o1_3 := own_later OZ.out s3; have O1_3 := Lib.hid o1_3; clear o1_3
      obtain ⟨ac, cc, rfl⟩ := own_shape oc
      have OC := Lib.hid oc; clear oc
      clear hci
      have hat := fun w' (hx : Below w.heap.size w w') => HAT0.out (zs.length : Int) w' hx (by omega) (by omega)
      have hvz : vzB nm ps zs = true := by simp only [vzB, hp, hzb, Bool.and_true]
      have hro := fun w' u v (hr : Rd w' u ps.length (trips ps)) (hz : Rd w' v zs.length (ints zs)) => implRoomOf_c nm u ps v zs w' hnm hr hz
      rw [show roomI nm ps zs = (roomK nm ps zs zs.length, 0) by simp [roomI, hvz]] at hro
      have hms := fun (z : Nat) (hzz : z < zs.length) w' u v (hr : Rd w' u ps.length (trips ps)) (hz : Rd w' v zs.length (ints zs)) => (show mostStepsI nm ps zs (z : Int) = (((mostI nm ps zs z : Nat) : Int), 0) by simp [mostStepsI, hvz, inB_mk (show 0 ≤ (z : Int) ∧ (z : Int) ≤ (zs.length : Int) - 1 by omega)]) ▸ implMostSteps_c nm u ps v zs (z : Int) w' hnm hr hz
      have hap := fun cs w' u v k (hr : Rd w' u ps.length (trips ps)) (hz : Rd w' v zs.length (ints zs)) (hc : Rd w' k cs.length (pairs cs)) => implApplyCuts_c nm u ps v zs k cs w' hnm hr hz hc
      have hch := fun w' u v k (hr : Rd w' u ps.length (trips ps)) (hz : Rd w' v zs.length (ints zs)) (hc : Rd w' k cs.length (pairs cs)) => implChipsOf_c nm u ps v zs k cs w' hnm hr hz hc
      have hapc := hap
      have hap := hap cs
      have HAT := Lib.hid hat; clear hat
      have HRO := Lib.hid hro; clear hro
      have HMS := Lib.hid hms; clear hms
      have HAPC := Lib.hid hapc; clear hapc
      have HVZ := Lib.hid hvz; clear hvz
      clear HZO HCT HAT0 HR8
      by_cases hA : (applyI nm ps zs cs).2.2 = 0
      · obtain ⟨qs, hqe, hql, hqp, hqr⟩ := applyI_form hA
        rw [hqe] at hap
        rw [show chipsI nm ps zs cs = (chipK ps qs ps.length, 0) by simp [chipsI, hqe]] at hch
        have hvp := fun w' u (hr : Rd w' u qs.length (trips qs)) => specVP_c nm u qs w' hnm hr
        rw [hqp] at hvp
        have hcb := chipK_bd (profB_t hp).2.2.1 (profB_t hqp).2.2.1
        have hrt : ∀ k, k < ps.length → ringT (rg ps k) = true ∧ ringT (rg qs k) = true := fun k hk => ⟨((profB_iff nm ps).1 hp).2.2.2.1 k hk, ((profB_iff nm qs).1 hqp).2.2.2.1 k (by omega)⟩
        have HAP := Lib.hid hap; clear hap
        have HCH := Lib.hid hch; clear hch
        have HVP := Lib.hid hvp; clear hvp
        have HCB := Lib.hid hcb; clear hcb
        have HRT := Lib.hid hrt; clear hrt
        have HQR := Lib.hid hqr; clear hqr
        clear hqe hA hqp
        go_wp2_with fail
        refine (HAP.out _ _ _ _ (Rd.of_own O0_3.out) (Rd.of_own O1_3.out) (Rd.of_own OC.out)).mono ?_
        rintro _ w4 ⟨x4, rfl, n4, r4⟩
        have s4 := r4
        have b4 := b3.trans (s4.mono z3)
        have z4 := b4.size
        have y4 := s4.size
        have c0_0_4 := below_cell s4 c0_0_3; clear c0_0_3
        have c0_1_4 := below_cell s4 c0_1_3; clear c0_1_3
        have o0_4 := own_later O0_3.out s4; have O0_4 := Lib.hid o0_4; clear o0_4
        have o1_4 := own_later O1_3.out s4; have O1_4 := Lib.hid o1_4; clear o1_4
        have o2_4 := own_later OC.out s4; have O2_4 := Lib.hid o2_4; clear o2_4
        clear r4
        obtain ⟨a4, c4, hv4⟩ := own_shape n4
        rw [hql] at hv4
        subst hv4
        have HQL := Lib.hid hql; clear hql
        have ob := n4
        have OB := Lib.hid ob; clear ob
        clear n4
        have ac0_0 := fun o => alloc_cell o c0_0_4
        have ac0_1 := fun o => alloc_cell o c0_1_4
        go_wp2_with fail
        refine (HCH.out _ _ _ _ ((Rd.of_own O0_4.out).later (by go_grown)) ((Rd.of_own O1_4.out).later (by go_grown)) ((Rd.of_own O2_4.out).later (by go_grown))).mono ?_
        rintro _ w5 ⟨rfl, r5⟩
        have s5 : Below w4.heap.size w4 w5 := Below.trans (by go_grown) (r5.mono (by simp; try omega))
        have b5 := b4.trans (s5.mono z4)
        have z5 := b5.size
        have y5 := s5.size
        have c0_0_5 := below_cell s5 c0_0_4; clear c0_0_4
        have c0_1_5 := below_cell s5 c0_1_4; clear c0_1_4
        have c1_0_5 := below_cell r5 (p := ⟨w4.heap.size, 0, none⟩) (v := .string nm) (by simp [go_sem])
        have c1_1_5 := below_cell r5 (p := ⟨w4.heap.size, 1, none⟩) (v := .slice a4 ps.length c4) (by simp [go_sem])
        have o0_5 := own_later O0_4.out s5; have O0_5 := Lib.hid o0_5; clear o0_5
        have o1_5 := own_later O1_4.out s5; have O1_5 := Lib.hid o1_5; clear o1_5
        have o2_5 := own_later O2_4.out s5; have O2_5 := Lib.hid o2_5; clear o2_5
        have o3_5 := own_later OB.out s5; have O3_5 := Lib.hid o3_5; clear o3_5
        clear r5
        go_wp2_with fail
        refine (HVP.out _ _ (Rd.of_own O3_5.out)).mono ?_
        rintro _ w6 ⟨rfl, r6⟩
        have s6 := r6
        have b6 := b5.trans (s6.mono z5)
        have z6 := b6.size
        have y6 := s6.size
        have c0_0_6 := below_cell s6 c0_0_5; clear c0_0_5
        have c0_1_6 := below_cell s6 c0_1_5; clear c0_1_5
        have c1_0_6 := below_cell s6 c1_0_5; clear c1_0_5
        have c1_1_6 := below_cell s6 c1_1_5; clear c1_1_5
        have o0_6 := own_later O0_5.out s6; have O0_6 := Lib.hid o0_6; clear o0_6
        have o1_6 := own_later O1_5.out s6; have O1_6 := Lib.hid o1_6; clear o1_6
        have o2_6 := own_later O2_5.out s6; have O2_6 := Lib.hid o2_6; clear o2_6
        have o3_6 := own_later O3_5.out s6; have O3_6 := Lib.hid o3_6; clear o3_6
        clear r6
        have rdp := Rd.of_own O0_6.out
        have rdq : Rd w6 (.slice a4 ps.length c4) ps.length (trips qs) := by have := Rd.of_own O3_6.out; rwa [HQL.out] at this
        obtain ⟨_, aoP, capP, bP, offP, hvP, haoP, hcellP⟩ := rdp.open
        obtain ⟨_, aoQ, capQ, bQ, offQ, hvQ, haoQ, hcellQ⟩ := rdq.open
        cases hvP
        cases hvQ
        obtain rfl : au = some ⟨bP, offP, none⟩ := haoP (by omega)
        obtain rfl : a4 = some ⟨bQ, offQ, none⟩ := haoQ (by omega)
        have HCP := Lib.hid hcellP; clear hcellP
        have HCQ := Lib.hid hcellQ; clear hcellQ
        clear rdp rdq haoP haoQ
        go_wp2_with fail
        go_loopw [13, 12] (fun i s wr => ∃ (k : Nat), k ≤ ps.length ∧ i = .int .i64 k ∧ s = .int .i64 (chipK ps qs k) ∧ Below w6.heap.size w6 wr) (fun i _ _ => ps.length - (intOf i).toNat)
        case atStart => exact ⟨0, Nat.zero_le _, rfl, rfl, Below.refl _ _⟩
        case round =>
          obtain ⟨k, hk, rfl, rfl, hb⟩ := hrel
          have s7 := hb
          have b7 := b6.trans (s7.mono z6)
          have z7 := b7.size
          have y7 := s7.size
          have c0_0_7 := below_cell s7 c0_0_6; clear c0_0_6
          have c0_1_7 := below_cell s7 c0_1_6; clear c0_1_6
          have c1_0_7 := below_cell s7 c1_0_6; clear c1_0_6
          have c1_1_7 := below_cell s7 c1_1_6; clear c1_1_6
          have o0_7 := own_later O0_6.out s7; have O0_7 := Lib.hid o0_7; clear o0_7
          have o1_7 := own_later O1_6.out s7; have O1_7 := Lib.hid o1_7; clear o1_7
          have o2_7 := own_later O2_6.out s7; have O2_7 := Lib.hid o2_7; clear o2_7
          have o3_7 := own_later O3_6.out s7; have O3_7 := Lib.hid o3_7; clear o3_7
          by_cases hlt : k < ps.length
          · have hltd : decide (k < ps.length) = true := decide_eq_true hlt
            have hkq : k < qs.length := by rw [HQL.out]; exact hlt
            have ixP := ix (P := Try.prog) (T := 26) (n := ps.length) (cap := cu) Try.underlying26 cells_Ring has_Ring (ao := some ⟨bP, offP, none⟩) (b := bP) (off := offP) (fun _ => rfl) (k := k) hlt _ rfl
            have ixQ := ix (P := Try.prog) (T := 26) (n := ps.length) (cap := c4) Try.underlying26 cells_Ring has_Ring (ao := some ⟨bQ, offQ, none⟩) (b := bQ) (off := offQ) (fun _ => rfl) (k := k) hlt _ rfl
            have p0 : wr.cell? ⟨bP, offP + k * 3, none⟩ = some (.int .i64 (rg ps k).1) := by rw [rg_eq hlt]; exact HCP.out _ hb _ _ (by omega) (trips_at hlt).1
            have p1 : wr.cell? ⟨bP, offP + k * 3 + 1, none⟩ = some (.int .i64 (rg ps k).2.1) := by rw [rg_eq hlt]; exact HCP.out _ hb _ _ (by omega) (trips_at hlt).2.1
            have p2 : wr.cell? ⟨bP, offP + k * 3 + 2, none⟩ = some (.int .i64 (rg ps k).2.2) := by rw [rg_eq hlt]; exact HCP.out _ hb _ _ (by omega) (trips_at hlt).2.2
            have q0 : wr.cell? ⟨bQ, offQ + k * 3, none⟩ = some (.int .i64 (rg qs k).1) := by rw [rg_eq hkq]; exact HCQ.out _ hb _ _ (by omega) (trips_at hkq).1
            have q1 : wr.cell? ⟨bQ, offQ + k * 3 + 1, none⟩ = some (.int .i64 (rg qs k).2.1) := by rw [rg_eq hkq]; exact HCQ.out _ hb _ _ (by omega) (trips_at hkq).2.1
            have q2 : wr.cell? ⟨bQ, offQ + k * 3 + 2, none⟩ = some (.int .i64 (rg qs k).2.2) := by rw [rg_eq hkq]; exact HCQ.out _ hb _ _ (by omega) (trips_at hkq).2.2
            obtain ⟨f1, f2, f3⟩ := HQR.out k hlt
            rw [f1] at q0
            rw [f2] at q2
            clear f1 f2
            have r1 := ringT_t (HRT.out k hlt).1
            have r2 := ringT_t (HRT.out k hlt).2
            have hb1 := HCB.out k (by omega) (by omega)
            have hpr := prod_bd (x := (rg qs k).2.1 - (rg ps k).2.1) (y := (rg ps k).2.2) (by omega) (by omega) (by omega) (by omega)
            have hcs : chipK ps qs (k + 1) = chipK ps qs k + ((rg qs k).2.1 - (rg ps k).2.1) * (rg ps k).2.2 := rfl
            have HCS := Lib.hid hcs; clear hcs
            have ac0_0 := fun o => alloc_cell o c0_0_7
            have ac0_1 := fun o => alloc_cell o c0_1_7
            have ac1_0 := fun o => alloc_cell o c1_0_7
            have ac1_1 := fun o => alloc_cell o c1_1_7
            have ap0 := fun o => alloc_cell o p0
            have ap1 := fun o => alloc_cell o p1
            have ap2 := fun o => alloc_cell o p2
            have aq0 := fun o => alloc_cell o q0
            have aq1 := fun o => alloc_cell o q1
            have aq2 := fun o => alloc_cell o q2
            generalize chipK ps qs k = S at *
            generalize (rg qs k).2.1 = y1 at *
            generalize (rg ps k).1 = x0 at *
            generalize (rg ps k).2.1 = x1 at *
            generalize (rg ps k).2.2 = x2 at *
            have t2 : decide (y1 < x1) = false := decide_eq_false (by omega)
            obtain ⟨hpr0, hpr1⟩ := hpr
            obtain ⟨hb10, hb11⟩ := hb1
            have hk32 : (k : Int) ≤ 32 := by omega
            have bw : ∀ o o', Below w6.heap.size w6 ((wr.alloc o).alloc o') := fun o o' => (hb.alloc hb.size _).alloc (by have := hb.size; simp; omega) _
            go_wp2
            go_roundw
            case rel => exact ⟨k + 1, by omega, by go_num, by rw [HCS.out], bw _ _⟩
            case measure => simp [intOf]; omega
          · obtain rfl : k = ps.length := by omega
            have hltd : decide (ps.length < ps.length) = false := by simp
            generalize chipK ps qs ps.length = S at *
            go_wp2_with fail
            refine (HRO.out _ _ _ (Rd.of_own O0_7.out) (Rd.of_own O1_7.out)).mono ?_
            rintro _ w8 ⟨x8, rfl, n8, r8⟩
            have s8 := r8
            have b8 := b7.trans (s8.mono z7)
            have z8 := b8.size
            have y8 := s8.size
            have c0_0_8 := below_cell s8 c0_0_7; clear c0_0_7
            have c0_1_8 := below_cell s8 c0_1_7; clear c0_1_7
            have c1_0_8 := below_cell s8 c1_0_7; clear c1_0_7
            have c1_1_8 := below_cell s8 c1_1_7; clear c1_1_7
            have o0_8 := own_later O0_7.out s8; have O0_8 := Lib.hid o0_8; clear o0_8
            have o1_8 := own_later O1_7.out s8; have O1_8 := Lib.hid o1_8; clear o1_8
            have o2_8 := own_later O2_7.out s8; have O2_8 := Lib.hid o2_8; clear o2_8
            have o3_8 := own_later O3_7.out s8; have O3_8 := Lib.hid o3_8; clear o3_8
            clear r8
            obtain ⟨aR, cR, hvR⟩ := own_shape n8
            rw [roomK_len] at hvR
            subst hvR
            have rdR := Rd.of_own n8
            rw [roomK_len] at rdR
            clear n8
            obtain ⟨_, aoR, capR, bR, offR, hvR, haoR, hcellR⟩ := rdR.open
            cases hvR
            obtain rfl : aR = some ⟨bR, offR, none⟩ := haoR (by omega)
            have hcellR := hcellR _ (Below.refl _ _)
            have HCR := Lib.hid hcellR; clear hcellR
            clear rdR haoR
            go_wp2_with fail
            refine (HAT.out _ b8).mono ?_
            rintro _ _ ⟨zI, rfl, zl, zu, rfl⟩
            obtain ⟨z, rfl⟩ : ∃ z : Nat, zI = (z : Int) := ⟨zI.toNat, by omega⟩
            have hz : z < zs.length := by omega
            have hz8 : z < 8 := by omega
            have hms := HMS.out z hz
            have hsp := mostI_spec nm ps zs z
            have hcr : w8.cell? ⟨bR, offR + z, none⟩ = some (.int .i64 ((mostI nm ps zs z : Nat) : Int)) := by rw [← roomK_at nm ps zs zs.length z hz, getD_eq (by rw [roomK_len]; exact hz)]; exact HCR.out z _ (by omega) (intsAt (by rw [roomK_len]; exact hz))
            have hap := fun s (s1 : 1 ≤ s) (s2 : s ≤ 20) => apply_one (nm := nm) (ps := ps) (zs := zs) (z := z) (s := s) HVZ.out hz (by omega) s1 s2
            have HMS2 := Lib.hid hms; clear hms
            have HAP2 := Lib.hid hap; clear hap
            generalize hM : mostI nm ps zs z = m at *
            clear hM
            obtain ⟨m20, mok, mno⟩ := hsp
            have ixR := ix (P := Try.prog) (T := 41) (n := zs.length) (cap := cR) Try.underlying41 cells_int64 has_int64 (ao := some ⟨bR, offR, none⟩) (b := bR) (off := offR) (fun _ => rfl) (k := z) hz _ rfl
            rw [Nat.mul_one] at ixR
            go_wp2_with fail
            refine (HMS2.out _ _ _ (Rd.of_own O0_8.out) (Rd.of_own O1_8.out)).mono ?_
            rintro _ w9 ⟨rfl, r9⟩
            have s9 := r9
            have b9 := b8.trans (s9.mono z8)
            have z9 := b9.size
            have y9 := s9.size
            have c0_0_9 := below_cell s9 c0_0_8; clear c0_0_8
            have c0_1_9 := below_cell s9 c0_1_8; clear c0_1_8
            have c1_0_9 := below_cell s9 c1_0_8; clear c1_0_8
            have c1_1_9 := below_cell s9 c1_1_8; clear c1_1_8
            have o0_9 := own_later O0_8.out s9; have O0_9 := Lib.hid o0_9; clear o0_9
            have o1_9 := own_later O1_8.out s9; have O1_9 := Lib.hid o1_9; clear o1_9
            have o2_9 := own_later O2_8.out s9; have O2_9 := Lib.hid o2_9; clear o2_9
            have o3_9 := own_later O3_8.out s9; have O3_9 := Lib.hid o3_9; clear o3_9
            clear r9
            have hcr := below_cell s9 hcr
            have t0 : decide ((m : Int) < 0) = false := decide_eq_false (by omega)
            have t1 : decide ((20 : Int) < (m : Int)) = false := decide_eq_false (by omega)
            have e6 := HAP2.out
            have hno : m < 20 → (applyI nm ps zs [((z : Int), ((m + 1 : Nat) : Int))]).2.2 = 6 := fun h => by rw [e6 (m + 1) (by omega) (by omega), mno h]; rfl
            have hyes : 0 < m → (applyI nm ps zs [((z : Int), (m : Int))]).2.2 = 0 := fun h => by rw [e6 m (by omega) (by omega), mok h]; rfl
            have hap1 := fun s : Int => HAPC.out [((z : Int), s)]
            clear e6 mok mno HAP2 HMS2
            have HNO := Lib.hid hno; clear hno
            have HYES := Lib.hid hyes; clear hyes
            have HAP1 := Lib.hid hap1; clear hap1
            have last : True := trivial
            by_cases c0 : 0 < m
            · have t2 : decide ((0 : Int) < (m : Int)) = true := decide_eq_true (by omega)
              have ha := HAP1.out (m : Int)
              rw [HYES.out c0] at ha
              have HA := Lib.hid ha; clear ha
              generalize (applyI nm ps zs [((z : Int), (m : Int))]).1 = A1 at *
              generalize (applyI nm ps zs [((z : Int), (m : Int))]).2.1 = A2 at *
              have ac0_0 := fun o => alloc_cell o c0_0_9
              have ac0_1 := fun o => alloc_cell o c0_1_9
              have ac1_0 := fun o => alloc_cell o c1_0_9
              have ac1_1 := fun o => alloc_cell o c1_1_9
              go_wp2_with fail
              refine (HA.out _ _ _ (.slice (some ⟨w9.heap.size, 0, none⟩) 1 1) ((Rd.of_own O0_9.out).later (by go_grown)) ((Rd.of_own O1_9.out).later (by go_grown)) (rdc1 (by simp) (by simp [go_sem]) (by simp [go_sem]))).mono ?_
              rintro _ w10 ⟨x10, rfl, n10, r10⟩
              have s10 : Below w9.heap.size w9 w10 := Below.trans (by go_grown) (r10.mono (by simp; try omega))
              have b10 := b9.trans (s10.mono z9)
              have z10 := b10.size
              have y10 := s10.size
              have c0_0_10 := below_cell s10 c0_0_9; clear c0_0_9
              have c0_1_10 := below_cell s10 c0_1_9; clear c0_1_9
              have c1_0_10 := below_cell s10 c1_0_9; clear c1_0_9
              have c1_1_10 := below_cell s10 c1_1_9; clear c1_1_9
              have c2_0_10 := below_cell r10 (p := ⟨w9.heap.size, 0, none⟩) (v := .int .i64 z) (by simp [go_sem])
              have c2_1_10 := below_cell r10 (p := ⟨w9.heap.size, 1, none⟩) (v := .int .i64 m) (by simp [go_sem])
              have o0_10 := own_later O0_9.out s10; have O0_10 := Lib.hid o0_10; clear o0_10
              have o1_10 := own_later O1_9.out s10; have O1_10 := Lib.hid o1_10; clear o1_10
              have o2_10 := own_later O2_9.out s10; have O2_10 := Lib.hid o2_10; clear o2_10
              have o3_10 := own_later O3_9.out s10; have O3_10 := Lib.hid o3_10; clear o3_10
              clear r10
              obtain ⟨aA, cA, rfl⟩ := own_shape n10
              clear n10
              by_cases c2 : m = 20
              · have t3 : ((m : Int) == 20) = true := by simp; omega
                go_wp2
                go_returns
                exact RetB.mk rfl (by go_grown)
              · have t3 : ((m : Int) == 20) = false := by simp; omega
                have ha2 := HAP1.out ((m + 1 : Nat) : Int)
                rw [HNO.out (by omega)] at ha2
                rw [show ((m + 1 : Nat) : Int) = (m : Int) + 1 by omega] at ha2
                have HA2 := Lib.hid ha2; clear ha2
                generalize (applyI nm ps zs [((z : Int), (m : Int) + 1)]).1 = B1 at *
                generalize (applyI nm ps zs [((z : Int), (m : Int) + 1)]).2.1 = B2 at *
                have ac0_0 := fun o => alloc_cell o c0_0_10
                have ac0_1 := fun o => alloc_cell o c0_1_10
                have ac1_0 := fun o => alloc_cell o c1_0_10
                have ac1_1 := fun o => alloc_cell o c1_1_10
                have ac2_0 := fun o => alloc_cell o c2_0_10
                have ac2_1 := fun o => alloc_cell o c2_1_10
                go_wp2_with fail
                refine (HA2.out _ _ _ (.slice (some ⟨w10.heap.size + 1, 0, none⟩) 1 1) ((Rd.of_own O0_10.out).later (by go_grown)) ((Rd.of_own O1_10.out).later (by go_grown)) (rdc1 (by simp) (by simp [go_sem]) (by simp [go_sem]))).mono ?_
                rintro _ w11 ⟨x11, rfl, n11, r11⟩
                have s11 : Below w10.heap.size w10 w11 := Below.trans (by go_grown) (r11.mono (by simp; try omega))
                have b11 := b10.trans (s11.mono z10)
                have z11 := b11.size
                have y11 := s11.size
                have c0_0_11 := below_cell s11 c0_0_10; clear c0_0_10
                have c0_1_11 := below_cell s11 c0_1_10; clear c0_1_10
                have c1_0_11 := below_cell s11 c1_0_10; clear c1_0_10
                have c1_1_11 := below_cell s11 c1_1_10; clear c1_1_10
                have c2_0_11 := below_cell s11 c2_0_10; clear c2_0_10
                have c2_1_11 := below_cell s11 c2_1_10; clear c2_1_10
                have c3_0_11 := below_cell r11 (p := ⟨w10.heap.size, 0, none⟩) (v := .string A1) (by simp [go_sem])
                have c3_1_11 := below_cell r11 (p := ⟨w10.heap.size, 1, none⟩) (v := .slice aA A2.length cA) (by simp [go_sem])
                have c4_0_11 := below_cell r11 (p := ⟨w10.heap.size + 1, 0, none⟩) (v := .int .i64 z) (by simp [go_sem])
                have c4_1_11 := below_cell r11 (p := ⟨w10.heap.size + 1, 1, none⟩) (v := .int .i64 (m + 1)) (by simp [go_sem])
                have o0_11 := own_later O0_10.out s11; have O0_11 := Lib.hid o0_11; clear o0_11
                have o1_11 := own_later O1_10.out s11; have O1_11 := Lib.hid o1_11; clear o1_11
                have o2_11 := own_later O2_10.out s11; have O2_11 := Lib.hid o2_11; clear o2_11
                have o3_11 := own_later O3_10.out s11; have O3_11 := Lib.hid o3_11; clear o3_11
                clear r11
                obtain ⟨aB, cB, rfl⟩ := own_shape n11
                clear n11
                go_wp2
                go_returns
                exact RetB.mk rfl (by go_grown)
            · obtain rfl : m = 0 := by omega
              have ha2 := HAP1.out ((0 + 1 : Nat) : Int)
              rw [HNO.out (by omega)] at ha2
              rw [show ((0 + 1 : Nat) : Int) = 1 by omega] at ha2
              have HA2 := Lib.hid ha2; clear ha2
              generalize (applyI nm ps zs [((z : Int), (1 : Int))]).1 = B1 at *
              generalize (applyI nm ps zs [((z : Int), (1 : Int))]).2.1 = B2 at *
              have ac0_0 := fun o => alloc_cell o c0_0_9
              have ac0_1 := fun o => alloc_cell o c0_1_9
              have ac1_0 := fun o => alloc_cell o c1_0_9
              have ac1_1 := fun o => alloc_cell o c1_1_9
              go_wp2_with fail
              refine (HA2.out _ _ _ (.slice (some ⟨w9.heap.size, 0, none⟩) 1 1) ((Rd.of_own O0_9.out).later (by go_grown)) ((Rd.of_own O1_9.out).later (by go_grown)) (rdc1 (by simp) (by simp [go_sem]) (by simp [go_sem]))).mono ?_
              rintro _ w10 ⟨x10, rfl, n10, r10⟩
              have s10 : Below w9.heap.size w9 w10 := Below.trans (by go_grown) (r10.mono (by simp; try omega))
              have b10 := b9.trans (s10.mono z9)
              have z10 := b10.size
              have y10 := s10.size
              have c0_0_10 := below_cell s10 c0_0_9; clear c0_0_9
              have c0_1_10 := below_cell s10 c0_1_9; clear c0_1_9
              have c1_0_10 := below_cell s10 c1_0_9; clear c1_0_9
              have c1_1_10 := below_cell s10 c1_1_9; clear c1_1_9
              have c2_0_10 := below_cell r10 (p := ⟨w9.heap.size, 0, none⟩) (v := .int .i64 z) (by simp [go_sem])
              have c2_1_10 := below_cell r10 (p := ⟨w9.heap.size, 1, none⟩) (v := .int .i64 1) (by simp [go_sem])
              have o0_10 := own_later O0_9.out s10; have O0_10 := Lib.hid o0_10; clear o0_10
              have o1_10 := own_later O1_9.out s10; have O1_10 := Lib.hid o1_10; clear o1_10
              have o2_10 := own_later O2_9.out s10; have O2_10 := Lib.hid o2_10; clear o2_10
              have o3_10 := own_later O3_9.out s10; have O3_10 := Lib.hid o3_10; clear o3_10
              clear r10
              obtain ⟨aB, cB, rfl⟩ := own_shape n10
              clear n10
              go_wp2
              go_returns
              exact RetB.mk rfl (by go_grown)
      · rw [show chipsI nm ps zs cs = (0, (applyI nm ps zs cs).2.2) by simp [chipsI, hA]] at hch
        have HAP := Lib.hid hap; clear hap
        have HCH := Lib.hid hch; clear hch
        have ta : ((applyI nm ps zs cs).2.2 == 0) = false := by simpa using hA
        generalize (applyI nm ps zs cs).2.2 = code at *
        generalize (applyI nm ps zs cs).2.1 = QS at *
        generalize (applyI nm ps zs cs).1 = QN at *
        clear hA
        go_wp2_with fail
        refine (HAP.out _ _ _ _ (Rd.of_own O0_3.out) (Rd.of_own O1_3.out) (Rd.of_own OC.out)).mono ?_
        rintro _ w4 ⟨x4, rfl, n4, r4⟩
        have s4 := r4
        have b4 := b3.trans (s4.mono z3)
        have z4 := b4.size
        have y4 := s4.size
        have c0_0_4 := below_cell s4 c0_0_3; clear c0_0_3
        have c0_1_4 := below_cell s4 c0_1_3; clear c0_1_3
        have o0_4 := own_later O0_3.out s4; have O0_4 := Lib.hid o0_4; clear o0_4
        have o1_4 := own_later O1_3.out s4; have O1_4 := Lib.hid o1_4; clear o1_4
        have o2_4 := own_later OC.out s4; have O2_4 := Lib.hid o2_4; clear o2_4
        clear r4
        obtain ⟨a4, c4, rfl⟩ := own_shape n4
        clear n4
        have ac0_0 := fun o => alloc_cell o c0_0_4
        have ac0_1 := fun o => alloc_cell o c0_1_4
        go_wp2_with fail
        refine (HCH.out _ _ _ _ ((Rd.of_own O0_4.out).later (by go_grown)) ((Rd.of_own O1_4.out).later (by go_grown)) ((Rd.of_own O2_4.out).later (by go_grown))).mono ?_
        rintro _ w5 ⟨rfl, r5⟩
        have s5 : Below w4.heap.size w4 w5 := Below.trans (by go_grown) (r5.mono (by simp; try omega))
        have b5 := b4.trans (s5.mono z4)
        have z5 := b5.size
        have y5 := s5.size
        have c0_0_5 := below_cell s5 c0_0_4; clear c0_0_4
        have c0_1_5 := below_cell s5 c0_1_4; clear c0_1_4
        have c1_0_5 := below_cell r5 (p := ⟨w4.heap.size, 0, none⟩) (v := .string QN) (by simp [go_sem])
        have c1_1_5 := below_cell r5 (p := ⟨w4.heap.size, 1, none⟩) (v := .slice a4 QS.length c4) (by simp [go_sem])
        have o0_5 := own_later O0_4.out s5; have O0_5 := Lib.hid o0_5; clear o0_5
        have o1_5 := own_later O1_4.out s5; have O1_5 := Lib.hid o1_5; clear o1_5
        have o2_5 := own_later O2_4.out s5; have O2_5 := Lib.hid o2_5; clear o2_5
        clear r5
        go_wp2_with fail
        refine (HRO.out _ _ _ (Rd.of_own O0_5.out) (Rd.of_own O1_5.out)).mono ?_
        rintro _ w6 ⟨x6, rfl, n6, r6⟩
        have s6 := r6
        have b6 := b5.trans (s6.mono z5)
        have z6 := b6.size
        have y6 := s6.size
        have c0_0_6 := below_cell s6 c0_0_5; clear c0_0_5
        have c0_1_6 := below_cell s6 c0_1_5; clear c0_1_5
        have c1_0_6 := below_cell s6 c1_0_5; clear c1_0_5
        have c1_1_6 := below_cell s6 c1_1_5; clear c1_1_5
        have o0_6 := own_later O0_5.out s6; have O0_6 := Lib.hid o0_6; clear o0_6
        have o1_6 := own_later O1_5.out s6; have O1_6 := Lib.hid o1_6; clear o1_6
        have o2_6 := own_later O2_5.out s6; have O2_6 := Lib.hid o2_6; clear o2_6
        clear r6
        obtain ⟨aR, cR, hvR⟩ := own_shape n6
        rw [roomK_len] at hvR
        subst hvR
        have rdR := Rd.of_own n6
        rw [roomK_len] at rdR
        clear n6
        obtain ⟨_, aoR, capR, bR, offR, hvR, haoR, hcellR⟩ := rdR.open
        cases hvR
        obtain rfl : aR = some ⟨bR, offR, none⟩ := haoR (by omega)
        have hcellR := hcellR _ (Below.refl _ _)
        have HCR := Lib.hid hcellR; clear hcellR
        clear rdR haoR
        go_wp2_with fail
        refine (HAT.out _ b6).mono ?_
        rintro _ _ ⟨zI, rfl, zl, zu, rfl⟩
        obtain ⟨z, rfl⟩ : ∃ z : Nat, zI = (z : Int) := ⟨zI.toNat, by omega⟩
        have hz : z < zs.length := by omega
        have hz8 : z < 8 := by omega
        have hms := HMS.out z hz
        have hsp := mostI_spec nm ps zs z
        have hcr : w6.cell? ⟨bR, offR + z, none⟩ = some (.int .i64 ((mostI nm ps zs z : Nat) : Int)) := by rw [← roomK_at nm ps zs zs.length z hz, getD_eq (by rw [roomK_len]; exact hz)]; exact HCR.out z _ (by omega) (intsAt (by rw [roomK_len]; exact hz))
        have hap := fun s (s1 : 1 ≤ s) (s2 : s ≤ 20) => apply_one (nm := nm) (ps := ps) (zs := zs) (z := z) (s := s) HVZ.out hz (by omega) s1 s2
        have HMS2 := Lib.hid hms; clear hms
        have HAP2 := Lib.hid hap; clear hap
        generalize hM : mostI nm ps zs z = m at *
        clear hM
        obtain ⟨m20, mok, mno⟩ := hsp
        have ixR := ix (P := Try.prog) (T := 41) (n := zs.length) (cap := cR) Try.underlying41 cells_int64 has_int64 (ao := some ⟨bR, offR, none⟩) (b := bR) (off := offR) (fun _ => rfl) (k := z) hz _ rfl
        rw [Nat.mul_one] at ixR
        go_wp2_with fail
        refine (HMS2.out _ _ _ (Rd.of_own O0_6.out) (Rd.of_own O1_6.out)).mono ?_
        rintro _ w7 ⟨rfl, r7⟩
        have s7 := r7
        have b7 := b6.trans (s7.mono z6)
        have z7 := b7.size
        have y7 := s7.size
        have c0_0_7 := below_cell s7 c0_0_6; clear c0_0_6
        have c0_1_7 := below_cell s7 c0_1_6; clear c0_1_6
        have c1_0_7 := below_cell s7 c1_0_6; clear c1_0_6
        have c1_1_7 := below_cell s7 c1_1_6; clear c1_1_6
        have o0_7 := own_later O0_6.out s7; have O0_7 := Lib.hid o0_7; clear o0_7
        have o1_7 := own_later O1_6.out s7; have O1_7 := Lib.hid o1_7; clear o1_7
        have o2_7 := own_later O2_6.out s7; have O2_7 := Lib.hid o2_7; clear o2_7
        clear r7
        have hcr := below_cell s7 hcr
        have t0 : decide ((m : Int) < 0) = false := decide_eq_false (by omega)
        have t1 : decide ((20 : Int) < (m : Int)) = false := decide_eq_false (by omega)
        have e6 := HAP2.out
        have hno : m < 20 → (applyI nm ps zs [((z : Int), ((m + 1 : Nat) : Int))]).2.2 = 6 := fun h => by rw [e6 (m + 1) (by omega) (by omega), mno h]; rfl
        have hyes : 0 < m → (applyI nm ps zs [((z : Int), (m : Int))]).2.2 = 0 := fun h => by rw [e6 m (by omega) (by omega), mok h]; rfl
        have hap1 := fun s : Int => HAPC.out [((z : Int), s)]
        clear e6 mok mno HAP2 HMS2
        have HNO := Lib.hid hno; clear hno
        have HYES := Lib.hid hyes; clear hyes
        have HAP1 := Lib.hid hap1; clear hap1
        have last : True := trivial
        by_cases c0 : 0 < m
        · have t2 : decide ((0 : Int) < (m : Int)) = true := decide_eq_true (by omega)
          have ha := HAP1.out (m : Int)
          rw [HYES.out c0] at ha
          have HA := Lib.hid ha; clear ha
          generalize (applyI nm ps zs [((z : Int), (m : Int))]).1 = A1 at *
          generalize (applyI nm ps zs [((z : Int), (m : Int))]).2.1 = A2 at *
          have ac0_0 := fun o => alloc_cell o c0_0_7
          have ac0_1 := fun o => alloc_cell o c0_1_7
          have ac1_0 := fun o => alloc_cell o c1_0_7
          have ac1_1 := fun o => alloc_cell o c1_1_7
          go_wp2_with fail
          refine (HA.out _ _ _ (.slice (some ⟨w7.heap.size, 0, none⟩) 1 1) ((Rd.of_own O0_7.out).later (by go_grown)) ((Rd.of_own O1_7.out).later (by go_grown)) (rdc1 (by simp) (by simp [go_sem]) (by simp [go_sem]))).mono ?_
          rintro _ w8 ⟨x8, rfl, n8, r8⟩
          have s8 : Below w7.heap.size w7 w8 := Below.trans (by go_grown) (r8.mono (by simp; try omega))
          have b8 := b7.trans (s8.mono z7)
          have z8 := b8.size
          have y8 := s8.size
          have c0_0_8 := below_cell s8 c0_0_7; clear c0_0_7
          have c0_1_8 := below_cell s8 c0_1_7; clear c0_1_7
          have c1_0_8 := below_cell s8 c1_0_7; clear c1_0_7
          have c1_1_8 := below_cell s8 c1_1_7; clear c1_1_7
          have c2_0_8 := below_cell r8 (p := ⟨w7.heap.size, 0, none⟩) (v := .int .i64 z) (by simp [go_sem])
          have c2_1_8 := below_cell r8 (p := ⟨w7.heap.size, 1, none⟩) (v := .int .i64 m) (by simp [go_sem])
          have o0_8 := own_later O0_7.out s8; have O0_8 := Lib.hid o0_8; clear o0_8
          have o1_8 := own_later O1_7.out s8; have O1_8 := Lib.hid o1_8; clear o1_8
          have o2_8 := own_later O2_7.out s8; have O2_8 := Lib.hid o2_8; clear o2_8
          clear r8
          obtain ⟨aA, cA, rfl⟩ := own_shape n8
          clear n8
          by_cases c2 : m = 20
          · have t3 : ((m : Int) == 20) = true := by simp; omega
            go_wp2
            go_returns
            exact RetB.mk rfl (by go_grown)
          · have t3 : ((m : Int) == 20) = false := by simp; omega
            have ha2 := HAP1.out ((m + 1 : Nat) : Int)
            rw [HNO.out (by omega)] at ha2
            rw [show ((m + 1 : Nat) : Int) = (m : Int) + 1 by omega] at ha2
            have HA2 := Lib.hid ha2; clear ha2
            generalize (applyI nm ps zs [((z : Int), (m : Int) + 1)]).1 = B1 at *
            generalize (applyI nm ps zs [((z : Int), (m : Int) + 1)]).2.1 = B2 at *
            have ac0_0 := fun o => alloc_cell o c0_0_8
            have ac0_1 := fun o => alloc_cell o c0_1_8
            have ac1_0 := fun o => alloc_cell o c1_0_8
            have ac1_1 := fun o => alloc_cell o c1_1_8
            have ac2_0 := fun o => alloc_cell o c2_0_8
            have ac2_1 := fun o => alloc_cell o c2_1_8
            go_wp2_with fail
            refine (HA2.out _ _ _ (.slice (some ⟨w8.heap.size + 1, 0, none⟩) 1 1) ((Rd.of_own O0_8.out).later (by go_grown)) ((Rd.of_own O1_8.out).later (by go_grown)) (rdc1 (by simp) (by simp [go_sem]) (by simp [go_sem]))).mono ?_
            rintro _ w9 ⟨x9, rfl, n9, r9⟩
            have s9 : Below w8.heap.size w8 w9 := Below.trans (by go_grown) (r9.mono (by simp; try omega))
            have b9 := b8.trans (s9.mono z8)
            have z9 := b9.size
            have y9 := s9.size
            have c0_0_9 := below_cell s9 c0_0_8; clear c0_0_8
            have c0_1_9 := below_cell s9 c0_1_8; clear c0_1_8
            have c1_0_9 := below_cell s9 c1_0_8; clear c1_0_8
            have c1_1_9 := below_cell s9 c1_1_8; clear c1_1_8
            have c2_0_9 := below_cell s9 c2_0_8; clear c2_0_8
            have c2_1_9 := below_cell s9 c2_1_8; clear c2_1_8
            have c3_0_9 := below_cell r9 (p := ⟨w8.heap.size, 0, none⟩) (v := .string A1) (by simp [go_sem])
            have c3_1_9 := below_cell r9 (p := ⟨w8.heap.size, 1, none⟩) (v := .slice aA A2.length cA) (by simp [go_sem])
            have c4_0_9 := below_cell r9 (p := ⟨w8.heap.size + 1, 0, none⟩) (v := .int .i64 z) (by simp [go_sem])
            have c4_1_9 := below_cell r9 (p := ⟨w8.heap.size + 1, 1, none⟩) (v := .int .i64 (m + 1)) (by simp [go_sem])
            have o0_9 := own_later O0_8.out s9; have O0_9 := Lib.hid o0_9; clear o0_9
            have o1_9 := own_later O1_8.out s9; have O1_9 := Lib.hid o1_9; clear o1_9
            have o2_9 := own_later O2_8.out s9; have O2_9 := Lib.hid o2_9; clear o2_9
            clear r9
            obtain ⟨aB, cB, rfl⟩ := own_shape n9
            clear n9
            go_wp2
            go_returns
            exact RetB.mk rfl (by go_grown)
        · obtain rfl : m = 0 := by omega
          have ha2 := HAP1.out ((0 + 1 : Nat) : Int)
          rw [HNO.out (by omega)] at ha2
          rw [show ((0 + 1 : Nat) : Int) = 1 by omega] at ha2
          have HA2 := Lib.hid ha2; clear ha2
          generalize (applyI nm ps zs [((z : Int), (1 : Int))]).1 = B1 at *
          generalize (applyI nm ps zs [((z : Int), (1 : Int))]).2.1 = B2 at *
          have ac0_0 := fun o => alloc_cell o c0_0_7
          have ac0_1 := fun o => alloc_cell o c0_1_7
          have ac1_0 := fun o => alloc_cell o c1_0_7
          have ac1_1 := fun o => alloc_cell o c1_1_7
          go_wp2_with fail
          refine (HA2.out _ _ _ (.slice (some ⟨w7.heap.size, 0, none⟩) 1 1) ((Rd.of_own O0_7.out).later (by go_grown)) ((Rd.of_own O1_7.out).later (by go_grown)) (rdc1 (by simp) (by simp [go_sem]) (by simp [go_sem]))).mono ?_
          rintro _ w8 ⟨x8, rfl, n8, r8⟩
          have s8 : Below w7.heap.size w7 w8 := Below.trans (by go_grown) (r8.mono (by simp; try omega))
          have b8 := b7.trans (s8.mono z7)
          have z8 := b8.size
          have y8 := s8.size
          have c0_0_8 := below_cell s8 c0_0_7; clear c0_0_7
          have c0_1_8 := below_cell s8 c0_1_7; clear c0_1_7
          have c1_0_8 := below_cell s8 c1_0_7; clear c1_0_7
          have c1_1_8 := below_cell s8 c1_1_7; clear c1_1_7
          have c2_0_8 := below_cell r8 (p := ⟨w7.heap.size, 0, none⟩) (v := .int .i64 z) (by simp [go_sem])
          have c2_1_8 := below_cell r8 (p := ⟨w7.heap.size, 1, none⟩) (v := .int .i64 1) (by simp [go_sem])
          have o0_8 := own_later O0_7.out s8; have O0_8 := Lib.hid o0_8; clear o0_8
          have o1_8 := own_later O1_7.out s8; have O1_8 := Lib.hid o1_8; clear o1_8
          have o2_8 := own_later O2_7.out s8; have O2_8 := Lib.hid o2_8; clear o2_8
          clear r8
          obtain ⟨aB, cB, rfl⟩ := own_shape n8
          clear n8
          go_wp2
          go_returns
          exact RetB.mk rfl (by go_grown)
    · have HLO := Lib.hid hlo; clear hlo
      obtain ⟨_, aoA, capA, _, _, rfl, _, _⟩ := h0.open
      obtain ⟨_, aoB, capB, _, _, rfl, _, _⟩ := h1.open
      clear h0 h1 hb0 hb1
      go_enter Try.func13, Try.ntmps13
      go_wp2_with fail
      refine HLO.out.mono ?_
      rintro _ _ ⟨rfl, rfl⟩
      go_wp2
      go_returns
      exact RetB.mk rfl (Below.refl _ _)
  · have hlo := r8Long_t v0 v1 z0s z1s w h0 h1 l0
    have HLO := Lib.hid hlo; clear hlo
    obtain ⟨_, aoA, capA, _, _, rfl, _, _⟩ := h0.open
    obtain ⟨_, aoB, capB, _, _, rfl, _, _⟩ := h1.open
    clear h0 h1 hb0 hb1
    go_enter Try.func13, Try.ntmps13
    go_wp2_with fail
    refine HLO.out.mono ?_
    rintro _ _ ⟨rfl, rfl⟩
    go_wp2
    go_returns
    exact RetB.mk rfl (Below.refl _ _)

end Go.Proofs.Ytmickkodcclocaa
