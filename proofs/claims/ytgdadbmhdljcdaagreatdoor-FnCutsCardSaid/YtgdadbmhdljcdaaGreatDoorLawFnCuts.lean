/- The law FnCuts, walked. -/
import Derived.Test.YtgdadbmhdljcdaaGreatDoorApply2
import Derived.Test.YtgdadbmhdljcdaaGreatDoorBetw3
import Derived.Test.YtgdadbmhdljcdaaGreatDoorCutL
import Derived.Test.YtgdadbmhdljcdaaGreatDoorGG
import Derived.Test.YtgdadbmhdljcdaaGreatDoorOpenU
import Derived.Test.YtgdadbmhdljcdaaGreatDoorR8Z
import Derived.Test.YtgdadbmhdljcdaaGreatDoorTE
import Derived.Test.YtgdadbmhdljcdaaGreatDoorTxtD
namespace Go.Proofs.YtgdadbmhdljcdaaGreatDoor
set_option linter.unusedVariables false
open Go.RowKit Go.Proofs.Bell Go.BigFrame

set_option maxRecDepth 100000 in
set_option maxHeartbeats 12800000 in
theorem lawFnCuts_c (w : World) (htab : RTab w) (v0 v1 : Value) (z0s z1s : List Int) (h0 : Rd w v0 z0s.length (bytesV z0s)) (h1 : Rd w v1 z1s.length (bytesV z1s)) (hb0 : ∀ z ∈ z0s, Byte z) (hb1 : ∀ z ∈ z1s, Byte z) : Calls Tryz.prog 5 #[v0, v1] w (RetB (.bool true) w) := by
  by_cases l0 : z0s.length ≤ 1048576
  · have hlo := r8Long_c v0 v1 z0s z1s w h0 h1 l0
    cases l1 : decide (1048576 < z1s.length) <;> rw [l1] at hlo
    · have l1' : z1s.length ≤ 1048576 := by have := of_decide_eq_false l1; omega
      have hr8 := fun w' (hx : Below w.heap.size w w') => R8Profile_c v0 z0s w' (h0.later hx) hb0 l0
      have hzo := fun nm ps w' u (hx : Below w.heap.size w w') (hr : Rd w' u ps.length (trips ps)) (q1 : 1 ≤ ps.length) (q2 : ps.length ≤ 32) => R8Zones_c v1 z1s nm u ps w' (h1.later hx) hb1 l1' hr q1 q2
      have hct := fun zs w' u (hx : Below w.heap.size w w') (hr : Rd w' u zs.length (ints zs)) (q1 : 1 ≤ zs.length) (q2 : zs.length ≤ 32) => R8Cuts_c v0 z0s u zs w' (h0.later hx) hb0 l0 hr q1 q2
      obtain ⟨_, aoA, capA, _, _, rfl, _, _⟩ := h0.open
      obtain ⟨_, aoB, capB, _, _, rfl, _, _⟩ := h1.open
      have HLO := Lib.hid hlo; clear hlo
      have HR8 := Lib.hid hr8; clear hr8
      have HZO := Lib.hid hzo; clear hzo
      have HCT := Lib.hid hct; clear hct
      have HTAB := Lib.hid htab; clear htab
      clear h0 h1 hb0 hb1 l0 l1 l1'
      generalize z0s.length = na at *
      generalize z1s.length = nb at *
      go_enter Tryz.func5, Tryz.ntmps5
      have b0 : Below w.heap.size w w := Below.refl _ _
      have z0 : w.heap.size ≤ w.heap.size := Nat.le_refl _
      go_wp2_with fail
      refine HLO.out.mono ?_
      rintro _ _ ⟨rfl, rfl⟩
      go_wp2_with fail
      refine (HR8.out _ b0).mono ?_
      rintro _ w1 ⟨nm, ps, u, rfl, ou, hp, hnm, h2, h9, r1⟩
      have s1 := r1
      have b1 := b0.trans (s1.mono z0)
      have z1 := b1.size
      have y1 := s1.size
      obtain ⟨au, cu, rfl⟩ := own_shape ou
      have oa := own_base ou (Nat.le_refl _)
      have OA := Lib.hid oa; clear oa
      clear ou
      go_wp2_with fail
      refine (HZO.out nm ps _ _ (by go_grown) ((Rd.of_own OA.out).later (by go_grown)) (by omega) (by omega)).mono ?_
      rintro _ w2 ⟨zs, zv, rfl, oz, hzb, r2⟩
      have s2 : Below w1.heap.size w1 w2 := Below.trans (by go_grown) (r2.mono (by simp; try omega))
      have b2 := b1.trans (s2.mono z1)
      have z2 := b2.size
      have y2 := s2.size
      have c0_0_2 := below_cell r2 (p := ⟨w1.heap.size, 0, none⟩) (v := .string nm) (by simp [go_sem])
      have c0_1_2 := below_cell r2 (p := ⟨w1.heap.size, 1, none⟩) (v := .slice au ps.length cu) (by simp [go_sem])
      have o0_2 := own_later OA.out s2; have O0_2 := Lib.hid o0_2; clear o0_2
      clear r2
      obtain ⟨az, cz, rfl⟩ := own_shape oz
      obtain ⟨hz1, hz8⟩ := zones_len hzb
      have OZ := Lib.hid oz; clear oz
      go_wp2_with fail
      refine (HCT.out zs _ _ b2 (Rd.of_own OZ.out) (by omega) (by omega)).mono ?_
      rintro _ w3 ⟨cs, cv, rfl, oc, hc4, hci, r3⟩
      have s3 := r3
      have b3 := b2.trans (s3.mono z2)
      have z3 := b3.size
      have y3 := s3.size
      have c0_0_3 := below_cell s3 c0_0_2; clear c0_0_2
      have c0_1_3 := below_cell s3 c0_1_2; clear c0_1_2
      have o0_3 := own_later O0_2.out s3; have O0_3 := Lib.hid o0_3; clear o0_3
      have o1_3 := own_later OZ.out s3; have O1_3 := Lib.hid o1_3; clear o1_3
      obtain ⟨ac, cc, rfl⟩ := own_shape oc
      have OC := Lib.hid oc; clear oc
      have G := cut_good hp hzb hci hc4
      have hso := fun w' u (hr : Rd w' u cs.length (pairs cs)) => implSortCuts_c u cs w' hr
      rw [G.sort] at hso
      generalize cutsL (sumsOf cs) = D at *
      have hto := fun w' u (hr : Rd w' u cs.length (pairs cs)) => implTotalSteps_c u cs w' hr
      rw [G.tot] at hto
      have hto2 := fun w' u (hr : Rd w' u D.length (pairs D)) => implTotalSteps_c u D w' hr
      rw [G.tot2] at hto2
      have htx := fun w' u (hx : Below w.heap.size w w') (hr : Rd w' u D.length (pairs D)) => implCutsText_c u D w' hr (HTAB.out.later hx).1
      have hsz : (cutsTI D).size ≤ 2000000 := by
        unfold cutsTI
        split
        · rename_i hd
          obtain ⟨hI, hl⟩ := cutsB_I hd
          rw [str_size]
          rcases Nat.eq_zero_or_pos D.length with e | e
          · obtain rfl : D = [] := List.eq_nil_of_length_eq_zero e
            decide
          · rw [outJ_end e]
            have := outJ_len hI D.length (Nat.le_refl _)
            omega
        · decide
      have hre : ∀ w', Below w.heap.size w w' → Calls Tryz.prog 37 #[.string (cutsTI D)] w' (RetC2 D (.bool true) w') := fun w' hx => by
        have := implReadCuts_c (cutsTI D) w' hsz (HTAB.out.later hx)
        rw [G.text] at this
        exact this
      have hap := fun w' u v k (hr : Rd w' u ps.length (trips ps)) (hz : Rd w' v zs.length (ints zs)) (hc : Rd w' k cs.length (pairs cs)) => implApplyCuts_c nm u ps v zs k cs w' hnm hr hz hc
      have hap2 := fun w' u v k (hr : Rd w' u ps.length (trips ps)) (hz : Rd w' v zs.length (ints zs)) (hc : Rd w' k D.length (pairs D)) => implApplyCuts_c nm u ps v zs k D w' hnm hr hz hc
      rw [G.same] at hap2
      have hbe := fun qs w' u u' v (hr : Rd w' u ps.length (trips ps)) (hr' : Rd w' u' qs.length (trips qs)) (hz : Rd w' v zs.length (ints zs)) => implCutsBetween_c nm u ps nm u' qs v zs w' hnm hnm hr hr' hz
      have hsame := fun qs w' u u' (hr : Rd w' u qs.length (trips qs)) (hr' : Rd w' u' qs.length (trips qs)) => specSame_c nm u u' qs w' hr hr'
      have hback := G.back
      have hcode := G.code
      have hup := G.up
      have hlen := G.len
      have hlen8 := G.len8
      generalize applyI nm ps zs cs = AP at *
      obtain ⟨an, aq, ak⟩ := AP
      dsimp only at hap hap2 hback hcode
      generalize hPT : cutsTI D = PT at *
      have HSO := Lib.hid hso; clear hso
      have HTO := Lib.hid hto; clear hto
      have HTO2 := Lib.hid hto2; clear hto2
      have HTX := Lib.hid htx; clear htx
      have HRE := Lib.hid hre; clear hre
      have HAP := Lib.hid hap; clear hap
      have HAP2 := Lib.hid hap2; clear hap2
      have HBE := Lib.hid hbe; clear hbe
      have HSAME := Lib.hid hsame; clear hsame
      have HBACK := Lib.hid hback; clear hback
      have HCODE := Lib.hid hcode; clear hcode
      have HUP := Lib.hid hup; clear hup
      clear HR8 HLO HZO HCT hsz hPT HTAB hci hzb G
      go_wp2_with fail
      refine (HSO.out _ _ (Rd.of_own OC.out)).mono ?_
      rintro _ w4 ⟨x4, rfl, n4, r4⟩
      have s4 := r4
      have b4 := b3.trans (s4.mono z3)
      have z4 := b4.size
      have y4 := s4.size
      have c0_0_4 := below_cell s4 c0_0_3; clear c0_0_3
      have c0_1_4 := below_cell s4 c0_1_3; clear c0_1_3
      have o0_4 := own_later O0_3.out s4; have O0_4 := Lib.hid o0_4; clear o0_4
      have o1_4 := own_later O1_3.out s4; have O1_4 := Lib.hid o1_4; clear o1_4
      have o2_4 := own_later OC.out s4; have O2_4 := Lib.hid o2_4; clear o2_4
      clear r4
      obtain ⟨aD, cD, hvD⟩ := own_shape n4
      subst hvD
      have o4 := n4
      have OB4 := Lib.hid o4; clear o4
      clear n4
      go_wp2_with fail
      refine (HTO.out _ _ (Rd.of_own O2_4.out)).mono ?_
      rintro _ w5 ⟨rfl, r5⟩
      have s5 := r5
      have b5 := b4.trans (s5.mono z4)
      have z5 := b5.size
      have y5 := s5.size
      have c0_0_5 := below_cell s5 c0_0_4; clear c0_0_4
      have c0_1_5 := below_cell s5 c0_1_4; clear c0_1_4
      have o0_5 := own_later O0_4.out s5; have O0_5 := Lib.hid o0_5; clear o0_5
      have o1_5 := own_later O1_4.out s5; have O1_5 := Lib.hid o1_5; clear o1_5
      have o2_5 := own_later O2_4.out s5; have O2_5 := Lib.hid o2_5; clear o2_5
      have o3_5 := own_later OB4.out s5; have O3_5 := Lib.hid o3_5; clear o3_5
      clear r5
      go_wp2_with fail
      refine (HTO2.out _ _ (Rd.of_own O3_5.out)).mono ?_
      rintro _ w6 ⟨rfl, r6⟩
      have s6 := r6
      have b6 := b5.trans (s6.mono z5)
      have z6 := b6.size
      have y6 := s6.size
      have c0_0_6 := below_cell s6 c0_0_5; clear c0_0_5
      have c0_1_6 := below_cell s6 c0_1_5; clear c0_1_5
      have o0_6 := own_later O0_5.out s6; have O0_6 := Lib.hid o0_6; clear o0_6
      have o1_6 := own_later O1_5.out s6; have O1_6 := Lib.hid o1_6; clear o1_6
      have o2_6 := own_later O2_5.out s6; have O2_6 := Lib.hid o2_6; clear o2_6
      have o3_6 := own_later O3_5.out s6; have O3_6 := Lib.hid o3_6; clear o3_6
      clear r6
      have t1 : decide ((zs.length : Int) < (D.length : Int)) = false := decide_eq_false (by omega)
      go_wp2_with fail
      refine (HTX.out _ _ b6 (Rd.of_own O3_6.out)).mono ?_
      rintro _ w7 ⟨rfl, r7⟩
      have s7 := r7
      have b7 := b6.trans (s7.mono z6)
      have z7 := b7.size
      have y7 := s7.size
      have c0_0_7 := below_cell s7 c0_0_6; clear c0_0_6
      have c0_1_7 := below_cell s7 c0_1_6; clear c0_1_6
      have o0_7 := own_later O0_6.out s7; have O0_7 := Lib.hid o0_7; clear o0_7
      have o1_7 := own_later O1_6.out s7; have O1_7 := Lib.hid o1_7; clear o1_7
      have o2_7 := own_later O2_6.out s7; have O2_7 := Lib.hid o2_7; clear o2_7
      have o3_7 := own_later O3_6.out s7; have O3_7 := Lib.hid o3_7; clear o3_7
      clear r7
      go_wp2_with fail
      refine (HRE.out _ b7).mono ?_
      rintro _ w8 ⟨x8, rfl, n8, r8⟩
      have s8 := r8
      have b8 := b7.trans (s8.mono z7)
      have z8 := b8.size
      have y8 := s8.size
      have c0_0_8 := below_cell s8 c0_0_7; clear c0_0_7
      have c0_1_8 := below_cell s8 c0_1_7; clear c0_1_7
      have o0_8 := own_later O0_7.out s8; have O0_8 := Lib.hid o0_8; clear o0_8
      have o1_8 := own_later O1_7.out s8; have O1_8 := Lib.hid o1_8; clear o1_8
      have o2_8 := own_later O2_7.out s8; have O2_8 := Lib.hid o2_8; clear o2_8
      have o3_8 := own_later O3_7.out s8; have O3_8 := Lib.hid o3_8; clear o3_8
      clear r8
      obtain ⟨aR, cR, hvR⟩ := own_shape n8
      subst hvR
      have o8 := n8
      have OB8 := Lib.hid o8; clear o8
      clear n8
      have rdD := Rd.of_own O3_8.out
      have rdR := Rd.of_own OB8.out
      obtain ⟨_, aoD, capD, bD, offD, hvD, haoD, hcellD⟩ := rdD.open
      obtain ⟨_, aoR, capR, bR, offR, hvR, haoR, hcellR⟩ := rdR.open
      cases hvD
      cases hvR
      have HCD := Lib.hid hcellD; clear hcellD
      have HCR := Lib.hid hcellR; clear hcellR
      have HAD := Lib.hid haoD; clear haoD
      have HAR := Lib.hid haoR; clear haoR
      clear rdD rdR
      go_wp2_with fail
      go_loopw [16] (fun i wr => ∃ (k : Nat), k ≤ D.length ∧ i = .int .i64 k ∧ Below w8.heap.size w8 wr) (fun i _ => D.length - (intOf i).toNat)
      case atStart => exact ⟨0, Nat.zero_le _, rfl, Below.refl _ _⟩
      case round =>
        obtain ⟨k, hk, rfl, hb⟩ := hrel
        by_cases hlt : k < D.length
        · obtain rfl := HAD.out (by omega)
          obtain rfl := HAR.out (by omega)
          have hixD := ix (P := Tryz.prog) (T := 65) (n := D.length) (cap := cD) Tryz.underlying65 cells_Cut has_Cut (ao := some ⟨bD, offD, none⟩) (b := bD) (off := offD) (fun _ => rfl) (k := k) hlt _ rfl
          have hixR := ix (P := Tryz.prog) (T := 65) (n := D.length) (cap := cR) Tryz.underlying65 cells_Cut has_Cut (ao := some ⟨bR, offR, none⟩) (b := bR) (off := offR) (fun _ => rfl) (k := k) hlt _ rfl
          have d0 := HCD.out wr hb (k * 2) _ (by omega) (pairs_at hlt).1
          have d1 := HCD.out wr hb (k * 2 + 1) _ (by omega) (pairs_at hlt).2
          have e0 := HCR.out wr hb (k * 2) _ (by omega) (pairs_at hlt).1
          have e1 := HCR.out wr hb (k * 2 + 1) _ (by omega) (pairs_at hlt).2
          rw [← Nat.add_assoc] at d1 e1
          rcases Nat.eq_zero_or_pos k with hk0 | hk0
          · subst hk0
            simp only [Nat.zero_mul, Nat.add_zero] at d0 d1 e0 e1
            generalize (D[0]).1 = x at *
            generalize (D[0]).2 = y at *
            go_wp2_with fail
            go_quiet (fail)
            go_wp2
            go_roundw
            case rel => exact ⟨1, by omega, rfl, below_drewN hb _⟩
            case measure => simp [intOf]; omega
          · obtain ⟨j, rfl⟩ : ∃ j, k = j + 1 := ⟨k - 1, by omega⟩
            have hjl : j < D.length := by omega
            have hup := HUP.out j hlt
            have hixJ := ix (P := Tryz.prog) (T := 65) (n := D.length) (cap := cD) Tryz.underlying65 cells_Cut has_Cut (ao := some ⟨bD, offD, none⟩) (b := bD) (off := offD) (fun _ => rfl) (k := j) hjl (((j + 1 : Nat) : Int) - 1) (by omega)
            have j0 := HCD.out wr hb (j * 2) _ (by omega) (pairs_at hjl).1
            generalize (D[j + 1]).1 = x at *
            generalize (D[j + 1]).2 = y at *
            generalize (D[j]).1 = x' at *
            have t2 : decide (x ≤ x') = false := decide_eq_false (by omega)
            have t3 : decide ((0 : Int) < ((j + 1 : Nat) : Int)) = true := decide_eq_true (by omega)
            go_wp2_with fail
            go_quiet (fail)
            go_wp2
            go_roundw
            case rel => exact ⟨j + 1 + 1, by omega, by go_num, below_drewN hb _⟩
            case measure => simp [intOf]; omega
        · obtain rfl : k = D.length := by omega
          have s9 := hb
          have b9 := b8.trans (s9.mono z8)
          have z9 := b9.size
          have y9 := s9.size
          have c0_0_9 := below_cell s9 c0_0_8; clear c0_0_8
          have c0_1_9 := below_cell s9 c0_1_8; clear c0_1_8
          have o0_9 := own_later O0_8.out s9; have O0_9 := Lib.hid o0_9; clear o0_9
          have o1_9 := own_later O1_8.out s9; have O1_9 := Lib.hid o1_9; clear o1_9
          have o2_9 := own_later O2_8.out s9; have O2_9 := Lib.hid o2_9; clear o2_9
          have o3_9 := own_later O3_8.out s9; have O3_9 := Lib.hid o3_9; clear o3_9
          have o4_9 := own_later OB8.out s9; have O4_9 := Lib.hid o4_9; clear o4_9
          clear hb HAD HAR
          rcases HCODE.out with hk0 | hk6
          · obtain ⟨hq1, hq2⟩ := HBACK.out hk0
            injection hq1 with e1 e2
            injection e2 with e2 e3
            have e1' := e1.symm
            subst e1'
            subst e3
            have hbe := fun w' u u' v hr hr' hz => HBE.out aq w' u u' v hr hr' hz
            rw [hq2] at hbe
            have HBE2 := Lib.hid hbe; clear hbe
            clear hq2 hk0 HBACK HCODE HBE
            go_wp2_with fail
            refine (HAP.out _ _ _ _ (Rd.of_own O0_9.out) (Rd.of_own O1_9.out) (Rd.of_own O2_9.out)).mono ?_
            rintro _ w10 ⟨x10, rfl, n10, r10⟩
            have s10 := r10
            have b10 := b9.trans (s10.mono z9)
            have z10 := b10.size
            have y10 := s10.size
            have c0_0_10 := below_cell s10 c0_0_9; clear c0_0_9
            have c0_1_10 := below_cell s10 c0_1_9; clear c0_1_9
            have o0_10 := own_later O0_9.out s10; have O0_10 := Lib.hid o0_10; clear o0_10
            have o1_10 := own_later O1_9.out s10; have O1_10 := Lib.hid o1_10; clear o1_10
            have o2_10 := own_later O2_9.out s10; have O2_10 := Lib.hid o2_10; clear o2_10
            have o3_10 := own_later O3_9.out s10; have O3_10 := Lib.hid o3_10; clear o3_10
            have o4_10 := own_later O4_9.out s10; have O4_10 := Lib.hid o4_10; clear o4_10
            clear r10
            obtain ⟨ax, cx, hvx⟩ := own_shape n10
            subst hvx
            have ox := n10
            have OX := Lib.hid ox; clear ox
            clear n10
            have ac0_0 := fun o => alloc_cell o c0_0_10
            have ac0_1 := fun o => alloc_cell o c0_1_10
            go_wp2_with fail
            refine (HAP2.out _ _ _ _ ((Rd.of_own O0_10.out).later (by go_grown)) ((Rd.of_own O1_10.out).later (by go_grown)) ((Rd.of_own O3_10.out).later (by go_grown))).mono ?_
            rintro _ w11 ⟨x11, rfl, n11, r11⟩
            have s11 : Below w10.heap.size w10 w11 := Below.trans (by go_grown) (r11.mono (by simp; try omega))
            have b11 := b10.trans (s11.mono z10)
            have z11 := b11.size
            have y11 := s11.size
            have c0_0_11 := below_cell s11 c0_0_10; clear c0_0_10
            have c0_1_11 := below_cell s11 c0_1_10; clear c0_1_10
            have c1_0_11 := below_cell r11 (p := ⟨w10.heap.size, 0, none⟩) (v := .string nm) (by simp [go_sem])
            have c1_1_11 := below_cell r11 (p := ⟨w10.heap.size, 1, none⟩) (v := .slice ax aq.length cx) (by simp [go_sem])
            have o0_11 := own_later O0_10.out s11; have O0_11 := Lib.hid o0_11; clear o0_11
            have o1_11 := own_later O1_10.out s11; have O1_11 := Lib.hid o1_11; clear o1_11
            have o2_11 := own_later O2_10.out s11; have O2_11 := Lib.hid o2_11; clear o2_11
            have o3_11 := own_later O3_10.out s11; have O3_11 := Lib.hid o3_11; clear o3_11
            have o4_11 := own_later O4_10.out s11; have O4_11 := Lib.hid o4_11; clear o4_11
            have o5_11 := own_later OX.out s11; have O5_11 := Lib.hid o5_11; clear o5_11
            clear r11
            obtain ⟨ay, cy, hvy⟩ := own_shape n11
            subst hvy
            have oy := n11
            have OY := Lib.hid oy; clear oy
            clear n11
            have ac0_0 := fun o => alloc_cell o c0_0_11
            have ac0_1 := fun o => alloc_cell o c0_1_11
            have ac1_0 := fun o => alloc_cell o c1_0_11
            have ac1_1 := fun o => alloc_cell o c1_1_11
            go_wp2_with fail
            refine (HBE2.out _ _ _ _ ((Rd.of_own O0_11.out).later (by go_grown)) ((Rd.of_own O5_11.out).later (by go_grown)) ((Rd.of_own O1_11.out).later (by go_grown))).mono ?_
            rintro _ w12 ⟨x12, rfl, n12, r12⟩
            have s12 : Below w11.heap.size w11 w12 := Below.trans (by go_grown) (r12.mono (by simp; try omega))
            have b12 := b11.trans (s12.mono z11)
            have z12 := b12.size
            have y12 := s12.size
            have c0_0_12 := below_cell s12 c0_0_11; clear c0_0_11
            have c0_1_12 := below_cell s12 c0_1_11; clear c0_1_11
            have c1_0_12 := below_cell s12 c1_0_11; clear c1_0_11
            have c1_1_12 := below_cell s12 c1_1_11; clear c1_1_11
            have c2_0_12 := below_cell r12 (p := ⟨w11.heap.size, 0, none⟩) (v := .string nm) (by simp [go_sem])
            have c2_1_12 := below_cell r12 (p := ⟨w11.heap.size, 1, none⟩) (v := .slice ay aq.length cy) (by simp [go_sem])
            have o0_12 := own_later O0_11.out s12; have O0_12 := Lib.hid o0_12; clear o0_12
            have o1_12 := own_later O1_11.out s12; have O1_12 := Lib.hid o1_12; clear o1_12
            have o2_12 := own_later O2_11.out s12; have O2_12 := Lib.hid o2_12; clear o2_12
            have o3_12 := own_later O3_11.out s12; have O3_12 := Lib.hid o3_12; clear o3_12
            have o4_12 := own_later O4_11.out s12; have O4_12 := Lib.hid o4_12; clear o4_12
            have o5_12 := own_later O5_11.out s12; have O5_12 := Lib.hid o5_12; clear o5_12
            have o6_12 := own_later OY.out s12; have O6_12 := Lib.hid o6_12; clear o6_12
            clear r12
            obtain ⟨af, cf, hvf⟩ := own_shape n12
            subst hvf
            have of := n12
            have OF := Lib.hid of; clear of
            clear n12
            go_wp2_with fail
            refine (HSAME.out aq _ _ _ (Rd.of_own O5_12.out) (Rd.of_own O6_12.out)).mono ?_
            rintro _ w13 ⟨rfl, r13⟩
            have s13 := r13
            have b13 := b12.trans (s13.mono z12)
            have z13 := b13.size
            have y13 := s13.size
            have c0_0_13 := below_cell s13 c0_0_12; clear c0_0_12
            have c0_1_13 := below_cell s13 c0_1_12; clear c0_1_12
            have c1_0_13 := below_cell s13 c1_0_12; clear c1_0_12
            have c1_1_13 := below_cell s13 c1_1_12; clear c1_1_12
            have c2_0_13 := below_cell s13 c2_0_12; clear c2_0_12
            have c2_1_13 := below_cell s13 c2_1_12; clear c2_1_12
            have o0_13 := own_later O0_12.out s13; have O0_13 := Lib.hid o0_13; clear o0_13
            have o1_13 := own_later O1_12.out s13; have O1_13 := Lib.hid o1_13; clear o1_13
            have o2_13 := own_later O2_12.out s13; have O2_13 := Lib.hid o2_13; clear o2_13
            have o3_13 := own_later O3_12.out s13; have O3_13 := Lib.hid o3_13; clear o3_13
            have o4_13 := own_later O4_12.out s13; have O4_13 := Lib.hid o4_13; clear o4_13
            have o5_13 := own_later O5_12.out s13; have O5_13 := Lib.hid o5_13; clear o5_13
            have o6_13 := own_later O6_12.out s13; have O6_13 := Lib.hid o6_13; clear o6_13
            have o7_13 := own_later OF.out s13; have O7_13 := Lib.hid o7_13; clear o7_13
            clear r13
            have rdE := Rd.of_own O3_13.out
            have rdF := Rd.of_own O7_13.out
            obtain ⟨_, aoE, capE, bE, offE, hvE, haoE, hcellE⟩ := rdE.open
            obtain ⟨_, aoF, capF, bF, offF, hvF, haoF, hcellF⟩ := rdF.open
            cases hvE
            cases hvF
            have HCE := Lib.hid hcellE; clear hcellE
            have HCF := Lib.hid hcellF; clear hcellF
            have HAE := Lib.hid haoE; clear haoE
            have HAF := Lib.hid haoF; clear haoF
            clear rdE rdF
            go_wp2_with fail
            go_loopw [23] (fun i wr => ∃ (k : Nat), k ≤ D.length ∧ i = .int .i64 k ∧ Below w13.heap.size w13 wr) (fun i _ => D.length - (intOf i).toNat)
            case atStart => exact ⟨0, Nat.zero_le _, rfl, Below.refl _ _⟩
            case round =>
              obtain ⟨k, hk, rfl, hb⟩ := hrel
              by_cases hlt : k < D.length
              · have hqE := HAE.out (by omega)
                have hqF := HAF.out (by omega)
                subst hqE
                subst hqF
                have hixE := ix (P := Tryz.prog) (T := 65) (n := D.length) (cap := cD) Tryz.underlying65 cells_Cut has_Cut (ao := some ⟨bE, offE, none⟩) (b := bE) (off := offE) (fun _ => rfl) (k := k) hlt _ rfl
                have hixF := ix (P := Tryz.prog) (T := 65) (n := D.length) (cap := cf) Tryz.underlying65 cells_Cut has_Cut (ao := some ⟨bF, offF, none⟩) (b := bF) (off := offF) (fun _ => rfl) (k := k) hlt _ rfl
                have d0 := HCE.out _ hb (k * 2) _ (by omega) (pairs_at hlt).1
                have d1 := HCE.out _ hb (k * 2 + 1) _ (by omega) (pairs_at hlt).2
                have e0 := HCF.out _ hb (k * 2) _ (by omega) (pairs_at hlt).1
                have e1 := HCF.out _ hb (k * 2 + 1) _ (by omega) (pairs_at hlt).2
                rw [← Nat.add_assoc] at d1 e1
                generalize (D[k]).1 = x at *
                generalize (D[k]).2 = y at *
                go_wp2_with fail
                go_quiet (fail)
                go_wp2
                go_roundw
                case rel => exact ⟨k + 1, by omega, by go_num, below_drewN hb _⟩
                case measure => simp [intOf]; omega
              · obtain rfl : k = D.length := by omega
                have hbb := b13.trans (hb.mono z13)
                go_wp2
                go_returns
                exact RetB.mk rfl hbb
          · subst hk6
            go_wp2_with fail
            refine (HAP.out _ _ _ _ (Rd.of_own O0_9.out) (Rd.of_own O1_9.out) (Rd.of_own O2_9.out)).mono ?_
            rintro _ w10 ⟨x10, rfl, n10, r10⟩
            have s10 := r10
            have b10 := b9.trans (s10.mono z9)
            have z10 := b10.size
            have y10 := s10.size
            have c0_0_10 := below_cell s10 c0_0_9; clear c0_0_9
            have c0_1_10 := below_cell s10 c0_1_9; clear c0_1_9
            have o0_10 := own_later O0_9.out s10; have O0_10 := Lib.hid o0_10; clear o0_10
            have o1_10 := own_later O1_9.out s10; have O1_10 := Lib.hid o1_10; clear o1_10
            have o2_10 := own_later O2_9.out s10; have O2_10 := Lib.hid o2_10; clear o2_10
            have o3_10 := own_later O3_9.out s10; have O3_10 := Lib.hid o3_10; clear o3_10
            have o4_10 := own_later O4_9.out s10; have O4_10 := Lib.hid o4_10; clear o4_10
            clear r10
            obtain ⟨ax, cx, hvx⟩ := own_shape n10
            subst hvx
            clear n10
            have ac0_0 := fun o => alloc_cell o c0_0_10
            have ac0_1 := fun o => alloc_cell o c0_1_10
            go_wp2_with fail
            refine (HAP2.out _ _ _ _ ((Rd.of_own O0_10.out).later (by go_grown)) ((Rd.of_own O1_10.out).later (by go_grown)) ((Rd.of_own O3_10.out).later (by go_grown))).mono ?_
            rintro _ w11 ⟨x11, rfl, n11, r11⟩
            have s11 : Below w10.heap.size w10 w11 := Below.trans (by go_grown) (r11.mono (by simp; try omega))
            have b11 := b10.trans (s11.mono z10)
            have z11 := b11.size
            have y11 := s11.size
            have c0_0_11 := below_cell s11 c0_0_10; clear c0_0_10
            have c0_1_11 := below_cell s11 c0_1_10; clear c0_1_10
            have c1_0_11 := below_cell r11 (p := ⟨w10.heap.size, 0, none⟩) (v := .string an) (by simp [go_sem])
            have c1_1_11 := below_cell r11 (p := ⟨w10.heap.size, 1, none⟩) (v := .slice ax aq.length cx) (by simp [go_sem])
            have o0_11 := own_later O0_10.out s11; have O0_11 := Lib.hid o0_11; clear o0_11
            have o1_11 := own_later O1_10.out s11; have O1_11 := Lib.hid o1_11; clear o1_11
            have o2_11 := own_later O2_10.out s11; have O2_11 := Lib.hid o2_11; clear o2_11
            have o3_11 := own_later O3_10.out s11; have O3_11 := Lib.hid o3_11; clear o3_11
            have o4_11 := own_later O4_10.out s11; have O4_11 := Lib.hid o4_11; clear o4_11
            clear r11
            obtain ⟨ay, cy, hvy⟩ := own_shape n11
            subst hvy
            clear n11
            have ac0_0 := fun o => alloc_cell o c0_0_11
            have ac0_1 := fun o => alloc_cell o c0_1_11
            have ac1_0 := fun o => alloc_cell o c1_0_11
            have ac1_1 := fun o => alloc_cell o c1_1_11
            go_wp2
            go_returns
            exact RetB.mk rfl (by go_grown)
    · have HLO := Lib.hid hlo; clear hlo
      obtain ⟨_, aoA, capA, _, _, rfl, _, _⟩ := h0.open
      obtain ⟨_, aoB, capB, _, _, rfl, _, _⟩ := h1.open
      clear h0 h1 hb0 hb1
      go_enter Tryz.func5, Tryz.ntmps5
      go_wp2_with fail
      refine HLO.out.mono ?_
      rintro _ _ ⟨rfl, rfl⟩
      go_wp2
      go_returns
      exact RetB.mk rfl (Below.refl _ _)
  · have hlo := r8Long_t v0 v1 z0s z1s w h0 h1 l0
    have HLO := Lib.hid hlo; clear hlo
    obtain ⟨_, aoA, capA, _, _, rfl, _, _⟩ := h0.open
    obtain ⟨_, aoB, capB, _, _, rfl, _, _⟩ := h1.open
    clear h0 h1 hb0 hb1
    go_enter Tryz.func5, Tryz.ntmps5
    go_wp2_with fail
    refine HLO.out.mono ?_
    rintro _ _ ⟨rfl, rfl⟩
    go_wp2
    go_returns
    exact RetB.mk rfl (Below.refl _ _)

end Go.Proofs.YtgdadbmhdljcdaaGreatDoor
