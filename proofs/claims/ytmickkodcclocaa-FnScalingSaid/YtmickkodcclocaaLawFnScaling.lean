/- The law FnScaling, walked. -/
import Derived.Test.YtmickkodcclocaaLatheVP
import Derived.Test.YtmickkodcclocaaOpenU
import Derived.Test.YtmickkodcclocaaScalL
namespace Go.Proofs.Ytmickkodcclocaa
set_option linter.unusedVariables false
open Go.RowKit Go.Proofs.Bell Go.BigFrame

set_option maxRecDepth 100000 in
set_option maxHeartbeats 6400000 in
theorem lawFnScaling_c (w : World) (v0 v1 : Value) (z0s z1s : List Int) (h0 : Rd w v0 z0s.length (bytesV z0s)) (h1 : Rd w v1 z1s.length (bytesV z1s)) (hb0 : ∀ z ∈ z0s, Byte z) (hb1 : ∀ z ∈ z1s, Byte z) : Calls Try.prog 10 #[v0, v1] w (RetB (.bool true) w) := by
  by_cases l0 : z0s.length ≤ 1048576
  · have hlo := r8Long_c v0 v1 z0s z1s w h0 h1 l0
    cases l1 : decide (1048576 < z1s.length) <;> rw [l1] at hlo
    · have hr8 := fun w' (hx : Below w.heap.size w w') => R8Profile_c v0 z0s w' (h0.later hx) hb0 l0
      have hw1 := fun w' (hx : Below w.heap.size w w') => r8Wide_c v1 z1s 0 60000 w' (h1.later hx) hb1 (by omega) (by omega) (by omega)
      have hw2 := fun w' (hx : Below w.heap.size w w') => r8At_c v1 z1s 2 40 w' (h1.later hx) hb1 (by omega) (by omega) (by omega)
      rw [show ((0 : Nat) : Int) = 0 from rfl] at hw1
      rw [show ((2 : Nat) : Int) = 2 from rfl] at hw2
      obtain ⟨_, aoA, capA, _, _, rfl, _, _⟩ := h0.open
      obtain ⟨_, aoB, capB, _, _, rfl, _, _⟩ := h1.open
      have HLO := Lib.hid hlo; clear hlo
      have HR8 := Lib.hid hr8; clear hr8
      have HW1 := Lib.hid hw1; clear hw1
      have HW2 := Lib.hid hw2; clear hw2
      clear h0 h1 hb0 hb1 l0 l1
      generalize z0s.length = na at *
      generalize z1s.length = nb at *
      go_enter Try.func10, Try.ntmps10
      have b0 : Below w.heap.size w w := Below.refl _ _
      have z0 : w.heap.size ≤ w.heap.size := Nat.le_refl _
      go_wp2_with fail
      refine HLO.out.mono ?_
      rintro _ _ ⟨rfl, rfl⟩
      go_wp2_with fail
      refine (HR8.out _ b0).mono ?_
      rintro _ w1 ⟨nm, ps, u, rfl, ou, hp, hnm, h2, h9, r1⟩
      have s1 := r1
      have b1 := b0.trans (s1.mono z0)
      have z1 := b1.size
      have y1 := s1.size
      obtain ⟨au, cu, rfl⟩ := own_shape ou
      have oa := own_base ou (Nat.le_refl _)
      have OA := Lib.hid oa; clear oa
      clear ou
      go_wp2_with fail
      refine (HW1.out _ (by go_grown)).mono ?_
      rintro _ _ ⟨f0, rfl, l0, u0, rfl⟩
      obtain ⟨f, hf⟩ : ∃ f, f = 100000 + 20 * f0 := ⟨_, rfl⟩
      have f1 : 100000 ≤ f := by omega
      have f2 : f ≤ 1299980 := by omega
      have hsp := fun w' u (hr : Rd w' u ps.length (trips ps)) => implScaleForPitch_c nm u ps f f w' hnm hr
      rw [pitch_same hp (by omega) (by omega)] at hsp
      have hspE := hsp
      rw [hf] at hspE
      clear hsp
      have HSP := Lib.hid hspE; clear hspE
      have HF := Lib.hid hf; clear hf
      go_wp2_with fail
      refine (HSP.out _ _ ((Rd.of_own OA.out).later (by go_grown))).mono ?_
      rintro _ w2 ⟨x2, rfl, n2, r2⟩
      have s2 : Below w1.heap.size w1 w2 := Below.trans (by go_grown) (r2.mono (by simp; try omega))
      have b2 := b1.trans (s2.mono z1)
      have z2 := b2.size
      have y2 := s2.size
      have c0_0_2 := below_cell r2 (p := ⟨w1.heap.size, 0, none⟩) (v := .string nm) (by simp [go_sem])
      have c0_1_2 := below_cell r2 (p := ⟨w1.heap.size, 1, none⟩) (v := .slice au ps.length cu) (by simp [go_sem])
      have o0_2 := own_later OA.out s2; have O0_2 := Lib.hid o0_2; clear o0_2
      clear r2
      obtain ⟨a2, c2, rfl⟩ := own_shape n2
      have ob := n2
      have OB := Lib.hid ob; clear ob
      clear n2
      have ac0_0 := fun o => alloc_cell o c0_0_2
      have ac0_1 := fun o => alloc_cell o c0_1_2
      go_wp2_with fail
      refine (HW2.out _ (by go_grown)).mono ?_
      rintro _ _ ⟨m0, rfl, m1, m2, rfl⟩
      obtain ⟨num, hnu⟩ : ∃ n, n = 60 + m0 := ⟨_, rfl⟩
      have g1 : 60 ≤ num := by omega
      have g2 : num ≤ 99 := by omega
      have hsc1 := fun w' u (hr : Rd w' u ps.length (trips ps)) => implScaleProfile_c nm u ps num num w' hnm hr
      rw [scale_same hp (by omega) (by omega)] at hsc1
      have hsc2 := fun w' u (hr : Rd w' u ps.length (trips ps)) => implScaleProfile_c nm u ps num 100 w' hnm hr
      rw [scale_fam hp (by omega) (by omega)] at hsc2
      obtain ⟨hpi, hg1, hg2⟩ := pitch_up f1 f2 g1 g2
      have hpa := fun w' => implPitchAfter_c f num 100 w'
      rw [hpi] at hpa
      have hfa := fun w' u (hr : Rd w' u ps.length (trips ps)) => implFamily_good nm u ps num 100 3 w' hnm hr hp (by omega) (by omega) (by omega) (by omega) (by omega)
      rw [show ((3 : Nat) : Int) = 3 from rfl] at hfa
      unfold famV at hfa
      rw [fam3 hp] at hfa
      have hhs := small_h hp (show 1 ≤ num by omega) (show num ≤ 100 by omega)
      have hh1 := fun w' u (hr : Rd w' u ps.length (trips ps)) => specHeight_c nm u ps w' hnm hr hp
      have hh2 := fun h1 w' u (hr : Rd w' u (famR num 100 ps 1).length (trips (famR num 100 ps 1))) => specHeight_c nm u (famR num 100 ps 1) w' hnm hr h1
      have hss := fun ps w' u u' h h' => specSame_c nm u u' ps w' h h'
      have hvp := fun ps w' u h => specVP_c nm u ps w' hnm h
      have hl1 : (famR num 100 ps 1).length = ps.length := mapK_len _ _ _
      subst hnu
      have hf := HF.out
      subst hf
      clear HF
      have e10 : famR (60 + m0) 100 ps 0 = ps := rfl
      have hl2 : (famR (60 + m0) 100 ps 2).length = (famR (60 + m0) 100 ps 1).length := mapK_len _ _ _
      have hfl : famL nm (60 + m0) 100 ps 3 = [(nm, ps), (nm, famR (60 + m0) 100 ps 1), (nm, famR (60 + m0) 100 ps 2)] := rfl
      rw [hfl] at hfa
      have hgt : decide (rnd ((100000 + 20 * f0) * 100) (60 + m0) < 100000 + 20 * f0) = false := decide_eq_false (by omega)
      generalize rnd ((100000 + 20 * f0) * 100) (60 + m0) = G0 at *
      generalize famR (60 + m0) 100 ps 1 = s1 at *
      generalize famR (60 + m0) 100 ps 2 = s2 at *
      rw [hl1] at hl2
      clear hpi e10 hfl
      have HSC1 := Lib.hid hsc1; clear hsc1
      have HPA := Lib.hid hpa; clear hpa
      have HSS := Lib.hid hss; clear hss
      have HVP := Lib.hid hvp; clear hvp
      have HH1 := Lib.hid hh1; clear hh1
      have HH2 := Lib.hid hh2; clear hh2
      have HL1 := Lib.hid hl1; clear hl1
      have HL2 := Lib.hid hl2; clear hl2
      go_wp2_with fail
      refine (HSC1.out _ _ ((Rd.of_own O0_2.out).later (by go_grown))).mono ?_
      rintro _ w3 ⟨x3, rfl, n3, r3⟩
      have s3 : Below w2.heap.size w2 w3 := Below.trans (by go_grown) (r3.mono (by simp; try omega))
      have b3 := b2.trans (s3.mono z2)
      have z3 := b3.size
      have y3 := s3.size
      have c0_0_3 := below_cell s3 c0_0_2; clear c0_0_2
      have c0_1_3 := below_cell s3 c0_1_2; clear c0_1_2
      have c1_0_3 := below_cell r3 (p := ⟨w2.heap.size, 0, none⟩) (v := .string nm) (by simp [go_sem])
      have c1_1_3 := below_cell r3 (p := ⟨w2.heap.size, 1, none⟩) (v := .slice a2 ps.length c2) (by simp [go_sem])
      have o0_3 := own_later O0_2.out s3; have O0_3 := Lib.hid o0_3; clear o0_3
      have o1_3 := own_later OB.out s3; have O1_3 := Lib.hid o1_3; clear o1_3
      clear r3
      obtain ⟨a3, c3, rfl⟩ := own_shape n3
      have oc := n3
      have OC := Lib.hid oc; clear oc
      clear n3
      have ac0_0 := fun o => alloc_cell o c0_0_3
      have ac0_1 := fun o => alloc_cell o c0_1_3
      have ac1_0 := fun o => alloc_cell o c1_0_3
      have ac1_1 := fun o => alloc_cell o c1_1_3
      cases q1 : profB nm s1
      · rw [doneR_f q1] at hsc2
        rw [q1] at hfa
        simp only [Bool.false_and, Bool.false_eq_true, if_false] at hfa
        have HSC2 := Lib.hid hsc2; clear hsc2
        have HFA := Lib.hid hfa; clear hfa
        go_wp2_with fail
        refine (HSC2.out _ _ ((Rd.of_own O0_3.out).later (by go_grown))).mono ?_
        rintro _ w4 ⟨x4, rfl, n4, r4⟩
        have s4 : Below w3.heap.size w3 w4 := Below.trans (by go_grown) (r4.mono (by simp; try omega))
        have b4 := b3.trans (s4.mono z3)
        have z4 := b4.size
        have y4 := s4.size
        have c0_0_4 := below_cell s4 c0_0_3; clear c0_0_3
        have c0_1_4 := below_cell s4 c0_1_3; clear c0_1_3
        have c1_0_4 := below_cell s4 c1_0_3; clear c1_0_3
        have c1_1_4 := below_cell s4 c1_1_3; clear c1_1_3
        have c2_0_4 := below_cell r4 (p := ⟨w3.heap.size, 0, none⟩) (v := .string nm) (by simp [go_sem])
        have c2_1_4 := below_cell r4 (p := ⟨w3.heap.size, 1, none⟩) (v := .slice a3 ps.length c3) (by simp [go_sem])
        have o0_4 := own_later O0_3.out s4; have O0_4 := Lib.hid o0_4; clear o0_4
        have o1_4 := own_later O1_3.out s4; have O1_4 := Lib.hid o1_4; clear o1_4
        have o2_4 := own_later OC.out s4; have O2_4 := Lib.hid o2_4; clear o2_4
        clear r4
        obtain ⟨a4, c4, rfl⟩ := own_shape n4
        clear n4
        have ac0_0 := fun o => alloc_cell o c0_0_4
        have ac0_1 := fun o => alloc_cell o c0_1_4
        have ac1_0 := fun o => alloc_cell o c1_0_4
        have ac1_1 := fun o => alloc_cell o c1_1_4
        have ac2_0 := fun o => alloc_cell o c2_0_4
        have ac2_1 := fun o => alloc_cell o c2_1_4
        go_wp2_with fail
        refine (HPA.out _).mono ?_
        rintro _ w5 ⟨rfl, d5⟩
        have r5 := Dr.below d5; clear d5
        have s5 : Below w4.heap.size w4 w5 := Below.trans (by go_grown) (r5.mono (by simp; try omega))
        have b5 := b4.trans (s5.mono z4)
        have z5 := b5.size
        have y5 := s5.size
        have c0_0_5 := below_cell s5 c0_0_4; clear c0_0_4
        have c0_1_5 := below_cell s5 c0_1_4; clear c0_1_4
        have c1_0_5 := below_cell s5 c1_0_4; clear c1_0_4
        have c1_1_5 := below_cell s5 c1_1_4; clear c1_1_4
        have c2_0_5 := below_cell s5 c2_0_4; clear c2_0_4
        have c2_1_5 := below_cell s5 c2_1_4; clear c2_1_4
        have c3_0_5 := below_cell r5 (p := ⟨w4.heap.size, 0, none⟩) (v := .string ⟨#[]⟩) (by simp [go_sem])
        have c3_1_5 := below_cell r5 (p := ⟨w4.heap.size, 1, none⟩) (v := .slice a4 ([] : List (Int × Int × Int)).length c4) (by simp [go_sem])
        have o0_5 := own_later O0_4.out s5; have O0_5 := Lib.hid o0_5; clear o0_5
        have o1_5 := own_later O1_4.out s5; have O1_5 := Lib.hid o1_5; clear o1_5
        have o2_5 := own_later O2_4.out s5; have O2_5 := Lib.hid o2_5; clear o2_5
        clear r5
        have ac0_0 := fun o => alloc_cell o c0_0_5
        have ac0_1 := fun o => alloc_cell o c0_1_5
        have ac1_0 := fun o => alloc_cell o c1_0_5
        have ac1_1 := fun o => alloc_cell o c1_1_5
        have ac2_0 := fun o => alloc_cell o c2_0_5
        have ac2_1 := fun o => alloc_cell o c2_1_5
        have ac3_0 := fun o => alloc_cell o c3_0_5
        have ac3_1 := fun o => alloc_cell o c3_1_5
        go_wp2_with fail
        refine (HFA.out _ _ (Rd.of_own O0_5.out)).mono ?_
        rintro _ w6 ⟨fv, us, rfl, of, r6⟩
        have s6 := r6
        have b6 := b5.trans (s6.mono z5)
        have z6 := b6.size
        have y6 := s6.size
        have c0_0_6 := below_cell s6 c0_0_5; clear c0_0_5
        have c0_1_6 := below_cell s6 c0_1_5; clear c0_1_5
        have c1_0_6 := below_cell s6 c1_0_5; clear c1_0_5
        have c1_1_6 := below_cell s6 c1_1_5; clear c1_1_5
        have c2_0_6 := below_cell s6 c2_0_5; clear c2_0_5
        have c2_1_6 := below_cell s6 c2_1_5; clear c2_1_5
        have c3_0_6 := below_cell s6 c3_0_5; clear c3_0_5
        have c3_1_6 := below_cell s6 c3_1_5; clear c3_1_5
        have o0_6 := own_later O0_5.out s6; have O0_6 := Lib.hid o0_6; clear o0_6
        have o1_6 := own_later O1_5.out s6; have O1_6 := Lib.hid o1_6; clear o1_6
        have o2_6 := own_later O2_5.out s6; have O2_6 := Lib.hid o2_6; clear o2_6
        obtain ⟨a6, c6, rfl⟩ := own_shape of.row
        clear of
        go_wp2_with fail
        refine (HSS.out _ _ _ _ (Rd.of_own O1_6.out) (Rd.of_own O0_6.out)).mono ?_
        rintro _ w7 ⟨rfl, r7⟩
        have s7 := r7
        have b7 := b6.trans (s7.mono z6)
        have z7 := b7.size
        have y7 := s7.size
        have c0_0_7 := below_cell s7 c0_0_6; clear c0_0_6
        have c0_1_7 := below_cell s7 c0_1_6; clear c0_1_6
        have c1_0_7 := below_cell s7 c1_0_6; clear c1_0_6
        have c1_1_7 := below_cell s7 c1_1_6; clear c1_1_6
        have c2_0_7 := below_cell s7 c2_0_6; clear c2_0_6
        have c2_1_7 := below_cell s7 c2_1_6; clear c2_1_6
        have c3_0_7 := below_cell s7 c3_0_6; clear c3_0_6
        have c3_1_7 := below_cell s7 c3_1_6; clear c3_1_6
        have o0_7 := own_later O0_6.out s7; have O0_7 := Lib.hid o0_7; clear o0_7
        have o1_7 := own_later O1_6.out s7; have O1_7 := Lib.hid o1_7; clear o1_7
        have o2_7 := own_later O2_6.out s7; have O2_7 := Lib.hid o2_7; clear o2_7
        clear r7
        go_wp2_with fail
        refine (HSS.out _ _ _ _ (Rd.of_own O2_7.out) (Rd.of_own O0_7.out)).mono ?_
        rintro _ w8 ⟨rfl, r8⟩
        have s8 := r8
        have b8 := b7.trans (s8.mono z7)
        have z8 := b8.size
        have y8 := s8.size
        have c0_0_8 := below_cell s8 c0_0_7; clear c0_0_7
        have c0_1_8 := below_cell s8 c0_1_7; clear c0_1_7
        have c1_0_8 := below_cell s8 c1_0_7; clear c1_0_7
        have c1_1_8 := below_cell s8 c1_1_7; clear c1_1_7
        have c2_0_8 := below_cell s8 c2_0_7; clear c2_0_7
        have c2_1_8 := below_cell s8 c2_1_7; clear c2_1_7
        have c3_0_8 := below_cell s8 c3_0_7; clear c3_0_7
        have c3_1_8 := below_cell s8 c3_1_7; clear c3_1_7
        have o0_8 := own_later O0_7.out s8; have O0_8 := Lib.hid o0_8; clear o0_8
        have o1_8 := own_later O1_7.out s8; have O1_8 := Lib.hid o1_8; clear o1_8
        have o2_8 := own_later O2_7.out s8; have O2_8 := Lib.hid o2_8; clear o2_8
        clear r8
        go_wp2
        go_returns
        exact RetB.mk rfl b8
      · rw [doneR_t q1] at hsc2
        rw [q1] at hfa
        have hh2 := HH2.out q1
        have HH2' := Lib.hid hh2; clear hh2
        have HSC2 := Lib.hid hsc2; clear hsc2
        go_wp2_with fail
        refine (HSC2.out _ _ ((Rd.of_own O0_3.out).later (by go_grown))).mono ?_
        rintro _ w4 ⟨x4, rfl, n4, r4⟩
        have s4 : Below w3.heap.size w3 w4 := Below.trans (by go_grown) (r4.mono (by simp; try omega))
        have b4 := b3.trans (s4.mono z3)
        have z4 := b4.size
        have y4 := s4.size
        have c0_0_4 := below_cell s4 c0_0_3; clear c0_0_3
        have c0_1_4 := below_cell s4 c0_1_3; clear c0_1_3
        have c1_0_4 := below_cell s4 c1_0_3; clear c1_0_3
        have c1_1_4 := below_cell s4 c1_1_3; clear c1_1_3
        have c2_0_4 := below_cell r4 (p := ⟨w3.heap.size, 0, none⟩) (v := .string nm) (by simp [go_sem])
        have c2_1_4 := below_cell r4 (p := ⟨w3.heap.size, 1, none⟩) (v := .slice a3 ps.length c3) (by simp [go_sem])
        have o0_4 := own_later O0_3.out s4; have O0_4 := Lib.hid o0_4; clear o0_4
        have o1_4 := own_later O1_3.out s4; have O1_4 := Lib.hid o1_4; clear o1_4
        have o2_4 := own_later OC.out s4; have O2_4 := Lib.hid o2_4; clear o2_4
        clear r4
        obtain ⟨a4, c4, hv4⟩ := own_shape n4
        rw [HL1.out] at hv4
        subst hv4
        have od := n4
        have OD := Lib.hid od; clear od
        clear n4
        have ac0_0 := fun o => alloc_cell o c0_0_4
        have ac0_1 := fun o => alloc_cell o c0_1_4
        have ac1_0 := fun o => alloc_cell o c1_0_4
        have ac1_1 := fun o => alloc_cell o c1_1_4
        have ac2_0 := fun o => alloc_cell o c2_0_4
        have ac2_1 := fun o => alloc_cell o c2_1_4
        go_wp2_with fail
        refine (HPA.out _).mono ?_
        rintro _ w5 ⟨rfl, d5⟩
        have r5 := Dr.below d5; clear d5
        have s5 : Below w4.heap.size w4 w5 := Below.trans (by go_grown) (r5.mono (by simp; try omega))
        have b5 := b4.trans (s5.mono z4)
        have z5 := b5.size
        have y5 := s5.size
        have c0_0_5 := below_cell s5 c0_0_4; clear c0_0_4
        have c0_1_5 := below_cell s5 c0_1_4; clear c0_1_4
        have c1_0_5 := below_cell s5 c1_0_4; clear c1_0_4
        have c1_1_5 := below_cell s5 c1_1_4; clear c1_1_4
        have c2_0_5 := below_cell s5 c2_0_4; clear c2_0_4
        have c2_1_5 := below_cell s5 c2_1_4; clear c2_1_4
        have c3_0_5 := below_cell r5 (p := ⟨w4.heap.size, 0, none⟩) (v := .string nm) (by simp [go_sem])
        have c3_1_5 := below_cell r5 (p := ⟨w4.heap.size, 1, none⟩) (v := .slice a4 ps.length c4) (by simp [go_sem])
        have o0_5 := own_later O0_4.out s5; have O0_5 := Lib.hid o0_5; clear o0_5
        have o1_5 := own_later O1_4.out s5; have O1_5 := Lib.hid o1_5; clear o1_5
        have o2_5 := own_later O2_4.out s5; have O2_5 := Lib.hid o2_5; clear o2_5
        have o3_5 := own_later OD.out s5; have O3_5 := Lib.hid o3_5; clear o3_5
        clear r5
        have ac0_0 := fun o => alloc_cell o c0_0_5
        have ac0_1 := fun o => alloc_cell o c0_1_5
        have ac1_0 := fun o => alloc_cell o c1_0_5
        have ac1_1 := fun o => alloc_cell o c1_1_5
        have ac2_0 := fun o => alloc_cell o c2_0_5
        have ac2_1 := fun o => alloc_cell o c2_1_5
        have ac3_0 := fun o => alloc_cell o c3_0_5
        have ac3_1 := fun o => alloc_cell o c3_1_5
        have hle : decide (heightI ps < heightI s1) = false := decide_eq_false (by omega)
        cases q2 : profB nm s2
        · rw [q2] at hfa
          simp only [Bool.and_false, Bool.false_eq_true, if_false] at hfa
          have HFA := Lib.hid hfa; clear hfa
          go_wp2_with fail
          refine (HFA.out _ _ (Rd.of_own O0_5.out)).mono ?_
          rintro _ w6 ⟨fv, us, rfl, of, r6⟩
          have s6 := r6
          have b6 := b5.trans (s6.mono z5)
          have z6 := b6.size
          have y6 := s6.size
          have c0_0_6 := below_cell s6 c0_0_5; clear c0_0_5
          have c0_1_6 := below_cell s6 c0_1_5; clear c0_1_5
          have c1_0_6 := below_cell s6 c1_0_5; clear c1_0_5
          have c1_1_6 := below_cell s6 c1_1_5; clear c1_1_5
          have c2_0_6 := below_cell s6 c2_0_5; clear c2_0_5
          have c2_1_6 := below_cell s6 c2_1_5; clear c2_1_5
          have c3_0_6 := below_cell s6 c3_0_5; clear c3_0_5
          have c3_1_6 := below_cell s6 c3_1_5; clear c3_1_5
          have o0_6 := own_later O0_5.out s6; have O0_6 := Lib.hid o0_6; clear o0_6
          have o1_6 := own_later O1_5.out s6; have O1_6 := Lib.hid o1_6; clear o1_6
          have o2_6 := own_later O2_5.out s6; have O2_6 := Lib.hid o2_6; clear o2_6
          have o3_6 := own_later O3_5.out s6; have O3_6 := Lib.hid o3_6; clear o3_6
          obtain ⟨a6, c6, rfl⟩ := own_shape of.row
          clear of
          go_wp2_with fail
          refine (HSS.out _ _ _ _ (Rd.of_own O1_6.out) (Rd.of_own O0_6.out)).mono ?_
          rintro _ w7 ⟨rfl, r7⟩
          have s7 := r7
          have b7 := b6.trans (s7.mono z6)
          have z7 := b7.size
          have y7 := s7.size
          have c0_0_7 := below_cell s7 c0_0_6; clear c0_0_6
          have c0_1_7 := below_cell s7 c0_1_6; clear c0_1_6
          have c1_0_7 := below_cell s7 c1_0_6; clear c1_0_6
          have c1_1_7 := below_cell s7 c1_1_6; clear c1_1_6
          have c2_0_7 := below_cell s7 c2_0_6; clear c2_0_6
          have c2_1_7 := below_cell s7 c2_1_6; clear c2_1_6
          have c3_0_7 := below_cell s7 c3_0_6; clear c3_0_6
          have c3_1_7 := below_cell s7 c3_1_6; clear c3_1_6
          have o0_7 := own_later O0_6.out s7; have O0_7 := Lib.hid o0_7; clear o0_7
          have o1_7 := own_later O1_6.out s7; have O1_7 := Lib.hid o1_7; clear o1_7
          have o2_7 := own_later O2_6.out s7; have O2_7 := Lib.hid o2_7; clear o2_7
          have o3_7 := own_later O3_6.out s7; have O3_7 := Lib.hid o3_7; clear o3_7
          clear r7
          go_wp2_with fail
          refine (HSS.out _ _ _ _ (Rd.of_own O2_7.out) (Rd.of_own O0_7.out)).mono ?_
          rintro _ w8 ⟨rfl, r8⟩
          have s8 := r8
          have b8 := b7.trans (s8.mono z7)
          have z8 := b8.size
          have y8 := s8.size
          have c0_0_8 := below_cell s8 c0_0_7; clear c0_0_7
          have c0_1_8 := below_cell s8 c0_1_7; clear c0_1_7
          have c1_0_8 := below_cell s8 c1_0_7; clear c1_0_7
          have c1_1_8 := below_cell s8 c1_1_7; clear c1_1_7
          have c2_0_8 := below_cell s8 c2_0_7; clear c2_0_7
          have c2_1_8 := below_cell s8 c2_1_7; clear c2_1_7
          have c3_0_8 := below_cell s8 c3_0_7; clear c3_0_7
          have c3_1_8 := below_cell s8 c3_1_7; clear c3_1_7
          have o0_8 := own_later O0_7.out s8; have O0_8 := Lib.hid o0_8; clear o0_8
          have o1_8 := own_later O1_7.out s8; have O1_8 := Lib.hid o1_8; clear o1_8
          have o2_8 := own_later O2_7.out s8; have O2_8 := Lib.hid o2_8; clear o2_8
          have o3_8 := own_later O3_7.out s8; have O3_8 := Lib.hid o3_8; clear o3_8
          clear r8
          go_wp2_with fail
          refine (HH1.out _ _ (Rd.of_own O0_8.out)).mono ?_
          rintro _ w9 ⟨rfl, r9⟩
          have s9 := r9
          have b9 := b8.trans (s9.mono z8)
          have z9 := b9.size
          have y9 := s9.size
          have c0_0_9 := below_cell s9 c0_0_8; clear c0_0_8
          have c0_1_9 := below_cell s9 c0_1_8; clear c0_1_8
          have c1_0_9 := below_cell s9 c1_0_8; clear c1_0_8
          have c1_1_9 := below_cell s9 c1_1_8; clear c1_1_8
          have c2_0_9 := below_cell s9 c2_0_8; clear c2_0_8
          have c2_1_9 := below_cell s9 c2_1_8; clear c2_1_8
          have c3_0_9 := below_cell s9 c3_0_8; clear c3_0_8
          have c3_1_9 := below_cell s9 c3_1_8; clear c3_1_8
          have o0_9 := own_later O0_8.out s9; have O0_9 := Lib.hid o0_9; clear o0_9
          have o1_9 := own_later O1_8.out s9; have O1_9 := Lib.hid o1_9; clear o1_9
          have o2_9 := own_later O2_8.out s9; have O2_9 := Lib.hid o2_9; clear o2_9
          have o3_9 := own_later O3_8.out s9; have O3_9 := Lib.hid o3_9; clear o3_9
          clear r9
          go_wp2_with fail
          refine (HH2'.out _ _ (Rd.of_own O3_9.out)).mono ?_
          rintro _ w10 ⟨rfl, r10⟩
          have s10 := r10
          have b10 := b9.trans (s10.mono z9)
          have z10 := b10.size
          have y10 := s10.size
          have c0_0_10 := below_cell s10 c0_0_9; clear c0_0_9
          have c0_1_10 := below_cell s10 c0_1_9; clear c0_1_9
          have c1_0_10 := below_cell s10 c1_0_9; clear c1_0_9
          have c1_1_10 := below_cell s10 c1_1_9; clear c1_1_9
          have c2_0_10 := below_cell s10 c2_0_9; clear c2_0_9
          have c2_1_10 := below_cell s10 c2_1_9; clear c2_1_9
          have c3_0_10 := below_cell s10 c3_0_9; clear c3_0_9
          have c3_1_10 := below_cell s10 c3_1_9; clear c3_1_9
          have o0_10 := own_later O0_9.out s10; have O0_10 := Lib.hid o0_10; clear o0_10
          have o1_10 := own_later O1_9.out s10; have O1_10 := Lib.hid o1_10; clear o1_10
          have o2_10 := own_later O2_9.out s10; have O2_10 := Lib.hid o2_10; clear o2_10
          have o3_10 := own_later O3_9.out s10; have O3_10 := Lib.hid o3_10; clear o3_10
          clear r10
          go_wp2
          go_returns
          exact RetB.mk rfl b10
        · rw [q2] at hfa
          simp only [Bool.and_true, if_true] at hfa
          have HFA := Lib.hid hfa; clear hfa
          go_wp2_with fail
          refine (HFA.out _ _ (Rd.of_own O0_5.out)).mono ?_
          rintro _ w6 ⟨fv, us, rfl, of, r6⟩
          have s6 := r6
          have b6 := b5.trans (s6.mono z5)
          have z6 := b6.size
          have y6 := s6.size
          have c0_0_6 := below_cell s6 c0_0_5; clear c0_0_5
          have c0_1_6 := below_cell s6 c0_1_5; clear c0_1_5
          have c1_0_6 := below_cell s6 c1_0_5; clear c1_0_5
          have c1_1_6 := below_cell s6 c1_1_5; clear c1_1_5
          have c2_0_6 := below_cell s6 c2_0_5; clear c2_0_5
          have c2_1_6 := below_cell s6 c2_1_5; clear c2_1_5
          have c3_0_6 := below_cell s6 c3_0_5; clear c3_0_5
          have c3_1_6 := below_cell s6 c3_1_5; clear c3_1_5
          have o0_6 := own_later O0_5.out s6; have O0_6 := Lib.hid o0_6; clear o0_6
          have o1_6 := own_later O1_5.out s6; have O1_6 := Lib.hid o1_6; clear o1_6
          have o2_6 := own_later O2_5.out s6; have O2_6 := Lib.hid o2_6; clear o2_6
          have o3_6 := own_later O3_5.out s6; have O3_6 := Lib.hid o3_6; clear o3_6
          obtain ⟨a6, c6, hv6⟩ := own_shape of.row
          rw [show ([(nm, ps), (nm, s1), (nm, s2)] : List PR).length = 3 from rfl] at hv6
          subst hv6
          have OF := Lib.hid of; clear of
          go_wp2_with fail
          refine (HSS.out _ _ _ _ (Rd.of_own O1_6.out) (Rd.of_own O0_6.out)).mono ?_
          rintro _ w7 ⟨rfl, r7⟩
          have s7 := r7
          have b7 := b6.trans (s7.mono z6)
          have z7 := b7.size
          have y7 := s7.size
          have c0_0_7 := below_cell s7 c0_0_6; clear c0_0_6
          have c0_1_7 := below_cell s7 c0_1_6; clear c0_1_6
          have c1_0_7 := below_cell s7 c1_0_6; clear c1_0_6
          have c1_1_7 := below_cell s7 c1_1_6; clear c1_1_6
          have c2_0_7 := below_cell s7 c2_0_6; clear c2_0_6
          have c2_1_7 := below_cell s7 c2_1_6; clear c2_1_6
          have c3_0_7 := below_cell s7 c3_0_6; clear c3_0_6
          have c3_1_7 := below_cell s7 c3_1_6; clear c3_1_6
          have o0_7 := own_later O0_6.out s7; have O0_7 := Lib.hid o0_7; clear o0_7
          have o1_7 := own_later O1_6.out s7; have O1_7 := Lib.hid o1_7; clear o1_7
          have o2_7 := own_later O2_6.out s7; have O2_7 := Lib.hid o2_7; clear o2_7
          have o3_7 := own_later O3_6.out s7; have O3_7 := Lib.hid o3_7; clear o3_7
          have o5_7 := OF.out.later s7; have O5_7 := Lib.hid o5_7; clear o5_7
          clear r7
          go_wp2_with fail
          refine (HSS.out _ _ _ _ (Rd.of_own O2_7.out) (Rd.of_own O0_7.out)).mono ?_
          rintro _ w8 ⟨rfl, r8⟩
          have s8 := r8
          have b8 := b7.trans (s8.mono z7)
          have z8 := b8.size
          have y8 := s8.size
          have c0_0_8 := below_cell s8 c0_0_7; clear c0_0_7
          have c0_1_8 := below_cell s8 c0_1_7; clear c0_1_7
          have c1_0_8 := below_cell s8 c1_0_7; clear c1_0_7
          have c1_1_8 := below_cell s8 c1_1_7; clear c1_1_7
          have c2_0_8 := below_cell s8 c2_0_7; clear c2_0_7
          have c2_1_8 := below_cell s8 c2_1_7; clear c2_1_7
          have c3_0_8 := below_cell s8 c3_0_7; clear c3_0_7
          have c3_1_8 := below_cell s8 c3_1_7; clear c3_1_7
          have o0_8 := own_later O0_7.out s8; have O0_8 := Lib.hid o0_8; clear o0_8
          have o1_8 := own_later O1_7.out s8; have O1_8 := Lib.hid o1_8; clear o1_8
          have o2_8 := own_later O2_7.out s8; have O2_8 := Lib.hid o2_8; clear o2_8
          have o3_8 := own_later O3_7.out s8; have O3_8 := Lib.hid o3_8; clear o3_8
          have o5_8 := O5_7.out.later s8; have O5_8 := Lib.hid o5_8; clear o5_8
          clear r8
          go_wp2_with fail
          refine (HH1.out _ _ (Rd.of_own O0_8.out)).mono ?_
          rintro _ w9 ⟨rfl, r9⟩
          have s9 := r9
          have b9 := b8.trans (s9.mono z8)
          have z9 := b9.size
          have y9 := s9.size
          have c0_0_9 := below_cell s9 c0_0_8; clear c0_0_8
          have c0_1_9 := below_cell s9 c0_1_8; clear c0_1_8
          have c1_0_9 := below_cell s9 c1_0_8; clear c1_0_8
          have c1_1_9 := below_cell s9 c1_1_8; clear c1_1_8
          have c2_0_9 := below_cell s9 c2_0_8; clear c2_0_8
          have c2_1_9 := below_cell s9 c2_1_8; clear c2_1_8
          have c3_0_9 := below_cell s9 c3_0_8; clear c3_0_8
          have c3_1_9 := below_cell s9 c3_1_8; clear c3_1_8
          have o0_9 := own_later O0_8.out s9; have O0_9 := Lib.hid o0_9; clear o0_9
          have o1_9 := own_later O1_8.out s9; have O1_9 := Lib.hid o1_9; clear o1_9
          have o2_9 := own_later O2_8.out s9; have O2_9 := Lib.hid o2_9; clear o2_9
          have o3_9 := own_later O3_8.out s9; have O3_9 := Lib.hid o3_9; clear o3_9
          have o5_9 := O5_8.out.later s9; have O5_9 := Lib.hid o5_9; clear o5_9
          clear r9
          go_wp2_with fail
          refine (HH2'.out _ _ (Rd.of_own O3_9.out)).mono ?_
          rintro _ w10 ⟨rfl, r10⟩
          have s10 := r10
          have b10 := b9.trans (s10.mono z9)
          have z10 := b10.size
          have y10 := s10.size
          have c0_0_10 := below_cell s10 c0_0_9; clear c0_0_9
          have c0_1_10 := below_cell s10 c0_1_9; clear c0_1_9
          have c1_0_10 := below_cell s10 c1_0_9; clear c1_0_9
          have c1_1_10 := below_cell s10 c1_1_9; clear c1_1_9
          have c2_0_10 := below_cell s10 c2_0_9; clear c2_0_9
          have c2_1_10 := below_cell s10 c2_1_9; clear c2_1_9
          have c3_0_10 := below_cell s10 c3_0_9; clear c3_0_9
          have c3_1_10 := below_cell s10 c3_1_9; clear c3_1_9
          have o0_10 := own_later O0_9.out s10; have O0_10 := Lib.hid o0_10; clear o0_10
          have o1_10 := own_later O1_9.out s10; have O1_10 := Lib.hid o1_10; clear o1_10
          have o2_10 := own_later O2_9.out s10; have O2_10 := Lib.hid o2_10; clear o2_10
          have o3_10 := own_later O3_9.out s10; have O3_10 := Lib.hid o3_10; clear o3_10
          have o5_10 := O5_9.out.later s10; have O5_10 := Lib.hid o5_10; clear o5_10
          clear r10
          have of := O5_10.out
          have hus := of.len
          have hrow := of.row
          obtain ⟨a9, c9, g, hv9, hao, _⟩ := own_open hrow
          cases hv9
          obtain rfl : a6 = some ⟨g, 0, none⟩ := hao (by simp)
          have n0 := of.nm 0 (by simp)
          have n1 := of.nm 1 (by simp)
          have n2 := of.nm 2 (by simp)
          have u0 := of.own 0 (by simp)
          have u1 := of.own 1 (by simp)
          have u2 := of.own 2 (by simp)
          have d0 := World.ownsRow.cellAt hrow 0 (by simp)
          have d1 := World.ownsRow.cellAt hrow 1 (by simp)
          have d2 := World.ownsRow.cellAt hrow 2 (by simp)
          have d3 := World.ownsRow.cellAt hrow 3 (by simp)
          have d4 := World.ownsRow.cellAt hrow 4 (by simp)
          have d5 := World.ownsRow.cellAt hrow 5 (by simp)
          have hus3 : us.length = 3 := hus
          rw [(pcells_at (us := us) (k := 0) (by omega)).1, n0] at d0
          rw [(pcells_at (us := us) (k := 0) (by omega)).2] at d1
          rw [(pcells_at (us := us) (k := 1) (by omega)).1, n1] at d2
          rw [(pcells_at (us := us) (k := 1) (by omega)).2] at d3
          rw [(pcells_at (us := us) (k := 2) (by omega)).1, n2] at d4
          rw [(pcells_at (us := us) (k := 2) (by omega)).2] at d5
          clear hrow hus hus3 of n0 n1 n2
          generalize (us.getD 0 nd).2 = x0 at *
          generalize (us.getD 1 nd).2 = x1 at *
          generalize (us.getD 2 nd).2 = x2 at *
          have u0 : OwnR _ _ x0 ps := u0
          have u1 : OwnR _ _ x1 s1 := u1
          have u2 : OwnR _ _ x2 s2 := u2
          obtain ⟨e0, k0, rfl⟩ := own_shape u0
          obtain ⟨e1, k1, rfl⟩ := own_shape u1
          obtain ⟨e2, k2, rfl⟩ := own_shape u2
          have hx0 := ix (P := Try.prog) (T := 35) (n := 3) (cap := c6) Try.underlying35 cells_PS has_PS (ao := some ⟨g, 0, none⟩) (b := g) (off := 0) (fun _ => rfl) (k := 0) (by omega) 0 rfl
          have hx1 := ix (P := Try.prog) (T := 35) (n := 3) (cap := c6) Try.underlying35 cells_PS has_PS (ao := some ⟨g, 0, none⟩) (b := g) (off := 0) (fun _ => rfl) (k := 1) (by omega) 1 rfl
          have hx2 := ix (P := Try.prog) (T := 35) (n := 3) (cap := c6) Try.underlying35 cells_PS has_PS (ao := some ⟨g, 0, none⟩) (b := g) (off := 0) (fun _ => rfl) (k := 2) (by omega) 2 rfl
          simp only [Nat.zero_mul, Nat.one_mul, Nat.zero_add] at hx0 hx1 hx2
          have hA := fun s : Lat w10 => HSS.out ps s.world _ _ ((Rd.of_own u0).later s.below) ((Rd.of_own O0_10.out).later s.below)
          have hB := fun s : Lat w10 => HSS.out s1 s.world _ _ ((Rd.of_own u1).later s.below) ((Rd.of_own O3_10.out).later s.below)
          have hC := fun s : Lat w10 => HVP.out s2 s.world _ ((Rd.of_own u2).later s.below)
          rw [q2] at hC
          have p0 := fun s : Lat w10 => s.cell d0
          have p1 := fun s : Lat w10 => s.cell d1
          have p2 := fun s : Lat w10 => s.cell d2
          have p3 := fun s : Lat w10 => s.cell d3
          have p4 := fun s : Lat w10 => s.cell d4
          have p5 := fun s : Lat w10 => s.cell d5
          have q0 := fun s : Lat w10 => s.cell c0_0_10
          have q1' := fun s : Lat w10 => s.cell c0_1_10
          have q3 := fun s : Lat w10 => s.cell c3_0_10
          have q3' := fun s : Lat w10 => s.cell c3_1_10
          have HA := Lib.hid hA; clear hA
          have HB := Lib.hid hB; clear hB
          have HC := Lib.hid hC; clear hC
          clear d0 d1 d2 d3 d4 d5 u0 u1 u2
          have hbb := b10
          have hzz := z10
          go_wp2_with fail
          refine wp_region_lat (by kernel_rfl) (by kernel_rfl) ?_
          repeat (go_big_quiet_step ((first | (go_at_call 52; first | with_reducible exact Lat.callB (HA.out _) | with_reducible exact Lat.callB (HB.out _)) | (go_at_call 54; exact Lat.callB (HC.out _)))))
          refine wpQuiet_nil ?_
          rintro _ ⟨ls, rfl⟩
          have hbe := hbb.trans (ls.below.mono hzz)
          generalize ls.world = wE at *
          clear p0 p1 p2 p3 p4 p5 q0 q1' q3 q3'
          go_wp2
          go_returns
          exact RetB.mk rfl hbe
    · have HLO := Lib.hid hlo; clear hlo
      obtain ⟨_, aoA, capA, _, _, rfl, _, _⟩ := h0.open
      obtain ⟨_, aoB, capB, _, _, rfl, _, _⟩ := h1.open
      clear h0 h1 hb0 hb1
      go_enter Try.func10, Try.ntmps10
      go_wp2_with fail
      refine HLO.out.mono ?_
      rintro _ _ ⟨rfl, rfl⟩
      go_wp2
      go_returns
      exact RetB.mk rfl (Below.refl _ _)
  · have hlo := r8Long_t v0 v1 z0s z1s w h0 h1 l0
    have HLO := Lib.hid hlo; clear hlo
    obtain ⟨_, aoA, capA, _, _, rfl, _, _⟩ := h0.open
    obtain ⟨_, aoB, capB, _, _, rfl, _, _⟩ := h1.open
    clear h0 h1 hb0 hb1
    go_enter Try.func10, Try.ntmps10
    go_wp2_with fail
    refine HLO.out.mono ?_
    rintro _ _ ⟨rfl, rfl⟩
    go_wp2
    go_returns
    exact RetB.mk rfl (Below.refl _ _)

end Go.Proofs.Ytmickkodcclocaa
