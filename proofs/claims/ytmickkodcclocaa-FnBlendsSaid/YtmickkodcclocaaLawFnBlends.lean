/- The law FnBlends, walked. -/
import Derived.Test.YtmickkodcclocaaBlend3
import Derived.Test.YtmickkodcclocaaBlendsL
import Derived.Test.YtmickkodcclocaaCutR
import Derived.Test.YtmickkodcclocaaOpenU
import Derived.Test.YtmickkodcclocaaSmooth3
namespace Go.Proofs.Ytmickkodcclocaa
set_option linter.unusedVariables false
open Go.RowKit Go.Proofs.Bell Go.BigFrame

def CutPc (nm : ByteArray) (ps : List (Int × Int × Int)) (d : Int) (wk : World) (s6 s7 : Value) (wx : World) : Prop := ∃ c, 0 ≤ c ∧ c ≤ d ∧ CutP nm (thK c ps) 0 wk s6 s7 wx

set_option maxRecDepth 100000 in
set_option maxHeartbeats 6400000 in
theorem lawFnBlends_c (w : World) (v0 v1 : Value) (z0s z1s : List Int) (h0 : Rd w v0 z0s.length (bytesV z0s)) (h1 : Rd w v1 z1s.length (bytesV z1s)) (hb0 : ∀ z ∈ z0s, Byte z) (hb1 : ∀ z ∈ z1s, Byte z) : Calls Try.prog 14 #[v0, v1] w (RetB (.bool true) w) := by
  by_cases l0 : z0s.length ≤ 1048576
  · have hlo := r8Long_c v0 v1 z0s z1s w h0 h1 l0
    cases l1 : decide (1048576 < z1s.length) <;> rw [l1] at hlo
    · have hr8 := fun w' (hx : Below w.heap.size w w') => R8Profile_c v0 z0s w' (h0.later hx) hb0 l0
      have hw1 := fun w' (hx : Below w.heap.size w w') => r8Wide_c v1 z1s 0 3000 w' (h1.later hx) hb1 (by omega) (by omega) (by omega)
      have hw2 := fun w' (hx : Below w.heap.size w w') => r8Wide_c v1 z1s 2 1001 w' (h1.later hx) hb1 (by omega) (by omega) (by omega)
      rw [show ((0 : Nat) : Int) = 0 from rfl] at hw1
      rw [show ((2 : Nat) : Int) = 2 from rfl] at hw2
      obtain ⟨_, aoA, capA, _, _, rfl, _, _⟩ := h0.open
      obtain ⟨_, aoB, capB, _, _, rfl, _, _⟩ := h1.open
      have HLO := Lib.hid hlo; clear hlo
      have HR8 := Lib.hid hr8; clear hr8
      have HW1 := Lib.hid hw1; clear hw1
      have HW2 := Lib.hid hw2; clear hw2
      clear h0 h1 hb0 hb1 l0 l1
      generalize z0s.length = na at *
      generalize z1s.length = nb at *
      go_enter Try.func14, Try.ntmps14
      have b0 : Below w.heap.size w w := Below.refl _ _
      have z0 : w.heap.size ≤ w.heap.size := Nat.le_refl _
      go_wp2_with fail
      refine HLO.out.mono ?_
      rintro _ _ ⟨rfl, rfl⟩
      go_wp2_with fail
      refine (HR8.out _ b0).mono ?_
      rintro _ w1 ⟨nm, ps, u, rfl, ou, hp, hnm, h2, h9, r1⟩
      have s1 := r1
      have b1 := b0.trans (s1.mono z0)
      have z1 := b1.size
      have y1 := s1.size
      obtain ⟨au, cu, rfl⟩ := own_shape ou
      have oa := own_base ou (Nat.le_refl _)
      have OA := Lib.hid oa; clear oa
      clear ou
      go_wp2_with fail
      refine (HW1.out _ (by go_grown)).mono ?_
      rintro _ _ ⟨d, rfl, d0, d1, rfl⟩
      have d2 : d ≤ 2999 := by omega
      clear d1
      have hth := fun w' u (hr : Rd w' u ps.length (trips ps)) => implThickenProfile_c nm u ps d w' hnm hr
      rw [thickI_ok hp (by omega) (by omega)] at hth
      cases hq : profB nm (thK d ps)
      · rw [doneR_f hq] at hth
        have HTH := Lib.hid hth; clear hth
        go_wp2_with fail
        refine (HTH.out _ _ ((Rd.of_own OA.out).later (by go_grown))).mono ?_
        rintro _ w2 ⟨x2, rfl, n2, r2⟩
        have s2 : Below w1.heap.size w1 w2 := Below.trans (by go_grown) (r2.mono (by simp; try omega))
        have b2 := b1.trans (s2.mono z1)
        have z2 := b2.size
        have y2 := s2.size
        have c0_0_2 := below_cell r2 (p := ⟨w1.heap.size, 0, none⟩) (v := .string nm) (by simp [go_sem])
        have c0_1_2 := below_cell r2 (p := ⟨w1.heap.size, 1, none⟩) (v := .slice au ps.length cu) (by simp [go_sem])
        have o0_2 := own_later OA.out s2; have O0_2 := Lib.hid o0_2; clear o0_2
        clear r2
        obtain ⟨a2, c2, rfl⟩ := own_shape n2
        go_wp2
        go_returns
        exact RetB.mk rfl (by go_grown)
      · rw [doneR_t hq] at hth
        have htb := fun w' u (hr : Rd w' u (thK d ps).length (trips (thK d ps))) => implThickenProfile_c nm u (thK d ps) (-d) w' hnm hr
        rw [thick_back hp hq (by omega) (by omega)] at htb
        have hbl := fun s (s0 : 0 ≤ s) (s1 : s ≤ 1000) w' u u' (hr : Rd w' u ps.length (trips ps)) (hr' : Rd w' u' (thK d ps).length (trips (thK d ps))) => (blend_c s0 s1 hp hq) ▸ implBlendProfiles_c nm u ps nm u' (thK d ps) s w' hnm hnm hr hr'
        have hb0 := hbl 0 (by omega) (by omega)
        rw [Int.mul_zero, rnd_zero _ (by omega), thK_zero, doneR_t hp] at hb0
        have hb1 := hbl 1000 (by omega) (by omega)
        rw [rnd_1000, doneR_t hq] at hb1
        have hbs := fun s (s0 : 0 ≤ s) (s1 : s ≤ 1000) => (doneR_t (thK_mid (rnd_share d0 s0 s1).1 (rnd_share d0 s0 s1).2 hp hq)) ▸ hbl s s0 s1
        have hss := fun w' u u' h h' => specSame_c nm u u' ps w' h h'
        have hsq := fun w' u u' h h' => specSame_c nm u u' (thK d ps) w' h h'
        have hql := thK_len d ps
        have HTH := Lib.hid hth; clear hth
        have HTB := Lib.hid htb; clear htb
        have HB0 := Lib.hid hb0; clear hb0
        have HB1 := Lib.hid hb1; clear hb1
        have HBS := Lib.hid hbs; clear hbs
        have HSS := Lib.hid hss; clear hss
        have HSQ := Lib.hid hsq; clear hsq
        clear hbl
        go_wp2_with fail
        refine (HTH.out _ _ ((Rd.of_own OA.out).later (by go_grown))).mono ?_
        rintro _ w2 ⟨x2, rfl, n2, r2⟩
        have s2 : Below w1.heap.size w1 w2 := Below.trans (by go_grown) (r2.mono (by simp; try omega))
        have b2 := b1.trans (s2.mono z1)
        have z2 := b2.size
        have y2 := s2.size
        have c0_0_2 := below_cell r2 (p := ⟨w1.heap.size, 0, none⟩) (v := .string nm) (by simp [go_sem])
        have c0_1_2 := below_cell r2 (p := ⟨w1.heap.size, 1, none⟩) (v := .slice au ps.length cu) (by simp [go_sem])
        have o0_2 := own_later OA.out s2; have O0_2 := Lib.hid o0_2; clear o0_2
        clear r2
        obtain ⟨a2, c2, hv2⟩ := own_shape n2
        rw [hql] at hv2
        subst hv2
        have HQL := Lib.hid hql; clear hql
        have ob := n2
        have OB := Lib.hid ob; clear ob
        clear n2
        have ac0_0 := fun o => alloc_cell o c0_0_2
        have ac0_1 := fun o => alloc_cell o c0_1_2
        go_wp2_with fail
        refine (HTB.out _ _ ((Rd.of_own OB.out).later (by go_grown))).mono ?_
        rintro _ w3 ⟨x3, rfl, n3, r3⟩
        have s3 : Below w2.heap.size w2 w3 := Below.trans (by go_grown) (r3.mono (by simp; try omega))
        have b3 := b2.trans (s3.mono z2)
        have z3 := b3.size
        have y3 := s3.size
        have c0_0_3 := below_cell s3 c0_0_2; clear c0_0_2
        have c0_1_3 := below_cell s3 c0_1_2; clear c0_1_2
        have c1_0_3 := below_cell r3 (p := ⟨w2.heap.size, 0, none⟩) (v := .string nm) (by simp [go_sem])
        have c1_1_3 := below_cell r3 (p := ⟨w2.heap.size, 1, none⟩) (v := .slice a2 ps.length c2) (by simp [go_sem])
        have o0_3 := own_later O0_2.out s3; have O0_3 := Lib.hid o0_3; clear o0_3
        have o1_3 := own_later OB.out s3; have O1_3 := Lib.hid o1_3; clear o1_3
        clear r3
        obtain ⟨a3, c3, rfl⟩ := own_shape n3
        have oc := n3
        have OC := Lib.hid oc; clear oc
        clear n3
        have ac0_0 := fun o => alloc_cell o c0_0_3
        have ac0_1 := fun o => alloc_cell o c0_1_3
        have ac1_0 := fun o => alloc_cell o c1_0_3
        have ac1_1 := fun o => alloc_cell o c1_1_3
        go_wp2_with fail
        refine (HB0.out _ _ _ ((Rd.of_own O0_3.out).later (by go_grown)) ((Rd.of_own O1_3.out).later (by go_grown))).mono ?_
        rintro _ w4 ⟨x4, rfl, n4, r4⟩
        have s4 : Below w3.heap.size w3 w4 := Below.trans (by go_grown) (r4.mono (by simp; try omega))
        have b4 := b3.trans (s4.mono z3)
        have z4 := b4.size
        have y4 := s4.size
        have c0_0_4 := below_cell s4 c0_0_3; clear c0_0_3
        have c0_1_4 := below_cell s4 c0_1_3; clear c0_1_3
        have c1_0_4 := below_cell s4 c1_0_3; clear c1_0_3
        have c1_1_4 := below_cell s4 c1_1_3; clear c1_1_3
        have c2_0_4 := below_cell r4 (p := ⟨w3.heap.size, 0, none⟩) (v := .string nm) (by simp [go_sem])
        have c2_1_4 := below_cell r4 (p := ⟨w3.heap.size, 1, none⟩) (v := .slice a3 ps.length c3) (by simp [go_sem])
        have o0_4 := own_later O0_3.out s4; have O0_4 := Lib.hid o0_4; clear o0_4
        have o1_4 := own_later O1_3.out s4; have O1_4 := Lib.hid o1_4; clear o1_4
        have o2_4 := own_later OC.out s4; have O2_4 := Lib.hid o2_4; clear o2_4
        clear r4
        obtain ⟨a4, c4, rfl⟩ := own_shape n4
        have od := n4
        have OD := Lib.hid od; clear od
        clear n4
        have ac0_0 := fun o => alloc_cell o c0_0_4
        have ac0_1 := fun o => alloc_cell o c0_1_4
        have ac1_0 := fun o => alloc_cell o c1_0_4
        have ac1_1 := fun o => alloc_cell o c1_1_4
        have ac2_0 := fun o => alloc_cell o c2_0_4
        have ac2_1 := fun o => alloc_cell o c2_1_4
        go_wp2_with fail
        refine (HB1.out _ _ _ ((Rd.of_own O0_4.out).later (by go_grown)) ((Rd.of_own O1_4.out).later (by go_grown))).mono ?_
        rintro _ w5 ⟨x5, rfl, n5, r5⟩
        have s5 : Below w4.heap.size w4 w5 := Below.trans (by go_grown) (r5.mono (by simp; try omega))
        have b5 := b4.trans (s5.mono z4)
        have z5 := b5.size
        have y5 := s5.size
        have c0_0_5 := below_cell s5 c0_0_4; clear c0_0_4
        have c0_1_5 := below_cell s5 c0_1_4; clear c0_1_4
        have c1_0_5 := below_cell s5 c1_0_4; clear c1_0_4
        have c1_1_5 := below_cell s5 c1_1_4; clear c1_1_4
        have c2_0_5 := below_cell s5 c2_0_4; clear c2_0_4
        have c2_1_5 := below_cell s5 c2_1_4; clear c2_1_4
        have c3_0_5 := below_cell r5 (p := ⟨w4.heap.size, 0, none⟩) (v := .string nm) (by simp [go_sem])
        have c3_1_5 := below_cell r5 (p := ⟨w4.heap.size, 1, none⟩) (v := .slice a4 ps.length c4) (by simp [go_sem])
        have o0_5 := own_later O0_4.out s5; have O0_5 := Lib.hid o0_5; clear o0_5
        have o1_5 := own_later O1_4.out s5; have O1_5 := Lib.hid o1_5; clear o1_5
        have o2_5 := own_later O2_4.out s5; have O2_5 := Lib.hid o2_5; clear o2_5
        have o3_5 := own_later OD.out s5; have O3_5 := Lib.hid o3_5; clear o3_5
        clear r5
        obtain ⟨a5, c5, hv5⟩ := own_shape n5
        rw [HQL.out] at hv5
        subst hv5
        have oe := n5
        have OE := Lib.hid oe; clear oe
        clear n5
        have ac0_0 := fun o => alloc_cell o c0_0_5
        have ac0_1 := fun o => alloc_cell o c0_1_5
        have ac1_0 := fun o => alloc_cell o c1_0_5
        have ac1_1 := fun o => alloc_cell o c1_1_5
        have ac2_0 := fun o => alloc_cell o c2_0_5
        have ac2_1 := fun o => alloc_cell o c2_1_5
        have ac3_0 := fun o => alloc_cell o c3_0_5
        have ac3_1 := fun o => alloc_cell o c3_1_5
        go_upto_region 11 with fail
        obtain ⟨w6, hw6⟩ : ∃ x, x = w5.alloc (.cells #[.string nm, .slice a5 ps.length c5] 28) := ⟨_, rfl⟩
        have r6 : Below (w5.alloc (.cells #[.string nm, .slice a5 ps.length c5] 28)).heap.size (w5.alloc (.cells #[.string nm, .slice a5 ps.length c5] 28)) w6 := by rw [hw6]; exact Below.refl _ _
        rw [← hw6]
        clear hw6
        have s6 : Below w5.heap.size w5 w6 := Below.trans (by go_grown) (r6.mono (by simp; try omega))
        have b6 := b5.trans (s6.mono z5)
        have z6 := b6.size
        have y6 := s6.size
        have c0_0_6 := below_cell s6 c0_0_5; clear c0_0_5
        have c0_1_6 := below_cell s6 c0_1_5; clear c0_1_5
        have c1_0_6 := below_cell s6 c1_0_5; clear c1_0_5
        have c1_1_6 := below_cell s6 c1_1_5; clear c1_1_5
        have c2_0_6 := below_cell s6 c2_0_5; clear c2_0_5
        have c2_1_6 := below_cell s6 c2_1_5; clear c2_1_5
        have c3_0_6 := below_cell s6 c3_0_5; clear c3_0_5
        have c3_1_6 := below_cell s6 c3_1_5; clear c3_1_5
        have c4_0_6 := below_cell r6 (p := ⟨w5.heap.size, 0, none⟩) (v := .string nm) (by simp [go_sem])
        have c4_1_6 := below_cell r6 (p := ⟨w5.heap.size, 1, none⟩) (v := .slice a5 ps.length c5) (by simp [go_sem])
        have o0_6 := own_later O0_5.out s6; have O0_6 := Lib.hid o0_6; clear o0_6
        have o1_6 := own_later O1_5.out s6; have O1_6 := Lib.hid o1_6; clear o1_6
        have o2_6 := own_later O2_5.out s6; have O2_6 := Lib.hid o2_6; clear o2_6
        have o3_6 := own_later O3_5.out s6; have O3_6 := Lib.hid o3_6; clear o3_6
        have o4_6 := own_later OE.out s6; have O4_6 := Lib.hid o4_6; clear o4_6
        clear r6
        go_cut [15, 16] from 60 to 67 (fun s6 s7 wx => CutPc nm ps d w6 s6 s7 wx)
        case first =>
          go_region_held3 (fun w' => w'.cell? ⟨w1.heap.size, 0, none⟩ = some (.string nm) ∧ w'.cell? ⟨w1.heap.size, 1, none⟩ = some (.slice au ps.length cu) ∧ w'.cell? ⟨w2.heap.size, 0, none⟩ = some (.string nm) ∧ w'.cell? ⟨w2.heap.size, 1, none⟩ = some (.slice a2 ps.length c2)) (first | with_reducible exact ⟨c0_0_6, c0_1_6, c1_0_6, c1_1_6⟩ | with_reducible exact ⟨alloc_cell _ c0_0_6, alloc_cell _ c0_1_6, alloc_cell _ c1_0_6, alloc_cell _ c1_1_6⟩ | with_reducible exact ⟨below_cell s9 c0_0_6, below_cell s9 c0_1_6, below_cell s9 c1_0_6, below_cell s9 c1_1_6⟩ | with_reducible exact ⟨alloc_cell _ (below_cell s9 c0_0_6), alloc_cell _ (below_cell s9 c0_1_6), alloc_cell _ (below_cell s9 c1_0_6), alloc_cell _ (below_cell s9 c1_1_6)⟩ | with_reducible exact ⟨BX.keep (below_cell s9 c0_0_6) (World.block_lt_of_cell? _ _ c0_0_6) _ _, BX.keep (below_cell s9 c0_1_6) (World.block_lt_of_cell? _ _ c0_1_6) _ _, BX.keep (below_cell s9 c1_0_6) (World.block_lt_of_cell? _ _ c1_0_6) _ _, BX.keep (below_cell s9 c1_1_6) (World.block_lt_of_cell? _ _ c1_1_6) _ _⟩ | go_keep) (first | (go_at_call 77; (with_reducible refine (HBS.out s9v sl su' _ _ _ ((Rd.of_own O0_6.out).later (by go_grown)) ((Rd.of_own O1_6.out).later (by go_grown))).mono ?_); rintro _ w7 ⟨x9, rfl, n9, rd9⟩; obtain ⟨ax9, cx9, rfl⟩ := own_shape n9; have N9 := Lib.hid n9; clear n9; have s9 : Below w6.heap.size w6 w7 := Below.trans (by go_grown) (rd9.mono (by simp; try omega)); (first | (with_reducible have BX := BoxP.afterD (B := w6.heap.size) rd9 (Nat.le_refl _)) | (with_reducible have BX := BoxP.after (B := w6.heap.size) rd9 (Nat.le_refl _)) | skip); (first | (have bf9 := BX.f; have bc0 := BX.c0; have bc1 := BX.c1) | skip)) | (go_at_call 49; (with_reducible refine (HW2.out _ (by first | exact b6 | exact b6.drew | go_grown)).mono ?_); rintro _ _ ⟨s9v, rfl, sl, su, rfl⟩; have su' : s9v ≤ 1000 := (by omega); clear su))
          all_goals (go_wp2_with fail; go_meet; first | exact ⟨_, (rnd_share d0 sl su').1, (rnd_share d0 sl su').2, CutP.mk s9 N9.out (by simp)⟩ | exact ⟨_, (rnd_share d0 sl su').1, (rnd_share d0 sl su').2, CutP.set BX s9 N9.out (by simp) (by simp)⟩)
        case rest =>
        obtain ⟨c, hc0, hc1, bx, ah, ch, rfl, rfl, hbl, hbt, e0, e1, oh, s7⟩ := hcut
        generalize wc = w7 at *
        rw [thK_len] at e1 oh
        have OH := Lib.hid oh; clear oh
        have b7 := b6.trans (s7.mono z6)
        have z7 := b7.size
        have y7 := s7.size
        have c0_0_7 := below_cell s7 c0_0_6; clear c0_0_6
        have c0_1_7 := below_cell s7 c0_1_6; clear c0_1_6
        have c1_0_7 := below_cell s7 c1_0_6; clear c1_0_6
        have c1_1_7 := below_cell s7 c1_1_6; clear c1_1_6
        have c2_0_7 := below_cell s7 c2_0_6; clear c2_0_6
        have c2_1_7 := below_cell s7 c2_1_6; clear c2_1_6
        have c3_0_7 := below_cell s7 c3_0_6; clear c3_0_6
        have c3_1_7 := below_cell s7 c3_1_6; clear c3_1_6
        have c4_0_7 := below_cell s7 c4_0_6; clear c4_0_6
        have c4_1_7 := below_cell s7 c4_1_6; clear c4_1_6
        have o0_7 := own_later O0_6.out s7; have O0_7 := Lib.hid o0_7; clear o0_7
        have o1_7 := own_later O1_6.out s7; have O1_7 := Lib.hid o1_7; clear o1_7
        have o2_7 := own_later O2_6.out s7; have O2_7 := Lib.hid o2_7; clear o2_7
        have o3_7 := own_later O3_6.out s7; have O3_7 := Lib.hid o3_7; clear o3_7
        have o4_7 := own_later O4_6.out s7; have O4_7 := Lib.hid o4_7; clear o4_7
        clear HTH HTB HB0 HB1 HBS HW1 HW2
        go_wp2_with fail
        refine (HSS.out _ _ _ (Rd.of_own O2_7.out) (Rd.of_own O0_7.out)).mono ?_
        rintro _ w8 ⟨rfl, r8⟩
        have s8 := r8
        have b8 := b7.trans (s8.mono z7)
        have z8 := b8.size
        have y8 := s8.size
        have c0_0_8 := below_cell s8 c0_0_7; clear c0_0_7
        have c0_1_8 := below_cell s8 c0_1_7; clear c0_1_7
        have c1_0_8 := below_cell s8 c1_0_7; clear c1_0_7
        have c1_1_8 := below_cell s8 c1_1_7; clear c1_1_7
        have c2_0_8 := below_cell s8 c2_0_7; clear c2_0_7
        have c2_1_8 := below_cell s8 c2_1_7; clear c2_1_7
        have c3_0_8 := below_cell s8 c3_0_7; clear c3_0_7
        have c3_1_8 := below_cell s8 c3_1_7; clear c3_1_7
        have c4_0_8 := below_cell s8 c4_0_7; clear c4_0_7
        have c4_1_8 := below_cell s8 c4_1_7; clear c4_1_7
        have o0_8 := own_later O0_7.out s8; have O0_8 := Lib.hid o0_8; clear o0_8
        have o1_8 := own_later O1_7.out s8; have O1_8 := Lib.hid o1_8; clear o1_8
        have o2_8 := own_later O2_7.out s8; have O2_8 := Lib.hid o2_8; clear o2_8
        have o3_8 := own_later O3_7.out s8; have O3_8 := Lib.hid o3_8; clear o3_8
        have o4_8 := own_later O4_7.out s8; have O4_8 := Lib.hid o4_8; clear o4_8
        have o5_8 := own_later OH.out s8; have O5_8 := Lib.hid o5_8; clear o5_8
        clear r8
        have e0 := below_cell s8 e0
        have e1 := below_cell s8 e1
        go_wp2_with fail
        refine (HSS.out _ _ _ (Rd.of_own O3_8.out) (Rd.of_own O0_8.out)).mono ?_
        rintro _ w9 ⟨rfl, r9⟩
        have s9 := r9
        have b9 := b8.trans (s9.mono z8)
        have z9 := b9.size
        have y9 := s9.size
        have c0_0_9 := below_cell s9 c0_0_8; clear c0_0_8
        have c0_1_9 := below_cell s9 c0_1_8; clear c0_1_8
        have c1_0_9 := below_cell s9 c1_0_8; clear c1_0_8
        have c1_1_9 := below_cell s9 c1_1_8; clear c1_1_8
        have c2_0_9 := below_cell s9 c2_0_8; clear c2_0_8
        have c2_1_9 := below_cell s9 c2_1_8; clear c2_1_8
        have c3_0_9 := below_cell s9 c3_0_8; clear c3_0_8
        have c3_1_9 := below_cell s9 c3_1_8; clear c3_1_8
        have c4_0_9 := below_cell s9 c4_0_8; clear c4_0_8
        have c4_1_9 := below_cell s9 c4_1_8; clear c4_1_8
        have o0_9 := own_later O0_8.out s9; have O0_9 := Lib.hid o0_9; clear o0_9
        have o1_9 := own_later O1_8.out s9; have O1_9 := Lib.hid o1_9; clear o1_9
        have o2_9 := own_later O2_8.out s9; have O2_9 := Lib.hid o2_9; clear o2_9
        have o3_9 := own_later O3_8.out s9; have O3_9 := Lib.hid o3_9; clear o3_9
        have o4_9 := own_later O4_8.out s9; have O4_9 := Lib.hid o4_9; clear o4_9
        have o5_9 := own_later O5_8.out s9; have O5_9 := Lib.hid o5_9; clear o5_9
        clear r9
        have e0 := below_cell s9 e0
        have e1 := below_cell s9 e1
        go_wp2_with fail
        refine (HSQ.out _ _ _ (Rd.of_own O4_9.out) (Rd.of_own O1_9.out)).mono ?_
        rintro _ w10 ⟨rfl, r10⟩
        have s10 := r10
        have b10 := b9.trans (s10.mono z9)
        have z10 := b10.size
        have y10 := s10.size
        have c0_0_10 := below_cell s10 c0_0_9; clear c0_0_9
        have c0_1_10 := below_cell s10 c0_1_9; clear c0_1_9
        have c1_0_10 := below_cell s10 c1_0_9; clear c1_0_9
        have c1_1_10 := below_cell s10 c1_1_9; clear c1_1_9
        have c2_0_10 := below_cell s10 c2_0_9; clear c2_0_9
        have c2_1_10 := below_cell s10 c2_1_9; clear c2_1_9
        have c3_0_10 := below_cell s10 c3_0_9; clear c3_0_9
        have c3_1_10 := below_cell s10 c3_1_9; clear c3_1_9
        have c4_0_10 := below_cell s10 c4_0_9; clear c4_0_9
        have c4_1_10 := below_cell s10 c4_1_9; clear c4_1_9
        have o0_10 := own_later O0_9.out s10; have O0_10 := Lib.hid o0_10; clear o0_10
        have o1_10 := own_later O1_9.out s10; have O1_10 := Lib.hid o1_10; clear o1_10
        have o2_10 := own_later O2_9.out s10; have O2_10 := Lib.hid o2_10; clear o2_10
        have o3_10 := own_later O3_9.out s10; have O3_10 := Lib.hid o3_10; clear o3_10
        have o4_10 := own_later O4_9.out s10; have O4_10 := Lib.hid o4_10; clear o4_10
        have o5_10 := own_later O5_9.out s10; have O5_10 := Lib.hid o5_10; clear o5_10
        clear r10
        have e0 := below_cell s10 e0
        have e1 := below_cell s10 e1
        have rdp := Rd.of_own O0_10.out
        have rdq : Rd w10 (.slice a2 ps.length c2) ps.length (trips (thK d ps)) := by have := Rd.of_own O1_10.out; rwa [HQL.out] at this
        have rdh : Rd w10 (.slice ah ps.length ch) ps.length (trips (thK c ps)) := by have := Rd.of_own O5_10.out; rwa [thK_len] at this
        obtain ⟨_, aoP, capP, bP, offP, hvP, haoP, hcellP⟩ := rdp.open
        obtain ⟨_, aoQ, capQ, bQ, offQ, hvQ, haoQ, hcellQ⟩ := rdq.open
        obtain ⟨_, aoH, capH, bH, offH, hvH, haoH, hcellH⟩ := rdh.open
        cases hvP
        cases hvQ
        cases hvH
        obtain rfl : au = some ⟨bP, offP, none⟩ := haoP (by omega)
        obtain rfl : a2 = some ⟨bQ, offQ, none⟩ := haoQ (by omega)
        obtain rfl : ah = some ⟨bH, offH, none⟩ := haoH (by omega)
        have hrg : ∀ k, k < ps.length → rg (thK d ps) k = ((rg ps k).1 + d, (rg ps k).2.1, (rg ps k).2.2) ∧ rg (thK c ps) k = ((rg ps k).1 + c, (rg ps k).2.1, (rg ps k).2.2) := fun k hk => ⟨thK_rg d hk, thK_rg c hk⟩
        have hql2 : (thK c ps).length = ps.length := thK_len c ps
        have hpi := (profB_iff nm ps).1 hp
        have hrt : ∀ k, k < ps.length → 500 ≤ (rg ps k).1 ∧ (rg ps k).1 ≤ 150000 ∧ 0 ≤ (rg ps k).2.1 ∧ (rg ps k).2.1 ≤ 150000 := fun k hk => by
          have := ringT_t (hpi.2.2.2.1 k hk)
          omega
        have hgb : 0 ≤ gstK ps ps.length ∧ gstK ps ps.length ≤ 150000 := ⟨(gst_ge (rs := ps) ps.length).1, gst_le (by omega) _ (fun k q1 q2 => by have t1 := hrt k q2; have t2 := hrt (k - 1) (by omega); unfold gstep; apply abs_mk; omega)⟩
        have hsm := fun w' u (hr : Rd w' u ps.length (trips ps)) => implSmoothProfile_c nm u ps w' hnm hr
        have hsI : smoothI nm ps = doneR nm (mapK (smT ps) ps ps.length) := by simp [smoothI, hp]
        rw [hsI] at hsm
        have hg1 := fun w' u (hr : Rd w' u ps.length (trips ps)) => implGreatestStep_c nm u ps w' hnm hr
        rw [show gstI nm ps = (gstK ps ps.length, 0) by simp [gstI, hp]] at hg1
        have hst := smooth_step ps
        have hml : (mapK (smT ps) ps ps.length).length = ps.length := mapK_len _ _ _
        have HCP := Lib.hid hcellP; clear hcellP
        have HCQ := Lib.hid hcellQ; clear hcellQ
        have HCH := Lib.hid hcellH; clear hcellH
        have HRG := Lib.hid hrg; clear hrg
        have HRT := Lib.hid hrt; clear hrt
        have HQL2 := Lib.hid hql2; clear hql2
        have HML := Lib.hid hml; clear hml
        have HSM := Lib.hid hsm; clear hsm
        have HG1 := Lib.hid hg1; clear hg1
        clear rdp rdq rdh haoP haoQ haoH hpi hsI HSS HSQ
        go_wp2_with fail
        go_loopw [17] (fun i wr => ∃ (k : Nat), k ≤ ps.length ∧ i = .int .i64 k ∧ Below w10.heap.size w10 wr) (fun i _ => ps.length - (intOf i).toNat)
        case atStart => exact ⟨0, Nat.zero_le _, rfl, Below.refl _ _⟩
        case round =>
          obtain ⟨k, hk, rfl, hb⟩ := hrel
          have e0 := below_cell hb e0
          have e1 := below_cell hb e1
          have s11 := hb
          have b11 := b10.trans (s11.mono z10)
          have z11 := b11.size
          have y11 := s11.size
          have c0_0_11 := below_cell s11 c0_0_10; clear c0_0_10
          have c0_1_11 := below_cell s11 c0_1_10; clear c0_1_10
          have c1_0_11 := below_cell s11 c1_0_10; clear c1_0_10
          have c1_1_11 := below_cell s11 c1_1_10; clear c1_1_10
          have c2_0_11 := below_cell s11 c2_0_10; clear c2_0_10
          have c2_1_11 := below_cell s11 c2_1_10; clear c2_1_10
          have c3_0_11 := below_cell s11 c3_0_10; clear c3_0_10
          have c3_1_11 := below_cell s11 c3_1_10; clear c3_1_10
          have c4_0_11 := below_cell s11 c4_0_10; clear c4_0_10
          have c4_1_11 := below_cell s11 c4_1_10; clear c4_1_10
          have o0_11 := own_later O0_10.out s11; have O0_11 := Lib.hid o0_11; clear o0_11
          have o1_11 := own_later O1_10.out s11; have O1_11 := Lib.hid o1_11; clear o1_11
          have o2_11 := own_later O2_10.out s11; have O2_11 := Lib.hid o2_11; clear o2_11
          have o3_11 := own_later O3_10.out s11; have O3_11 := Lib.hid o3_11; clear o3_11
          have o4_11 := own_later O4_10.out s11; have O4_11 := Lib.hid o4_11; clear o4_11
          have o5_11 := own_later O5_10.out s11; have O5_11 := Lib.hid o5_11; clear o5_11
          by_cases hlt : k < ps.length
          · have hltd : decide (k < ps.length) = true := decide_eq_true hlt
            have hkq : k < (thK d ps).length := by rw [HQL.out]; exact hlt
            have hkh : k < (thK c ps).length := by rw [HQL2.out]; exact hlt
            have ixP := ix (P := Try.prog) (T := 26) (n := ps.length) (cap := cu) Try.underlying26 cells_Ring has_Ring (ao := some ⟨bP, offP, none⟩) (b := bP) (off := offP) (fun _ => rfl) (k := k) hlt _ rfl
            have ixQ := ix (P := Try.prog) (T := 26) (n := ps.length) (cap := c2) Try.underlying26 cells_Ring has_Ring (ao := some ⟨bQ, offQ, none⟩) (b := bQ) (off := offQ) (fun _ => rfl) (k := k) hlt _ rfl
            have ixH := ix (P := Try.prog) (T := 26) (n := ps.length) (cap := ch) Try.underlying26 cells_Ring has_Ring (ao := some ⟨bH, offH, none⟩) (b := bH) (off := offH) (fun _ => rfl) (k := k) hlt _ rfl
            have p0 : wr.cell? ⟨bP, offP + k * 3, none⟩ = some (.int .i64 (rg ps k).1) := by rw [rg_eq hlt]; exact HCP.out _ hb _ _ (by omega) (trips_at hlt).1
            have p1 : wr.cell? ⟨bP, offP + k * 3 + 1, none⟩ = some (.int .i64 (rg ps k).2.1) := by rw [rg_eq hlt]; exact HCP.out _ hb _ _ (by omega) (trips_at hlt).2.1
            have q0 : wr.cell? ⟨bQ, offQ + k * 3, none⟩ = some (.int .i64 (rg (thK d ps) k).1) := by rw [rg_eq hkq]; exact HCQ.out _ hb _ _ (by omega) (trips_at hkq).1
            have g0 : wr.cell? ⟨bH, offH + k * 3, none⟩ = some (.int .i64 (rg (thK c ps) k).1) := by rw [rg_eq hkh]; exact HCH.out _ hb _ _ (by omega) (trips_at hkh).1
            have g1 : wr.cell? ⟨bH, offH + k * 3 + 1, none⟩ = some (.int .i64 (rg (thK c ps) k).2.1) := by rw [rg_eq hkh]; exact HCH.out _ hb _ _ (by omega) (trips_at hkh).2.1
            rw [(HRG.out k hlt).1] at q0
            rw [(HRG.out k hlt).2] at g0 g1
            simp only at q0 g0 g1
            have hx0 : (rg ps k).1 ≤ (rg ps k).1 + c := by omega
            have hx1 : (rg ps k).1 + c ≤ (rg ps k).1 + d := by omega
            generalize (rg ps k).1 + c = y0 at *
            generalize (rg ps k).1 + d = y1 at *
            generalize (rg ps k).1 = x0 at *
            generalize (rg ps k).2.1 = x1 at *
            have t1 : decide (y0 < x0) = false := decide_eq_false (by omega)
            have t2 : decide (y1 < y0) = false := decide_eq_false (by omega)
            go_wp2_with fail
            go_quiet (fail)
            go_wp2
            go_roundw
            case rel => exact ⟨k + 1, by omega, by go_num, below_drewN hb _⟩
            case measure => simp [intOf]; omega
          · obtain rfl : k = ps.length := by omega
            have hltd : decide (ps.length < ps.length) = false := by simp
            cases hm : profB nm (mapK (smT ps) ps ps.length)
            · have hsm := HSM.out
              rw [doneR_f hm] at hsm
              have HSM2 := Lib.hid hsm; clear hsm
              go_wp2_with fail
              refine (HSM2.out _ _ (Rd.of_own O0_11.out)).mono ?_
              rintro _ w12 ⟨x12, rfl, n12, r12⟩
              have s12 := r12
              have b12 := b11.trans (s12.mono z11)
              have z12 := b12.size
              have y12 := s12.size
              have c0_0_12 := below_cell s12 c0_0_11; clear c0_0_11
              have c0_1_12 := below_cell s12 c0_1_11; clear c0_1_11
              have c1_0_12 := below_cell s12 c1_0_11; clear c1_0_11
              have c1_1_12 := below_cell s12 c1_1_11; clear c1_1_11
              have c2_0_12 := below_cell s12 c2_0_11; clear c2_0_11
              have c2_1_12 := below_cell s12 c2_1_11; clear c2_1_11
              have c3_0_12 := below_cell s12 c3_0_11; clear c3_0_11
              have c3_1_12 := below_cell s12 c3_1_11; clear c3_1_11
              have c4_0_12 := below_cell s12 c4_0_11; clear c4_0_11
              have c4_1_12 := below_cell s12 c4_1_11; clear c4_1_11
              have o0_12 := own_later O0_11.out s12; have O0_12 := Lib.hid o0_12; clear o0_12
              have o1_12 := own_later O1_11.out s12; have O1_12 := Lib.hid o1_12; clear o1_12
              have o2_12 := own_later O2_11.out s12; have O2_12 := Lib.hid o2_12; clear o2_12
              have o3_12 := own_later O3_11.out s12; have O3_12 := Lib.hid o3_12; clear o3_12
              have o4_12 := own_later O4_11.out s12; have O4_12 := Lib.hid o4_12; clear o4_12
              have o5_12 := own_later O5_11.out s12; have O5_12 := Lib.hid o5_12; clear o5_12
              clear r12
              obtain ⟨a12, c12, rfl⟩ := own_shape n12
              go_wp2
              go_returns
              exact RetB.mk rfl (by go_grown)
            · have hsm := HSM.out
              rw [doneR_t hm] at hsm
              have hg2 := fun w' u (hr : Rd w' u (mapK (smT ps) ps ps.length).length (trips (mapK (smT ps) ps ps.length))) => implGreatestStep_c nm u _ w' hnm hr
              rw [show gstI nm (mapK (smT ps) ps ps.length) = (gstK (mapK (smT ps) ps ps.length) ps.length, 0) by simp [gstI, hm, HML.out]] at hg2
              have HSM2 := Lib.hid hsm; clear hsm
              have HG2 := Lib.hid hg2; clear hg2
              go_wp2_with fail
              refine (HSM2.out _ _ (Rd.of_own O0_11.out)).mono ?_
              rintro _ w12 ⟨x12, rfl, n12, r12⟩
              have s12 := r12
              have b12 := b11.trans (s12.mono z11)
              have z12 := b12.size
              have y12 := s12.size
              have c0_0_12 := below_cell s12 c0_0_11; clear c0_0_11
              have c0_1_12 := below_cell s12 c0_1_11; clear c0_1_11
              have c1_0_12 := below_cell s12 c1_0_11; clear c1_0_11
              have c1_1_12 := below_cell s12 c1_1_11; clear c1_1_11
              have c2_0_12 := below_cell s12 c2_0_11; clear c2_0_11
              have c2_1_12 := below_cell s12 c2_1_11; clear c2_1_11
              have c3_0_12 := below_cell s12 c3_0_11; clear c3_0_11
              have c3_1_12 := below_cell s12 c3_1_11; clear c3_1_11
              have c4_0_12 := below_cell s12 c4_0_11; clear c4_0_11
              have c4_1_12 := below_cell s12 c4_1_11; clear c4_1_11
              have o0_12 := own_later O0_11.out s12; have O0_12 := Lib.hid o0_12; clear o0_12
              have o1_12 := own_later O1_11.out s12; have O1_12 := Lib.hid o1_12; clear o1_12
              have o2_12 := own_later O2_11.out s12; have O2_12 := Lib.hid o2_12; clear o2_12
              have o3_12 := own_later O3_11.out s12; have O3_12 := Lib.hid o3_12; clear o3_12
              have o4_12 := own_later O4_11.out s12; have O4_12 := Lib.hid o4_12; clear o4_12
              have o5_12 := own_later O5_11.out s12; have O5_12 := Lib.hid o5_12; clear o5_12
              clear r12
              obtain ⟨a12, c12, hv12⟩ := own_shape n12
              rw [HML.out] at hv12
              subst hv12
              have om := n12
              have OM := Lib.hid om; clear om
              clear n12
              have ac0_0 := fun o => alloc_cell o c0_0_12
              have ac0_1 := fun o => alloc_cell o c0_1_12
              have ac1_0 := fun o => alloc_cell o c1_0_12
              have ac1_1 := fun o => alloc_cell o c1_1_12
              have ac2_0 := fun o => alloc_cell o c2_0_12
              have ac2_1 := fun o => alloc_cell o c2_1_12
              have ac3_0 := fun o => alloc_cell o c3_0_12
              have ac3_1 := fun o => alloc_cell o c3_1_12
              have ac4_0 := fun o => alloc_cell o c4_0_12
              have ac4_1 := fun o => alloc_cell o c4_1_12
              generalize gstK (mapK (smT ps) ps ps.length) ps.length = G2 at *
              generalize gstK ps ps.length = G1 at *
              have hfin : decide (G2 ≤ G1 + 1) = true := decide_eq_true hst
              go_wp2_with fail
              refine (HG1.out _ _ ((Rd.of_own O0_12.out).later (by go_grown))).mono ?_
              rintro _ w13 ⟨rfl, r13⟩
              have s13 : Below w12.heap.size w12 w13 := Below.trans (by go_grown) (r13.mono (by simp; try omega))
              have b13 := b12.trans (s13.mono z12)
              have z13 := b13.size
              have y13 := s13.size
              have c0_0_13 := below_cell s13 c0_0_12; clear c0_0_12
              have c0_1_13 := below_cell s13 c0_1_12; clear c0_1_12
              have c1_0_13 := below_cell s13 c1_0_12; clear c1_0_12
              have c1_1_13 := below_cell s13 c1_1_12; clear c1_1_12
              have c2_0_13 := below_cell s13 c2_0_12; clear c2_0_12
              have c2_1_13 := below_cell s13 c2_1_12; clear c2_1_12
              have c3_0_13 := below_cell s13 c3_0_12; clear c3_0_12
              have c3_1_13 := below_cell s13 c3_1_12; clear c3_1_12
              have c4_0_13 := below_cell s13 c4_0_12; clear c4_0_12
              have c4_1_13 := below_cell s13 c4_1_12; clear c4_1_12
              have c5_0_13 := below_cell r13 (p := ⟨w12.heap.size, 0, none⟩) (v := .string nm) (by simp [go_sem])
              have c5_1_13 := below_cell r13 (p := ⟨w12.heap.size, 1, none⟩) (v := .slice a12 ps.length c12) (by simp [go_sem])
              have o0_13 := own_later O0_12.out s13; have O0_13 := Lib.hid o0_13; clear o0_13
              have o1_13 := own_later O1_12.out s13; have O1_13 := Lib.hid o1_13; clear o1_13
              have o2_13 := own_later O2_12.out s13; have O2_13 := Lib.hid o2_13; clear o2_13
              have o3_13 := own_later O3_12.out s13; have O3_13 := Lib.hid o3_13; clear o3_13
              have o4_13 := own_later O4_12.out s13; have O4_13 := Lib.hid o4_13; clear o4_13
              have o5_13 := own_later O5_12.out s13; have O5_13 := Lib.hid o5_13; clear o5_13
              have o6_13 := own_later OM.out s13; have O6_13 := Lib.hid o6_13; clear o6_13
              clear r13
              go_wp2_with fail
              refine (HG2.out _ _ (Rd.of_own O6_13.out)).mono ?_
              rintro _ w14 ⟨rfl, r14⟩
              have s14 := r14
              have b14 := b13.trans (s14.mono z13)
              have z14 := b14.size
              have y14 := s14.size
              have c0_0_14 := below_cell s14 c0_0_13; clear c0_0_13
              have c0_1_14 := below_cell s14 c0_1_13; clear c0_1_13
              have c1_0_14 := below_cell s14 c1_0_13; clear c1_0_13
              have c1_1_14 := below_cell s14 c1_1_13; clear c1_1_13
              have c2_0_14 := below_cell s14 c2_0_13; clear c2_0_13
              have c2_1_14 := below_cell s14 c2_1_13; clear c2_1_13
              have c3_0_14 := below_cell s14 c3_0_13; clear c3_0_13
              have c3_1_14 := below_cell s14 c3_1_13; clear c3_1_13
              have c4_0_14 := below_cell s14 c4_0_13; clear c4_0_13
              have c4_1_14 := below_cell s14 c4_1_13; clear c4_1_13
              have c5_0_14 := below_cell s14 c5_0_13; clear c5_0_13
              have c5_1_14 := below_cell s14 c5_1_13; clear c5_1_13
              have o0_14 := own_later O0_13.out s14; have O0_14 := Lib.hid o0_14; clear o0_14
              have o1_14 := own_later O1_13.out s14; have O1_14 := Lib.hid o1_14; clear o1_14
              have o2_14 := own_later O2_13.out s14; have O2_14 := Lib.hid o2_14; clear o2_14
              have o3_14 := own_later O3_13.out s14; have O3_14 := Lib.hid o3_14; clear o3_14
              have o4_14 := own_later O4_13.out s14; have O4_14 := Lib.hid o4_14; clear o4_14
              have o5_14 := own_later O5_13.out s14; have O5_14 := Lib.hid o5_14; clear o5_14
              have o6_14 := own_later O6_13.out s14; have O6_14 := Lib.hid o6_14; clear o6_14
              clear r14
              go_wp2
              go_returns
              exact RetB.mk rfl b14
    · have HLO := Lib.hid hlo; clear hlo
      obtain ⟨_, aoA, capA, _, _, rfl, _, _⟩ := h0.open
      obtain ⟨_, aoB, capB, _, _, rfl, _, _⟩ := h1.open
      clear h0 h1 hb0 hb1
      go_enter Try.func14, Try.ntmps14
      go_wp2_with fail
      refine HLO.out.mono ?_
      rintro _ _ ⟨rfl, rfl⟩
      go_wp2
      go_returns
      exact RetB.mk rfl (Below.refl _ _)
  · have hlo := r8Long_t v0 v1 z0s z1s w h0 h1 l0
    have HLO := Lib.hid hlo; clear hlo
    obtain ⟨_, aoA, capA, _, _, rfl, _, _⟩ := h0.open
    obtain ⟨_, aoB, capB, _, _, rfl, _, _⟩ := h1.open
    clear h0 h1 hb0 hb1
    go_enter Try.func14, Try.ntmps14
    go_wp2_with fail
    refine HLO.out.mono ?_
    rintro _ _ ⟨rfl, rfl⟩
    go_wp2
    go_returns
    exact RetB.mk rfl (Below.refl _ _)

end Go.Proofs.Ytmickkodcclocaa
