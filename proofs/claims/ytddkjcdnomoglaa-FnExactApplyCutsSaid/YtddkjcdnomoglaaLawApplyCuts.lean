/- The law of ApplyCuts, walked. -/
import Derived.Test.YtddkjcdnomoglaaLawBase
import Derived.Test.YtddkjcdnomoglaaApply2
namespace Go.Proofs.Ytddkjcdnomoglaa
set_option linter.unusedVariables false
open Go.RowKit Go.Proofs.Bell Go.BigFrame

set_option maxRecDepth 100000 in
set_option maxHeartbeats 3200000 in
theorem lawApplyCuts_h (w : World) (nm0 : ByteArray) (sv0 : Value) (rs0 : List (Int × Int × Int)) (hnm0 : nm0.size ≤ maxLen) (h0 : Rd w sv0 rs0.length (trips rs0)) (v1 : Value) (zs1 : List Int) (h1 : Rd w v1 zs1.length (ints zs1)) (v2 : Value) (ps2 : List (Int × Int)) (h2 : Rd w v2 ps2.length (pairs ps2)) (qn0 : ByteArray) (q0 : List (Int × Int × Int)) (hq0 : q0.length ≤ 1000000) (t1 : Int)
    (hs : ∀ w' u0 u1 u2, Rd w' u0 rs0.length (trips rs0) → Rd w' u1 zs1.length (ints zs1) → Rd w' u2 ps2.length (pairs ps2) → Calls Try.prog 48 #[.agg #[.string nm0, u0], u1, u2] w' (RetP2 qn0 q0 (.int .i64 t1) w'))
    (hi : ∀ w' u0 u1 u2, Rd w' u0 rs0.length (trips rs0) → Rd w' u1 zs1.length (ints zs1) → Rd w' u2 ps2.length (pairs ps2) → Calls Try.prog 49 #[.agg #[.string nm0, u0], u1, u2] w' (RetP2 qn0 q0 (.int .i64 t1) w')) :
    Calls Try.prog 12 #[.agg #[.string nm0, sv0], v1, v2] w (RetB (.bool true) w) := by
  have hnm0' := hnm0
  unfold maxLen at hnm0'
  obtain ⟨hn1, ao1, cap1, bb1, off1, rfl, hao1, hcell1⟩ := h1.open
  clear hn1 hao1 hcell1
  by_cases hl1 : (zs1.length : Int) ≤ 1048576
  · skip
    by_cases hl0 : ((nm0.size : Int) + rs0.length) ≤ 1048576
    · skip
      have hz0' := fun w' (hb : Below w.heap.size w w') => szProfile_c nm0 sv0 rs0.length (trips rs0) (1048576) w' hnm0 (h0.later hb) (by omega) (by omega)
      rw [leftP_pos (by omega)] at hz0'
      have HZ0 := Lib.hid hz0'; clear hz0'
      by_cases hl2 : (ps2.length : Int) ≤ 1048576 - (nm0.size : Int) - (rs0.length : Int)
      · skip
        have hz2' := fun w' (hb : Below w.heap.size w w') => szCutS_c v2 ps2.length (pairs ps2) (1048576 - (nm0.size : Int) - (rs0.length : Int)) w' (h2.later hb) (by omega) (by omega)
        rw [leftOf_pos (by omega)] at hz2'
        have HZ2 := Lib.hid hz2'; clear hz2'
        have ht0 := fun w' (hb : Below w.heap.size w w') => toProfile_c nm0 sv0 rs0 w' (h0.later hb) (by omega)
        have he0 := fun w' x y (h1 : Rd w' x rs0.length (trips rs0)) (h2 : Rd w' y rs0.length (trips rs0)) => eqProfile_c nm0 nm0 x y rs0 rs0 w' h1 h2
        rw [eqPr_refl] at he0
        clear h0
        have HE0 := Lib.hid he0; clear he0
        have HT0 := Lib.hid ht0; clear ht0
        have ht1 := fun w' (hb : Below w.heap.size w w') => toInt64S_c _ zs1 w' (h1.later hb) (by omega)
        have he1 := fun w' x y (h1 : Rd w' x zs1.length (ints zs1)) (h2 : Rd w' y zs1.length (ints zs1)) => (eqInt64S_c x y zs1 zs1 w' h1 h2).mono fun _ _ h => h.toB
        rw [eqZs_refl] at he1
        have HA1 := Lib.hid h1; clear h1
        have HE1 := Lib.hid he1; clear he1
        have HT1 := Lib.hid ht1; clear ht1
        have ht2 := fun w' (hb : Below w.heap.size w w') => toCutS_c v2 ps2 w' (h2.later hb) (by omega)
        have he2 := fun w' x y (h1 : Rd w' x ps2.length (pairs ps2)) (h2 : Rd w' y ps2.length (pairs ps2)) => eqCutS_c x y ps2 ps2 w' h1 h2
        rw [eqPs_refl] at he2
        have HA2 := Lib.hid h2; clear h2
        have HE2 := Lib.hid he2; clear he2
        have HT2 := Lib.hid ht2; clear ht2
        have heq := fun w' x y (h1 : Rd w' x q0.length (trips q0)) (h2 : Rd w' y q0.length (trips q0)) => eqProfile_c qn0 qn0 x y q0 q0 w' h1 h2
        rw [eqPr_refl] at heq
        have HEq := Lib.hid heq; clear heq
        have HS := Lib.hid hs; clear hs
        have HI := Lib.hid hi; clear hi
        go_enter Try.func12, Try.ntmps12
        have b0 : Below w.heap.size w w := Below.refl _ _
        have z0 : w.heap.size ≤ w.heap.size := Nat.le_refl _
        go_wp2_with fail
        refine (HZ0.out _ (by go_grown)).mono ?_
        rintro _ w1 ⟨rfl, r1⟩
        have s1 : Below w.heap.size w w1 := Below.trans (by go_grown) (r1.mono (by simp; try omega))
        have y1 := s1.size
        have v1 : w.heap.size + 1 ≤ w1.heap.size := by have := r1.size; simp only [World.size_alloc] at this; omega
        have b1 := b0.trans (s1.mono z0)
        have z1 := b1.size
        have c0_0_1 := below_cell r1 (p := ⟨w.heap.size, 0, none⟩) (v := .string nm0) (by simp [go_sem])
        have c0_1_1 := below_cell r1 (p := ⟨w.heap.size, 1, none⟩) (v := sv0) (by simp [go_sem])
        clear r1
        have al0_0_1 := fun o => alloc_cell o c0_0_1
        have al0_1_1 := fun o => alloc_cell o c0_1_1
        go_wp2_with fail
        refine (HZ2.out _ b1).mono ?_
        rintro _ _ ⟨rfl, rfl⟩
        go_wp2_with fail
        refine (HT0.out _ b1).mono ?_
        rintro _ w2 ⟨x1, rfl, n1, r2⟩
        have s2 := r2
        have y2 := s2.size
        have b2 := b1.trans (s2.mono z1)
        have z2 := b2.size
        have c0_0_2 := below_cell s2 c0_0_1
        clear c0_0_1
        have c0_1_2 := below_cell s2 c0_1_1
        clear c0_1_1
        clear al0_0_1
        clear al0_1_1
        have al0_0_2 := fun o => alloc_cell o c0_0_2
        have al0_1_2 := fun o => alloc_cell o c0_1_2
        obtain ⟨ao1, cap1, g1, rfl, _, _⟩ := own_open n1
        have up1 := fun k hk => (World.ownsRow.lt n1 k hk).2
        have lo1 := fun k hk => (World.ownsRow.lt n1 k hk).1
        try simp only [World.size_alloc] at lo1
        have UP1 := Lib.hid up1; clear up1
        have LO1 := Lib.hid lo1; clear lo1
        have o1' := n1
        have O1_2 := Lib.hid o1'; clear o1'
        clear n1
        go_wp2_with fail
        refine (HT1.out _ b2).mono ?_
        rintro _ w3 ⟨x2, rfl, n2, r3⟩
        have s3 := r3
        have y3 := s3.size
        have b3 := b2.trans (s3.mono z2)
        have z3 := b3.size
        have c0_0_3 := below_cell s3 c0_0_2
        clear c0_0_2
        have c0_1_3 := below_cell s3 c0_1_2
        clear c0_1_2
        have o1_3 := own_later O1_2.out s3
        have O1_3 := Lib.hid o1_3; clear o1_3
        clear al0_0_2
        clear al0_1_2
        have al0_0_3 := fun o => alloc_cell o c0_0_3
        have al0_1_3 := fun o => alloc_cell o c0_1_3
        obtain ⟨ao2, cap2, g2, rfl, _, _⟩ := own_open n2
        have up2 := fun k hk => (World.ownsRow.lt n2 k hk).2
        have lo2 := fun k hk => (World.ownsRow.lt n2 k hk).1
        try simp only [World.size_alloc] at lo2
        have UP2 := Lib.hid up2; clear up2
        have LO2 := Lib.hid lo2; clear lo2
        have o2' := n2
        have O2_3 := Lib.hid o2'; clear o2'
        clear n2
        go_wp2_with fail
        refine (HT2.out _ b3).mono ?_
        rintro _ w4 ⟨x3, rfl, n3, r4⟩
        have s4 := r4
        have y4 := s4.size
        have b4 := b3.trans (s4.mono z3)
        have z4 := b4.size
        have c0_0_4 := below_cell s4 c0_0_3
        clear c0_0_3
        have c0_1_4 := below_cell s4 c0_1_3
        clear c0_1_3
        have o1_4 := own_later O1_3.out s4
        have O1_4 := Lib.hid o1_4; clear o1_4
        have o2_4 := own_later O2_3.out s4
        have O2_4 := Lib.hid o2_4; clear o2_4
        clear al0_0_3
        clear al0_1_3
        have al0_0_4 := fun o => alloc_cell o c0_0_4
        have al0_1_4 := fun o => alloc_cell o c0_1_4
        obtain ⟨ao3, cap3, g3, rfl, _, _⟩ := own_open n3
        have up3 := fun k hk => (World.ownsRow.lt n3 k hk).2
        have lo3 := fun k hk => (World.ownsRow.lt n3 k hk).1
        try simp only [World.size_alloc] at lo3
        have UP3 := Lib.hid up3; clear up3
        have LO3 := Lib.hid lo3; clear lo3
        have o3' := n3
        have O3_4 := Lib.hid o3'; clear o3'
        clear n3
        go_wp2_with fail
        refine (HS.out _ _ _ _ (Rd.of_own O1_4.out) (Rd.of_own O2_4.out) (Rd.of_own O3_4.out)).mono ?_
        rintro _ w5 ⟨x4, rfl, n4, r5⟩
        have s5 := r5
        have y5 := s5.size
        have b5 := b4.trans (s5.mono z4)
        have z5 := b5.size
        have c0_0_5 := below_cell s5 c0_0_4
        clear c0_0_4
        have c0_1_5 := below_cell s5 c0_1_4
        clear c0_1_4
        have o1_5 := own_later O1_4.out s5
        have O1_5 := Lib.hid o1_5; clear o1_5
        have o2_5 := own_later O2_4.out s5
        have O2_5 := Lib.hid o2_5; clear o2_5
        have o3_5 := own_later O3_4.out s5
        have O3_5 := Lib.hid o3_5; clear o3_5
        clear al0_0_4
        clear al0_1_4
        have al0_0_5 := fun o => alloc_cell o c0_0_5
        have al0_1_5 := fun o => alloc_cell o c0_1_5
        obtain ⟨ao4, cap4, g4, rfl, _, _⟩ := own_open n4
        have up4 := fun k hk => (World.ownsRow.lt n4 k hk).2
        have lo4 := fun k hk => (World.ownsRow.lt n4 k hk).1
        try simp only [World.size_alloc] at lo4
        have UP4 := Lib.hid up4; clear up4
        have LO4 := Lib.hid lo4; clear lo4
        have o4' := n4
        have O4_5 := Lib.hid o4'; clear o4'
        clear n4
        go_wp2_with fail
        refine (HT0.out _ (by go_grown)).mono ?_
        rintro _ w6 ⟨x5, rfl, n5, r6⟩
        have s6 : Below w5.heap.size w5 w6 := Below.trans (by go_grown) (r6.mono (by simp; try omega))
        have y6 := s6.size
        have v6 : w5.heap.size + 1 ≤ w6.heap.size := by have := r6.size; simp only [World.size_alloc] at this; omega
        have b6 := b5.trans (s6.mono z5)
        have z6 := b6.size
        have c0_0_6 := below_cell s6 c0_0_5
        clear c0_0_5
        have c0_1_6 := below_cell s6 c0_1_5
        clear c0_1_5
        have c1_0_6 := below_cell r6 (p := ⟨w5.heap.size, 0, none⟩) (v := .string qn0) (by simp [go_sem])
        have c1_1_6 := below_cell r6 (p := ⟨w5.heap.size, 1, none⟩) (v := .slice ao4 q0.length cap4) (by simp [go_sem])
        have o1_6 := own_later O1_5.out s6
        have O1_6 := Lib.hid o1_6; clear o1_6
        have o2_6 := own_later O2_5.out s6
        have O2_6 := Lib.hid o2_6; clear o2_6
        have o3_6 := own_later O3_5.out s6
        have O3_6 := Lib.hid o3_6; clear o3_6
        have o4_6 := own_later O4_5.out s6
        have O4_6 := Lib.hid o4_6; clear o4_6
        clear r6
        clear al0_0_5
        clear al0_1_5
        have al0_0_6 := fun o => alloc_cell o c0_0_6
        have al0_1_6 := fun o => alloc_cell o c0_1_6
        have al1_0_6 := fun o => alloc_cell o c1_0_6
        have al1_1_6 := fun o => alloc_cell o c1_1_6
        obtain ⟨ao5, cap5, g5, rfl, _, _⟩ := own_open n5
        have up5 := fun k hk => (World.ownsRow.lt n5 k hk).2
        have lo5 := fun k hk => (World.ownsRow.lt n5 k hk).1
        try simp only [World.size_alloc] at lo5
        have UP5 := Lib.hid up5; clear up5
        have LO5 := Lib.hid lo5; clear lo5
        have o5' := n5
        have O5_6 := Lib.hid o5'; clear o5'
        clear n5
        go_wp2_with fail
        refine (HT1.out _ (by go_grown)).mono ?_
        rintro _ w7 ⟨x6, rfl, n6, r7⟩
        have s7 : Below w6.heap.size w6 w7 := Below.trans (by go_grown) (r7.mono (by simp; try omega))
        have y7 := s7.size
        have v7 : w6.heap.size + 1 ≤ w7.heap.size := by have := r7.size; simp only [World.size_alloc] at this; omega
        have b7 := b6.trans (s7.mono z6)
        have z7 := b7.size
        have c0_0_7 := below_cell s7 c0_0_6
        clear c0_0_6
        have c0_1_7 := below_cell s7 c0_1_6
        clear c0_1_6
        have c1_0_7 := below_cell s7 c1_0_6
        clear c1_0_6
        have c1_1_7 := below_cell s7 c1_1_6
        clear c1_1_6
        have c2_0_7 := below_cell r7 (p := ⟨w6.heap.size, 0, none⟩) (v := .string nm0) (by simp [go_sem])
        have c2_1_7 := below_cell r7 (p := ⟨w6.heap.size, 1, none⟩) (v := .slice ao5 rs0.length cap5) (by simp [go_sem])
        have o1_7 := own_later O1_6.out s7
        have O1_7 := Lib.hid o1_7; clear o1_7
        have o2_7 := own_later O2_6.out s7
        have O2_7 := Lib.hid o2_7; clear o2_7
        have o3_7 := own_later O3_6.out s7
        have O3_7 := Lib.hid o3_7; clear o3_7
        have o4_7 := own_later O4_6.out s7
        have O4_7 := Lib.hid o4_7; clear o4_7
        have o5_7 := own_later O5_6.out s7
        have O5_7 := Lib.hid o5_7; clear o5_7
        clear r7
        clear al0_0_6
        clear al0_1_6
        clear al1_0_6
        clear al1_1_6
        have al0_0_7 := fun o => alloc_cell o c0_0_7
        have al0_1_7 := fun o => alloc_cell o c0_1_7
        have al1_0_7 := fun o => alloc_cell o c1_0_7
        have al1_1_7 := fun o => alloc_cell o c1_1_7
        have al2_0_7 := fun o => alloc_cell o c2_0_7
        have al2_1_7 := fun o => alloc_cell o c2_1_7
        obtain ⟨ao6, cap6, g6, rfl, _, _⟩ := own_open n6
        have up6 := fun k hk => (World.ownsRow.lt n6 k hk).2
        have lo6 := fun k hk => (World.ownsRow.lt n6 k hk).1
        try simp only [World.size_alloc] at lo6
        have UP6 := Lib.hid up6; clear up6
        have LO6 := Lib.hid lo6; clear lo6
        have o6' := n6
        have O6_7 := Lib.hid o6'; clear o6'
        clear n6
        go_wp2_with fail
        refine (HT2.out _ b7).mono ?_
        rintro _ w8 ⟨x7, rfl, n7, r8⟩
        have s8 := r8
        have y8 := s8.size
        have b8 := b7.trans (s8.mono z7)
        have z8 := b8.size
        have c0_0_8 := below_cell s8 c0_0_7
        clear c0_0_7
        have c0_1_8 := below_cell s8 c0_1_7
        clear c0_1_7
        have c1_0_8 := below_cell s8 c1_0_7
        clear c1_0_7
        have c1_1_8 := below_cell s8 c1_1_7
        clear c1_1_7
        have c2_0_8 := below_cell s8 c2_0_7
        clear c2_0_7
        have c2_1_8 := below_cell s8 c2_1_7
        clear c2_1_7
        have o1_8 := own_later O1_7.out s8
        have O1_8 := Lib.hid o1_8; clear o1_8
        have o2_8 := own_later O2_7.out s8
        have O2_8 := Lib.hid o2_8; clear o2_8
        have o3_8 := own_later O3_7.out s8
        have O3_8 := Lib.hid o3_8; clear o3_8
        have o4_8 := own_later O4_7.out s8
        have O4_8 := Lib.hid o4_8; clear o4_8
        have o5_8 := own_later O5_7.out s8
        have O5_8 := Lib.hid o5_8; clear o5_8
        have o6_8 := own_later O6_7.out s8
        have O6_8 := Lib.hid o6_8; clear o6_8
        clear al0_0_7
        clear al0_1_7
        clear al1_0_7
        clear al1_1_7
        clear al2_0_7
        clear al2_1_7
        have al0_0_8 := fun o => alloc_cell o c0_0_8
        have al0_1_8 := fun o => alloc_cell o c0_1_8
        have al1_0_8 := fun o => alloc_cell o c1_0_8
        have al1_1_8 := fun o => alloc_cell o c1_1_8
        have al2_0_8 := fun o => alloc_cell o c2_0_8
        have al2_1_8 := fun o => alloc_cell o c2_1_8
        obtain ⟨ao7, cap7, g7, rfl, _, _⟩ := own_open n7
        have up7 := fun k hk => (World.ownsRow.lt n7 k hk).2
        have lo7 := fun k hk => (World.ownsRow.lt n7 k hk).1
        try simp only [World.size_alloc] at lo7
        have UP7 := Lib.hid up7; clear up7
        have LO7 := Lib.hid lo7; clear lo7
        have o7' := n7
        have O7_8 := Lib.hid o7'; clear o7'
        clear n7
        go_wp2_with fail
        refine (HI.out _ _ _ _ (Rd.of_own O5_8.out) (Rd.of_own O6_8.out) (Rd.of_own O7_8.out)).mono ?_
        rintro _ w9 ⟨x8, rfl, n8, r9⟩
        have s9 := r9
        have y9 := s9.size
        have b9 := b8.trans (s9.mono z8)
        have z9 := b9.size
        have c0_0_9 := below_cell s9 c0_0_8
        clear c0_0_8
        have c0_1_9 := below_cell s9 c0_1_8
        clear c0_1_8
        have c1_0_9 := below_cell s9 c1_0_8
        clear c1_0_8
        have c1_1_9 := below_cell s9 c1_1_8
        clear c1_1_8
        have c2_0_9 := below_cell s9 c2_0_8
        clear c2_0_8
        have c2_1_9 := below_cell s9 c2_1_8
        clear c2_1_8
        have o1_9 := own_later O1_8.out s9
        have O1_9 := Lib.hid o1_9; clear o1_9
        have o2_9 := own_later O2_8.out s9
        have O2_9 := Lib.hid o2_9; clear o2_9
        have o3_9 := own_later O3_8.out s9
        have O3_9 := Lib.hid o3_9; clear o3_9
        have o4_9 := own_later O4_8.out s9
        have O4_9 := Lib.hid o4_9; clear o4_9
        have o5_9 := own_later O5_8.out s9
        have O5_9 := Lib.hid o5_9; clear o5_9
        have o6_9 := own_later O6_8.out s9
        have O6_9 := Lib.hid o6_9; clear o6_9
        have o7_9 := own_later O7_8.out s9
        have O7_9 := Lib.hid o7_9; clear o7_9
        clear al0_0_8
        clear al0_1_8
        clear al1_0_8
        clear al1_1_8
        clear al2_0_8
        clear al2_1_8
        have al0_0_9 := fun o => alloc_cell o c0_0_9
        have al0_1_9 := fun o => alloc_cell o c0_1_9
        have al1_0_9 := fun o => alloc_cell o c1_0_9
        have al1_1_9 := fun o => alloc_cell o c1_1_9
        have al2_0_9 := fun o => alloc_cell o c2_0_9
        have al2_1_9 := fun o => alloc_cell o c2_1_9
        obtain ⟨ao8, cap8, g8, rfl, _, _⟩ := own_open n8
        have up8 := fun k hk => (World.ownsRow.lt n8 k hk).2
        have lo8 := fun k hk => (World.ownsRow.lt n8 k hk).1
        try simp only [World.size_alloc] at lo8
        have UP8 := Lib.hid up8; clear up8
        have LO8 := Lib.hid lo8; clear lo8
        have o8' := n8
        have O8_9 := Lib.hid o8'; clear o8'
        clear n8
        go_wp2_with fail
        refine (HEq.out _ _ _ ((Rd.of_own O8_9.out).later (by go_grown)) ((Rd.of_own O4_9.out).later (by go_grown))).mono ?_
        rintro _ w10 ⟨rfl, r10⟩
        have s10 : Below w9.heap.size w9 w10 := Below.trans (by go_grown) (r10.mono (by simp; try omega))
        have y10 := s10.size
        have v10 : w9.heap.size + 1 ≤ w10.heap.size := by have := r10.size; simp only [World.size_alloc] at this; omega
        have b10 := b9.trans (s10.mono z9)
        have z10 := b10.size
        have c0_0_10 := below_cell s10 c0_0_9
        clear c0_0_9
        have c0_1_10 := below_cell s10 c0_1_9
        clear c0_1_9
        have c1_0_10 := below_cell s10 c1_0_9
        clear c1_0_9
        have c1_1_10 := below_cell s10 c1_1_9
        clear c1_1_9
        have c2_0_10 := below_cell s10 c2_0_9
        clear c2_0_9
        have c2_1_10 := below_cell s10 c2_1_9
        clear c2_1_9
        have c3_0_10 := below_cell r10 (p := ⟨w9.heap.size, 0, none⟩) (v := .string qn0) (by simp [go_sem])
        have c3_1_10 := below_cell r10 (p := ⟨w9.heap.size, 1, none⟩) (v := .slice ao8 q0.length cap8) (by simp [go_sem])
        have o1_10 := own_later O1_9.out s10
        have O1_10 := Lib.hid o1_10; clear o1_10
        have o2_10 := own_later O2_9.out s10
        have O2_10 := Lib.hid o2_10; clear o2_10
        have o3_10 := own_later O3_9.out s10
        have O3_10 := Lib.hid o3_10; clear o3_10
        have o4_10 := own_later O4_9.out s10
        have O4_10 := Lib.hid o4_10; clear o4_10
        have o5_10 := own_later O5_9.out s10
        have O5_10 := Lib.hid o5_10; clear o5_10
        have o6_10 := own_later O6_9.out s10
        have O6_10 := Lib.hid o6_10; clear o6_10
        have o7_10 := own_later O7_9.out s10
        have O7_10 := Lib.hid o7_10; clear o7_10
        have o8_10 := own_later O8_9.out s10
        have O8_10 := Lib.hid o8_10; clear o8_10
        clear r10
        clear al0_0_9
        clear al0_1_9
        clear al1_0_9
        clear al1_1_9
        clear al2_0_9
        clear al2_1_9
        have al0_0_10 := fun o => alloc_cell o c0_0_10
        have al0_1_10 := fun o => alloc_cell o c0_1_10
        have al1_0_10 := fun o => alloc_cell o c1_0_10
        have al1_1_10 := fun o => alloc_cell o c1_1_10
        have al2_0_10 := fun o => alloc_cell o c2_0_10
        have al2_1_10 := fun o => alloc_cell o c2_1_10
        have al3_0_10 := fun o => alloc_cell o c3_0_10
        have al3_1_10 := fun o => alloc_cell o c3_1_10
        go_wp2_with fail
        have ht5 : ∀ w', Below w10.heap.size w10 w' → Calls Try.prog 17 #[.agg #[.string nm0, sv0]] w' (fun e w'' => ∃ u, e = .returned (.agg #[.string nm0, u]) ∧ (OwnR w'.heap.size w'' u rs0 ∧ Below w10.heap.size w10 w'')) := fun w' hb => (HT0.out w' (b10.trans (hb.mono z10))).mono fun _ _ ⟨v, e, o, b⟩ => ⟨v, e, o, hb.trans (b.mono hb.size)⟩
        have he5 : ∀ B w' u, OwnR B w' u rs0 ∧ Below w10.heap.size w10 w' → Calls Try.prog 20 #[.agg #[.string nm0, .slice ao5 rs0.length cap5], .agg #[.string nm0, u]] w' (fun e w'' => e = .returned (.bool true) ∧ Below w10.heap.size w10 w'') := fun B w' v ⟨o, hb⟩ => (HE0.out w' _ _ (Rd.of_own (own_later O5_10.out hb)) (Rd.of_own o)).mono fun _ _ ⟨e, b⟩ => ⟨e, hb.trans (b.mono hb.size)⟩
        have HT5 := Lib.hid ht5; clear ht5
        have HE5 := Lib.hid he5; clear he5
        go_region_held3 (fun w' => w'.cell? ⟨w.heap.size, 0, none⟩ = some (.string nm0) ∧ w'.cell? ⟨w.heap.size, 1, none⟩ = some (sv0) ∧ w'.cell? ⟨w6.heap.size, 0, none⟩ = some (.string nm0) ∧ w'.cell? ⟨w6.heap.size, 1, none⟩ = some (.slice ao5 rs0.length cap5)) (first | exact ⟨c0_0_10, c0_1_10, c2_0_10, c2_1_10⟩ | exact ⟨below_cell O6.out.2 c0_0_10, below_cell O6.out.2 c0_1_10, below_cell O6.out.2 c2_0_10, below_cell O6.out.2 c2_1_10⟩ | exact ⟨below_cell s11 c0_0_10, below_cell s11 c0_1_10, below_cell s11 c2_0_10, below_cell s11 c2_1_10⟩ | go_keep) (first | (go_at_call 17; refine (HT5.out _ (by go_grown)).mono ?_; rintro _ ww6 ⟨vv6, rfl, o6⟩; have O6 := Lib.hid o6; clear o6) | (go_at_call 20; refine (HE5.out _ _ _ (by assumption)).mono ?_; rintro _ w11 ⟨rfl, s11⟩))
        clear HT5 HE5
        have y11 := s11.size
        have b11 := b10.trans (s11.mono z10)
        have z11 := b11.size
        have c0_0_11 := below_cell s11 c0_0_10
        clear c0_0_10
        have c0_1_11 := below_cell s11 c0_1_10
        clear c0_1_10
        have c1_0_11 := below_cell s11 c1_0_10
        clear c1_0_10
        have c1_1_11 := below_cell s11 c1_1_10
        clear c1_1_10
        have c2_0_11 := below_cell s11 c2_0_10
        clear c2_0_10
        have c2_1_11 := below_cell s11 c2_1_10
        clear c2_1_10
        have c3_0_11 := below_cell s11 c3_0_10
        clear c3_0_10
        have c3_1_11 := below_cell s11 c3_1_10
        clear c3_1_10
        have o1_11 := own_later O1_10.out s11
        have O1_11 := Lib.hid o1_11; clear o1_11
        have o2_11 := own_later O2_10.out s11
        have O2_11 := Lib.hid o2_11; clear o2_11
        have o3_11 := own_later O3_10.out s11
        have O3_11 := Lib.hid o3_11; clear o3_11
        have o4_11 := own_later O4_10.out s11
        have O4_11 := Lib.hid o4_11; clear o4_11
        have o5_11 := own_later O5_10.out s11
        have O5_11 := Lib.hid o5_11; clear o5_11
        have o6_11 := own_later O6_10.out s11
        have O6_11 := Lib.hid o6_11; clear o6_11
        have o7_11 := own_later O7_10.out s11
        have O7_11 := Lib.hid o7_11; clear o7_11
        have o8_11 := own_later O8_10.out s11
        have O8_11 := Lib.hid o8_11; clear o8_11
        clear al0_0_10
        clear al0_1_10
        clear al1_0_10
        clear al1_1_10
        clear al2_0_10
        clear al2_1_10
        clear al3_0_10
        clear al3_1_10
        have al0_0_11 := fun o => alloc_cell o c0_0_11
        have al0_1_11 := fun o => alloc_cell o c0_1_11
        have al1_0_11 := fun o => alloc_cell o c1_0_11
        have al1_1_11 := fun o => alloc_cell o c1_1_11
        have al2_0_11 := fun o => alloc_cell o c2_0_11
        have al2_1_11 := fun o => alloc_cell o c2_1_11
        have al3_0_11 := fun o => alloc_cell o c3_0_11
        have al3_1_11 := fun o => alloc_cell o c3_1_11
        go_wp2_with fail
        refine (HT1.out _ b11).mono ?_
        rintro _ w12 ⟨x9, rfl, n9, r12⟩
        have s12 := r12
        have y12 := s12.size
        have b12 := b11.trans (s12.mono z11)
        have z12 := b12.size
        have c0_0_12 := below_cell s12 c0_0_11
        clear c0_0_11
        have c0_1_12 := below_cell s12 c0_1_11
        clear c0_1_11
        have c1_0_12 := below_cell s12 c1_0_11
        clear c1_0_11
        have c1_1_12 := below_cell s12 c1_1_11
        clear c1_1_11
        have c2_0_12 := below_cell s12 c2_0_11
        clear c2_0_11
        have c2_1_12 := below_cell s12 c2_1_11
        clear c2_1_11
        have c3_0_12 := below_cell s12 c3_0_11
        clear c3_0_11
        have c3_1_12 := below_cell s12 c3_1_11
        clear c3_1_11
        have o1_12 := own_later O1_11.out s12
        have O1_12 := Lib.hid o1_12; clear o1_12
        have o2_12 := own_later O2_11.out s12
        have O2_12 := Lib.hid o2_12; clear o2_12
        have o3_12 := own_later O3_11.out s12
        have O3_12 := Lib.hid o3_12; clear o3_12
        have o4_12 := own_later O4_11.out s12
        have O4_12 := Lib.hid o4_12; clear o4_12
        have o5_12 := own_later O5_11.out s12
        have O5_12 := Lib.hid o5_12; clear o5_12
        have o6_12 := own_later O6_11.out s12
        have O6_12 := Lib.hid o6_12; clear o6_12
        have o7_12 := own_later O7_11.out s12
        have O7_12 := Lib.hid o7_12; clear o7_12
        have o8_12 := own_later O8_11.out s12
        have O8_12 := Lib.hid o8_12; clear o8_12
        clear al0_0_11
        clear al0_1_11
        clear al1_0_11
        clear al1_1_11
        clear al2_0_11
        clear al2_1_11
        clear al3_0_11
        clear al3_1_11
        have al0_0_12 := fun o => alloc_cell o c0_0_12
        have al0_1_12 := fun o => alloc_cell o c0_1_12
        have al1_0_12 := fun o => alloc_cell o c1_0_12
        have al1_1_12 := fun o => alloc_cell o c1_1_12
        have al2_0_12 := fun o => alloc_cell o c2_0_12
        have al2_1_12 := fun o => alloc_cell o c2_1_12
        have al3_0_12 := fun o => alloc_cell o c3_0_12
        have al3_1_12 := fun o => alloc_cell o c3_1_12
        obtain ⟨ao9, cap9, g9, rfl, _, _⟩ := own_open n9
        have up9 := fun k hk => (World.ownsRow.lt n9 k hk).2
        have lo9 := fun k hk => (World.ownsRow.lt n9 k hk).1
        try simp only [World.size_alloc] at lo9
        have UP9 := Lib.hid up9; clear up9
        have LO9 := Lib.hid lo9; clear lo9
        have o9' := n9
        have O9_12 := Lib.hid o9'; clear o9'
        clear n9
        go_wp2_with fail
        refine (HE1.out _ _ _ (Rd.of_own O6_12.out) (Rd.of_own O9_12.out)).mono ?_
        rintro _ w13 ⟨rfl, r13⟩
        have s13 := r13
        have y13 := s13.size
        have b13 := b12.trans (s13.mono z12)
        have z13 := b13.size
        have c0_0_13 := below_cell s13 c0_0_12
        clear c0_0_12
        have c0_1_13 := below_cell s13 c0_1_12
        clear c0_1_12
        have c1_0_13 := below_cell s13 c1_0_12
        clear c1_0_12
        have c1_1_13 := below_cell s13 c1_1_12
        clear c1_1_12
        have c2_0_13 := below_cell s13 c2_0_12
        clear c2_0_12
        have c2_1_13 := below_cell s13 c2_1_12
        clear c2_1_12
        have c3_0_13 := below_cell s13 c3_0_12
        clear c3_0_12
        have c3_1_13 := below_cell s13 c3_1_12
        clear c3_1_12
        have o1_13 := own_later O1_12.out s13
        have O1_13 := Lib.hid o1_13; clear o1_13
        have o2_13 := own_later O2_12.out s13
        have O2_13 := Lib.hid o2_13; clear o2_13
        have o3_13 := own_later O3_12.out s13
        have O3_13 := Lib.hid o3_13; clear o3_13
        have o4_13 := own_later O4_12.out s13
        have O4_13 := Lib.hid o4_13; clear o4_13
        have o5_13 := own_later O5_12.out s13
        have O5_13 := Lib.hid o5_13; clear o5_13
        have o6_13 := own_later O6_12.out s13
        have O6_13 := Lib.hid o6_13; clear o6_13
        have o7_13 := own_later O7_12.out s13
        have O7_13 := Lib.hid o7_13; clear o7_13
        have o8_13 := own_later O8_12.out s13
        have O8_13 := Lib.hid o8_13; clear o8_13
        have o9_13 := own_later O9_12.out s13
        have O9_13 := Lib.hid o9_13; clear o9_13
        clear al0_0_12
        clear al0_1_12
        clear al1_0_12
        clear al1_1_12
        clear al2_0_12
        clear al2_1_12
        clear al3_0_12
        clear al3_1_12
        have al0_0_13 := fun o => alloc_cell o c0_0_13
        have al0_1_13 := fun o => alloc_cell o c0_1_13
        have al1_0_13 := fun o => alloc_cell o c1_0_13
        have al1_1_13 := fun o => alloc_cell o c1_1_13
        have al2_0_13 := fun o => alloc_cell o c2_0_13
        have al2_1_13 := fun o => alloc_cell o c2_1_13
        have al3_0_13 := fun o => alloc_cell o c3_0_13
        have al3_1_13 := fun o => alloc_cell o c3_1_13
        go_wp2_with fail
        refine (HT2.out _ b13).mono ?_
        rintro _ w14 ⟨x10, rfl, n10, r14⟩
        have s14 := r14
        have y14 := s14.size
        have b14 := b13.trans (s14.mono z13)
        have z14 := b14.size
        have c0_0_14 := below_cell s14 c0_0_13
        clear c0_0_13
        have c0_1_14 := below_cell s14 c0_1_13
        clear c0_1_13
        have c1_0_14 := below_cell s14 c1_0_13
        clear c1_0_13
        have c1_1_14 := below_cell s14 c1_1_13
        clear c1_1_13
        have c2_0_14 := below_cell s14 c2_0_13
        clear c2_0_13
        have c2_1_14 := below_cell s14 c2_1_13
        clear c2_1_13
        have c3_0_14 := below_cell s14 c3_0_13
        clear c3_0_13
        have c3_1_14 := below_cell s14 c3_1_13
        clear c3_1_13
        have o1_14 := own_later O1_13.out s14
        have O1_14 := Lib.hid o1_14; clear o1_14
        have o2_14 := own_later O2_13.out s14
        have O2_14 := Lib.hid o2_14; clear o2_14
        have o3_14 := own_later O3_13.out s14
        have O3_14 := Lib.hid o3_14; clear o3_14
        have o4_14 := own_later O4_13.out s14
        have O4_14 := Lib.hid o4_14; clear o4_14
        have o5_14 := own_later O5_13.out s14
        have O5_14 := Lib.hid o5_14; clear o5_14
        have o6_14 := own_later O6_13.out s14
        have O6_14 := Lib.hid o6_14; clear o6_14
        have o7_14 := own_later O7_13.out s14
        have O7_14 := Lib.hid o7_14; clear o7_14
        have o8_14 := own_later O8_13.out s14
        have O8_14 := Lib.hid o8_14; clear o8_14
        have o9_14 := own_later O9_13.out s14
        have O9_14 := Lib.hid o9_14; clear o9_14
        clear al0_0_13
        clear al0_1_13
        clear al1_0_13
        clear al1_1_13
        clear al2_0_13
        clear al2_1_13
        clear al3_0_13
        clear al3_1_13
        have al0_0_14 := fun o => alloc_cell o c0_0_14
        have al0_1_14 := fun o => alloc_cell o c0_1_14
        have al1_0_14 := fun o => alloc_cell o c1_0_14
        have al1_1_14 := fun o => alloc_cell o c1_1_14
        have al2_0_14 := fun o => alloc_cell o c2_0_14
        have al2_1_14 := fun o => alloc_cell o c2_1_14
        have al3_0_14 := fun o => alloc_cell o c3_0_14
        have al3_1_14 := fun o => alloc_cell o c3_1_14
        obtain ⟨ao10, cap10, g10, rfl, _, _⟩ := own_open n10
        have up10 := fun k hk => (World.ownsRow.lt n10 k hk).2
        have lo10 := fun k hk => (World.ownsRow.lt n10 k hk).1
        try simp only [World.size_alloc] at lo10
        have UP10 := Lib.hid up10; clear up10
        have LO10 := Lib.hid lo10; clear lo10
        have o10' := n10
        have O10_14 := Lib.hid o10'; clear o10'
        clear n10
        go_wp2_with fail
        refine (HE2.out _ _ _ (Rd.of_own O7_14.out) (Rd.of_own O10_14.out)).mono ?_
        rintro _ w15 ⟨rfl, r15⟩
        have s15 := r15
        have y15 := s15.size
        have b15 := b14.trans (s15.mono z14)
        have z15 := b15.size
        have c0_0_15 := below_cell s15 c0_0_14
        clear c0_0_14
        have c0_1_15 := below_cell s15 c0_1_14
        clear c0_1_14
        have c1_0_15 := below_cell s15 c1_0_14
        clear c1_0_14
        have c1_1_15 := below_cell s15 c1_1_14
        clear c1_1_14
        have c2_0_15 := below_cell s15 c2_0_14
        clear c2_0_14
        have c2_1_15 := below_cell s15 c2_1_14
        clear c2_1_14
        have c3_0_15 := below_cell s15 c3_0_14
        clear c3_0_14
        have c3_1_15 := below_cell s15 c3_1_14
        clear c3_1_14
        have o1_15 := own_later O1_14.out s15
        have O1_15 := Lib.hid o1_15; clear o1_15
        have o2_15 := own_later O2_14.out s15
        have O2_15 := Lib.hid o2_15; clear o2_15
        have o3_15 := own_later O3_14.out s15
        have O3_15 := Lib.hid o3_15; clear o3_15
        have o4_15 := own_later O4_14.out s15
        have O4_15 := Lib.hid o4_15; clear o4_15
        have o5_15 := own_later O5_14.out s15
        have O5_15 := Lib.hid o5_15; clear o5_15
        have o6_15 := own_later O6_14.out s15
        have O6_15 := Lib.hid o6_15; clear o6_15
        have o7_15 := own_later O7_14.out s15
        have O7_15 := Lib.hid o7_15; clear o7_15
        have o8_15 := own_later O8_14.out s15
        have O8_15 := Lib.hid o8_15; clear o8_15
        have o9_15 := own_later O9_14.out s15
        have O9_15 := Lib.hid o9_15; clear o9_15
        have o10_15 := own_later O10_14.out s15
        have O10_15 := Lib.hid o10_15; clear o10_15
        clear al0_0_14
        clear al0_1_14
        clear al1_0_14
        clear al1_1_14
        clear al2_0_14
        clear al2_1_14
        clear al3_0_14
        clear al3_1_14
        have al0_0_15 := fun o => alloc_cell o c0_0_15
        have al0_1_15 := fun o => alloc_cell o c0_1_15
        have al1_0_15 := fun o => alloc_cell o c1_0_15
        have al1_1_15 := fun o => alloc_cell o c1_1_15
        have al2_0_15 := fun o => alloc_cell o c2_0_15
        have al2_1_15 := fun o => alloc_cell o c2_1_15
        have al3_0_15 := fun o => alloc_cell o c3_0_15
        have al3_1_15 := fun o => alloc_cell o c3_1_15
        go_wp2_with fail
        refine (markProfile_c _ _ _ _ _ _ _ O5_15.out (by omega) (by omega) (by omega)).mono ?_
        rintro _ w16 ⟨rfl, m16, q16⟩
        have y16 := q16.size
        have b16 := Only.below b15 q16 z15 (fun b hS => by have := LO5.out b hS; omega)
        have z16 := b16.size
        have c0_0_16 := cell_only q16 c0_0_15 (fun hS => by have h1 : _ ≤ w.heap.size := LO5.out _ hS; have h2 : w.heap.size < _ := UP5.out _ hS; omega)
        clear c0_0_15
        have c0_1_16 := cell_only q16 c0_1_15 (fun hS => by have h1 : _ ≤ w.heap.size := LO5.out _ hS; have h2 : w.heap.size < _ := UP5.out _ hS; omega)
        clear c0_1_15
        have c1_0_16 := cell_only q16 c1_0_15 (fun hS => by have h1 : _ ≤ w5.heap.size := LO5.out _ hS; have h2 : w5.heap.size < _ := UP5.out _ hS; omega)
        clear c1_0_15
        have c1_1_16 := cell_only q16 c1_1_15 (fun hS => by have h1 : _ ≤ w5.heap.size := LO5.out _ hS; have h2 : w5.heap.size < _ := UP5.out _ hS; omega)
        clear c1_1_15
        have c2_0_16 := cell_only q16 c2_0_15 (fun hS => by have h1 : _ ≤ w6.heap.size := LO5.out _ hS; have h2 : w6.heap.size < _ := UP5.out _ hS; omega)
        clear c2_0_15
        have c2_1_16 := cell_only q16 c2_1_15 (fun hS => by have h1 : _ ≤ w6.heap.size := LO5.out _ hS; have h2 : w6.heap.size < _ := UP5.out _ hS; omega)
        clear c2_1_15
        have c3_0_16 := cell_only q16 c3_0_15 (fun hS => by have h1 : _ ≤ w9.heap.size := LO5.out _ hS; have h2 : w9.heap.size < _ := UP5.out _ hS; omega)
        clear c3_0_15
        have c3_1_16 := cell_only q16 c3_1_15 (fun hS => by have h1 : _ ≤ w9.heap.size := LO5.out _ hS; have h2 : w9.heap.size < _ := UP5.out _ hS; omega)
        clear c3_1_15
        have o1_16 := own_only O1_15.out q16 (fun k hk hS => by have := LO5.out _ hS; have := UP5.out _ hS; have := LO1.out _ hk; have := UP1.out _ hk; omega)
        have O1_16 := Lib.hid o1_16; clear o1_16
        have o2_16 := own_only O2_15.out q16 (fun k hk hS => by have := LO5.out _ hS; have := UP5.out _ hS; have := LO2.out _ hk; have := UP2.out _ hk; omega)
        have O2_16 := Lib.hid o2_16; clear o2_16
        have o3_16 := own_only O3_15.out q16 (fun k hk hS => by have := LO5.out _ hS; have := UP5.out _ hS; have := LO3.out _ hk; have := UP3.out _ hk; omega)
        have O3_16 := Lib.hid o3_16; clear o3_16
        have o4_16 := own_only O4_15.out q16 (fun k hk hS => by have := LO5.out _ hS; have := UP5.out _ hS; have := LO4.out _ hk; have := UP4.out _ hk; omega)
        have O4_16 := Lib.hid o4_16; clear o4_16
        have o6_16 := own_only O6_15.out q16 (fun k hk hS => by have := LO5.out _ hS; have := UP5.out _ hS; have := LO6.out _ hk; have := UP6.out _ hk; omega)
        have O6_16 := Lib.hid o6_16; clear o6_16
        have o7_16 := own_only O7_15.out q16 (fun k hk hS => by have := LO5.out _ hS; have := UP5.out _ hS; have := LO7.out _ hk; have := UP7.out _ hk; omega)
        have O7_16 := Lib.hid o7_16; clear o7_16
        have o8_16 := own_only O8_15.out q16 (fun k hk hS => by have := LO5.out _ hS; have := UP5.out _ hS; have := LO8.out _ hk; have := UP8.out _ hk; omega)
        have O8_16 := Lib.hid o8_16; clear o8_16
        have o9_16 := own_only O9_15.out q16 (fun k hk hS => by have := LO5.out _ hS; have := UP5.out _ hS; have := LO9.out _ hk; have := UP9.out _ hk; omega)
        have O9_16 := Lib.hid o9_16; clear o9_16
        have o10_16 := own_only O10_15.out q16 (fun k hk hS => by have := LO5.out _ hS; have := UP5.out _ hS; have := LO10.out _ hk; have := UP10.out _ hk; omega)
        have O10_16 := Lib.hid o10_16; clear o10_16
        have O5_16 := Lib.hid m16; clear m16
        go_wp2_with fail
        refine (markInt64S_c _ _ _ _ _ _ O6_16.out (by omega) (by omega) (by omega)).mono ?_
        rintro _ w17 ⟨rfl, m17, q17⟩
        have y17 := q17.size
        have b17 := Only.below b16 q17 z16 (fun b hS => by have := LO6.out b hS; omega)
        have z17 := b17.size
        have c0_0_17 := cell_only q17 c0_0_16 (fun hS => by have h1 : _ ≤ w.heap.size := LO6.out _ hS; have h2 : w.heap.size < _ := UP6.out _ hS; omega)
        clear c0_0_16
        have c0_1_17 := cell_only q17 c0_1_16 (fun hS => by have h1 : _ ≤ w.heap.size := LO6.out _ hS; have h2 : w.heap.size < _ := UP6.out _ hS; omega)
        clear c0_1_16
        have c1_0_17 := cell_only q17 c1_0_16 (fun hS => by have h1 : _ ≤ w5.heap.size := LO6.out _ hS; have h2 : w5.heap.size < _ := UP6.out _ hS; omega)
        clear c1_0_16
        have c1_1_17 := cell_only q17 c1_1_16 (fun hS => by have h1 : _ ≤ w5.heap.size := LO6.out _ hS; have h2 : w5.heap.size < _ := UP6.out _ hS; omega)
        clear c1_1_16
        have c2_0_17 := cell_only q17 c2_0_16 (fun hS => by have h1 : _ ≤ w6.heap.size := LO6.out _ hS; have h2 : w6.heap.size < _ := UP6.out _ hS; omega)
        clear c2_0_16
        have c2_1_17 := cell_only q17 c2_1_16 (fun hS => by have h1 : _ ≤ w6.heap.size := LO6.out _ hS; have h2 : w6.heap.size < _ := UP6.out _ hS; omega)
        clear c2_1_16
        have c3_0_17 := cell_only q17 c3_0_16 (fun hS => by have h1 : _ ≤ w9.heap.size := LO6.out _ hS; have h2 : w9.heap.size < _ := UP6.out _ hS; omega)
        clear c3_0_16
        have c3_1_17 := cell_only q17 c3_1_16 (fun hS => by have h1 : _ ≤ w9.heap.size := LO6.out _ hS; have h2 : w9.heap.size < _ := UP6.out _ hS; omega)
        clear c3_1_16
        have o1_17 := own_only O1_16.out q17 (fun k hk hS => by have := LO6.out _ hS; have := UP6.out _ hS; have := LO1.out _ hk; have := UP1.out _ hk; omega)
        have O1_17 := Lib.hid o1_17; clear o1_17
        have o2_17 := own_only O2_16.out q17 (fun k hk hS => by have := LO6.out _ hS; have := UP6.out _ hS; have := LO2.out _ hk; have := UP2.out _ hk; omega)
        have O2_17 := Lib.hid o2_17; clear o2_17
        have o3_17 := own_only O3_16.out q17 (fun k hk hS => by have := LO6.out _ hS; have := UP6.out _ hS; have := LO3.out _ hk; have := UP3.out _ hk; omega)
        have O3_17 := Lib.hid o3_17; clear o3_17
        have o4_17 := own_only O4_16.out q17 (fun k hk hS => by have := LO6.out _ hS; have := UP6.out _ hS; have := LO4.out _ hk; have := UP4.out _ hk; omega)
        have O4_17 := Lib.hid o4_17; clear o4_17
        have o5_17 := own_only O5_16.out q17 (fun k hk hS => by have := LO6.out _ hS; have := UP6.out _ hS; have := LO5.out _ hk; have := UP5.out _ hk; omega)
        have O5_17 := Lib.hid o5_17; clear o5_17
        have o7_17 := own_only O7_16.out q17 (fun k hk hS => by have := LO6.out _ hS; have := UP6.out _ hS; have := LO7.out _ hk; have := UP7.out _ hk; omega)
        have O7_17 := Lib.hid o7_17; clear o7_17
        have o8_17 := own_only O8_16.out q17 (fun k hk hS => by have := LO6.out _ hS; have := UP6.out _ hS; have := LO8.out _ hk; have := UP8.out _ hk; omega)
        have O8_17 := Lib.hid o8_17; clear o8_17
        have o9_17 := own_only O9_16.out q17 (fun k hk hS => by have := LO6.out _ hS; have := UP6.out _ hS; have := LO9.out _ hk; have := UP9.out _ hk; omega)
        have O9_17 := Lib.hid o9_17; clear o9_17
        have o10_17 := own_only O10_16.out q17 (fun k hk hS => by have := LO6.out _ hS; have := UP6.out _ hS; have := LO10.out _ hk; have := UP10.out _ hk; omega)
        have O10_17 := Lib.hid o10_17; clear o10_17
        have O6_17 := Lib.hid m17; clear m17
        go_wp2_with fail
        refine (markCutS_c _ _ _ _ _ _ O7_17.out (by omega) (by omega) (by omega)).mono ?_
        rintro _ w18 ⟨rfl, m18, q18⟩
        have y18 := q18.size
        have b18 := Only.below b17 q18 z17 (fun b hS => by have := LO7.out b hS; omega)
        have z18 := b18.size
        have c0_0_18 := cell_only q18 c0_0_17 (fun hS => by have h1 : _ ≤ w.heap.size := LO7.out _ hS; have h2 : w.heap.size < _ := UP7.out _ hS; omega)
        clear c0_0_17
        have c0_1_18 := cell_only q18 c0_1_17 (fun hS => by have h1 : _ ≤ w.heap.size := LO7.out _ hS; have h2 : w.heap.size < _ := UP7.out _ hS; omega)
        clear c0_1_17
        have c1_0_18 := cell_only q18 c1_0_17 (fun hS => by have h1 : _ ≤ w5.heap.size := LO7.out _ hS; have h2 : w5.heap.size < _ := UP7.out _ hS; omega)
        clear c1_0_17
        have c1_1_18 := cell_only q18 c1_1_17 (fun hS => by have h1 : _ ≤ w5.heap.size := LO7.out _ hS; have h2 : w5.heap.size < _ := UP7.out _ hS; omega)
        clear c1_1_17
        have c2_0_18 := cell_only q18 c2_0_17 (fun hS => by have h1 : _ ≤ w6.heap.size := LO7.out _ hS; have h2 : w6.heap.size < _ := UP7.out _ hS; omega)
        clear c2_0_17
        have c2_1_18 := cell_only q18 c2_1_17 (fun hS => by have h1 : _ ≤ w6.heap.size := LO7.out _ hS; have h2 : w6.heap.size < _ := UP7.out _ hS; omega)
        clear c2_1_17
        have c3_0_18 := cell_only q18 c3_0_17 (fun hS => by have h1 : _ ≤ w9.heap.size := LO7.out _ hS; have h2 : w9.heap.size < _ := UP7.out _ hS; omega)
        clear c3_0_17
        have c3_1_18 := cell_only q18 c3_1_17 (fun hS => by have h1 : _ ≤ w9.heap.size := LO7.out _ hS; have h2 : w9.heap.size < _ := UP7.out _ hS; omega)
        clear c3_1_17
        have o1_18 := own_only O1_17.out q18 (fun k hk hS => by have := LO7.out _ hS; have := UP7.out _ hS; have := LO1.out _ hk; have := UP1.out _ hk; omega)
        have O1_18 := Lib.hid o1_18; clear o1_18
        have o2_18 := own_only O2_17.out q18 (fun k hk hS => by have := LO7.out _ hS; have := UP7.out _ hS; have := LO2.out _ hk; have := UP2.out _ hk; omega)
        have O2_18 := Lib.hid o2_18; clear o2_18
        have o3_18 := own_only O3_17.out q18 (fun k hk hS => by have := LO7.out _ hS; have := UP7.out _ hS; have := LO3.out _ hk; have := UP3.out _ hk; omega)
        have O3_18 := Lib.hid o3_18; clear o3_18
        have o4_18 := own_only O4_17.out q18 (fun k hk hS => by have := LO7.out _ hS; have := UP7.out _ hS; have := LO4.out _ hk; have := UP4.out _ hk; omega)
        have O4_18 := Lib.hid o4_18; clear o4_18
        have o5_18 := own_only O5_17.out q18 (fun k hk hS => by have := LO7.out _ hS; have := UP7.out _ hS; have := LO5.out _ hk; have := UP5.out _ hk; omega)
        have O5_18 := Lib.hid o5_18; clear o5_18
        have o6_18 := own_only O6_17.out q18 (fun k hk hS => by have := LO7.out _ hS; have := UP7.out _ hS; have := LO6.out _ hk; have := UP6.out _ hk; omega)
        have O6_18 := Lib.hid o6_18; clear o6_18
        have o8_18 := own_only O8_17.out q18 (fun k hk hS => by have := LO7.out _ hS; have := UP7.out _ hS; have := LO8.out _ hk; have := UP8.out _ hk; omega)
        have O8_18 := Lib.hid o8_18; clear o8_18
        have o9_18 := own_only O9_17.out q18 (fun k hk hS => by have := LO7.out _ hS; have := UP7.out _ hS; have := LO9.out _ hk; have := UP9.out _ hk; omega)
        have O9_18 := Lib.hid o9_18; clear o9_18
        have o10_18 := own_only O10_17.out q18 (fun k hk hS => by have := LO7.out _ hS; have := UP7.out _ hS; have := LO10.out _ hk; have := UP10.out _ hk; omega)
        have O10_18 := Lib.hid o10_18; clear o10_18
        have O7_18 := Lib.hid m18; clear m18
        go_wp2_with fail
        refine (HEq.out _ _ _ (Rd.of_own O8_18.out) (Rd.of_own O4_18.out)).mono ?_
        rintro _ w19 ⟨rfl, r19⟩
        have s19 := r19
        have y19 := s19.size
        have b19 := b18.trans (s19.mono z18)
        have z19 := b19.size
        have c0_0_19 := below_cell s19 c0_0_18
        clear c0_0_18
        have c0_1_19 := below_cell s19 c0_1_18
        clear c0_1_18
        have c1_0_19 := below_cell s19 c1_0_18
        clear c1_0_18
        have c1_1_19 := below_cell s19 c1_1_18
        clear c1_1_18
        have c2_0_19 := below_cell s19 c2_0_18
        clear c2_0_18
        have c2_1_19 := below_cell s19 c2_1_18
        clear c2_1_18
        have c3_0_19 := below_cell s19 c3_0_18
        clear c3_0_18
        have c3_1_19 := below_cell s19 c3_1_18
        clear c3_1_18
        have o1_19 := own_later O1_18.out s19
        have O1_19 := Lib.hid o1_19; clear o1_19
        have o2_19 := own_later O2_18.out s19
        have O2_19 := Lib.hid o2_19; clear o2_19
        have o3_19 := own_later O3_18.out s19
        have O3_19 := Lib.hid o3_19; clear o3_19
        have o4_19 := own_later O4_18.out s19
        have O4_19 := Lib.hid o4_19; clear o4_19
        have o5_19 := own_later O5_18.out s19
        have O5_19 := Lib.hid o5_19; clear o5_19
        have o6_19 := own_later O6_18.out s19
        have O6_19 := Lib.hid o6_19; clear o6_19
        have o7_19 := own_later O7_18.out s19
        have O7_19 := Lib.hid o7_19; clear o7_19
        have o8_19 := own_later O8_18.out s19
        have O8_19 := Lib.hid o8_19; clear o8_19
        have o9_19 := own_later O9_18.out s19
        have O9_19 := Lib.hid o9_19; clear o9_19
        have o10_19 := own_later O10_18.out s19
        have O10_19 := Lib.hid o10_19; clear o10_19
        clear al0_0_15
        clear al0_1_15
        clear al1_0_15
        clear al1_1_15
        clear al2_0_15
        clear al2_1_15
        clear al3_0_15
        clear al3_1_15
        have al0_0_19 := fun o => alloc_cell o c0_0_19
        have al0_1_19 := fun o => alloc_cell o c0_1_19
        have al1_0_19 := fun o => alloc_cell o c1_0_19
        have al1_1_19 := fun o => alloc_cell o c1_1_19
        have al2_0_19 := fun o => alloc_cell o c2_0_19
        have al2_1_19 := fun o => alloc_cell o c2_1_19
        have al3_0_19 := fun o => alloc_cell o c3_0_19
        have al3_1_19 := fun o => alloc_cell o c3_1_19
        go_wp2_with fail
        refine (markProfile_c _ _ _ _ _ _ _ O8_19.out (by omega) (by omega) (by omega)).mono ?_
        rintro _ w20 ⟨rfl, m20, q20⟩
        have y20 := q20.size
        have b20 := Only.below b19 q20 z19 (fun b hS => by have := LO8.out b hS; omega)
        have z20 := b20.size
        have c0_0_20 := cell_only q20 c0_0_19 (fun hS => by have h1 : _ ≤ w.heap.size := LO8.out _ hS; have h2 : w.heap.size < _ := UP8.out _ hS; omega)
        clear c0_0_19
        have c0_1_20 := cell_only q20 c0_1_19 (fun hS => by have h1 : _ ≤ w.heap.size := LO8.out _ hS; have h2 : w.heap.size < _ := UP8.out _ hS; omega)
        clear c0_1_19
        have c1_0_20 := cell_only q20 c1_0_19 (fun hS => by have h1 : _ ≤ w5.heap.size := LO8.out _ hS; have h2 : w5.heap.size < _ := UP8.out _ hS; omega)
        clear c1_0_19
        have c1_1_20 := cell_only q20 c1_1_19 (fun hS => by have h1 : _ ≤ w5.heap.size := LO8.out _ hS; have h2 : w5.heap.size < _ := UP8.out _ hS; omega)
        clear c1_1_19
        have c2_0_20 := cell_only q20 c2_0_19 (fun hS => by have h1 : _ ≤ w6.heap.size := LO8.out _ hS; have h2 : w6.heap.size < _ := UP8.out _ hS; omega)
        clear c2_0_19
        have c2_1_20 := cell_only q20 c2_1_19 (fun hS => by have h1 : _ ≤ w6.heap.size := LO8.out _ hS; have h2 : w6.heap.size < _ := UP8.out _ hS; omega)
        clear c2_1_19
        have c3_0_20 := cell_only q20 c3_0_19 (fun hS => by have h1 : _ ≤ w9.heap.size := LO8.out _ hS; have h2 : w9.heap.size < _ := UP8.out _ hS; omega)
        clear c3_0_19
        have c3_1_20 := cell_only q20 c3_1_19 (fun hS => by have h1 : _ ≤ w9.heap.size := LO8.out _ hS; have h2 : w9.heap.size < _ := UP8.out _ hS; omega)
        clear c3_1_19
        have o1_20 := own_only O1_19.out q20 (fun k hk hS => by have := LO8.out _ hS; have := UP8.out _ hS; have := LO1.out _ hk; have := UP1.out _ hk; omega)
        have O1_20 := Lib.hid o1_20; clear o1_20
        have o2_20 := own_only O2_19.out q20 (fun k hk hS => by have := LO8.out _ hS; have := UP8.out _ hS; have := LO2.out _ hk; have := UP2.out _ hk; omega)
        have O2_20 := Lib.hid o2_20; clear o2_20
        have o3_20 := own_only O3_19.out q20 (fun k hk hS => by have := LO8.out _ hS; have := UP8.out _ hS; have := LO3.out _ hk; have := UP3.out _ hk; omega)
        have O3_20 := Lib.hid o3_20; clear o3_20
        have o4_20 := own_only O4_19.out q20 (fun k hk hS => by have := LO8.out _ hS; have := UP8.out _ hS; have := LO4.out _ hk; have := UP4.out _ hk; omega)
        have O4_20 := Lib.hid o4_20; clear o4_20
        have o5_20 := own_only O5_19.out q20 (fun k hk hS => by have := LO8.out _ hS; have := UP8.out _ hS; have := LO5.out _ hk; have := UP5.out _ hk; omega)
        have O5_20 := Lib.hid o5_20; clear o5_20
        have o6_20 := own_only O6_19.out q20 (fun k hk hS => by have := LO8.out _ hS; have := UP8.out _ hS; have := LO6.out _ hk; have := UP6.out _ hk; omega)
        have O6_20 := Lib.hid o6_20; clear o6_20
        have o7_20 := own_only O7_19.out q20 (fun k hk hS => by have := LO8.out _ hS; have := UP8.out _ hS; have := LO7.out _ hk; have := UP7.out _ hk; omega)
        have O7_20 := Lib.hid o7_20; clear o7_20
        have o9_20 := own_only O9_19.out q20 (fun k hk hS => by have := LO8.out _ hS; have := UP8.out _ hS; have := LO9.out _ hk; have := UP9.out _ hk; omega)
        have O9_20 := Lib.hid o9_20; clear o9_20
        have o10_20 := own_only O10_19.out q20 (fun k hk hS => by have := LO8.out _ hS; have := UP8.out _ hS; have := LO10.out _ hk; have := UP10.out _ hk; omega)
        have O10_20 := Lib.hid o10_20; clear o10_20
        have O8_20 := Lib.hid m20; clear m20
        go_wp2_with fail
        refine (heldProfile_c _ _ _ _ _ (Rd.of_own O8_20.out) (by omega) (by omega)).mono ?_
        rintro _ w21 ⟨rfl, r21⟩
        have s21 := r21
        have y21 := s21.size
        have b21 := b20.trans (s21.mono z20)
        have z21 := b21.size
        have c0_0_21 := below_cell s21 c0_0_20
        clear c0_0_20
        have c0_1_21 := below_cell s21 c0_1_20
        clear c0_1_20
        have c1_0_21 := below_cell s21 c1_0_20
        clear c1_0_20
        have c1_1_21 := below_cell s21 c1_1_20
        clear c1_1_20
        have c2_0_21 := below_cell s21 c2_0_20
        clear c2_0_20
        have c2_1_21 := below_cell s21 c2_1_20
        clear c2_1_20
        have c3_0_21 := below_cell s21 c3_0_20
        clear c3_0_20
        have c3_1_21 := below_cell s21 c3_1_20
        clear c3_1_20
        have o1_21 := own_later O1_20.out s21
        have O1_21 := Lib.hid o1_21; clear o1_21
        have o2_21 := own_later O2_20.out s21
        have O2_21 := Lib.hid o2_21; clear o2_21
        have o3_21 := own_later O3_20.out s21
        have O3_21 := Lib.hid o3_21; clear o3_21
        have o4_21 := own_later O4_20.out s21
        have O4_21 := Lib.hid o4_21; clear o4_21
        have o5_21 := own_later O5_20.out s21
        have O5_21 := Lib.hid o5_21; clear o5_21
        have o6_21 := own_later O6_20.out s21
        have O6_21 := Lib.hid o6_21; clear o6_21
        have o7_21 := own_later O7_20.out s21
        have O7_21 := Lib.hid o7_21; clear o7_21
        have o8_21 := own_later O8_20.out s21
        have O8_21 := Lib.hid o8_21; clear o8_21
        have o9_21 := own_later O9_20.out s21
        have O9_21 := Lib.hid o9_21; clear o9_21
        have o10_21 := own_later O10_20.out s21
        have O10_21 := Lib.hid o10_21; clear o10_21
        clear al0_0_19
        clear al0_1_19
        clear al1_0_19
        clear al1_1_19
        clear al2_0_19
        clear al2_1_19
        clear al3_0_19
        clear al3_1_19
        have al0_0_21 := fun o => alloc_cell o c0_0_21
        have al0_1_21 := fun o => alloc_cell o c0_1_21
        have al1_0_21 := fun o => alloc_cell o c1_0_21
        have al1_1_21 := fun o => alloc_cell o c1_1_21
        have al2_0_21 := fun o => alloc_cell o c2_0_21
        have al2_1_21 := fun o => alloc_cell o c2_1_21
        have al3_0_21 := fun o => alloc_cell o c3_0_21
        have al3_1_21 := fun o => alloc_cell o c3_1_21
        go_wp2_with fail
        refine (HT0.out _ b21).mono ?_
        rintro _ w22 ⟨x11, rfl, n11, r22⟩
        have s22 := r22
        have y22 := s22.size
        have b22 := b21.trans (s22.mono z21)
        have z22 := b22.size
        have c0_0_22 := below_cell s22 c0_0_21
        clear c0_0_21
        have c0_1_22 := below_cell s22 c0_1_21
        clear c0_1_21
        have c1_0_22 := below_cell s22 c1_0_21
        clear c1_0_21
        have c1_1_22 := below_cell s22 c1_1_21
        clear c1_1_21
        have c2_0_22 := below_cell s22 c2_0_21
        clear c2_0_21
        have c2_1_22 := below_cell s22 c2_1_21
        clear c2_1_21
        have c3_0_22 := below_cell s22 c3_0_21
        clear c3_0_21
        have c3_1_22 := below_cell s22 c3_1_21
        clear c3_1_21
        have o1_22 := own_later O1_21.out s22
        have O1_22 := Lib.hid o1_22; clear o1_22
        have o2_22 := own_later O2_21.out s22
        have O2_22 := Lib.hid o2_22; clear o2_22
        have o3_22 := own_later O3_21.out s22
        have O3_22 := Lib.hid o3_22; clear o3_22
        have o4_22 := own_later O4_21.out s22
        have O4_22 := Lib.hid o4_22; clear o4_22
        have o5_22 := own_later O5_21.out s22
        have O5_22 := Lib.hid o5_22; clear o5_22
        have o6_22 := own_later O6_21.out s22
        have O6_22 := Lib.hid o6_22; clear o6_22
        have o7_22 := own_later O7_21.out s22
        have O7_22 := Lib.hid o7_22; clear o7_22
        have o8_22 := own_later O8_21.out s22
        have O8_22 := Lib.hid o8_22; clear o8_22
        have o9_22 := own_later O9_21.out s22
        have O9_22 := Lib.hid o9_22; clear o9_22
        have o10_22 := own_later O10_21.out s22
        have O10_22 := Lib.hid o10_22; clear o10_22
        clear al0_0_21
        clear al0_1_21
        clear al1_0_21
        clear al1_1_21
        clear al2_0_21
        clear al2_1_21
        clear al3_0_21
        clear al3_1_21
        have al0_0_22 := fun o => alloc_cell o c0_0_22
        have al0_1_22 := fun o => alloc_cell o c0_1_22
        have al1_0_22 := fun o => alloc_cell o c1_0_22
        have al1_1_22 := fun o => alloc_cell o c1_1_22
        have al2_0_22 := fun o => alloc_cell o c2_0_22
        have al2_1_22 := fun o => alloc_cell o c2_1_22
        have al3_0_22 := fun o => alloc_cell o c3_0_22
        have al3_1_22 := fun o => alloc_cell o c3_1_22
        obtain ⟨ao11, cap11, g11, rfl, _, _⟩ := own_open n11
        have up11 := fun k hk => (World.ownsRow.lt n11 k hk).2
        have lo11 := fun k hk => (World.ownsRow.lt n11 k hk).1
        try simp only [World.size_alloc] at lo11
        have UP11 := Lib.hid up11; clear up11
        have LO11 := Lib.hid lo11; clear lo11
        have o11' := n11
        have O11_22 := Lib.hid o11'; clear o11'
        clear n11
        go_wp2_with fail
        refine (HT1.out _ b22).mono ?_
        rintro _ w23 ⟨x12, rfl, n12, r23⟩
        have s23 := r23
        have y23 := s23.size
        have b23 := b22.trans (s23.mono z22)
        have z23 := b23.size
        have c0_0_23 := below_cell s23 c0_0_22
        clear c0_0_22
        have c0_1_23 := below_cell s23 c0_1_22
        clear c0_1_22
        have c1_0_23 := below_cell s23 c1_0_22
        clear c1_0_22
        have c1_1_23 := below_cell s23 c1_1_22
        clear c1_1_22
        have c2_0_23 := below_cell s23 c2_0_22
        clear c2_0_22
        have c2_1_23 := below_cell s23 c2_1_22
        clear c2_1_22
        have c3_0_23 := below_cell s23 c3_0_22
        clear c3_0_22
        have c3_1_23 := below_cell s23 c3_1_22
        clear c3_1_22
        have o1_23 := own_later O1_22.out s23
        have O1_23 := Lib.hid o1_23; clear o1_23
        have o2_23 := own_later O2_22.out s23
        have O2_23 := Lib.hid o2_23; clear o2_23
        have o3_23 := own_later O3_22.out s23
        have O3_23 := Lib.hid o3_23; clear o3_23
        have o4_23 := own_later O4_22.out s23
        have O4_23 := Lib.hid o4_23; clear o4_23
        have o5_23 := own_later O5_22.out s23
        have O5_23 := Lib.hid o5_23; clear o5_23
        have o6_23 := own_later O6_22.out s23
        have O6_23 := Lib.hid o6_23; clear o6_23
        have o7_23 := own_later O7_22.out s23
        have O7_23 := Lib.hid o7_23; clear o7_23
        have o8_23 := own_later O8_22.out s23
        have O8_23 := Lib.hid o8_23; clear o8_23
        have o9_23 := own_later O9_22.out s23
        have O9_23 := Lib.hid o9_23; clear o9_23
        have o10_23 := own_later O10_22.out s23
        have O10_23 := Lib.hid o10_23; clear o10_23
        have o11_23 := own_later O11_22.out s23
        have O11_23 := Lib.hid o11_23; clear o11_23
        clear al0_0_22
        clear al0_1_22
        clear al1_0_22
        clear al1_1_22
        clear al2_0_22
        clear al2_1_22
        clear al3_0_22
        clear al3_1_22
        have al0_0_23 := fun o => alloc_cell o c0_0_23
        have al0_1_23 := fun o => alloc_cell o c0_1_23
        have al1_0_23 := fun o => alloc_cell o c1_0_23
        have al1_1_23 := fun o => alloc_cell o c1_1_23
        have al2_0_23 := fun o => alloc_cell o c2_0_23
        have al2_1_23 := fun o => alloc_cell o c2_1_23
        have al3_0_23 := fun o => alloc_cell o c3_0_23
        have al3_1_23 := fun o => alloc_cell o c3_1_23
        obtain ⟨ao12, cap12, g12, rfl, _, _⟩ := own_open n12
        have up12 := fun k hk => (World.ownsRow.lt n12 k hk).2
        have lo12 := fun k hk => (World.ownsRow.lt n12 k hk).1
        try simp only [World.size_alloc] at lo12
        have UP12 := Lib.hid up12; clear up12
        have LO12 := Lib.hid lo12; clear lo12
        have o12' := n12
        have O12_23 := Lib.hid o12'; clear o12'
        clear n12
        go_wp2_with fail
        refine (HT2.out _ b23).mono ?_
        rintro _ w24 ⟨x13, rfl, n13, r24⟩
        have s24 := r24
        have y24 := s24.size
        have b24 := b23.trans (s24.mono z23)
        have z24 := b24.size
        have c0_0_24 := below_cell s24 c0_0_23
        clear c0_0_23
        have c0_1_24 := below_cell s24 c0_1_23
        clear c0_1_23
        have c1_0_24 := below_cell s24 c1_0_23
        clear c1_0_23
        have c1_1_24 := below_cell s24 c1_1_23
        clear c1_1_23
        have c2_0_24 := below_cell s24 c2_0_23
        clear c2_0_23
        have c2_1_24 := below_cell s24 c2_1_23
        clear c2_1_23
        have c3_0_24 := below_cell s24 c3_0_23
        clear c3_0_23
        have c3_1_24 := below_cell s24 c3_1_23
        clear c3_1_23
        have o1_24 := own_later O1_23.out s24
        have O1_24 := Lib.hid o1_24; clear o1_24
        have o2_24 := own_later O2_23.out s24
        have O2_24 := Lib.hid o2_24; clear o2_24
        have o3_24 := own_later O3_23.out s24
        have O3_24 := Lib.hid o3_24; clear o3_24
        have o4_24 := own_later O4_23.out s24
        have O4_24 := Lib.hid o4_24; clear o4_24
        have o5_24 := own_later O5_23.out s24
        have O5_24 := Lib.hid o5_24; clear o5_24
        have o6_24 := own_later O6_23.out s24
        have O6_24 := Lib.hid o6_24; clear o6_24
        have o7_24 := own_later O7_23.out s24
        have O7_24 := Lib.hid o7_24; clear o7_24
        have o8_24 := own_later O8_23.out s24
        have O8_24 := Lib.hid o8_24; clear o8_24
        have o9_24 := own_later O9_23.out s24
        have O9_24 := Lib.hid o9_24; clear o9_24
        have o10_24 := own_later O10_23.out s24
        have O10_24 := Lib.hid o10_24; clear o10_24
        have o11_24 := own_later O11_23.out s24
        have O11_24 := Lib.hid o11_24; clear o11_24
        have o12_24 := own_later O12_23.out s24
        have O12_24 := Lib.hid o12_24; clear o12_24
        clear al0_0_23
        clear al0_1_23
        clear al1_0_23
        clear al1_1_23
        clear al2_0_23
        clear al2_1_23
        clear al3_0_23
        clear al3_1_23
        have al0_0_24 := fun o => alloc_cell o c0_0_24
        have al0_1_24 := fun o => alloc_cell o c0_1_24
        have al1_0_24 := fun o => alloc_cell o c1_0_24
        have al1_1_24 := fun o => alloc_cell o c1_1_24
        have al2_0_24 := fun o => alloc_cell o c2_0_24
        have al2_1_24 := fun o => alloc_cell o c2_1_24
        have al3_0_24 := fun o => alloc_cell o c3_0_24
        have al3_1_24 := fun o => alloc_cell o c3_1_24
        obtain ⟨ao13, cap13, g13, rfl, _, _⟩ := own_open n13
        have up13 := fun k hk => (World.ownsRow.lt n13 k hk).2
        have lo13 := fun k hk => (World.ownsRow.lt n13 k hk).1
        try simp only [World.size_alloc] at lo13
        have UP13 := Lib.hid up13; clear up13
        have LO13 := Lib.hid lo13; clear lo13
        have o13' := n13
        have O13_24 := Lib.hid o13'; clear o13'
        clear n13
        go_wp2_with fail
        refine (HI.out _ _ _ _ (Rd.of_own O11_24.out) (Rd.of_own O12_24.out) (Rd.of_own O13_24.out)).mono ?_
        rintro _ w25 ⟨x14, rfl, n14, r25⟩
        have s25 := r25
        have y25 := s25.size
        have b25 := b24.trans (s25.mono z24)
        have z25 := b25.size
        have c0_0_25 := below_cell s25 c0_0_24
        clear c0_0_24
        have c0_1_25 := below_cell s25 c0_1_24
        clear c0_1_24
        have c1_0_25 := below_cell s25 c1_0_24
        clear c1_0_24
        have c1_1_25 := below_cell s25 c1_1_24
        clear c1_1_24
        have c2_0_25 := below_cell s25 c2_0_24
        clear c2_0_24
        have c2_1_25 := below_cell s25 c2_1_24
        clear c2_1_24
        have c3_0_25 := below_cell s25 c3_0_24
        clear c3_0_24
        have c3_1_25 := below_cell s25 c3_1_24
        clear c3_1_24
        have o1_25 := own_later O1_24.out s25
        have O1_25 := Lib.hid o1_25; clear o1_25
        have o2_25 := own_later O2_24.out s25
        have O2_25 := Lib.hid o2_25; clear o2_25
        have o3_25 := own_later O3_24.out s25
        have O3_25 := Lib.hid o3_25; clear o3_25
        have o4_25 := own_later O4_24.out s25
        have O4_25 := Lib.hid o4_25; clear o4_25
        have o5_25 := own_later O5_24.out s25
        have O5_25 := Lib.hid o5_25; clear o5_25
        have o6_25 := own_later O6_24.out s25
        have O6_25 := Lib.hid o6_25; clear o6_25
        have o7_25 := own_later O7_24.out s25
        have O7_25 := Lib.hid o7_25; clear o7_25
        have o8_25 := own_later O8_24.out s25
        have O8_25 := Lib.hid o8_25; clear o8_25
        have o9_25 := own_later O9_24.out s25
        have O9_25 := Lib.hid o9_25; clear o9_25
        have o10_25 := own_later O10_24.out s25
        have O10_25 := Lib.hid o10_25; clear o10_25
        have o11_25 := own_later O11_24.out s25
        have O11_25 := Lib.hid o11_25; clear o11_25
        have o12_25 := own_later O12_24.out s25
        have O12_25 := Lib.hid o12_25; clear o12_25
        have o13_25 := own_later O13_24.out s25
        have O13_25 := Lib.hid o13_25; clear o13_25
        clear al0_0_24
        clear al0_1_24
        clear al1_0_24
        clear al1_1_24
        clear al2_0_24
        clear al2_1_24
        clear al3_0_24
        clear al3_1_24
        have al0_0_25 := fun o => alloc_cell o c0_0_25
        have al0_1_25 := fun o => alloc_cell o c0_1_25
        have al1_0_25 := fun o => alloc_cell o c1_0_25
        have al1_1_25 := fun o => alloc_cell o c1_1_25
        have al2_0_25 := fun o => alloc_cell o c2_0_25
        have al2_1_25 := fun o => alloc_cell o c2_1_25
        have al3_0_25 := fun o => alloc_cell o c3_0_25
        have al3_1_25 := fun o => alloc_cell o c3_1_25
        obtain ⟨ao14, cap14, g14, rfl, _, _⟩ := own_open n14
        have up14 := fun k hk => (World.ownsRow.lt n14 k hk).2
        have lo14 := fun k hk => (World.ownsRow.lt n14 k hk).1
        try simp only [World.size_alloc] at lo14
        have UP14 := Lib.hid up14; clear up14
        have LO14 := Lib.hid lo14; clear lo14
        have o14' := n14
        have O14_25 := Lib.hid o14'; clear o14'
        clear n14
        go_wp2_with fail
        refine (HEq.out _ _ _ ((Rd.of_own O14_25.out).later (by go_grown)) ((Rd.of_own O4_25.out).later (by go_grown))).mono ?_
        rintro _ w26 ⟨rfl, r26⟩
        have s26 : Below w25.heap.size w25 w26 := Below.trans (by go_grown) (r26.mono (by simp; try omega))
        have y26 := s26.size
        have v26 : w25.heap.size + 1 ≤ w26.heap.size := by have := r26.size; simp only [World.size_alloc] at this; omega
        have b26 := b25.trans (s26.mono z25)
        have z26 := b26.size
        have c0_0_26 := below_cell s26 c0_0_25
        clear c0_0_25
        have c0_1_26 := below_cell s26 c0_1_25
        clear c0_1_25
        have c1_0_26 := below_cell s26 c1_0_25
        clear c1_0_25
        have c1_1_26 := below_cell s26 c1_1_25
        clear c1_1_25
        have c2_0_26 := below_cell s26 c2_0_25
        clear c2_0_25
        have c2_1_26 := below_cell s26 c2_1_25
        clear c2_1_25
        have c3_0_26 := below_cell s26 c3_0_25
        clear c3_0_25
        have c3_1_26 := below_cell s26 c3_1_25
        clear c3_1_25
        have c4_0_26 := below_cell r26 (p := ⟨w25.heap.size, 0, none⟩) (v := .string qn0) (by simp [go_sem])
        have c4_1_26 := below_cell r26 (p := ⟨w25.heap.size, 1, none⟩) (v := .slice ao14 q0.length cap14) (by simp [go_sem])
        have o1_26 := own_later O1_25.out s26
        have O1_26 := Lib.hid o1_26; clear o1_26
        have o2_26 := own_later O2_25.out s26
        have O2_26 := Lib.hid o2_26; clear o2_26
        have o3_26 := own_later O3_25.out s26
        have O3_26 := Lib.hid o3_26; clear o3_26
        have o4_26 := own_later O4_25.out s26
        have O4_26 := Lib.hid o4_26; clear o4_26
        have o5_26 := own_later O5_25.out s26
        have O5_26 := Lib.hid o5_26; clear o5_26
        have o6_26 := own_later O6_25.out s26
        have O6_26 := Lib.hid o6_26; clear o6_26
        have o7_26 := own_later O7_25.out s26
        have O7_26 := Lib.hid o7_26; clear o7_26
        have o8_26 := own_later O8_25.out s26
        have O8_26 := Lib.hid o8_26; clear o8_26
        have o9_26 := own_later O9_25.out s26
        have O9_26 := Lib.hid o9_26; clear o9_26
        have o10_26 := own_later O10_25.out s26
        have O10_26 := Lib.hid o10_26; clear o10_26
        have o11_26 := own_later O11_25.out s26
        have O11_26 := Lib.hid o11_26; clear o11_26
        have o12_26 := own_later O12_25.out s26
        have O12_26 := Lib.hid o12_26; clear o12_26
        have o13_26 := own_later O13_25.out s26
        have O13_26 := Lib.hid o13_26; clear o13_26
        have o14_26 := own_later O14_25.out s26
        have O14_26 := Lib.hid o14_26; clear o14_26
        clear r26
        clear al0_0_25
        clear al0_1_25
        clear al1_0_25
        clear al1_1_25
        clear al2_0_25
        clear al2_1_25
        clear al3_0_25
        clear al3_1_25
        have al0_0_26 := fun o => alloc_cell o c0_0_26
        have al0_1_26 := fun o => alloc_cell o c0_1_26
        have al1_0_26 := fun o => alloc_cell o c1_0_26
        have al1_1_26 := fun o => alloc_cell o c1_1_26
        have al2_0_26 := fun o => alloc_cell o c2_0_26
        have al2_1_26 := fun o => alloc_cell o c2_1_26
        have al3_0_26 := fun o => alloc_cell o c3_0_26
        have al3_1_26 := fun o => alloc_cell o c3_1_26
        have al4_0_26 := fun o => alloc_cell o c4_0_26
        have al4_1_26 := fun o => alloc_cell o c4_1_26
        go_wp2_with fail
        refine (heldProfile_c _ _ _ _ _ (Rd.of_own O8_26.out) (by omega) (by omega)).mono ?_
        rintro _ w27 ⟨rfl, r27⟩
        have s27 := r27
        have y27 := s27.size
        have b27 := b26.trans (s27.mono z26)
        have z27 := b27.size
        have c0_0_27 := below_cell s27 c0_0_26
        clear c0_0_26
        have c0_1_27 := below_cell s27 c0_1_26
        clear c0_1_26
        have c1_0_27 := below_cell s27 c1_0_26
        clear c1_0_26
        have c1_1_27 := below_cell s27 c1_1_26
        clear c1_1_26
        have c2_0_27 := below_cell s27 c2_0_26
        clear c2_0_26
        have c2_1_27 := below_cell s27 c2_1_26
        clear c2_1_26
        have c3_0_27 := below_cell s27 c3_0_26
        clear c3_0_26
        have c3_1_27 := below_cell s27 c3_1_26
        clear c3_1_26
        have c4_0_27 := below_cell s27 c4_0_26
        clear c4_0_26
        have c4_1_27 := below_cell s27 c4_1_26
        clear c4_1_26
        have o1_27 := own_later O1_26.out s27
        have O1_27 := Lib.hid o1_27; clear o1_27
        have o2_27 := own_later O2_26.out s27
        have O2_27 := Lib.hid o2_27; clear o2_27
        have o3_27 := own_later O3_26.out s27
        have O3_27 := Lib.hid o3_27; clear o3_27
        have o4_27 := own_later O4_26.out s27
        have O4_27 := Lib.hid o4_27; clear o4_27
        have o5_27 := own_later O5_26.out s27
        have O5_27 := Lib.hid o5_27; clear o5_27
        have o6_27 := own_later O6_26.out s27
        have O6_27 := Lib.hid o6_27; clear o6_27
        have o7_27 := own_later O7_26.out s27
        have O7_27 := Lib.hid o7_27; clear o7_27
        have o8_27 := own_later O8_26.out s27
        have O8_27 := Lib.hid o8_27; clear o8_27
        have o9_27 := own_later O9_26.out s27
        have O9_27 := Lib.hid o9_27; clear o9_27
        have o10_27 := own_later O10_26.out s27
        have O10_27 := Lib.hid o10_27; clear o10_27
        have o11_27 := own_later O11_26.out s27
        have O11_27 := Lib.hid o11_27; clear o11_27
        have o12_27 := own_later O12_26.out s27
        have O12_27 := Lib.hid o12_27; clear o12_27
        have o13_27 := own_later O13_26.out s27
        have O13_27 := Lib.hid o13_27; clear o13_27
        have o14_27 := own_later O14_26.out s27
        have O14_27 := Lib.hid o14_27; clear o14_27
        clear al0_0_26
        clear al0_1_26
        clear al1_0_26
        clear al1_1_26
        clear al2_0_26
        clear al2_1_26
        clear al3_0_26
        clear al3_1_26
        clear al4_0_26
        clear al4_1_26
        have al0_0_27 := fun o => alloc_cell o c0_0_27
        have al0_1_27 := fun o => alloc_cell o c0_1_27
        have al1_0_27 := fun o => alloc_cell o c1_0_27
        have al1_1_27 := fun o => alloc_cell o c1_1_27
        have al2_0_27 := fun o => alloc_cell o c2_0_27
        have al2_1_27 := fun o => alloc_cell o c2_1_27
        have al3_0_27 := fun o => alloc_cell o c3_0_27
        have al3_1_27 := fun o => alloc_cell o c3_1_27
        have al4_0_27 := fun o => alloc_cell o c4_0_27
        have al4_1_27 := fun o => alloc_cell o c4_1_27
        go_wp2
        go_returns
        exact RetB.mk rfl b27
      · skip
        have hz2' := fun w' (hb : Below w.heap.size w w') => szCutS_c v2 ps2.length (pairs ps2) (1048576 - (nm0.size : Int) - (rs0.length : Int)) w' (h2.later hb) (by omega) (by omega)
        rw [leftOf_neg (by omega)] at hz2'
        have HZ2 := Lib.hid hz2'; clear hz2'
        have HS := Lib.hid hs; clear hs
        have HI := Lib.hid hi; clear hi
        go_enter Try.func12, Try.ntmps12
        have b0 : Below w.heap.size w w := Below.refl _ _
        have z0 : w.heap.size ≤ w.heap.size := Nat.le_refl _
        go_wp2_with fail
        refine (HZ0.out _ (by go_grown)).mono ?_
        rintro _ w1 ⟨rfl, r1⟩
        have s1 : Below w.heap.size w w1 := Below.trans (by go_grown) (r1.mono (by simp; try omega))
        have y1 := s1.size
        have v1 : w.heap.size + 1 ≤ w1.heap.size := by have := r1.size; simp only [World.size_alloc] at this; omega
        have b1 := b0.trans (s1.mono z0)
        have z1 := b1.size
        have c0_0_1 := below_cell r1 (p := ⟨w.heap.size, 0, none⟩) (v := .string nm0) (by simp [go_sem])
        have c0_1_1 := below_cell r1 (p := ⟨w.heap.size, 1, none⟩) (v := sv0) (by simp [go_sem])
        clear r1
        have al0_0_1 := fun o => alloc_cell o c0_0_1
        have al0_1_1 := fun o => alloc_cell o c0_1_1
        go_wp2_with fail
        refine (HZ2.out _ b1).mono ?_
        rintro _ _ ⟨rfl, rfl⟩
        go_wp2
        go_returns
        exact RetB.mk rfl b1
    · skip
      have hz0' := fun w' (hb : Below w.heap.size w w') => szProfile_c nm0 sv0 rs0.length (trips rs0) (1048576) w' hnm0 (h0.later hb) (by omega) (by omega)
      rw [leftP_neg (by omega)] at hz0'
      have HZ0 := Lib.hid hz0'; clear hz0'
      have HS := Lib.hid hs; clear hs
      have HI := Lib.hid hi; clear hi
      go_enter Try.func12, Try.ntmps12
      have b0 : Below w.heap.size w w := Below.refl _ _
      have z0 : w.heap.size ≤ w.heap.size := Nat.le_refl _
      go_wp2_with fail
      refine (HZ0.out _ (by go_grown)).mono ?_
      rintro _ w1 ⟨rfl, r1⟩
      have s1 : Below w.heap.size w w1 := Below.trans (by go_grown) (r1.mono (by simp; try omega))
      have y1 := s1.size
      have v1 : w.heap.size + 1 ≤ w1.heap.size := by have := r1.size; simp only [World.size_alloc] at this; omega
      have b1 := b0.trans (s1.mono z0)
      have z1 := b1.size
      have c0_0_1 := below_cell r1 (p := ⟨w.heap.size, 0, none⟩) (v := .string nm0) (by simp [go_sem])
      have c0_1_1 := below_cell r1 (p := ⟨w.heap.size, 1, none⟩) (v := sv0) (by simp [go_sem])
      clear r1
      have al0_0_1 := fun o => alloc_cell o c0_0_1
      have al0_1_1 := fun o => alloc_cell o c0_1_1
      go_wp2
      go_returns
      exact RetB.mk rfl b1
  · skip
    have HA1 := Lib.hid h1; clear h1
    have HS := Lib.hid hs; clear hs
    have HI := Lib.hid hi; clear hi
    go_enter Try.func12, Try.ntmps12
    go_wp2
    go_returns
    exact RetB.mk rfl (by go_grown)

theorem lawApplyCuts_c (w : World) (nm0 : ByteArray) (sv0 : Value) (rs0 : List (Int × Int × Int)) (hnm0 : nm0.size ≤ maxLen) (h0 : Rd w sv0 rs0.length (trips rs0)) (w0 : ∀ z ∈ rs0, I64 z.1 ∧ I64 z.2.1 ∧ I64 z.2.2) (v1 : Value) (zs1 : List Int) (h1 : Rd w v1 zs1.length (ints zs1)) (w1 : ∀ z ∈ zs1, I64 z) (v2 : Value) (ps2 : List (Int × Int)) (h2 : Rd w v2 ps2.length (pairs ps2)) (w2 : ∀ z ∈ ps2, I64 z.1 ∧ I64 z.2) :
    Calls Try.prog 12 #[.agg #[.string nm0, sv0], v1, v2] w (RetB (.bool true) w) :=
  lawApplyCuts_h w nm0 sv0 rs0 hnm0 h0 v1 zs1 h1 v2 ps2 h2 (applyI nm0 rs0 zs1 ps2).1 (applyI nm0 rs0 zs1 ps2).2.1 (by have := applyI_len nm0 rs0 zs1 ps2; omega) _ (fun w' u u1 u2 h h1 h2 => specApplyCuts_c nm0 u rs0 u1 zs1 u2 ps2 w' hnm0 h h1 h2) (fun w' u u1 u2 h h1 h2 => implApplyCuts_c nm0 u rs0 u1 zs1 u2 ps2 w' hnm0 h h1 h2)

end Go.Proofs.Ytddkjcdnomoglaa
