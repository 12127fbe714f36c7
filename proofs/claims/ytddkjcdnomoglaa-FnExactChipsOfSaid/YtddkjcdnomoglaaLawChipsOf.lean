/- The law of ChipsOf, walked. -/
import Derived.Test.YtddkjcdnomoglaaChips2
import Derived.Test.YtddkjcdnomoglaaGC
namespace Go.Proofs.Ytddkjcdnomoglaa
set_option linter.unusedVariables false
open Go.RowKit Go.Proofs.Bell Go.BigFrame

set_option maxRecDepth 100000 in
set_option maxHeartbeats 3200000 in
theorem lawChipsOf_h (w : World) (nm0 : ByteArray) (sv0 : Value) (rs0 : List (Int × Int × Int)) (hnm0 : nm0.size ≤ maxLen) (h0 : Rd w sv0 rs0.length (trips rs0)) (v1 : Value) (zs1 : List Int) (h1 : Rd w v1 zs1.length (ints zs1)) (v2 : Value) (ps2 : List (Int × Int)) (h2 : Rd w v2 ps2.length (pairs ps2)) (t0 : Int) (t1 : Int)
    (hs : ∀ w' u0 u1 u2, Rd w' u0 rs0.length (trips rs0) → Rd w' u1 zs1.length (ints zs1) → Rd w' u2 ps2.length (pairs ps2) → Calls Try.prog 45 #[.agg #[.string nm0, u0], u1, u2] w' (RetB (.tuple #[.int .i64 t0, .int .i64 t1]) w'))
    (hi : ∀ w' u0 u1 u2, Rd w' u0 rs0.length (trips rs0) → Rd w' u1 zs1.length (ints zs1) → Rd w' u2 ps2.length (pairs ps2) → Calls Try.prog 47 #[.agg #[.string nm0, u0], u1, u2] w' (RetB (.tuple #[.int .i64 t0, .int .i64 t1]) w')) :
    Calls Try.prog 11 #[.agg #[.string nm0, sv0], v1, v2] w (RetB (.bool true) w) := by
  have hnm0' := hnm0
  unfold maxLen at hnm0'
  obtain ⟨hn1, ao1, cap1, bb1, off1, rfl, hao1, hcell1⟩ := h1.open
  clear hn1 hao1 hcell1
  by_cases hl1 : (zs1.length : Int) ≤ 1048576
  · skip
    by_cases hl0 : ((nm0.size : Int) + rs0.length) ≤ 1048576
    · skip
      have hz0' := fun w' (hb : Below w.heap.size w w') => szProfile_c nm0 sv0 rs0.length (trips rs0) (1048576) w' hnm0 (h0.later hb) (by omega) (by omega)
      rw [leftP_pos (by omega)] at hz0'
      have HZ0 := Lib.hid hz0'; clear hz0'
      by_cases hl2 : (ps2.length : Int) ≤ 1048576 - (nm0.size : Int) - (rs0.length : Int)
      · skip
        have hz2' := fun w' (hb : Below w.heap.size w w') => szCutS_c v2 ps2.length (pairs ps2) (1048576 - (nm0.size : Int) - (rs0.length : Int)) w' (h2.later hb) (by omega) (by omega)
        rw [leftOf_pos (by omega)] at hz2'
        have HZ2 := Lib.hid hz2'; clear hz2'
        have ht0 := fun w' (hb : Below w.heap.size w w') => toProfile_c nm0 sv0 rs0 w' (h0.later hb) (by omega)
        have he0 := fun w' x y (h1 : Rd w' x rs0.length (trips rs0)) (h2 : Rd w' y rs0.length (trips rs0)) => eqProfile_c nm0 nm0 x y rs0 rs0 w' h1 h2
        rw [eqPr_refl] at he0
        clear h0
        have HE0 := Lib.hid he0; clear he0
        have HT0 := Lib.hid ht0; clear ht0
        have ht1 := fun w' (hb : Below w.heap.size w w') => toInt64S_c _ zs1 w' (h1.later hb) (by omega)
        have he1 := fun w' x y (h1 : Rd w' x zs1.length (ints zs1)) (h2 : Rd w' y zs1.length (ints zs1)) => (eqInt64S_c x y zs1 zs1 w' h1 h2).mono fun _ _ h => h.toB
        rw [eqZs_refl] at he1
        have HA1 := Lib.hid h1; clear h1
        have HE1 := Lib.hid he1; clear he1
        have HT1 := Lib.hid ht1; clear ht1
        have ht2 := fun w' (hb : Below w.heap.size w w') => toCutS_c v2 ps2 w' (h2.later hb) (by omega)
        have he2 := fun w' x y (h1 : Rd w' x ps2.length (pairs ps2)) (h2 : Rd w' y ps2.length (pairs ps2)) => eqCutS_c x y ps2 ps2 w' h1 h2
        rw [eqPs_refl] at he2
        have HA2 := Lib.hid h2; clear h2
        have HE2 := Lib.hid he2; clear he2
        have HT2 := Lib.hid ht2; clear ht2
        have HS := Lib.hid hs; clear hs
        have HI := Lib.hid hi; clear hi
        go_enter Try.func11, Try.ntmps11
        have b0 : Below w.heap.size w w := Below.refl _ _
        have z0 : w.heap.size ≤ w.heap.size := Nat.le_refl _
        go_wp2_with fail
        refine (HZ0.out _ (by go_grown)).mono ?_
        rintro _ w1 ⟨rfl, r1⟩
        have s1 : Below w.heap.size w w1 := Below.trans (by go_grown) (r1.mono (by simp; try omega))
        have y1 := s1.size
        have v1 : w.heap.size + 1 ≤ w1.heap.size := by have := r1.size; simp only [World.size_alloc] at this; omega
        have b1 := b0.trans (s1.mono z0)
        have z1 := b1.size
        have c0_0_1 := below_cell r1 (p := ⟨w.heap.size, 0, none⟩) (v := .string nm0) (by simp [go_sem])
        have c0_1_1 := below_cell r1 (p := ⟨w.heap.size, 1, none⟩) (v := sv0) (by simp [go_sem])
        clear r1
        go_wp2_with fail
        refine (HZ2.out _ b1).mono ?_
        rintro _ _ ⟨rfl, rfl⟩
        go_wp2_with fail
        refine (HT0.out _ b1).mono ?_
        rintro _ w2 ⟨x1, rfl, n1, r2⟩
        have s2 := r2
        have y2 := s2.size
        have b2 := b1.trans (s2.mono z1)
        have z2 := b2.size
        have c0_0_2 := below_cell s2 c0_0_1
        clear c0_0_1
        have c0_1_2 := below_cell s2 c0_1_1
        clear c0_1_1
        obtain ⟨ao1, cap1, g1, rfl, _, _⟩ := own_open n1
        have up1 := fun k hk => (World.ownsRow.lt n1 k hk).2
        have lo1 := fun k hk => (World.ownsRow.lt n1 k hk).1
        try simp only [World.size_alloc] at lo1
        have UP1 := Lib.hid up1; clear up1
        have LO1 := Lib.hid lo1; clear lo1
        have o1' := n1
        have O1_2 := Lib.hid o1'; clear o1'
        clear n1
        go_wp2_with fail
        refine (HT1.out _ b2).mono ?_
        rintro _ w3 ⟨x2, rfl, n2, r3⟩
        have s3 := r3
        have y3 := s3.size
        have b3 := b2.trans (s3.mono z2)
        have z3 := b3.size
        have c0_0_3 := below_cell s3 c0_0_2
        clear c0_0_2
        have c0_1_3 := below_cell s3 c0_1_2
        clear c0_1_2
        have o1_3 := own_later O1_2.out s3
        have O1_3 := Lib.hid o1_3; clear o1_3
        obtain ⟨ao2, cap2, g2, rfl, _, _⟩ := own_open n2
        have up2 := fun k hk => (World.ownsRow.lt n2 k hk).2
        have lo2 := fun k hk => (World.ownsRow.lt n2 k hk).1
        try simp only [World.size_alloc] at lo2
        have UP2 := Lib.hid up2; clear up2
        have LO2 := Lib.hid lo2; clear lo2
        have o2' := n2
        have O2_3 := Lib.hid o2'; clear o2'
        clear n2
        go_wp2_with fail
        refine (HT2.out _ b3).mono ?_
        rintro _ w4 ⟨x3, rfl, n3, r4⟩
        have s4 := r4
        have y4 := s4.size
        have b4 := b3.trans (s4.mono z3)
        have z4 := b4.size
        have c0_0_4 := below_cell s4 c0_0_3
        clear c0_0_3
        have c0_1_4 := below_cell s4 c0_1_3
        clear c0_1_3
        have o1_4 := own_later O1_3.out s4
        have O1_4 := Lib.hid o1_4; clear o1_4
        have o2_4 := own_later O2_3.out s4
        have O2_4 := Lib.hid o2_4; clear o2_4
        obtain ⟨ao3, cap3, g3, rfl, _, _⟩ := own_open n3
        have up3 := fun k hk => (World.ownsRow.lt n3 k hk).2
        have lo3 := fun k hk => (World.ownsRow.lt n3 k hk).1
        try simp only [World.size_alloc] at lo3
        have UP3 := Lib.hid up3; clear up3
        have LO3 := Lib.hid lo3; clear lo3
        have o3' := n3
        have O3_4 := Lib.hid o3'; clear o3'
        clear n3
        go_wp2_with fail
        refine (HS.out _ _ _ _ (Rd.of_own O1_4.out) (Rd.of_own O2_4.out) (Rd.of_own O3_4.out)).mono ?_
        rintro _ w5 ⟨rfl, r5⟩
        have s5 := r5
        have y5 := s5.size
        have b5 := b4.trans (s5.mono z4)
        have z5 := b5.size
        have c0_0_5 := below_cell s5 c0_0_4
        clear c0_0_4
        have c0_1_5 := below_cell s5 c0_1_4
        clear c0_1_4
        have o1_5 := own_later O1_4.out s5
        have O1_5 := Lib.hid o1_5; clear o1_5
        have o2_5 := own_later O2_4.out s5
        have O2_5 := Lib.hid o2_5; clear o2_5
        have o3_5 := own_later O3_4.out s5
        have O3_5 := Lib.hid o3_5; clear o3_5
        go_wp2_with fail
        refine (HT0.out _ b5).mono ?_
        rintro _ w6 ⟨x4, rfl, n4, r6⟩
        have s6 := r6
        have y6 := s6.size
        have b6 := b5.trans (s6.mono z5)
        have z6 := b6.size
        have c0_0_6 := below_cell s6 c0_0_5
        clear c0_0_5
        have c0_1_6 := below_cell s6 c0_1_5
        clear c0_1_5
        have o1_6 := own_later O1_5.out s6
        have O1_6 := Lib.hid o1_6; clear o1_6
        have o2_6 := own_later O2_5.out s6
        have O2_6 := Lib.hid o2_6; clear o2_6
        have o3_6 := own_later O3_5.out s6
        have O3_6 := Lib.hid o3_6; clear o3_6
        obtain ⟨ao4, cap4, g4, rfl, _, _⟩ := own_open n4
        have up4 := fun k hk => (World.ownsRow.lt n4 k hk).2
        have lo4 := fun k hk => (World.ownsRow.lt n4 k hk).1
        try simp only [World.size_alloc] at lo4
        have UP4 := Lib.hid up4; clear up4
        have LO4 := Lib.hid lo4; clear lo4
        have o4' := n4
        have O4_6 := Lib.hid o4'; clear o4'
        clear n4
        go_wp2_with fail
        refine (HT1.out _ (by go_grown)).mono ?_
        rintro _ w7 ⟨x5, rfl, n5, r7⟩
        have s7 : Below w6.heap.size w6 w7 := Below.trans (by go_grown) (r7.mono (by simp; try omega))
        have y7 := s7.size
        have v7 : w6.heap.size + 1 ≤ w7.heap.size := by have := r7.size; simp only [World.size_alloc] at this; omega
        have b7 := b6.trans (s7.mono z6)
        have z7 := b7.size
        have c0_0_7 := below_cell s7 c0_0_6
        clear c0_0_6
        have c0_1_7 := below_cell s7 c0_1_6
        clear c0_1_6
        have c1_0_7 := below_cell r7 (p := ⟨w6.heap.size, 0, none⟩) (v := .string nm0) (by simp [go_sem])
        have c1_1_7 := below_cell r7 (p := ⟨w6.heap.size, 1, none⟩) (v := .slice ao4 rs0.length cap4) (by simp [go_sem])
        have o1_7 := own_later O1_6.out s7
        have O1_7 := Lib.hid o1_7; clear o1_7
        have o2_7 := own_later O2_6.out s7
        have O2_7 := Lib.hid o2_7; clear o2_7
        have o3_7 := own_later O3_6.out s7
        have O3_7 := Lib.hid o3_7; clear o3_7
        have o4_7 := own_later O4_6.out s7
        have O4_7 := Lib.hid o4_7; clear o4_7
        clear r7
        obtain ⟨ao5, cap5, g5, rfl, _, _⟩ := own_open n5
        have up5 := fun k hk => (World.ownsRow.lt n5 k hk).2
        have lo5 := fun k hk => (World.ownsRow.lt n5 k hk).1
        try simp only [World.size_alloc] at lo5
        have UP5 := Lib.hid up5; clear up5
        have LO5 := Lib.hid lo5; clear lo5
        have o5' := n5
        have O5_7 := Lib.hid o5'; clear o5'
        clear n5
        go_wp2_with fail
        refine (HT2.out _ b7).mono ?_
        rintro _ w8 ⟨x6, rfl, n6, r8⟩
        have s8 := r8
        have y8 := s8.size
        have b8 := b7.trans (s8.mono z7)
        have z8 := b8.size
        have c0_0_8 := below_cell s8 c0_0_7
        clear c0_0_7
        have c0_1_8 := below_cell s8 c0_1_7
        clear c0_1_7
        have c1_0_8 := below_cell s8 c1_0_7
        clear c1_0_7
        have c1_1_8 := below_cell s8 c1_1_7
        clear c1_1_7
        have o1_8 := own_later O1_7.out s8
        have O1_8 := Lib.hid o1_8; clear o1_8
        have o2_8 := own_later O2_7.out s8
        have O2_8 := Lib.hid o2_8; clear o2_8
        have o3_8 := own_later O3_7.out s8
        have O3_8 := Lib.hid o3_8; clear o3_8
        have o4_8 := own_later O4_7.out s8
        have O4_8 := Lib.hid o4_8; clear o4_8
        have o5_8 := own_later O5_7.out s8
        have O5_8 := Lib.hid o5_8; clear o5_8
        obtain ⟨ao6, cap6, g6, rfl, _, _⟩ := own_open n6
        have up6 := fun k hk => (World.ownsRow.lt n6 k hk).2
        have lo6 := fun k hk => (World.ownsRow.lt n6 k hk).1
        try simp only [World.size_alloc] at lo6
        have UP6 := Lib.hid up6; clear up6
        have LO6 := Lib.hid lo6; clear lo6
        have o6' := n6
        have O6_8 := Lib.hid o6'; clear o6'
        clear n6
        go_wp2_with fail
        refine (HI.out _ _ _ _ (Rd.of_own O4_8.out) (Rd.of_own O5_8.out) (Rd.of_own O6_8.out)).mono ?_
        rintro _ w9 ⟨rfl, r9⟩
        have s9 := r9
        have y9 := s9.size
        have b9 := b8.trans (s9.mono z8)
        have z9 := b9.size
        have c0_0_9 := below_cell s9 c0_0_8
        clear c0_0_8
        have c0_1_9 := below_cell s9 c0_1_8
        clear c0_1_8
        have c1_0_9 := below_cell s9 c1_0_8
        clear c1_0_8
        have c1_1_9 := below_cell s9 c1_1_8
        clear c1_1_8
        have o1_9 := own_later O1_8.out s9
        have O1_9 := Lib.hid o1_9; clear o1_9
        have o2_9 := own_later O2_8.out s9
        have O2_9 := Lib.hid o2_9; clear o2_9
        have o3_9 := own_later O3_8.out s9
        have O3_9 := Lib.hid o3_9; clear o3_9
        have o4_9 := own_later O4_8.out s9
        have O4_9 := Lib.hid o4_9; clear o4_9
        have o5_9 := own_later O5_8.out s9
        have O5_9 := Lib.hid o5_9; clear o5_9
        have o6_9 := own_later O6_8.out s9
        have O6_9 := Lib.hid o6_9; clear o6_9
        go_wp2_with fail
        have ht5 : ∀ w', Below w9.heap.size w9 w' → Calls Try.prog 17 #[.agg #[.string nm0, sv0]] w' (fun e w'' => ∃ u, e = .returned (.agg #[.string nm0, u]) ∧ (OwnR w'.heap.size w'' u rs0 ∧ Below w9.heap.size w9 w'')) := fun w' hb => (HT0.out w' (b9.trans (hb.mono z9))).mono fun _ _ ⟨v, e, o, b⟩ => ⟨v, e, o, hb.trans (b.mono hb.size)⟩
        have he5 : ∀ B w' u, OwnR B w' u rs0 ∧ Below w9.heap.size w9 w' → Calls Try.prog 20 #[.agg #[.string nm0, .slice ao4 rs0.length cap4], .agg #[.string nm0, u]] w' (fun e w'' => e = .returned (.bool true) ∧ Below w9.heap.size w9 w'') := fun B w' v ⟨o, hb⟩ => (HE0.out w' _ _ (Rd.of_own (own_later O4_9.out hb)) (Rd.of_own o)).mono fun _ _ ⟨e, b⟩ => ⟨e, hb.trans (b.mono hb.size)⟩
        have HT5 := Lib.hid ht5; clear ht5
        have HE5 := Lib.hid he5; clear he5
        go_region_held3 (fun w' => w'.cell? ⟨w.heap.size, 0, none⟩ = some (.string nm0) ∧ w'.cell? ⟨w.heap.size, 1, none⟩ = some (sv0) ∧ w'.cell? ⟨w6.heap.size, 0, none⟩ = some (.string nm0) ∧ w'.cell? ⟨w6.heap.size, 1, none⟩ = some (.slice ao4 rs0.length cap4)) (first | exact ⟨c0_0_9, c0_1_9, c1_0_9, c1_1_9⟩ | exact ⟨below_cell O6.out.2 c0_0_9, below_cell O6.out.2 c0_1_9, below_cell O6.out.2 c1_0_9, below_cell O6.out.2 c1_1_9⟩ | exact ⟨below_cell s10 c0_0_9, below_cell s10 c0_1_9, below_cell s10 c1_0_9, below_cell s10 c1_1_9⟩ | go_keep) (first | (go_at_call 17; refine (HT5.out _ (by go_grown)).mono ?_; rintro _ ww6 ⟨vv6, rfl, o6⟩; have O6 := Lib.hid o6; clear o6) | (go_at_call 20; refine (HE5.out _ _ _ (by assumption)).mono ?_; rintro _ w10 ⟨rfl, s10⟩))
        clear HT5 HE5
        have y10 := s10.size
        have b10 := b9.trans (s10.mono z9)
        have z10 := b10.size
        have c0_0_10 := below_cell s10 c0_0_9
        clear c0_0_9
        have c0_1_10 := below_cell s10 c0_1_9
        clear c0_1_9
        have c1_0_10 := below_cell s10 c1_0_9
        clear c1_0_9
        have c1_1_10 := below_cell s10 c1_1_9
        clear c1_1_9
        have o1_10 := own_later O1_9.out s10
        have O1_10 := Lib.hid o1_10; clear o1_10
        have o2_10 := own_later O2_9.out s10
        have O2_10 := Lib.hid o2_10; clear o2_10
        have o3_10 := own_later O3_9.out s10
        have O3_10 := Lib.hid o3_10; clear o3_10
        have o4_10 := own_later O4_9.out s10
        have O4_10 := Lib.hid o4_10; clear o4_10
        have o5_10 := own_later O5_9.out s10
        have O5_10 := Lib.hid o5_10; clear o5_10
        have o6_10 := own_later O6_9.out s10
        have O6_10 := Lib.hid o6_10; clear o6_10
        go_wp2_with fail
        refine (HT1.out _ b10).mono ?_
        rintro _ w11 ⟨x7, rfl, n7, r11⟩
        have s11 := r11
        have y11 := s11.size
        have b11 := b10.trans (s11.mono z10)
        have z11 := b11.size
        have c0_0_11 := below_cell s11 c0_0_10
        clear c0_0_10
        have c0_1_11 := below_cell s11 c0_1_10
        clear c0_1_10
        have c1_0_11 := below_cell s11 c1_0_10
        clear c1_0_10
        have c1_1_11 := below_cell s11 c1_1_10
        clear c1_1_10
        have o1_11 := own_later O1_10.out s11
        have O1_11 := Lib.hid o1_11; clear o1_11
        have o2_11 := own_later O2_10.out s11
        have O2_11 := Lib.hid o2_11; clear o2_11
        have o3_11 := own_later O3_10.out s11
        have O3_11 := Lib.hid o3_11; clear o3_11
        have o4_11 := own_later O4_10.out s11
        have O4_11 := Lib.hid o4_11; clear o4_11
        have o5_11 := own_later O5_10.out s11
        have O5_11 := Lib.hid o5_11; clear o5_11
        have o6_11 := own_later O6_10.out s11
        have O6_11 := Lib.hid o6_11; clear o6_11
        obtain ⟨ao7, cap7, g7, rfl, _, _⟩ := own_open n7
        have up7 := fun k hk => (World.ownsRow.lt n7 k hk).2
        have lo7 := fun k hk => (World.ownsRow.lt n7 k hk).1
        try simp only [World.size_alloc] at lo7
        have UP7 := Lib.hid up7; clear up7
        have LO7 := Lib.hid lo7; clear lo7
        have o7' := n7
        have O7_11 := Lib.hid o7'; clear o7'
        clear n7
        go_wp2_with fail
        refine (HE1.out _ _ _ (Rd.of_own O5_11.out) (Rd.of_own O7_11.out)).mono ?_
        rintro _ w12 ⟨rfl, r12⟩
        have s12 := r12
        have y12 := s12.size
        have b12 := b11.trans (s12.mono z11)
        have z12 := b12.size
        have c0_0_12 := below_cell s12 c0_0_11
        clear c0_0_11
        have c0_1_12 := below_cell s12 c0_1_11
        clear c0_1_11
        have c1_0_12 := below_cell s12 c1_0_11
        clear c1_0_11
        have c1_1_12 := below_cell s12 c1_1_11
        clear c1_1_11
        have o1_12 := own_later O1_11.out s12
        have O1_12 := Lib.hid o1_12; clear o1_12
        have o2_12 := own_later O2_11.out s12
        have O2_12 := Lib.hid o2_12; clear o2_12
        have o3_12 := own_later O3_11.out s12
        have O3_12 := Lib.hid o3_12; clear o3_12
        have o4_12 := own_later O4_11.out s12
        have O4_12 := Lib.hid o4_12; clear o4_12
        have o5_12 := own_later O5_11.out s12
        have O5_12 := Lib.hid o5_12; clear o5_12
        have o6_12 := own_later O6_11.out s12
        have O6_12 := Lib.hid o6_12; clear o6_12
        have o7_12 := own_later O7_11.out s12
        have O7_12 := Lib.hid o7_12; clear o7_12
        go_wp2_with fail
        refine (HT2.out _ b12).mono ?_
        rintro _ w13 ⟨x8, rfl, n8, r13⟩
        have s13 := r13
        have y13 := s13.size
        have b13 := b12.trans (s13.mono z12)
        have z13 := b13.size
        have c0_0_13 := below_cell s13 c0_0_12
        clear c0_0_12
        have c0_1_13 := below_cell s13 c0_1_12
        clear c0_1_12
        have c1_0_13 := below_cell s13 c1_0_12
        clear c1_0_12
        have c1_1_13 := below_cell s13 c1_1_12
        clear c1_1_12
        have o1_13 := own_later O1_12.out s13
        have O1_13 := Lib.hid o1_13; clear o1_13
        have o2_13 := own_later O2_12.out s13
        have O2_13 := Lib.hid o2_13; clear o2_13
        have o3_13 := own_later O3_12.out s13
        have O3_13 := Lib.hid o3_13; clear o3_13
        have o4_13 := own_later O4_12.out s13
        have O4_13 := Lib.hid o4_13; clear o4_13
        have o5_13 := own_later O5_12.out s13
        have O5_13 := Lib.hid o5_13; clear o5_13
        have o6_13 := own_later O6_12.out s13
        have O6_13 := Lib.hid o6_13; clear o6_13
        have o7_13 := own_later O7_12.out s13
        have O7_13 := Lib.hid o7_13; clear o7_13
        obtain ⟨ao8, cap8, g8, rfl, _, _⟩ := own_open n8
        have up8 := fun k hk => (World.ownsRow.lt n8 k hk).2
        have lo8 := fun k hk => (World.ownsRow.lt n8 k hk).1
        try simp only [World.size_alloc] at lo8
        have UP8 := Lib.hid up8; clear up8
        have LO8 := Lib.hid lo8; clear lo8
        have o8' := n8
        have O8_13 := Lib.hid o8'; clear o8'
        clear n8
        go_wp2_with fail
        refine (HE2.out _ _ _ (Rd.of_own O6_13.out) (Rd.of_own O8_13.out)).mono ?_
        rintro _ w14 ⟨rfl, r14⟩
        have s14 := r14
        have y14 := s14.size
        have b14 := b13.trans (s14.mono z13)
        have z14 := b14.size
        have c0_0_14 := below_cell s14 c0_0_13
        clear c0_0_13
        have c0_1_14 := below_cell s14 c0_1_13
        clear c0_1_13
        have c1_0_14 := below_cell s14 c1_0_13
        clear c1_0_13
        have c1_1_14 := below_cell s14 c1_1_13
        clear c1_1_13
        have o1_14 := own_later O1_13.out s14
        have O1_14 := Lib.hid o1_14; clear o1_14
        have o2_14 := own_later O2_13.out s14
        have O2_14 := Lib.hid o2_14; clear o2_14
        have o3_14 := own_later O3_13.out s14
        have O3_14 := Lib.hid o3_14; clear o3_14
        have o4_14 := own_later O4_13.out s14
        have O4_14 := Lib.hid o4_14; clear o4_14
        have o5_14 := own_later O5_13.out s14
        have O5_14 := Lib.hid o5_14; clear o5_14
        have o6_14 := own_later O6_13.out s14
        have O6_14 := Lib.hid o6_14; clear o6_14
        have o7_14 := own_later O7_13.out s14
        have O7_14 := Lib.hid o7_14; clear o7_14
        have o8_14 := own_later O8_13.out s14
        have O8_14 := Lib.hid o8_14; clear o8_14
        go_wp2
        go_returns
        exact RetB.mk rfl b14
      · skip
        have hz2' := fun w' (hb : Below w.heap.size w w') => szCutS_c v2 ps2.length (pairs ps2) (1048576 - (nm0.size : Int) - (rs0.length : Int)) w' (h2.later hb) (by omega) (by omega)
        rw [leftOf_neg (by omega)] at hz2'
        have HZ2 := Lib.hid hz2'; clear hz2'
        have HS := Lib.hid hs; clear hs
        have HI := Lib.hid hi; clear hi
        go_enter Try.func11, Try.ntmps11
        have b0 : Below w.heap.size w w := Below.refl _ _
        have z0 : w.heap.size ≤ w.heap.size := Nat.le_refl _
        go_wp2_with fail
        refine (HZ0.out _ (by go_grown)).mono ?_
        rintro _ w1 ⟨rfl, r1⟩
        have s1 : Below w.heap.size w w1 := Below.trans (by go_grown) (r1.mono (by simp; try omega))
        have y1 := s1.size
        have v1 : w.heap.size + 1 ≤ w1.heap.size := by have := r1.size; simp only [World.size_alloc] at this; omega
        have b1 := b0.trans (s1.mono z0)
        have z1 := b1.size
        have c0_0_1 := below_cell r1 (p := ⟨w.heap.size, 0, none⟩) (v := .string nm0) (by simp [go_sem])
        have c0_1_1 := below_cell r1 (p := ⟨w.heap.size, 1, none⟩) (v := sv0) (by simp [go_sem])
        clear r1
        go_wp2_with fail
        refine (HZ2.out _ b1).mono ?_
        rintro _ _ ⟨rfl, rfl⟩
        go_wp2
        go_returns
        exact RetB.mk rfl b1
    · skip
      have hz0' := fun w' (hb : Below w.heap.size w w') => szProfile_c nm0 sv0 rs0.length (trips rs0) (1048576) w' hnm0 (h0.later hb) (by omega) (by omega)
      rw [leftP_neg (by omega)] at hz0'
      have HZ0 := Lib.hid hz0'; clear hz0'
      have HS := Lib.hid hs; clear hs
      have HI := Lib.hid hi; clear hi
      go_enter Try.func11, Try.ntmps11
      have b0 : Below w.heap.size w w := Below.refl _ _
      have z0 : w.heap.size ≤ w.heap.size := Nat.le_refl _
      go_wp2_with fail
      refine (HZ0.out _ (by go_grown)).mono ?_
      rintro _ w1 ⟨rfl, r1⟩
      have s1 : Below w.heap.size w w1 := Below.trans (by go_grown) (r1.mono (by simp; try omega))
      have y1 := s1.size
      have v1 : w.heap.size + 1 ≤ w1.heap.size := by have := r1.size; simp only [World.size_alloc] at this; omega
      have b1 := b0.trans (s1.mono z0)
      have z1 := b1.size
      have c0_0_1 := below_cell r1 (p := ⟨w.heap.size, 0, none⟩) (v := .string nm0) (by simp [go_sem])
      have c0_1_1 := below_cell r1 (p := ⟨w.heap.size, 1, none⟩) (v := sv0) (by simp [go_sem])
      clear r1
      go_wp2
      go_returns
      exact RetB.mk rfl b1
  · skip
    have HA1 := Lib.hid h1; clear h1
    have HS := Lib.hid hs; clear hs
    have HI := Lib.hid hi; clear hi
    go_enter Try.func11, Try.ntmps11
    go_wp2
    go_returns
    exact RetB.mk rfl (by go_grown)

theorem lawChipsOf_c (w : World) (nm0 : ByteArray) (sv0 : Value) (rs0 : List (Int × Int × Int)) (hnm0 : nm0.size ≤ maxLen) (h0 : Rd w sv0 rs0.length (trips rs0)) (w0 : ∀ z ∈ rs0, I64 z.1 ∧ I64 z.2.1 ∧ I64 z.2.2) (v1 : Value) (zs1 : List Int) (h1 : Rd w v1 zs1.length (ints zs1)) (w1 : ∀ z ∈ zs1, I64 z) (v2 : Value) (ps2 : List (Int × Int)) (h2 : Rd w v2 ps2.length (pairs ps2)) (w2 : ∀ z ∈ ps2, I64 z.1 ∧ I64 z.2) :
    Calls Try.prog 11 #[.agg #[.string nm0, sv0], v1, v2] w (RetB (.bool true) w) :=
  lawChipsOf_h w nm0 sv0 rs0 hnm0 h0 v1 zs1 h1 v2 ps2 h2 _ _ (fun w' u u1 u2 h h1 h2 => specChipsOf_c nm0 u rs0 u1 zs1 u2 ps2 w' hnm0 h h1 h2) (fun w' u u1 u2 h h1 h2 => implChipsOf_c nm0 u rs0 u1 zs1 u2 ps2 w' hnm0 h h1 h2)

end Go.Proofs.Ytddkjcdnomoglaa
