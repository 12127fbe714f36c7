/- The law of FamilyOf, walked. -/
import Derived.Test.YtmeeibcbhjifbaaFamT
import Derived.Test.YtmeeibcbhjifbaaGC
namespace Go.Proofs.Ytmeeibcbhjifbaa
set_option linter.unusedVariables false
open Go.RowKit Go.Proofs.Bell Go.BigFrame

set_option maxRecDepth 100000 in
set_option maxHeartbeats 3200000 in
theorem lawFamilyOf_h (w : World) (nm0 : ByteArray) (sv0 : Value) (rs0 : List (Int × Int × Int)) (hnm0 : nm0.size ≤ maxLen) (h0 : Rd w sv0 rs0.length (trips rs0)) (a1 : Int) (a2 : Int) (a3 : Int) (q0 : List PR) (hq0 : SzPS q0 ≤ 100000) (t1 : Int)
    (hs : ∀ w' u0, Rd w' u0 rs0.length (trips rs0) → Calls Try.prog 8 #[.agg #[.string nm0, u0], .int .i64 a1, .int .i64 a2, .int .i64 a3] w' (RetPS2 q0 (.int .i64 t1) w'))
    (hi : ∀ w' u0, Rd w' u0 rs0.length (trips rs0) → Calls Try.prog 10 #[.agg #[.string nm0, u0], .int .i64 a1, .int .i64 a2, .int .i64 a3] w' (RetPS2 q0 (.int .i64 t1) w')) :
    Calls Try.prog 3 #[.agg #[.string nm0, sv0], .int .i64 a1, .int .i64 a2, .int .i64 a3] w (RetB (.bool true) w) := by
  have hnm0' := hnm0
  unfold maxLen at hnm0'
  by_cases hl0 : ((nm0.size : Int) + rs0.length) ≤ 1048576
  · skip
    have hz0' := fun w' (hb : Below w.heap.size w w') => szProfile_c nm0 sv0 rs0.length (trips rs0) (1048576) w' hnm0 (h0.later hb) (by omega) (by omega)
    rw [leftP_pos (by omega)] at hz0'
    have HZ0 := Lib.hid hz0'; clear hz0'
    have ht0 := fun w' (hb : Below w.heap.size w w') => toProfile_c nm0 sv0 rs0 w' (h0.later hb) (by omega)
    have he0 := fun w' x y (h1 : Rd w' x rs0.length (trips rs0)) (h2 : Rd w' y rs0.length (trips rs0)) => eqProfile_c nm0 nm0 x y rs0 rs0 w' h1 h2
    rw [eqPr_refl] at he0
    clear h0
    have HE0 := Lib.hid he0; clear he0
    have HT0 := Lib.hid ht0; clear ht0
    have heq := fun w' x y (h1 : RdPS w' x q0) (h2 : RdPS w' y q0) => eqProfileS_c x y q0 w' h1 h2
    have HEq := Lib.hid heq; clear heq
    have HS := Lib.hid hs; clear hs
    have HI := Lib.hid hi; clear hi
    go_enter Try.func3, Try.ntmps3
    have b0 : Below w.heap.size w w := Below.refl _ _
    have z0 : w.heap.size ≤ w.heap.size := Nat.le_refl _
    go_wp2_with fail
    refine (HZ0.out _ (by go_grown)).mono ?_
    rintro _ w1 ⟨rfl, r1⟩
    have s1 : Below w.heap.size w w1 := Below.trans (by go_grown) (r1.mono (by simp; try omega))
    have y1 := s1.size
    have v1 : w.heap.size + 1 ≤ w1.heap.size := by have := r1.size; simp only [World.size_alloc] at this; omega
    have b1 := b0.trans (s1.mono z0)
    have z1 := b1.size
    have c0_0_1 := below_cell r1 (p := ⟨w.heap.size, 0, none⟩) (v := .string nm0) (by simp [go_sem])
    have c0_1_1 := below_cell r1 (p := ⟨w.heap.size, 1, none⟩) (v := sv0) (by simp [go_sem])
    clear r1
    go_wp2_with fail
    refine (HT0.out _ b1).mono ?_
    rintro _ w2 ⟨x1, rfl, n1, r2⟩
    have s2 := r2
    have y2 := s2.size
    have b2 := b1.trans (s2.mono z1)
    have z2 := b2.size
    have c0_0_2 := below_cell s2 c0_0_1
    clear c0_0_1
    have c0_1_2 := below_cell s2 c0_1_1
    clear c0_1_1
    obtain ⟨ao1, cap1, g1, rfl, _, _⟩ := own_open n1
    have up1 := fun k hk => (World.ownsRow.lt n1 k hk).2
    have lo1 := fun k hk => (World.ownsRow.lt n1 k hk).1
    try simp only [World.size_alloc] at lo1
    have UP1 := Lib.hid up1; clear up1
    have LO1 := Lib.hid lo1; clear lo1
    have o1' := n1
    have O1_2 := Lib.hid o1'; clear o1'
    clear n1
    go_wp2_with fail
    refine (HS.out _ _ (Rd.of_own O1_2.out)).mono ?_
    rintro _ w3 ⟨xp2, us2, rfl, nm_2, r3⟩
    have s3 := r3
    have y3 := s3.size
    have b3 := b2.trans (s3.mono z2)
    have z3 := b3.size
    have c0_0_3 := below_cell s3 c0_0_2
    clear c0_0_2
    have c0_1_3 := below_cell s3 c0_1_2
    clear c0_1_2
    have o1_3 := own_later O1_2.out s3
    have O1_3 := Lib.hid o1_3; clear o1_3
    obtain ⟨ap2, pp2, rfl⟩ := own_shape nm_2.row
    have om2 : OwnPS w2.heap.size w3.heap.size w3 (.slice ap2 q0.length pp2) us2 q0 := nm_2.wide (by first | exact Nat.le_refl _ | (simp; done) | (simp; omega)) (Nat.le_refl _)
    clear nm_2
    have OM2_3 := Lib.hid om2; clear om2
    go_wp2_with fail
    refine (HT0.out _ b3).mono ?_
    rintro _ w4 ⟨x3, rfl, n3, r4⟩
    have s4 := r4
    have y4 := s4.size
    have b4 := b3.trans (s4.mono z3)
    have z4 := b4.size
    have c0_0_4 := below_cell s4 c0_0_3
    clear c0_0_3
    have c0_1_4 := below_cell s4 c0_1_3
    clear c0_1_3
    have o1_4 := own_later O1_3.out s4
    have O1_4 := Lib.hid o1_4; clear o1_4
    have o2_4 := OM2_3.out.later s4
    have O2_4 := Lib.hid o2_4; clear o2_4
    obtain ⟨ao3, cap3, g3, rfl, _, _⟩ := own_open n3
    have up3 := fun k hk => (World.ownsRow.lt n3 k hk).2
    have lo3 := fun k hk => (World.ownsRow.lt n3 k hk).1
    try simp only [World.size_alloc] at lo3
    have UP3 := Lib.hid up3; clear up3
    have LO3 := Lib.hid lo3; clear lo3
    have o3' := n3
    have O3_4 := Lib.hid o3'; clear o3'
    clear n3
    go_wp2_with fail
    refine (HI.out _ _ ((Rd.of_own O3_4.out).later (by go_grown))).mono ?_
    rintro _ w5 ⟨xp4, us4, rfl, nm_4, r5⟩
    have s5 : Below w4.heap.size w4 w5 := Below.trans (by go_grown) (r5.mono (by simp; try omega))
    have y5 := s5.size
    have v5 : w4.heap.size + 1 ≤ w5.heap.size := by have := r5.size; simp only [World.size_alloc] at this; omega
    have b5 := b4.trans (s5.mono z4)
    have z5 := b5.size
    have c0_0_5 := below_cell s5 c0_0_4
    clear c0_0_4
    have c0_1_5 := below_cell s5 c0_1_4
    clear c0_1_4
    have c1_0_5 := below_cell r5 (p := ⟨w4.heap.size, 0, none⟩) (v := .string nm0) (by simp [go_sem])
    have c1_1_5 := below_cell r5 (p := ⟨w4.heap.size, 1, none⟩) (v := .slice ao3 rs0.length cap3) (by simp [go_sem])
    have o1_5 := own_later O1_4.out s5
    have O1_5 := Lib.hid o1_5; clear o1_5
    have o2_5 := O2_4.out.later s5
    have O2_5 := Lib.hid o2_5; clear o2_5
    have o3_5 := own_later O3_4.out s5
    have O3_5 := Lib.hid o3_5; clear o3_5
    clear r5
    obtain ⟨ap4, pp4, rfl⟩ := own_shape nm_4.row
    have om4 : OwnPS (w4.heap.size + 1) w5.heap.size w5 (.slice ap4 q0.length pp4) us4 q0 := nm_4.wide (by first | exact Nat.le_refl _ | (simp; done) | (simp; omega)) (Nat.le_refl _)
    clear nm_4
    have OM4_5 := Lib.hid om4; clear om4
    go_wp2_with fail
    refine (HEq.out _ _ _ (OM4_5.out.rd) (O2_5.out.rd)).mono ?_
    rintro _ w6 ⟨rfl, r6⟩
    have s6 := r6
    have y6 := s6.size
    have b6 := b5.trans (s6.mono z5)
    have z6 := b6.size
    have c0_0_6 := below_cell s6 c0_0_5
    clear c0_0_5
    have c0_1_6 := below_cell s6 c0_1_5
    clear c0_1_5
    have c1_0_6 := below_cell s6 c1_0_5
    clear c1_0_5
    have c1_1_6 := below_cell s6 c1_1_5
    clear c1_1_5
    have o1_6 := own_later O1_5.out s6
    have O1_6 := Lib.hid o1_6; clear o1_6
    have o2_6 := O2_5.out.later s6
    have O2_6 := Lib.hid o2_6; clear o2_6
    have o3_6 := own_later O3_5.out s6
    have O3_6 := Lib.hid o3_6; clear o3_6
    have o4_6 := OM4_5.out.later s6
    have O4_6 := Lib.hid o4_6; clear o4_6
    go_wp2_with fail
    have ht5 : ∀ w', Below w6.heap.size w6 w' → Calls Try.prog 9 #[.agg #[.string nm0, sv0]] w' (fun e w'' => ∃ u, e = .returned (.agg #[.string nm0, u]) ∧ (OwnR w'.heap.size w'' u rs0 ∧ Below w6.heap.size w6 w'')) := fun w' hb => (HT0.out w' (b6.trans (hb.mono z6))).mono fun _ _ ⟨v, e, o, b⟩ => ⟨v, e, o, hb.trans (b.mono hb.size)⟩
    have he5 : ∀ B w' u, OwnR B w' u rs0 ∧ Below w6.heap.size w6 w' → Calls Try.prog 12 #[.agg #[.string nm0, .slice ao3 rs0.length cap3], .agg #[.string nm0, u]] w' (fun e w'' => e = .returned (.bool true) ∧ Below w6.heap.size w6 w'') := fun B w' v ⟨o, hb⟩ => (HE0.out w' _ _ (Rd.of_own (own_later O3_6.out hb)) (Rd.of_own o)).mono fun _ _ ⟨e, b⟩ => ⟨e, hb.trans (b.mono hb.size)⟩
    have HT5 := Lib.hid ht5; clear ht5
    have HE5 := Lib.hid he5; clear he5
    go_region_held3 (fun w' => w'.cell? ⟨w.heap.size, 0, none⟩ = some (.string nm0) ∧ w'.cell? ⟨w.heap.size, 1, none⟩ = some (sv0) ∧ w'.cell? ⟨w4.heap.size, 0, none⟩ = some (.string nm0) ∧ w'.cell? ⟨w4.heap.size, 1, none⟩ = some (.slice ao3 rs0.length cap3)) (first | exact ⟨c0_0_6, c0_1_6, c1_0_6, c1_1_6⟩ | exact ⟨below_cell O6.out.2 c0_0_6, below_cell O6.out.2 c0_1_6, below_cell O6.out.2 c1_0_6, below_cell O6.out.2 c1_1_6⟩ | exact ⟨below_cell s7 c0_0_6, below_cell s7 c0_1_6, below_cell s7 c1_0_6, below_cell s7 c1_1_6⟩ | go_keep) (first | (go_at_call 9; refine (HT5.out _ (by go_grown)).mono ?_; rintro _ ww6 ⟨vv6, rfl, o6⟩; have O6 := Lib.hid o6; clear o6) | (go_at_call 12; refine (HE5.out _ _ _ (by assumption)).mono ?_; rintro _ w7 ⟨rfl, s7⟩))
    clear HT5 HE5
    have y7 := s7.size
    have b7 := b6.trans (s7.mono z6)
    have z7 := b7.size
    have c0_0_7 := below_cell s7 c0_0_6
    clear c0_0_6
    have c0_1_7 := below_cell s7 c0_1_6
    clear c0_1_6
    have c1_0_7 := below_cell s7 c1_0_6
    clear c1_0_6
    have c1_1_7 := below_cell s7 c1_1_6
    clear c1_1_6
    have o1_7 := own_later O1_6.out s7
    have O1_7 := Lib.hid o1_7; clear o1_7
    have o2_7 := O2_6.out.later s7
    have O2_7 := Lib.hid o2_7; clear o2_7
    have o3_7 := own_later O3_6.out s7
    have O3_7 := Lib.hid o3_7; clear o3_7
    have o4_7 := O4_6.out.later s7
    have O4_7 := Lib.hid o4_7; clear o4_7
    go_wp2_with fail
    refine (markProfile_c _ _ _ _ _ _ _ O3_7.out (by omega) (by omega) (by omega)).mono ?_
    rintro _ w8 ⟨rfl, m8, q8⟩
    have y8 := q8.size
    have b8 := Only.below b7 q8 z7 (fun b hS => by have := LO3.out b hS; omega)
    have z8 := b8.size
    have c0_0_8 := cell_only q8 c0_0_7 (fun hS => by have h1 : _ ≤ w.heap.size := LO3.out _ hS; have h2 : w.heap.size < _ := UP3.out _ hS; omega)
    clear c0_0_7
    have c0_1_8 := cell_only q8 c0_1_7 (fun hS => by have h1 : _ ≤ w.heap.size := LO3.out _ hS; have h2 : w.heap.size < _ := UP3.out _ hS; omega)
    clear c0_1_7
    have c1_0_8 := cell_only q8 c1_0_7 (fun hS => by have h1 : _ ≤ w4.heap.size := LO3.out _ hS; have h2 : w4.heap.size < _ := UP3.out _ hS; omega)
    clear c1_0_7
    have c1_1_8 := cell_only q8 c1_1_7 (fun hS => by have h1 : _ ≤ w4.heap.size := LO3.out _ hS; have h2 : w4.heap.size < _ := UP3.out _ hS; omega)
    clear c1_1_7
    have o1_8 := own_only O1_7.out q8 (fun k hk hS => by have := LO3.out _ hS; have := UP3.out _ hS; have := LO1.out _ hk; have := UP1.out _ hk; omega)
    have O1_8 := Lib.hid o1_8; clear o1_8
    have o2_8 := O2_7.out.only q8 (fun b hS hB => by have := LO3.out _ hS; have := UP3.out _ hS; have h3 := hB.1; have h4 := hB.2; omega)
    have O2_8 := Lib.hid o2_8; clear o2_8
    have o4_8 := O4_7.out.only q8 (fun b hS hB => by have := LO3.out _ hS; have := UP3.out _ hS; have h3 := hB.1; have h4 := hB.2; omega)
    have O4_8 := Lib.hid o4_8; clear o4_8
    have O3_8 := Lib.hid m8; clear m8
    go_wp2_with fail
    refine (HEq.out _ _ _ (O4_8.out.rd) (O2_8.out.rd)).mono ?_
    rintro _ w9 ⟨rfl, r9⟩
    have s9 := r9
    have y9 := s9.size
    have b9 := b8.trans (s9.mono z8)
    have z9 := b9.size
    have c0_0_9 := below_cell s9 c0_0_8
    clear c0_0_8
    have c0_1_9 := below_cell s9 c0_1_8
    clear c0_1_8
    have c1_0_9 := below_cell s9 c1_0_8
    clear c1_0_8
    have c1_1_9 := below_cell s9 c1_1_8
    clear c1_1_8
    have o1_9 := own_later O1_8.out s9
    have O1_9 := Lib.hid o1_9; clear o1_9
    have o2_9 := O2_8.out.later s9
    have O2_9 := Lib.hid o2_9; clear o2_9
    have o3_9 := own_later O3_8.out s9
    have O3_9 := Lib.hid o3_9; clear o3_9
    have o4_9 := O4_8.out.later s9
    have O4_9 := Lib.hid o4_9; clear o4_9
    go_wp2_with fail
    refine (markProfileS_c ((w4.heap.size + 1)) (w5.heap.size) _ _ _ 1 _ O4_9.out (by omega) (by omega)).mono ?_
    rintro _ w10 ⟨rfl, m10, q10⟩
    have y10 := q10.size
    have b10 := Only.below b9 q10 z9 (fun b hS => by have := hS.1; omega)
    have z10 := b10.size
    have c0_0_10 := cell_only q10 c0_0_9 (fun hS => by have h1 := hS.1; have h2 := hS.2; simp only at h1 h2; omega)
    clear c0_0_9
    have c0_1_10 := cell_only q10 c0_1_9 (fun hS => by have h1 := hS.1; have h2 := hS.2; simp only at h1 h2; omega)
    clear c0_1_9
    have c1_0_10 := cell_only q10 c1_0_9 (fun hS => by have h1 := hS.1; have h2 := hS.2; simp only at h1 h2; omega)
    clear c1_0_9
    have c1_1_10 := cell_only q10 c1_1_9 (fun hS => by have h1 := hS.1; have h2 := hS.2; simp only at h1 h2; omega)
    clear c1_1_9
    have o1_10 := own_only O1_9.out q10 (fun k hk hS => by have h1 := hS.1; have h2 := hS.2; have := LO1.out _ hk; have := UP1.out _ hk; omega)
    have O1_10 := Lib.hid o1_10; clear o1_10
    have o2_10 := O2_9.out.only q10 (fun b hS hB => by have h1 := hS.1; have h2 := hS.2; have h3 := hB.1; have h4 := hB.2; omega)
    have O2_10 := Lib.hid o2_10; clear o2_10
    have o3_10 := own_only O3_9.out q10 (fun k hk hS => by have h1 := hS.1; have h2 := hS.2; have := LO3.out _ hk; have := UP3.out _ hk; omega)
    have O3_10 := Lib.hid o3_10; clear o3_10
    have O4_10 := Lib.hid m10; clear m10
    go_wp2_with fail
    refine (heldProfileS_c _ q0 1 _ (O4_10.out.rd) (by omega)).mono ?_
    rintro _ w11 ⟨rfl, r11⟩
    have s11 := r11
    have y11 := s11.size
    have b11 := b10.trans (s11.mono z10)
    have z11 := b11.size
    have c0_0_11 := below_cell s11 c0_0_10
    clear c0_0_10
    have c0_1_11 := below_cell s11 c0_1_10
    clear c0_1_10
    have c1_0_11 := below_cell s11 c1_0_10
    clear c1_0_10
    have c1_1_11 := below_cell s11 c1_1_10
    clear c1_1_10
    have o1_11 := own_later O1_10.out s11
    have O1_11 := Lib.hid o1_11; clear o1_11
    have o2_11 := O2_10.out.later s11
    have O2_11 := Lib.hid o2_11; clear o2_11
    have o3_11 := own_later O3_10.out s11
    have O3_11 := Lib.hid o3_11; clear o3_11
    have o4_11 := O4_10.out.later s11
    have O4_11 := Lib.hid o4_11; clear o4_11
    go_wp2_with fail
    refine (HT0.out _ b11).mono ?_
    rintro _ w12 ⟨x5, rfl, n5, r12⟩
    have s12 := r12
    have y12 := s12.size
    have b12 := b11.trans (s12.mono z11)
    have z12 := b12.size
    have c0_0_12 := below_cell s12 c0_0_11
    clear c0_0_11
    have c0_1_12 := below_cell s12 c0_1_11
    clear c0_1_11
    have c1_0_12 := below_cell s12 c1_0_11
    clear c1_0_11
    have c1_1_12 := below_cell s12 c1_1_11
    clear c1_1_11
    have o1_12 := own_later O1_11.out s12
    have O1_12 := Lib.hid o1_12; clear o1_12
    have o2_12 := O2_11.out.later s12
    have O2_12 := Lib.hid o2_12; clear o2_12
    have o3_12 := own_later O3_11.out s12
    have O3_12 := Lib.hid o3_12; clear o3_12
    have o4_12 := O4_11.out.later s12
    have O4_12 := Lib.hid o4_12; clear o4_12
    obtain ⟨ao5, cap5, g5, rfl, _, _⟩ := own_open n5
    have up5 := fun k hk => (World.ownsRow.lt n5 k hk).2
    have lo5 := fun k hk => (World.ownsRow.lt n5 k hk).1
    try simp only [World.size_alloc] at lo5
    have UP5 := Lib.hid up5; clear up5
    have LO5 := Lib.hid lo5; clear lo5
    have o5' := n5
    have O5_12 := Lib.hid o5'; clear o5'
    clear n5
    go_wp2_with fail
    refine (HI.out _ _ (Rd.of_own O5_12.out)).mono ?_
    rintro _ w13 ⟨xp6, us6, rfl, nm_6, r13⟩
    have s13 := r13
    have y13 := s13.size
    have b13 := b12.trans (s13.mono z12)
    have z13 := b13.size
    have c0_0_13 := below_cell s13 c0_0_12
    clear c0_0_12
    have c0_1_13 := below_cell s13 c0_1_12
    clear c0_1_12
    have c1_0_13 := below_cell s13 c1_0_12
    clear c1_0_12
    have c1_1_13 := below_cell s13 c1_1_12
    clear c1_1_12
    have o1_13 := own_later O1_12.out s13
    have O1_13 := Lib.hid o1_13; clear o1_13
    have o2_13 := O2_12.out.later s13
    have O2_13 := Lib.hid o2_13; clear o2_13
    have o3_13 := own_later O3_12.out s13
    have O3_13 := Lib.hid o3_13; clear o3_13
    have o4_13 := O4_12.out.later s13
    have O4_13 := Lib.hid o4_13; clear o4_13
    have o5_13 := own_later O5_12.out s13
    have O5_13 := Lib.hid o5_13; clear o5_13
    obtain ⟨ap6, pp6, rfl⟩ := own_shape nm_6.row
    have om6 : OwnPS w12.heap.size w13.heap.size w13 (.slice ap6 q0.length pp6) us6 q0 := nm_6.wide (by first | exact Nat.le_refl _ | (simp; done) | (simp; omega)) (Nat.le_refl _)
    clear nm_6
    have OM6_13 := Lib.hid om6; clear om6
    go_wp2_with fail
    refine (HEq.out _ _ _ (OM6_13.out.rd) (O2_13.out.rd)).mono ?_
    rintro _ w14 ⟨rfl, r14⟩
    have s14 := r14
    have y14 := s14.size
    have b14 := b13.trans (s14.mono z13)
    have z14 := b14.size
    have c0_0_14 := below_cell s14 c0_0_13
    clear c0_0_13
    have c0_1_14 := below_cell s14 c0_1_13
    clear c0_1_13
    have c1_0_14 := below_cell s14 c1_0_13
    clear c1_0_13
    have c1_1_14 := below_cell s14 c1_1_13
    clear c1_1_13
    have o1_14 := own_later O1_13.out s14
    have O1_14 := Lib.hid o1_14; clear o1_14
    have o2_14 := O2_13.out.later s14
    have O2_14 := Lib.hid o2_14; clear o2_14
    have o3_14 := own_later O3_13.out s14
    have O3_14 := Lib.hid o3_14; clear o3_14
    have o4_14 := O4_13.out.later s14
    have O4_14 := Lib.hid o4_14; clear o4_14
    have o5_14 := own_later O5_13.out s14
    have O5_14 := Lib.hid o5_14; clear o5_14
    have o6_14 := OM6_13.out.later s14
    have O6_14 := Lib.hid o6_14; clear o6_14
    go_wp2_with fail
    refine (heldProfileS_c _ q0 1 _ (O4_14.out.rd) (by omega)).mono ?_
    rintro _ w15 ⟨rfl, r15⟩
    have s15 := r15
    have y15 := s15.size
    have b15 := b14.trans (s15.mono z14)
    have z15 := b15.size
    have c0_0_15 := below_cell s15 c0_0_14
    clear c0_0_14
    have c0_1_15 := below_cell s15 c0_1_14
    clear c0_1_14
    have c1_0_15 := below_cell s15 c1_0_14
    clear c1_0_14
    have c1_1_15 := below_cell s15 c1_1_14
    clear c1_1_14
    have o1_15 := own_later O1_14.out s15
    have O1_15 := Lib.hid o1_15; clear o1_15
    have o2_15 := O2_14.out.later s15
    have O2_15 := Lib.hid o2_15; clear o2_15
    have o3_15 := own_later O3_14.out s15
    have O3_15 := Lib.hid o3_15; clear o3_15
    have o4_15 := O4_14.out.later s15
    have O4_15 := Lib.hid o4_15; clear o4_15
    have o5_15 := own_later O5_14.out s15
    have O5_15 := Lib.hid o5_15; clear o5_15
    have o6_15 := O6_14.out.later s15
    have O6_15 := Lib.hid o6_15; clear o6_15
    go_wp2
    go_returns
    exact RetB.mk rfl b15
  · skip
    have hz0' := fun w' (hb : Below w.heap.size w w') => szProfile_c nm0 sv0 rs0.length (trips rs0) (1048576) w' hnm0 (h0.later hb) (by omega) (by omega)
    rw [leftP_neg (by omega)] at hz0'
    have HZ0 := Lib.hid hz0'; clear hz0'
    have HS := Lib.hid hs; clear hs
    have HI := Lib.hid hi; clear hi
    go_enter Try.func3, Try.ntmps3
    have b0 : Below w.heap.size w w := Below.refl _ _
    have z0 : w.heap.size ≤ w.heap.size := Nat.le_refl _
    go_wp2_with fail
    refine (HZ0.out _ (by go_grown)).mono ?_
    rintro _ w1 ⟨rfl, r1⟩
    have s1 : Below w.heap.size w w1 := Below.trans (by go_grown) (r1.mono (by simp; try omega))
    have y1 := s1.size
    have v1 : w.heap.size + 1 ≤ w1.heap.size := by have := r1.size; simp only [World.size_alloc] at this; omega
    have b1 := b0.trans (s1.mono z0)
    have z1 := b1.size
    have c0_0_1 := below_cell r1 (p := ⟨w.heap.size, 0, none⟩) (v := .string nm0) (by simp [go_sem])
    have c0_1_1 := below_cell r1 (p := ⟨w.heap.size, 1, none⟩) (v := sv0) (by simp [go_sem])
    clear r1
    go_wp2
    go_returns
    exact RetB.mk rfl b1

theorem lawFamilyOf_c (w : World) (nm0 : ByteArray) (sv0 : Value) (rs0 : List (Int × Int × Int)) (hnm0 : nm0.size ≤ maxLen) (h0 : Rd w sv0 rs0.length (trips rs0)) (w0 : ∀ z ∈ rs0, I64 z.1 ∧ I64 z.2.1 ∧ I64 z.2.2) (a1 : Int) (w1 : I64 a1) (a2 : Int) (w2 : I64 a2) (a3 : Int) (w3 : I64 a3) :
    Calls Try.prog 3 #[.agg #[.string nm0, sv0], .int .i64 a1, .int .i64 a2, .int .i64 a3] w (RetB (.bool true) w) :=
  lawFamilyOf_h w nm0 sv0 rs0 hnm0 h0 a1 a2 a3 (famT nm0 rs0 a1 a2 a3).1 (famT_bd nm0 rs0 a1 a2 a3) _ (fun w' u h => specFamilyOf_c nm0 u rs0 a1 a2 a3 w' hnm0 h) (fun w' u h => implFamilyOf_c nm0 u rs0 a1 a2 a3 w' hnm0 h)

end Go.Proofs.Ytmeeibcbhjifbaa
