/- The law of MostSteps, walked. -/
import Derived.Test.YtddkjcdnomoglaaLawBase
import Derived.Test.YtddkjcdnomoglaaMost3
namespace Go.Proofs.Ytddkjcdnomoglaa
set_option linter.unusedVariables false
open Go.RowKit Go.Proofs.Bell Go.BigFrame

set_option maxRecDepth 100000 in
set_option maxHeartbeats 3200000 in
theorem lawMostSteps_h (w : World) (nm0 : ByteArray) (sv0 : Value) (rs0 : List (Int × Int × Int)) (hnm0 : nm0.size ≤ maxLen) (h0 : Rd w sv0 rs0.length (trips rs0)) (v1 : Value) (zs1 : List Int) (h1 : Rd w v1 zs1.length (ints zs1)) (a2 : Int) (t0 : Int) (t1 : Int)
    (hs : ∀ w' u0 u1, Rd w' u0 rs0.length (trips rs0) → Rd w' u1 zs1.length (ints zs1) → Calls Try.prog 16 #[.agg #[.string nm0, u0], u1, .int .i64 a2] w' (RetB (.tuple #[.int .i64 t0, .int .i64 t1]) w'))
    (hi : ∀ w' u0 u1, Rd w' u0 rs0.length (trips rs0) → Rd w' u1 zs1.length (ints zs1) → Calls Try.prog 19 #[.agg #[.string nm0, u0], u1, .int .i64 a2] w' (RetB (.tuple #[.int .i64 t0, .int .i64 t1]) w')) :
    Calls Try.prog 3 #[.agg #[.string nm0, sv0], v1, .int .i64 a2] w (RetB (.bool true) w) := by
  have hnm0' := hnm0
  unfold maxLen at hnm0'
  obtain ⟨hn1, ao1, cap1, bb1, off1, rfl, hao1, hcell1⟩ := h1.open
  clear hn1 hao1 hcell1
  by_cases hl1 : (zs1.length : Int) ≤ 1048576
  · skip
    by_cases hl0 : ((nm0.size : Int) + rs0.length) ≤ 1048576
    · skip
      have hz0' := fun w' (hb : Below w.heap.size w w') => szProfile_c nm0 sv0 rs0.length (trips rs0) (1048576) w' hnm0 (h0.later hb) (by omega) (by omega)
      rw [leftP_pos (by omega)] at hz0'
      have HZ0 := Lib.hid hz0'; clear hz0'
      have ht0 := fun w' (hb : Below w.heap.size w w') => toProfile_c nm0 sv0 rs0 w' (h0.later hb) (by omega)
      have he0 := fun w' x y (h1 : Rd w' x rs0.length (trips rs0)) (h2 : Rd w' y rs0.length (trips rs0)) => eqProfile_c nm0 nm0 x y rs0 rs0 w' h1 h2
      rw [eqPr_refl] at he0
      clear h0
      have HE0 := Lib.hid he0; clear he0
      have HT0 := Lib.hid ht0; clear ht0
      have ht1 := fun w' (hb : Below w.heap.size w w') => toInt64S_c _ zs1 w' (h1.later hb) (by omega)
      have he1 := fun w' x y (h1 : Rd w' x zs1.length (ints zs1)) (h2 : Rd w' y zs1.length (ints zs1)) => (eqInt64S_c x y zs1 zs1 w' h1 h2).mono fun _ _ h => h.toB
      rw [eqZs_refl] at he1
      have HA1 := Lib.hid h1; clear h1
      have HE1 := Lib.hid he1; clear he1
      have HT1 := Lib.hid ht1; clear ht1
      have HS := Lib.hid hs; clear hs
      have HI := Lib.hid hi; clear hi
      go_enter Try.func3, Try.ntmps3
      have b0 : Below w.heap.size w w := Below.refl _ _
      have z0 : w.heap.size ≤ w.heap.size := Nat.le_refl _
      go_wp2_with fail
      refine (HZ0.out _ (by go_grown)).mono ?_
      rintro _ w1 ⟨rfl, r1⟩
      have s1 : Below w.heap.size w w1 := Below.trans (by go_grown) (r1.mono (by simp; try omega))
      have y1 := s1.size
      have v1 : w.heap.size + 1 ≤ w1.heap.size := by have := r1.size; simp only [World.size_alloc] at this; omega
      have b1 := b0.trans (s1.mono z0)
      have z1 := b1.size
      have c0_0_1 := below_cell r1 (p := ⟨w.heap.size, 0, none⟩) (v := .string nm0) (by simp [go_sem])
      have c0_1_1 := below_cell r1 (p := ⟨w.heap.size, 1, none⟩) (v := sv0) (by simp [go_sem])
      clear r1
      go_wp2_with fail
      refine (HT0.out _ b1).mono ?_
      rintro _ w2 ⟨x1, rfl, n1, r2⟩
      have s2 := r2
      have y2 := s2.size
      have b2 := b1.trans (s2.mono z1)
      have z2 := b2.size
      have c0_0_2 := below_cell s2 c0_0_1
      clear c0_0_1
      have c0_1_2 := below_cell s2 c0_1_1
      clear c0_1_1
      obtain ⟨ao1, cap1, g1, rfl, _, _⟩ := own_open n1
      have up1 := fun k hk => (World.ownsRow.lt n1 k hk).2
      have lo1 := fun k hk => (World.ownsRow.lt n1 k hk).1
      try simp only [World.size_alloc] at lo1
      have UP1 := Lib.hid up1; clear up1
      have LO1 := Lib.hid lo1; clear lo1
      have o1' := n1
      have O1_2 := Lib.hid o1'; clear o1'
      clear n1
      go_wp2_with fail
      refine (HT1.out _ b2).mono ?_
      rintro _ w3 ⟨x2, rfl, n2, r3⟩
      have s3 := r3
      have y3 := s3.size
      have b3 := b2.trans (s3.mono z2)
      have z3 := b3.size
      have c0_0_3 := below_cell s3 c0_0_2
      clear c0_0_2
      have c0_1_3 := below_cell s3 c0_1_2
      clear c0_1_2
      have o1_3 := own_later O1_2.out s3
      have O1_3 := Lib.hid o1_3; clear o1_3
      obtain ⟨ao2, cap2, g2, rfl, _, _⟩ := own_open n2
      have up2 := fun k hk => (World.ownsRow.lt n2 k hk).2
      have lo2 := fun k hk => (World.ownsRow.lt n2 k hk).1
      try simp only [World.size_alloc] at lo2
      have UP2 := Lib.hid up2; clear up2
      have LO2 := Lib.hid lo2; clear lo2
      have o2' := n2
      have O2_3 := Lib.hid o2'; clear o2'
      clear n2
      go_wp2_with fail
      refine (HS.out _ _ _ (Rd.of_own O1_3.out) (Rd.of_own O2_3.out)).mono ?_
      rintro _ w4 ⟨rfl, r4⟩
      have s4 := r4
      have y4 := s4.size
      have b4 := b3.trans (s4.mono z3)
      have z4 := b4.size
      have c0_0_4 := below_cell s4 c0_0_3
      clear c0_0_3
      have c0_1_4 := below_cell s4 c0_1_3
      clear c0_1_3
      have o1_4 := own_later O1_3.out s4
      have O1_4 := Lib.hid o1_4; clear o1_4
      have o2_4 := own_later O2_3.out s4
      have O2_4 := Lib.hid o2_4; clear o2_4
      go_wp2_with fail
      refine (HT0.out _ b4).mono ?_
      rintro _ w5 ⟨x3, rfl, n3, r5⟩
      have s5 := r5
      have y5 := s5.size
      have b5 := b4.trans (s5.mono z4)
      have z5 := b5.size
      have c0_0_5 := below_cell s5 c0_0_4
      clear c0_0_4
      have c0_1_5 := below_cell s5 c0_1_4
      clear c0_1_4
      have o1_5 := own_later O1_4.out s5
      have O1_5 := Lib.hid o1_5; clear o1_5
      have o2_5 := own_later O2_4.out s5
      have O2_5 := Lib.hid o2_5; clear o2_5
      obtain ⟨ao3, cap3, g3, rfl, _, _⟩ := own_open n3
      have up3 := fun k hk => (World.ownsRow.lt n3 k hk).2
      have lo3 := fun k hk => (World.ownsRow.lt n3 k hk).1
      try simp only [World.size_alloc] at lo3
      have UP3 := Lib.hid up3; clear up3
      have LO3 := Lib.hid lo3; clear lo3
      have o3' := n3
      have O3_5 := Lib.hid o3'; clear o3'
      clear n3
      go_wp2_with fail
      refine (HT1.out _ (by go_grown)).mono ?_
      rintro _ w6 ⟨x4, rfl, n4, r6⟩
      have s6 : Below w5.heap.size w5 w6 := Below.trans (by go_grown) (r6.mono (by simp; try omega))
      have y6 := s6.size
      have v6 : w5.heap.size + 1 ≤ w6.heap.size := by have := r6.size; simp only [World.size_alloc] at this; omega
      have b6 := b5.trans (s6.mono z5)
      have z6 := b6.size
      have c0_0_6 := below_cell s6 c0_0_5
      clear c0_0_5
      have c0_1_6 := below_cell s6 c0_1_5
      clear c0_1_5
      have c1_0_6 := below_cell r6 (p := ⟨w5.heap.size, 0, none⟩) (v := .string nm0) (by simp [go_sem])
      have c1_1_6 := below_cell r6 (p := ⟨w5.heap.size, 1, none⟩) (v := .slice ao3 rs0.length cap3) (by simp [go_sem])
      have o1_6 := own_later O1_5.out s6
      have O1_6 := Lib.hid o1_6; clear o1_6
      have o2_6 := own_later O2_5.out s6
      have O2_6 := Lib.hid o2_6; clear o2_6
      have o3_6 := own_later O3_5.out s6
      have O3_6 := Lib.hid o3_6; clear o3_6
      clear r6
      obtain ⟨ao4, cap4, g4, rfl, _, _⟩ := own_open n4
      have up4 := fun k hk => (World.ownsRow.lt n4 k hk).2
      have lo4 := fun k hk => (World.ownsRow.lt n4 k hk).1
      try simp only [World.size_alloc] at lo4
      have UP4 := Lib.hid up4; clear up4
      have LO4 := Lib.hid lo4; clear lo4
      have o4' := n4
      have O4_6 := Lib.hid o4'; clear o4'
      clear n4
      go_wp2_with fail
      refine (HI.out _ _ _ (Rd.of_own O3_6.out) (Rd.of_own O4_6.out)).mono ?_
      rintro _ w7 ⟨rfl, r7⟩
      have s7 := r7
      have y7 := s7.size
      have b7 := b6.trans (s7.mono z6)
      have z7 := b7.size
      have c0_0_7 := below_cell s7 c0_0_6
      clear c0_0_6
      have c0_1_7 := below_cell s7 c0_1_6
      clear c0_1_6
      have c1_0_7 := below_cell s7 c1_0_6
      clear c1_0_6
      have c1_1_7 := below_cell s7 c1_1_6
      clear c1_1_6
      have o1_7 := own_later O1_6.out s7
      have O1_7 := Lib.hid o1_7; clear o1_7
      have o2_7 := own_later O2_6.out s7
      have O2_7 := Lib.hid o2_7; clear o2_7
      have o3_7 := own_later O3_6.out s7
      have O3_7 := Lib.hid o3_7; clear o3_7
      have o4_7 := own_later O4_6.out s7
      have O4_7 := Lib.hid o4_7; clear o4_7
      go_wp2_with fail
      have ht5 : ∀ w', Below w7.heap.size w7 w' → Calls Try.prog 17 #[.agg #[.string nm0, sv0]] w' (fun e w'' => ∃ u, e = .returned (.agg #[.string nm0, u]) ∧ (OwnR w'.heap.size w'' u rs0 ∧ Below w7.heap.size w7 w'')) := fun w' hb => (HT0.out w' (b7.trans (hb.mono z7))).mono fun _ _ ⟨v, e, o, b⟩ => ⟨v, e, o, hb.trans (b.mono hb.size)⟩
      have he5 : ∀ B w' u, OwnR B w' u rs0 ∧ Below w7.heap.size w7 w' → Calls Try.prog 20 #[.agg #[.string nm0, .slice ao3 rs0.length cap3], .agg #[.string nm0, u]] w' (fun e w'' => e = .returned (.bool true) ∧ Below w7.heap.size w7 w'') := fun B w' v ⟨o, hb⟩ => (HE0.out w' _ _ (Rd.of_own (own_later O3_7.out hb)) (Rd.of_own o)).mono fun _ _ ⟨e, b⟩ => ⟨e, hb.trans (b.mono hb.size)⟩
      have HT5 := Lib.hid ht5; clear ht5
      have HE5 := Lib.hid he5; clear he5
      go_region_held3 (fun w' => w'.cell? ⟨w.heap.size, 0, none⟩ = some (.string nm0) ∧ w'.cell? ⟨w.heap.size, 1, none⟩ = some (sv0) ∧ w'.cell? ⟨w5.heap.size, 0, none⟩ = some (.string nm0) ∧ w'.cell? ⟨w5.heap.size, 1, none⟩ = some (.slice ao3 rs0.length cap3)) (first | exact ⟨c0_0_7, c0_1_7, c1_0_7, c1_1_7⟩ | exact ⟨below_cell O6.out.2 c0_0_7, below_cell O6.out.2 c0_1_7, below_cell O6.out.2 c1_0_7, below_cell O6.out.2 c1_1_7⟩ | exact ⟨below_cell s8 c0_0_7, below_cell s8 c0_1_7, below_cell s8 c1_0_7, below_cell s8 c1_1_7⟩ | go_keep) (first | (go_at_call 17; refine (HT5.out _ (by go_grown)).mono ?_; rintro _ ww6 ⟨vv6, rfl, o6⟩; have O6 := Lib.hid o6; clear o6) | (go_at_call 20; refine (HE5.out _ _ _ (by assumption)).mono ?_; rintro _ w8 ⟨rfl, s8⟩))
      clear HT5 HE5
      have y8 := s8.size
      have b8 := b7.trans (s8.mono z7)
      have z8 := b8.size
      have c0_0_8 := below_cell s8 c0_0_7
      clear c0_0_7
      have c0_1_8 := below_cell s8 c0_1_7
      clear c0_1_7
      have c1_0_8 := below_cell s8 c1_0_7
      clear c1_0_7
      have c1_1_8 := below_cell s8 c1_1_7
      clear c1_1_7
      have o1_8 := own_later O1_7.out s8
      have O1_8 := Lib.hid o1_8; clear o1_8
      have o2_8 := own_later O2_7.out s8
      have O2_8 := Lib.hid o2_8; clear o2_8
      have o3_8 := own_later O3_7.out s8
      have O3_8 := Lib.hid o3_8; clear o3_8
      have o4_8 := own_later O4_7.out s8
      have O4_8 := Lib.hid o4_8; clear o4_8
      go_wp2_with fail
      refine (HT1.out _ b8).mono ?_
      rintro _ w9 ⟨x5, rfl, n5, r9⟩
      have s9 := r9
      have y9 := s9.size
      have b9 := b8.trans (s9.mono z8)
      have z9 := b9.size
      have c0_0_9 := below_cell s9 c0_0_8
      clear c0_0_8
      have c0_1_9 := below_cell s9 c0_1_8
      clear c0_1_8
      have c1_0_9 := below_cell s9 c1_0_8
      clear c1_0_8
      have c1_1_9 := below_cell s9 c1_1_8
      clear c1_1_8
      have o1_9 := own_later O1_8.out s9
      have O1_9 := Lib.hid o1_9; clear o1_9
      have o2_9 := own_later O2_8.out s9
      have O2_9 := Lib.hid o2_9; clear o2_9
      have o3_9 := own_later O3_8.out s9
      have O3_9 := Lib.hid o3_9; clear o3_9
      have o4_9 := own_later O4_8.out s9
      have O4_9 := Lib.hid o4_9; clear o4_9
      obtain ⟨ao5, cap5, g5, rfl, _, _⟩ := own_open n5
      have up5 := fun k hk => (World.ownsRow.lt n5 k hk).2
      have lo5 := fun k hk => (World.ownsRow.lt n5 k hk).1
      try simp only [World.size_alloc] at lo5
      have UP5 := Lib.hid up5; clear up5
      have LO5 := Lib.hid lo5; clear lo5
      have o5' := n5
      have O5_9 := Lib.hid o5'; clear o5'
      clear n5
      go_wp2_with fail
      refine (HE1.out _ _ _ (Rd.of_own O4_9.out) (Rd.of_own O5_9.out)).mono ?_
      rintro _ w10 ⟨rfl, r10⟩
      have s10 := r10
      have y10 := s10.size
      have b10 := b9.trans (s10.mono z9)
      have z10 := b10.size
      have c0_0_10 := below_cell s10 c0_0_9
      clear c0_0_9
      have c0_1_10 := below_cell s10 c0_1_9
      clear c0_1_9
      have c1_0_10 := below_cell s10 c1_0_9
      clear c1_0_9
      have c1_1_10 := below_cell s10 c1_1_9
      clear c1_1_9
      have o1_10 := own_later O1_9.out s10
      have O1_10 := Lib.hid o1_10; clear o1_10
      have o2_10 := own_later O2_9.out s10
      have O2_10 := Lib.hid o2_10; clear o2_10
      have o3_10 := own_later O3_9.out s10
      have O3_10 := Lib.hid o3_10; clear o3_10
      have o4_10 := own_later O4_9.out s10
      have O4_10 := Lib.hid o4_10; clear o4_10
      have o5_10 := own_later O5_9.out s10
      have O5_10 := Lib.hid o5_10; clear o5_10
      go_wp2
      go_returns
      exact RetB.mk rfl b10
    · skip
      have hz0' := fun w' (hb : Below w.heap.size w w') => szProfile_c nm0 sv0 rs0.length (trips rs0) (1048576) w' hnm0 (h0.later hb) (by omega) (by omega)
      rw [leftP_neg (by omega)] at hz0'
      have HZ0 := Lib.hid hz0'; clear hz0'
      have HS := Lib.hid hs; clear hs
      have HI := Lib.hid hi; clear hi
      go_enter Try.func3, Try.ntmps3
      have b0 : Below w.heap.size w w := Below.refl _ _
      have z0 : w.heap.size ≤ w.heap.size := Nat.le_refl _
      go_wp2_with fail
      refine (HZ0.out _ (by go_grown)).mono ?_
      rintro _ w1 ⟨rfl, r1⟩
      have s1 : Below w.heap.size w w1 := Below.trans (by go_grown) (r1.mono (by simp; try omega))
      have y1 := s1.size
      have v1 : w.heap.size + 1 ≤ w1.heap.size := by have := r1.size; simp only [World.size_alloc] at this; omega
      have b1 := b0.trans (s1.mono z0)
      have z1 := b1.size
      have c0_0_1 := below_cell r1 (p := ⟨w.heap.size, 0, none⟩) (v := .string nm0) (by simp [go_sem])
      have c0_1_1 := below_cell r1 (p := ⟨w.heap.size, 1, none⟩) (v := sv0) (by simp [go_sem])
      clear r1
      go_wp2
      go_returns
      exact RetB.mk rfl b1
  · skip
    have HA1 := Lib.hid h1; clear h1
    have HS := Lib.hid hs; clear hs
    have HI := Lib.hid hi; clear hi
    go_enter Try.func3, Try.ntmps3
    go_wp2
    go_returns
    exact RetB.mk rfl (by go_grown)

theorem lawMostSteps_c (w : World) (nm0 : ByteArray) (sv0 : Value) (rs0 : List (Int × Int × Int)) (hnm0 : nm0.size ≤ maxLen) (h0 : Rd w sv0 rs0.length (trips rs0)) (w0 : ∀ z ∈ rs0, I64 z.1 ∧ I64 z.2.1 ∧ I64 z.2.2) (v1 : Value) (zs1 : List Int) (h1 : Rd w v1 zs1.length (ints zs1)) (w1 : ∀ z ∈ zs1, I64 z) (a2 : Int) (w2 : I64 a2) :
    Calls Try.prog 3 #[.agg #[.string nm0, sv0], v1, .int .i64 a2] w (RetB (.bool true) w) :=
  lawMostSteps_h w nm0 sv0 rs0 hnm0 h0 v1 zs1 h1 a2 _ _ (fun w' u u1 h h1 => specMostSteps_c nm0 u rs0 u1 zs1 a2 w' hnm0 h h1) (fun w' u u1 h h1 => implMostSteps_c nm0 u rs0 u1 zs1 a2 w' hnm0 h h1)

end Go.Proofs.Ytddkjcdnomoglaa
