/- The law of BlendProfiles, walked. -/
import Derived.Test.YtddkjcdnomoglaaBlend2
import Derived.Test.YtddkjcdnomoglaaBlend3
import Derived.Test.YtddkjcdnomoglaaCutR
import Derived.Test.YtddkjcdnomoglaaGC
namespace Go.Proofs.Ytddkjcdnomoglaa
set_option linter.unusedVariables false
open Go.RowKit Go.Proofs.Bell Go.BigFrame

set_option maxRecDepth 100000 in
set_option maxHeartbeats 3200000 in
theorem lawBlendProfiles_h (w : World) (nm0 : ByteArray) (sv0 : Value) (rs0 : List (Int × Int × Int)) (hnm0 : nm0.size ≤ maxLen) (h0 : Rd w sv0 rs0.length (trips rs0)) (nm1 : ByteArray) (sv1 : Value) (rs1 : List (Int × Int × Int)) (hnm1 : nm1.size ≤ maxLen) (h1 : Rd w sv1 rs1.length (trips rs1)) (a2 : Int) (qn0 : ByteArray) (q0 : List (Int × Int × Int)) (hq0 : q0.length ≤ 1000000) (t1 : Int)
    (hs : ∀ w' u0 u1, Rd w' u0 rs0.length (trips rs0) → Rd w' u1 rs1.length (trips rs1) → Calls Try.prog 32 #[.agg #[.string nm0, u0], .agg #[.string nm1, u1], .int .i64 a2] w' (RetP2 qn0 q0 (.int .i64 t1) w'))
    (hi : ∀ w' u0 u1, Rd w' u0 rs0.length (trips rs0) → Rd w' u1 rs1.length (trips rs1) → Calls Try.prog 33 #[.agg #[.string nm0, u0], .agg #[.string nm1, u1], .int .i64 a2] w' (RetP2 qn0 q0 (.int .i64 t1) w')) :
    Calls Try.prog 7 #[.agg #[.string nm0, sv0], .agg #[.string nm1, sv1], .int .i64 a2] w (RetB (.bool true) w) := by
  have hnm0' := hnm0
  unfold maxLen at hnm0'
  have hnm1' := hnm1
  unfold maxLen at hnm1'
  by_cases hl0 : ((nm0.size : Int) + rs0.length) ≤ 1048576
  · skip
    have hz0' := fun w' (hb : Below w.heap.size w w') => szProfile_c nm0 sv0 rs0.length (trips rs0) (1048576) w' hnm0 (h0.later hb) (by omega) (by omega)
    rw [leftP_pos (by omega)] at hz0'
    have HZ0 := Lib.hid hz0'; clear hz0'
    by_cases hl1 : ((nm1.size : Int) + rs1.length) ≤ 1048576 - (nm0.size : Int) - (rs0.length : Int)
    · skip
      have hz1' := fun w' (hb : Below w.heap.size w w') => szProfile_c nm1 sv1 rs1.length (trips rs1) (1048576 - (nm0.size : Int) - (rs0.length : Int)) w' hnm1 (h1.later hb) (by omega) (by omega)
      rw [leftP_pos (by omega)] at hz1'
      have HZ1 := Lib.hid hz1'; clear hz1'
      have ht0 := fun w' (hb : Below w.heap.size w w') => toProfile_c nm0 sv0 rs0 w' (h0.later hb) (by omega)
      have he0 := fun w' x y (h1 : Rd w' x rs0.length (trips rs0)) (h2 : Rd w' y rs0.length (trips rs0)) => eqProfile_c nm0 nm0 x y rs0 rs0 w' h1 h2
      rw [eqPr_refl] at he0
      clear h0
      have HE0 := Lib.hid he0; clear he0
      have HT0 := Lib.hid ht0; clear ht0
      have ht1 := fun w' (hb : Below w.heap.size w w') => toProfile_c nm1 sv1 rs1 w' (h1.later hb) (by omega)
      have he1 := fun w' x y (h1 : Rd w' x rs1.length (trips rs1)) (h2 : Rd w' y rs1.length (trips rs1)) => eqProfile_c nm1 nm1 x y rs1 rs1 w' h1 h2
      rw [eqPr_refl] at he1
      clear h1
      have HE1 := Lib.hid he1; clear he1
      have HT1 := Lib.hid ht1; clear ht1
      have heq := fun w' x y (h1 : Rd w' x q0.length (trips q0)) (h2 : Rd w' y q0.length (trips q0)) => eqProfile_c qn0 qn0 x y q0 q0 w' h1 h2
      rw [eqPr_refl] at heq
      have HEq := Lib.hid heq; clear heq
      have HS := Lib.hid hs; clear hs
      have HI := Lib.hid hi; clear hi
      go_enter Try.func7, Try.ntmps7
      have b0 : Below w.heap.size w w := Below.refl _ _
      have z0 : w.heap.size ≤ w.heap.size := Nat.le_refl _
      go_wp2_with fail
      refine (HZ0.out _ (by go_grown)).mono ?_
      rintro _ w1 ⟨rfl, r1⟩
      have s1 : Below w.heap.size w w1 := Below.trans (by go_grown) (r1.mono (by simp; try omega))
      have y1 := s1.size
      have v1 : w.heap.size + 2 ≤ w1.heap.size := by have := r1.size; simp only [World.size_alloc] at this; omega
      have b1 := b0.trans (s1.mono z0)
      have z1 := b1.size
      have c0_0_1 := below_cell r1 (p := ⟨w.heap.size, 0, none⟩) (v := .string nm0) (by simp [go_sem])
      have c0_1_1 := below_cell r1 (p := ⟨w.heap.size, 1, none⟩) (v := sv0) (by simp [go_sem])
      have c1_0_1 := below_cell r1 (p := ⟨w.heap.size + 1, 0, none⟩) (v := .string nm1) (by simp [go_sem])
      have c1_1_1 := below_cell r1 (p := ⟨w.heap.size + 1, 1, none⟩) (v := sv1) (by simp [go_sem])
      clear r1
      have al0_0_1 := fun o => alloc_cell o c0_0_1
      have al0_1_1 := fun o => alloc_cell o c0_1_1
      have al1_0_1 := fun o => alloc_cell o c1_0_1
      have al1_1_1 := fun o => alloc_cell o c1_1_1
      go_wp2_with fail
      refine (HZ1.out _ b1).mono ?_
      rintro _ w2 ⟨rfl, r2⟩
      have s2 := r2
      have y2 := s2.size
      have b2 := b1.trans (s2.mono z1)
      have z2 := b2.size
      have c0_0_2 := below_cell s2 c0_0_1
      clear c0_0_1
      have c0_1_2 := below_cell s2 c0_1_1
      clear c0_1_1
      have c1_0_2 := below_cell s2 c1_0_1
      clear c1_0_1
      have c1_1_2 := below_cell s2 c1_1_1
      clear c1_1_1
      clear al0_0_1
      clear al0_1_1
      clear al1_0_1
      clear al1_1_1
      have al0_0_2 := fun o => alloc_cell o c0_0_2
      have al0_1_2 := fun o => alloc_cell o c0_1_2
      have al1_0_2 := fun o => alloc_cell o c1_0_2
      have al1_1_2 := fun o => alloc_cell o c1_1_2
      have htd0 : ∀ w', Below w2.heap.size w2 w' → Calls Try.prog 17 #[.agg #[.string nm0, sv0]] w' (fun e w'' => ∃ u0, e = .returned (.agg #[.string nm0, u0]) ∧ (Rd w'' u0 rs0.length (trips rs0)) ∧ Below w'.heap.size w' w'' ∧ Below w2.heap.size w2 w'') := fun w' hb => (HT0.out w' (b2.trans (hb.mono z2))).mono fun _ _ ⟨v, e, o, b⟩ => ⟨v, e, Rd.of_own o, b, hb.trans (b.mono hb.size)⟩
      have HTD0 := Lib.hid htd0; clear htd0
      have htd1 : ∀ w', Below w2.heap.size w2 w' → Calls Try.prog 17 #[.agg #[.string nm1, sv1]] w' (fun e w'' => ∃ u1, e = .returned (.agg #[.string nm1, u1]) ∧ (Rd w'' u1 rs1.length (trips rs1)) ∧ Below w'.heap.size w' w'' ∧ Below w2.heap.size w2 w'') := fun w' hb => (HT1.out w' (b2.trans (hb.mono z2))).mono fun _ _ ⟨v, e, o, b⟩ => ⟨v, e, Rd.of_own o, b, hb.trans (b.mono hb.size)⟩
      have HTD1 := Lib.hid htd1; clear htd1
      go_upto_region 8 with fail
      go_cut [8, 9] from 29 to 37 (fun s6 s7 wx => CutP qn0 q0 t1 w2 s6 s7 wx)
      case first =>
        go_region_held3 (fun w' => w'.cell? ⟨w.heap.size, 0, none⟩ = some (.string nm0) ∧ w'.cell? ⟨w.heap.size, 1, none⟩ = some (sv0) ∧ w'.cell? ⟨w.heap.size + 1, 0, none⟩ = some (.string nm1) ∧ w'.cell? ⟨w.heap.size + 1, 1, none⟩ = some (sv1)) (first | with_reducible exact ⟨c0_0_2, c0_1_2, c1_0_2, c1_1_2⟩ | with_reducible exact ⟨alloc_cell _ c0_0_2, alloc_cell _ c0_1_2, alloc_cell _ c1_0_2, alloc_cell _ c1_1_2⟩ | with_reducible exact ⟨below_cell s9 c0_0_2, below_cell s9 c0_1_2, below_cell s9 c1_0_2, below_cell s9 c1_1_2⟩ | with_reducible exact ⟨alloc_cell _ (below_cell s9 c0_0_2), alloc_cell _ (below_cell s9 c0_1_2), alloc_cell _ (below_cell s9 c1_0_2), alloc_cell _ (below_cell s9 c1_1_2)⟩ | with_reducible exact ⟨BX.keep (below_cell s9 c0_0_2) (World.block_lt_of_cell? _ _ c0_0_2) _ _, BX.keep (below_cell s9 c0_1_2) (World.block_lt_of_cell? _ _ c0_1_2) _ _, BX.keep (below_cell s9 c1_0_2) (World.block_lt_of_cell? _ _ c1_0_2) _ _, BX.keep (below_cell s9 c1_1_2) (World.block_lt_of_cell? _ _ c1_1_2) _ _⟩ | with_reducible exact ⟨below_cell BD1.out c0_0_2, below_cell BD1.out c0_1_2, below_cell BD1.out c1_0_2, below_cell BD1.out c1_1_2⟩ | with_reducible exact ⟨alloc_cell _ (below_cell BD1.out c0_0_2), alloc_cell _ (below_cell BD1.out c0_1_2), alloc_cell _ (below_cell BD1.out c1_0_2), alloc_cell _ (below_cell BD1.out c1_1_2)⟩ | with_reducible exact ⟨below_cell BD0.out c0_0_2, below_cell BD0.out c0_1_2, below_cell BD0.out c1_0_2, below_cell BD0.out c1_1_2⟩ | with_reducible exact ⟨alloc_cell _ (below_cell BD0.out c0_0_2), alloc_cell _ (below_cell BD0.out c0_1_2), alloc_cell _ (below_cell BD0.out c1_0_2), alloc_cell _ (below_cell BD0.out c1_1_2)⟩ | go_keep) (first | (go_at_call 32; (first | (with_reducible refine (HS.out _ _ _ OD0_1.out OD1_1.out).mono ?_) | (with_reducible refine (HS.out _ _ _ (OD0_1.out.later (below_alloc _ _)) (OD1_1.out.later (below_alloc _ _))).mono ?_)); rintro _ w3 ⟨x9, rfl, n9, rd9⟩; obtain ⟨ax9, cx9, rfl⟩ := own_shape n9; have N9 := Lib.hid n9; clear n9; (first | (with_reducible have s9 := BD1.out.trans (rd9.mono BD1.out.size)) | (with_reducible have s9 := (below_alloced BD1.out BD1.out.size _).trans (rd9.mono (below_alloced BD1.out BD1.out.size _).size))); have lo9 := BD1.out.size; have lo8 := fun o => Nat.le_trans lo9 (below_alloc wd1 o).size; (first | (have hbl := BX.lt; with_reducible have BX := BoxP.later BX rd9; have hbl9 := hbl) | (with_reducible have BX := BoxP.after (B := w2.heap.size) rd9 lo9; have hbl9 := lt_alloc wd1) | skip); (first | (have bf9 := BX.f; have bc0 := BX.c0; have bc1 := BX.c1) | skip)) | (have _gd := BD0; go_at_call 17; (with_reducible refine (HTD1.out _ (by first | exact BD0.out | exact below_alloced BD0.out BD0.out.size _ | go_grown)).mono ?_); rintro _ wd1 ⟨u1, rfl, od1_1, qd1, bd1⟩; have OD1_1 := Lib.hid od1_1; clear od1_1; have BD1 := Lib.hid bd1; clear bd1; (first | (with_reducible have BX := BoxP.later BX qd1) | (with_reducible have BX := BoxP.after (B := w2.heap.size) qd1 BD0.out.size) | (with_reducible have BX := BoxP.afterD (B := w2.heap.size) qd1 BD0.out.size) | skip); (first | (with_reducible have qq1 : Below wd0.heap.size wd0 wd1 := qd1) | (with_reducible have qq1 : Below wd0.heap.size wd0 wd1 := below_of_alloc qd1)); have QD1 := Lib.hid qq1; clear qq1; clear qd1; have od0_1 := OD0_0.out.later QD1.out; have OD0_1 := Lib.hid od0_1; clear od0_1) | (go_at_call 17; (with_reducible refine (HTD0.out _ (by go_grown)).mono ?_); rintro _ wd0 ⟨u0, rfl, od0_0, qd0, bd0⟩; have OD0_0 := Lib.hid od0_0; clear od0_0; have BD0 := Lib.hid bd0; clear bd0; (first | (with_reducible have BX := BoxP.later BX qd0) | (with_reducible have BX := BoxP.after (B := w2.heap.size) qd0 (Nat.le_refl _)) | (with_reducible have BX := BoxP.afterD (B := w2.heap.size) qd0 (Nat.le_refl _)) | skip); clear qd0))
        all_goals (go_wp2_with fail; go_meet; first | exact CutP.mk s9 N9.out lo9 | exact CutP.mk s9 N9.out (lo8 _) | exact CutP.set BX s9 N9.out hbl9 lo9 | exact CutP.set BX s9 N9.out (hbl9 _) (lo8 _))
      case rest =>
      obtain ⟨bx3, ao1, cap1, rfl, rfl, hbl3, hbt3, c2_0_3, c2_1_3, n1, s3⟩ := hcut
      generalize wc = w3 at *
      clear HTD0 HTD1
      have y3 := s3.size
      have b3 := b2.trans (s3.mono z2)
      have z3 := b3.size
      have c0_0_3 := below_cell s3 c0_0_2
      clear c0_0_2
      have c0_1_3 := below_cell s3 c0_1_2
      clear c0_1_2
      have c1_0_3 := below_cell s3 c1_0_2
      clear c1_0_2
      have c1_1_3 := below_cell s3 c1_1_2
      clear c1_1_2
      clear al0_0_2
      clear al0_1_2
      clear al1_0_2
      clear al1_1_2
      have al0_0_3 := fun o => alloc_cell o c0_0_3
      have al0_1_3 := fun o => alloc_cell o c0_1_3
      have al1_0_3 := fun o => alloc_cell o c1_0_3
      have al1_1_3 := fun o => alloc_cell o c1_1_3
      have up1 := fun k hk => (World.ownsRow.lt n1 k hk).2
      have lo1 := fun k hk => (World.ownsRow.lt n1 k hk).1
      have UP1 := Lib.hid up1; clear up1
      have LO1 := Lib.hid lo1; clear lo1
      have O1_3 := Lib.hid n1; clear n1
      go_wp2_with fail
      refine (HT0.out _ b3).mono ?_
      rintro _ w4 ⟨x2, rfl, n2, r4⟩
      have s4 := r4
      have y4 := s4.size
      have b4 := b3.trans (s4.mono z3)
      have z4 := b4.size
      have c0_0_4 := below_cell s4 c0_0_3
      clear c0_0_3
      have c0_1_4 := below_cell s4 c0_1_3
      clear c0_1_3
      have c1_0_4 := below_cell s4 c1_0_3
      clear c1_0_3
      have c1_1_4 := below_cell s4 c1_1_3
      clear c1_1_3
      have c2_0_4 := below_cell s4 c2_0_3
      clear c2_0_3
      have c2_1_4 := below_cell s4 c2_1_3
      clear c2_1_3
      have o1_4 := own_later O1_3.out s4
      have O1_4 := Lib.hid o1_4; clear o1_4
      clear al0_0_3
      clear al0_1_3
      clear al1_0_3
      clear al1_1_3
      have al0_0_4 := fun o => alloc_cell o c0_0_4
      have al0_1_4 := fun o => alloc_cell o c0_1_4
      have al1_0_4 := fun o => alloc_cell o c1_0_4
      have al1_1_4 := fun o => alloc_cell o c1_1_4
      have al2_0_4 := fun o => alloc_cell o c2_0_4
      have al2_1_4 := fun o => alloc_cell o c2_1_4
      obtain ⟨ao2, cap2, g2, rfl, _, _⟩ := own_open n2
      have up2 := fun k hk => (World.ownsRow.lt n2 k hk).2
      have lo2 := fun k hk => (World.ownsRow.lt n2 k hk).1
      try simp only [World.size_alloc] at lo2
      have UP2 := Lib.hid up2; clear up2
      have LO2 := Lib.hid lo2; clear lo2
      have o2' := n2
      have O2_4 := Lib.hid o2'; clear o2'
      clear n2
      go_wp2_with fail
      refine (HT1.out _ (by go_grown)).mono ?_
      rintro _ w5 ⟨x3, rfl, n3, r5⟩
      have s5 : Below w4.heap.size w4 w5 := Below.trans (by go_grown) (r5.mono (by simp; try omega))
      have y5 := s5.size
      have v5 : w4.heap.size + 1 ≤ w5.heap.size := by have := r5.size; simp only [World.size_alloc] at this; omega
      have b5 := b4.trans (s5.mono z4)
      have z5 := b5.size
      have c0_0_5 := below_cell s5 c0_0_4
      clear c0_0_4
      have c0_1_5 := below_cell s5 c0_1_4
      clear c0_1_4
      have c1_0_5 := below_cell s5 c1_0_4
      clear c1_0_4
      have c1_1_5 := below_cell s5 c1_1_4
      clear c1_1_4
      have c2_0_5 := below_cell s5 c2_0_4
      clear c2_0_4
      have c2_1_5 := below_cell s5 c2_1_4
      clear c2_1_4
      have c3_0_5 := below_cell r5 (p := ⟨w4.heap.size, 0, none⟩) (v := .string nm0) (by simp [go_sem])
      have c3_1_5 := below_cell r5 (p := ⟨w4.heap.size, 1, none⟩) (v := .slice ao2 rs0.length cap2) (by simp [go_sem])
      have o1_5 := own_later O1_4.out s5
      have O1_5 := Lib.hid o1_5; clear o1_5
      have o2_5 := own_later O2_4.out s5
      have O2_5 := Lib.hid o2_5; clear o2_5
      clear r5
      clear al0_0_4
      clear al0_1_4
      clear al1_0_4
      clear al1_1_4
      clear al2_0_4
      clear al2_1_4
      have al0_0_5 := fun o => alloc_cell o c0_0_5
      have al0_1_5 := fun o => alloc_cell o c0_1_5
      have al1_0_5 := fun o => alloc_cell o c1_0_5
      have al1_1_5 := fun o => alloc_cell o c1_1_5
      have al2_0_5 := fun o => alloc_cell o c2_0_5
      have al2_1_5 := fun o => alloc_cell o c2_1_5
      have al3_0_5 := fun o => alloc_cell o c3_0_5
      have al3_1_5 := fun o => alloc_cell o c3_1_5
      obtain ⟨ao3, cap3, g3, rfl, _, _⟩ := own_open n3
      have up3 := fun k hk => (World.ownsRow.lt n3 k hk).2
      have lo3 := fun k hk => (World.ownsRow.lt n3 k hk).1
      try simp only [World.size_alloc] at lo3
      have UP3 := Lib.hid up3; clear up3
      have LO3 := Lib.hid lo3; clear lo3
      have o3' := n3
      have O3_5 := Lib.hid o3'; clear o3'
      clear n3
      go_wp2_with fail
      refine (HI.out _ _ _ ((Rd.of_own O2_5.out).later (by go_grown)) ((Rd.of_own O3_5.out).later (by go_grown))).mono ?_
      rintro _ w6 ⟨x4, rfl, n4, r6⟩
      have s6 : Below w5.heap.size w5 w6 := Below.trans (by go_grown) (r6.mono (by simp; try omega))
      have y6 := s6.size
      have v6 : w5.heap.size + 1 ≤ w6.heap.size := by have := r6.size; simp only [World.size_alloc] at this; omega
      have b6 := b5.trans (s6.mono z5)
      have z6 := b6.size
      have c0_0_6 := below_cell s6 c0_0_5
      clear c0_0_5
      have c0_1_6 := below_cell s6 c0_1_5
      clear c0_1_5
      have c1_0_6 := below_cell s6 c1_0_5
      clear c1_0_5
      have c1_1_6 := below_cell s6 c1_1_5
      clear c1_1_5
      have c2_0_6 := below_cell s6 c2_0_5
      clear c2_0_5
      have c2_1_6 := below_cell s6 c2_1_5
      clear c2_1_5
      have c3_0_6 := below_cell s6 c3_0_5
      clear c3_0_5
      have c3_1_6 := below_cell s6 c3_1_5
      clear c3_1_5
      have c4_0_6 := below_cell r6 (p := ⟨w5.heap.size, 0, none⟩) (v := .string nm1) (by simp [go_sem])
      have c4_1_6 := below_cell r6 (p := ⟨w5.heap.size, 1, none⟩) (v := .slice ao3 rs1.length cap3) (by simp [go_sem])
      have o1_6 := own_later O1_5.out s6
      have O1_6 := Lib.hid o1_6; clear o1_6
      have o2_6 := own_later O2_5.out s6
      have O2_6 := Lib.hid o2_6; clear o2_6
      have o3_6 := own_later O3_5.out s6
      have O3_6 := Lib.hid o3_6; clear o3_6
      clear r6
      clear al0_0_5
      clear al0_1_5
      clear al1_0_5
      clear al1_1_5
      clear al2_0_5
      clear al2_1_5
      clear al3_0_5
      clear al3_1_5
      have al0_0_6 := fun o => alloc_cell o c0_0_6
      have al0_1_6 := fun o => alloc_cell o c0_1_6
      have al1_0_6 := fun o => alloc_cell o c1_0_6
      have al1_1_6 := fun o => alloc_cell o c1_1_6
      have al2_0_6 := fun o => alloc_cell o c2_0_6
      have al2_1_6 := fun o => alloc_cell o c2_1_6
      have al3_0_6 := fun o => alloc_cell o c3_0_6
      have al3_1_6 := fun o => alloc_cell o c3_1_6
      have al4_0_6 := fun o => alloc_cell o c4_0_6
      have al4_1_6 := fun o => alloc_cell o c4_1_6
      obtain ⟨ao4, cap4, g4, rfl, _, _⟩ := own_open n4
      have up4 := fun k hk => (World.ownsRow.lt n4 k hk).2
      have lo4 := fun k hk => (World.ownsRow.lt n4 k hk).1
      try simp only [World.size_alloc] at lo4
      have UP4 := Lib.hid up4; clear up4
      have LO4 := Lib.hid lo4; clear lo4
      have o4' := n4
      have O4_6 := Lib.hid o4'; clear o4'
      clear n4
      go_wp2_with fail
      refine (HEq.out _ _ _ ((Rd.of_own O4_6.out).later (by go_grown)) ((Rd.of_own O1_6.out).later (by go_grown))).mono ?_
      rintro _ w7 ⟨rfl, r7⟩
      have s7 : Below w6.heap.size w6 w7 := Below.trans (by go_grown) (r7.mono (by simp; try omega))
      have y7 := s7.size
      have v7 : w6.heap.size + 1 ≤ w7.heap.size := by have := r7.size; simp only [World.size_alloc] at this; omega
      have b7 := b6.trans (s7.mono z6)
      have z7 := b7.size
      have c0_0_7 := below_cell s7 c0_0_6
      clear c0_0_6
      have c0_1_7 := below_cell s7 c0_1_6
      clear c0_1_6
      have c1_0_7 := below_cell s7 c1_0_6
      clear c1_0_6
      have c1_1_7 := below_cell s7 c1_1_6
      clear c1_1_6
      have c2_0_7 := below_cell s7 c2_0_6
      clear c2_0_6
      have c2_1_7 := below_cell s7 c2_1_6
      clear c2_1_6
      have c3_0_7 := below_cell s7 c3_0_6
      clear c3_0_6
      have c3_1_7 := below_cell s7 c3_1_6
      clear c3_1_6
      have c4_0_7 := below_cell s7 c4_0_6
      clear c4_0_6
      have c4_1_7 := below_cell s7 c4_1_6
      clear c4_1_6
      have c5_0_7 := below_cell r7 (p := ⟨w6.heap.size, 0, none⟩) (v := .string qn0) (by simp [go_sem])
      have c5_1_7 := below_cell r7 (p := ⟨w6.heap.size, 1, none⟩) (v := .slice ao4 q0.length cap4) (by simp [go_sem])
      have o1_7 := own_later O1_6.out s7
      have O1_7 := Lib.hid o1_7; clear o1_7
      have o2_7 := own_later O2_6.out s7
      have O2_7 := Lib.hid o2_7; clear o2_7
      have o3_7 := own_later O3_6.out s7
      have O3_7 := Lib.hid o3_7; clear o3_7
      have o4_7 := own_later O4_6.out s7
      have O4_7 := Lib.hid o4_7; clear o4_7
      clear r7
      clear al0_0_6
      clear al0_1_6
      clear al1_0_6
      clear al1_1_6
      clear al2_0_6
      clear al2_1_6
      clear al3_0_6
      clear al3_1_6
      clear al4_0_6
      clear al4_1_6
      have al0_0_7 := fun o => alloc_cell o c0_0_7
      have al0_1_7 := fun o => alloc_cell o c0_1_7
      have al1_0_7 := fun o => alloc_cell o c1_0_7
      have al1_1_7 := fun o => alloc_cell o c1_1_7
      have al2_0_7 := fun o => alloc_cell o c2_0_7
      have al2_1_7 := fun o => alloc_cell o c2_1_7
      have al3_0_7 := fun o => alloc_cell o c3_0_7
      have al3_1_7 := fun o => alloc_cell o c3_1_7
      have al4_0_7 := fun o => alloc_cell o c4_0_7
      have al4_1_7 := fun o => alloc_cell o c4_1_7
      have al5_0_7 := fun o => alloc_cell o c5_0_7
      have al5_1_7 := fun o => alloc_cell o c5_1_7
      go_wp2_with fail
      have ht5 : ∀ w', Below w7.heap.size w7 w' → Calls Try.prog 17 #[.agg #[.string nm0, sv0]] w' (fun e w'' => ∃ u, e = .returned (.agg #[.string nm0, u]) ∧ (OwnR w'.heap.size w'' u rs0 ∧ Below w7.heap.size w7 w'')) := fun w' hb => (HT0.out w' (b7.trans (hb.mono z7))).mono fun _ _ ⟨v, e, o, b⟩ => ⟨v, e, o, hb.trans (b.mono hb.size)⟩
      have he5 : ∀ B w' u, OwnR B w' u rs0 ∧ Below w7.heap.size w7 w' → Calls Try.prog 20 #[.agg #[.string nm0, .slice ao2 rs0.length cap2], .agg #[.string nm0, u]] w' (fun e w'' => e = .returned (.bool true) ∧ Below w7.heap.size w7 w'') := fun B w' v ⟨o, hb⟩ => (HE0.out w' _ _ (Rd.of_own (own_later O2_7.out hb)) (Rd.of_own o)).mono fun _ _ ⟨e, b⟩ => ⟨e, hb.trans (b.mono hb.size)⟩
      have HT5 := Lib.hid ht5; clear ht5
      have HE5 := Lib.hid he5; clear he5
      go_region_held3 (fun w' => w'.cell? ⟨w.heap.size, 0, none⟩ = some (.string nm0) ∧ w'.cell? ⟨w.heap.size, 1, none⟩ = some (sv0) ∧ w'.cell? ⟨w4.heap.size, 0, none⟩ = some (.string nm0) ∧ w'.cell? ⟨w4.heap.size, 1, none⟩ = some (.slice ao2 rs0.length cap2)) (first | exact ⟨c0_0_7, c0_1_7, c3_0_7, c3_1_7⟩ | exact ⟨below_cell O6.out.2 c0_0_7, below_cell O6.out.2 c0_1_7, below_cell O6.out.2 c3_0_7, below_cell O6.out.2 c3_1_7⟩ | exact ⟨below_cell s8 c0_0_7, below_cell s8 c0_1_7, below_cell s8 c3_0_7, below_cell s8 c3_1_7⟩ | go_keep) (first | (go_at_call 17; refine (HT5.out _ (by go_grown)).mono ?_; rintro _ ww6 ⟨vv6, rfl, o6⟩; have O6 := Lib.hid o6; clear o6) | (go_at_call 20; refine (HE5.out _ _ _ (by assumption)).mono ?_; rintro _ w8 ⟨rfl, s8⟩))
      clear HT5 HE5
      have y8 := s8.size
      have b8 := b7.trans (s8.mono z7)
      have z8 := b8.size
      have c0_0_8 := below_cell s8 c0_0_7
      clear c0_0_7
      have c0_1_8 := below_cell s8 c0_1_7
      clear c0_1_7
      have c1_0_8 := below_cell s8 c1_0_7
      clear c1_0_7
      have c1_1_8 := below_cell s8 c1_1_7
      clear c1_1_7
      have c2_0_8 := below_cell s8 c2_0_7
      clear c2_0_7
      have c2_1_8 := below_cell s8 c2_1_7
      clear c2_1_7
      have c3_0_8 := below_cell s8 c3_0_7
      clear c3_0_7
      have c3_1_8 := below_cell s8 c3_1_7
      clear c3_1_7
      have c4_0_8 := below_cell s8 c4_0_7
      clear c4_0_7
      have c4_1_8 := below_cell s8 c4_1_7
      clear c4_1_7
      have c5_0_8 := below_cell s8 c5_0_7
      clear c5_0_7
      have c5_1_8 := below_cell s8 c5_1_7
      clear c5_1_7
      have o1_8 := own_later O1_7.out s8
      have O1_8 := Lib.hid o1_8; clear o1_8
      have o2_8 := own_later O2_7.out s8
      have O2_8 := Lib.hid o2_8; clear o2_8
      have o3_8 := own_later O3_7.out s8
      have O3_8 := Lib.hid o3_8; clear o3_8
      have o4_8 := own_later O4_7.out s8
      have O4_8 := Lib.hid o4_8; clear o4_8
      clear al0_0_7
      clear al0_1_7
      clear al1_0_7
      clear al1_1_7
      clear al2_0_7
      clear al2_1_7
      clear al3_0_7
      clear al3_1_7
      clear al4_0_7
      clear al4_1_7
      clear al5_0_7
      clear al5_1_7
      have al0_0_8 := fun o => alloc_cell o c0_0_8
      have al0_1_8 := fun o => alloc_cell o c0_1_8
      have al1_0_8 := fun o => alloc_cell o c1_0_8
      have al1_1_8 := fun o => alloc_cell o c1_1_8
      have al2_0_8 := fun o => alloc_cell o c2_0_8
      have al2_1_8 := fun o => alloc_cell o c2_1_8
      have al3_0_8 := fun o => alloc_cell o c3_0_8
      have al3_1_8 := fun o => alloc_cell o c3_1_8
      have al4_0_8 := fun o => alloc_cell o c4_0_8
      have al4_1_8 := fun o => alloc_cell o c4_1_8
      have al5_0_8 := fun o => alloc_cell o c5_0_8
      have al5_1_8 := fun o => alloc_cell o c5_1_8
      go_wp2_with fail
      have ht5 : ∀ w', Below w8.heap.size w8 w' → Calls Try.prog 17 #[.agg #[.string nm1, sv1]] w' (fun e w'' => ∃ u, e = .returned (.agg #[.string nm1, u]) ∧ (OwnR w'.heap.size w'' u rs1 ∧ Below w8.heap.size w8 w'')) := fun w' hb => (HT1.out w' (b8.trans (hb.mono z8))).mono fun _ _ ⟨v, e, o, b⟩ => ⟨v, e, o, hb.trans (b.mono hb.size)⟩
      have he5 : ∀ B w' u, OwnR B w' u rs1 ∧ Below w8.heap.size w8 w' → Calls Try.prog 20 #[.agg #[.string nm1, .slice ao3 rs1.length cap3], .agg #[.string nm1, u]] w' (fun e w'' => e = .returned (.bool true) ∧ Below w8.heap.size w8 w'') := fun B w' v ⟨o, hb⟩ => (HE1.out w' _ _ (Rd.of_own (own_later O3_8.out hb)) (Rd.of_own o)).mono fun _ _ ⟨e, b⟩ => ⟨e, hb.trans (b.mono hb.size)⟩
      have HT5 := Lib.hid ht5; clear ht5
      have HE5 := Lib.hid he5; clear he5
      go_region_held3 (fun w' => w'.cell? ⟨w.heap.size + 1, 0, none⟩ = some (.string nm1) ∧ w'.cell? ⟨w.heap.size + 1, 1, none⟩ = some (sv1) ∧ w'.cell? ⟨w5.heap.size, 0, none⟩ = some (.string nm1) ∧ w'.cell? ⟨w5.heap.size, 1, none⟩ = some (.slice ao3 rs1.length cap3)) (first | exact ⟨c1_0_8, c1_1_8, c4_0_8, c4_1_8⟩ | exact ⟨below_cell O6.out.2 c1_0_8, below_cell O6.out.2 c1_1_8, below_cell O6.out.2 c4_0_8, below_cell O6.out.2 c4_1_8⟩ | exact ⟨below_cell s9 c1_0_8, below_cell s9 c1_1_8, below_cell s9 c4_0_8, below_cell s9 c4_1_8⟩ | go_keep) (first | (go_at_call 17; refine (HT5.out _ (by go_grown)).mono ?_; rintro _ ww6 ⟨vv6, rfl, o6⟩; have O6 := Lib.hid o6; clear o6) | (go_at_call 20; refine (HE5.out _ _ _ (by assumption)).mono ?_; rintro _ w9 ⟨rfl, s9⟩))
      clear HT5 HE5
      have y9 := s9.size
      have b9 := b8.trans (s9.mono z8)
      have z9 := b9.size
      have c0_0_9 := below_cell s9 c0_0_8
      clear c0_0_8
      have c0_1_9 := below_cell s9 c0_1_8
      clear c0_1_8
      have c1_0_9 := below_cell s9 c1_0_8
      clear c1_0_8
      have c1_1_9 := below_cell s9 c1_1_8
      clear c1_1_8
      have c2_0_9 := below_cell s9 c2_0_8
      clear c2_0_8
      have c2_1_9 := below_cell s9 c2_1_8
      clear c2_1_8
      have c3_0_9 := below_cell s9 c3_0_8
      clear c3_0_8
      have c3_1_9 := below_cell s9 c3_1_8
      clear c3_1_8
      have c4_0_9 := below_cell s9 c4_0_8
      clear c4_0_8
      have c4_1_9 := below_cell s9 c4_1_8
      clear c4_1_8
      have c5_0_9 := below_cell s9 c5_0_8
      clear c5_0_8
      have c5_1_9 := below_cell s9 c5_1_8
      clear c5_1_8
      have o1_9 := own_later O1_8.out s9
      have O1_9 := Lib.hid o1_9; clear o1_9
      have o2_9 := own_later O2_8.out s9
      have O2_9 := Lib.hid o2_9; clear o2_9
      have o3_9 := own_later O3_8.out s9
      have O3_9 := Lib.hid o3_9; clear o3_9
      have o4_9 := own_later O4_8.out s9
      have O4_9 := Lib.hid o4_9; clear o4_9
      clear al0_0_8
      clear al0_1_8
      clear al1_0_8
      clear al1_1_8
      clear al2_0_8
      clear al2_1_8
      clear al3_0_8
      clear al3_1_8
      clear al4_0_8
      clear al4_1_8
      clear al5_0_8
      clear al5_1_8
      have al0_0_9 := fun o => alloc_cell o c0_0_9
      have al0_1_9 := fun o => alloc_cell o c0_1_9
      have al1_0_9 := fun o => alloc_cell o c1_0_9
      have al1_1_9 := fun o => alloc_cell o c1_1_9
      have al2_0_9 := fun o => alloc_cell o c2_0_9
      have al2_1_9 := fun o => alloc_cell o c2_1_9
      have al3_0_9 := fun o => alloc_cell o c3_0_9
      have al3_1_9 := fun o => alloc_cell o c3_1_9
      have al4_0_9 := fun o => alloc_cell o c4_0_9
      have al4_1_9 := fun o => alloc_cell o c4_1_9
      have al5_0_9 := fun o => alloc_cell o c5_0_9
      have al5_1_9 := fun o => alloc_cell o c5_1_9
      go_wp2_with fail
      refine (markProfile_c _ _ _ _ _ _ _ O2_9.out (by omega) (by omega) (by omega)).mono ?_
      rintro _ w10 ⟨rfl, m10, q10⟩
      have y10 := q10.size
      have b10 := Only.below b9 q10 z9 (fun b hS => by have := LO2.out b hS; omega)
      have z10 := b10.size
      have c0_0_10 := cell_only q10 c0_0_9 (fun hS => by have h1 : _ ≤ w.heap.size := LO2.out _ hS; have h2 : w.heap.size < _ := UP2.out _ hS; omega)
      clear c0_0_9
      have c0_1_10 := cell_only q10 c0_1_9 (fun hS => by have h1 : _ ≤ w.heap.size := LO2.out _ hS; have h2 : w.heap.size < _ := UP2.out _ hS; omega)
      clear c0_1_9
      have c1_0_10 := cell_only q10 c1_0_9 (fun hS => by have h1 : _ ≤ w.heap.size + 1 := LO2.out _ hS; have h2 : w.heap.size + 1 < _ := UP2.out _ hS; omega)
      clear c1_0_9
      have c1_1_10 := cell_only q10 c1_1_9 (fun hS => by have h1 : _ ≤ w.heap.size + 1 := LO2.out _ hS; have h2 : w.heap.size + 1 < _ := UP2.out _ hS; omega)
      clear c1_1_9
      have c2_0_10 := cell_only q10 c2_0_9 (fun hS => by have h1 : _ ≤ bx3 := LO2.out _ hS; have h2 : bx3 < _ := UP2.out _ hS; omega)
      clear c2_0_9
      have c2_1_10 := cell_only q10 c2_1_9 (fun hS => by have h1 : _ ≤ bx3 := LO2.out _ hS; have h2 : bx3 < _ := UP2.out _ hS; omega)
      clear c2_1_9
      have c3_0_10 := cell_only q10 c3_0_9 (fun hS => by have h1 : _ ≤ w4.heap.size := LO2.out _ hS; have h2 : w4.heap.size < _ := UP2.out _ hS; omega)
      clear c3_0_9
      have c3_1_10 := cell_only q10 c3_1_9 (fun hS => by have h1 : _ ≤ w4.heap.size := LO2.out _ hS; have h2 : w4.heap.size < _ := UP2.out _ hS; omega)
      clear c3_1_9
      have c4_0_10 := cell_only q10 c4_0_9 (fun hS => by have h1 : _ ≤ w5.heap.size := LO2.out _ hS; have h2 : w5.heap.size < _ := UP2.out _ hS; omega)
      clear c4_0_9
      have c4_1_10 := cell_only q10 c4_1_9 (fun hS => by have h1 : _ ≤ w5.heap.size := LO2.out _ hS; have h2 : w5.heap.size < _ := UP2.out _ hS; omega)
      clear c4_1_9
      have c5_0_10 := cell_only q10 c5_0_9 (fun hS => by have h1 : _ ≤ w6.heap.size := LO2.out _ hS; have h2 : w6.heap.size < _ := UP2.out _ hS; omega)
      clear c5_0_9
      have c5_1_10 := cell_only q10 c5_1_9 (fun hS => by have h1 : _ ≤ w6.heap.size := LO2.out _ hS; have h2 : w6.heap.size < _ := UP2.out _ hS; omega)
      clear c5_1_9
      have o1_10 := own_only O1_9.out q10 (fun k hk hS => by have := LO2.out _ hS; have := UP2.out _ hS; have := LO1.out _ hk; have := UP1.out _ hk; omega)
      have O1_10 := Lib.hid o1_10; clear o1_10
      have o3_10 := own_only O3_9.out q10 (fun k hk hS => by have := LO2.out _ hS; have := UP2.out _ hS; have := LO3.out _ hk; have := UP3.out _ hk; omega)
      have O3_10 := Lib.hid o3_10; clear o3_10
      have o4_10 := own_only O4_9.out q10 (fun k hk hS => by have := LO2.out _ hS; have := UP2.out _ hS; have := LO4.out _ hk; have := UP4.out _ hk; omega)
      have O4_10 := Lib.hid o4_10; clear o4_10
      have O2_10 := Lib.hid m10; clear m10
      go_wp2_with fail
      refine (markProfile_c _ _ _ _ _ _ _ O3_10.out (by omega) (by omega) (by omega)).mono ?_
      rintro _ w11 ⟨rfl, m11, q11⟩
      have y11 := q11.size
      have b11 := Only.below b10 q11 z10 (fun b hS => by have := LO3.out b hS; omega)
      have z11 := b11.size
      have c0_0_11 := cell_only q11 c0_0_10 (fun hS => by have h1 : _ ≤ w.heap.size := LO3.out _ hS; have h2 : w.heap.size < _ := UP3.out _ hS; omega)
      clear c0_0_10
      have c0_1_11 := cell_only q11 c0_1_10 (fun hS => by have h1 : _ ≤ w.heap.size := LO3.out _ hS; have h2 : w.heap.size < _ := UP3.out _ hS; omega)
      clear c0_1_10
      have c1_0_11 := cell_only q11 c1_0_10 (fun hS => by have h1 : _ ≤ w.heap.size + 1 := LO3.out _ hS; have h2 : w.heap.size + 1 < _ := UP3.out _ hS; omega)
      clear c1_0_10
      have c1_1_11 := cell_only q11 c1_1_10 (fun hS => by have h1 : _ ≤ w.heap.size + 1 := LO3.out _ hS; have h2 : w.heap.size + 1 < _ := UP3.out _ hS; omega)
      clear c1_1_10
      have c2_0_11 := cell_only q11 c2_0_10 (fun hS => by have h1 : _ ≤ bx3 := LO3.out _ hS; have h2 : bx3 < _ := UP3.out _ hS; omega)
      clear c2_0_10
      have c2_1_11 := cell_only q11 c2_1_10 (fun hS => by have h1 : _ ≤ bx3 := LO3.out _ hS; have h2 : bx3 < _ := UP3.out _ hS; omega)
      clear c2_1_10
      have c3_0_11 := cell_only q11 c3_0_10 (fun hS => by have h1 : _ ≤ w4.heap.size := LO3.out _ hS; have h2 : w4.heap.size < _ := UP3.out _ hS; omega)
      clear c3_0_10
      have c3_1_11 := cell_only q11 c3_1_10 (fun hS => by have h1 : _ ≤ w4.heap.size := LO3.out _ hS; have h2 : w4.heap.size < _ := UP3.out _ hS; omega)
      clear c3_1_10
      have c4_0_11 := cell_only q11 c4_0_10 (fun hS => by have h1 : _ ≤ w5.heap.size := LO3.out _ hS; have h2 : w5.heap.size < _ := UP3.out _ hS; omega)
      clear c4_0_10
      have c4_1_11 := cell_only q11 c4_1_10 (fun hS => by have h1 : _ ≤ w5.heap.size := LO3.out _ hS; have h2 : w5.heap.size < _ := UP3.out _ hS; omega)
      clear c4_1_10
      have c5_0_11 := cell_only q11 c5_0_10 (fun hS => by have h1 : _ ≤ w6.heap.size := LO3.out _ hS; have h2 : w6.heap.size < _ := UP3.out _ hS; omega)
      clear c5_0_10
      have c5_1_11 := cell_only q11 c5_1_10 (fun hS => by have h1 : _ ≤ w6.heap.size := LO3.out _ hS; have h2 : w6.heap.size < _ := UP3.out _ hS; omega)
      clear c5_1_10
      have o1_11 := own_only O1_10.out q11 (fun k hk hS => by have := LO3.out _ hS; have := UP3.out _ hS; have := LO1.out _ hk; have := UP1.out _ hk; omega)
      have O1_11 := Lib.hid o1_11; clear o1_11
      have o2_11 := own_only O2_10.out q11 (fun k hk hS => by have := LO3.out _ hS; have := UP3.out _ hS; have := LO2.out _ hk; have := UP2.out _ hk; omega)
      have O2_11 := Lib.hid o2_11; clear o2_11
      have o4_11 := own_only O4_10.out q11 (fun k hk hS => by have := LO3.out _ hS; have := UP3.out _ hS; have := LO4.out _ hk; have := UP4.out _ hk; omega)
      have O4_11 := Lib.hid o4_11; clear o4_11
      have O3_11 := Lib.hid m11; clear m11
      go_wp2_with fail
      refine (HEq.out _ _ _ (Rd.of_own O4_11.out) (Rd.of_own O1_11.out)).mono ?_
      rintro _ w12 ⟨rfl, r12⟩
      have s12 := r12
      have y12 := s12.size
      have b12 := b11.trans (s12.mono z11)
      have z12 := b12.size
      have c0_0_12 := below_cell s12 c0_0_11
      clear c0_0_11
      have c0_1_12 := below_cell s12 c0_1_11
      clear c0_1_11
      have c1_0_12 := below_cell s12 c1_0_11
      clear c1_0_11
      have c1_1_12 := below_cell s12 c1_1_11
      clear c1_1_11
      have c2_0_12 := below_cell s12 c2_0_11
      clear c2_0_11
      have c2_1_12 := below_cell s12 c2_1_11
      clear c2_1_11
      have c3_0_12 := below_cell s12 c3_0_11
      clear c3_0_11
      have c3_1_12 := below_cell s12 c3_1_11
      clear c3_1_11
      have c4_0_12 := below_cell s12 c4_0_11
      clear c4_0_11
      have c4_1_12 := below_cell s12 c4_1_11
      clear c4_1_11
      have c5_0_12 := below_cell s12 c5_0_11
      clear c5_0_11
      have c5_1_12 := below_cell s12 c5_1_11
      clear c5_1_11
      have o1_12 := own_later O1_11.out s12
      have O1_12 := Lib.hid o1_12; clear o1_12
      have o2_12 := own_later O2_11.out s12
      have O2_12 := Lib.hid o2_12; clear o2_12
      have o3_12 := own_later O3_11.out s12
      have O3_12 := Lib.hid o3_12; clear o3_12
      have o4_12 := own_later O4_11.out s12
      have O4_12 := Lib.hid o4_12; clear o4_12
      clear al0_0_9
      clear al0_1_9
      clear al1_0_9
      clear al1_1_9
      clear al2_0_9
      clear al2_1_9
      clear al3_0_9
      clear al3_1_9
      clear al4_0_9
      clear al4_1_9
      clear al5_0_9
      clear al5_1_9
      have al0_0_12 := fun o => alloc_cell o c0_0_12
      have al0_1_12 := fun o => alloc_cell o c0_1_12
      have al1_0_12 := fun o => alloc_cell o c1_0_12
      have al1_1_12 := fun o => alloc_cell o c1_1_12
      have al2_0_12 := fun o => alloc_cell o c2_0_12
      have al2_1_12 := fun o => alloc_cell o c2_1_12
      have al3_0_12 := fun o => alloc_cell o c3_0_12
      have al3_1_12 := fun o => alloc_cell o c3_1_12
      have al4_0_12 := fun o => alloc_cell o c4_0_12
      have al4_1_12 := fun o => alloc_cell o c4_1_12
      have al5_0_12 := fun o => alloc_cell o c5_0_12
      have al5_1_12 := fun o => alloc_cell o c5_1_12
      go_wp2_with fail
      refine (markProfile_c _ _ _ _ _ _ _ O4_12.out (by omega) (by omega) (by omega)).mono ?_
      rintro _ w13 ⟨rfl, m13, q13⟩
      have y13 := q13.size
      have b13 := Only.below b12 q13 z12 (fun b hS => by have := LO4.out b hS; omega)
      have z13 := b13.size
      have c0_0_13 := cell_only q13 c0_0_12 (fun hS => by have h1 : _ ≤ w.heap.size := LO4.out _ hS; have h2 : w.heap.size < _ := UP4.out _ hS; omega)
      clear c0_0_12
      have c0_1_13 := cell_only q13 c0_1_12 (fun hS => by have h1 : _ ≤ w.heap.size := LO4.out _ hS; have h2 : w.heap.size < _ := UP4.out _ hS; omega)
      clear c0_1_12
      have c1_0_13 := cell_only q13 c1_0_12 (fun hS => by have h1 : _ ≤ w.heap.size + 1 := LO4.out _ hS; have h2 : w.heap.size + 1 < _ := UP4.out _ hS; omega)
      clear c1_0_12
      have c1_1_13 := cell_only q13 c1_1_12 (fun hS => by have h1 : _ ≤ w.heap.size + 1 := LO4.out _ hS; have h2 : w.heap.size + 1 < _ := UP4.out _ hS; omega)
      clear c1_1_12
      have c2_0_13 := cell_only q13 c2_0_12 (fun hS => by have h1 : _ ≤ bx3 := LO4.out _ hS; have h2 : bx3 < _ := UP4.out _ hS; omega)
      clear c2_0_12
      have c2_1_13 := cell_only q13 c2_1_12 (fun hS => by have h1 : _ ≤ bx3 := LO4.out _ hS; have h2 : bx3 < _ := UP4.out _ hS; omega)
      clear c2_1_12
      have c3_0_13 := cell_only q13 c3_0_12 (fun hS => by have h1 : _ ≤ w4.heap.size := LO4.out _ hS; have h2 : w4.heap.size < _ := UP4.out _ hS; omega)
      clear c3_0_12
      have c3_1_13 := cell_only q13 c3_1_12 (fun hS => by have h1 : _ ≤ w4.heap.size := LO4.out _ hS; have h2 : w4.heap.size < _ := UP4.out _ hS; omega)
      clear c3_1_12
      have c4_0_13 := cell_only q13 c4_0_12 (fun hS => by have h1 : _ ≤ w5.heap.size := LO4.out _ hS; have h2 : w5.heap.size < _ := UP4.out _ hS; omega)
      clear c4_0_12
      have c4_1_13 := cell_only q13 c4_1_12 (fun hS => by have h1 : _ ≤ w5.heap.size := LO4.out _ hS; have h2 : w5.heap.size < _ := UP4.out _ hS; omega)
      clear c4_1_12
      have c5_0_13 := cell_only q13 c5_0_12 (fun hS => by have h1 : _ ≤ w6.heap.size := LO4.out _ hS; have h2 : w6.heap.size < _ := UP4.out _ hS; omega)
      clear c5_0_12
      have c5_1_13 := cell_only q13 c5_1_12 (fun hS => by have h1 : _ ≤ w6.heap.size := LO4.out _ hS; have h2 : w6.heap.size < _ := UP4.out _ hS; omega)
      clear c5_1_12
      have o1_13 := own_only O1_12.out q13 (fun k hk hS => by have := LO4.out _ hS; have := UP4.out _ hS; have := LO1.out _ hk; have := UP1.out _ hk; omega)
      have O1_13 := Lib.hid o1_13; clear o1_13
      have o2_13 := own_only O2_12.out q13 (fun k hk hS => by have := LO4.out _ hS; have := UP4.out _ hS; have := LO2.out _ hk; have := UP2.out _ hk; omega)
      have O2_13 := Lib.hid o2_13; clear o2_13
      have o3_13 := own_only O3_12.out q13 (fun k hk hS => by have := LO4.out _ hS; have := UP4.out _ hS; have := LO3.out _ hk; have := UP3.out _ hk; omega)
      have O3_13 := Lib.hid o3_13; clear o3_13
      have O4_13 := Lib.hid m13; clear m13
      go_wp2_with fail
      refine (heldProfile_c _ _ _ _ _ (Rd.of_own O4_13.out) (by omega) (by omega)).mono ?_
      rintro _ w14 ⟨rfl, r14⟩
      have s14 := r14
      have y14 := s14.size
      have b14 := b13.trans (s14.mono z13)
      have z14 := b14.size
      have c0_0_14 := below_cell s14 c0_0_13
      clear c0_0_13
      have c0_1_14 := below_cell s14 c0_1_13
      clear c0_1_13
      have c1_0_14 := below_cell s14 c1_0_13
      clear c1_0_13
      have c1_1_14 := below_cell s14 c1_1_13
      clear c1_1_13
      have c2_0_14 := below_cell s14 c2_0_13
      clear c2_0_13
      have c2_1_14 := below_cell s14 c2_1_13
      clear c2_1_13
      have c3_0_14 := below_cell s14 c3_0_13
      clear c3_0_13
      have c3_1_14 := below_cell s14 c3_1_13
      clear c3_1_13
      have c4_0_14 := below_cell s14 c4_0_13
      clear c4_0_13
      have c4_1_14 := below_cell s14 c4_1_13
      clear c4_1_13
      have c5_0_14 := below_cell s14 c5_0_13
      clear c5_0_13
      have c5_1_14 := below_cell s14 c5_1_13
      clear c5_1_13
      have o1_14 := own_later O1_13.out s14
      have O1_14 := Lib.hid o1_14; clear o1_14
      have o2_14 := own_later O2_13.out s14
      have O2_14 := Lib.hid o2_14; clear o2_14
      have o3_14 := own_later O3_13.out s14
      have O3_14 := Lib.hid o3_14; clear o3_14
      have o4_14 := own_later O4_13.out s14
      have O4_14 := Lib.hid o4_14; clear o4_14
      clear al0_0_12
      clear al0_1_12
      clear al1_0_12
      clear al1_1_12
      clear al2_0_12
      clear al2_1_12
      clear al3_0_12
      clear al3_1_12
      clear al4_0_12
      clear al4_1_12
      clear al5_0_12
      clear al5_1_12
      have al0_0_14 := fun o => alloc_cell o c0_0_14
      have al0_1_14 := fun o => alloc_cell o c0_1_14
      have al1_0_14 := fun o => alloc_cell o c1_0_14
      have al1_1_14 := fun o => alloc_cell o c1_1_14
      have al2_0_14 := fun o => alloc_cell o c2_0_14
      have al2_1_14 := fun o => alloc_cell o c2_1_14
      have al3_0_14 := fun o => alloc_cell o c3_0_14
      have al3_1_14 := fun o => alloc_cell o c3_1_14
      have al4_0_14 := fun o => alloc_cell o c4_0_14
      have al4_1_14 := fun o => alloc_cell o c4_1_14
      have al5_0_14 := fun o => alloc_cell o c5_0_14
      have al5_1_14 := fun o => alloc_cell o c5_1_14
      have htd0 : ∀ w', Below w14.heap.size w14 w' → Calls Try.prog 17 #[.agg #[.string nm0, sv0]] w' (fun e w'' => ∃ u0, e = .returned (.agg #[.string nm0, u0]) ∧ (Rd w'' u0 rs0.length (trips rs0)) ∧ Below w'.heap.size w' w'' ∧ Below w14.heap.size w14 w'') := fun w' hb => (HT0.out w' (b14.trans (hb.mono z14))).mono fun _ _ ⟨v, e, o, b⟩ => ⟨v, e, Rd.of_own o, b, hb.trans (b.mono hb.size)⟩
      have HTD0 := Lib.hid htd0; clear htd0
      have htd1 : ∀ w', Below w14.heap.size w14 w' → Calls Try.prog 17 #[.agg #[.string nm1, sv1]] w' (fun e w'' => ∃ u1, e = .returned (.agg #[.string nm1, u1]) ∧ (Rd w'' u1 rs1.length (trips rs1)) ∧ Below w'.heap.size w' w'' ∧ Below w14.heap.size w14 w'') := fun w' hb => (HT1.out w' (b14.trans (hb.mono z14))).mono fun _ _ ⟨v, e, o, b⟩ => ⟨v, e, Rd.of_own o, b, hb.trans (b.mono hb.size)⟩
      have HTD1 := Lib.hid htd1; clear htd1
      go_upto_region 31 with fail
      go_cut [17, 18] from 98 to 106 (fun s6 s7 wx => CutP qn0 q0 t1 w14 s6 s7 wx)
      case first =>
        go_region_held3 (fun w' => w'.cell? ⟨w.heap.size, 0, none⟩ = some (.string nm0) ∧ w'.cell? ⟨w.heap.size, 1, none⟩ = some (sv0) ∧ w'.cell? ⟨w.heap.size + 1, 0, none⟩ = some (.string nm1) ∧ w'.cell? ⟨w.heap.size + 1, 1, none⟩ = some (sv1)) (first | with_reducible exact ⟨c0_0_14, c0_1_14, c1_0_14, c1_1_14⟩ | with_reducible exact ⟨alloc_cell _ c0_0_14, alloc_cell _ c0_1_14, alloc_cell _ c1_0_14, alloc_cell _ c1_1_14⟩ | with_reducible exact ⟨below_cell s9 c0_0_14, below_cell s9 c0_1_14, below_cell s9 c1_0_14, below_cell s9 c1_1_14⟩ | with_reducible exact ⟨alloc_cell _ (below_cell s9 c0_0_14), alloc_cell _ (below_cell s9 c0_1_14), alloc_cell _ (below_cell s9 c1_0_14), alloc_cell _ (below_cell s9 c1_1_14)⟩ | with_reducible exact ⟨BX.keep (below_cell s9 c0_0_14) (World.block_lt_of_cell? _ _ c0_0_14) _ _, BX.keep (below_cell s9 c0_1_14) (World.block_lt_of_cell? _ _ c0_1_14) _ _, BX.keep (below_cell s9 c1_0_14) (World.block_lt_of_cell? _ _ c1_0_14) _ _, BX.keep (below_cell s9 c1_1_14) (World.block_lt_of_cell? _ _ c1_1_14) _ _⟩ | with_reducible exact ⟨below_cell BD1.out c0_0_14, below_cell BD1.out c0_1_14, below_cell BD1.out c1_0_14, below_cell BD1.out c1_1_14⟩ | with_reducible exact ⟨alloc_cell _ (below_cell BD1.out c0_0_14), alloc_cell _ (below_cell BD1.out c0_1_14), alloc_cell _ (below_cell BD1.out c1_0_14), alloc_cell _ (below_cell BD1.out c1_1_14)⟩ | with_reducible exact ⟨below_cell BD0.out c0_0_14, below_cell BD0.out c0_1_14, below_cell BD0.out c1_0_14, below_cell BD0.out c1_1_14⟩ | with_reducible exact ⟨alloc_cell _ (below_cell BD0.out c0_0_14), alloc_cell _ (below_cell BD0.out c0_1_14), alloc_cell _ (below_cell BD0.out c1_0_14), alloc_cell _ (below_cell BD0.out c1_1_14)⟩ | go_keep) (first | (go_at_call 33; (first | (with_reducible refine (HI.out _ _ _ OD0_1.out OD1_1.out).mono ?_) | (with_reducible refine (HI.out _ _ _ (OD0_1.out.later (below_alloc _ _)) (OD1_1.out.later (below_alloc _ _))).mono ?_)); rintro _ w15 ⟨x9, rfl, n9, rd9⟩; obtain ⟨ax9, cx9, rfl⟩ := own_shape n9; have N9 := Lib.hid n9; clear n9; (first | (with_reducible have s9 := BD1.out.trans (rd9.mono BD1.out.size)) | (with_reducible have s9 := (below_alloced BD1.out BD1.out.size _).trans (rd9.mono (below_alloced BD1.out BD1.out.size _).size))); have lo9 := BD1.out.size; have lo8 := fun o => Nat.le_trans lo9 (below_alloc wd1 o).size; (first | (have hbl := BX.lt; with_reducible have BX := BoxP.later BX rd9; have hbl9 := hbl) | (with_reducible have BX := BoxP.after (B := w14.heap.size) rd9 lo9; have hbl9 := lt_alloc wd1) | skip); (first | (have bf9 := BX.f; have bc0 := BX.c0; have bc1 := BX.c1) | skip)) | (have _gd := BD0; go_at_call 17; (with_reducible refine (HTD1.out _ (by first | exact BD0.out | exact below_alloced BD0.out BD0.out.size _ | go_grown)).mono ?_); rintro _ wd1 ⟨u1, rfl, od1_1, qd1, bd1⟩; have OD1_1 := Lib.hid od1_1; clear od1_1; have BD1 := Lib.hid bd1; clear bd1; (first | (with_reducible have BX := BoxP.later BX qd1) | (with_reducible have BX := BoxP.after (B := w14.heap.size) qd1 BD0.out.size) | (with_reducible have BX := BoxP.afterD (B := w14.heap.size) qd1 BD0.out.size) | skip); (first | (with_reducible have qq1 : Below wd0.heap.size wd0 wd1 := qd1) | (with_reducible have qq1 : Below wd0.heap.size wd0 wd1 := below_of_alloc qd1)); have QD1 := Lib.hid qq1; clear qq1; clear qd1; have od0_1 := OD0_0.out.later QD1.out; have OD0_1 := Lib.hid od0_1; clear od0_1) | (go_at_call 17; (with_reducible refine (HTD0.out _ (by go_grown)).mono ?_); rintro _ wd0 ⟨u0, rfl, od0_0, qd0, bd0⟩; have OD0_0 := Lib.hid od0_0; clear od0_0; have BD0 := Lib.hid bd0; clear bd0; (first | (with_reducible have BX := BoxP.later BX qd0) | (with_reducible have BX := BoxP.after (B := w14.heap.size) qd0 (Nat.le_refl _)) | (with_reducible have BX := BoxP.afterD (B := w14.heap.size) qd0 (Nat.le_refl _)) | skip); clear qd0))
        all_goals (go_wp2_with fail; go_meet; first | exact CutP.mk s9 N9.out lo9 | exact CutP.mk s9 N9.out (lo8 _) | exact CutP.set BX s9 N9.out hbl9 lo9 | exact CutP.set BX s9 N9.out (hbl9 _) (lo8 _))
      case rest =>
      obtain ⟨bx15, ao5, cap5, rfl, rfl, hbl15, hbt15, c6_0_15, c6_1_15, n5, s15⟩ := hcut
      generalize wc = w15 at *
      clear HTD0 HTD1
      have y15 := s15.size
      have b15 := b14.trans (s15.mono z14)
      have z15 := b15.size
      have c0_0_15 := below_cell s15 c0_0_14
      clear c0_0_14
      have c0_1_15 := below_cell s15 c0_1_14
      clear c0_1_14
      have c1_0_15 := below_cell s15 c1_0_14
      clear c1_0_14
      have c1_1_15 := below_cell s15 c1_1_14
      clear c1_1_14
      have c2_0_15 := below_cell s15 c2_0_14
      clear c2_0_14
      have c2_1_15 := below_cell s15 c2_1_14
      clear c2_1_14
      have c3_0_15 := below_cell s15 c3_0_14
      clear c3_0_14
      have c3_1_15 := below_cell s15 c3_1_14
      clear c3_1_14
      have c4_0_15 := below_cell s15 c4_0_14
      clear c4_0_14
      have c4_1_15 := below_cell s15 c4_1_14
      clear c4_1_14
      have c5_0_15 := below_cell s15 c5_0_14
      clear c5_0_14
      have c5_1_15 := below_cell s15 c5_1_14
      clear c5_1_14
      have o1_15 := own_later O1_14.out s15
      have O1_15 := Lib.hid o1_15; clear o1_15
      have o2_15 := own_later O2_14.out s15
      have O2_15 := Lib.hid o2_15; clear o2_15
      have o3_15 := own_later O3_14.out s15
      have O3_15 := Lib.hid o3_15; clear o3_15
      have o4_15 := own_later O4_14.out s15
      have O4_15 := Lib.hid o4_15; clear o4_15
      clear al0_0_14
      clear al0_1_14
      clear al1_0_14
      clear al1_1_14
      clear al2_0_14
      clear al2_1_14
      clear al3_0_14
      clear al3_1_14
      clear al4_0_14
      clear al4_1_14
      clear al5_0_14
      clear al5_1_14
      have al0_0_15 := fun o => alloc_cell o c0_0_15
      have al0_1_15 := fun o => alloc_cell o c0_1_15
      have al1_0_15 := fun o => alloc_cell o c1_0_15
      have al1_1_15 := fun o => alloc_cell o c1_1_15
      have al2_0_15 := fun o => alloc_cell o c2_0_15
      have al2_1_15 := fun o => alloc_cell o c2_1_15
      have al3_0_15 := fun o => alloc_cell o c3_0_15
      have al3_1_15 := fun o => alloc_cell o c3_1_15
      have al4_0_15 := fun o => alloc_cell o c4_0_15
      have al4_1_15 := fun o => alloc_cell o c4_1_15
      have al5_0_15 := fun o => alloc_cell o c5_0_15
      have al5_1_15 := fun o => alloc_cell o c5_1_15
      have up5 := fun k hk => (World.ownsRow.lt n5 k hk).2
      have lo5 := fun k hk => (World.ownsRow.lt n5 k hk).1
      have UP5 := Lib.hid up5; clear up5
      have LO5 := Lib.hid lo5; clear lo5
      have O5_15 := Lib.hid n5; clear n5
      go_wp2_with fail
      refine (HEq.out _ _ _ (Rd.of_own O5_15.out) (Rd.of_own O1_15.out)).mono ?_
      rintro _ w16 ⟨rfl, r16⟩
      have s16 := r16
      have y16 := s16.size
      have b16 := b15.trans (s16.mono z15)
      have z16 := b16.size
      have c0_0_16 := below_cell s16 c0_0_15
      clear c0_0_15
      have c0_1_16 := below_cell s16 c0_1_15
      clear c0_1_15
      have c1_0_16 := below_cell s16 c1_0_15
      clear c1_0_15
      have c1_1_16 := below_cell s16 c1_1_15
      clear c1_1_15
      have c2_0_16 := below_cell s16 c2_0_15
      clear c2_0_15
      have c2_1_16 := below_cell s16 c2_1_15
      clear c2_1_15
      have c3_0_16 := below_cell s16 c3_0_15
      clear c3_0_15
      have c3_1_16 := below_cell s16 c3_1_15
      clear c3_1_15
      have c4_0_16 := below_cell s16 c4_0_15
      clear c4_0_15
      have c4_1_16 := below_cell s16 c4_1_15
      clear c4_1_15
      have c5_0_16 := below_cell s16 c5_0_15
      clear c5_0_15
      have c5_1_16 := below_cell s16 c5_1_15
      clear c5_1_15
      have c6_0_16 := below_cell s16 c6_0_15
      clear c6_0_15
      have c6_1_16 := below_cell s16 c6_1_15
      clear c6_1_15
      have o1_16 := own_later O1_15.out s16
      have O1_16 := Lib.hid o1_16; clear o1_16
      have o2_16 := own_later O2_15.out s16
      have O2_16 := Lib.hid o2_16; clear o2_16
      have o3_16 := own_later O3_15.out s16
      have O3_16 := Lib.hid o3_16; clear o3_16
      have o4_16 := own_later O4_15.out s16
      have O4_16 := Lib.hid o4_16; clear o4_16
      have o5_16 := own_later O5_15.out s16
      have O5_16 := Lib.hid o5_16; clear o5_16
      clear al0_0_15
      clear al0_1_15
      clear al1_0_15
      clear al1_1_15
      clear al2_0_15
      clear al2_1_15
      clear al3_0_15
      clear al3_1_15
      clear al4_0_15
      clear al4_1_15
      clear al5_0_15
      clear al5_1_15
      have al0_0_16 := fun o => alloc_cell o c0_0_16
      have al0_1_16 := fun o => alloc_cell o c0_1_16
      have al1_0_16 := fun o => alloc_cell o c1_0_16
      have al1_1_16 := fun o => alloc_cell o c1_1_16
      have al2_0_16 := fun o => alloc_cell o c2_0_16
      have al2_1_16 := fun o => alloc_cell o c2_1_16
      have al3_0_16 := fun o => alloc_cell o c3_0_16
      have al3_1_16 := fun o => alloc_cell o c3_1_16
      have al4_0_16 := fun o => alloc_cell o c4_0_16
      have al4_1_16 := fun o => alloc_cell o c4_1_16
      have al5_0_16 := fun o => alloc_cell o c5_0_16
      have al5_1_16 := fun o => alloc_cell o c5_1_16
      have al6_0_16 := fun o => alloc_cell o c6_0_16
      have al6_1_16 := fun o => alloc_cell o c6_1_16
      go_wp2_with fail
      refine (heldProfile_c _ _ _ _ _ (Rd.of_own O4_16.out) (by omega) (by omega)).mono ?_
      rintro _ w17 ⟨rfl, r17⟩
      have s17 := r17
      have y17 := s17.size
      have b17 := b16.trans (s17.mono z16)
      have z17 := b17.size
      have c0_0_17 := below_cell s17 c0_0_16
      clear c0_0_16
      have c0_1_17 := below_cell s17 c0_1_16
      clear c0_1_16
      have c1_0_17 := below_cell s17 c1_0_16
      clear c1_0_16
      have c1_1_17 := below_cell s17 c1_1_16
      clear c1_1_16
      have c2_0_17 := below_cell s17 c2_0_16
      clear c2_0_16
      have c2_1_17 := below_cell s17 c2_1_16
      clear c2_1_16
      have c3_0_17 := below_cell s17 c3_0_16
      clear c3_0_16
      have c3_1_17 := below_cell s17 c3_1_16
      clear c3_1_16
      have c4_0_17 := below_cell s17 c4_0_16
      clear c4_0_16
      have c4_1_17 := below_cell s17 c4_1_16
      clear c4_1_16
      have c5_0_17 := below_cell s17 c5_0_16
      clear c5_0_16
      have c5_1_17 := below_cell s17 c5_1_16
      clear c5_1_16
      have c6_0_17 := below_cell s17 c6_0_16
      clear c6_0_16
      have c6_1_17 := below_cell s17 c6_1_16
      clear c6_1_16
      have o1_17 := own_later O1_16.out s17
      have O1_17 := Lib.hid o1_17; clear o1_17
      have o2_17 := own_later O2_16.out s17
      have O2_17 := Lib.hid o2_17; clear o2_17
      have o3_17 := own_later O3_16.out s17
      have O3_17 := Lib.hid o3_17; clear o3_17
      have o4_17 := own_later O4_16.out s17
      have O4_17 := Lib.hid o4_17; clear o4_17
      have o5_17 := own_later O5_16.out s17
      have O5_17 := Lib.hid o5_17; clear o5_17
      clear al0_0_16
      clear al0_1_16
      clear al1_0_16
      clear al1_1_16
      clear al2_0_16
      clear al2_1_16
      clear al3_0_16
      clear al3_1_16
      clear al4_0_16
      clear al4_1_16
      clear al5_0_16
      clear al5_1_16
      clear al6_0_16
      clear al6_1_16
      have al0_0_17 := fun o => alloc_cell o c0_0_17
      have al0_1_17 := fun o => alloc_cell o c0_1_17
      have al1_0_17 := fun o => alloc_cell o c1_0_17
      have al1_1_17 := fun o => alloc_cell o c1_1_17
      have al2_0_17 := fun o => alloc_cell o c2_0_17
      have al2_1_17 := fun o => alloc_cell o c2_1_17
      have al3_0_17 := fun o => alloc_cell o c3_0_17
      have al3_1_17 := fun o => alloc_cell o c3_1_17
      have al4_0_17 := fun o => alloc_cell o c4_0_17
      have al4_1_17 := fun o => alloc_cell o c4_1_17
      have al5_0_17 := fun o => alloc_cell o c5_0_17
      have al5_1_17 := fun o => alloc_cell o c5_1_17
      have al6_0_17 := fun o => alloc_cell o c6_0_17
      have al6_1_17 := fun o => alloc_cell o c6_1_17
      go_wp2
      go_returns
      exact RetB.mk rfl b17
    · skip
      have hz1' := fun w' (hb : Below w.heap.size w w') => szProfile_c nm1 sv1 rs1.length (trips rs1) (1048576 - (nm0.size : Int) - (rs0.length : Int)) w' hnm1 (h1.later hb) (by omega) (by omega)
      rw [leftP_neg (by omega)] at hz1'
      have HZ1 := Lib.hid hz1'; clear hz1'
      have HS := Lib.hid hs; clear hs
      have HI := Lib.hid hi; clear hi
      go_enter Try.func7, Try.ntmps7
      have b0 : Below w.heap.size w w := Below.refl _ _
      have z0 : w.heap.size ≤ w.heap.size := Nat.le_refl _
      go_wp2_with fail
      refine (HZ0.out _ (by go_grown)).mono ?_
      rintro _ w1 ⟨rfl, r1⟩
      have s1 : Below w.heap.size w w1 := Below.trans (by go_grown) (r1.mono (by simp; try omega))
      have y1 := s1.size
      have v1 : w.heap.size + 2 ≤ w1.heap.size := by have := r1.size; simp only [World.size_alloc] at this; omega
      have b1 := b0.trans (s1.mono z0)
      have z1 := b1.size
      have c0_0_1 := below_cell r1 (p := ⟨w.heap.size, 0, none⟩) (v := .string nm0) (by simp [go_sem])
      have c0_1_1 := below_cell r1 (p := ⟨w.heap.size, 1, none⟩) (v := sv0) (by simp [go_sem])
      have c1_0_1 := below_cell r1 (p := ⟨w.heap.size + 1, 0, none⟩) (v := .string nm1) (by simp [go_sem])
      have c1_1_1 := below_cell r1 (p := ⟨w.heap.size + 1, 1, none⟩) (v := sv1) (by simp [go_sem])
      clear r1
      have al0_0_1 := fun o => alloc_cell o c0_0_1
      have al0_1_1 := fun o => alloc_cell o c0_1_1
      have al1_0_1 := fun o => alloc_cell o c1_0_1
      have al1_1_1 := fun o => alloc_cell o c1_1_1
      go_wp2_with fail
      refine (HZ1.out _ b1).mono ?_
      rintro _ w2 ⟨rfl, r2⟩
      have s2 := r2
      have y2 := s2.size
      have b2 := b1.trans (s2.mono z1)
      have z2 := b2.size
      have c0_0_2 := below_cell s2 c0_0_1
      clear c0_0_1
      have c0_1_2 := below_cell s2 c0_1_1
      clear c0_1_1
      have c1_0_2 := below_cell s2 c1_0_1
      clear c1_0_1
      have c1_1_2 := below_cell s2 c1_1_1
      clear c1_1_1
      clear al0_0_1
      clear al0_1_1
      clear al1_0_1
      clear al1_1_1
      have al0_0_2 := fun o => alloc_cell o c0_0_2
      have al0_1_2 := fun o => alloc_cell o c0_1_2
      have al1_0_2 := fun o => alloc_cell o c1_0_2
      have al1_1_2 := fun o => alloc_cell o c1_1_2
      go_wp2
      go_returns
      exact RetB.mk rfl b2
  · skip
    have hz0' := fun w' (hb : Below w.heap.size w w') => szProfile_c nm0 sv0 rs0.length (trips rs0) (1048576) w' hnm0 (h0.later hb) (by omega) (by omega)
    rw [leftP_neg (by omega)] at hz0'
    have HZ0 := Lib.hid hz0'; clear hz0'
    have HS := Lib.hid hs; clear hs
    have HI := Lib.hid hi; clear hi
    go_enter Try.func7, Try.ntmps7
    have b0 : Below w.heap.size w w := Below.refl _ _
    have z0 : w.heap.size ≤ w.heap.size := Nat.le_refl _
    go_wp2_with fail
    refine (HZ0.out _ (by go_grown)).mono ?_
    rintro _ w1 ⟨rfl, r1⟩
    have s1 : Below w.heap.size w w1 := Below.trans (by go_grown) (r1.mono (by simp; try omega))
    have y1 := s1.size
    have v1 : w.heap.size + 2 ≤ w1.heap.size := by have := r1.size; simp only [World.size_alloc] at this; omega
    have b1 := b0.trans (s1.mono z0)
    have z1 := b1.size
    have c0_0_1 := below_cell r1 (p := ⟨w.heap.size, 0, none⟩) (v := .string nm0) (by simp [go_sem])
    have c0_1_1 := below_cell r1 (p := ⟨w.heap.size, 1, none⟩) (v := sv0) (by simp [go_sem])
    have c1_0_1 := below_cell r1 (p := ⟨w.heap.size + 1, 0, none⟩) (v := .string nm1) (by simp [go_sem])
    have c1_1_1 := below_cell r1 (p := ⟨w.heap.size + 1, 1, none⟩) (v := sv1) (by simp [go_sem])
    clear r1
    have al0_0_1 := fun o => alloc_cell o c0_0_1
    have al0_1_1 := fun o => alloc_cell o c0_1_1
    have al1_0_1 := fun o => alloc_cell o c1_0_1
    have al1_1_1 := fun o => alloc_cell o c1_1_1
    go_wp2
    go_returns
    exact RetB.mk rfl b1

theorem lawBlendProfiles_c (w : World) (nm0 : ByteArray) (sv0 : Value) (rs0 : List (Int × Int × Int)) (hnm0 : nm0.size ≤ maxLen) (h0 : Rd w sv0 rs0.length (trips rs0)) (w0 : ∀ z ∈ rs0, I64 z.1 ∧ I64 z.2.1 ∧ I64 z.2.2) (nm1 : ByteArray) (sv1 : Value) (rs1 : List (Int × Int × Int)) (hnm1 : nm1.size ≤ maxLen) (h1 : Rd w sv1 rs1.length (trips rs1)) (w1 : ∀ z ∈ rs1, I64 z.1 ∧ I64 z.2.1 ∧ I64 z.2.2) (a2 : Int) (w2 : I64 a2) :
    Calls Try.prog 7 #[.agg #[.string nm0, sv0], .agg #[.string nm1, sv1], .int .i64 a2] w (RetB (.bool true) w) :=
  lawBlendProfiles_h w nm0 sv0 rs0 hnm0 h0 nm1 sv1 rs1 hnm1 h1 a2 (blendI nm0 rs0 nm1 rs1 a2).1 (blendI nm0 rs0 nm1 rs1 a2).2.1 (by have := blendI_len nm0 rs0 nm1 rs1 a2; omega) _ (fun w' u u1 h h1 => specBlendProfiles_c nm0 u rs0 nm1 u1 rs1 a2 w' hnm0 hnm1 h h1) (fun w' u u1 h h1 => implBlendProfiles_c nm0 u rs0 nm1 u1 rs1 a2 w' hnm0 hnm1 h h1)

end Go.Proofs.Ytddkjcdnomoglaa
