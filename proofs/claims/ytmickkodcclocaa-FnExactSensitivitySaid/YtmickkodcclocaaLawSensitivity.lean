/- The law of Sensitivity, walked. -/
import Derived.Test.YtmickkodcclocaaGC
import Derived.Test.YtmickkodcclocaaMarkM
import Derived.Test.YtmickkodcclocaaSens3
namespace Go.Proofs.Ytmickkodcclocaa
set_option linter.unusedVariables false
open Go.RowKit Go.Proofs.Bell Go.BigFrame

set_option maxRecDepth 100000 in
set_option maxHeartbeats 3200000 in
theorem lawSensitivity_h (w : World) (zv0 wv0 bv0 : Value) (zs0 : List Int) (ws0 : List (List Int)) (bs0 : List Int) (hz0 : Rd w zv0 zs0.length (ints zs0)) (hw0 : RdSS w wv0 ws0) (hb0 : Rd w bv0 bs0.length (ints bs0)) (nm1 : ByteArray) (sv1 : Value) (rs1 : List (Int × Int × Int)) (hnm1 : nm1.size ≤ maxLen) (h1 : Rd w sv1 rs1.length (trips rs1)) (a2 : Int) (q0 : List Int) (hq0 : q0.length ≤ 1000000) (t1 : Int)
    (hs : ∀ w' uz0 uw0 ub0 u1, Rd w' uz0 zs0.length (ints zs0) → RdSS w' uw0 ws0 → Rd w' ub0 bs0.length (ints bs0) → Rd w' u1 rs1.length (trips rs1) → Calls Try.prog 44 #[.agg #[uz0, uw0, ub0], .agg #[.string nm1, u1], .int .i64 a2] w' (RetI2 q0 (.int .i64 t1) w'))
    (hi : ∀ w' uz0 uw0 ub0 u1, Rd w' uz0 zs0.length (ints zs0) → RdSS w' uw0 ws0 → Rd w' ub0 bs0.length (ints bs0) → Rd w' u1 rs1.length (trips rs1) → Calls Try.prog 45 #[.agg #[uz0, uw0, ub0], .agg #[.string nm1, u1], .int .i64 a2] w' (RetI2 q0 (.int .i64 t1) w')) :
    Calls Try.prog 9 #[.agg #[zv0, wv0, bv0], .agg #[.string nm1, sv1], .int .i64 a2] w (RetB (.bool true) w) := by
  have hnm1' := hnm1
  unfold maxLen at hnm1'
  by_cases hl0 : ((zs0.length : Int) + SzSS ws0 + bs0.length) ≤ 1048576
  · skip
    have hz0' := fun w' (hb : Below w.heap.size w w') => szModel_c zv0 wv0 bv0 zs0 ws0 bs0 (1048576) w' (hz0.later hb) (hw0.later hb) (hb0.later hb) (by omega) (by omega)
    rw [leftM_pos (by omega)] at hz0'
    have HZ0 := Lib.hid hz0'; clear hz0'
    by_cases hl1 : ((nm1.size : Int) + rs1.length) ≤ 1048576 - (zs0.length : Int) - (SzSS ws0 : Int) - (bs0.length : Int)
    · skip
      have hz1' := fun w' (hb : Below w.heap.size w w') => szProfile_c nm1 sv1 rs1.length (trips rs1) (1048576 - (zs0.length : Int) - (SzSS ws0 : Int) - (bs0.length : Int)) w' hnm1 (h1.later hb) (by omega) (by omega)
      rw [leftP_pos (by omega)] at hz1'
      have HZ1 := Lib.hid hz1'; clear hz1'
      have ht0 := fun w' (hb : Below w.heap.size w w') => toModel_c zv0 wv0 bv0 zs0 ws0 bs0 w' (hz0.later hb) (hw0.later hb) (hb0.later hb) (by omega) (by omega) (by omega)
      have he0 := fun w' xa xb xc ya yb yc (h1 : Rd w' xa zs0.length (ints zs0)) (h2 : RdSS w' xb ws0) (h3 : Rd w' xc bs0.length (ints bs0)) (h4 : Rd w' ya zs0.length (ints zs0)) (h5 : RdSS w' yb ws0) (h6 : Rd w' yc bs0.length (ints bs0)) => eqModel_c xa xb xc ya yb yc zs0 ws0 bs0 w' h1 h2 h3 h4 h5 h6
      have HAZ0 := Lib.hid hz0; clear hz0
      have HAW0 := Lib.hid hw0; clear hw0
      have HAB0 := Lib.hid hb0; clear hb0
      have HE0 := Lib.hid he0; clear he0
      have HT0 := Lib.hid ht0; clear ht0
      have ht1 := fun w' (hb : Below w.heap.size w w') => toProfile_c nm1 sv1 rs1 w' (h1.later hb) (by omega)
      have he1 := fun w' x y (h1 : Rd w' x rs1.length (trips rs1)) (h2 : Rd w' y rs1.length (trips rs1)) => eqProfile_c nm1 nm1 x y rs1 rs1 w' h1 h2
      rw [eqPr_refl] at he1
      clear h1
      have HE1 := Lib.hid he1; clear he1
      have HT1 := Lib.hid ht1; clear ht1
      have heq := fun w' x y (h1 : Rd w' x q0.length (ints q0)) (h2 : Rd w' y q0.length (ints q0)) => (eqInt64S_c x y q0 q0 w' h1 h2).mono fun _ _ h => h.toB
      rw [eqZs_refl] at heq
      have HEq := Lib.hid heq; clear heq
      have HS := Lib.hid hs; clear hs
      have HI := Lib.hid hi; clear hi
      go_enter Try.func9, Try.ntmps9
      have b0 : Below w.heap.size w w := Below.refl _ _
      have z0 : w.heap.size ≤ w.heap.size := Nat.le_refl _
      go_wp2_with fail
      refine (HZ0.out _ (by go_grown)).mono ?_
      rintro _ w1 ⟨rfl, r1⟩
      have s1 : Below w.heap.size w w1 := Below.trans (by go_grown) (r1.mono (by simp; try omega))
      have y1 := s1.size
      have v1 : w.heap.size + 2 ≤ w1.heap.size := by have := r1.size; simp only [World.size_alloc] at this; omega
      have b1 := b0.trans (s1.mono z0)
      have z1 := b1.size
      have c0_0_1 := below_cell r1 (p := ⟨w.heap.size, 0, none⟩) (v := zv0) (by simp [go_sem])
      have c0_1_1 := below_cell r1 (p := ⟨w.heap.size, 1, none⟩) (v := wv0) (by simp [go_sem])
      have c0_2_1 := below_cell r1 (p := ⟨w.heap.size, 2, none⟩) (v := bv0) (by simp [go_sem])
      have c1_0_1 := below_cell r1 (p := ⟨w.heap.size + 1, 0, none⟩) (v := .string nm1) (by simp [go_sem])
      have c1_1_1 := below_cell r1 (p := ⟨w.heap.size + 1, 1, none⟩) (v := sv1) (by simp [go_sem])
      clear r1
      have al0_0_1 := fun o => alloc_cell o c0_0_1
      have al0_1_1 := fun o => alloc_cell o c0_1_1
      have al0_2_1 := fun o => alloc_cell o c0_2_1
      have al1_0_1 := fun o => alloc_cell o c1_0_1
      have al1_1_1 := fun o => alloc_cell o c1_1_1
      go_wp2_with fail
      refine (HZ1.out _ b1).mono ?_
      rintro _ w2 ⟨rfl, r2⟩
      have s2 := r2
      have y2 := s2.size
      have b2 := b1.trans (s2.mono z1)
      have z2 := b2.size
      have c0_0_2 := below_cell s2 c0_0_1
      clear c0_0_1
      have c0_1_2 := below_cell s2 c0_1_1
      clear c0_1_1
      have c0_2_2 := below_cell s2 c0_2_1
      clear c0_2_1
      have c1_0_2 := below_cell s2 c1_0_1
      clear c1_0_1
      have c1_1_2 := below_cell s2 c1_1_1
      clear c1_1_1
      clear al0_0_1
      clear al0_1_1
      clear al0_2_1
      clear al1_0_1
      clear al1_1_1
      have al0_0_2 := fun o => alloc_cell o c0_0_2
      have al0_1_2 := fun o => alloc_cell o c0_1_2
      have al0_2_2 := fun o => alloc_cell o c0_2_2
      have al1_0_2 := fun o => alloc_cell o c1_0_2
      have al1_1_2 := fun o => alloc_cell o c1_1_2
      have htd0 : ∀ w', Below w2.heap.size w2 w' → Calls Try.prog 41 #[.agg #[zv0, wv0, bv0]] w' (fun e w'' => ∃ ua0 ub0 uc0, e = .returned (.agg #[ua0, ub0, uc0]) ∧ (Rd w'' ua0 zs0.length (ints zs0) ∧ RdSS w'' ub0 ws0 ∧ Rd w'' uc0 bs0.length (ints bs0)) ∧ Below w'.heap.size w' w'' ∧ Below w2.heap.size w2 w'') := fun w' hb => (HT0.out w' (b2.trans (hb.mono z2))).mono fun _ _ ⟨va, vb, vc, us, e, o, b⟩ => ⟨va, vb, vc, e, ⟨Rd.of_own o.z, o.s.rd, Rd.of_own o.b⟩, b, hb.trans (b.mono hb.size)⟩
      have HTD0 := Lib.hid htd0; clear htd0
      have htd1 : ∀ w', Below w2.heap.size w2 w' → Calls Try.prog 17 #[.agg #[.string nm1, sv1]] w' (fun e w'' => ∃ u1, e = .returned (.agg #[.string nm1, u1]) ∧ (Rd w'' u1 rs1.length (trips rs1)) ∧ Below w'.heap.size w' w'' ∧ Below w2.heap.size w2 w'') := fun w' hb => (HT1.out w' (b2.trans (hb.mono z2))).mono fun _ _ ⟨v, e, o, b⟩ => ⟨v, e, Rd.of_own o, b, hb.trans (b.mono hb.size)⟩
      have HTD1 := Lib.hid htd1; clear htd1
      go_wp2_with fail
      go_region_held3 (fun w' => w'.cell? ⟨w.heap.size, 0, none⟩ = some (zv0) ∧ w'.cell? ⟨w.heap.size, 1, none⟩ = some (wv0) ∧ w'.cell? ⟨w.heap.size, 2, none⟩ = some (bv0) ∧ w'.cell? ⟨w.heap.size + 1, 0, none⟩ = some (.string nm1) ∧ w'.cell? ⟨w.heap.size + 1, 1, none⟩ = some (sv1)) (first | exact ⟨c0_0_2, c0_1_2, c0_2_2, c1_0_2, c1_1_2⟩ | exact ⟨below_cell s3 c0_0_2, below_cell s3 c0_1_2, below_cell s3 c0_2_2, below_cell s3 c1_0_2, below_cell s3 c1_1_2⟩ | exact ⟨below_cell BD1.out c0_0_2, below_cell BD1.out c0_1_2, below_cell BD1.out c0_2_2, below_cell BD1.out c1_0_2, below_cell BD1.out c1_1_2⟩ | exact ⟨below_cell BD0.out c0_0_2, below_cell BD0.out c0_1_2, below_cell BD0.out c0_2_2, below_cell BD0.out c1_0_2, below_cell BD0.out c1_1_2⟩ | go_keep) (first | (go_at_call 44; refine (HS.out _ _ _ _ _ OD0_1.out.1 OD0_1.out.2.1 OD0_1.out.2.2 OD1_1.out).mono ?_; rintro _ w3 ⟨x1, rfl, n1, rd9⟩; have s3 := BD1.out.trans (rd9.mono BD1.out.size); have lo9 := BD1.out.size) | (have _gd := BD0; go_at_call 17; refine (HTD1.out _ (by first | exact BD0.out | go_grown)).mono ?_; rintro _ wd1 ⟨u1, rfl, od1_1, qd1, bd1⟩; have OD1_1 := Lib.hid od1_1; clear od1_1; have QD1 := Lib.hid qd1; clear qd1; have BD1 := Lib.hid bd1; clear bd1; have od0_1 := And.intro (OD0_0.out.1.later QD1.out) (And.intro (OD0_0.out.2.1.later QD1.out) (OD0_0.out.2.2.later QD1.out)); have OD0_1 := Lib.hid od0_1; clear od0_1) | (go_at_call 41; refine (HTD0.out _ (by go_grown)).mono ?_; rintro _ wd0 ⟨ua0, ub0, uc0, rfl, od0_0, qd0, bd0⟩; have OD0_0 := Lib.hid od0_0; clear od0_0; have QD0 := Lib.hid qd0; clear qd0; have BD0 := Lib.hid bd0; clear bd0))
      clear HTD0 HTD1 rd9
      try clear BD0 ; try clear QD0 ; try clear OD0_0
      try clear BD1 ; try clear QD1 ; try clear OD0_1 ; try clear OD1_1
      have y3 := s3.size
      have b3 := b2.trans (s3.mono z2)
      have z3 := b3.size
      have c0_0_3 := below_cell s3 c0_0_2
      clear c0_0_2
      have c0_1_3 := below_cell s3 c0_1_2
      clear c0_1_2
      have c0_2_3 := below_cell s3 c0_2_2
      clear c0_2_2
      have c1_0_3 := below_cell s3 c1_0_2
      clear c1_0_2
      have c1_1_3 := below_cell s3 c1_1_2
      clear c1_1_2
      clear al0_0_2
      clear al0_1_2
      clear al0_2_2
      clear al1_0_2
      clear al1_1_2
      have al0_0_3 := fun o => alloc_cell o c0_0_3
      have al0_1_3 := fun o => alloc_cell o c0_1_3
      have al0_2_3 := fun o => alloc_cell o c0_2_3
      have al1_0_3 := fun o => alloc_cell o c1_0_3
      have al1_1_3 := fun o => alloc_cell o c1_1_3
      have m1 := own_base n1 lo9
      clear n1
      obtain ⟨ao1, cap1, g1, rfl, _, _⟩ := own_open m1
      have up1 := fun k hk => (World.ownsRow.lt m1 k hk).2
      have lo1 := fun k hk => (World.ownsRow.lt m1 k hk).1
      try simp only [World.size_alloc] at lo1
      have UP1 := Lib.hid up1; clear up1
      have LO1 := Lib.hid lo1; clear lo1
      have o1' := m1
      have O1_3 := Lib.hid o1'; clear o1'
      clear m1
      go_wp2_with fail
      refine (HT0.out _ b3).mono ?_
      rintro _ w4 ⟨xa2, xb2, xc2, us2, rfl, nm_2, r4⟩
      have s4 := r4
      have y4 := s4.size
      have b4 := b3.trans (s4.mono z3)
      have z4 := b4.size
      have c0_0_4 := below_cell s4 c0_0_3
      clear c0_0_3
      have c0_1_4 := below_cell s4 c0_1_3
      clear c0_1_3
      have c0_2_4 := below_cell s4 c0_2_3
      clear c0_2_3
      have c1_0_4 := below_cell s4 c1_0_3
      clear c1_0_3
      have c1_1_4 := below_cell s4 c1_1_3
      clear c1_1_3
      have o1_4 := own_later O1_3.out s4
      have O1_4 := Lib.hid o1_4; clear o1_4
      clear al0_0_3
      clear al0_1_3
      clear al0_2_3
      clear al1_0_3
      clear al1_1_3
      have al0_0_4 := fun o => alloc_cell o c0_0_4
      have al0_1_4 := fun o => alloc_cell o c0_1_4
      have al0_2_4 := fun o => alloc_cell o c0_2_4
      have al1_0_4 := fun o => alloc_cell o c1_0_4
      have al1_1_4 := fun o => alloc_cell o c1_1_4
      obtain ⟨az2, pz2, rfl⟩ := own_shape nm_2.z
      obtain ⟨aw2, pw2, rfl⟩ := own_shape nm_2.s.row
      obtain ⟨ab2, pb2, rfl⟩ := own_shape nm_2.b
      have om2 : OwnM w3.heap.size w4.heap.size w4 (.slice az2 zs0.length pz2) (.slice aw2 ws0.length pw2) (.slice ab2 bs0.length pb2) us2 zs0 ws0 bs0 := nm_2.wide (by first | exact Nat.le_refl _ | (simp; done) | (simp; omega)) (Nat.le_refl _)
      clear nm_2
      have OM2_4 := Lib.hid om2; clear om2
      go_wp2_with fail
      refine (HT1.out _ (by go_grown)).mono ?_
      rintro _ w5 ⟨x3, rfl, n3, r5⟩
      have s5 : Below w4.heap.size w4 w5 := Below.trans (by go_grown) (r5.mono (by simp; try omega))
      have y5 := s5.size
      have v5 : w4.heap.size + 1 ≤ w5.heap.size := by have := r5.size; simp only [World.size_alloc] at this; omega
      have b5 := b4.trans (s5.mono z4)
      have z5 := b5.size
      have c0_0_5 := below_cell s5 c0_0_4
      clear c0_0_4
      have c0_1_5 := below_cell s5 c0_1_4
      clear c0_1_4
      have c0_2_5 := below_cell s5 c0_2_4
      clear c0_2_4
      have c1_0_5 := below_cell s5 c1_0_4
      clear c1_0_4
      have c1_1_5 := below_cell s5 c1_1_4
      clear c1_1_4
      have c2_0_5 := below_cell r5 (p := ⟨w4.heap.size, 0, none⟩) (v := .slice az2 zs0.length pz2) (by simp [go_sem])
      have c2_1_5 := below_cell r5 (p := ⟨w4.heap.size, 1, none⟩) (v := .slice aw2 ws0.length pw2) (by simp [go_sem])
      have c2_2_5 := below_cell r5 (p := ⟨w4.heap.size, 2, none⟩) (v := .slice ab2 bs0.length pb2) (by simp [go_sem])
      have o1_5 := own_later O1_4.out s5
      have O1_5 := Lib.hid o1_5; clear o1_5
      have o2_5 := OM2_4.out.later s5
      have O2_5 := Lib.hid o2_5; clear o2_5
      clear r5
      clear al0_0_4
      clear al0_1_4
      clear al0_2_4
      clear al1_0_4
      clear al1_1_4
      have al0_0_5 := fun o => alloc_cell o c0_0_5
      have al0_1_5 := fun o => alloc_cell o c0_1_5
      have al0_2_5 := fun o => alloc_cell o c0_2_5
      have al1_0_5 := fun o => alloc_cell o c1_0_5
      have al1_1_5 := fun o => alloc_cell o c1_1_5
      have al2_0_5 := fun o => alloc_cell o c2_0_5
      have al2_1_5 := fun o => alloc_cell o c2_1_5
      have al2_2_5 := fun o => alloc_cell o c2_2_5
      obtain ⟨ao3, cap3, g3, rfl, _, _⟩ := own_open n3
      have up3 := fun k hk => (World.ownsRow.lt n3 k hk).2
      have lo3 := fun k hk => (World.ownsRow.lt n3 k hk).1
      try simp only [World.size_alloc] at lo3
      have UP3 := Lib.hid up3; clear up3
      have LO3 := Lib.hid lo3; clear lo3
      have o3' := n3
      have O3_5 := Lib.hid o3'; clear o3'
      clear n3
      go_wp2_with fail
      refine (HI.out _ _ _ _ _ ((Rd.of_own O2_5.out.z).later (by go_grown)) ((O2_5.out.s.rd).later (by go_grown)) ((Rd.of_own O2_5.out.b).later (by go_grown)) ((Rd.of_own O3_5.out).later (by go_grown))).mono ?_
      rintro _ w6 ⟨x4, rfl, n4, r6⟩
      have s6 : Below w5.heap.size w5 w6 := Below.trans (by go_grown) (r6.mono (by simp; try omega))
      have y6 := s6.size
      have v6 : w5.heap.size + 1 ≤ w6.heap.size := by have := r6.size; simp only [World.size_alloc] at this; omega
      have b6 := b5.trans (s6.mono z5)
      have z6 := b6.size
      have c0_0_6 := below_cell s6 c0_0_5
      clear c0_0_5
      have c0_1_6 := below_cell s6 c0_1_5
      clear c0_1_5
      have c0_2_6 := below_cell s6 c0_2_5
      clear c0_2_5
      have c1_0_6 := below_cell s6 c1_0_5
      clear c1_0_5
      have c1_1_6 := below_cell s6 c1_1_5
      clear c1_1_5
      have c2_0_6 := below_cell s6 c2_0_5
      clear c2_0_5
      have c2_1_6 := below_cell s6 c2_1_5
      clear c2_1_5
      have c2_2_6 := below_cell s6 c2_2_5
      clear c2_2_5
      have c3_0_6 := below_cell r6 (p := ⟨w5.heap.size, 0, none⟩) (v := .string nm1) (by simp [go_sem])
      have c3_1_6 := below_cell r6 (p := ⟨w5.heap.size, 1, none⟩) (v := .slice ao3 rs1.length cap3) (by simp [go_sem])
      have o1_6 := own_later O1_5.out s6
      have O1_6 := Lib.hid o1_6; clear o1_6
      have o2_6 := O2_5.out.later s6
      have O2_6 := Lib.hid o2_6; clear o2_6
      have o3_6 := own_later O3_5.out s6
      have O3_6 := Lib.hid o3_6; clear o3_6
      clear r6
      clear al0_0_5
      clear al0_1_5
      clear al0_2_5
      clear al1_0_5
      clear al1_1_5
      clear al2_0_5
      clear al2_1_5
      clear al2_2_5
      have al0_0_6 := fun o => alloc_cell o c0_0_6
      have al0_1_6 := fun o => alloc_cell o c0_1_6
      have al0_2_6 := fun o => alloc_cell o c0_2_6
      have al1_0_6 := fun o => alloc_cell o c1_0_6
      have al1_1_6 := fun o => alloc_cell o c1_1_6
      have al2_0_6 := fun o => alloc_cell o c2_0_6
      have al2_1_6 := fun o => alloc_cell o c2_1_6
      have al2_2_6 := fun o => alloc_cell o c2_2_6
      have al3_0_6 := fun o => alloc_cell o c3_0_6
      have al3_1_6 := fun o => alloc_cell o c3_1_6
      obtain ⟨ao4, cap4, g4, rfl, _, _⟩ := own_open n4
      have up4 := fun k hk => (World.ownsRow.lt n4 k hk).2
      have lo4 := fun k hk => (World.ownsRow.lt n4 k hk).1
      try simp only [World.size_alloc] at lo4
      have UP4 := Lib.hid up4; clear up4
      have LO4 := Lib.hid lo4; clear lo4
      have o4' := n4
      have O4_6 := Lib.hid o4'; clear o4'
      clear n4
      go_wp2_with fail
      refine (HEq.out _ _ _ (Rd.of_own O4_6.out) (Rd.of_own O1_6.out)).mono ?_
      rintro _ w7 ⟨rfl, r7⟩
      have s7 := r7
      have y7 := s7.size
      have b7 := b6.trans (s7.mono z6)
      have z7 := b7.size
      have c0_0_7 := below_cell s7 c0_0_6
      clear c0_0_6
      have c0_1_7 := below_cell s7 c0_1_6
      clear c0_1_6
      have c0_2_7 := below_cell s7 c0_2_6
      clear c0_2_6
      have c1_0_7 := below_cell s7 c1_0_6
      clear c1_0_6
      have c1_1_7 := below_cell s7 c1_1_6
      clear c1_1_6
      have c2_0_7 := below_cell s7 c2_0_6
      clear c2_0_6
      have c2_1_7 := below_cell s7 c2_1_6
      clear c2_1_6
      have c2_2_7 := below_cell s7 c2_2_6
      clear c2_2_6
      have c3_0_7 := below_cell s7 c3_0_6
      clear c3_0_6
      have c3_1_7 := below_cell s7 c3_1_6
      clear c3_1_6
      have o1_7 := own_later O1_6.out s7
      have O1_7 := Lib.hid o1_7; clear o1_7
      have o2_7 := O2_6.out.later s7
      have O2_7 := Lib.hid o2_7; clear o2_7
      have o3_7 := own_later O3_6.out s7
      have O3_7 := Lib.hid o3_7; clear o3_7
      have o4_7 := own_later O4_6.out s7
      have O4_7 := Lib.hid o4_7; clear o4_7
      clear al0_0_6
      clear al0_1_6
      clear al0_2_6
      clear al1_0_6
      clear al1_1_6
      clear al2_0_6
      clear al2_1_6
      clear al2_2_6
      clear al3_0_6
      clear al3_1_6
      have al0_0_7 := fun o => alloc_cell o c0_0_7
      have al0_1_7 := fun o => alloc_cell o c0_1_7
      have al0_2_7 := fun o => alloc_cell o c0_2_7
      have al1_0_7 := fun o => alloc_cell o c1_0_7
      have al1_1_7 := fun o => alloc_cell o c1_1_7
      have al2_0_7 := fun o => alloc_cell o c2_0_7
      have al2_1_7 := fun o => alloc_cell o c2_1_7
      have al2_2_7 := fun o => alloc_cell o c2_2_7
      have al3_0_7 := fun o => alloc_cell o c3_0_7
      have al3_1_7 := fun o => alloc_cell o c3_1_7
      go_wp2_with fail
      have ht5 : ∀ w', Below w7.heap.size w7 w' → Calls Try.prog 41 #[.agg #[zv0, wv0, bv0]] w' (fun e w'' => ∃ ua ub uc, e = .returned (.agg #[ua, ub, uc]) ∧ ((Rd w'' ua zs0.length (ints zs0) ∧ RdSS w'' ub ws0 ∧ Rd w'' uc bs0.length (ints bs0)) ∧ Below w7.heap.size w7 w'')) := fun w' hb => (HT0.out w' (b7.trans (hb.mono z7))).mono fun _ _ ⟨va, vb, vc, us, e, o, b⟩ => ⟨va, vb, vc, e, ⟨Rd.of_own o.z, o.s.rd, Rd.of_own o.b⟩, hb.trans (b.mono hb.size)⟩
      have he5 : ∀ w' ua ub uc, (Rd w' ua zs0.length (ints zs0) ∧ RdSS w' ub ws0 ∧ Rd w' uc bs0.length (ints bs0)) ∧ Below w7.heap.size w7 w' → Calls Try.prog 32 #[.agg #[.slice az2 zs0.length pz2, .slice aw2 ws0.length pw2, .slice ab2 bs0.length pb2], .agg #[ua, ub, uc]] w' (fun e w'' => e = .returned (.bool true) ∧ Below w7.heap.size w7 w'') := fun w' va vb vc ⟨o, hb⟩ => (HE0.out w' _ _ _ _ _ _ (Rd.of_own (O2_7.out.later hb).z) (O2_7.out.later hb).s.rd (Rd.of_own (O2_7.out.later hb).b) o.1 o.2.1 o.2.2).mono fun _ _ ⟨e, b⟩ => ⟨e, hb.trans (b.mono hb.size)⟩
      have HT5 := Lib.hid ht5; clear ht5
      have HE5 := Lib.hid he5; clear he5
      go_region_held3 (fun w' => w'.cell? ⟨w.heap.size, 0, none⟩ = some (zv0) ∧ w'.cell? ⟨w.heap.size, 1, none⟩ = some (wv0) ∧ w'.cell? ⟨w.heap.size, 2, none⟩ = some (bv0) ∧ w'.cell? ⟨w4.heap.size, 0, none⟩ = some (.slice az2 zs0.length pz2) ∧ w'.cell? ⟨w4.heap.size, 1, none⟩ = some (.slice aw2 ws0.length pw2) ∧ w'.cell? ⟨w4.heap.size, 2, none⟩ = some (.slice ab2 bs0.length pb2)) (first | exact ⟨c0_0_7, c0_1_7, c0_2_7, c2_0_7, c2_1_7, c2_2_7⟩ | exact ⟨below_cell O6.out.2 c0_0_7, below_cell O6.out.2 c0_1_7, below_cell O6.out.2 c0_2_7, below_cell O6.out.2 c2_0_7, below_cell O6.out.2 c2_1_7, below_cell O6.out.2 c2_2_7⟩ | exact ⟨below_cell s8 c0_0_7, below_cell s8 c0_1_7, below_cell s8 c0_2_7, below_cell s8 c2_0_7, below_cell s8 c2_1_7, below_cell s8 c2_2_7⟩ | go_keep) (first | (go_at_call 41; refine (HT5.out _ (by go_grown)).mono ?_; rintro _ ww6 ⟨va6, vb6, vc6, rfl, o6⟩; have O6 := Lib.hid o6; clear o6) | (go_at_call 32; refine (HE5.out _ _ _ _ (by assumption)).mono ?_; rintro _ w8 ⟨rfl, s8⟩))
      clear HT5 HE5
      have y8 := s8.size
      have b8 := b7.trans (s8.mono z7)
      have z8 := b8.size
      have c0_0_8 := below_cell s8 c0_0_7
      clear c0_0_7
      have c0_1_8 := below_cell s8 c0_1_7
      clear c0_1_7
      have c0_2_8 := below_cell s8 c0_2_7
      clear c0_2_7
      have c1_0_8 := below_cell s8 c1_0_7
      clear c1_0_7
      have c1_1_8 := below_cell s8 c1_1_7
      clear c1_1_7
      have c2_0_8 := below_cell s8 c2_0_7
      clear c2_0_7
      have c2_1_8 := below_cell s8 c2_1_7
      clear c2_1_7
      have c2_2_8 := below_cell s8 c2_2_7
      clear c2_2_7
      have c3_0_8 := below_cell s8 c3_0_7
      clear c3_0_7
      have c3_1_8 := below_cell s8 c3_1_7
      clear c3_1_7
      have o1_8 := own_later O1_7.out s8
      have O1_8 := Lib.hid o1_8; clear o1_8
      have o2_8 := O2_7.out.later s8
      have O2_8 := Lib.hid o2_8; clear o2_8
      have o3_8 := own_later O3_7.out s8
      have O3_8 := Lib.hid o3_8; clear o3_8
      have o4_8 := own_later O4_7.out s8
      have O4_8 := Lib.hid o4_8; clear o4_8
      clear al0_0_7
      clear al0_1_7
      clear al0_2_7
      clear al1_0_7
      clear al1_1_7
      clear al2_0_7
      clear al2_1_7
      clear al2_2_7
      clear al3_0_7
      clear al3_1_7
      have al0_0_8 := fun o => alloc_cell o c0_0_8
      have al0_1_8 := fun o => alloc_cell o c0_1_8
      have al0_2_8 := fun o => alloc_cell o c0_2_8
      have al1_0_8 := fun o => alloc_cell o c1_0_8
      have al1_1_8 := fun o => alloc_cell o c1_1_8
      have al2_0_8 := fun o => alloc_cell o c2_0_8
      have al2_1_8 := fun o => alloc_cell o c2_1_8
      have al2_2_8 := fun o => alloc_cell o c2_2_8
      have al3_0_8 := fun o => alloc_cell o c3_0_8
      have al3_1_8 := fun o => alloc_cell o c3_1_8
      go_wp2_with fail
      have ht5 : ∀ w', Below w8.heap.size w8 w' → Calls Try.prog 17 #[.agg #[.string nm1, sv1]] w' (fun e w'' => ∃ u, e = .returned (.agg #[.string nm1, u]) ∧ (OwnR w'.heap.size w'' u rs1 ∧ Below w8.heap.size w8 w'')) := fun w' hb => (HT1.out w' (b8.trans (hb.mono z8))).mono fun _ _ ⟨v, e, o, b⟩ => ⟨v, e, o, hb.trans (b.mono hb.size)⟩
      have he5 : ∀ B w' u, OwnR B w' u rs1 ∧ Below w8.heap.size w8 w' → Calls Try.prog 19 #[.agg #[.string nm1, .slice ao3 rs1.length cap3], .agg #[.string nm1, u]] w' (fun e w'' => e = .returned (.bool true) ∧ Below w8.heap.size w8 w'') := fun B w' v ⟨o, hb⟩ => (HE1.out w' _ _ (Rd.of_own (own_later O3_8.out hb)) (Rd.of_own o)).mono fun _ _ ⟨e, b⟩ => ⟨e, hb.trans (b.mono hb.size)⟩
      have HT5 := Lib.hid ht5; clear ht5
      have HE5 := Lib.hid he5; clear he5
      go_region_held3 (fun w' => w'.cell? ⟨w.heap.size + 1, 0, none⟩ = some (.string nm1) ∧ w'.cell? ⟨w.heap.size + 1, 1, none⟩ = some (sv1) ∧ w'.cell? ⟨w5.heap.size, 0, none⟩ = some (.string nm1) ∧ w'.cell? ⟨w5.heap.size, 1, none⟩ = some (.slice ao3 rs1.length cap3)) (first | exact ⟨c1_0_8, c1_1_8, c3_0_8, c3_1_8⟩ | exact ⟨below_cell O6.out.2 c1_0_8, below_cell O6.out.2 c1_1_8, below_cell O6.out.2 c3_0_8, below_cell O6.out.2 c3_1_8⟩ | exact ⟨below_cell s9 c1_0_8, below_cell s9 c1_1_8, below_cell s9 c3_0_8, below_cell s9 c3_1_8⟩ | go_keep) (first | (go_at_call 17; refine (HT5.out _ (by go_grown)).mono ?_; rintro _ ww6 ⟨vv6, rfl, o6⟩; have O6 := Lib.hid o6; clear o6) | (go_at_call 19; refine (HE5.out _ _ _ (by assumption)).mono ?_; rintro _ w9 ⟨rfl, s9⟩))
      clear HT5 HE5
      have y9 := s9.size
      have b9 := b8.trans (s9.mono z8)
      have z9 := b9.size
      have c0_0_9 := below_cell s9 c0_0_8
      clear c0_0_8
      have c0_1_9 := below_cell s9 c0_1_8
      clear c0_1_8
      have c0_2_9 := below_cell s9 c0_2_8
      clear c0_2_8
      have c1_0_9 := below_cell s9 c1_0_8
      clear c1_0_8
      have c1_1_9 := below_cell s9 c1_1_8
      clear c1_1_8
      have c2_0_9 := below_cell s9 c2_0_8
      clear c2_0_8
      have c2_1_9 := below_cell s9 c2_1_8
      clear c2_1_8
      have c2_2_9 := below_cell s9 c2_2_8
      clear c2_2_8
      have c3_0_9 := below_cell s9 c3_0_8
      clear c3_0_8
      have c3_1_9 := below_cell s9 c3_1_8
      clear c3_1_8
      have o1_9 := own_later O1_8.out s9
      have O1_9 := Lib.hid o1_9; clear o1_9
      have o2_9 := O2_8.out.later s9
      have O2_9 := Lib.hid o2_9; clear o2_9
      have o3_9 := own_later O3_8.out s9
      have O3_9 := Lib.hid o3_9; clear o3_9
      have o4_9 := own_later O4_8.out s9
      have O4_9 := Lib.hid o4_9; clear o4_9
      clear al0_0_8
      clear al0_1_8
      clear al0_2_8
      clear al1_0_8
      clear al1_1_8
      clear al2_0_8
      clear al2_1_8
      clear al2_2_8
      clear al3_0_8
      clear al3_1_8
      have al0_0_9 := fun o => alloc_cell o c0_0_9
      have al0_1_9 := fun o => alloc_cell o c0_1_9
      have al0_2_9 := fun o => alloc_cell o c0_2_9
      have al1_0_9 := fun o => alloc_cell o c1_0_9
      have al1_1_9 := fun o => alloc_cell o c1_1_9
      have al2_0_9 := fun o => alloc_cell o c2_0_9
      have al2_1_9 := fun o => alloc_cell o c2_1_9
      have al2_2_9 := fun o => alloc_cell o c2_2_9
      have al3_0_9 := fun o => alloc_cell o c3_0_9
      have al3_1_9 := fun o => alloc_cell o c3_1_9
      go_wp2_with fail
      have hSL : lensK ws0 ws0.length ≤ SzSS ws0 := by unfold SzSS; omega
      refine (markModel_c (w3.heap.size) (w4.heap.size) _ _ _ _ _ _ _ _ _ O2_9.out (by omega) (by omega) (by omega) (by omega) (by omega) (by omega)).mono ?_
      rintro _ w10 ⟨rfl, q10⟩
      have y10 := q10.size
      have b10 := Only.below b9 q10 z9 (fun b hS => by have := hS.1; omega)
      have z10 := b10.size
      have c0_0_10 := cell_only q10 c0_0_9 (fun hS => by have h1 := hS.1; have h2 := hS.2; simp only at h1 h2; omega)
      clear c0_0_9
      have c0_1_10 := cell_only q10 c0_1_9 (fun hS => by have h1 := hS.1; have h2 := hS.2; simp only at h1 h2; omega)
      clear c0_1_9
      have c0_2_10 := cell_only q10 c0_2_9 (fun hS => by have h1 := hS.1; have h2 := hS.2; simp only at h1 h2; omega)
      clear c0_2_9
      have c1_0_10 := cell_only q10 c1_0_9 (fun hS => by have h1 := hS.1; have h2 := hS.2; simp only at h1 h2; omega)
      clear c1_0_9
      have c1_1_10 := cell_only q10 c1_1_9 (fun hS => by have h1 := hS.1; have h2 := hS.2; simp only at h1 h2; omega)
      clear c1_1_9
      have c2_0_10 := cell_only q10 c2_0_9 (fun hS => by have h1 := hS.1; have h2 := hS.2; simp only at h1 h2; omega)
      clear c2_0_9
      have c2_1_10 := cell_only q10 c2_1_9 (fun hS => by have h1 := hS.1; have h2 := hS.2; simp only at h1 h2; omega)
      clear c2_1_9
      have c2_2_10 := cell_only q10 c2_2_9 (fun hS => by have h1 := hS.1; have h2 := hS.2; simp only at h1 h2; omega)
      clear c2_2_9
      have c3_0_10 := cell_only q10 c3_0_9 (fun hS => by have h1 := hS.1; have h2 := hS.2; simp only at h1 h2; omega)
      clear c3_0_9
      have c3_1_10 := cell_only q10 c3_1_9 (fun hS => by have h1 := hS.1; have h2 := hS.2; simp only at h1 h2; omega)
      clear c3_1_9
      have o1_10 := own_only O1_9.out q10 (fun k hk hS => by have := hS.1; have := hS.2; have := LO1.out _ hk; have := UP1.out _ hk; omega)
      have O1_10 := Lib.hid o1_10; clear o1_10
      have o3_10 := own_only O3_9.out q10 (fun k hk hS => by have := hS.1; have := hS.2; have := LO3.out _ hk; have := UP3.out _ hk; omega)
      have O3_10 := Lib.hid o3_10; clear o3_10
      have o4_10 := own_only O4_9.out q10 (fun k hk hS => by have := hS.1; have := hS.2; have := LO4.out _ hk; have := UP4.out _ hk; omega)
      have O4_10 := Lib.hid o4_10; clear o4_10
      go_wp2_with fail
      refine (markProfile_c _ _ _ _ _ _ _ O3_10.out (by omega) (by omega) (by omega)).mono ?_
      rintro _ w11 ⟨rfl, m11, q11⟩
      have y11 := q11.size
      have b11 := Only.below b10 q11 z10 (fun b hS => by have := LO3.out b hS; omega)
      have z11 := b11.size
      have c0_0_11 := cell_only q11 c0_0_10 (fun hS => by have h1 : _ ≤ w.heap.size := LO3.out _ hS; have h2 : w.heap.size < _ := UP3.out _ hS; omega)
      clear c0_0_10
      have c0_1_11 := cell_only q11 c0_1_10 (fun hS => by have h1 : _ ≤ w.heap.size := LO3.out _ hS; have h2 : w.heap.size < _ := UP3.out _ hS; omega)
      clear c0_1_10
      have c0_2_11 := cell_only q11 c0_2_10 (fun hS => by have h1 : _ ≤ w.heap.size := LO3.out _ hS; have h2 : w.heap.size < _ := UP3.out _ hS; omega)
      clear c0_2_10
      have c1_0_11 := cell_only q11 c1_0_10 (fun hS => by have h1 : _ ≤ w.heap.size + 1 := LO3.out _ hS; have h2 : w.heap.size + 1 < _ := UP3.out _ hS; omega)
      clear c1_0_10
      have c1_1_11 := cell_only q11 c1_1_10 (fun hS => by have h1 : _ ≤ w.heap.size + 1 := LO3.out _ hS; have h2 : w.heap.size + 1 < _ := UP3.out _ hS; omega)
      clear c1_1_10
      have c2_0_11 := cell_only q11 c2_0_10 (fun hS => by have h1 : _ ≤ w4.heap.size := LO3.out _ hS; have h2 : w4.heap.size < _ := UP3.out _ hS; omega)
      clear c2_0_10
      have c2_1_11 := cell_only q11 c2_1_10 (fun hS => by have h1 : _ ≤ w4.heap.size := LO3.out _ hS; have h2 : w4.heap.size < _ := UP3.out _ hS; omega)
      clear c2_1_10
      have c2_2_11 := cell_only q11 c2_2_10 (fun hS => by have h1 : _ ≤ w4.heap.size := LO3.out _ hS; have h2 : w4.heap.size < _ := UP3.out _ hS; omega)
      clear c2_2_10
      have c3_0_11 := cell_only q11 c3_0_10 (fun hS => by have h1 : _ ≤ w5.heap.size := LO3.out _ hS; have h2 : w5.heap.size < _ := UP3.out _ hS; omega)
      clear c3_0_10
      have c3_1_11 := cell_only q11 c3_1_10 (fun hS => by have h1 : _ ≤ w5.heap.size := LO3.out _ hS; have h2 : w5.heap.size < _ := UP3.out _ hS; omega)
      clear c3_1_10
      have o1_11 := own_only O1_10.out q11 (fun k hk hS => by have := LO3.out _ hS; have := UP3.out _ hS; have := LO1.out _ hk; have := UP1.out _ hk; omega)
      have O1_11 := Lib.hid o1_11; clear o1_11
      have o4_11 := own_only O4_10.out q11 (fun k hk hS => by have := LO3.out _ hS; have := UP3.out _ hS; have := LO4.out _ hk; have := UP4.out _ hk; omega)
      have O4_11 := Lib.hid o4_11; clear o4_11
      have O3_11 := Lib.hid m11; clear m11
      go_wp2_with fail
      refine (HEq.out _ _ _ (Rd.of_own O4_11.out) (Rd.of_own O1_11.out)).mono ?_
      rintro _ w12 ⟨rfl, r12⟩
      have s12 := r12
      have y12 := s12.size
      have b12 := b11.trans (s12.mono z11)
      have z12 := b12.size
      have c0_0_12 := below_cell s12 c0_0_11
      clear c0_0_11
      have c0_1_12 := below_cell s12 c0_1_11
      clear c0_1_11
      have c0_2_12 := below_cell s12 c0_2_11
      clear c0_2_11
      have c1_0_12 := below_cell s12 c1_0_11
      clear c1_0_11
      have c1_1_12 := below_cell s12 c1_1_11
      clear c1_1_11
      have c2_0_12 := below_cell s12 c2_0_11
      clear c2_0_11
      have c2_1_12 := below_cell s12 c2_1_11
      clear c2_1_11
      have c2_2_12 := below_cell s12 c2_2_11
      clear c2_2_11
      have c3_0_12 := below_cell s12 c3_0_11
      clear c3_0_11
      have c3_1_12 := below_cell s12 c3_1_11
      clear c3_1_11
      have o1_12 := own_later O1_11.out s12
      have O1_12 := Lib.hid o1_12; clear o1_12
      have o3_12 := own_later O3_11.out s12
      have O3_12 := Lib.hid o3_12; clear o3_12
      have o4_12 := own_later O4_11.out s12
      have O4_12 := Lib.hid o4_12; clear o4_12
      clear al0_0_9
      clear al0_1_9
      clear al0_2_9
      clear al1_0_9
      clear al1_1_9
      clear al2_0_9
      clear al2_1_9
      clear al2_2_9
      clear al3_0_9
      clear al3_1_9
      have al0_0_12 := fun o => alloc_cell o c0_0_12
      have al0_1_12 := fun o => alloc_cell o c0_1_12
      have al0_2_12 := fun o => alloc_cell o c0_2_12
      have al1_0_12 := fun o => alloc_cell o c1_0_12
      have al1_1_12 := fun o => alloc_cell o c1_1_12
      have al2_0_12 := fun o => alloc_cell o c2_0_12
      have al2_1_12 := fun o => alloc_cell o c2_1_12
      have al2_2_12 := fun o => alloc_cell o c2_2_12
      have al3_0_12 := fun o => alloc_cell o c3_0_12
      have al3_1_12 := fun o => alloc_cell o c3_1_12
      go_wp2_with fail
      refine (markInt64S_c _ _ _ _ _ _ O4_12.out (by omega) (by omega) (by omega)).mono ?_
      rintro _ w13 ⟨rfl, m13, q13⟩
      have y13 := q13.size
      have b13 := Only.below b12 q13 z12 (fun b hS => by have := LO4.out b hS; omega)
      have z13 := b13.size
      have c0_0_13 := cell_only q13 c0_0_12 (fun hS => by have h1 : _ ≤ w.heap.size := LO4.out _ hS; have h2 : w.heap.size < _ := UP4.out _ hS; omega)
      clear c0_0_12
      have c0_1_13 := cell_only q13 c0_1_12 (fun hS => by have h1 : _ ≤ w.heap.size := LO4.out _ hS; have h2 : w.heap.size < _ := UP4.out _ hS; omega)
      clear c0_1_12
      have c0_2_13 := cell_only q13 c0_2_12 (fun hS => by have h1 : _ ≤ w.heap.size := LO4.out _ hS; have h2 : w.heap.size < _ := UP4.out _ hS; omega)
      clear c0_2_12
      have c1_0_13 := cell_only q13 c1_0_12 (fun hS => by have h1 : _ ≤ w.heap.size + 1 := LO4.out _ hS; have h2 : w.heap.size + 1 < _ := UP4.out _ hS; omega)
      clear c1_0_12
      have c1_1_13 := cell_only q13 c1_1_12 (fun hS => by have h1 : _ ≤ w.heap.size + 1 := LO4.out _ hS; have h2 : w.heap.size + 1 < _ := UP4.out _ hS; omega)
      clear c1_1_12
      have c2_0_13 := cell_only q13 c2_0_12 (fun hS => by have h1 : _ ≤ w4.heap.size := LO4.out _ hS; have h2 : w4.heap.size < _ := UP4.out _ hS; omega)
      clear c2_0_12
      have c2_1_13 := cell_only q13 c2_1_12 (fun hS => by have h1 : _ ≤ w4.heap.size := LO4.out _ hS; have h2 : w4.heap.size < _ := UP4.out _ hS; omega)
      clear c2_1_12
      have c2_2_13 := cell_only q13 c2_2_12 (fun hS => by have h1 : _ ≤ w4.heap.size := LO4.out _ hS; have h2 : w4.heap.size < _ := UP4.out _ hS; omega)
      clear c2_2_12
      have c3_0_13 := cell_only q13 c3_0_12 (fun hS => by have h1 : _ ≤ w5.heap.size := LO4.out _ hS; have h2 : w5.heap.size < _ := UP4.out _ hS; omega)
      clear c3_0_12
      have c3_1_13 := cell_only q13 c3_1_12 (fun hS => by have h1 : _ ≤ w5.heap.size := LO4.out _ hS; have h2 : w5.heap.size < _ := UP4.out _ hS; omega)
      clear c3_1_12
      have o1_13 := own_only O1_12.out q13 (fun k hk hS => by have := LO4.out _ hS; have := UP4.out _ hS; have := LO1.out _ hk; have := UP1.out _ hk; omega)
      have O1_13 := Lib.hid o1_13; clear o1_13
      have o3_13 := own_only O3_12.out q13 (fun k hk hS => by have := LO4.out _ hS; have := UP4.out _ hS; have := LO3.out _ hk; have := UP3.out _ hk; omega)
      have O3_13 := Lib.hid o3_13; clear o3_13
      have O4_13 := Lib.hid m13; clear m13
      go_wp2_with fail
      refine (heldInt64S_c _ _ _ _ (Rd.of_own O4_13.out) (by omega) (by omega)).mono ?_
      rintro _ _ ⟨rfl, rfl⟩
      have htd0 : ∀ w', Below w13.heap.size w13 w' → Calls Try.prog 41 #[.agg #[zv0, wv0, bv0]] w' (fun e w'' => ∃ ua0 ub0 uc0, e = .returned (.agg #[ua0, ub0, uc0]) ∧ (Rd w'' ua0 zs0.length (ints zs0) ∧ RdSS w'' ub0 ws0 ∧ Rd w'' uc0 bs0.length (ints bs0)) ∧ Below w'.heap.size w' w'' ∧ Below w13.heap.size w13 w'') := fun w' hb => (HT0.out w' (b13.trans (hb.mono z13))).mono fun _ _ ⟨va, vb, vc, us, e, o, b⟩ => ⟨va, vb, vc, e, ⟨Rd.of_own o.z, o.s.rd, Rd.of_own o.b⟩, b, hb.trans (b.mono hb.size)⟩
      have HTD0 := Lib.hid htd0; clear htd0
      have htd1 : ∀ w', Below w13.heap.size w13 w' → Calls Try.prog 17 #[.agg #[.string nm1, sv1]] w' (fun e w'' => ∃ u1, e = .returned (.agg #[.string nm1, u1]) ∧ (Rd w'' u1 rs1.length (trips rs1)) ∧ Below w'.heap.size w' w'' ∧ Below w13.heap.size w13 w'') := fun w' hb => (HT1.out w' (b13.trans (hb.mono z13))).mono fun _ _ ⟨v, e, o, b⟩ => ⟨v, e, Rd.of_own o, b, hb.trans (b.mono hb.size)⟩
      have HTD1 := Lib.hid htd1; clear htd1
      try clear s1 ; try clear y1 ; try clear v1 ; try clear b1 ; try clear z1
      try clear s2 ; try clear y2 ; try clear v2 ; try clear b2 ; try clear z2
      try clear s3 ; try clear y3 ; try clear v3 ; try clear b3 ; try clear z3
      try clear s4 ; try clear y4 ; try clear v4 ; try clear b4 ; try clear z4
      try clear s5 ; try clear y5 ; try clear v5 ; try clear b5 ; try clear z5
      try clear s6 ; try clear y6 ; try clear v6 ; try clear b6 ; try clear z6
      try clear s7 ; try clear y7 ; try clear v7 ; try clear b7 ; try clear z7
      try clear s8 ; try clear y8 ; try clear v8 ; try clear b8 ; try clear z8
      try clear s9 ; try clear y9 ; try clear v9 ; try clear b9 ; try clear z9
      try clear s10 ; try clear y10 ; try clear v10 ; try clear b10 ; try clear z10
      try clear s11 ; try clear y11 ; try clear v11 ; try clear b11 ; try clear z11
      try clear s12 ; try clear y12 ; try clear v12 ; try clear b12 ; try clear z12
      go_wp2_with fail
      go_region_held3 (fun w' => w'.cell? ⟨w.heap.size, 0, none⟩ = some (zv0) ∧ w'.cell? ⟨w.heap.size, 1, none⟩ = some (wv0) ∧ w'.cell? ⟨w.heap.size, 2, none⟩ = some (bv0) ∧ w'.cell? ⟨w.heap.size + 1, 0, none⟩ = some (.string nm1) ∧ w'.cell? ⟨w.heap.size + 1, 1, none⟩ = some (sv1)) (first | exact ⟨c0_0_13, c0_1_13, c0_2_13, c1_0_13, c1_1_13⟩ | exact ⟨below_cell s14 c0_0_13, below_cell s14 c0_1_13, below_cell s14 c0_2_13, below_cell s14 c1_0_13, below_cell s14 c1_1_13⟩ | exact ⟨below_cell BD1.out c0_0_13, below_cell BD1.out c0_1_13, below_cell BD1.out c0_2_13, below_cell BD1.out c1_0_13, below_cell BD1.out c1_1_13⟩ | exact ⟨below_cell BD0.out c0_0_13, below_cell BD0.out c0_1_13, below_cell BD0.out c0_2_13, below_cell BD0.out c1_0_13, below_cell BD0.out c1_1_13⟩ | go_keep) (first | (go_at_call 45; refine (HI.out _ _ _ _ _ OD0_1.out.1 OD0_1.out.2.1 OD0_1.out.2.2 OD1_1.out).mono ?_; rintro _ w14 ⟨x5, rfl, n5, rd9⟩; have s14 := BD1.out.trans (rd9.mono BD1.out.size); have lo9 := BD1.out.size) | (have _gd := BD0; go_at_call 17; refine (HTD1.out _ (by first | exact BD0.out | go_grown)).mono ?_; rintro _ wd1 ⟨u1, rfl, od1_1, qd1, bd1⟩; have OD1_1 := Lib.hid od1_1; clear od1_1; have QD1 := Lib.hid qd1; clear qd1; have BD1 := Lib.hid bd1; clear bd1; have od0_1 := And.intro (OD0_0.out.1.later QD1.out) (And.intro (OD0_0.out.2.1.later QD1.out) (OD0_0.out.2.2.later QD1.out)); have OD0_1 := Lib.hid od0_1; clear od0_1) | (go_at_call 41; refine (HTD0.out _ (by go_grown)).mono ?_; rintro _ wd0 ⟨ua0, ub0, uc0, rfl, od0_0, qd0, bd0⟩; have OD0_0 := Lib.hid od0_0; clear od0_0; have QD0 := Lib.hid qd0; clear qd0; have BD0 := Lib.hid bd0; clear bd0))
      clear HTD0 HTD1 rd9
      try clear BD0 ; try clear QD0 ; try clear OD0_0
      try clear BD1 ; try clear QD1 ; try clear OD0_1 ; try clear OD1_1
      have y14 := s14.size
      have b14 := b13.trans (s14.mono z13)
      have z14 := b14.size
      have c0_0_14 := below_cell s14 c0_0_13
      clear c0_0_13
      have c0_1_14 := below_cell s14 c0_1_13
      clear c0_1_13
      have c0_2_14 := below_cell s14 c0_2_13
      clear c0_2_13
      have c1_0_14 := below_cell s14 c1_0_13
      clear c1_0_13
      have c1_1_14 := below_cell s14 c1_1_13
      clear c1_1_13
      have c2_0_14 := below_cell s14 c2_0_13
      clear c2_0_13
      have c2_1_14 := below_cell s14 c2_1_13
      clear c2_1_13
      have c2_2_14 := below_cell s14 c2_2_13
      clear c2_2_13
      have c3_0_14 := below_cell s14 c3_0_13
      clear c3_0_13
      have c3_1_14 := below_cell s14 c3_1_13
      clear c3_1_13
      have o1_14 := own_later O1_13.out s14
      have O1_14 := Lib.hid o1_14; clear o1_14
      have o3_14 := own_later O3_13.out s14
      have O3_14 := Lib.hid o3_14; clear o3_14
      have o4_14 := own_later O4_13.out s14
      have O4_14 := Lib.hid o4_14; clear o4_14
      clear al0_0_12
      clear al0_1_12
      clear al0_2_12
      clear al1_0_12
      clear al1_1_12
      clear al2_0_12
      clear al2_1_12
      clear al2_2_12
      clear al3_0_12
      clear al3_1_12
      have al0_0_14 := fun o => alloc_cell o c0_0_14
      have al0_1_14 := fun o => alloc_cell o c0_1_14
      have al0_2_14 := fun o => alloc_cell o c0_2_14
      have al1_0_14 := fun o => alloc_cell o c1_0_14
      have al1_1_14 := fun o => alloc_cell o c1_1_14
      have al2_0_14 := fun o => alloc_cell o c2_0_14
      have al2_1_14 := fun o => alloc_cell o c2_1_14
      have al2_2_14 := fun o => alloc_cell o c2_2_14
      have al3_0_14 := fun o => alloc_cell o c3_0_14
      have al3_1_14 := fun o => alloc_cell o c3_1_14
      have m5 := own_base n5 lo9
      clear n5
      obtain ⟨ao5, cap5, g5, rfl, _, _⟩ := own_open m5
      have up5 := fun k hk => (World.ownsRow.lt m5 k hk).2
      have lo5 := fun k hk => (World.ownsRow.lt m5 k hk).1
      try simp only [World.size_alloc] at lo5
      have UP5 := Lib.hid up5; clear up5
      have LO5 := Lib.hid lo5; clear lo5
      have o5' := m5
      have O5_14 := Lib.hid o5'; clear o5'
      clear m5
      go_wp2_with fail
      refine (HEq.out _ _ _ (Rd.of_own O5_14.out) (Rd.of_own O1_14.out)).mono ?_
      rintro _ w15 ⟨rfl, r15⟩
      have s15 := r15
      have y15 := s15.size
      have b15 := b14.trans (s15.mono z14)
      have z15 := b15.size
      have c0_0_15 := below_cell s15 c0_0_14
      clear c0_0_14
      have c0_1_15 := below_cell s15 c0_1_14
      clear c0_1_14
      have c0_2_15 := below_cell s15 c0_2_14
      clear c0_2_14
      have c1_0_15 := below_cell s15 c1_0_14
      clear c1_0_14
      have c1_1_15 := below_cell s15 c1_1_14
      clear c1_1_14
      have c2_0_15 := below_cell s15 c2_0_14
      clear c2_0_14
      have c2_1_15 := below_cell s15 c2_1_14
      clear c2_1_14
      have c2_2_15 := below_cell s15 c2_2_14
      clear c2_2_14
      have c3_0_15 := below_cell s15 c3_0_14
      clear c3_0_14
      have c3_1_15 := below_cell s15 c3_1_14
      clear c3_1_14
      have o1_15 := own_later O1_14.out s15
      have O1_15 := Lib.hid o1_15; clear o1_15
      have o3_15 := own_later O3_14.out s15
      have O3_15 := Lib.hid o3_15; clear o3_15
      have o4_15 := own_later O4_14.out s15
      have O4_15 := Lib.hid o4_15; clear o4_15
      have o5_15 := own_later O5_14.out s15
      have O5_15 := Lib.hid o5_15; clear o5_15
      clear al0_0_14
      clear al0_1_14
      clear al0_2_14
      clear al1_0_14
      clear al1_1_14
      clear al2_0_14
      clear al2_1_14
      clear al2_2_14
      clear al3_0_14
      clear al3_1_14
      have al0_0_15 := fun o => alloc_cell o c0_0_15
      have al0_1_15 := fun o => alloc_cell o c0_1_15
      have al0_2_15 := fun o => alloc_cell o c0_2_15
      have al1_0_15 := fun o => alloc_cell o c1_0_15
      have al1_1_15 := fun o => alloc_cell o c1_1_15
      have al2_0_15 := fun o => alloc_cell o c2_0_15
      have al2_1_15 := fun o => alloc_cell o c2_1_15
      have al2_2_15 := fun o => alloc_cell o c2_2_15
      have al3_0_15 := fun o => alloc_cell o c3_0_15
      have al3_1_15 := fun o => alloc_cell o c3_1_15
      go_wp2_with fail
      refine (heldInt64S_c _ _ _ _ (Rd.of_own O4_15.out) (by omega) (by omega)).mono ?_
      rintro _ _ ⟨rfl, rfl⟩
      go_wp2
      go_returns
      exact RetB.mk rfl b15
    · skip
      have hz1' := fun w' (hb : Below w.heap.size w w') => szProfile_c nm1 sv1 rs1.length (trips rs1) (1048576 - (zs0.length : Int) - (SzSS ws0 : Int) - (bs0.length : Int)) w' hnm1 (h1.later hb) (by omega) (by omega)
      rw [leftP_neg (by omega)] at hz1'
      have HZ1 := Lib.hid hz1'; clear hz1'
      have HS := Lib.hid hs; clear hs
      have HI := Lib.hid hi; clear hi
      go_enter Try.func9, Try.ntmps9
      have b0 : Below w.heap.size w w := Below.refl _ _
      have z0 : w.heap.size ≤ w.heap.size := Nat.le_refl _
      go_wp2_with fail
      refine (HZ0.out _ (by go_grown)).mono ?_
      rintro _ w1 ⟨rfl, r1⟩
      have s1 : Below w.heap.size w w1 := Below.trans (by go_grown) (r1.mono (by simp; try omega))
      have y1 := s1.size
      have v1 : w.heap.size + 2 ≤ w1.heap.size := by have := r1.size; simp only [World.size_alloc] at this; omega
      have b1 := b0.trans (s1.mono z0)
      have z1 := b1.size
      have c0_0_1 := below_cell r1 (p := ⟨w.heap.size, 0, none⟩) (v := zv0) (by simp [go_sem])
      have c0_1_1 := below_cell r1 (p := ⟨w.heap.size, 1, none⟩) (v := wv0) (by simp [go_sem])
      have c0_2_1 := below_cell r1 (p := ⟨w.heap.size, 2, none⟩) (v := bv0) (by simp [go_sem])
      have c1_0_1 := below_cell r1 (p := ⟨w.heap.size + 1, 0, none⟩) (v := .string nm1) (by simp [go_sem])
      have c1_1_1 := below_cell r1 (p := ⟨w.heap.size + 1, 1, none⟩) (v := sv1) (by simp [go_sem])
      clear r1
      have al0_0_1 := fun o => alloc_cell o c0_0_1
      have al0_1_1 := fun o => alloc_cell o c0_1_1
      have al0_2_1 := fun o => alloc_cell o c0_2_1
      have al1_0_1 := fun o => alloc_cell o c1_0_1
      have al1_1_1 := fun o => alloc_cell o c1_1_1
      go_wp2_with fail
      refine (HZ1.out _ b1).mono ?_
      rintro _ w2 ⟨rfl, r2⟩
      have s2 := r2
      have y2 := s2.size
      have b2 := b1.trans (s2.mono z1)
      have z2 := b2.size
      have c0_0_2 := below_cell s2 c0_0_1
      clear c0_0_1
      have c0_1_2 := below_cell s2 c0_1_1
      clear c0_1_1
      have c0_2_2 := below_cell s2 c0_2_1
      clear c0_2_1
      have c1_0_2 := below_cell s2 c1_0_1
      clear c1_0_1
      have c1_1_2 := below_cell s2 c1_1_1
      clear c1_1_1
      clear al0_0_1
      clear al0_1_1
      clear al0_2_1
      clear al1_0_1
      clear al1_1_1
      have al0_0_2 := fun o => alloc_cell o c0_0_2
      have al0_1_2 := fun o => alloc_cell o c0_1_2
      have al0_2_2 := fun o => alloc_cell o c0_2_2
      have al1_0_2 := fun o => alloc_cell o c1_0_2
      have al1_1_2 := fun o => alloc_cell o c1_1_2
      go_wp2
      go_returns
      exact RetB.mk rfl b2
  · skip
    have hz0' := fun w' (hb : Below w.heap.size w w') => szModel_c zv0 wv0 bv0 zs0 ws0 bs0 (1048576) w' (hz0.later hb) (hw0.later hb) (hb0.later hb) (by omega) (by omega)
    rw [leftM_neg (by omega)] at hz0'
    have HZ0 := Lib.hid hz0'; clear hz0'
    have HS := Lib.hid hs; clear hs
    have HI := Lib.hid hi; clear hi
    go_enter Try.func9, Try.ntmps9
    have b0 : Below w.heap.size w w := Below.refl _ _
    have z0 : w.heap.size ≤ w.heap.size := Nat.le_refl _
    go_wp2_with fail
    refine (HZ0.out _ (by go_grown)).mono ?_
    rintro _ w1 ⟨rfl, r1⟩
    have s1 : Below w.heap.size w w1 := Below.trans (by go_grown) (r1.mono (by simp; try omega))
    have y1 := s1.size
    have v1 : w.heap.size + 2 ≤ w1.heap.size := by have := r1.size; simp only [World.size_alloc] at this; omega
    have b1 := b0.trans (s1.mono z0)
    have z1 := b1.size
    have c0_0_1 := below_cell r1 (p := ⟨w.heap.size, 0, none⟩) (v := zv0) (by simp [go_sem])
    have c0_1_1 := below_cell r1 (p := ⟨w.heap.size, 1, none⟩) (v := wv0) (by simp [go_sem])
    have c0_2_1 := below_cell r1 (p := ⟨w.heap.size, 2, none⟩) (v := bv0) (by simp [go_sem])
    have c1_0_1 := below_cell r1 (p := ⟨w.heap.size + 1, 0, none⟩) (v := .string nm1) (by simp [go_sem])
    have c1_1_1 := below_cell r1 (p := ⟨w.heap.size + 1, 1, none⟩) (v := sv1) (by simp [go_sem])
    clear r1
    have al0_0_1 := fun o => alloc_cell o c0_0_1
    have al0_1_1 := fun o => alloc_cell o c0_1_1
    have al0_2_1 := fun o => alloc_cell o c0_2_1
    have al1_0_1 := fun o => alloc_cell o c1_0_1
    have al1_1_1 := fun o => alloc_cell o c1_1_1
    go_wp2
    go_returns
    exact RetB.mk rfl b1

theorem lawSensitivity_c (w : World) (zv0 wv0 bv0 : Value) (zs0 : List Int) (ws0 : List (List Int)) (bs0 : List Int) (hz0 : Rd w zv0 zs0.length (ints zs0)) (hw0 : RdSS w wv0 ws0) (hb0 : Rd w bv0 bs0.length (ints bs0)) (w0 : (∀ z ∈ zs0, I64 z) ∧ (∀ x ∈ ws0, ∀ z ∈ x, I64 z) ∧ ∀ z ∈ bs0, I64 z) (nm1 : ByteArray) (sv1 : Value) (rs1 : List (Int × Int × Int)) (hnm1 : nm1.size ≤ maxLen) (h1 : Rd w sv1 rs1.length (trips rs1)) (w1 : ∀ z ∈ rs1, I64 z.1 ∧ I64 z.2.1 ∧ I64 z.2.2) (a2 : Int) (w2 : I64 a2) :
    Calls Try.prog 9 #[.agg #[zv0, wv0, bv0], .agg #[.string nm1, sv1], .int .i64 a2] w (RetB (.bool true) w) :=
  lawSensitivity_h w zv0 wv0 bv0 zs0 ws0 bs0 hz0 hw0 hb0 nm1 sv1 rs1 hnm1 h1 a2 (senI zs0 ws0 bs0 nm1 rs1 a2).1 (by have := senI_len zs0 ws0 bs0 nm1 rs1 a2; omega) _ (fun w' uz uw ub u1 hz hw hb h1 => specSensitivity_c uz uw ub zs0 ws0 bs0 nm1 u1 rs1 a2 w' hz hw hb hnm1 h1) (fun w' uz uw ub u1 hz hw hb h1 => implSensitivity_c uz uw ub zs0 ws0 bs0 nm1 u1 rs1 a2 w' hz hw hb hnm1 h1)

end Go.Proofs.Ytmickkodcclocaa
