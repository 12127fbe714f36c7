/- The law of IsPlan, walked. -/
import Derived.Test.YtmeeibcbhjifbaaGreatCutMN
import Derived.Test.YtmeeibcbhjifbaaGreatGC
import Derived.Test.YtmeeibcbhjifbaaGreatVH
import Derived.Test.YtmeeibcbhjifbaaGreatVJ
namespace Go.Proofs.YtmeeibcbhjifbaaGreat
set_option linter.unusedVariables false
open Go.RowKit Go.Proofs.Bell Go.BigFrame

set_option maxRecDepth 100000 in
set_option maxHeartbeats 3200000 in
theorem lawIsPlan_h (w : World) (zv0 wv0 bv0 : Value) (zs0 : List Int) (ws0 : List (List Int)) (bs0 : List Int) (hz0 : Rd w zv0 zs0.length (ints zs0)) (hw0 : RdSS w wv0 ws0) (hb0 : Rd w bv0 bs0.length (ints bs0)) (nm1 : ByteArray) (sv1 : Value) (rs1 : List (Int × Int × Int)) (hnm1 : nm1.size ≤ maxLen) (h1 : Rd w sv1 rs1.length (trips rs1)) (go2a go2b go2c go2d go2e go2f go2g : Int) (v3 : Value) (ps3 : List (Int × Int)) (h3 : Rd w v3 ps3.length (pairs ps3)) (t0 : Bool)
    (hs : ∀ w' uz0 uw0 ub0 u1 u3, Rd w' uz0 zs0.length (ints zs0) → RdSS w' uw0 ws0 → Rd w' ub0 bs0.length (ints bs0) → Rd w' u1 rs1.length (trips rs1) → Rd w' u3 ps3.length (pairs ps3) → Calls Tryz.prog 7 #[.agg #[uz0, uw0, ub0], .agg #[.string nm1, u1], .agg #[.int .i64 go2a, .int .i64 go2b, .int .i64 go2c, .int .i64 go2d, .int .i64 go2e, .int .i64 go2f, .int .i64 go2g], u3] w' (RetB (.bool t0) w'))
    (hi : ∀ w' uz0 uw0 ub0 u1 u3, Rd w' uz0 zs0.length (ints zs0) → RdSS w' uw0 ws0 → Rd w' ub0 bs0.length (ints bs0) → Rd w' u1 rs1.length (trips rs1) → Rd w' u3 ps3.length (pairs ps3) → Calls Tryz.prog 12 #[.agg #[uz0, uw0, ub0], .agg #[.string nm1, u1], .agg #[.int .i64 go2a, .int .i64 go2b, .int .i64 go2c, .int .i64 go2d, .int .i64 go2e, .int .i64 go2f, .int .i64 go2g], u3] w' (RetB (.bool t0) w')) :
    Calls Tryz.prog 3 #[.agg #[zv0, wv0, bv0], .agg #[.string nm1, sv1], .agg #[.int .i64 go2a, .int .i64 go2b, .int .i64 go2c, .int .i64 go2d, .int .i64 go2e, .int .i64 go2f, .int .i64 go2g], v3] w (RetB (.bool true) w) := by
  have hnm1' := hnm1
  unfold maxLen at hnm1'
  by_cases hl0 : ((zs0.length : Int) + SzSS ws0 + bs0.length) ≤ 1048576
  · skip
    have hz0' := fun w' (hb : Below w.heap.size w w') => szModel_c zv0 wv0 bv0 zs0 ws0 bs0 (1048576) w' (hz0.later hb) (hw0.later hb) (hb0.later hb) (by omega) (by omega)
    rw [leftM_pos (by omega)] at hz0'
    have HZ0 := Lib.hid hz0'; clear hz0'
    by_cases hl1 : ((nm1.size : Int) + rs1.length) ≤ 1048576 - (zs0.length : Int) - (SzSS ws0 : Int) - (bs0.length : Int)
    · skip
      have hz1' := fun w' (hb : Below w.heap.size w w') => szProfile_c nm1 sv1 rs1.length (trips rs1) (1048576 - (zs0.length : Int) - (SzSS ws0 : Int) - (bs0.length : Int)) w' hnm1 (h1.later hb) (by omega) (by omega)
      rw [leftP_pos (by omega)] at hz1'
      have HZ1 := Lib.hid hz1'; clear hz1'
      by_cases hl3 : (ps3.length : Int) ≤ 1048576 - (zs0.length : Int) - (SzSS ws0 : Int) - (bs0.length : Int) - (nm1.size : Int) - (rs1.length : Int)
      · skip
        have hz3' := fun w' (hb : Below w.heap.size w w') => szCutS_c v3 ps3.length (pairs ps3) (1048576 - (zs0.length : Int) - (SzSS ws0 : Int) - (bs0.length : Int) - (nm1.size : Int) - (rs1.length : Int)) w' (h3.later hb) (by omega) (by omega)
        rw [leftOf_pos (by omega)] at hz3'
        have HZ3 := Lib.hid hz3'; clear hz3'
        have ht0 := fun w' (hb : Below w.heap.size w w') => toModel_c zv0 wv0 bv0 zs0 ws0 bs0 w' (hz0.later hb) (hw0.later hb) (hb0.later hb) (by omega) (by omega) (by omega)
        have he0 := fun w' xa xb xc ya yb yc (h1 : Rd w' xa zs0.length (ints zs0)) (h2 : RdSS w' xb ws0) (h3 : Rd w' xc bs0.length (ints bs0)) (h4 : Rd w' ya zs0.length (ints zs0)) (h5 : RdSS w' yb ws0) (h6 : Rd w' yc bs0.length (ints bs0)) => eqModel_c xa xb xc ya yb yc zs0 ws0 bs0 w' h1 h2 h3 h4 h5 h6
        have HAZ0 := Lib.hid hz0; clear hz0
        have HAW0 := Lib.hid hw0; clear hw0
        have HAB0 := Lib.hid hb0; clear hb0
        have HE0 := Lib.hid he0; clear he0
        have HT0 := Lib.hid ht0; clear ht0
        have ht1 := fun w' (hb : Below w.heap.size w w') => toProfile_c nm1 sv1 rs1 w' (h1.later hb) (by omega)
        have he1 := fun w' x y (h1 : Rd w' x rs1.length (trips rs1)) (h2 : Rd w' y rs1.length (trips rs1)) => eqProfile_c nm1 nm1 x y rs1 rs1 w' h1 h2
        rw [eqPr_refl] at he1
        clear h1
        have HE1 := Lib.hid he1; clear he1
        have HT1 := Lib.hid ht1; clear ht1
        have ht2 := fun w' => toGoal_c go2a go2b go2c go2d go2e go2f go2g w'
        have HT2 := Lib.hid ht2; clear ht2
        have ht3 := fun w' (hb : Below w.heap.size w w') => toCutS_c v3 ps3 w' (h3.later hb) (by omega)
        have he3 := fun w' x y (h1 : Rd w' x ps3.length (pairs ps3)) (h2 : Rd w' y ps3.length (pairs ps3)) => eqCutS_c x y ps3 ps3 w' h1 h2
        rw [eqPs_refl] at he3
        have HA3 := Lib.hid h3; clear h3
        have HE3 := Lib.hid he3; clear he3
        have HT3 := Lib.hid ht3; clear ht3
        have HS := Lib.hid hs; clear hs
        have HI := Lib.hid hi; clear hi
        go_enter Tryz.func3, Tryz.ntmps3
        have b0 : Below w.heap.size w w := Below.refl _ _
        have z0 : w.heap.size ≤ w.heap.size := Nat.le_refl _
        go_wp2_with fail
        refine (HZ0.out _ (by go_grown)).mono ?_
        rintro _ w1 ⟨rfl, r1⟩
        have s1 : Below w.heap.size w w1 := Below.trans (by go_grown) (r1.mono (by simp; try omega))
        have y1 := s1.size
        have v1 : w.heap.size + 3 ≤ w1.heap.size := by have := r1.size; simp only [World.size_alloc] at this; omega
        have b1 := b0.trans (s1.mono z0)
        have z1 := b1.size
        have c0_0_1 := below_cell r1 (p := ⟨w.heap.size, 0, none⟩) (v := zv0) (by simp [go_sem])
        have c0_1_1 := below_cell r1 (p := ⟨w.heap.size, 1, none⟩) (v := wv0) (by simp [go_sem])
        have c0_2_1 := below_cell r1 (p := ⟨w.heap.size, 2, none⟩) (v := bv0) (by simp [go_sem])
        have c1_0_1 := below_cell r1 (p := ⟨w.heap.size + 1, 0, none⟩) (v := .string nm1) (by simp [go_sem])
        have c1_1_1 := below_cell r1 (p := ⟨w.heap.size + 1, 1, none⟩) (v := sv1) (by simp [go_sem])
        have c2_0_1 := below_cell r1 (p := ⟨w.heap.size + 1 + 1, 0, none⟩) (v := .int .i64 go2a) (by simp [go_sem])
        have c2_1_1 := below_cell r1 (p := ⟨w.heap.size + 1 + 1, 1, none⟩) (v := .int .i64 go2b) (by simp [go_sem])
        have c2_2_1 := below_cell r1 (p := ⟨w.heap.size + 1 + 1, 2, none⟩) (v := .int .i64 go2c) (by simp [go_sem])
        have c2_3_1 := below_cell r1 (p := ⟨w.heap.size + 1 + 1, 3, none⟩) (v := .int .i64 go2d) (by simp [go_sem])
        have c2_4_1 := below_cell r1 (p := ⟨w.heap.size + 1 + 1, 4, none⟩) (v := .int .i64 go2e) (by simp [go_sem])
        have c2_5_1 := below_cell r1 (p := ⟨w.heap.size + 1 + 1, 5, none⟩) (v := .int .i64 go2f) (by simp [go_sem])
        have c2_6_1 := below_cell r1 (p := ⟨w.heap.size + 1 + 1, 6, none⟩) (v := .int .i64 go2g) (by simp [go_sem])
        clear r1
        have al0_0_1 := fun o => alloc_cell o c0_0_1
        have al0_1_1 := fun o => alloc_cell o c0_1_1
        have al0_2_1 := fun o => alloc_cell o c0_2_1
        have al1_0_1 := fun o => alloc_cell o c1_0_1
        have al1_1_1 := fun o => alloc_cell o c1_1_1
        have al2_0_1 := fun o => alloc_cell o c2_0_1
        have al2_1_1 := fun o => alloc_cell o c2_1_1
        have al2_2_1 := fun o => alloc_cell o c2_2_1
        have al2_3_1 := fun o => alloc_cell o c2_3_1
        have al2_4_1 := fun o => alloc_cell o c2_4_1
        have al2_5_1 := fun o => alloc_cell o c2_5_1
        have al2_6_1 := fun o => alloc_cell o c2_6_1
        go_wp2_with fail
        refine (HZ1.out _ b1).mono ?_
        rintro _ w2 ⟨rfl, r2⟩
        have s2 := r2
        have y2 := s2.size
        have b2 := b1.trans (s2.mono z1)
        have z2 := b2.size
        have c0_0_2 := below_cell s2 c0_0_1
        clear c0_0_1
        have c0_1_2 := below_cell s2 c0_1_1
        clear c0_1_1
        have c0_2_2 := below_cell s2 c0_2_1
        clear c0_2_1
        have c1_0_2 := below_cell s2 c1_0_1
        clear c1_0_1
        have c1_1_2 := below_cell s2 c1_1_1
        clear c1_1_1
        have c2_0_2 := below_cell s2 c2_0_1
        clear c2_0_1
        have c2_1_2 := below_cell s2 c2_1_1
        clear c2_1_1
        have c2_2_2 := below_cell s2 c2_2_1
        clear c2_2_1
        have c2_3_2 := below_cell s2 c2_3_1
        clear c2_3_1
        have c2_4_2 := below_cell s2 c2_4_1
        clear c2_4_1
        have c2_5_2 := below_cell s2 c2_5_1
        clear c2_5_1
        have c2_6_2 := below_cell s2 c2_6_1
        clear c2_6_1
        clear al0_0_1
        clear al0_1_1
        clear al0_2_1
        clear al1_0_1
        clear al1_1_1
        clear al2_0_1
        clear al2_1_1
        clear al2_2_1
        clear al2_3_1
        clear al2_4_1
        clear al2_5_1
        clear al2_6_1
        have al0_0_2 := fun o => alloc_cell o c0_0_2
        have al0_1_2 := fun o => alloc_cell o c0_1_2
        have al0_2_2 := fun o => alloc_cell o c0_2_2
        have al1_0_2 := fun o => alloc_cell o c1_0_2
        have al1_1_2 := fun o => alloc_cell o c1_1_2
        have al2_0_2 := fun o => alloc_cell o c2_0_2
        have al2_1_2 := fun o => alloc_cell o c2_1_2
        have al2_2_2 := fun o => alloc_cell o c2_2_2
        have al2_3_2 := fun o => alloc_cell o c2_3_2
        have al2_4_2 := fun o => alloc_cell o c2_4_2
        have al2_5_2 := fun o => alloc_cell o c2_5_2
        have al2_6_2 := fun o => alloc_cell o c2_6_2
        go_wp2_with fail
        refine (HZ3.out _ b2).mono ?_
        rintro _ _ ⟨rfl, rfl⟩
        have htd0 : ∀ w', Below w2.heap.size w2 w' → Calls Tryz.prog 8 #[.agg #[zv0, wv0, bv0]] w' (fun e w'' => ∃ ua0 ub0 uc0, e = .returned (.agg #[ua0, ub0, uc0]) ∧ (Rd w'' ua0 zs0.length (ints zs0) ∧ RdSS w'' ub0 ws0 ∧ Rd w'' uc0 bs0.length (ints bs0)) ∧ Below w'.heap.size w' w'' ∧ Below w2.heap.size w2 w'') := fun w' hb => (HT0.out w' (b2.trans (hb.mono z2))).mono fun _ _ ⟨va, vb, vc, us, e, o, b⟩ => ⟨va, vb, vc, e, ⟨Rd.of_own o.z, o.s.rd, Rd.of_own o.b⟩, b, hb.trans (b.mono hb.size)⟩
        have HTD0 := Lib.hid htd0; clear htd0
        have htd1 : ∀ w', Below w2.heap.size w2 w' → Calls Tryz.prog 9 #[.agg #[.string nm1, sv1]] w' (fun e w'' => ∃ u1, e = .returned (.agg #[.string nm1, u1]) ∧ (Rd w'' u1 rs1.length (trips rs1)) ∧ Below w'.heap.size w' w'' ∧ Below w2.heap.size w2 w'') := fun w' hb => (HT1.out w' (b2.trans (hb.mono z2))).mono fun _ _ ⟨v, e, o, b⟩ => ⟨v, e, Rd.of_own o, b, hb.trans (b.mono hb.size)⟩
        have HTD1 := Lib.hid htd1; clear htd1
        have htd2 : ∀ w', Below w2.heap.size w2 w' → Calls Tryz.prog 10 #[.agg #[.int .i64 go2a, .int .i64 go2b, .int .i64 go2c, .int .i64 go2d, .int .i64 go2e, .int .i64 go2f, .int .i64 go2g]] w' (fun e w'' => e = .returned (.agg #[.int .i64 go2a, .int .i64 go2b, .int .i64 go2c, .int .i64 go2d, .int .i64 go2e, .int .i64 go2f, .int .i64 go2g]) ∧ (True) ∧ Below w'.heap.size w' w'' ∧ Below w2.heap.size w2 w'') := fun w' hb => (HT2.out w').mono fun _ _ ⟨e, b⟩ => ⟨e, trivial, b, hb.trans (b.mono hb.size)⟩
        have HTD2 := Lib.hid htd2; clear htd2
        have htd3 : ∀ w', Below w2.heap.size w2 w' → Calls Tryz.prog 11 #[v3] w' (fun e w'' => ∃ u3, e = .returned (u3) ∧ (Rd w'' u3 ps3.length (pairs ps3)) ∧ Below w'.heap.size w' w'' ∧ Below w2.heap.size w2 w'') := fun w' hb => (HT3.out w' (b2.trans (hb.mono z2))).mono fun _ _ ⟨v, e, o, b⟩ => ⟨v, e, Rd.of_own o, b, hb.trans (b.mono hb.size)⟩
        have HTD3 := Lib.hid htd3; clear htd3
        go_wp2_with fail
        go_region_held3 (fun w' => w'.cell? ⟨w.heap.size, 0, none⟩ = some (zv0) ∧ w'.cell? ⟨w.heap.size, 1, none⟩ = some (wv0) ∧ w'.cell? ⟨w.heap.size, 2, none⟩ = some (bv0) ∧ w'.cell? ⟨w.heap.size + 1, 0, none⟩ = some (.string nm1) ∧ w'.cell? ⟨w.heap.size + 1, 1, none⟩ = some (sv1) ∧ w'.cell? ⟨w.heap.size + 1 + 1, 0, none⟩ = some (.int .i64 go2a) ∧ w'.cell? ⟨w.heap.size + 1 + 1, 1, none⟩ = some (.int .i64 go2b) ∧ w'.cell? ⟨w.heap.size + 1 + 1, 2, none⟩ = some (.int .i64 go2c) ∧ w'.cell? ⟨w.heap.size + 1 + 1, 3, none⟩ = some (.int .i64 go2d) ∧ w'.cell? ⟨w.heap.size + 1 + 1, 4, none⟩ = some (.int .i64 go2e) ∧ w'.cell? ⟨w.heap.size + 1 + 1, 5, none⟩ = some (.int .i64 go2f) ∧ w'.cell? ⟨w.heap.size + 1 + 1, 6, none⟩ = some (.int .i64 go2g)) (first | exact ⟨c0_0_2, c0_1_2, c0_2_2, c1_0_2, c1_1_2, c2_0_2, c2_1_2, c2_2_2, c2_3_2, c2_4_2, c2_5_2, c2_6_2⟩ | exact ⟨below_cell s3 c0_0_2, below_cell s3 c0_1_2, below_cell s3 c0_2_2, below_cell s3 c1_0_2, below_cell s3 c1_1_2, below_cell s3 c2_0_2, below_cell s3 c2_1_2, below_cell s3 c2_2_2, below_cell s3 c2_3_2, below_cell s3 c2_4_2, below_cell s3 c2_5_2, below_cell s3 c2_6_2⟩ | exact ⟨below_cell BD3.out c0_0_2, below_cell BD3.out c0_1_2, below_cell BD3.out c0_2_2, below_cell BD3.out c1_0_2, below_cell BD3.out c1_1_2, below_cell BD3.out c2_0_2, below_cell BD3.out c2_1_2, below_cell BD3.out c2_2_2, below_cell BD3.out c2_3_2, below_cell BD3.out c2_4_2, below_cell BD3.out c2_5_2, below_cell BD3.out c2_6_2⟩ | exact ⟨below_cell BD2.out c0_0_2, below_cell BD2.out c0_1_2, below_cell BD2.out c0_2_2, below_cell BD2.out c1_0_2, below_cell BD2.out c1_1_2, below_cell BD2.out c2_0_2, below_cell BD2.out c2_1_2, below_cell BD2.out c2_2_2, below_cell BD2.out c2_3_2, below_cell BD2.out c2_4_2, below_cell BD2.out c2_5_2, below_cell BD2.out c2_6_2⟩ | exact ⟨below_cell BD1.out c0_0_2, below_cell BD1.out c0_1_2, below_cell BD1.out c0_2_2, below_cell BD1.out c1_0_2, below_cell BD1.out c1_1_2, below_cell BD1.out c2_0_2, below_cell BD1.out c2_1_2, below_cell BD1.out c2_2_2, below_cell BD1.out c2_3_2, below_cell BD1.out c2_4_2, below_cell BD1.out c2_5_2, below_cell BD1.out c2_6_2⟩ | exact ⟨below_cell BD0.out c0_0_2, below_cell BD0.out c0_1_2, below_cell BD0.out c0_2_2, below_cell BD0.out c1_0_2, below_cell BD0.out c1_1_2, below_cell BD0.out c2_0_2, below_cell BD0.out c2_1_2, below_cell BD0.out c2_2_2, below_cell BD0.out c2_3_2, below_cell BD0.out c2_4_2, below_cell BD0.out c2_5_2, below_cell BD0.out c2_6_2⟩ | go_keep) (first | (go_at_call 7; refine (HS.out _ _ _ _ _ _ OD0_3.out.1 OD0_3.out.2.1 OD0_3.out.2.2 OD1_3.out OD3_3.out).mono ?_; rintro _ w3 ⟨rfl, rd9⟩; have s3 := BD3.out.trans (rd9.mono BD3.out.size); have lo9 := BD3.out.size) | (have _gd := BD2; go_at_call 11; refine (HTD3.out _ (by first | exact BD2.out | go_grown)).mono ?_; rintro _ wd3 ⟨u3, rfl, od3_3, qd3, bd3⟩; have OD3_3 := Lib.hid od3_3; clear od3_3; have QD3 := Lib.hid qd3; clear qd3; have BD3 := Lib.hid bd3; clear bd3; have od0_3 := And.intro (OD0_2.out.1.later QD3.out) (And.intro (OD0_2.out.2.1.later QD3.out) (OD0_2.out.2.2.later QD3.out)); have OD0_3 := Lib.hid od0_3; clear od0_3; have od1_3 := OD1_2.out.later QD3.out; have OD1_3 := Lib.hid od1_3; clear od1_3) | (have _gd := BD1; go_at_call 10; refine (HTD2.out _ (by first | exact BD1.out | go_grown)).mono ?_; rintro _ wd2 ⟨rfl, od2_2, qd2, bd2⟩; have OD2_2 := Lib.hid od2_2; clear od2_2; have QD2 := Lib.hid qd2; clear qd2; have BD2 := Lib.hid bd2; clear bd2; have od0_2 := And.intro (OD0_1.out.1.later QD2.out) (And.intro (OD0_1.out.2.1.later QD2.out) (OD0_1.out.2.2.later QD2.out)); have OD0_2 := Lib.hid od0_2; clear od0_2; have od1_2 := OD1_1.out.later QD2.out; have OD1_2 := Lib.hid od1_2; clear od1_2) | (have _gd := BD0; go_at_call 9; refine (HTD1.out _ (by first | exact BD0.out | go_grown)).mono ?_; rintro _ wd1 ⟨u1, rfl, od1_1, qd1, bd1⟩; have OD1_1 := Lib.hid od1_1; clear od1_1; have QD1 := Lib.hid qd1; clear qd1; have BD1 := Lib.hid bd1; clear bd1; have od0_1 := And.intro (OD0_0.out.1.later QD1.out) (And.intro (OD0_0.out.2.1.later QD1.out) (OD0_0.out.2.2.later QD1.out)); have OD0_1 := Lib.hid od0_1; clear od0_1) | (go_at_call 8; refine (HTD0.out _ (by go_grown)).mono ?_; rintro _ wd0 ⟨ua0, ub0, uc0, rfl, od0_0, qd0, bd0⟩; have OD0_0 := Lib.hid od0_0; clear od0_0; have QD0 := Lib.hid qd0; clear qd0; have BD0 := Lib.hid bd0; clear bd0))
        clear HTD0 HTD1 HTD2 HTD3 rd9
        try clear BD0 ; try clear QD0 ; try clear OD0_0
        try clear BD1 ; try clear QD1 ; try clear OD0_1 ; try clear OD1_1
        try clear BD2 ; try clear QD2 ; try clear OD0_2 ; try clear OD1_2 ; try clear OD2_2
        try clear BD3 ; try clear QD3 ; try clear OD0_3 ; try clear OD1_3 ; try clear OD2_3 ; try clear OD3_3
        have y3 := s3.size
        have b3 := b2.trans (s3.mono z2)
        have z3 := b3.size
        have c0_0_3 := below_cell s3 c0_0_2
        clear c0_0_2
        have c0_1_3 := below_cell s3 c0_1_2
        clear c0_1_2
        have c0_2_3 := below_cell s3 c0_2_2
        clear c0_2_2
        have c1_0_3 := below_cell s3 c1_0_2
        clear c1_0_2
        have c1_1_3 := below_cell s3 c1_1_2
        clear c1_1_2
        have c2_0_3 := below_cell s3 c2_0_2
        clear c2_0_2
        have c2_1_3 := below_cell s3 c2_1_2
        clear c2_1_2
        have c2_2_3 := below_cell s3 c2_2_2
        clear c2_2_2
        have c2_3_3 := below_cell s3 c2_3_2
        clear c2_3_2
        have c2_4_3 := below_cell s3 c2_4_2
        clear c2_4_2
        have c2_5_3 := below_cell s3 c2_5_2
        clear c2_5_2
        have c2_6_3 := below_cell s3 c2_6_2
        clear c2_6_2
        clear al0_0_2
        clear al0_1_2
        clear al0_2_2
        clear al1_0_2
        clear al1_1_2
        clear al2_0_2
        clear al2_1_2
        clear al2_2_2
        clear al2_3_2
        clear al2_4_2
        clear al2_5_2
        clear al2_6_2
        have al0_0_3 := fun o => alloc_cell o c0_0_3
        have al0_1_3 := fun o => alloc_cell o c0_1_3
        have al0_2_3 := fun o => alloc_cell o c0_2_3
        have al1_0_3 := fun o => alloc_cell o c1_0_3
        have al1_1_3 := fun o => alloc_cell o c1_1_3
        have al2_0_3 := fun o => alloc_cell o c2_0_3
        have al2_1_3 := fun o => alloc_cell o c2_1_3
        have al2_2_3 := fun o => alloc_cell o c2_2_3
        have al2_3_3 := fun o => alloc_cell o c2_3_3
        have al2_4_3 := fun o => alloc_cell o c2_4_3
        have al2_5_3 := fun o => alloc_cell o c2_5_3
        have al2_6_3 := fun o => alloc_cell o c2_6_3
        go_wp2_with fail
        refine (HT0.out _ b3).mono ?_
        rintro _ w4 ⟨xa1, xb1, xc1, us1, rfl, nm_1, r4⟩
        have s4 := r4
        have y4 := s4.size
        have b4 := b3.trans (s4.mono z3)
        have z4 := b4.size
        have c0_0_4 := below_cell s4 c0_0_3
        clear c0_0_3
        have c0_1_4 := below_cell s4 c0_1_3
        clear c0_1_3
        have c0_2_4 := below_cell s4 c0_2_3
        clear c0_2_3
        have c1_0_4 := below_cell s4 c1_0_3
        clear c1_0_3
        have c1_1_4 := below_cell s4 c1_1_3
        clear c1_1_3
        have c2_0_4 := below_cell s4 c2_0_3
        clear c2_0_3
        have c2_1_4 := below_cell s4 c2_1_3
        clear c2_1_3
        have c2_2_4 := below_cell s4 c2_2_3
        clear c2_2_3
        have c2_3_4 := below_cell s4 c2_3_3
        clear c2_3_3
        have c2_4_4 := below_cell s4 c2_4_3
        clear c2_4_3
        have c2_5_4 := below_cell s4 c2_5_3
        clear c2_5_3
        have c2_6_4 := below_cell s4 c2_6_3
        clear c2_6_3
        clear al0_0_3
        clear al0_1_3
        clear al0_2_3
        clear al1_0_3
        clear al1_1_3
        clear al2_0_3
        clear al2_1_3
        clear al2_2_3
        clear al2_3_3
        clear al2_4_3
        clear al2_5_3
        clear al2_6_3
        have al0_0_4 := fun o => alloc_cell o c0_0_4
        have al0_1_4 := fun o => alloc_cell o c0_1_4
        have al0_2_4 := fun o => alloc_cell o c0_2_4
        have al1_0_4 := fun o => alloc_cell o c1_0_4
        have al1_1_4 := fun o => alloc_cell o c1_1_4
        have al2_0_4 := fun o => alloc_cell o c2_0_4
        have al2_1_4 := fun o => alloc_cell o c2_1_4
        have al2_2_4 := fun o => alloc_cell o c2_2_4
        have al2_3_4 := fun o => alloc_cell o c2_3_4
        have al2_4_4 := fun o => alloc_cell o c2_4_4
        have al2_5_4 := fun o => alloc_cell o c2_5_4
        have al2_6_4 := fun o => alloc_cell o c2_6_4
        obtain ⟨az1, pz1, rfl⟩ := own_shape nm_1.z
        obtain ⟨aw1, pw1, rfl⟩ := own_shape nm_1.s.row
        obtain ⟨ab1, pb1, rfl⟩ := own_shape nm_1.b
        have om1 : OwnM w3.heap.size w4.heap.size w4 (.slice az1 zs0.length pz1) (.slice aw1 ws0.length pw1) (.slice ab1 bs0.length pb1) us1 zs0 ws0 bs0 := nm_1.wide (by first | exact Nat.le_refl _ | (simp; done) | (simp; omega)) (Nat.le_refl _)
        clear nm_1
        have OM1_4 := Lib.hid om1; clear om1
        go_wp2_with fail
        refine (HT1.out _ (by go_grown)).mono ?_
        rintro _ w5 ⟨x2, rfl, n2, r5⟩
        have s5 : Below w4.heap.size w4 w5 := Below.trans (by go_grown) (r5.mono (by simp; try omega))
        have y5 := s5.size
        have v5 : w4.heap.size + 1 ≤ w5.heap.size := by have := r5.size; simp only [World.size_alloc] at this; omega
        have b5 := b4.trans (s5.mono z4)
        have z5 := b5.size
        have c0_0_5 := below_cell s5 c0_0_4
        clear c0_0_4
        have c0_1_5 := below_cell s5 c0_1_4
        clear c0_1_4
        have c0_2_5 := below_cell s5 c0_2_4
        clear c0_2_4
        have c1_0_5 := below_cell s5 c1_0_4
        clear c1_0_4
        have c1_1_5 := below_cell s5 c1_1_4
        clear c1_1_4
        have c2_0_5 := below_cell s5 c2_0_4
        clear c2_0_4
        have c2_1_5 := below_cell s5 c2_1_4
        clear c2_1_4
        have c2_2_5 := below_cell s5 c2_2_4
        clear c2_2_4
        have c2_3_5 := below_cell s5 c2_3_4
        clear c2_3_4
        have c2_4_5 := below_cell s5 c2_4_4
        clear c2_4_4
        have c2_5_5 := below_cell s5 c2_5_4
        clear c2_5_4
        have c2_6_5 := below_cell s5 c2_6_4
        clear c2_6_4
        have c3_0_5 := below_cell r5 (p := ⟨w4.heap.size, 0, none⟩) (v := .slice az1 zs0.length pz1) (by simp [go_sem])
        have c3_1_5 := below_cell r5 (p := ⟨w4.heap.size, 1, none⟩) (v := .slice aw1 ws0.length pw1) (by simp [go_sem])
        have c3_2_5 := below_cell r5 (p := ⟨w4.heap.size, 2, none⟩) (v := .slice ab1 bs0.length pb1) (by simp [go_sem])
        have o1_5 := OM1_4.out.later s5
        have O1_5 := Lib.hid o1_5; clear o1_5
        clear r5
        clear al0_0_4
        clear al0_1_4
        clear al0_2_4
        clear al1_0_4
        clear al1_1_4
        clear al2_0_4
        clear al2_1_4
        clear al2_2_4
        clear al2_3_4
        clear al2_4_4
        clear al2_5_4
        clear al2_6_4
        have al0_0_5 := fun o => alloc_cell o c0_0_5
        have al0_1_5 := fun o => alloc_cell o c0_1_5
        have al0_2_5 := fun o => alloc_cell o c0_2_5
        have al1_0_5 := fun o => alloc_cell o c1_0_5
        have al1_1_5 := fun o => alloc_cell o c1_1_5
        have al2_0_5 := fun o => alloc_cell o c2_0_5
        have al2_1_5 := fun o => alloc_cell o c2_1_5
        have al2_2_5 := fun o => alloc_cell o c2_2_5
        have al2_3_5 := fun o => alloc_cell o c2_3_5
        have al2_4_5 := fun o => alloc_cell o c2_4_5
        have al2_5_5 := fun o => alloc_cell o c2_5_5
        have al2_6_5 := fun o => alloc_cell o c2_6_5
        have al3_0_5 := fun o => alloc_cell o c3_0_5
        have al3_1_5 := fun o => alloc_cell o c3_1_5
        have al3_2_5 := fun o => alloc_cell o c3_2_5
        obtain ⟨ao2, cap2, g2, rfl, _, _⟩ := own_open n2
        have up2 := fun k hk => (World.ownsRow.lt n2 k hk).2
        have lo2 := fun k hk => (World.ownsRow.lt n2 k hk).1
        try simp only [World.size_alloc] at lo2
        have UP2 := Lib.hid up2; clear up2
        have LO2 := Lib.hid lo2; clear lo2
        have o2' := n2
        have O2_5 := Lib.hid o2'; clear o2'
        clear n2
        go_wp2_with fail
        refine (HT3.out _ (by go_grown)).mono ?_
        rintro _ w6 ⟨x3, rfl, n3, r6⟩
        have s6 : Below w5.heap.size w5 w6 := Below.trans (by go_grown) (r6.mono (by simp; try omega))
        have y6 := s6.size
        have v6 : w5.heap.size + 1 ≤ w6.heap.size := by have := r6.size; simp only [World.size_alloc] at this; omega
        have b6 := b5.trans (s6.mono z5)
        have z6 := b6.size
        have c0_0_6 := below_cell s6 c0_0_5
        clear c0_0_5
        have c0_1_6 := below_cell s6 c0_1_5
        clear c0_1_5
        have c0_2_6 := below_cell s6 c0_2_5
        clear c0_2_5
        have c1_0_6 := below_cell s6 c1_0_5
        clear c1_0_5
        have c1_1_6 := below_cell s6 c1_1_5
        clear c1_1_5
        have c2_0_6 := below_cell s6 c2_0_5
        clear c2_0_5
        have c2_1_6 := below_cell s6 c2_1_5
        clear c2_1_5
        have c2_2_6 := below_cell s6 c2_2_5
        clear c2_2_5
        have c2_3_6 := below_cell s6 c2_3_5
        clear c2_3_5
        have c2_4_6 := below_cell s6 c2_4_5
        clear c2_4_5
        have c2_5_6 := below_cell s6 c2_5_5
        clear c2_5_5
        have c2_6_6 := below_cell s6 c2_6_5
        clear c2_6_5
        have c3_0_6 := below_cell s6 c3_0_5
        clear c3_0_5
        have c3_1_6 := below_cell s6 c3_1_5
        clear c3_1_5
        have c3_2_6 := below_cell s6 c3_2_5
        clear c3_2_5
        have c4_0_6 := below_cell r6 (p := ⟨w5.heap.size, 0, none⟩) (v := .string nm1) (by simp [go_sem])
        have c4_1_6 := below_cell r6 (p := ⟨w5.heap.size, 1, none⟩) (v := .slice ao2 rs1.length cap2) (by simp [go_sem])
        have o1_6 := O1_5.out.later s6
        have O1_6 := Lib.hid o1_6; clear o1_6
        have o2_6 := own_later O2_5.out s6
        have O2_6 := Lib.hid o2_6; clear o2_6
        clear r6
        clear al0_0_5
        clear al0_1_5
        clear al0_2_5
        clear al1_0_5
        clear al1_1_5
        clear al2_0_5
        clear al2_1_5
        clear al2_2_5
        clear al2_3_5
        clear al2_4_5
        clear al2_5_5
        clear al2_6_5
        clear al3_0_5
        clear al3_1_5
        clear al3_2_5
        have al0_0_6 := fun o => alloc_cell o c0_0_6
        have al0_1_6 := fun o => alloc_cell o c0_1_6
        have al0_2_6 := fun o => alloc_cell o c0_2_6
        have al1_0_6 := fun o => alloc_cell o c1_0_6
        have al1_1_6 := fun o => alloc_cell o c1_1_6
        have al2_0_6 := fun o => alloc_cell o c2_0_6
        have al2_1_6 := fun o => alloc_cell o c2_1_6
        have al2_2_6 := fun o => alloc_cell o c2_2_6
        have al2_3_6 := fun o => alloc_cell o c2_3_6
        have al2_4_6 := fun o => alloc_cell o c2_4_6
        have al2_5_6 := fun o => alloc_cell o c2_5_6
        have al2_6_6 := fun o => alloc_cell o c2_6_6
        have al3_0_6 := fun o => alloc_cell o c3_0_6
        have al3_1_6 := fun o => alloc_cell o c3_1_6
        have al3_2_6 := fun o => alloc_cell o c3_2_6
        have al4_0_6 := fun o => alloc_cell o c4_0_6
        have al4_1_6 := fun o => alloc_cell o c4_1_6
        obtain ⟨ao3, cap3, g3, rfl, _, _⟩ := own_open n3
        have up3 := fun k hk => (World.ownsRow.lt n3 k hk).2
        have lo3 := fun k hk => (World.ownsRow.lt n3 k hk).1
        try simp only [World.size_alloc] at lo3
        have UP3 := Lib.hid up3; clear up3
        have LO3 := Lib.hid lo3; clear lo3
        have o3' := n3
        have O3_6 := Lib.hid o3'; clear o3'
        clear n3
        have htd0 : ∀ w', Below w6.heap.size w6 w' → Calls Tryz.prog 10 #[.agg #[.int .i64 go2a, .int .i64 go2b, .int .i64 go2c, .int .i64 go2d, .int .i64 go2e, .int .i64 go2f, .int .i64 go2g]] w' (fun e w'' => e = .returned (.agg #[.int .i64 go2a, .int .i64 go2b, .int .i64 go2c, .int .i64 go2d, .int .i64 go2e, .int .i64 go2f, .int .i64 go2g]) ∧ (True) ∧ Below w'.heap.size w' w'' ∧ Below w6.heap.size w6 w'') := fun w' hb => (HT2.out w').mono fun _ _ ⟨e, b⟩ => ⟨e, trivial, b, hb.trans (b.mono hb.size)⟩
        have HTD0 := Lib.hid htd0; clear htd0
        have rv1 := (Rd.of_own O1_6.out.z)
        have RV1 := Lib.hid rv1; clear rv1
        have rv2 := (O1_6.out.s.rd)
        have RV2 := Lib.hid rv2; clear rv2
        have rv3 := (Rd.of_own O1_6.out.b)
        have RV3 := Lib.hid rv3; clear rv3
        have rv4 := (Rd.of_own O2_6.out)
        have RV4 := Lib.hid rv4; clear rv4
        have rv5 := (Rd.of_own O3_6.out)
        have RV5 := Lib.hid rv5; clear rv5
        go_wp2_with fail
        go_region_held3 (fun w' => w'.cell? ⟨w4.heap.size, 0, none⟩ = some (.slice az1 zs0.length pz1) ∧ w'.cell? ⟨w4.heap.size, 1, none⟩ = some (.slice aw1 ws0.length pw1) ∧ w'.cell? ⟨w4.heap.size, 2, none⟩ = some (.slice ab1 bs0.length pb1) ∧ w'.cell? ⟨w5.heap.size, 0, none⟩ = some (.string nm1) ∧ w'.cell? ⟨w5.heap.size, 1, none⟩ = some (.slice ao2 rs1.length cap2) ∧ w'.cell? ⟨w.heap.size + 1 + 1, 0, none⟩ = some (.int .i64 go2a) ∧ w'.cell? ⟨w.heap.size + 1 + 1, 1, none⟩ = some (.int .i64 go2b) ∧ w'.cell? ⟨w.heap.size + 1 + 1, 2, none⟩ = some (.int .i64 go2c) ∧ w'.cell? ⟨w.heap.size + 1 + 1, 3, none⟩ = some (.int .i64 go2d) ∧ w'.cell? ⟨w.heap.size + 1 + 1, 4, none⟩ = some (.int .i64 go2e) ∧ w'.cell? ⟨w.heap.size + 1 + 1, 5, none⟩ = some (.int .i64 go2f) ∧ w'.cell? ⟨w.heap.size + 1 + 1, 6, none⟩ = some (.int .i64 go2g)) (first | exact ⟨c3_0_6, c3_1_6, c3_2_6, c4_0_6, c4_1_6, c2_0_6, c2_1_6, c2_2_6, c2_3_6, c2_4_6, c2_5_6, c2_6_6⟩ | exact ⟨below_cell s7 c3_0_6, below_cell s7 c3_1_6, below_cell s7 c3_2_6, below_cell s7 c4_0_6, below_cell s7 c4_1_6, below_cell s7 c2_0_6, below_cell s7 c2_1_6, below_cell s7 c2_2_6, below_cell s7 c2_3_6, below_cell s7 c2_4_6, below_cell s7 c2_5_6, below_cell s7 c2_6_6⟩ | exact ⟨below_cell BD0.out c3_0_6, below_cell BD0.out c3_1_6, below_cell BD0.out c3_2_6, below_cell BD0.out c4_0_6, below_cell BD0.out c4_1_6, below_cell BD0.out c2_0_6, below_cell BD0.out c2_1_6, below_cell BD0.out c2_2_6, below_cell BD0.out c2_3_6, below_cell BD0.out c2_4_6, below_cell BD0.out c2_5_6, below_cell BD0.out c2_6_6⟩ | go_keep) (first | (go_at_call 12; refine (HI.out _ _ _ _ _ _ (RV1.out.later BD0.out) (RV2.out.later BD0.out) (RV3.out.later BD0.out) (RV4.out.later BD0.out) (RV5.out.later BD0.out)).mono ?_; rintro _ w7 ⟨rfl, rd9⟩; have s7 := BD0.out.trans (rd9.mono BD0.out.size); have lo9 := BD0.out.size) | (go_at_call 10; refine (HTD0.out _ (by go_grown)).mono ?_; rintro _ wd0 ⟨rfl, od0_0, qd0, bd0⟩; have OD0_0 := Lib.hid od0_0; clear od0_0; have QD0 := Lib.hid qd0; clear qd0; have BD0 := Lib.hid bd0; clear bd0))
        clear HTD0 rd9
        try clear BD0 ; try clear QD0 ; try clear OD0_0
        have y7 := s7.size
        have b7 := b6.trans (s7.mono z6)
        have z7 := b7.size
        have c0_0_7 := below_cell s7 c0_0_6
        clear c0_0_6
        have c0_1_7 := below_cell s7 c0_1_6
        clear c0_1_6
        have c0_2_7 := below_cell s7 c0_2_6
        clear c0_2_6
        have c1_0_7 := below_cell s7 c1_0_6
        clear c1_0_6
        have c1_1_7 := below_cell s7 c1_1_6
        clear c1_1_6
        have c2_0_7 := below_cell s7 c2_0_6
        clear c2_0_6
        have c2_1_7 := below_cell s7 c2_1_6
        clear c2_1_6
        have c2_2_7 := below_cell s7 c2_2_6
        clear c2_2_6
        have c2_3_7 := below_cell s7 c2_3_6
        clear c2_3_6
        have c2_4_7 := below_cell s7 c2_4_6
        clear c2_4_6
        have c2_5_7 := below_cell s7 c2_5_6
        clear c2_5_6
        have c2_6_7 := below_cell s7 c2_6_6
        clear c2_6_6
        have c3_0_7 := below_cell s7 c3_0_6
        clear c3_0_6
        have c3_1_7 := below_cell s7 c3_1_6
        clear c3_1_6
        have c3_2_7 := below_cell s7 c3_2_6
        clear c3_2_6
        have c4_0_7 := below_cell s7 c4_0_6
        clear c4_0_6
        have c4_1_7 := below_cell s7 c4_1_6
        clear c4_1_6
        have o1_7 := O1_6.out.later s7
        have O1_7 := Lib.hid o1_7; clear o1_7
        have o2_7 := own_later O2_6.out s7
        have O2_7 := Lib.hid o2_7; clear o2_7
        have o3_7 := own_later O3_6.out s7
        have O3_7 := Lib.hid o3_7; clear o3_7
        clear al0_0_6
        clear al0_1_6
        clear al0_2_6
        clear al1_0_6
        clear al1_1_6
        clear al2_0_6
        clear al2_1_6
        clear al2_2_6
        clear al2_3_6
        clear al2_4_6
        clear al2_5_6
        clear al2_6_6
        clear al3_0_6
        clear al3_1_6
        clear al3_2_6
        clear al4_0_6
        clear al4_1_6
        have al0_0_7 := fun o => alloc_cell o c0_0_7
        have al0_1_7 := fun o => alloc_cell o c0_1_7
        have al0_2_7 := fun o => alloc_cell o c0_2_7
        have al1_0_7 := fun o => alloc_cell o c1_0_7
        have al1_1_7 := fun o => alloc_cell o c1_1_7
        have al2_0_7 := fun o => alloc_cell o c2_0_7
        have al2_1_7 := fun o => alloc_cell o c2_1_7
        have al2_2_7 := fun o => alloc_cell o c2_2_7
        have al2_3_7 := fun o => alloc_cell o c2_3_7
        have al2_4_7 := fun o => alloc_cell o c2_4_7
        have al2_5_7 := fun o => alloc_cell o c2_5_7
        have al2_6_7 := fun o => alloc_cell o c2_6_7
        have al3_0_7 := fun o => alloc_cell o c3_0_7
        have al3_1_7 := fun o => alloc_cell o c3_1_7
        have al3_2_7 := fun o => alloc_cell o c3_2_7
        have al4_0_7 := fun o => alloc_cell o c4_0_7
        have al4_1_7 := fun o => alloc_cell o c4_1_7
        go_wp2_with fail
        have ht5 : ∀ w', Below w7.heap.size w7 w' → Calls Tryz.prog 8 #[.agg #[zv0, wv0, bv0]] w' (fun e w'' => ∃ ua ub uc, e = .returned (.agg #[ua, ub, uc]) ∧ ((Rd w'' ua zs0.length (ints zs0) ∧ RdSS w'' ub ws0 ∧ Rd w'' uc bs0.length (ints bs0)) ∧ Below w7.heap.size w7 w'')) := fun w' hb => (HT0.out w' (b7.trans (hb.mono z7))).mono fun _ _ ⟨va, vb, vc, us, e, o, b⟩ => ⟨va, vb, vc, e, ⟨Rd.of_own o.z, o.s.rd, Rd.of_own o.b⟩, hb.trans (b.mono hb.size)⟩
        have he5 : ∀ w' ua ub uc, (Rd w' ua zs0.length (ints zs0) ∧ RdSS w' ub ws0 ∧ Rd w' uc bs0.length (ints bs0)) ∧ Below w7.heap.size w7 w' → Calls Tryz.prog 13 #[.agg #[.slice az1 zs0.length pz1, .slice aw1 ws0.length pw1, .slice ab1 bs0.length pb1], .agg #[ua, ub, uc]] w' (fun e w'' => e = .returned (.bool true) ∧ Below w7.heap.size w7 w'') := fun w' va vb vc ⟨o, hb⟩ => (HE0.out w' _ _ _ _ _ _ (Rd.of_own (O1_7.out.later hb).z) (O1_7.out.later hb).s.rd (Rd.of_own (O1_7.out.later hb).b) o.1 o.2.1 o.2.2).mono fun _ _ ⟨e, b⟩ => ⟨e, hb.trans (b.mono hb.size)⟩
        have HT5 := Lib.hid ht5; clear ht5
        have HE5 := Lib.hid he5; clear he5
        go_region_held3 (fun w' => w'.cell? ⟨w.heap.size, 0, none⟩ = some (zv0) ∧ w'.cell? ⟨w.heap.size, 1, none⟩ = some (wv0) ∧ w'.cell? ⟨w.heap.size, 2, none⟩ = some (bv0) ∧ w'.cell? ⟨w4.heap.size, 0, none⟩ = some (.slice az1 zs0.length pz1) ∧ w'.cell? ⟨w4.heap.size, 1, none⟩ = some (.slice aw1 ws0.length pw1) ∧ w'.cell? ⟨w4.heap.size, 2, none⟩ = some (.slice ab1 bs0.length pb1)) (first | exact ⟨c0_0_7, c0_1_7, c0_2_7, c3_0_7, c3_1_7, c3_2_7⟩ | exact ⟨below_cell O6.out.2 c0_0_7, below_cell O6.out.2 c0_1_7, below_cell O6.out.2 c0_2_7, below_cell O6.out.2 c3_0_7, below_cell O6.out.2 c3_1_7, below_cell O6.out.2 c3_2_7⟩ | exact ⟨below_cell s8 c0_0_7, below_cell s8 c0_1_7, below_cell s8 c0_2_7, below_cell s8 c3_0_7, below_cell s8 c3_1_7, below_cell s8 c3_2_7⟩ | go_keep) (first | (go_at_call 8; refine (HT5.out _ (by go_grown)).mono ?_; rintro _ ww6 ⟨va6, vb6, vc6, rfl, o6⟩; have O6 := Lib.hid o6; clear o6) | (go_at_call 13; refine (HE5.out _ _ _ _ (by assumption)).mono ?_; rintro _ w8 ⟨rfl, s8⟩))
        clear HT5 HE5
        have y8 := s8.size
        have b8 := b7.trans (s8.mono z7)
        have z8 := b8.size
        have c0_0_8 := below_cell s8 c0_0_7
        clear c0_0_7
        have c0_1_8 := below_cell s8 c0_1_7
        clear c0_1_7
        have c0_2_8 := below_cell s8 c0_2_7
        clear c0_2_7
        have c1_0_8 := below_cell s8 c1_0_7
        clear c1_0_7
        have c1_1_8 := below_cell s8 c1_1_7
        clear c1_1_7
        have c2_0_8 := below_cell s8 c2_0_7
        clear c2_0_7
        have c2_1_8 := below_cell s8 c2_1_7
        clear c2_1_7
        have c2_2_8 := below_cell s8 c2_2_7
        clear c2_2_7
        have c2_3_8 := below_cell s8 c2_3_7
        clear c2_3_7
        have c2_4_8 := below_cell s8 c2_4_7
        clear c2_4_7
        have c2_5_8 := below_cell s8 c2_5_7
        clear c2_5_7
        have c2_6_8 := below_cell s8 c2_6_7
        clear c2_6_7
        have c3_0_8 := below_cell s8 c3_0_7
        clear c3_0_7
        have c3_1_8 := below_cell s8 c3_1_7
        clear c3_1_7
        have c3_2_8 := below_cell s8 c3_2_7
        clear c3_2_7
        have c4_0_8 := below_cell s8 c4_0_7
        clear c4_0_7
        have c4_1_8 := below_cell s8 c4_1_7
        clear c4_1_7
        have o1_8 := O1_7.out.later s8
        have O1_8 := Lib.hid o1_8; clear o1_8
        have o2_8 := own_later O2_7.out s8
        have O2_8 := Lib.hid o2_8; clear o2_8
        have o3_8 := own_later O3_7.out s8
        have O3_8 := Lib.hid o3_8; clear o3_8
        clear al0_0_7
        clear al0_1_7
        clear al0_2_7
        clear al1_0_7
        clear al1_1_7
        clear al2_0_7
        clear al2_1_7
        clear al2_2_7
        clear al2_3_7
        clear al2_4_7
        clear al2_5_7
        clear al2_6_7
        clear al3_0_7
        clear al3_1_7
        clear al3_2_7
        clear al4_0_7
        clear al4_1_7
        have al0_0_8 := fun o => alloc_cell o c0_0_8
        have al0_1_8 := fun o => alloc_cell o c0_1_8
        have al0_2_8 := fun o => alloc_cell o c0_2_8
        have al1_0_8 := fun o => alloc_cell o c1_0_8
        have al1_1_8 := fun o => alloc_cell o c1_1_8
        have al2_0_8 := fun o => alloc_cell o c2_0_8
        have al2_1_8 := fun o => alloc_cell o c2_1_8
        have al2_2_8 := fun o => alloc_cell o c2_2_8
        have al2_3_8 := fun o => alloc_cell o c2_3_8
        have al2_4_8 := fun o => alloc_cell o c2_4_8
        have al2_5_8 := fun o => alloc_cell o c2_5_8
        have al2_6_8 := fun o => alloc_cell o c2_6_8
        have al3_0_8 := fun o => alloc_cell o c3_0_8
        have al3_1_8 := fun o => alloc_cell o c3_1_8
        have al3_2_8 := fun o => alloc_cell o c3_2_8
        have al4_0_8 := fun o => alloc_cell o c4_0_8
        have al4_1_8 := fun o => alloc_cell o c4_1_8
        go_wp2_with fail
        have ht5 : ∀ w', Below w8.heap.size w8 w' → Calls Tryz.prog 9 #[.agg #[.string nm1, sv1]] w' (fun e w'' => ∃ u, e = .returned (.agg #[.string nm1, u]) ∧ (OwnR w'.heap.size w'' u rs1 ∧ Below w8.heap.size w8 w'')) := fun w' hb => (HT1.out w' (b8.trans (hb.mono z8))).mono fun _ _ ⟨v, e, o, b⟩ => ⟨v, e, o, hb.trans (b.mono hb.size)⟩
        have he5 : ∀ B w' u, OwnR B w' u rs1 ∧ Below w8.heap.size w8 w' → Calls Tryz.prog 14 #[.agg #[.string nm1, .slice ao2 rs1.length cap2], .agg #[.string nm1, u]] w' (fun e w'' => e = .returned (.bool true) ∧ Below w8.heap.size w8 w'') := fun B w' v ⟨o, hb⟩ => (HE1.out w' _ _ (Rd.of_own (own_later O2_8.out hb)) (Rd.of_own o)).mono fun _ _ ⟨e, b⟩ => ⟨e, hb.trans (b.mono hb.size)⟩
        have HT5 := Lib.hid ht5; clear ht5
        have HE5 := Lib.hid he5; clear he5
        go_region_held3 (fun w' => w'.cell? ⟨w.heap.size + 1, 0, none⟩ = some (.string nm1) ∧ w'.cell? ⟨w.heap.size + 1, 1, none⟩ = some (sv1) ∧ w'.cell? ⟨w5.heap.size, 0, none⟩ = some (.string nm1) ∧ w'.cell? ⟨w5.heap.size, 1, none⟩ = some (.slice ao2 rs1.length cap2)) (first | exact ⟨c1_0_8, c1_1_8, c4_0_8, c4_1_8⟩ | exact ⟨below_cell O6.out.2 c1_0_8, below_cell O6.out.2 c1_1_8, below_cell O6.out.2 c4_0_8, below_cell O6.out.2 c4_1_8⟩ | exact ⟨below_cell s9 c1_0_8, below_cell s9 c1_1_8, below_cell s9 c4_0_8, below_cell s9 c4_1_8⟩ | go_keep) (first | (go_at_call 9; refine (HT5.out _ (by go_grown)).mono ?_; rintro _ ww6 ⟨vv6, rfl, o6⟩; have O6 := Lib.hid o6; clear o6) | (go_at_call 14; refine (HE5.out _ _ _ (by assumption)).mono ?_; rintro _ w9 ⟨rfl, s9⟩))
        clear HT5 HE5
        have y9 := s9.size
        have b9 := b8.trans (s9.mono z8)
        have z9 := b9.size
        have c0_0_9 := below_cell s9 c0_0_8
        clear c0_0_8
        have c0_1_9 := below_cell s9 c0_1_8
        clear c0_1_8
        have c0_2_9 := below_cell s9 c0_2_8
        clear c0_2_8
        have c1_0_9 := below_cell s9 c1_0_8
        clear c1_0_8
        have c1_1_9 := below_cell s9 c1_1_8
        clear c1_1_8
        have c2_0_9 := below_cell s9 c2_0_8
        clear c2_0_8
        have c2_1_9 := below_cell s9 c2_1_8
        clear c2_1_8
        have c2_2_9 := below_cell s9 c2_2_8
        clear c2_2_8
        have c2_3_9 := below_cell s9 c2_3_8
        clear c2_3_8
        have c2_4_9 := below_cell s9 c2_4_8
        clear c2_4_8
        have c2_5_9 := below_cell s9 c2_5_8
        clear c2_5_8
        have c2_6_9 := below_cell s9 c2_6_8
        clear c2_6_8
        have c3_0_9 := below_cell s9 c3_0_8
        clear c3_0_8
        have c3_1_9 := below_cell s9 c3_1_8
        clear c3_1_8
        have c3_2_9 := below_cell s9 c3_2_8
        clear c3_2_8
        have c4_0_9 := below_cell s9 c4_0_8
        clear c4_0_8
        have c4_1_9 := below_cell s9 c4_1_8
        clear c4_1_8
        have o1_9 := O1_8.out.later s9
        have O1_9 := Lib.hid o1_9; clear o1_9
        have o2_9 := own_later O2_8.out s9
        have O2_9 := Lib.hid o2_9; clear o2_9
        have o3_9 := own_later O3_8.out s9
        have O3_9 := Lib.hid o3_9; clear o3_9
        clear al0_0_8
        clear al0_1_8
        clear al0_2_8
        clear al1_0_8
        clear al1_1_8
        clear al2_0_8
        clear al2_1_8
        clear al2_2_8
        clear al2_3_8
        clear al2_4_8
        clear al2_5_8
        clear al2_6_8
        clear al3_0_8
        clear al3_1_8
        clear al3_2_8
        clear al4_0_8
        clear al4_1_8
        have al0_0_9 := fun o => alloc_cell o c0_0_9
        have al0_1_9 := fun o => alloc_cell o c0_1_9
        have al0_2_9 := fun o => alloc_cell o c0_2_9
        have al1_0_9 := fun o => alloc_cell o c1_0_9
        have al1_1_9 := fun o => alloc_cell o c1_1_9
        have al2_0_9 := fun o => alloc_cell o c2_0_9
        have al2_1_9 := fun o => alloc_cell o c2_1_9
        have al2_2_9 := fun o => alloc_cell o c2_2_9
        have al2_3_9 := fun o => alloc_cell o c2_3_9
        have al2_4_9 := fun o => alloc_cell o c2_4_9
        have al2_5_9 := fun o => alloc_cell o c2_5_9
        have al2_6_9 := fun o => alloc_cell o c2_6_9
        have al3_0_9 := fun o => alloc_cell o c3_0_9
        have al3_1_9 := fun o => alloc_cell o c3_1_9
        have al3_2_9 := fun o => alloc_cell o c3_2_9
        have al4_0_9 := fun o => alloc_cell o c4_0_9
        have al4_1_9 := fun o => alloc_cell o c4_1_9
        go_wp2_with fail
        refine (HT3.out _ b9).mono ?_
        rintro _ w10 ⟨x4, rfl, n4, r10⟩
        have s10 := r10
        have y10 := s10.size
        have b10 := b9.trans (s10.mono z9)
        have z10 := b10.size
        have c0_0_10 := below_cell s10 c0_0_9
        clear c0_0_9
        have c0_1_10 := below_cell s10 c0_1_9
        clear c0_1_9
        have c0_2_10 := below_cell s10 c0_2_9
        clear c0_2_9
        have c1_0_10 := below_cell s10 c1_0_9
        clear c1_0_9
        have c1_1_10 := below_cell s10 c1_1_9
        clear c1_1_9
        have c2_0_10 := below_cell s10 c2_0_9
        clear c2_0_9
        have c2_1_10 := below_cell s10 c2_1_9
        clear c2_1_9
        have c2_2_10 := below_cell s10 c2_2_9
        clear c2_2_9
        have c2_3_10 := below_cell s10 c2_3_9
        clear c2_3_9
        have c2_4_10 := below_cell s10 c2_4_9
        clear c2_4_9
        have c2_5_10 := below_cell s10 c2_5_9
        clear c2_5_9
        have c2_6_10 := below_cell s10 c2_6_9
        clear c2_6_9
        have c3_0_10 := below_cell s10 c3_0_9
        clear c3_0_9
        have c3_1_10 := below_cell s10 c3_1_9
        clear c3_1_9
        have c3_2_10 := below_cell s10 c3_2_9
        clear c3_2_9
        have c4_0_10 := below_cell s10 c4_0_9
        clear c4_0_9
        have c4_1_10 := below_cell s10 c4_1_9
        clear c4_1_9
        have o1_10 := O1_9.out.later s10
        have O1_10 := Lib.hid o1_10; clear o1_10
        have o2_10 := own_later O2_9.out s10
        have O2_10 := Lib.hid o2_10; clear o2_10
        have o3_10 := own_later O3_9.out s10
        have O3_10 := Lib.hid o3_10; clear o3_10
        clear al0_0_9
        clear al0_1_9
        clear al0_2_9
        clear al1_0_9
        clear al1_1_9
        clear al2_0_9
        clear al2_1_9
        clear al2_2_9
        clear al2_3_9
        clear al2_4_9
        clear al2_5_9
        clear al2_6_9
        clear al3_0_9
        clear al3_1_9
        clear al3_2_9
        clear al4_0_9
        clear al4_1_9
        have al0_0_10 := fun o => alloc_cell o c0_0_10
        have al0_1_10 := fun o => alloc_cell o c0_1_10
        have al0_2_10 := fun o => alloc_cell o c0_2_10
        have al1_0_10 := fun o => alloc_cell o c1_0_10
        have al1_1_10 := fun o => alloc_cell o c1_1_10
        have al2_0_10 := fun o => alloc_cell o c2_0_10
        have al2_1_10 := fun o => alloc_cell o c2_1_10
        have al2_2_10 := fun o => alloc_cell o c2_2_10
        have al2_3_10 := fun o => alloc_cell o c2_3_10
        have al2_4_10 := fun o => alloc_cell o c2_4_10
        have al2_5_10 := fun o => alloc_cell o c2_5_10
        have al2_6_10 := fun o => alloc_cell o c2_6_10
        have al3_0_10 := fun o => alloc_cell o c3_0_10
        have al3_1_10 := fun o => alloc_cell o c3_1_10
        have al3_2_10 := fun o => alloc_cell o c3_2_10
        have al4_0_10 := fun o => alloc_cell o c4_0_10
        have al4_1_10 := fun o => alloc_cell o c4_1_10
        obtain ⟨ao4, cap4, g4, rfl, _, _⟩ := own_open n4
        have up4 := fun k hk => (World.ownsRow.lt n4 k hk).2
        have lo4 := fun k hk => (World.ownsRow.lt n4 k hk).1
        try simp only [World.size_alloc] at lo4
        have UP4 := Lib.hid up4; clear up4
        have LO4 := Lib.hid lo4; clear lo4
        have o4' := n4
        have O4_10 := Lib.hid o4'; clear o4'
        clear n4
        go_wp2_with fail
        refine (HE3.out _ _ _ (Rd.of_own O3_10.out) (Rd.of_own O4_10.out)).mono ?_
        rintro _ w11 ⟨rfl, r11⟩
        have s11 := r11
        have y11 := s11.size
        have b11 := b10.trans (s11.mono z10)
        have z11 := b11.size
        have c0_0_11 := below_cell s11 c0_0_10
        clear c0_0_10
        have c0_1_11 := below_cell s11 c0_1_10
        clear c0_1_10
        have c0_2_11 := below_cell s11 c0_2_10
        clear c0_2_10
        have c1_0_11 := below_cell s11 c1_0_10
        clear c1_0_10
        have c1_1_11 := below_cell s11 c1_1_10
        clear c1_1_10
        have c2_0_11 := below_cell s11 c2_0_10
        clear c2_0_10
        have c2_1_11 := below_cell s11 c2_1_10
        clear c2_1_10
        have c2_2_11 := below_cell s11 c2_2_10
        clear c2_2_10
        have c2_3_11 := below_cell s11 c2_3_10
        clear c2_3_10
        have c2_4_11 := below_cell s11 c2_4_10
        clear c2_4_10
        have c2_5_11 := below_cell s11 c2_5_10
        clear c2_5_10
        have c2_6_11 := below_cell s11 c2_6_10
        clear c2_6_10
        have c3_0_11 := below_cell s11 c3_0_10
        clear c3_0_10
        have c3_1_11 := below_cell s11 c3_1_10
        clear c3_1_10
        have c3_2_11 := below_cell s11 c3_2_10
        clear c3_2_10
        have c4_0_11 := below_cell s11 c4_0_10
        clear c4_0_10
        have c4_1_11 := below_cell s11 c4_1_10
        clear c4_1_10
        have o1_11 := O1_10.out.later s11
        have O1_11 := Lib.hid o1_11; clear o1_11
        have o2_11 := own_later O2_10.out s11
        have O2_11 := Lib.hid o2_11; clear o2_11
        have o3_11 := own_later O3_10.out s11
        have O3_11 := Lib.hid o3_11; clear o3_11
        have o4_11 := own_later O4_10.out s11
        have O4_11 := Lib.hid o4_11; clear o4_11
        clear al0_0_10
        clear al0_1_10
        clear al0_2_10
        clear al1_0_10
        clear al1_1_10
        clear al2_0_10
        clear al2_1_10
        clear al2_2_10
        clear al2_3_10
        clear al2_4_10
        clear al2_5_10
        clear al2_6_10
        clear al3_0_10
        clear al3_1_10
        clear al3_2_10
        clear al4_0_10
        clear al4_1_10
        have al0_0_11 := fun o => alloc_cell o c0_0_11
        have al0_1_11 := fun o => alloc_cell o c0_1_11
        have al0_2_11 := fun o => alloc_cell o c0_2_11
        have al1_0_11 := fun o => alloc_cell o c1_0_11
        have al1_1_11 := fun o => alloc_cell o c1_1_11
        have al2_0_11 := fun o => alloc_cell o c2_0_11
        have al2_1_11 := fun o => alloc_cell o c2_1_11
        have al2_2_11 := fun o => alloc_cell o c2_2_11
        have al2_3_11 := fun o => alloc_cell o c2_3_11
        have al2_4_11 := fun o => alloc_cell o c2_4_11
        have al2_5_11 := fun o => alloc_cell o c2_5_11
        have al2_6_11 := fun o => alloc_cell o c2_6_11
        have al3_0_11 := fun o => alloc_cell o c3_0_11
        have al3_1_11 := fun o => alloc_cell o c3_1_11
        have al3_2_11 := fun o => alloc_cell o c3_2_11
        have al4_0_11 := fun o => alloc_cell o c4_0_11
        have al4_1_11 := fun o => alloc_cell o c4_1_11
        go_wp2
        go_returns
        exact RetB.mk rfl b11
      · skip
        have hz3' := fun w' (hb : Below w.heap.size w w') => szCutS_c v3 ps3.length (pairs ps3) (1048576 - (zs0.length : Int) - (SzSS ws0 : Int) - (bs0.length : Int) - (nm1.size : Int) - (rs1.length : Int)) w' (h3.later hb) (by omega) (by omega)
        rw [leftOf_neg (by omega)] at hz3'
        have HZ3 := Lib.hid hz3'; clear hz3'
        have HS := Lib.hid hs; clear hs
        have HI := Lib.hid hi; clear hi
        go_enter Tryz.func3, Tryz.ntmps3
        have b0 : Below w.heap.size w w := Below.refl _ _
        have z0 : w.heap.size ≤ w.heap.size := Nat.le_refl _
        go_wp2_with fail
        refine (HZ0.out _ (by go_grown)).mono ?_
        rintro _ w1 ⟨rfl, r1⟩
        have s1 : Below w.heap.size w w1 := Below.trans (by go_grown) (r1.mono (by simp; try omega))
        have y1 := s1.size
        have v1 : w.heap.size + 3 ≤ w1.heap.size := by have := r1.size; simp only [World.size_alloc] at this; omega
        have b1 := b0.trans (s1.mono z0)
        have z1 := b1.size
        have c0_0_1 := below_cell r1 (p := ⟨w.heap.size, 0, none⟩) (v := zv0) (by simp [go_sem])
        have c0_1_1 := below_cell r1 (p := ⟨w.heap.size, 1, none⟩) (v := wv0) (by simp [go_sem])
        have c0_2_1 := below_cell r1 (p := ⟨w.heap.size, 2, none⟩) (v := bv0) (by simp [go_sem])
        have c1_0_1 := below_cell r1 (p := ⟨w.heap.size + 1, 0, none⟩) (v := .string nm1) (by simp [go_sem])
        have c1_1_1 := below_cell r1 (p := ⟨w.heap.size + 1, 1, none⟩) (v := sv1) (by simp [go_sem])
        have c2_0_1 := below_cell r1 (p := ⟨w.heap.size + 1 + 1, 0, none⟩) (v := .int .i64 go2a) (by simp [go_sem])
        have c2_1_1 := below_cell r1 (p := ⟨w.heap.size + 1 + 1, 1, none⟩) (v := .int .i64 go2b) (by simp [go_sem])
        have c2_2_1 := below_cell r1 (p := ⟨w.heap.size + 1 + 1, 2, none⟩) (v := .int .i64 go2c) (by simp [go_sem])
        have c2_3_1 := below_cell r1 (p := ⟨w.heap.size + 1 + 1, 3, none⟩) (v := .int .i64 go2d) (by simp [go_sem])
        have c2_4_1 := below_cell r1 (p := ⟨w.heap.size + 1 + 1, 4, none⟩) (v := .int .i64 go2e) (by simp [go_sem])
        have c2_5_1 := below_cell r1 (p := ⟨w.heap.size + 1 + 1, 5, none⟩) (v := .int .i64 go2f) (by simp [go_sem])
        have c2_6_1 := below_cell r1 (p := ⟨w.heap.size + 1 + 1, 6, none⟩) (v := .int .i64 go2g) (by simp [go_sem])
        clear r1
        have al0_0_1 := fun o => alloc_cell o c0_0_1
        have al0_1_1 := fun o => alloc_cell o c0_1_1
        have al0_2_1 := fun o => alloc_cell o c0_2_1
        have al1_0_1 := fun o => alloc_cell o c1_0_1
        have al1_1_1 := fun o => alloc_cell o c1_1_1
        have al2_0_1 := fun o => alloc_cell o c2_0_1
        have al2_1_1 := fun o => alloc_cell o c2_1_1
        have al2_2_1 := fun o => alloc_cell o c2_2_1
        have al2_3_1 := fun o => alloc_cell o c2_3_1
        have al2_4_1 := fun o => alloc_cell o c2_4_1
        have al2_5_1 := fun o => alloc_cell o c2_5_1
        have al2_6_1 := fun o => alloc_cell o c2_6_1
        go_wp2_with fail
        refine (HZ1.out _ b1).mono ?_
        rintro _ w2 ⟨rfl, r2⟩
        have s2 := r2
        have y2 := s2.size
        have b2 := b1.trans (s2.mono z1)
        have z2 := b2.size
        have c0_0_2 := below_cell s2 c0_0_1
        clear c0_0_1
        have c0_1_2 := below_cell s2 c0_1_1
        clear c0_1_1
        have c0_2_2 := below_cell s2 c0_2_1
        clear c0_2_1
        have c1_0_2 := below_cell s2 c1_0_1
        clear c1_0_1
        have c1_1_2 := below_cell s2 c1_1_1
        clear c1_1_1
        have c2_0_2 := below_cell s2 c2_0_1
        clear c2_0_1
        have c2_1_2 := below_cell s2 c2_1_1
        clear c2_1_1
        have c2_2_2 := below_cell s2 c2_2_1
        clear c2_2_1
        have c2_3_2 := below_cell s2 c2_3_1
        clear c2_3_1
        have c2_4_2 := below_cell s2 c2_4_1
        clear c2_4_1
        have c2_5_2 := below_cell s2 c2_5_1
        clear c2_5_1
        have c2_6_2 := below_cell s2 c2_6_1
        clear c2_6_1
        clear al0_0_1
        clear al0_1_1
        clear al0_2_1
        clear al1_0_1
        clear al1_1_1
        clear al2_0_1
        clear al2_1_1
        clear al2_2_1
        clear al2_3_1
        clear al2_4_1
        clear al2_5_1
        clear al2_6_1
        have al0_0_2 := fun o => alloc_cell o c0_0_2
        have al0_1_2 := fun o => alloc_cell o c0_1_2
        have al0_2_2 := fun o => alloc_cell o c0_2_2
        have al1_0_2 := fun o => alloc_cell o c1_0_2
        have al1_1_2 := fun o => alloc_cell o c1_1_2
        have al2_0_2 := fun o => alloc_cell o c2_0_2
        have al2_1_2 := fun o => alloc_cell o c2_1_2
        have al2_2_2 := fun o => alloc_cell o c2_2_2
        have al2_3_2 := fun o => alloc_cell o c2_3_2
        have al2_4_2 := fun o => alloc_cell o c2_4_2
        have al2_5_2 := fun o => alloc_cell o c2_5_2
        have al2_6_2 := fun o => alloc_cell o c2_6_2
        go_wp2_with fail
        refine (HZ3.out _ b2).mono ?_
        rintro _ _ ⟨rfl, rfl⟩
        go_wp2
        go_returns
        exact RetB.mk rfl b2
    · skip
      have hz1' := fun w' (hb : Below w.heap.size w w') => szProfile_c nm1 sv1 rs1.length (trips rs1) (1048576 - (zs0.length : Int) - (SzSS ws0 : Int) - (bs0.length : Int)) w' hnm1 (h1.later hb) (by omega) (by omega)
      rw [leftP_neg (by omega)] at hz1'
      have HZ1 := Lib.hid hz1'; clear hz1'
      have HS := Lib.hid hs; clear hs
      have HI := Lib.hid hi; clear hi
      go_enter Tryz.func3, Tryz.ntmps3
      have b0 : Below w.heap.size w w := Below.refl _ _
      have z0 : w.heap.size ≤ w.heap.size := Nat.le_refl _
      go_wp2_with fail
      refine (HZ0.out _ (by go_grown)).mono ?_
      rintro _ w1 ⟨rfl, r1⟩
      have s1 : Below w.heap.size w w1 := Below.trans (by go_grown) (r1.mono (by simp; try omega))
      have y1 := s1.size
      have v1 : w.heap.size + 3 ≤ w1.heap.size := by have := r1.size; simp only [World.size_alloc] at this; omega
      have b1 := b0.trans (s1.mono z0)
      have z1 := b1.size
      have c0_0_1 := below_cell r1 (p := ⟨w.heap.size, 0, none⟩) (v := zv0) (by simp [go_sem])
      have c0_1_1 := below_cell r1 (p := ⟨w.heap.size, 1, none⟩) (v := wv0) (by simp [go_sem])
      have c0_2_1 := below_cell r1 (p := ⟨w.heap.size, 2, none⟩) (v := bv0) (by simp [go_sem])
      have c1_0_1 := below_cell r1 (p := ⟨w.heap.size + 1, 0, none⟩) (v := .string nm1) (by simp [go_sem])
      have c1_1_1 := below_cell r1 (p := ⟨w.heap.size + 1, 1, none⟩) (v := sv1) (by simp [go_sem])
      have c2_0_1 := below_cell r1 (p := ⟨w.heap.size + 1 + 1, 0, none⟩) (v := .int .i64 go2a) (by simp [go_sem])
      have c2_1_1 := below_cell r1 (p := ⟨w.heap.size + 1 + 1, 1, none⟩) (v := .int .i64 go2b) (by simp [go_sem])
      have c2_2_1 := below_cell r1 (p := ⟨w.heap.size + 1 + 1, 2, none⟩) (v := .int .i64 go2c) (by simp [go_sem])
      have c2_3_1 := below_cell r1 (p := ⟨w.heap.size + 1 + 1, 3, none⟩) (v := .int .i64 go2d) (by simp [go_sem])
      have c2_4_1 := below_cell r1 (p := ⟨w.heap.size + 1 + 1, 4, none⟩) (v := .int .i64 go2e) (by simp [go_sem])
      have c2_5_1 := below_cell r1 (p := ⟨w.heap.size + 1 + 1, 5, none⟩) (v := .int .i64 go2f) (by simp [go_sem])
      have c2_6_1 := below_cell r1 (p := ⟨w.heap.size + 1 + 1, 6, none⟩) (v := .int .i64 go2g) (by simp [go_sem])
      clear r1
      have al0_0_1 := fun o => alloc_cell o c0_0_1
      have al0_1_1 := fun o => alloc_cell o c0_1_1
      have al0_2_1 := fun o => alloc_cell o c0_2_1
      have al1_0_1 := fun o => alloc_cell o c1_0_1
      have al1_1_1 := fun o => alloc_cell o c1_1_1
      have al2_0_1 := fun o => alloc_cell o c2_0_1
      have al2_1_1 := fun o => alloc_cell o c2_1_1
      have al2_2_1 := fun o => alloc_cell o c2_2_1
      have al2_3_1 := fun o => alloc_cell o c2_3_1
      have al2_4_1 := fun o => alloc_cell o c2_4_1
      have al2_5_1 := fun o => alloc_cell o c2_5_1
      have al2_6_1 := fun o => alloc_cell o c2_6_1
      go_wp2_with fail
      refine (HZ1.out _ b1).mono ?_
      rintro _ w2 ⟨rfl, r2⟩
      have s2 := r2
      have y2 := s2.size
      have b2 := b1.trans (s2.mono z1)
      have z2 := b2.size
      have c0_0_2 := below_cell s2 c0_0_1
      clear c0_0_1
      have c0_1_2 := below_cell s2 c0_1_1
      clear c0_1_1
      have c0_2_2 := below_cell s2 c0_2_1
      clear c0_2_1
      have c1_0_2 := below_cell s2 c1_0_1
      clear c1_0_1
      have c1_1_2 := below_cell s2 c1_1_1
      clear c1_1_1
      have c2_0_2 := below_cell s2 c2_0_1
      clear c2_0_1
      have c2_1_2 := below_cell s2 c2_1_1
      clear c2_1_1
      have c2_2_2 := below_cell s2 c2_2_1
      clear c2_2_1
      have c2_3_2 := below_cell s2 c2_3_1
      clear c2_3_1
      have c2_4_2 := below_cell s2 c2_4_1
      clear c2_4_1
      have c2_5_2 := below_cell s2 c2_5_1
      clear c2_5_1
      have c2_6_2 := below_cell s2 c2_6_1
      clear c2_6_1
      clear al0_0_1
      clear al0_1_1
      clear al0_2_1
      clear al1_0_1
      clear al1_1_1
      clear al2_0_1
      clear al2_1_1
      clear al2_2_1
      clear al2_3_1
      clear al2_4_1
      clear al2_5_1
      clear al2_6_1
      have al0_0_2 := fun o => alloc_cell o c0_0_2
      have al0_1_2 := fun o => alloc_cell o c0_1_2
      have al0_2_2 := fun o => alloc_cell o c0_2_2
      have al1_0_2 := fun o => alloc_cell o c1_0_2
      have al1_1_2 := fun o => alloc_cell o c1_1_2
      have al2_0_2 := fun o => alloc_cell o c2_0_2
      have al2_1_2 := fun o => alloc_cell o c2_1_2
      have al2_2_2 := fun o => alloc_cell o c2_2_2
      have al2_3_2 := fun o => alloc_cell o c2_3_2
      have al2_4_2 := fun o => alloc_cell o c2_4_2
      have al2_5_2 := fun o => alloc_cell o c2_5_2
      have al2_6_2 := fun o => alloc_cell o c2_6_2
      go_wp2
      go_returns
      exact RetB.mk rfl b2
  · skip
    have hz0' := fun w' (hb : Below w.heap.size w w') => szModel_c zv0 wv0 bv0 zs0 ws0 bs0 (1048576) w' (hz0.later hb) (hw0.later hb) (hb0.later hb) (by omega) (by omega)
    rw [leftM_neg (by omega)] at hz0'
    have HZ0 := Lib.hid hz0'; clear hz0'
    have HS := Lib.hid hs; clear hs
    have HI := Lib.hid hi; clear hi
    go_enter Tryz.func3, Tryz.ntmps3
    have b0 : Below w.heap.size w w := Below.refl _ _
    have z0 : w.heap.size ≤ w.heap.size := Nat.le_refl _
    go_wp2_with fail
    refine (HZ0.out _ (by go_grown)).mono ?_
    rintro _ w1 ⟨rfl, r1⟩
    have s1 : Below w.heap.size w w1 := Below.trans (by go_grown) (r1.mono (by simp; try omega))
    have y1 := s1.size
    have v1 : w.heap.size + 3 ≤ w1.heap.size := by have := r1.size; simp only [World.size_alloc] at this; omega
    have b1 := b0.trans (s1.mono z0)
    have z1 := b1.size
    have c0_0_1 := below_cell r1 (p := ⟨w.heap.size, 0, none⟩) (v := zv0) (by simp [go_sem])
    have c0_1_1 := below_cell r1 (p := ⟨w.heap.size, 1, none⟩) (v := wv0) (by simp [go_sem])
    have c0_2_1 := below_cell r1 (p := ⟨w.heap.size, 2, none⟩) (v := bv0) (by simp [go_sem])
    have c1_0_1 := below_cell r1 (p := ⟨w.heap.size + 1, 0, none⟩) (v := .string nm1) (by simp [go_sem])
    have c1_1_1 := below_cell r1 (p := ⟨w.heap.size + 1, 1, none⟩) (v := sv1) (by simp [go_sem])
    have c2_0_1 := below_cell r1 (p := ⟨w.heap.size + 1 + 1, 0, none⟩) (v := .int .i64 go2a) (by simp [go_sem])
    have c2_1_1 := below_cell r1 (p := ⟨w.heap.size + 1 + 1, 1, none⟩) (v := .int .i64 go2b) (by simp [go_sem])
    have c2_2_1 := below_cell r1 (p := ⟨w.heap.size + 1 + 1, 2, none⟩) (v := .int .i64 go2c) (by simp [go_sem])
    have c2_3_1 := below_cell r1 (p := ⟨w.heap.size + 1 + 1, 3, none⟩) (v := .int .i64 go2d) (by simp [go_sem])
    have c2_4_1 := below_cell r1 (p := ⟨w.heap.size + 1 + 1, 4, none⟩) (v := .int .i64 go2e) (by simp [go_sem])
    have c2_5_1 := below_cell r1 (p := ⟨w.heap.size + 1 + 1, 5, none⟩) (v := .int .i64 go2f) (by simp [go_sem])
    have c2_6_1 := below_cell r1 (p := ⟨w.heap.size + 1 + 1, 6, none⟩) (v := .int .i64 go2g) (by simp [go_sem])
    clear r1
    have al0_0_1 := fun o => alloc_cell o c0_0_1
    have al0_1_1 := fun o => alloc_cell o c0_1_1
    have al0_2_1 := fun o => alloc_cell o c0_2_1
    have al1_0_1 := fun o => alloc_cell o c1_0_1
    have al1_1_1 := fun o => alloc_cell o c1_1_1
    have al2_0_1 := fun o => alloc_cell o c2_0_1
    have al2_1_1 := fun o => alloc_cell o c2_1_1
    have al2_2_1 := fun o => alloc_cell o c2_2_1
    have al2_3_1 := fun o => alloc_cell o c2_3_1
    have al2_4_1 := fun o => alloc_cell o c2_4_1
    have al2_5_1 := fun o => alloc_cell o c2_5_1
    have al2_6_1 := fun o => alloc_cell o c2_6_1
    go_wp2
    go_returns
    exact RetB.mk rfl b1

theorem lawIsPlan_c (w : World) (zv0 wv0 bv0 : Value) (zs0 : List Int) (ws0 : List (List Int)) (bs0 : List Int) (hz0 : Rd w zv0 zs0.length (ints zs0)) (hw0 : RdSS w wv0 ws0) (hb0 : Rd w bv0 bs0.length (ints bs0)) (w0 : (∀ z ∈ zs0, I64 z) ∧ (∀ x ∈ ws0, ∀ z ∈ x, I64 z) ∧ ∀ z ∈ bs0, I64 z) (nm1 : ByteArray) (sv1 : Value) (rs1 : List (Int × Int × Int)) (hnm1 : nm1.size ≤ maxLen) (h1 : Rd w sv1 rs1.length (trips rs1)) (w1 : ∀ z ∈ rs1, I64 z.1 ∧ I64 z.2.1 ∧ I64 z.2.2) (go2a go2b go2c go2d go2e go2f go2g : Int) (w2 : I64 go2a ∧ I64 go2b ∧ I64 go2c ∧ I64 go2d ∧ I64 go2e ∧ I64 go2f ∧ I64 go2g) (v3 : Value) (ps3 : List (Int × Int)) (h3 : Rd w v3 ps3.length (pairs ps3)) (w3 : ∀ z ∈ ps3, I64 z.1 ∧ I64 z.2) :
    Calls Tryz.prog 3 #[.agg #[zv0, wv0, bv0], .agg #[.string nm1, sv1], .agg #[.int .i64 go2a, .int .i64 go2b, .int .i64 go2c, .int .i64 go2d, .int .i64 go2e, .int .i64 go2f, .int .i64 go2g], v3] w (RetB (.bool true) w) :=
  lawIsPlan_h w zv0 wv0 bv0 zs0 ws0 bs0 hz0 hw0 hb0 nm1 sv1 rs1 hnm1 h1 go2a go2b go2c go2d go2e go2f go2g v3 ps3 h3 _ (fun w' uz uw ub u1 u3 hz hw hb h1 h3 => specIsPlan_c uz uw ub zs0 ws0 bs0 nm1 u1 rs1 go2a go2b go2c go2d go2e go2f go2g u3 ps3 w' hz hw hb hnm1 h1 h3) (fun w' uz uw ub u1 u3 hz hw hb h1 h3 => implIsPlan_c uz uw ub zs0 ws0 bs0 nm1 u1 rs1 go2a go2b go2c go2d go2e go2f go2g u3 ps3 w' hz hw hb hnm1 h1 h3)

end Go.Proofs.YtmeeibcbhjifbaaGreat
