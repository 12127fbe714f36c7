/- The law of SoundOf, walked. -/
import Derived.Test.YtddkjcdnomoglaaCutR
import Derived.Test.YtddkjcdnomoglaaGC
import Derived.Test.YtddkjcdnomoglaaMarkM
import Derived.Test.YtddkjcdnomoglaaSnd2
namespace Go.Proofs.Ytddkjcdnomoglaa
set_option linter.unusedVariables false
open Go.RowKit Go.Proofs.Bell Go.BigFrame

set_option maxRecDepth 100000 in
set_option maxHeartbeats 3200000 in
theorem lawSoundOf_h (w : World) (zv0 wv0 bv0 : Value) (zs0 : List Int) (ws0 : List (List Int)) (bs0 : List Int) (hz0 : Rd w zv0 zs0.length (ints zs0)) (hw0 : RdSS w wv0 ws0) (hb0 : Rd w bv0 bs0.length (ints bs0)) (nm1 : ByteArray) (sv1 : Value) (rs1 : List (Int × Int × Int)) (hnm1 : nm1.size ≤ maxLen) (h1 : Rd w sv1 rs1.length (trips rs1)) (t0a t0b t0c t0d t0e : Int) (t1 : Int)
    (hs : ∀ w' uz0 uw0 ub0 u1, Rd w' uz0 zs0.length (ints zs0) → RdSS w' uw0 ws0 → Rd w' ub0 bs0.length (ints bs0) → Rd w' u1 rs1.length (trips rs1) → Calls Try.prog 56 #[.agg #[uz0, uw0, ub0], .agg #[.string nm1, u1]] w' (RetB (.tuple #[.agg #[.int .i64 t0a, .int .i64 t0b, .int .i64 t0c, .int .i64 t0d, .int .i64 t0e], .int .i64 t1]) w'))
    (hi : ∀ w' uz0 uw0 ub0 u1, Rd w' uz0 zs0.length (ints zs0) → RdSS w' uw0 ws0 → Rd w' ub0 bs0.length (ints bs0) → Rd w' u1 rs1.length (trips rs1) → Calls Try.prog 57 #[.agg #[uz0, uw0, ub0], .agg #[.string nm1, u1]] w' (RetB (.tuple #[.agg #[.int .i64 t0a, .int .i64 t0b, .int .i64 t0c, .int .i64 t0d, .int .i64 t0e], .int .i64 t1]) w')) :
    Calls Try.prog 14 #[.agg #[zv0, wv0, bv0], .agg #[.string nm1, sv1]] w (RetB (.bool true) w) := by
  have hnm1' := hnm1
  unfold maxLen at hnm1'
  by_cases hl0 : ((zs0.length : Int) + SzSS ws0 + bs0.length) ≤ 1048576
  · skip
    have hz0' := fun w' (hb : Below w.heap.size w w') => szModel_c zv0 wv0 bv0 zs0 ws0 bs0 (1048576) w' (hz0.later hb) (hw0.later hb) (hb0.later hb) (by omega) (by omega)
    rw [leftM_pos (by omega)] at hz0'
    have HZ0 := Lib.hid hz0'; clear hz0'
    by_cases hl1 : ((nm1.size : Int) + rs1.length) ≤ 1048576 - (zs0.length : Int) - (SzSS ws0 : Int) - (bs0.length : Int)
    · skip
      have hz1' := fun w' (hb : Below w.heap.size w w') => szProfile_c nm1 sv1 rs1.length (trips rs1) (1048576 - (zs0.length : Int) - (SzSS ws0 : Int) - (bs0.length : Int)) w' hnm1 (h1.later hb) (by omega) (by omega)
      rw [leftP_pos (by omega)] at hz1'
      have HZ1 := Lib.hid hz1'; clear hz1'
      have ht0 := fun w' (hb : Below w.heap.size w w') => toModel_c zv0 wv0 bv0 zs0 ws0 bs0 w' (hz0.later hb) (hw0.later hb) (hb0.later hb) (by omega) (by omega) (by omega)
      have he0 := fun w' xa xb xc ya yb yc (h1 : Rd w' xa zs0.length (ints zs0)) (h2 : RdSS w' xb ws0) (h3 : Rd w' xc bs0.length (ints bs0)) (h4 : Rd w' ya zs0.length (ints zs0)) (h5 : RdSS w' yb ws0) (h6 : Rd w' yc bs0.length (ints bs0)) => eqModel_c xa xb xc ya yb yc zs0 ws0 bs0 w' h1 h2 h3 h4 h5 h6
      have HAZ0 := Lib.hid hz0; clear hz0
      have HAW0 := Lib.hid hw0; clear hw0
      have HAB0 := Lib.hid hb0; clear hb0
      have HE0 := Lib.hid he0; clear he0
      have HT0 := Lib.hid ht0; clear ht0
      have ht1 := fun w' (hb : Below w.heap.size w w') => toProfile_c nm1 sv1 rs1 w' (h1.later hb) (by omega)
      have he1 := fun w' x y (h1 : Rd w' x rs1.length (trips rs1)) (h2 : Rd w' y rs1.length (trips rs1)) => eqProfile_c nm1 nm1 x y rs1 rs1 w' h1 h2
      rw [eqPr_refl] at he1
      clear h1
      have HE1 := Lib.hid he1; clear he1
      have HT1 := Lib.hid ht1; clear ht1
      have HS := Lib.hid hs; clear hs
      have HI := Lib.hid hi; clear hi
      go_enter Try.func14, Try.ntmps14
      have b0 : Below w.heap.size w w := Below.refl _ _
      have z0 : w.heap.size ≤ w.heap.size := Nat.le_refl _
      go_wp2_with fail
      refine (HZ0.out _ (by go_grown)).mono ?_
      rintro _ w1 ⟨rfl, r1⟩
      have s1 : Below w.heap.size w w1 := Below.trans (by go_grown) (r1.mono (by simp; try omega))
      have y1 := s1.size
      have v1 : w.heap.size + 2 ≤ w1.heap.size := by have := r1.size; simp only [World.size_alloc] at this; omega
      have b1 := b0.trans (s1.mono z0)
      have z1 := b1.size
      have c0_0_1 := below_cell r1 (p := ⟨w.heap.size, 0, none⟩) (v := zv0) (by simp [go_sem])
      have c0_1_1 := below_cell r1 (p := ⟨w.heap.size, 1, none⟩) (v := wv0) (by simp [go_sem])
      have c0_2_1 := below_cell r1 (p := ⟨w.heap.size, 2, none⟩) (v := bv0) (by simp [go_sem])
      have c1_0_1 := below_cell r1 (p := ⟨w.heap.size + 1, 0, none⟩) (v := .string nm1) (by simp [go_sem])
      have c1_1_1 := below_cell r1 (p := ⟨w.heap.size + 1, 1, none⟩) (v := sv1) (by simp [go_sem])
      clear r1
      have al0_0_1 := fun o => alloc_cell o c0_0_1
      have al0_1_1 := fun o => alloc_cell o c0_1_1
      have al0_2_1 := fun o => alloc_cell o c0_2_1
      have al1_0_1 := fun o => alloc_cell o c1_0_1
      have al1_1_1 := fun o => alloc_cell o c1_1_1
      go_wp2_with fail
      refine (HZ1.out _ b1).mono ?_
      rintro _ w2 ⟨rfl, r2⟩
      have s2 := r2
      have y2 := s2.size
      have b2 := b1.trans (s2.mono z1)
      have z2 := b2.size
      have c0_0_2 := below_cell s2 c0_0_1
      clear c0_0_1
      have c0_1_2 := below_cell s2 c0_1_1
      clear c0_1_1
      have c0_2_2 := below_cell s2 c0_2_1
      clear c0_2_1
      have c1_0_2 := below_cell s2 c1_0_1
      clear c1_0_1
      have c1_1_2 := below_cell s2 c1_1_1
      clear c1_1_1
      clear al0_0_1
      clear al0_1_1
      clear al0_2_1
      clear al1_0_1
      clear al1_1_1
      have al0_0_2 := fun o => alloc_cell o c0_0_2
      have al0_1_2 := fun o => alloc_cell o c0_1_2
      have al0_2_2 := fun o => alloc_cell o c0_2_2
      have al1_0_2 := fun o => alloc_cell o c1_0_2
      have al1_1_2 := fun o => alloc_cell o c1_1_2
      have htd0 : ∀ w', Below w2.heap.size w2 w' → Calls Try.prog 52 #[.agg #[zv0, wv0, bv0]] w' (fun e w'' => ∃ ua0 ub0 uc0, e = .returned (.agg #[ua0, ub0, uc0]) ∧ (Rd w'' ua0 zs0.length (ints zs0) ∧ RdSS w'' ub0 ws0 ∧ Rd w'' uc0 bs0.length (ints bs0)) ∧ Below w'.heap.size w' w'' ∧ Below w2.heap.size w2 w'') := fun w' hb => (HT0.out w' (b2.trans (hb.mono z2))).mono fun _ _ ⟨va, vb, vc, us, e, o, b⟩ => ⟨va, vb, vc, e, ⟨Rd.of_own o.z, o.s.rd, Rd.of_own o.b⟩, b, hb.trans (b.mono hb.size)⟩
      have HTD0 := Lib.hid htd0; clear htd0
      have htd1 : ∀ w', Below w2.heap.size w2 w' → Calls Try.prog 17 #[.agg #[.string nm1, sv1]] w' (fun e w'' => ∃ u1, e = .returned (.agg #[.string nm1, u1]) ∧ (Rd w'' u1 rs1.length (trips rs1)) ∧ Below w'.heap.size w' w'' ∧ Below w2.heap.size w2 w'') := fun w' hb => (HT1.out w' (b2.trans (hb.mono z2))).mono fun _ _ ⟨v, e, o, b⟩ => ⟨v, e, Rd.of_own o, b, hb.trans (b.mono hb.size)⟩
      have HTD1 := Lib.hid htd1; clear htd1
      go_upto_region 8 with fail
      go_cut [6, 7] from 22 to 29 (fun s6 s7 wx => CutS t0a t0b t0c t0d t0e t1 w2 s6 s7 wx)
      case first =>
        go_region_held3 (fun w' => w'.cell? ⟨w.heap.size, 0, none⟩ = some (zv0) ∧ w'.cell? ⟨w.heap.size, 1, none⟩ = some (wv0) ∧ w'.cell? ⟨w.heap.size, 2, none⟩ = some (bv0) ∧ w'.cell? ⟨w.heap.size + 1, 0, none⟩ = some (.string nm1) ∧ w'.cell? ⟨w.heap.size + 1, 1, none⟩ = some (sv1)) (first | with_reducible exact ⟨c0_0_2, c0_1_2, c0_2_2, c1_0_2, c1_1_2⟩ | with_reducible exact ⟨alloc_cell _ c0_0_2, alloc_cell _ c0_1_2, alloc_cell _ c0_2_2, alloc_cell _ c1_0_2, alloc_cell _ c1_1_2⟩ | with_reducible exact ⟨below_cell s9 c0_0_2, below_cell s9 c0_1_2, below_cell s9 c0_2_2, below_cell s9 c1_0_2, below_cell s9 c1_1_2⟩ | with_reducible exact ⟨alloc_cell _ (below_cell s9 c0_0_2), alloc_cell _ (below_cell s9 c0_1_2), alloc_cell _ (below_cell s9 c0_2_2), alloc_cell _ (below_cell s9 c1_0_2), alloc_cell _ (below_cell s9 c1_1_2)⟩ | with_reducible exact ⟨BX.keep (below_cell s9 c0_0_2) (World.block_lt_of_cell? _ _ c0_0_2) _ _ _ _ _, BX.keep (below_cell s9 c0_1_2) (World.block_lt_of_cell? _ _ c0_1_2) _ _ _ _ _, BX.keep (below_cell s9 c0_2_2) (World.block_lt_of_cell? _ _ c0_2_2) _ _ _ _ _, BX.keep (below_cell s9 c1_0_2) (World.block_lt_of_cell? _ _ c1_0_2) _ _ _ _ _, BX.keep (below_cell s9 c1_1_2) (World.block_lt_of_cell? _ _ c1_1_2) _ _ _ _ _⟩ | with_reducible exact ⟨below_cell BD1.out c0_0_2, below_cell BD1.out c0_1_2, below_cell BD1.out c0_2_2, below_cell BD1.out c1_0_2, below_cell BD1.out c1_1_2⟩ | with_reducible exact ⟨alloc_cell _ (below_cell BD1.out c0_0_2), alloc_cell _ (below_cell BD1.out c0_1_2), alloc_cell _ (below_cell BD1.out c0_2_2), alloc_cell _ (below_cell BD1.out c1_0_2), alloc_cell _ (below_cell BD1.out c1_1_2)⟩ | with_reducible exact ⟨below_cell BD0.out c0_0_2, below_cell BD0.out c0_1_2, below_cell BD0.out c0_2_2, below_cell BD0.out c1_0_2, below_cell BD0.out c1_1_2⟩ | with_reducible exact ⟨alloc_cell _ (below_cell BD0.out c0_0_2), alloc_cell _ (below_cell BD0.out c0_1_2), alloc_cell _ (below_cell BD0.out c0_2_2), alloc_cell _ (below_cell BD0.out c1_0_2), alloc_cell _ (below_cell BD0.out c1_1_2)⟩ | go_keep) (first | (go_at_call 56; (first | (with_reducible refine (HS.out _ _ _ _ _ OD0_1.out.1 OD0_1.out.2.1 OD0_1.out.2.2 OD1_1.out).mono ?_) | (with_reducible refine (HS.out _ _ _ _ _ (OD0_1.out.1.later (below_alloc _ _)) (OD0_1.out.2.1.later (below_alloc _ _)) (OD0_1.out.2.2.later (below_alloc _ _)) (OD1_1.out.later (below_alloc _ _))).mono ?_)); rintro _ w3 ⟨rfl, rd9⟩; (first | (with_reducible have s9 := BD1.out.trans (rd9.mono BD1.out.size)) | (with_reducible have s9 := (below_alloced BD1.out BD1.out.size _).trans (rd9.mono (below_alloced BD1.out BD1.out.size _).size))); have lo9 := BD1.out.size; have lo8 := fun o => Nat.le_trans lo9 (below_alloc wd1 o).size; (first | (have hbl := BX.lt; with_reducible have BX := BoxS.later BX rd9; have hbl9 := hbl) | (with_reducible have BX := BoxS.after (B := w2.heap.size) rd9 lo9; have hbl9 := lt_alloc wd1) | skip); (first | (have bf9 := BX.f; have bc0 := BX.c0; have bc1 := BX.c1; have bc2 := BX.c2; have bc3 := BX.c3; have bc4 := BX.c4) | skip)) | (have _gd := BD0; go_at_call 17; (with_reducible refine (HTD1.out _ (by first | exact BD0.out | exact below_alloced BD0.out BD0.out.size _ | go_grown)).mono ?_); rintro _ wd1 ⟨u1, rfl, od1_1, qd1, bd1⟩; have OD1_1 := Lib.hid od1_1; clear od1_1; have BD1 := Lib.hid bd1; clear bd1; (first | (with_reducible have BX := BoxS.later BX qd1) | (with_reducible have BX := BoxS.after (B := w2.heap.size) qd1 BD0.out.size) | (with_reducible have BX := BoxS.afterD (B := w2.heap.size) qd1 BD0.out.size) | skip); (first | (with_reducible have qq1 : Below wd0.heap.size wd0 wd1 := qd1) | (with_reducible have qq1 : Below wd0.heap.size wd0 wd1 := below_of_alloc qd1)); have QD1 := Lib.hid qq1; clear qq1; clear qd1; have od0_1 := And.intro (OD0_0.out.1.later QD1.out) (And.intro (OD0_0.out.2.1.later QD1.out) (OD0_0.out.2.2.later QD1.out)); have OD0_1 := Lib.hid od0_1; clear od0_1) | (go_at_call 52; (with_reducible refine (HTD0.out _ (by go_grown)).mono ?_); rintro _ wd0 ⟨ua0, ub0, uc0, rfl, od0_0, qd0, bd0⟩; have OD0_0 := Lib.hid od0_0; clear od0_0; have BD0 := Lib.hid bd0; clear bd0; (first | (with_reducible have BX := BoxS.later BX qd0) | (with_reducible have BX := BoxS.after (B := w2.heap.size) qd0 (Nat.le_refl _)) | (with_reducible have BX := BoxS.afterD (B := w2.heap.size) qd0 (Nat.le_refl _)) | skip); clear qd0))
        all_goals (go_wp2_with fail; go_meet; first | with_reducible exact CutS.mk s9 | exact CutS.set BX s9)
      case rest =>
      obtain ⟨bx3, rfl, rfl, hbl3, hbt3, c2_0_3, c2_1_3, c2_2_3, c2_3_3, c2_4_3, s3⟩ := hcut
      generalize wc = w3 at *
      clear HTD0 HTD1
      have y3 := s3.size
      have b3 := b2.trans (s3.mono z2)
      have z3 := b3.size
      have c0_0_3 := below_cell s3 c0_0_2
      clear c0_0_2
      have c0_1_3 := below_cell s3 c0_1_2
      clear c0_1_2
      have c0_2_3 := below_cell s3 c0_2_2
      clear c0_2_2
      have c1_0_3 := below_cell s3 c1_0_2
      clear c1_0_2
      have c1_1_3 := below_cell s3 c1_1_2
      clear c1_1_2
      clear al0_0_2
      clear al0_1_2
      clear al0_2_2
      clear al1_0_2
      clear al1_1_2
      have al0_0_3 := fun o => alloc_cell o c0_0_3
      have al0_1_3 := fun o => alloc_cell o c0_1_3
      have al0_2_3 := fun o => alloc_cell o c0_2_3
      have al1_0_3 := fun o => alloc_cell o c1_0_3
      have al1_1_3 := fun o => alloc_cell o c1_1_3
      go_wp2_with fail
      refine (HT0.out _ b3).mono ?_
      rintro _ w4 ⟨xa1, xb1, xc1, us1, rfl, nm_1, r4⟩
      have s4 := r4
      have y4 := s4.size
      have b4 := b3.trans (s4.mono z3)
      have z4 := b4.size
      have c0_0_4 := below_cell s4 c0_0_3
      clear c0_0_3
      have c0_1_4 := below_cell s4 c0_1_3
      clear c0_1_3
      have c0_2_4 := below_cell s4 c0_2_3
      clear c0_2_3
      have c1_0_4 := below_cell s4 c1_0_3
      clear c1_0_3
      have c1_1_4 := below_cell s4 c1_1_3
      clear c1_1_3
      have c2_0_4 := below_cell s4 c2_0_3
      clear c2_0_3
      have c2_1_4 := below_cell s4 c2_1_3
      clear c2_1_3
      have c2_2_4 := below_cell s4 c2_2_3
      clear c2_2_3
      have c2_3_4 := below_cell s4 c2_3_3
      clear c2_3_3
      have c2_4_4 := below_cell s4 c2_4_3
      clear c2_4_3
      clear al0_0_3
      clear al0_1_3
      clear al0_2_3
      clear al1_0_3
      clear al1_1_3
      have al0_0_4 := fun o => alloc_cell o c0_0_4
      have al0_1_4 := fun o => alloc_cell o c0_1_4
      have al0_2_4 := fun o => alloc_cell o c0_2_4
      have al1_0_4 := fun o => alloc_cell o c1_0_4
      have al1_1_4 := fun o => alloc_cell o c1_1_4
      have al2_0_4 := fun o => alloc_cell o c2_0_4
      have al2_1_4 := fun o => alloc_cell o c2_1_4
      have al2_2_4 := fun o => alloc_cell o c2_2_4
      have al2_3_4 := fun o => alloc_cell o c2_3_4
      have al2_4_4 := fun o => alloc_cell o c2_4_4
      obtain ⟨az1, pz1, rfl⟩ := own_shape nm_1.z
      obtain ⟨aw1, pw1, rfl⟩ := own_shape nm_1.s.row
      obtain ⟨ab1, pb1, rfl⟩ := own_shape nm_1.b
      have om1 : OwnM w3.heap.size w4.heap.size w4 (.slice az1 zs0.length pz1) (.slice aw1 ws0.length pw1) (.slice ab1 bs0.length pb1) us1 zs0 ws0 bs0 := nm_1.wide (by first | exact Nat.le_refl _ | (simp; done) | (simp; omega)) (Nat.le_refl _)
      clear nm_1
      have OM1_4 := Lib.hid om1; clear om1
      go_wp2_with fail
      refine (HT1.out _ (by go_grown)).mono ?_
      rintro _ w5 ⟨x2, rfl, n2, r5⟩
      have s5 : Below w4.heap.size w4 w5 := Below.trans (by go_grown) (r5.mono (by simp; try omega))
      have y5 := s5.size
      have v5 : w4.heap.size + 1 ≤ w5.heap.size := by have := r5.size; simp only [World.size_alloc] at this; omega
      have b5 := b4.trans (s5.mono z4)
      have z5 := b5.size
      have c0_0_5 := below_cell s5 c0_0_4
      clear c0_0_4
      have c0_1_5 := below_cell s5 c0_1_4
      clear c0_1_4
      have c0_2_5 := below_cell s5 c0_2_4
      clear c0_2_4
      have c1_0_5 := below_cell s5 c1_0_4
      clear c1_0_4
      have c1_1_5 := below_cell s5 c1_1_4
      clear c1_1_4
      have c2_0_5 := below_cell s5 c2_0_4
      clear c2_0_4
      have c2_1_5 := below_cell s5 c2_1_4
      clear c2_1_4
      have c2_2_5 := below_cell s5 c2_2_4
      clear c2_2_4
      have c2_3_5 := below_cell s5 c2_3_4
      clear c2_3_4
      have c2_4_5 := below_cell s5 c2_4_4
      clear c2_4_4
      have c3_0_5 := below_cell r5 (p := ⟨w4.heap.size, 0, none⟩) (v := .slice az1 zs0.length pz1) (by simp [go_sem])
      have c3_1_5 := below_cell r5 (p := ⟨w4.heap.size, 1, none⟩) (v := .slice aw1 ws0.length pw1) (by simp [go_sem])
      have c3_2_5 := below_cell r5 (p := ⟨w4.heap.size, 2, none⟩) (v := .slice ab1 bs0.length pb1) (by simp [go_sem])
      have o1_5 := OM1_4.out.later s5
      have O1_5 := Lib.hid o1_5; clear o1_5
      clear r5
      clear al0_0_4
      clear al0_1_4
      clear al0_2_4
      clear al1_0_4
      clear al1_1_4
      clear al2_0_4
      clear al2_1_4
      clear al2_2_4
      clear al2_3_4
      clear al2_4_4
      have al0_0_5 := fun o => alloc_cell o c0_0_5
      have al0_1_5 := fun o => alloc_cell o c0_1_5
      have al0_2_5 := fun o => alloc_cell o c0_2_5
      have al1_0_5 := fun o => alloc_cell o c1_0_5
      have al1_1_5 := fun o => alloc_cell o c1_1_5
      have al2_0_5 := fun o => alloc_cell o c2_0_5
      have al2_1_5 := fun o => alloc_cell o c2_1_5
      have al2_2_5 := fun o => alloc_cell o c2_2_5
      have al2_3_5 := fun o => alloc_cell o c2_3_5
      have al2_4_5 := fun o => alloc_cell o c2_4_5
      have al3_0_5 := fun o => alloc_cell o c3_0_5
      have al3_1_5 := fun o => alloc_cell o c3_1_5
      have al3_2_5 := fun o => alloc_cell o c3_2_5
      obtain ⟨ao2, cap2, g2, rfl, _, _⟩ := own_open n2
      have up2 := fun k hk => (World.ownsRow.lt n2 k hk).2
      have lo2 := fun k hk => (World.ownsRow.lt n2 k hk).1
      try simp only [World.size_alloc] at lo2
      have UP2 := Lib.hid up2; clear up2
      have LO2 := Lib.hid lo2; clear lo2
      have o2' := n2
      have O2_5 := Lib.hid o2'; clear o2'
      clear n2
      go_wp2_with fail
      refine (HI.out _ _ _ _ _ ((Rd.of_own O1_5.out.z).later (by go_grown)) ((O1_5.out.s.rd).later (by go_grown)) ((Rd.of_own O1_5.out.b).later (by go_grown)) ((Rd.of_own O2_5.out).later (by go_grown))).mono ?_
      rintro _ w6 ⟨rfl, r6⟩
      have s6 : Below w5.heap.size w5 w6 := Below.trans (by go_grown) (r6.mono (by simp; try omega))
      have y6 := s6.size
      have v6 : w5.heap.size + 1 ≤ w6.heap.size := by have := r6.size; simp only [World.size_alloc] at this; omega
      have b6 := b5.trans (s6.mono z5)
      have z6 := b6.size
      have c0_0_6 := below_cell s6 c0_0_5
      clear c0_0_5
      have c0_1_6 := below_cell s6 c0_1_5
      clear c0_1_5
      have c0_2_6 := below_cell s6 c0_2_5
      clear c0_2_5
      have c1_0_6 := below_cell s6 c1_0_5
      clear c1_0_5
      have c1_1_6 := below_cell s6 c1_1_5
      clear c1_1_5
      have c2_0_6 := below_cell s6 c2_0_5
      clear c2_0_5
      have c2_1_6 := below_cell s6 c2_1_5
      clear c2_1_5
      have c2_2_6 := below_cell s6 c2_2_5
      clear c2_2_5
      have c2_3_6 := below_cell s6 c2_3_5
      clear c2_3_5
      have c2_4_6 := below_cell s6 c2_4_5
      clear c2_4_5
      have c3_0_6 := below_cell s6 c3_0_5
      clear c3_0_5
      have c3_1_6 := below_cell s6 c3_1_5
      clear c3_1_5
      have c3_2_6 := below_cell s6 c3_2_5
      clear c3_2_5
      have c4_0_6 := below_cell r6 (p := ⟨w5.heap.size, 0, none⟩) (v := .string nm1) (by simp [go_sem])
      have c4_1_6 := below_cell r6 (p := ⟨w5.heap.size, 1, none⟩) (v := .slice ao2 rs1.length cap2) (by simp [go_sem])
      have o1_6 := O1_5.out.later s6
      have O1_6 := Lib.hid o1_6; clear o1_6
      have o2_6 := own_later O2_5.out s6
      have O2_6 := Lib.hid o2_6; clear o2_6
      clear r6
      clear al0_0_5
      clear al0_1_5
      clear al0_2_5
      clear al1_0_5
      clear al1_1_5
      clear al2_0_5
      clear al2_1_5
      clear al2_2_5
      clear al2_3_5
      clear al2_4_5
      clear al3_0_5
      clear al3_1_5
      clear al3_2_5
      have al0_0_6 := fun o => alloc_cell o c0_0_6
      have al0_1_6 := fun o => alloc_cell o c0_1_6
      have al0_2_6 := fun o => alloc_cell o c0_2_6
      have al1_0_6 := fun o => alloc_cell o c1_0_6
      have al1_1_6 := fun o => alloc_cell o c1_1_6
      have al2_0_6 := fun o => alloc_cell o c2_0_6
      have al2_1_6 := fun o => alloc_cell o c2_1_6
      have al2_2_6 := fun o => alloc_cell o c2_2_6
      have al2_3_6 := fun o => alloc_cell o c2_3_6
      have al2_4_6 := fun o => alloc_cell o c2_4_6
      have al3_0_6 := fun o => alloc_cell o c3_0_6
      have al3_1_6 := fun o => alloc_cell o c3_1_6
      have al3_2_6 := fun o => alloc_cell o c3_2_6
      have al4_0_6 := fun o => alloc_cell o c4_0_6
      have al4_1_6 := fun o => alloc_cell o c4_1_6
      go_wp2_with fail
      refine (eqSound_c _ _ _ _ _ _).mono ?_
      rintro _ w7 ⟨rfl, r7⟩
      have s7 : Below w6.heap.size w6 w7 := Below.trans (by go_grown) (r7.mono (by simp; try omega))
      have y7 := s7.size
      have v7 : w6.heap.size + 1 ≤ w7.heap.size := by have := r7.size; simp only [World.size_alloc] at this; omega
      have b7 := b6.trans (s7.mono z6)
      have z7 := b7.size
      have c0_0_7 := below_cell s7 c0_0_6
      clear c0_0_6
      have c0_1_7 := below_cell s7 c0_1_6
      clear c0_1_6
      have c0_2_7 := below_cell s7 c0_2_6
      clear c0_2_6
      have c1_0_7 := below_cell s7 c1_0_6
      clear c1_0_6
      have c1_1_7 := below_cell s7 c1_1_6
      clear c1_1_6
      have c2_0_7 := below_cell s7 c2_0_6
      clear c2_0_6
      have c2_1_7 := below_cell s7 c2_1_6
      clear c2_1_6
      have c2_2_7 := below_cell s7 c2_2_6
      clear c2_2_6
      have c2_3_7 := below_cell s7 c2_3_6
      clear c2_3_6
      have c2_4_7 := below_cell s7 c2_4_6
      clear c2_4_6
      have c3_0_7 := below_cell s7 c3_0_6
      clear c3_0_6
      have c3_1_7 := below_cell s7 c3_1_6
      clear c3_1_6
      have c3_2_7 := below_cell s7 c3_2_6
      clear c3_2_6
      have c4_0_7 := below_cell s7 c4_0_6
      clear c4_0_6
      have c4_1_7 := below_cell s7 c4_1_6
      clear c4_1_6
      have c5_0_7 := below_cell r7 (p := ⟨w6.heap.size, 0, none⟩) (v := .int .i64 t0a) (by simp [go_sem])
      have c5_1_7 := below_cell r7 (p := ⟨w6.heap.size, 1, none⟩) (v := .int .i64 t0b) (by simp [go_sem])
      have c5_2_7 := below_cell r7 (p := ⟨w6.heap.size, 2, none⟩) (v := .int .i64 t0c) (by simp [go_sem])
      have c5_3_7 := below_cell r7 (p := ⟨w6.heap.size, 3, none⟩) (v := .int .i64 t0d) (by simp [go_sem])
      have c5_4_7 := below_cell r7 (p := ⟨w6.heap.size, 4, none⟩) (v := .int .i64 t0e) (by simp [go_sem])
      have o1_7 := O1_6.out.later s7
      have O1_7 := Lib.hid o1_7; clear o1_7
      have o2_7 := own_later O2_6.out s7
      have O2_7 := Lib.hid o2_7; clear o2_7
      clear r7
      clear al0_0_6
      clear al0_1_6
      clear al0_2_6
      clear al1_0_6
      clear al1_1_6
      clear al2_0_6
      clear al2_1_6
      clear al2_2_6
      clear al2_3_6
      clear al2_4_6
      clear al3_0_6
      clear al3_1_6
      clear al3_2_6
      clear al4_0_6
      clear al4_1_6
      have al0_0_7 := fun o => alloc_cell o c0_0_7
      have al0_1_7 := fun o => alloc_cell o c0_1_7
      have al0_2_7 := fun o => alloc_cell o c0_2_7
      have al1_0_7 := fun o => alloc_cell o c1_0_7
      have al1_1_7 := fun o => alloc_cell o c1_1_7
      have al2_0_7 := fun o => alloc_cell o c2_0_7
      have al2_1_7 := fun o => alloc_cell o c2_1_7
      have al2_2_7 := fun o => alloc_cell o c2_2_7
      have al2_3_7 := fun o => alloc_cell o c2_3_7
      have al2_4_7 := fun o => alloc_cell o c2_4_7
      have al3_0_7 := fun o => alloc_cell o c3_0_7
      have al3_1_7 := fun o => alloc_cell o c3_1_7
      have al3_2_7 := fun o => alloc_cell o c3_2_7
      have al4_0_7 := fun o => alloc_cell o c4_0_7
      have al4_1_7 := fun o => alloc_cell o c4_1_7
      have al5_0_7 := fun o => alloc_cell o c5_0_7
      have al5_1_7 := fun o => alloc_cell o c5_1_7
      have al5_2_7 := fun o => alloc_cell o c5_2_7
      have al5_3_7 := fun o => alloc_cell o c5_3_7
      have al5_4_7 := fun o => alloc_cell o c5_4_7
      go_wp2_with fail
      have ht5 : ∀ w', Below w7.heap.size w7 w' → Calls Try.prog 52 #[.agg #[zv0, wv0, bv0]] w' (fun e w'' => ∃ ua ub uc, e = .returned (.agg #[ua, ub, uc]) ∧ ((Rd w'' ua zs0.length (ints zs0) ∧ RdSS w'' ub ws0 ∧ Rd w'' uc bs0.length (ints bs0)) ∧ Below w7.heap.size w7 w'')) := fun w' hb => (HT0.out w' (b7.trans (hb.mono z7))).mono fun _ _ ⟨va, vb, vc, us, e, o, b⟩ => ⟨va, vb, vc, e, ⟨Rd.of_own o.z, o.s.rd, Rd.of_own o.b⟩, hb.trans (b.mono hb.size)⟩
      have he5 : ∀ w' ua ub uc, (Rd w' ua zs0.length (ints zs0) ∧ RdSS w' ub ws0 ∧ Rd w' uc bs0.length (ints bs0)) ∧ Below w7.heap.size w7 w' → Calls Try.prog 54 #[.agg #[.slice az1 zs0.length pz1, .slice aw1 ws0.length pw1, .slice ab1 bs0.length pb1], .agg #[ua, ub, uc]] w' (fun e w'' => e = .returned (.bool true) ∧ Below w7.heap.size w7 w'') := fun w' va vb vc ⟨o, hb⟩ => (HE0.out w' _ _ _ _ _ _ (Rd.of_own (O1_7.out.later hb).z) (O1_7.out.later hb).s.rd (Rd.of_own (O1_7.out.later hb).b) o.1 o.2.1 o.2.2).mono fun _ _ ⟨e, b⟩ => ⟨e, hb.trans (b.mono hb.size)⟩
      have HT5 := Lib.hid ht5; clear ht5
      have HE5 := Lib.hid he5; clear he5
      go_region_held3 (fun w' => w'.cell? ⟨w.heap.size, 0, none⟩ = some (zv0) ∧ w'.cell? ⟨w.heap.size, 1, none⟩ = some (wv0) ∧ w'.cell? ⟨w.heap.size, 2, none⟩ = some (bv0) ∧ w'.cell? ⟨w4.heap.size, 0, none⟩ = some (.slice az1 zs0.length pz1) ∧ w'.cell? ⟨w4.heap.size, 1, none⟩ = some (.slice aw1 ws0.length pw1) ∧ w'.cell? ⟨w4.heap.size, 2, none⟩ = some (.slice ab1 bs0.length pb1)) (first | exact ⟨c0_0_7, c0_1_7, c0_2_7, c3_0_7, c3_1_7, c3_2_7⟩ | exact ⟨below_cell O6.out.2 c0_0_7, below_cell O6.out.2 c0_1_7, below_cell O6.out.2 c0_2_7, below_cell O6.out.2 c3_0_7, below_cell O6.out.2 c3_1_7, below_cell O6.out.2 c3_2_7⟩ | exact ⟨below_cell s8 c0_0_7, below_cell s8 c0_1_7, below_cell s8 c0_2_7, below_cell s8 c3_0_7, below_cell s8 c3_1_7, below_cell s8 c3_2_7⟩ | go_keep) (first | (go_at_call 52; refine (HT5.out _ (by go_grown)).mono ?_; rintro _ ww6 ⟨va6, vb6, vc6, rfl, o6⟩; have O6 := Lib.hid o6; clear o6) | (go_at_call 54; refine (HE5.out _ _ _ _ (by assumption)).mono ?_; rintro _ w8 ⟨rfl, s8⟩))
      clear HT5 HE5
      have y8 := s8.size
      have b8 := b7.trans (s8.mono z7)
      have z8 := b8.size
      have c0_0_8 := below_cell s8 c0_0_7
      clear c0_0_7
      have c0_1_8 := below_cell s8 c0_1_7
      clear c0_1_7
      have c0_2_8 := below_cell s8 c0_2_7
      clear c0_2_7
      have c1_0_8 := below_cell s8 c1_0_7
      clear c1_0_7
      have c1_1_8 := below_cell s8 c1_1_7
      clear c1_1_7
      have c2_0_8 := below_cell s8 c2_0_7
      clear c2_0_7
      have c2_1_8 := below_cell s8 c2_1_7
      clear c2_1_7
      have c2_2_8 := below_cell s8 c2_2_7
      clear c2_2_7
      have c2_3_8 := below_cell s8 c2_3_7
      clear c2_3_7
      have c2_4_8 := below_cell s8 c2_4_7
      clear c2_4_7
      have c3_0_8 := below_cell s8 c3_0_7
      clear c3_0_7
      have c3_1_8 := below_cell s8 c3_1_7
      clear c3_1_7
      have c3_2_8 := below_cell s8 c3_2_7
      clear c3_2_7
      have c4_0_8 := below_cell s8 c4_0_7
      clear c4_0_7
      have c4_1_8 := below_cell s8 c4_1_7
      clear c4_1_7
      have c5_0_8 := below_cell s8 c5_0_7
      clear c5_0_7
      have c5_1_8 := below_cell s8 c5_1_7
      clear c5_1_7
      have c5_2_8 := below_cell s8 c5_2_7
      clear c5_2_7
      have c5_3_8 := below_cell s8 c5_3_7
      clear c5_3_7
      have c5_4_8 := below_cell s8 c5_4_7
      clear c5_4_7
      have o1_8 := O1_7.out.later s8
      have O1_8 := Lib.hid o1_8; clear o1_8
      have o2_8 := own_later O2_7.out s8
      have O2_8 := Lib.hid o2_8; clear o2_8
      clear al0_0_7
      clear al0_1_7
      clear al0_2_7
      clear al1_0_7
      clear al1_1_7
      clear al2_0_7
      clear al2_1_7
      clear al2_2_7
      clear al2_3_7
      clear al2_4_7
      clear al3_0_7
      clear al3_1_7
      clear al3_2_7
      clear al4_0_7
      clear al4_1_7
      clear al5_0_7
      clear al5_1_7
      clear al5_2_7
      clear al5_3_7
      clear al5_4_7
      have al0_0_8 := fun o => alloc_cell o c0_0_8
      have al0_1_8 := fun o => alloc_cell o c0_1_8
      have al0_2_8 := fun o => alloc_cell o c0_2_8
      have al1_0_8 := fun o => alloc_cell o c1_0_8
      have al1_1_8 := fun o => alloc_cell o c1_1_8
      have al2_0_8 := fun o => alloc_cell o c2_0_8
      have al2_1_8 := fun o => alloc_cell o c2_1_8
      have al2_2_8 := fun o => alloc_cell o c2_2_8
      have al2_3_8 := fun o => alloc_cell o c2_3_8
      have al2_4_8 := fun o => alloc_cell o c2_4_8
      have al3_0_8 := fun o => alloc_cell o c3_0_8
      have al3_1_8 := fun o => alloc_cell o c3_1_8
      have al3_2_8 := fun o => alloc_cell o c3_2_8
      have al4_0_8 := fun o => alloc_cell o c4_0_8
      have al4_1_8 := fun o => alloc_cell o c4_1_8
      have al5_0_8 := fun o => alloc_cell o c5_0_8
      have al5_1_8 := fun o => alloc_cell o c5_1_8
      have al5_2_8 := fun o => alloc_cell o c5_2_8
      have al5_3_8 := fun o => alloc_cell o c5_3_8
      have al5_4_8 := fun o => alloc_cell o c5_4_8
      go_wp2_with fail
      have ht5 : ∀ w', Below w8.heap.size w8 w' → Calls Try.prog 17 #[.agg #[.string nm1, sv1]] w' (fun e w'' => ∃ u, e = .returned (.agg #[.string nm1, u]) ∧ (OwnR w'.heap.size w'' u rs1 ∧ Below w8.heap.size w8 w'')) := fun w' hb => (HT1.out w' (b8.trans (hb.mono z8))).mono fun _ _ ⟨v, e, o, b⟩ => ⟨v, e, o, hb.trans (b.mono hb.size)⟩
      have he5 : ∀ B w' u, OwnR B w' u rs1 ∧ Below w8.heap.size w8 w' → Calls Try.prog 20 #[.agg #[.string nm1, .slice ao2 rs1.length cap2], .agg #[.string nm1, u]] w' (fun e w'' => e = .returned (.bool true) ∧ Below w8.heap.size w8 w'') := fun B w' v ⟨o, hb⟩ => (HE1.out w' _ _ (Rd.of_own (own_later O2_8.out hb)) (Rd.of_own o)).mono fun _ _ ⟨e, b⟩ => ⟨e, hb.trans (b.mono hb.size)⟩
      have HT5 := Lib.hid ht5; clear ht5
      have HE5 := Lib.hid he5; clear he5
      go_region_held3 (fun w' => w'.cell? ⟨w.heap.size + 1, 0, none⟩ = some (.string nm1) ∧ w'.cell? ⟨w.heap.size + 1, 1, none⟩ = some (sv1) ∧ w'.cell? ⟨w5.heap.size, 0, none⟩ = some (.string nm1) ∧ w'.cell? ⟨w5.heap.size, 1, none⟩ = some (.slice ao2 rs1.length cap2)) (first | exact ⟨c1_0_8, c1_1_8, c4_0_8, c4_1_8⟩ | exact ⟨below_cell O6.out.2 c1_0_8, below_cell O6.out.2 c1_1_8, below_cell O6.out.2 c4_0_8, below_cell O6.out.2 c4_1_8⟩ | exact ⟨below_cell s9 c1_0_8, below_cell s9 c1_1_8, below_cell s9 c4_0_8, below_cell s9 c4_1_8⟩ | go_keep) (first | (go_at_call 17; refine (HT5.out _ (by go_grown)).mono ?_; rintro _ ww6 ⟨vv6, rfl, o6⟩; have O6 := Lib.hid o6; clear o6) | (go_at_call 20; refine (HE5.out _ _ _ (by assumption)).mono ?_; rintro _ w9 ⟨rfl, s9⟩))
      clear HT5 HE5
      have y9 := s9.size
      have b9 := b8.trans (s9.mono z8)
      have z9 := b9.size
      have c0_0_9 := below_cell s9 c0_0_8
      clear c0_0_8
      have c0_1_9 := below_cell s9 c0_1_8
      clear c0_1_8
      have c0_2_9 := below_cell s9 c0_2_8
      clear c0_2_8
      have c1_0_9 := below_cell s9 c1_0_8
      clear c1_0_8
      have c1_1_9 := below_cell s9 c1_1_8
      clear c1_1_8
      have c2_0_9 := below_cell s9 c2_0_8
      clear c2_0_8
      have c2_1_9 := below_cell s9 c2_1_8
      clear c2_1_8
      have c2_2_9 := below_cell s9 c2_2_8
      clear c2_2_8
      have c2_3_9 := below_cell s9 c2_3_8
      clear c2_3_8
      have c2_4_9 := below_cell s9 c2_4_8
      clear c2_4_8
      have c3_0_9 := below_cell s9 c3_0_8
      clear c3_0_8
      have c3_1_9 := below_cell s9 c3_1_8
      clear c3_1_8
      have c3_2_9 := below_cell s9 c3_2_8
      clear c3_2_8
      have c4_0_9 := below_cell s9 c4_0_8
      clear c4_0_8
      have c4_1_9 := below_cell s9 c4_1_8
      clear c4_1_8
      have c5_0_9 := below_cell s9 c5_0_8
      clear c5_0_8
      have c5_1_9 := below_cell s9 c5_1_8
      clear c5_1_8
      have c5_2_9 := below_cell s9 c5_2_8
      clear c5_2_8
      have c5_3_9 := below_cell s9 c5_3_8
      clear c5_3_8
      have c5_4_9 := below_cell s9 c5_4_8
      clear c5_4_8
      have o1_9 := O1_8.out.later s9
      have O1_9 := Lib.hid o1_9; clear o1_9
      have o2_9 := own_later O2_8.out s9
      have O2_9 := Lib.hid o2_9; clear o2_9
      clear al0_0_8
      clear al0_1_8
      clear al0_2_8
      clear al1_0_8
      clear al1_1_8
      clear al2_0_8
      clear al2_1_8
      clear al2_2_8
      clear al2_3_8
      clear al2_4_8
      clear al3_0_8
      clear al3_1_8
      clear al3_2_8
      clear al4_0_8
      clear al4_1_8
      clear al5_0_8
      clear al5_1_8
      clear al5_2_8
      clear al5_3_8
      clear al5_4_8
      have al0_0_9 := fun o => alloc_cell o c0_0_9
      have al0_1_9 := fun o => alloc_cell o c0_1_9
      have al0_2_9 := fun o => alloc_cell o c0_2_9
      have al1_0_9 := fun o => alloc_cell o c1_0_9
      have al1_1_9 := fun o => alloc_cell o c1_1_9
      have al2_0_9 := fun o => alloc_cell o c2_0_9
      have al2_1_9 := fun o => alloc_cell o c2_1_9
      have al2_2_9 := fun o => alloc_cell o c2_2_9
      have al2_3_9 := fun o => alloc_cell o c2_3_9
      have al2_4_9 := fun o => alloc_cell o c2_4_9
      have al3_0_9 := fun o => alloc_cell o c3_0_9
      have al3_1_9 := fun o => alloc_cell o c3_1_9
      have al3_2_9 := fun o => alloc_cell o c3_2_9
      have al4_0_9 := fun o => alloc_cell o c4_0_9
      have al4_1_9 := fun o => alloc_cell o c4_1_9
      have al5_0_9 := fun o => alloc_cell o c5_0_9
      have al5_1_9 := fun o => alloc_cell o c5_1_9
      have al5_2_9 := fun o => alloc_cell o c5_2_9
      have al5_3_9 := fun o => alloc_cell o c5_3_9
      have al5_4_9 := fun o => alloc_cell o c5_4_9
      go_wp2
      go_returns
      exact RetB.mk rfl b9
    · skip
      have hz1' := fun w' (hb : Below w.heap.size w w') => szProfile_c nm1 sv1 rs1.length (trips rs1) (1048576 - (zs0.length : Int) - (SzSS ws0 : Int) - (bs0.length : Int)) w' hnm1 (h1.later hb) (by omega) (by omega)
      rw [leftP_neg (by omega)] at hz1'
      have HZ1 := Lib.hid hz1'; clear hz1'
      have HS := Lib.hid hs; clear hs
      have HI := Lib.hid hi; clear hi
      go_enter Try.func14, Try.ntmps14
      have b0 : Below w.heap.size w w := Below.refl _ _
      have z0 : w.heap.size ≤ w.heap.size := Nat.le_refl _
      go_wp2_with fail
      refine (HZ0.out _ (by go_grown)).mono ?_
      rintro _ w1 ⟨rfl, r1⟩
      have s1 : Below w.heap.size w w1 := Below.trans (by go_grown) (r1.mono (by simp; try omega))
      have y1 := s1.size
      have v1 : w.heap.size + 2 ≤ w1.heap.size := by have := r1.size; simp only [World.size_alloc] at this; omega
      have b1 := b0.trans (s1.mono z0)
      have z1 := b1.size
      have c0_0_1 := below_cell r1 (p := ⟨w.heap.size, 0, none⟩) (v := zv0) (by simp [go_sem])
      have c0_1_1 := below_cell r1 (p := ⟨w.heap.size, 1, none⟩) (v := wv0) (by simp [go_sem])
      have c0_2_1 := below_cell r1 (p := ⟨w.heap.size, 2, none⟩) (v := bv0) (by simp [go_sem])
      have c1_0_1 := below_cell r1 (p := ⟨w.heap.size + 1, 0, none⟩) (v := .string nm1) (by simp [go_sem])
      have c1_1_1 := below_cell r1 (p := ⟨w.heap.size + 1, 1, none⟩) (v := sv1) (by simp [go_sem])
      clear r1
      have al0_0_1 := fun o => alloc_cell o c0_0_1
      have al0_1_1 := fun o => alloc_cell o c0_1_1
      have al0_2_1 := fun o => alloc_cell o c0_2_1
      have al1_0_1 := fun o => alloc_cell o c1_0_1
      have al1_1_1 := fun o => alloc_cell o c1_1_1
      go_wp2_with fail
      refine (HZ1.out _ b1).mono ?_
      rintro _ w2 ⟨rfl, r2⟩
      have s2 := r2
      have y2 := s2.size
      have b2 := b1.trans (s2.mono z1)
      have z2 := b2.size
      have c0_0_2 := below_cell s2 c0_0_1
      clear c0_0_1
      have c0_1_2 := below_cell s2 c0_1_1
      clear c0_1_1
      have c0_2_2 := below_cell s2 c0_2_1
      clear c0_2_1
      have c1_0_2 := below_cell s2 c1_0_1
      clear c1_0_1
      have c1_1_2 := below_cell s2 c1_1_1
      clear c1_1_1
      clear al0_0_1
      clear al0_1_1
      clear al0_2_1
      clear al1_0_1
      clear al1_1_1
      have al0_0_2 := fun o => alloc_cell o c0_0_2
      have al0_1_2 := fun o => alloc_cell o c0_1_2
      have al0_2_2 := fun o => alloc_cell o c0_2_2
      have al1_0_2 := fun o => alloc_cell o c1_0_2
      have al1_1_2 := fun o => alloc_cell o c1_1_2
      go_wp2
      go_returns
      exact RetB.mk rfl b2
  · skip
    have hz0' := fun w' (hb : Below w.heap.size w w') => szModel_c zv0 wv0 bv0 zs0 ws0 bs0 (1048576) w' (hz0.later hb) (hw0.later hb) (hb0.later hb) (by omega) (by omega)
    rw [leftM_neg (by omega)] at hz0'
    have HZ0 := Lib.hid hz0'; clear hz0'
    have HS := Lib.hid hs; clear hs
    have HI := Lib.hid hi; clear hi
    go_enter Try.func14, Try.ntmps14
    have b0 : Below w.heap.size w w := Below.refl _ _
    have z0 : w.heap.size ≤ w.heap.size := Nat.le_refl _
    go_wp2_with fail
    refine (HZ0.out _ (by go_grown)).mono ?_
    rintro _ w1 ⟨rfl, r1⟩
    have s1 : Below w.heap.size w w1 := Below.trans (by go_grown) (r1.mono (by simp; try omega))
    have y1 := s1.size
    have v1 : w.heap.size + 2 ≤ w1.heap.size := by have := r1.size; simp only [World.size_alloc] at this; omega
    have b1 := b0.trans (s1.mono z0)
    have z1 := b1.size
    have c0_0_1 := below_cell r1 (p := ⟨w.heap.size, 0, none⟩) (v := zv0) (by simp [go_sem])
    have c0_1_1 := below_cell r1 (p := ⟨w.heap.size, 1, none⟩) (v := wv0) (by simp [go_sem])
    have c0_2_1 := below_cell r1 (p := ⟨w.heap.size, 2, none⟩) (v := bv0) (by simp [go_sem])
    have c1_0_1 := below_cell r1 (p := ⟨w.heap.size + 1, 0, none⟩) (v := .string nm1) (by simp [go_sem])
    have c1_1_1 := below_cell r1 (p := ⟨w.heap.size + 1, 1, none⟩) (v := sv1) (by simp [go_sem])
    clear r1
    have al0_0_1 := fun o => alloc_cell o c0_0_1
    have al0_1_1 := fun o => alloc_cell o c0_1_1
    have al0_2_1 := fun o => alloc_cell o c0_2_1
    have al1_0_1 := fun o => alloc_cell o c1_0_1
    have al1_1_1 := fun o => alloc_cell o c1_1_1
    go_wp2
    go_returns
    exact RetB.mk rfl b1

theorem lawSoundOf_c (w : World) (zv0 wv0 bv0 : Value) (zs0 : List Int) (ws0 : List (List Int)) (bs0 : List Int) (hz0 : Rd w zv0 zs0.length (ints zs0)) (hw0 : RdSS w wv0 ws0) (hb0 : Rd w bv0 bs0.length (ints bs0)) (w0 : (∀ z ∈ zs0, I64 z) ∧ (∀ x ∈ ws0, ∀ z ∈ x, I64 z) ∧ ∀ z ∈ bs0, I64 z) (nm1 : ByteArray) (sv1 : Value) (rs1 : List (Int × Int × Int)) (hnm1 : nm1.size ≤ maxLen) (h1 : Rd w sv1 rs1.length (trips rs1)) (w1 : ∀ z ∈ rs1, I64 z.1 ∧ I64 z.2.1 ∧ I64 z.2.2) :
    Calls Try.prog 14 #[.agg #[zv0, wv0, bv0], .agg #[.string nm1, sv1]] w (RetB (.bool true) w) :=
  lawSoundOf_h w zv0 wv0 bv0 zs0 ws0 bs0 hz0 hw0 hb0 nm1 sv1 rs1 hnm1 h1 ((sndI zs0 ws0 bs0 nm1 rs1).1.getD 0 0) ((sndI zs0 ws0 bs0 nm1 rs1).1.getD 1 0) ((sndI zs0 ws0 bs0 nm1 rs1).1.getD 2 0) ((sndI zs0 ws0 bs0 nm1 rs1).1.getD 3 0) ((sndI zs0 ws0 bs0 nm1 rs1).1.getD 4 0) _ (fun w' uz uw ub u1 hz hw hb h1 => specSoundOf_c uz uw ub zs0 ws0 bs0 nm1 u1 rs1 w' hz hw hb hnm1 h1) (fun w' uz uw ub u1 hz hw hb h1 => implSoundOf_c uz uw ub zs0 ws0 bs0 nm1 u1 rs1 w' hz hw hb hnm1 h1)

end Go.Proofs.Ytddkjcdnomoglaa
