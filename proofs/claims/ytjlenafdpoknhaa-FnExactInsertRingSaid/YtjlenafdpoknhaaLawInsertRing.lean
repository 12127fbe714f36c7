/- The law of InsertRing, walked. -/
import Derived.Test.YtjlenafdpoknhaaCutN
import Derived.Test.YtjlenafdpoknhaaGC
import Derived.Test.YtjlenafdpoknhaaInsS
namespace Go.Proofs.Ytjlenafdpoknhaa
set_option linter.unusedVariables false
open Go.RowKit Go.Proofs.Bell Go.BigFrame

set_option maxRecDepth 100000 in
set_option maxHeartbeats 3200000 in
theorem lawInsertRing_h (w : World) (nm0 : ByteArray) (sv0 : Value) (rs0 : List (Int × Int × Int)) (hnm0 : nm0.size ≤ maxLen) (h0 : Rd w sv0 rs0.length (trips rs0)) (a1 : Int) (o2a o2b o2c : Int) (qn0 : ByteArray) (q0 : List (Int × Int × Int)) (hq0 : q0.length ≤ 1000000) (t1 : Int)
    (hs : ∀ w' u0, Rd w' u0 rs0.length (trips rs0) → Calls Try.prog 14 #[.agg #[.string nm0, u0], .int .i64 a1, .agg #[.int .i64 o2a, .int .i64 o2b, .int .i64 o2c]] w' (RetP2 qn0 q0 (.int .i64 t1) w'))
    (hi : ∀ w' u0, Rd w' u0 rs0.length (trips rs0) → Calls Try.prog 16 #[.agg #[.string nm0, u0], .int .i64 a1, .agg #[.int .i64 o2a, .int .i64 o2b, .int .i64 o2c]] w' (RetP2 qn0 q0 (.int .i64 t1) w')) :
    Calls Try.prog 4 #[.agg #[.string nm0, sv0], .int .i64 a1, .agg #[.int .i64 o2a, .int .i64 o2b, .int .i64 o2c]] w (RetB (.bool true) w) := by
  have hnm0' := hnm0
  unfold maxLen at hnm0'
  by_cases hl0 : ((nm0.size : Int) + rs0.length) ≤ 1048576
  · skip
    have hz0' := fun w' (hb : Below w.heap.size w w') => szProfile_c nm0 sv0 rs0.length (trips rs0) (1048576) w' hnm0 (h0.later hb) (by omega) (by omega)
    rw [leftP_pos (by omega)] at hz0'
    have HZ0 := Lib.hid hz0'; clear hz0'
    have ht0 := fun w' (hb : Below w.heap.size w w') => toProfile_c nm0 sv0 rs0 w' (h0.later hb) (by omega)
    have he0 := fun w' x y (h1 : Rd w' x rs0.length (trips rs0)) (h2 : Rd w' y rs0.length (trips rs0)) => eqProfile_c nm0 nm0 x y rs0 rs0 w' h1 h2
    rw [eqPr_refl] at he0
    clear h0
    have HE0 := Lib.hid he0; clear he0
    have HT0 := Lib.hid ht0; clear ht0
    have ht2 := fun w' => toRing_c o2a o2b o2c w'
    have HT2 := Lib.hid ht2; clear ht2
    have heq := fun w' x y (h1 : Rd w' x q0.length (trips q0)) (h2 : Rd w' y q0.length (trips q0)) => eqProfile_c qn0 qn0 x y q0 q0 w' h1 h2
    rw [eqPr_refl] at heq
    have HEq := Lib.hid heq; clear heq
    have HS := Lib.hid hs; clear hs
    have HI := Lib.hid hi; clear hi
    go_enter Try.func4, Try.ntmps4
    have b0 : Below w.heap.size w w := Below.refl _ _
    have z0 : w.heap.size ≤ w.heap.size := Nat.le_refl _
    go_wp2_with fail
    refine (HZ0.out _ (by go_grown)).mono ?_
    rintro _ w1 ⟨rfl, r1⟩
    have s1 : Below w.heap.size w w1 := Below.trans (by go_grown) (r1.mono (by simp; try omega))
    have y1 := s1.size
    have v1 : w.heap.size + 2 ≤ w1.heap.size := by have := r1.size; simp only [World.size_alloc] at this; omega
    have b1 := b0.trans (s1.mono z0)
    have z1 := b1.size
    have c0_0_1 := below_cell r1 (p := ⟨w.heap.size, 0, none⟩) (v := .string nm0) (by simp [go_sem])
    have c0_1_1 := below_cell r1 (p := ⟨w.heap.size, 1, none⟩) (v := sv0) (by simp [go_sem])
    have c1_0_1 := below_cell r1 (p := ⟨w.heap.size + 1, 0, none⟩) (v := .int .i64 o2a) (by simp [go_sem])
    have c1_1_1 := below_cell r1 (p := ⟨w.heap.size + 1, 1, none⟩) (v := .int .i64 o2b) (by simp [go_sem])
    have c1_2_1 := below_cell r1 (p := ⟨w.heap.size + 1, 2, none⟩) (v := .int .i64 o2c) (by simp [go_sem])
    clear r1
    have al0_0_1 := fun o => alloc_cell o c0_0_1
    have al0_1_1 := fun o => alloc_cell o c0_1_1
    have al1_0_1 := fun o => alloc_cell o c1_0_1
    have al1_1_1 := fun o => alloc_cell o c1_1_1
    have al1_2_1 := fun o => alloc_cell o c1_2_1
    have htd0 : ∀ w', Below w1.heap.size w1 w' → Calls Try.prog 9 #[.agg #[.string nm0, sv0]] w' (fun e w'' => ∃ u0, e = .returned (.agg #[.string nm0, u0]) ∧ (Rd w'' u0 rs0.length (trips rs0)) ∧ Below w'.heap.size w' w'' ∧ Below w1.heap.size w1 w'') := fun w' hb => (HT0.out w' (b1.trans (hb.mono z1))).mono fun _ _ ⟨v, e, o, b⟩ => ⟨v, e, Rd.of_own o, b, hb.trans (b.mono hb.size)⟩
    have HTD0 := Lib.hid htd0; clear htd0
    have htd1 : ∀ w', Below w1.heap.size w1 w' → Calls Try.prog 15 #[.agg #[.int .i64 o2a, .int .i64 o2b, .int .i64 o2c]] w' (fun e w'' => e = .returned (.agg #[.int .i64 o2a, .int .i64 o2b, .int .i64 o2c]) ∧ (True) ∧ Below w'.heap.size w' w'' ∧ Below w1.heap.size w1 w'') := fun w' hb => (HT2.out w').mono fun _ _ ⟨e, b⟩ => ⟨e, trivial, b, hb.trans (b.mono hb.size)⟩
    have HTD1 := Lib.hid htd1; clear htd1
    go_upto_region 5 with fail
    go_cut [8, 9] from 23 to 31 (fun s6 s7 wx => CutN qn0 q0 t1 w1 s6 s7 wx)
    case first =>
      go_region_held3 (fun w' => w'.cell? ⟨w.heap.size, 0, none⟩ = some (.string nm0) ∧ w'.cell? ⟨w.heap.size, 1, none⟩ = some (sv0) ∧ w'.cell? ⟨w.heap.size + 1, 0, none⟩ = some (.int .i64 o2a) ∧ w'.cell? ⟨w.heap.size + 1, 1, none⟩ = some (.int .i64 o2b) ∧ w'.cell? ⟨w.heap.size + 1, 2, none⟩ = some (.int .i64 o2c)) (first | with_reducible exact ⟨c0_0_1, c0_1_1, c1_0_1, c1_1_1, c1_2_1⟩ | with_reducible exact ⟨alloc_cell _ c0_0_1, alloc_cell _ c0_1_1, alloc_cell _ c1_0_1, alloc_cell _ c1_1_1, alloc_cell _ c1_2_1⟩ | with_reducible exact ⟨below_cell s9 c0_0_1, below_cell s9 c0_1_1, below_cell s9 c1_0_1, below_cell s9 c1_1_1, below_cell s9 c1_2_1⟩ | with_reducible exact ⟨alloc_cell _ (below_cell s9 c0_0_1), alloc_cell _ (below_cell s9 c0_1_1), alloc_cell _ (below_cell s9 c1_0_1), alloc_cell _ (below_cell s9 c1_1_1), alloc_cell _ (below_cell s9 c1_2_1)⟩ | with_reducible exact ⟨BX.keep (below_cell s9 c0_0_1) (World.block_lt_of_cell? _ _ c0_0_1) _ _, BX.keep (below_cell s9 c0_1_1) (World.block_lt_of_cell? _ _ c0_1_1) _ _, BX.keep (below_cell s9 c1_0_1) (World.block_lt_of_cell? _ _ c1_0_1) _ _, BX.keep (below_cell s9 c1_1_1) (World.block_lt_of_cell? _ _ c1_1_1) _ _, BX.keep (below_cell s9 c1_2_1) (World.block_lt_of_cell? _ _ c1_2_1) _ _⟩ | with_reducible exact ⟨below_cell BD1.out c0_0_1, below_cell BD1.out c0_1_1, below_cell BD1.out c1_0_1, below_cell BD1.out c1_1_1, below_cell BD1.out c1_2_1⟩ | with_reducible exact ⟨alloc_cell _ (below_cell BD1.out c0_0_1), alloc_cell _ (below_cell BD1.out c0_1_1), alloc_cell _ (below_cell BD1.out c1_0_1), alloc_cell _ (below_cell BD1.out c1_1_1), alloc_cell _ (below_cell BD1.out c1_2_1)⟩ | with_reducible exact ⟨below_cell BD0.out c0_0_1, below_cell BD0.out c0_1_1, below_cell BD0.out c1_0_1, below_cell BD0.out c1_1_1, below_cell BD0.out c1_2_1⟩ | with_reducible exact ⟨alloc_cell _ (below_cell BD0.out c0_0_1), alloc_cell _ (below_cell BD0.out c0_1_1), alloc_cell _ (below_cell BD0.out c1_0_1), alloc_cell _ (below_cell BD0.out c1_1_1), alloc_cell _ (below_cell BD0.out c1_2_1)⟩ | go_keep) (first | (go_at_call 14; (first | (with_reducible refine (HS.out _ _ OD0_1.out).mono ?_) | (with_reducible refine (HS.out _ _ (OD0_1.out.later (below_alloc _ _))).mono ?_)); rintro _ w2 ⟨x9, rfl, n9, rd9⟩; obtain ⟨ax9, cx9, rfl⟩ := own_shape n9; have N9 := Lib.hid n9; clear n9; (first | (with_reducible have s9 := BD1.out.trans (rd9.mono BD1.out.size)) | (with_reducible have s9 := (below_alloced BD1.out BD1.out.size _).trans (rd9.mono (below_alloced BD1.out BD1.out.size _).size))); have lo9 := BD1.out.size; have lo8 := fun o => Nat.le_trans lo9 (below_alloc wd1 o).size; (first | (have hbl := BX.lt; with_reducible have BX := BoxP.later BX rd9; have hbl9 := hbl) | (with_reducible have BX := BoxP.after (B := w1.heap.size) rd9 lo9; have hbl9 := lt_alloc wd1) | skip); (first | (have bf9 := BX.f; have bc0 := BX.c0; have bc1 := BX.c1) | skip)) | (have _gd := BD0; go_at_call 15; (with_reducible refine (HTD1.out _ (by first | exact BD0.out | exact below_alloced BD0.out BD0.out.size _ | go_grown)).mono ?_); rintro _ wd1 ⟨rfl, od1_1, qd1, bd1⟩; have OD1_1 := Lib.hid od1_1; clear od1_1; have BD1 := Lib.hid bd1; clear bd1; (first | (with_reducible have BX := BoxP.later BX qd1) | (with_reducible have BX := BoxP.after (B := w1.heap.size) qd1 BD0.out.size) | (with_reducible have BX := BoxP.afterD (B := w1.heap.size) qd1 BD0.out.size) | skip); (first | (with_reducible have qq1 : Below wd0.heap.size wd0 wd1 := qd1) | (with_reducible have qq1 : Below wd0.heap.size wd0 wd1 := below_of_alloc qd1)); have QD1 := Lib.hid qq1; clear qq1; clear qd1; have od0_1 := OD0_0.out.later QD1.out; have OD0_1 := Lib.hid od0_1; clear od0_1) | (go_at_call 9; (with_reducible refine (HTD0.out _ (by go_grown)).mono ?_); rintro _ wd0 ⟨u0, rfl, od0_0, qd0, bd0⟩; have OD0_0 := Lib.hid od0_0; clear od0_0; have BD0 := Lib.hid bd0; clear bd0; (first | (with_reducible have BX := BoxP.later BX qd0) | (with_reducible have BX := BoxP.after (B := w1.heap.size) qd0 (Nat.le_refl _)) | (with_reducible have BX := BoxP.afterD (B := w1.heap.size) qd0 (Nat.le_refl _)) | skip); clear qd0))
      all_goals (go_wp2_with fail; go_meet; first | exact CutN.mk s9 N9.out lo9 | exact CutN.mk s9 N9.out (lo8 _) | exact CutN.set BX s9 N9.out hbl9 lo9 | exact CutN.set BX s9 N9.out (hbl9 _) (lo8 _))
    case rest =>
    obtain ⟨bx2, ao1, cap1, rfl, rfl, hbl2, hbt2, c2_0_2, c2_1_2, n1, s2, NE2⟩ := hcut
    generalize wc = w2 at *
    clear HTD0 HTD1
    have y2 := s2.size
    have b2 := b1.trans (s2.mono z1)
    have z2 := b2.size
    have c0_0_2 := below_cell s2 c0_0_1
    clear c0_0_1
    have c0_1_2 := below_cell s2 c0_1_1
    clear c0_1_1
    have c1_0_2 := below_cell s2 c1_0_1
    clear c1_0_1
    have c1_1_2 := below_cell s2 c1_1_1
    clear c1_1_1
    have c1_2_2 := below_cell s2 c1_2_1
    clear c1_2_1
    clear al0_0_1
    clear al0_1_1
    clear al1_0_1
    clear al1_1_1
    clear al1_2_1
    have al0_0_2 := fun o => alloc_cell o c0_0_2
    have al0_1_2 := fun o => alloc_cell o c0_1_2
    have al1_0_2 := fun o => alloc_cell o c1_0_2
    have al1_1_2 := fun o => alloc_cell o c1_1_2
    have al1_2_2 := fun o => alloc_cell o c1_2_2
    have up1 := fun k hk => (World.ownsRow.lt n1 k hk).2
    have lo1 := fun k hk => (World.ownsRow.lt n1 k hk).1
    have UP1 := Lib.hid up1; clear up1
    have LO1 := Lib.hid lo1; clear lo1
    have O1_2 := Lib.hid n1; clear n1
    go_wp2_with fail
    refine (HT0.out _ b2).mono ?_
    rintro _ w3 ⟨x2, rfl, n2, r3⟩
    have s3 := r3
    have y3 := s3.size
    have b3 := b2.trans (s3.mono z2)
    have z3 := b3.size
    have c0_0_3 := below_cell s3 c0_0_2
    clear c0_0_2
    have c0_1_3 := below_cell s3 c0_1_2
    clear c0_1_2
    have c1_0_3 := below_cell s3 c1_0_2
    clear c1_0_2
    have c1_1_3 := below_cell s3 c1_1_2
    clear c1_1_2
    have c1_2_3 := below_cell s3 c1_2_2
    clear c1_2_2
    have c2_0_3 := below_cell s3 c2_0_2
    clear c2_0_2
    have c2_1_3 := below_cell s3 c2_1_2
    clear c2_1_2
    have o1_3 := own_later O1_2.out s3
    have O1_3 := Lib.hid o1_3; clear o1_3
    clear al0_0_2
    clear al0_1_2
    clear al1_0_2
    clear al1_1_2
    clear al1_2_2
    have al0_0_3 := fun o => alloc_cell o c0_0_3
    have al0_1_3 := fun o => alloc_cell o c0_1_3
    have al1_0_3 := fun o => alloc_cell o c1_0_3
    have al1_1_3 := fun o => alloc_cell o c1_1_3
    have al1_2_3 := fun o => alloc_cell o c1_2_3
    have al2_0_3 := fun o => alloc_cell o c2_0_3
    have al2_1_3 := fun o => alloc_cell o c2_1_3
    obtain ⟨ao2, cap2, g2, rfl, _, _⟩ := own_open n2
    have up2 := fun k hk => (World.ownsRow.lt n2 k hk).2
    have lo2 := fun k hk => (World.ownsRow.lt n2 k hk).1
    try simp only [World.size_alloc] at lo2
    have UP2 := Lib.hid up2; clear up2
    have LO2 := Lib.hid lo2; clear lo2
    have o2' := n2
    have O2_3 := Lib.hid o2'; clear o2'
    clear n2
    go_upto_region 7 with fail
    obtain ⟨w4, hwq⟩ : ∃ x, x = w3.alloc (.cells #[.string nm0, .slice ao2 rs0.length cap2] 28) := ⟨_, rfl⟩
    rw [← hwq]
    have r4 : Below (w3.alloc (.cells #[.string nm0, .slice ao2 rs0.length cap2] 28)).heap.size (w3.alloc (.cells #[.string nm0, .slice ao2 rs0.length cap2] 28)) w4 := by rw [hwq]; exact Below.refl _ _
    clear hwq
    have s4 : Below w3.heap.size w3 w4 := Below.trans (by go_grown) (r4.mono (by simp; try omega))
    have y4 := s4.size
    have v4 : w3.heap.size + 1 ≤ w4.heap.size := by have := r4.size; simp only [World.size_alloc] at this; omega
    have b4 := b3.trans (s4.mono z3)
    have z4 := b4.size
    have c0_0_4 := below_cell s4 c0_0_3
    clear c0_0_3
    have c0_1_4 := below_cell s4 c0_1_3
    clear c0_1_3
    have c1_0_4 := below_cell s4 c1_0_3
    clear c1_0_3
    have c1_1_4 := below_cell s4 c1_1_3
    clear c1_1_3
    have c1_2_4 := below_cell s4 c1_2_3
    clear c1_2_3
    have c2_0_4 := below_cell s4 c2_0_3
    clear c2_0_3
    have c2_1_4 := below_cell s4 c2_1_3
    clear c2_1_3
    have c3_0_4 := below_cell r4 (p := ⟨w3.heap.size, 0, none⟩) (v := .string nm0) (by simp [go_sem])
    have c3_1_4 := below_cell r4 (p := ⟨w3.heap.size, 1, none⟩) (v := .slice ao2 rs0.length cap2) (by simp [go_sem])
    have o1_4 := own_later O1_3.out s4
    have O1_4 := Lib.hid o1_4; clear o1_4
    have o2_4 := own_later O2_3.out s4
    have O2_4 := Lib.hid o2_4; clear o2_4
    clear r4
    clear al0_0_3
    clear al0_1_3
    clear al1_0_3
    clear al1_1_3
    clear al1_2_3
    clear al2_0_3
    clear al2_1_3
    have al0_0_4 := fun o => alloc_cell o c0_0_4
    have al0_1_4 := fun o => alloc_cell o c0_1_4
    have al1_0_4 := fun o => alloc_cell o c1_0_4
    have al1_1_4 := fun o => alloc_cell o c1_1_4
    have al1_2_4 := fun o => alloc_cell o c1_2_4
    have al2_0_4 := fun o => alloc_cell o c2_0_4
    have al2_1_4 := fun o => alloc_cell o c2_1_4
    have al3_0_4 := fun o => alloc_cell o c3_0_4
    have al3_1_4 := fun o => alloc_cell o c3_1_4
    have htd0 : ∀ w', Below w4.heap.size w4 w' → Calls Try.prog 15 #[.agg #[.int .i64 o2a, .int .i64 o2b, .int .i64 o2c]] w' (fun e w'' => e = .returned (.agg #[.int .i64 o2a, .int .i64 o2b, .int .i64 o2c]) ∧ (True) ∧ Below w'.heap.size w' w'' ∧ Below w4.heap.size w4 w'') := fun w' hb => (HT2.out w').mono fun _ _ ⟨e, b⟩ => ⟨e, trivial, b, hb.trans (b.mono hb.size)⟩
    have HTD0 := Lib.hid htd0; clear htd0
    go_upto_region 7 with fail
    go_cut [11, 12] from 34 to 41 (fun s6 s7 wx => CutN qn0 q0 t1 w4 s6 s7 wx)
    case first =>
      go_region_held3 (fun w' => w'.cell? ⟨w3.heap.size, 0, none⟩ = some (.string nm0) ∧ w'.cell? ⟨w3.heap.size, 1, none⟩ = some (.slice ao2 rs0.length cap2) ∧ w'.cell? ⟨w.heap.size + 1, 0, none⟩ = some (.int .i64 o2a) ∧ w'.cell? ⟨w.heap.size + 1, 1, none⟩ = some (.int .i64 o2b) ∧ w'.cell? ⟨w.heap.size + 1, 2, none⟩ = some (.int .i64 o2c)) (first | with_reducible exact ⟨c3_0_4, c3_1_4, c1_0_4, c1_1_4, c1_2_4⟩ | with_reducible exact ⟨alloc_cell _ c3_0_4, alloc_cell _ c3_1_4, alloc_cell _ c1_0_4, alloc_cell _ c1_1_4, alloc_cell _ c1_2_4⟩ | with_reducible exact ⟨below_cell s9 c3_0_4, below_cell s9 c3_1_4, below_cell s9 c1_0_4, below_cell s9 c1_1_4, below_cell s9 c1_2_4⟩ | with_reducible exact ⟨alloc_cell _ (below_cell s9 c3_0_4), alloc_cell _ (below_cell s9 c3_1_4), alloc_cell _ (below_cell s9 c1_0_4), alloc_cell _ (below_cell s9 c1_1_4), alloc_cell _ (below_cell s9 c1_2_4)⟩ | with_reducible exact ⟨BX.keep (below_cell s9 c3_0_4) (World.block_lt_of_cell? _ _ c3_0_4) _ _, BX.keep (below_cell s9 c3_1_4) (World.block_lt_of_cell? _ _ c3_1_4) _ _, BX.keep (below_cell s9 c1_0_4) (World.block_lt_of_cell? _ _ c1_0_4) _ _, BX.keep (below_cell s9 c1_1_4) (World.block_lt_of_cell? _ _ c1_1_4) _ _, BX.keep (below_cell s9 c1_2_4) (World.block_lt_of_cell? _ _ c1_2_4) _ _⟩ | with_reducible exact ⟨below_cell BD0.out c3_0_4, below_cell BD0.out c3_1_4, below_cell BD0.out c1_0_4, below_cell BD0.out c1_1_4, below_cell BD0.out c1_2_4⟩ | with_reducible exact ⟨alloc_cell _ (below_cell BD0.out c3_0_4), alloc_cell _ (below_cell BD0.out c3_1_4), alloc_cell _ (below_cell BD0.out c1_0_4), alloc_cell _ (below_cell BD0.out c1_1_4), alloc_cell _ (below_cell BD0.out c1_2_4)⟩ | go_keep) (first | (go_at_call 16; (first | (with_reducible refine (HI.out _ _ ((Rd.of_own O2_4.out).later BD0.out)).mono ?_) | (with_reducible refine (HI.out _ _ (((Rd.of_own O2_4.out).later BD0.out).later (below_alloc _ _))).mono ?_)); rintro _ w5 ⟨x9, rfl, n9, rd9⟩; obtain ⟨ax9, cx9, rfl⟩ := own_shape n9; have N9 := Lib.hid n9; clear n9; (first | (with_reducible have s9 := BD0.out.trans (rd9.mono BD0.out.size)) | (with_reducible have s9 := (below_alloced BD0.out BD0.out.size _).trans (rd9.mono (below_alloced BD0.out BD0.out.size _).size))); have lo9 := BD0.out.size; have lo8 := fun o => Nat.le_trans lo9 (below_alloc wd0 o).size; (first | (have hbl := BX.lt; with_reducible have BX := BoxP.later BX rd9; have hbl9 := hbl) | (with_reducible have BX := BoxP.after (B := w4.heap.size) rd9 lo9; have hbl9 := lt_alloc wd0) | skip); (first | (have bf9 := BX.f; have bc0 := BX.c0; have bc1 := BX.c1) | skip)) | (go_at_call 15; (with_reducible refine (HTD0.out _ (by go_grown)).mono ?_); rintro _ wd0 ⟨rfl, od0_0, qd0, bd0⟩; have OD0_0 := Lib.hid od0_0; clear od0_0; have BD0 := Lib.hid bd0; clear bd0; (first | (with_reducible have BX := BoxP.later BX qd0) | (with_reducible have BX := BoxP.after (B := w4.heap.size) qd0 (Nat.le_refl _)) | (with_reducible have BX := BoxP.afterD (B := w4.heap.size) qd0 (Nat.le_refl _)) | skip); clear qd0))
      all_goals (go_wp2_with fail; go_meet; first | exact CutN.mk s9 N9.out lo9 | exact CutN.mk s9 N9.out (lo8 _) | exact CutN.set BX s9 N9.out hbl9 lo9 | exact CutN.set BX s9 N9.out (hbl9 _) (lo8 _))
    case rest =>
    obtain ⟨bx5, ao3, cap3, rfl, rfl, hbl5, hbt5, c4_0_5, c4_1_5, n3, s5, NE5⟩ := hcut
    generalize wc = w5 at *
    clear HTD0
    have y5 := s5.size
    have b5 := b4.trans (s5.mono z4)
    have z5 := b5.size
    have c0_0_5 := below_cell s5 c0_0_4
    clear c0_0_4
    have c0_1_5 := below_cell s5 c0_1_4
    clear c0_1_4
    have c1_0_5 := below_cell s5 c1_0_4
    clear c1_0_4
    have c1_1_5 := below_cell s5 c1_1_4
    clear c1_1_4
    have c1_2_5 := below_cell s5 c1_2_4
    clear c1_2_4
    have c2_0_5 := below_cell s5 c2_0_4
    clear c2_0_4
    have c2_1_5 := below_cell s5 c2_1_4
    clear c2_1_4
    have c3_0_5 := below_cell s5 c3_0_4
    clear c3_0_4
    have c3_1_5 := below_cell s5 c3_1_4
    clear c3_1_4
    have o1_5 := own_later O1_4.out s5
    have O1_5 := Lib.hid o1_5; clear o1_5
    have o2_5 := own_later O2_4.out s5
    have O2_5 := Lib.hid o2_5; clear o2_5
    clear al0_0_4
    clear al0_1_4
    clear al1_0_4
    clear al1_1_4
    clear al1_2_4
    clear al2_0_4
    clear al2_1_4
    clear al3_0_4
    clear al3_1_4
    have al0_0_5 := fun o => alloc_cell o c0_0_5
    have al0_1_5 := fun o => alloc_cell o c0_1_5
    have al1_0_5 := fun o => alloc_cell o c1_0_5
    have al1_1_5 := fun o => alloc_cell o c1_1_5
    have al1_2_5 := fun o => alloc_cell o c1_2_5
    have al2_0_5 := fun o => alloc_cell o c2_0_5
    have al2_1_5 := fun o => alloc_cell o c2_1_5
    have al3_0_5 := fun o => alloc_cell o c3_0_5
    have al3_1_5 := fun o => alloc_cell o c3_1_5
    have up3 := fun k hk => (World.ownsRow.lt n3 k hk).2
    have lo3 := fun k hk => (World.ownsRow.lt n3 k hk).1
    have UP3 := Lib.hid up3; clear up3
    have LO3 := Lib.hid lo3; clear lo3
    have O3_5 := Lib.hid n3; clear n3
    go_wp2_with fail
    refine (HEq.out _ _ _ (Rd.of_own O3_5.out) (Rd.of_own O1_5.out)).mono ?_
    rintro _ w6 ⟨rfl, r6⟩
    have s6 := r6
    have y6 := s6.size
    have b6 := b5.trans (s6.mono z5)
    have z6 := b6.size
    have c0_0_6 := below_cell s6 c0_0_5
    clear c0_0_5
    have c0_1_6 := below_cell s6 c0_1_5
    clear c0_1_5
    have c1_0_6 := below_cell s6 c1_0_5
    clear c1_0_5
    have c1_1_6 := below_cell s6 c1_1_5
    clear c1_1_5
    have c1_2_6 := below_cell s6 c1_2_5
    clear c1_2_5
    have c2_0_6 := below_cell s6 c2_0_5
    clear c2_0_5
    have c2_1_6 := below_cell s6 c2_1_5
    clear c2_1_5
    have c3_0_6 := below_cell s6 c3_0_5
    clear c3_0_5
    have c3_1_6 := below_cell s6 c3_1_5
    clear c3_1_5
    have c4_0_6 := below_cell s6 c4_0_5
    clear c4_0_5
    have c4_1_6 := below_cell s6 c4_1_5
    clear c4_1_5
    have o1_6 := own_later O1_5.out s6
    have O1_6 := Lib.hid o1_6; clear o1_6
    have o2_6 := own_later O2_5.out s6
    have O2_6 := Lib.hid o2_6; clear o2_6
    have o3_6 := own_later O3_5.out s6
    have O3_6 := Lib.hid o3_6; clear o3_6
    clear al0_0_5
    clear al0_1_5
    clear al1_0_5
    clear al1_1_5
    clear al1_2_5
    clear al2_0_5
    clear al2_1_5
    clear al3_0_5
    clear al3_1_5
    have al0_0_6 := fun o => alloc_cell o c0_0_6
    have al0_1_6 := fun o => alloc_cell o c0_1_6
    have al1_0_6 := fun o => alloc_cell o c1_0_6
    have al1_1_6 := fun o => alloc_cell o c1_1_6
    have al1_2_6 := fun o => alloc_cell o c1_2_6
    have al2_0_6 := fun o => alloc_cell o c2_0_6
    have al2_1_6 := fun o => alloc_cell o c2_1_6
    have al3_0_6 := fun o => alloc_cell o c3_0_6
    have al3_1_6 := fun o => alloc_cell o c3_1_6
    have al4_0_6 := fun o => alloc_cell o c4_0_6
    have al4_1_6 := fun o => alloc_cell o c4_1_6
    go_wp2_with fail
    have ht5 : ∀ w', Below w6.heap.size w6 w' → Calls Try.prog 9 #[.agg #[.string nm0, sv0]] w' (fun e w'' => ∃ u, e = .returned (.agg #[.string nm0, u]) ∧ (OwnR w'.heap.size w'' u rs0 ∧ Below w6.heap.size w6 w'')) := fun w' hb => (HT0.out w' (b6.trans (hb.mono z6))).mono fun _ _ ⟨v, e, o, b⟩ => ⟨v, e, o, hb.trans (b.mono hb.size)⟩
    have he5 : ∀ B w' u, OwnR B w' u rs0 ∧ Below w6.heap.size w6 w' → Calls Try.prog 11 #[.agg #[.string nm0, .slice ao2 rs0.length cap2], .agg #[.string nm0, u]] w' (fun e w'' => e = .returned (.bool true) ∧ Below w6.heap.size w6 w'') := fun B w' v ⟨o, hb⟩ => (HE0.out w' _ _ (Rd.of_own (own_later O2_6.out hb)) (Rd.of_own o)).mono fun _ _ ⟨e, b⟩ => ⟨e, hb.trans (b.mono hb.size)⟩
    have HT5 := Lib.hid ht5; clear ht5
    have HE5 := Lib.hid he5; clear he5
    go_region_held3 (fun w' => w'.cell? ⟨w.heap.size, 0, none⟩ = some (.string nm0) ∧ w'.cell? ⟨w.heap.size, 1, none⟩ = some (sv0) ∧ w'.cell? ⟨w3.heap.size, 0, none⟩ = some (.string nm0) ∧ w'.cell? ⟨w3.heap.size, 1, none⟩ = some (.slice ao2 rs0.length cap2)) (first | exact ⟨c0_0_6, c0_1_6, c3_0_6, c3_1_6⟩ | exact ⟨below_cell O6.out.2 c0_0_6, below_cell O6.out.2 c0_1_6, below_cell O6.out.2 c3_0_6, below_cell O6.out.2 c3_1_6⟩ | exact ⟨below_cell s7 c0_0_6, below_cell s7 c0_1_6, below_cell s7 c3_0_6, below_cell s7 c3_1_6⟩ | go_keep) (first | (go_at_call 9; refine (HT5.out _ (by go_grown)).mono ?_; rintro _ ww6 ⟨vv6, rfl, o6⟩; have O6 := Lib.hid o6; clear o6) | (go_at_call 11; refine (HE5.out _ _ _ (by assumption)).mono ?_; rintro _ w7 ⟨rfl, s7⟩))
    clear HT5 HE5
    have y7 := s7.size
    have b7 := b6.trans (s7.mono z6)
    have z7 := b7.size
    have c0_0_7 := below_cell s7 c0_0_6
    clear c0_0_6
    have c0_1_7 := below_cell s7 c0_1_6
    clear c0_1_6
    have c1_0_7 := below_cell s7 c1_0_6
    clear c1_0_6
    have c1_1_7 := below_cell s7 c1_1_6
    clear c1_1_6
    have c1_2_7 := below_cell s7 c1_2_6
    clear c1_2_6
    have c2_0_7 := below_cell s7 c2_0_6
    clear c2_0_6
    have c2_1_7 := below_cell s7 c2_1_6
    clear c2_1_6
    have c3_0_7 := below_cell s7 c3_0_6
    clear c3_0_6
    have c3_1_7 := below_cell s7 c3_1_6
    clear c3_1_6
    have c4_0_7 := below_cell s7 c4_0_6
    clear c4_0_6
    have c4_1_7 := below_cell s7 c4_1_6
    clear c4_1_6
    have o1_7 := own_later O1_6.out s7
    have O1_7 := Lib.hid o1_7; clear o1_7
    have o2_7 := own_later O2_6.out s7
    have O2_7 := Lib.hid o2_7; clear o2_7
    have o3_7 := own_later O3_6.out s7
    have O3_7 := Lib.hid o3_7; clear o3_7
    clear al0_0_6
    clear al0_1_6
    clear al1_0_6
    clear al1_1_6
    clear al1_2_6
    clear al2_0_6
    clear al2_1_6
    clear al3_0_6
    clear al3_1_6
    clear al4_0_6
    clear al4_1_6
    have al0_0_7 := fun o => alloc_cell o c0_0_7
    have al0_1_7 := fun o => alloc_cell o c0_1_7
    have al1_0_7 := fun o => alloc_cell o c1_0_7
    have al1_1_7 := fun o => alloc_cell o c1_1_7
    have al1_2_7 := fun o => alloc_cell o c1_2_7
    have al2_0_7 := fun o => alloc_cell o c2_0_7
    have al2_1_7 := fun o => alloc_cell o c2_1_7
    have al3_0_7 := fun o => alloc_cell o c3_0_7
    have al3_1_7 := fun o => alloc_cell o c3_1_7
    have al4_0_7 := fun o => alloc_cell o c4_0_7
    have al4_1_7 := fun o => alloc_cell o c4_1_7
    go_wp2_with fail
    refine (markProfile_c _ _ _ _ _ _ _ O2_7.out (by omega) (by omega) (by omega)).mono ?_
    rintro _ w8 ⟨rfl, m8, q8⟩
    have y8 := q8.size
    have b8 := Only.below b7 q8 z7 (fun b hS => by have := LO2.out b hS; omega)
    have z8 := b8.size
    have c0_0_8 := cell_only q8 c0_0_7 (fun hS => by have h1 : _ ≤ w.heap.size := LO2.out _ hS; have h2 : w.heap.size < _ := UP2.out _ hS; omega)
    clear c0_0_7
    have c0_1_8 := cell_only q8 c0_1_7 (fun hS => by have h1 : _ ≤ w.heap.size := LO2.out _ hS; have h2 : w.heap.size < _ := UP2.out _ hS; omega)
    clear c0_1_7
    have c1_0_8 := cell_only q8 c1_0_7 (fun hS => by have h1 : _ ≤ w.heap.size + 1 := LO2.out _ hS; have h2 : w.heap.size + 1 < _ := UP2.out _ hS; omega)
    clear c1_0_7
    have c1_1_8 := cell_only q8 c1_1_7 (fun hS => by have h1 : _ ≤ w.heap.size + 1 := LO2.out _ hS; have h2 : w.heap.size + 1 < _ := UP2.out _ hS; omega)
    clear c1_1_7
    have c1_2_8 := cell_only q8 c1_2_7 (fun hS => by have h1 : _ ≤ w.heap.size + 1 := LO2.out _ hS; have h2 : w.heap.size + 1 < _ := UP2.out _ hS; omega)
    clear c1_2_7
    have c2_0_8 := cell_only q8 c2_0_7 (fun hS => by have h1 : _ ≤ bx2 := LO2.out _ hS; have h2 : bx2 < _ := UP2.out _ hS; omega)
    clear c2_0_7
    have c2_1_8 := cell_only q8 c2_1_7 (fun hS => by have h1 : _ ≤ bx2 := LO2.out _ hS; have h2 : bx2 < _ := UP2.out _ hS; omega)
    clear c2_1_7
    have c3_0_8 := cell_only q8 c3_0_7 (fun hS => by have h1 : _ ≤ w3.heap.size := LO2.out _ hS; have h2 : w3.heap.size < _ := UP2.out _ hS; omega)
    clear c3_0_7
    have c3_1_8 := cell_only q8 c3_1_7 (fun hS => by have h1 : _ ≤ w3.heap.size := LO2.out _ hS; have h2 : w3.heap.size < _ := UP2.out _ hS; omega)
    clear c3_1_7
    have c4_0_8 := cell_only q8 c4_0_7 (fun hS => by have h1 : _ ≤ bx5 := LO2.out _ hS; have h2 : bx5 < _ := UP2.out _ hS; omega)
    clear c4_0_7
    have c4_1_8 := cell_only q8 c4_1_7 (fun hS => by have h1 : _ ≤ bx5 := LO2.out _ hS; have h2 : bx5 < _ := UP2.out _ hS; omega)
    clear c4_1_7
    have o1_8 := own_only O1_7.out q8 (fun k hk hS => by have := LO2.out _ hS; have := UP2.out _ hS; have := LO1.out _ hk; have := UP1.out _ hk; omega)
    have O1_8 := Lib.hid o1_8; clear o1_8
    have o3_8 := own_only O3_7.out q8 (fun k hk hS => by have := LO2.out _ hS; have := UP2.out _ hS; have := LO3.out _ hk; have := UP3.out _ hk; omega)
    have O3_8 := Lib.hid o3_8; clear o3_8
    have O2_8 := Lib.hid m8; clear m8
    go_wp2_with fail
    refine (HEq.out _ _ _ (Rd.of_own O3_8.out) (Rd.of_own O1_8.out)).mono ?_
    rintro _ w9 ⟨rfl, r9⟩
    have s9 := r9
    have y9 := s9.size
    have b9 := b8.trans (s9.mono z8)
    have z9 := b9.size
    have c0_0_9 := below_cell s9 c0_0_8
    clear c0_0_8
    have c0_1_9 := below_cell s9 c0_1_8
    clear c0_1_8
    have c1_0_9 := below_cell s9 c1_0_8
    clear c1_0_8
    have c1_1_9 := below_cell s9 c1_1_8
    clear c1_1_8
    have c1_2_9 := below_cell s9 c1_2_8
    clear c1_2_8
    have c2_0_9 := below_cell s9 c2_0_8
    clear c2_0_8
    have c2_1_9 := below_cell s9 c2_1_8
    clear c2_1_8
    have c3_0_9 := below_cell s9 c3_0_8
    clear c3_0_8
    have c3_1_9 := below_cell s9 c3_1_8
    clear c3_1_8
    have c4_0_9 := below_cell s9 c4_0_8
    clear c4_0_8
    have c4_1_9 := below_cell s9 c4_1_8
    clear c4_1_8
    have o1_9 := own_later O1_8.out s9
    have O1_9 := Lib.hid o1_9; clear o1_9
    have o2_9 := own_later O2_8.out s9
    have O2_9 := Lib.hid o2_9; clear o2_9
    have o3_9 := own_later O3_8.out s9
    have O3_9 := Lib.hid o3_9; clear o3_9
    clear al0_0_7
    clear al0_1_7
    clear al1_0_7
    clear al1_1_7
    clear al1_2_7
    clear al2_0_7
    clear al2_1_7
    clear al3_0_7
    clear al3_1_7
    clear al4_0_7
    clear al4_1_7
    have al0_0_9 := fun o => alloc_cell o c0_0_9
    have al0_1_9 := fun o => alloc_cell o c0_1_9
    have al1_0_9 := fun o => alloc_cell o c1_0_9
    have al1_1_9 := fun o => alloc_cell o c1_1_9
    have al1_2_9 := fun o => alloc_cell o c1_2_9
    have al2_0_9 := fun o => alloc_cell o c2_0_9
    have al2_1_9 := fun o => alloc_cell o c2_1_9
    have al3_0_9 := fun o => alloc_cell o c3_0_9
    have al3_1_9 := fun o => alloc_cell o c3_1_9
    have al4_0_9 := fun o => alloc_cell o c4_0_9
    have al4_1_9 := fun o => alloc_cell o c4_1_9
    go_wp2_with fail
    refine (markProfile_c _ _ _ _ _ _ _ O3_9.out (by omega) (by omega) (by omega)).mono ?_
    rintro _ w10 ⟨rfl, m10, q10⟩
    have y10 := q10.size
    have b10 := Only.below b9 q10 z9 (fun b hS => by have := LO3.out b hS; omega)
    have z10 := b10.size
    have c0_0_10 := cell_only q10 c0_0_9 (fun hS => by have h1 : _ ≤ w.heap.size := LO3.out _ hS; have h2 : w.heap.size < _ := UP3.out _ hS; omega)
    clear c0_0_9
    have c0_1_10 := cell_only q10 c0_1_9 (fun hS => by have h1 : _ ≤ w.heap.size := LO3.out _ hS; have h2 : w.heap.size < _ := UP3.out _ hS; omega)
    clear c0_1_9
    have c1_0_10 := cell_only q10 c1_0_9 (fun hS => by have h1 : _ ≤ w.heap.size + 1 := LO3.out _ hS; have h2 : w.heap.size + 1 < _ := UP3.out _ hS; omega)
    clear c1_0_9
    have c1_1_10 := cell_only q10 c1_1_9 (fun hS => by have h1 : _ ≤ w.heap.size + 1 := LO3.out _ hS; have h2 : w.heap.size + 1 < _ := UP3.out _ hS; omega)
    clear c1_1_9
    have c1_2_10 := cell_only q10 c1_2_9 (fun hS => by have h1 : _ ≤ w.heap.size + 1 := LO3.out _ hS; have h2 : w.heap.size + 1 < _ := UP3.out _ hS; omega)
    clear c1_2_9
    have c2_0_10 := cell_only q10 c2_0_9 (fun hS => by have h1 : _ ≤ bx2 := LO3.out _ hS; have h2 : bx2 < _ := UP3.out _ hS; omega)
    clear c2_0_9
    have c2_1_10 := cell_only q10 c2_1_9 (fun hS => by have h1 : _ ≤ bx2 := LO3.out _ hS; have h2 : bx2 < _ := UP3.out _ hS; omega)
    clear c2_1_9
    have c3_0_10 := cell_only q10 c3_0_9 (fun hS => by have h1 : _ ≤ w3.heap.size := LO3.out _ hS; have h2 : w3.heap.size < _ := UP3.out _ hS; omega)
    clear c3_0_9
    have c3_1_10 := cell_only q10 c3_1_9 (fun hS => by have h1 : _ ≤ w3.heap.size := LO3.out _ hS; have h2 : w3.heap.size < _ := UP3.out _ hS; omega)
    clear c3_1_9
    have c4_0_10 := cell_only q10 c4_0_9 (fun hS => NE5.out _ hS rfl)
    clear c4_0_9
    have c4_1_10 := cell_only q10 c4_1_9 (fun hS => NE5.out _ hS rfl)
    clear c4_1_9
    have o1_10 := own_only O1_9.out q10 (fun k hk hS => by have := LO3.out _ hS; have := UP3.out _ hS; have := LO1.out _ hk; have := UP1.out _ hk; omega)
    have O1_10 := Lib.hid o1_10; clear o1_10
    have o2_10 := own_only O2_9.out q10 (fun k hk hS => by have := LO3.out _ hS; have := UP3.out _ hS; have := LO2.out _ hk; have := UP2.out _ hk; omega)
    have O2_10 := Lib.hid o2_10; clear o2_10
    have O3_10 := Lib.hid m10; clear m10
    go_wp2_with fail
    refine (heldProfile_c _ _ _ _ _ (Rd.of_own O3_10.out) (by omega) (by omega)).mono ?_
    rintro _ w11 ⟨rfl, r11⟩
    have s11 := r11
    have y11 := s11.size
    have b11 := b10.trans (s11.mono z10)
    have z11 := b11.size
    have c0_0_11 := below_cell s11 c0_0_10
    clear c0_0_10
    have c0_1_11 := below_cell s11 c0_1_10
    clear c0_1_10
    have c1_0_11 := below_cell s11 c1_0_10
    clear c1_0_10
    have c1_1_11 := below_cell s11 c1_1_10
    clear c1_1_10
    have c1_2_11 := below_cell s11 c1_2_10
    clear c1_2_10
    have c2_0_11 := below_cell s11 c2_0_10
    clear c2_0_10
    have c2_1_11 := below_cell s11 c2_1_10
    clear c2_1_10
    have c3_0_11 := below_cell s11 c3_0_10
    clear c3_0_10
    have c3_1_11 := below_cell s11 c3_1_10
    clear c3_1_10
    have c4_0_11 := below_cell s11 c4_0_10
    clear c4_0_10
    have c4_1_11 := below_cell s11 c4_1_10
    clear c4_1_10
    have o1_11 := own_later O1_10.out s11
    have O1_11 := Lib.hid o1_11; clear o1_11
    have o2_11 := own_later O2_10.out s11
    have O2_11 := Lib.hid o2_11; clear o2_11
    have o3_11 := own_later O3_10.out s11
    have O3_11 := Lib.hid o3_11; clear o3_11
    clear al0_0_9
    clear al0_1_9
    clear al1_0_9
    clear al1_1_9
    clear al1_2_9
    clear al2_0_9
    clear al2_1_9
    clear al3_0_9
    clear al3_1_9
    clear al4_0_9
    clear al4_1_9
    have al0_0_11 := fun o => alloc_cell o c0_0_11
    have al0_1_11 := fun o => alloc_cell o c0_1_11
    have al1_0_11 := fun o => alloc_cell o c1_0_11
    have al1_1_11 := fun o => alloc_cell o c1_1_11
    have al1_2_11 := fun o => alloc_cell o c1_2_11
    have al2_0_11 := fun o => alloc_cell o c2_0_11
    have al2_1_11 := fun o => alloc_cell o c2_1_11
    have al3_0_11 := fun o => alloc_cell o c3_0_11
    have al3_1_11 := fun o => alloc_cell o c3_1_11
    have al4_0_11 := fun o => alloc_cell o c4_0_11
    have al4_1_11 := fun o => alloc_cell o c4_1_11
    have htd0 : ∀ w', Below w11.heap.size w11 w' → Calls Try.prog 9 #[.agg #[.string nm0, sv0]] w' (fun e w'' => ∃ u0, e = .returned (.agg #[.string nm0, u0]) ∧ (Rd w'' u0 rs0.length (trips rs0)) ∧ Below w'.heap.size w' w'' ∧ Below w11.heap.size w11 w'') := fun w' hb => (HT0.out w' (b11.trans (hb.mono z11))).mono fun _ _ ⟨v, e, o, b⟩ => ⟨v, e, Rd.of_own o, b, hb.trans (b.mono hb.size)⟩
    have HTD0 := Lib.hid htd0; clear htd0
    have htd1 : ∀ w', Below w11.heap.size w11 w' → Calls Try.prog 15 #[.agg #[.int .i64 o2a, .int .i64 o2b, .int .i64 o2c]] w' (fun e w'' => e = .returned (.agg #[.int .i64 o2a, .int .i64 o2b, .int .i64 o2c]) ∧ (True) ∧ Below w'.heap.size w' w'' ∧ Below w11.heap.size w11 w'') := fun w' hb => (HT2.out w').mono fun _ _ ⟨e, b⟩ => ⟨e, trivial, b, hb.trans (b.mono hb.size)⟩
    have HTD1 := Lib.hid htd1; clear htd1
    go_upto_region 24 with fail
    go_cut [16, 17] from 83 to 91 (fun s6 s7 wx => CutN qn0 q0 t1 w11 s6 s7 wx)
    case first =>
      go_region_held3 (fun w' => w'.cell? ⟨w.heap.size, 0, none⟩ = some (.string nm0) ∧ w'.cell? ⟨w.heap.size, 1, none⟩ = some (sv0) ∧ w'.cell? ⟨w.heap.size + 1, 0, none⟩ = some (.int .i64 o2a) ∧ w'.cell? ⟨w.heap.size + 1, 1, none⟩ = some (.int .i64 o2b) ∧ w'.cell? ⟨w.heap.size + 1, 2, none⟩ = some (.int .i64 o2c)) (first | with_reducible exact ⟨c0_0_11, c0_1_11, c1_0_11, c1_1_11, c1_2_11⟩ | with_reducible exact ⟨alloc_cell _ c0_0_11, alloc_cell _ c0_1_11, alloc_cell _ c1_0_11, alloc_cell _ c1_1_11, alloc_cell _ c1_2_11⟩ | with_reducible exact ⟨below_cell s9 c0_0_11, below_cell s9 c0_1_11, below_cell s9 c1_0_11, below_cell s9 c1_1_11, below_cell s9 c1_2_11⟩ | with_reducible exact ⟨alloc_cell _ (below_cell s9 c0_0_11), alloc_cell _ (below_cell s9 c0_1_11), alloc_cell _ (below_cell s9 c1_0_11), alloc_cell _ (below_cell s9 c1_1_11), alloc_cell _ (below_cell s9 c1_2_11)⟩ | with_reducible exact ⟨BX.keep (below_cell s9 c0_0_11) (World.block_lt_of_cell? _ _ c0_0_11) _ _, BX.keep (below_cell s9 c0_1_11) (World.block_lt_of_cell? _ _ c0_1_11) _ _, BX.keep (below_cell s9 c1_0_11) (World.block_lt_of_cell? _ _ c1_0_11) _ _, BX.keep (below_cell s9 c1_1_11) (World.block_lt_of_cell? _ _ c1_1_11) _ _, BX.keep (below_cell s9 c1_2_11) (World.block_lt_of_cell? _ _ c1_2_11) _ _⟩ | with_reducible exact ⟨below_cell BD1.out c0_0_11, below_cell BD1.out c0_1_11, below_cell BD1.out c1_0_11, below_cell BD1.out c1_1_11, below_cell BD1.out c1_2_11⟩ | with_reducible exact ⟨alloc_cell _ (below_cell BD1.out c0_0_11), alloc_cell _ (below_cell BD1.out c0_1_11), alloc_cell _ (below_cell BD1.out c1_0_11), alloc_cell _ (below_cell BD1.out c1_1_11), alloc_cell _ (below_cell BD1.out c1_2_11)⟩ | with_reducible exact ⟨below_cell BD0.out c0_0_11, below_cell BD0.out c0_1_11, below_cell BD0.out c1_0_11, below_cell BD0.out c1_1_11, below_cell BD0.out c1_2_11⟩ | with_reducible exact ⟨alloc_cell _ (below_cell BD0.out c0_0_11), alloc_cell _ (below_cell BD0.out c0_1_11), alloc_cell _ (below_cell BD0.out c1_0_11), alloc_cell _ (below_cell BD0.out c1_1_11), alloc_cell _ (below_cell BD0.out c1_2_11)⟩ | go_keep) (first | (go_at_call 16; (first | (with_reducible refine (HI.out _ _ OD0_1.out).mono ?_) | (with_reducible refine (HI.out _ _ (OD0_1.out.later (below_alloc _ _))).mono ?_)); rintro _ w12 ⟨x9, rfl, n9, rd9⟩; obtain ⟨ax9, cx9, rfl⟩ := own_shape n9; have N9 := Lib.hid n9; clear n9; (first | (with_reducible have s9 := BD1.out.trans (rd9.mono BD1.out.size)) | (with_reducible have s9 := (below_alloced BD1.out BD1.out.size _).trans (rd9.mono (below_alloced BD1.out BD1.out.size _).size))); have lo9 := BD1.out.size; have lo8 := fun o => Nat.le_trans lo9 (below_alloc wd1 o).size; (first | (have hbl := BX.lt; with_reducible have BX := BoxP.later BX rd9; have hbl9 := hbl) | (with_reducible have BX := BoxP.after (B := w11.heap.size) rd9 lo9; have hbl9 := lt_alloc wd1) | skip); (first | (have bf9 := BX.f; have bc0 := BX.c0; have bc1 := BX.c1) | skip)) | (have _gd := BD0; go_at_call 15; (with_reducible refine (HTD1.out _ (by first | exact BD0.out | exact below_alloced BD0.out BD0.out.size _ | go_grown)).mono ?_); rintro _ wd1 ⟨rfl, od1_1, qd1, bd1⟩; have OD1_1 := Lib.hid od1_1; clear od1_1; have BD1 := Lib.hid bd1; clear bd1; (first | (with_reducible have BX := BoxP.later BX qd1) | (with_reducible have BX := BoxP.after (B := w11.heap.size) qd1 BD0.out.size) | (with_reducible have BX := BoxP.afterD (B := w11.heap.size) qd1 BD0.out.size) | skip); (first | (with_reducible have qq1 : Below wd0.heap.size wd0 wd1 := qd1) | (with_reducible have qq1 : Below wd0.heap.size wd0 wd1 := below_of_alloc qd1)); have QD1 := Lib.hid qq1; clear qq1; clear qd1; have od0_1 := OD0_0.out.later QD1.out; have OD0_1 := Lib.hid od0_1; clear od0_1) | (go_at_call 9; (with_reducible refine (HTD0.out _ (by go_grown)).mono ?_); rintro _ wd0 ⟨u0, rfl, od0_0, qd0, bd0⟩; have OD0_0 := Lib.hid od0_0; clear od0_0; have BD0 := Lib.hid bd0; clear bd0; (first | (with_reducible have BX := BoxP.later BX qd0) | (with_reducible have BX := BoxP.after (B := w11.heap.size) qd0 (Nat.le_refl _)) | (with_reducible have BX := BoxP.afterD (B := w11.heap.size) qd0 (Nat.le_refl _)) | skip); clear qd0))
      all_goals (go_wp2_with fail; go_meet; first | exact CutN.mk s9 N9.out lo9 | exact CutN.mk s9 N9.out (lo8 _) | exact CutN.set BX s9 N9.out hbl9 lo9 | exact CutN.set BX s9 N9.out (hbl9 _) (lo8 _))
    case rest =>
    obtain ⟨bx12, ao4, cap4, rfl, rfl, hbl12, hbt12, c5_0_12, c5_1_12, n4, s12, NE12⟩ := hcut
    generalize wc = w12 at *
    clear HTD0 HTD1
    have y12 := s12.size
    have b12 := b11.trans (s12.mono z11)
    have z12 := b12.size
    have c0_0_12 := below_cell s12 c0_0_11
    clear c0_0_11
    have c0_1_12 := below_cell s12 c0_1_11
    clear c0_1_11
    have c1_0_12 := below_cell s12 c1_0_11
    clear c1_0_11
    have c1_1_12 := below_cell s12 c1_1_11
    clear c1_1_11
    have c1_2_12 := below_cell s12 c1_2_11
    clear c1_2_11
    have c2_0_12 := below_cell s12 c2_0_11
    clear c2_0_11
    have c2_1_12 := below_cell s12 c2_1_11
    clear c2_1_11
    have c3_0_12 := below_cell s12 c3_0_11
    clear c3_0_11
    have c3_1_12 := below_cell s12 c3_1_11
    clear c3_1_11
    have c4_0_12 := below_cell s12 c4_0_11
    clear c4_0_11
    have c4_1_12 := below_cell s12 c4_1_11
    clear c4_1_11
    have o1_12 := own_later O1_11.out s12
    have O1_12 := Lib.hid o1_12; clear o1_12
    have o2_12 := own_later O2_11.out s12
    have O2_12 := Lib.hid o2_12; clear o2_12
    have o3_12 := own_later O3_11.out s12
    have O3_12 := Lib.hid o3_12; clear o3_12
    clear al0_0_11
    clear al0_1_11
    clear al1_0_11
    clear al1_1_11
    clear al1_2_11
    clear al2_0_11
    clear al2_1_11
    clear al3_0_11
    clear al3_1_11
    clear al4_0_11
    clear al4_1_11
    have al0_0_12 := fun o => alloc_cell o c0_0_12
    have al0_1_12 := fun o => alloc_cell o c0_1_12
    have al1_0_12 := fun o => alloc_cell o c1_0_12
    have al1_1_12 := fun o => alloc_cell o c1_1_12
    have al1_2_12 := fun o => alloc_cell o c1_2_12
    have al2_0_12 := fun o => alloc_cell o c2_0_12
    have al2_1_12 := fun o => alloc_cell o c2_1_12
    have al3_0_12 := fun o => alloc_cell o c3_0_12
    have al3_1_12 := fun o => alloc_cell o c3_1_12
    have al4_0_12 := fun o => alloc_cell o c4_0_12
    have al4_1_12 := fun o => alloc_cell o c4_1_12
    have up4 := fun k hk => (World.ownsRow.lt n4 k hk).2
    have lo4 := fun k hk => (World.ownsRow.lt n4 k hk).1
    have UP4 := Lib.hid up4; clear up4
    have LO4 := Lib.hid lo4; clear lo4
    have O4_12 := Lib.hid n4; clear n4
    go_wp2_with fail
    refine (HEq.out _ _ _ (Rd.of_own O4_12.out) (Rd.of_own O1_12.out)).mono ?_
    rintro _ w13 ⟨rfl, r13⟩
    have s13 := r13
    have y13 := s13.size
    have b13 := b12.trans (s13.mono z12)
    have z13 := b13.size
    have c0_0_13 := below_cell s13 c0_0_12
    clear c0_0_12
    have c0_1_13 := below_cell s13 c0_1_12
    clear c0_1_12
    have c1_0_13 := below_cell s13 c1_0_12
    clear c1_0_12
    have c1_1_13 := below_cell s13 c1_1_12
    clear c1_1_12
    have c1_2_13 := below_cell s13 c1_2_12
    clear c1_2_12
    have c2_0_13 := below_cell s13 c2_0_12
    clear c2_0_12
    have c2_1_13 := below_cell s13 c2_1_12
    clear c2_1_12
    have c3_0_13 := below_cell s13 c3_0_12
    clear c3_0_12
    have c3_1_13 := below_cell s13 c3_1_12
    clear c3_1_12
    have c4_0_13 := below_cell s13 c4_0_12
    clear c4_0_12
    have c4_1_13 := below_cell s13 c4_1_12
    clear c4_1_12
    have c5_0_13 := below_cell s13 c5_0_12
    clear c5_0_12
    have c5_1_13 := below_cell s13 c5_1_12
    clear c5_1_12
    have o1_13 := own_later O1_12.out s13
    have O1_13 := Lib.hid o1_13; clear o1_13
    have o2_13 := own_later O2_12.out s13
    have O2_13 := Lib.hid o2_13; clear o2_13
    have o3_13 := own_later O3_12.out s13
    have O3_13 := Lib.hid o3_13; clear o3_13
    have o4_13 := own_later O4_12.out s13
    have O4_13 := Lib.hid o4_13; clear o4_13
    clear al0_0_12
    clear al0_1_12
    clear al1_0_12
    clear al1_1_12
    clear al1_2_12
    clear al2_0_12
    clear al2_1_12
    clear al3_0_12
    clear al3_1_12
    clear al4_0_12
    clear al4_1_12
    have al0_0_13 := fun o => alloc_cell o c0_0_13
    have al0_1_13 := fun o => alloc_cell o c0_1_13
    have al1_0_13 := fun o => alloc_cell o c1_0_13
    have al1_1_13 := fun o => alloc_cell o c1_1_13
    have al1_2_13 := fun o => alloc_cell o c1_2_13
    have al2_0_13 := fun o => alloc_cell o c2_0_13
    have al2_1_13 := fun o => alloc_cell o c2_1_13
    have al3_0_13 := fun o => alloc_cell o c3_0_13
    have al3_1_13 := fun o => alloc_cell o c3_1_13
    have al4_0_13 := fun o => alloc_cell o c4_0_13
    have al4_1_13 := fun o => alloc_cell o c4_1_13
    have al5_0_13 := fun o => alloc_cell o c5_0_13
    have al5_1_13 := fun o => alloc_cell o c5_1_13
    go_wp2_with fail
    refine (heldProfile_c _ _ _ _ _ (Rd.of_own O3_13.out) (by omega) (by omega)).mono ?_
    rintro _ w14 ⟨rfl, r14⟩
    have s14 := r14
    have y14 := s14.size
    have b14 := b13.trans (s14.mono z13)
    have z14 := b14.size
    have c0_0_14 := below_cell s14 c0_0_13
    clear c0_0_13
    have c0_1_14 := below_cell s14 c0_1_13
    clear c0_1_13
    have c1_0_14 := below_cell s14 c1_0_13
    clear c1_0_13
    have c1_1_14 := below_cell s14 c1_1_13
    clear c1_1_13
    have c1_2_14 := below_cell s14 c1_2_13
    clear c1_2_13
    have c2_0_14 := below_cell s14 c2_0_13
    clear c2_0_13
    have c2_1_14 := below_cell s14 c2_1_13
    clear c2_1_13
    have c3_0_14 := below_cell s14 c3_0_13
    clear c3_0_13
    have c3_1_14 := below_cell s14 c3_1_13
    clear c3_1_13
    have c4_0_14 := below_cell s14 c4_0_13
    clear c4_0_13
    have c4_1_14 := below_cell s14 c4_1_13
    clear c4_1_13
    have c5_0_14 := below_cell s14 c5_0_13
    clear c5_0_13
    have c5_1_14 := below_cell s14 c5_1_13
    clear c5_1_13
    have o1_14 := own_later O1_13.out s14
    have O1_14 := Lib.hid o1_14; clear o1_14
    have o2_14 := own_later O2_13.out s14
    have O2_14 := Lib.hid o2_14; clear o2_14
    have o3_14 := own_later O3_13.out s14
    have O3_14 := Lib.hid o3_14; clear o3_14
    have o4_14 := own_later O4_13.out s14
    have O4_14 := Lib.hid o4_14; clear o4_14
    clear al0_0_13
    clear al0_1_13
    clear al1_0_13
    clear al1_1_13
    clear al1_2_13
    clear al2_0_13
    clear al2_1_13
    clear al3_0_13
    clear al3_1_13
    clear al4_0_13
    clear al4_1_13
    clear al5_0_13
    clear al5_1_13
    have al0_0_14 := fun o => alloc_cell o c0_0_14
    have al0_1_14 := fun o => alloc_cell o c0_1_14
    have al1_0_14 := fun o => alloc_cell o c1_0_14
    have al1_1_14 := fun o => alloc_cell o c1_1_14
    have al1_2_14 := fun o => alloc_cell o c1_2_14
    have al2_0_14 := fun o => alloc_cell o c2_0_14
    have al2_1_14 := fun o => alloc_cell o c2_1_14
    have al3_0_14 := fun o => alloc_cell o c3_0_14
    have al3_1_14 := fun o => alloc_cell o c3_1_14
    have al4_0_14 := fun o => alloc_cell o c4_0_14
    have al4_1_14 := fun o => alloc_cell o c4_1_14
    have al5_0_14 := fun o => alloc_cell o c5_0_14
    have al5_1_14 := fun o => alloc_cell o c5_1_14
    go_wp2
    go_returns
    exact RetB.mk rfl b14
  · skip
    have hz0' := fun w' (hb : Below w.heap.size w w') => szProfile_c nm0 sv0 rs0.length (trips rs0) (1048576) w' hnm0 (h0.later hb) (by omega) (by omega)
    rw [leftP_neg (by omega)] at hz0'
    have HZ0 := Lib.hid hz0'; clear hz0'
    have HS := Lib.hid hs; clear hs
    have HI := Lib.hid hi; clear hi
    go_enter Try.func4, Try.ntmps4
    have b0 : Below w.heap.size w w := Below.refl _ _
    have z0 : w.heap.size ≤ w.heap.size := Nat.le_refl _
    go_wp2_with fail
    refine (HZ0.out _ (by go_grown)).mono ?_
    rintro _ w1 ⟨rfl, r1⟩
    have s1 : Below w.heap.size w w1 := Below.trans (by go_grown) (r1.mono (by simp; try omega))
    have y1 := s1.size
    have v1 : w.heap.size + 2 ≤ w1.heap.size := by have := r1.size; simp only [World.size_alloc] at this; omega
    have b1 := b0.trans (s1.mono z0)
    have z1 := b1.size
    have c0_0_1 := below_cell r1 (p := ⟨w.heap.size, 0, none⟩) (v := .string nm0) (by simp [go_sem])
    have c0_1_1 := below_cell r1 (p := ⟨w.heap.size, 1, none⟩) (v := sv0) (by simp [go_sem])
    have c1_0_1 := below_cell r1 (p := ⟨w.heap.size + 1, 0, none⟩) (v := .int .i64 o2a) (by simp [go_sem])
    have c1_1_1 := below_cell r1 (p := ⟨w.heap.size + 1, 1, none⟩) (v := .int .i64 o2b) (by simp [go_sem])
    have c1_2_1 := below_cell r1 (p := ⟨w.heap.size + 1, 2, none⟩) (v := .int .i64 o2c) (by simp [go_sem])
    clear r1
    have al0_0_1 := fun o => alloc_cell o c0_0_1
    have al0_1_1 := fun o => alloc_cell o c0_1_1
    have al1_0_1 := fun o => alloc_cell o c1_0_1
    have al1_1_1 := fun o => alloc_cell o c1_1_1
    have al1_2_1 := fun o => alloc_cell o c1_2_1
    go_wp2
    go_returns
    exact RetB.mk rfl b1

theorem lawInsertRing_c (w : World) (nm0 : ByteArray) (sv0 : Value) (rs0 : List (Int × Int × Int)) (hnm0 : nm0.size ≤ maxLen) (h0 : Rd w sv0 rs0.length (trips rs0)) (w0 : ∀ z ∈ rs0, I64 z.1 ∧ I64 z.2.1 ∧ I64 z.2.2) (a1 : Int) (w1 : I64 a1) (o2a o2b o2c : Int) (w2 : I64 o2a ∧ I64 o2b ∧ I64 o2c) :
    Calls Try.prog 4 #[.agg #[.string nm0, sv0], .int .i64 a1, .agg #[.int .i64 o2a, .int .i64 o2b, .int .i64 o2c]] w (RetB (.bool true) w) :=
  lawInsertRing_h w nm0 sv0 rs0 hnm0 h0 a1 o2a o2b o2c (insI nm0 rs0 a1 o2a o2b o2c).1 (insI nm0 rs0 a1 o2a o2b o2c).2.1 (by have := insI_len nm0 rs0 a1 o2a o2b o2c; omega) _ (fun w' u h => specInsertRing_c nm0 u rs0 a1 o2a o2b o2c w' hnm0 h) (fun w' u h => implInsertRing_c nm0 u rs0 a1 o2a o2b o2c w' hnm0 h)

end Go.Proofs.Ytjlenafdpoknhaa
