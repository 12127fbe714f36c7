/- The law of FitBase, walked. -/
import Derived.Test.YtmeeibcbhjifbaaCutMN
import Derived.Test.YtmeeibcbhjifbaaFitJ
import Derived.Test.YtmeeibcbhjifbaaGC
import Derived.Test.YtmeeibcbhjifbaaMarkM2
namespace Go.Proofs.Ytmeeibcbhjifbaa
set_option linter.unusedVariables false
open Go.RowKit Go.Proofs.Bell Go.BigFrame

set_option maxRecDepth 100000 in
set_option maxHeartbeats 3200000 in
theorem lawFitBase_h (w : World) (zv0 wv0 bv0 : Value) (zs0 : List Int) (ws0 : List (List Int)) (bs0 : List Int) (hz0 : Rd w zv0 zs0.length (ints zs0)) (hw0 : RdSS w wv0 ws0) (hb0 : Rd w bv0 bs0.length (ints bs0)) (nm1 : ByteArray) (sv1 : Value) (rs1 : List (Int × Int × Int)) (hnm1 : nm1.size ≤ maxLen) (h1 : Rd w sv1 rs1.length (trips rs1)) (so2a so2b so2c so2d so2e : Int) (qz0 : List Int) (qw0 : List (List Int)) (qb0 : List Int) (hq0 : qz0.length ≤ 100000 ∧ SzSS qw0 ≤ 100000 ∧ qb0.length ≤ 100000) (t1 : Int)
    (hs : ∀ w' uz0 uw0 ub0 u1, Rd w' uz0 zs0.length (ints zs0) → RdSS w' uw0 ws0 → Rd w' ub0 bs0.length (ints bs0) → Rd w' u1 rs1.length (trips rs1) → Calls Try.prog 17 #[.agg #[uz0, uw0, ub0], .agg #[.string nm1, u1], .agg #[.int .i64 so2a, .int .i64 so2b, .int .i64 so2c, .int .i64 so2d, .int .i64 so2e]] w' (RetM2 qz0 qw0 qb0 (.int .i64 t1) w'))
    (hi : ∀ w' uz0 uw0 ub0 u1, Rd w' uz0 zs0.length (ints zs0) → RdSS w' uw0 ws0 → Rd w' ub0 bs0.length (ints bs0) → Rd w' u1 rs1.length (trips rs1) → Calls Try.prog 20 #[.agg #[uz0, uw0, ub0], .agg #[.string nm1, u1], .agg #[.int .i64 so2a, .int .i64 so2b, .int .i64 so2c, .int .i64 so2d, .int .i64 so2e]] w' (RetM2 qz0 qw0 qb0 (.int .i64 t1) w')) :
    Calls Try.prog 4 #[.agg #[zv0, wv0, bv0], .agg #[.string nm1, sv1], .agg #[.int .i64 so2a, .int .i64 so2b, .int .i64 so2c, .int .i64 so2d, .int .i64 so2e]] w (RetB (.bool true) w) := by
  have hnm1' := hnm1
  unfold maxLen at hnm1'
  by_cases hl0 : ((zs0.length : Int) + SzSS ws0 + bs0.length) ≤ 1048576
  · skip
    have hz0' := fun w' (hb : Below w.heap.size w w') => szModel_c zv0 wv0 bv0 zs0 ws0 bs0 (1048576) w' (hz0.later hb) (hw0.later hb) (hb0.later hb) (by omega) (by omega)
    rw [leftM_pos (by omega)] at hz0'
    have HZ0 := Lib.hid hz0'; clear hz0'
    by_cases hl1 : ((nm1.size : Int) + rs1.length) ≤ 1048576 - (zs0.length : Int) - (SzSS ws0 : Int) - (bs0.length : Int)
    · skip
      have hz1' := fun w' (hb : Below w.heap.size w w') => szProfile_c nm1 sv1 rs1.length (trips rs1) (1048576 - (zs0.length : Int) - (SzSS ws0 : Int) - (bs0.length : Int)) w' hnm1 (h1.later hb) (by omega) (by omega)
      rw [leftP_pos (by omega)] at hz1'
      have HZ1 := Lib.hid hz1'; clear hz1'
      have ht0 := fun w' (hb : Below w.heap.size w w') => toModel_c zv0 wv0 bv0 zs0 ws0 bs0 w' (hz0.later hb) (hw0.later hb) (hb0.later hb) (by omega) (by omega) (by omega)
      have he0 := fun w' xa xb xc ya yb yc (h1 : Rd w' xa zs0.length (ints zs0)) (h2 : RdSS w' xb ws0) (h3 : Rd w' xc bs0.length (ints bs0)) (h4 : Rd w' ya zs0.length (ints zs0)) (h5 : RdSS w' yb ws0) (h6 : Rd w' yc bs0.length (ints bs0)) => eqModel_c xa xb xc ya yb yc zs0 ws0 bs0 w' h1 h2 h3 h4 h5 h6
      have HAZ0 := Lib.hid hz0; clear hz0
      have HAW0 := Lib.hid hw0; clear hw0
      have HAB0 := Lib.hid hb0; clear hb0
      have HE0 := Lib.hid he0; clear he0
      have HT0 := Lib.hid ht0; clear ht0
      have ht1 := fun w' (hb : Below w.heap.size w w') => toProfile_c nm1 sv1 rs1 w' (h1.later hb) (by omega)
      have he1 := fun w' x y (h1 : Rd w' x rs1.length (trips rs1)) (h2 : Rd w' y rs1.length (trips rs1)) => eqProfile_c nm1 nm1 x y rs1 rs1 w' h1 h2
      rw [eqPr_refl] at he1
      clear h1
      have HE1 := Lib.hid he1; clear he1
      have HT1 := Lib.hid ht1; clear ht1
      have ht2 := fun w' => toSound_c so2a so2b so2c so2d so2e w'
      have HT2 := Lib.hid ht2; clear ht2
      have heq := fun w' xa xb xc ya yb yc (h1 : Rd w' xa qz0.length (ints qz0)) (h2 : RdSS w' xb qw0) (h3 : Rd w' xc qb0.length (ints qb0)) (h4 : Rd w' ya qz0.length (ints qz0)) (h5 : RdSS w' yb qw0) (h6 : Rd w' yc qb0.length (ints qb0)) => eqModel_c xa xb xc ya yb yc qz0 qw0 qb0 w' h1 h2 h3 h4 h5 h6
      have HEq := Lib.hid heq; clear heq
      obtain ⟨hq0a, hq0b, hq0c⟩ := hq0
      have hSLq : lensK qw0 qw0.length ≤ SzSS qw0 := by unfold SzSS; omega
      have HS := Lib.hid hs; clear hs
      have HI := Lib.hid hi; clear hi
      go_enter Try.func4, Try.ntmps4
      have b0 : Below w.heap.size w w := Below.refl _ _
      have z0 : w.heap.size ≤ w.heap.size := Nat.le_refl _
      go_wp2_with fail
      refine (HZ0.out _ (by go_grown)).mono ?_
      rintro _ w1 ⟨rfl, r1⟩
      have s1 : Below w.heap.size w w1 := Below.trans (by go_grown) (r1.mono (by simp; try omega))
      have y1 := s1.size
      have v1 : w.heap.size + 3 ≤ w1.heap.size := by have := r1.size; simp only [World.size_alloc] at this; omega
      have b1 := b0.trans (s1.mono z0)
      have z1 := b1.size
      have c0_0_1 := below_cell r1 (p := ⟨w.heap.size, 0, none⟩) (v := zv0) (by simp [go_sem])
      have c0_1_1 := below_cell r1 (p := ⟨w.heap.size, 1, none⟩) (v := wv0) (by simp [go_sem])
      have c0_2_1 := below_cell r1 (p := ⟨w.heap.size, 2, none⟩) (v := bv0) (by simp [go_sem])
      have c1_0_1 := below_cell r1 (p := ⟨w.heap.size + 1, 0, none⟩) (v := .string nm1) (by simp [go_sem])
      have c1_1_1 := below_cell r1 (p := ⟨w.heap.size + 1, 1, none⟩) (v := sv1) (by simp [go_sem])
      have c2_0_1 := below_cell r1 (p := ⟨w.heap.size + 1 + 1, 0, none⟩) (v := .int .i64 so2a) (by simp [go_sem])
      have c2_1_1 := below_cell r1 (p := ⟨w.heap.size + 1 + 1, 1, none⟩) (v := .int .i64 so2b) (by simp [go_sem])
      have c2_2_1 := below_cell r1 (p := ⟨w.heap.size + 1 + 1, 2, none⟩) (v := .int .i64 so2c) (by simp [go_sem])
      have c2_3_1 := below_cell r1 (p := ⟨w.heap.size + 1 + 1, 3, none⟩) (v := .int .i64 so2d) (by simp [go_sem])
      have c2_4_1 := below_cell r1 (p := ⟨w.heap.size + 1 + 1, 4, none⟩) (v := .int .i64 so2e) (by simp [go_sem])
      clear r1
      have al0_0_1 := fun o => alloc_cell o c0_0_1
      have al0_1_1 := fun o => alloc_cell o c0_1_1
      have al0_2_1 := fun o => alloc_cell o c0_2_1
      have al1_0_1 := fun o => alloc_cell o c1_0_1
      have al1_1_1 := fun o => alloc_cell o c1_1_1
      have al2_0_1 := fun o => alloc_cell o c2_0_1
      have al2_1_1 := fun o => alloc_cell o c2_1_1
      have al2_2_1 := fun o => alloc_cell o c2_2_1
      have al2_3_1 := fun o => alloc_cell o c2_3_1
      have al2_4_1 := fun o => alloc_cell o c2_4_1
      go_wp2_with fail
      refine (HZ1.out _ b1).mono ?_
      rintro _ w2 ⟨rfl, r2⟩
      have s2 := r2
      have y2 := s2.size
      have b2 := b1.trans (s2.mono z1)
      have z2 := b2.size
      have c0_0_2 := below_cell s2 c0_0_1
      clear c0_0_1
      have c0_1_2 := below_cell s2 c0_1_1
      clear c0_1_1
      have c0_2_2 := below_cell s2 c0_2_1
      clear c0_2_1
      have c1_0_2 := below_cell s2 c1_0_1
      clear c1_0_1
      have c1_1_2 := below_cell s2 c1_1_1
      clear c1_1_1
      have c2_0_2 := below_cell s2 c2_0_1
      clear c2_0_1
      have c2_1_2 := below_cell s2 c2_1_1
      clear c2_1_1
      have c2_2_2 := below_cell s2 c2_2_1
      clear c2_2_1
      have c2_3_2 := below_cell s2 c2_3_1
      clear c2_3_1
      have c2_4_2 := below_cell s2 c2_4_1
      clear c2_4_1
      clear al0_0_1
      clear al0_1_1
      clear al0_2_1
      clear al1_0_1
      clear al1_1_1
      clear al2_0_1
      clear al2_1_1
      clear al2_2_1
      clear al2_3_1
      clear al2_4_1
      have al0_0_2 := fun o => alloc_cell o c0_0_2
      have al0_1_2 := fun o => alloc_cell o c0_1_2
      have al0_2_2 := fun o => alloc_cell o c0_2_2
      have al1_0_2 := fun o => alloc_cell o c1_0_2
      have al1_1_2 := fun o => alloc_cell o c1_1_2
      have al2_0_2 := fun o => alloc_cell o c2_0_2
      have al2_1_2 := fun o => alloc_cell o c2_1_2
      have al2_2_2 := fun o => alloc_cell o c2_2_2
      have al2_3_2 := fun o => alloc_cell o c2_3_2
      have al2_4_2 := fun o => alloc_cell o c2_4_2
      have htd0 : ∀ w', Below w2.heap.size w2 w' → Calls Try.prog 18 #[.agg #[zv0, wv0, bv0]] w' (fun e w'' => ∃ ua0 ub0 uc0, e = .returned (.agg #[ua0, ub0, uc0]) ∧ (Rd w'' ua0 zs0.length (ints zs0) ∧ RdSS w'' ub0 ws0 ∧ Rd w'' uc0 bs0.length (ints bs0)) ∧ Below w'.heap.size w' w'' ∧ Below w2.heap.size w2 w'') := fun w' hb => (HT0.out w' (b2.trans (hb.mono z2))).mono fun _ _ ⟨va, vb, vc, us, e, o, b⟩ => ⟨va, vb, vc, e, ⟨Rd.of_own o.z, o.s.rd, Rd.of_own o.b⟩, b, hb.trans (b.mono hb.size)⟩
      have HTD0 := Lib.hid htd0; clear htd0
      have htd1 : ∀ w', Below w2.heap.size w2 w' → Calls Try.prog 9 #[.agg #[.string nm1, sv1]] w' (fun e w'' => ∃ u1, e = .returned (.agg #[.string nm1, u1]) ∧ (Rd w'' u1 rs1.length (trips rs1)) ∧ Below w'.heap.size w' w'' ∧ Below w2.heap.size w2 w'') := fun w' hb => (HT1.out w' (b2.trans (hb.mono z2))).mono fun _ _ ⟨v, e, o, b⟩ => ⟨v, e, Rd.of_own o, b, hb.trans (b.mono hb.size)⟩
      have HTD1 := Lib.hid htd1; clear htd1
      have htd2 : ∀ w', Below w2.heap.size w2 w' → Calls Try.prog 19 #[.agg #[.int .i64 so2a, .int .i64 so2b, .int .i64 so2c, .int .i64 so2d, .int .i64 so2e]] w' (fun e w'' => e = .returned (.agg #[.int .i64 so2a, .int .i64 so2b, .int .i64 so2c, .int .i64 so2d, .int .i64 so2e]) ∧ (True) ∧ Below w'.heap.size w' w'' ∧ Below w2.heap.size w2 w'') := fun w' hb => (HT2.out w').mono fun _ _ ⟨e, b⟩ => ⟨e, trivial, b, hb.trans (b.mono hb.size)⟩
      have HTD2 := Lib.hid htd2; clear htd2
      go_upto_region 8 with fail
      go_cut [8, 9] from 29 to 38 (fun s6 s7 wx => CutMN qz0 qw0 qb0 t1 w2 s6 s7 wx)
      case first =>
        go_region_held3 (fun w' => w'.cell? ⟨w.heap.size, 0, none⟩ = some (zv0) ∧ w'.cell? ⟨w.heap.size, 1, none⟩ = some (wv0) ∧ w'.cell? ⟨w.heap.size, 2, none⟩ = some (bv0) ∧ w'.cell? ⟨w.heap.size + 1, 0, none⟩ = some (.string nm1) ∧ w'.cell? ⟨w.heap.size + 1, 1, none⟩ = some (sv1) ∧ w'.cell? ⟨w.heap.size + 1 + 1, 0, none⟩ = some (.int .i64 so2a) ∧ w'.cell? ⟨w.heap.size + 1 + 1, 1, none⟩ = some (.int .i64 so2b) ∧ w'.cell? ⟨w.heap.size + 1 + 1, 2, none⟩ = some (.int .i64 so2c) ∧ w'.cell? ⟨w.heap.size + 1 + 1, 3, none⟩ = some (.int .i64 so2d) ∧ w'.cell? ⟨w.heap.size + 1 + 1, 4, none⟩ = some (.int .i64 so2e)) (first | with_reducible exact ⟨c0_0_2, c0_1_2, c0_2_2, c1_0_2, c1_1_2, c2_0_2, c2_1_2, c2_2_2, c2_3_2, c2_4_2⟩ | with_reducible exact ⟨alloc_cell _ c0_0_2, alloc_cell _ c0_1_2, alloc_cell _ c0_2_2, alloc_cell _ c1_0_2, alloc_cell _ c1_1_2, alloc_cell _ c2_0_2, alloc_cell _ c2_1_2, alloc_cell _ c2_2_2, alloc_cell _ c2_3_2, alloc_cell _ c2_4_2⟩ | with_reducible exact ⟨below_cell s9 c0_0_2, below_cell s9 c0_1_2, below_cell s9 c0_2_2, below_cell s9 c1_0_2, below_cell s9 c1_1_2, below_cell s9 c2_0_2, below_cell s9 c2_1_2, below_cell s9 c2_2_2, below_cell s9 c2_3_2, below_cell s9 c2_4_2⟩ | with_reducible exact ⟨alloc_cell _ (below_cell s9 c0_0_2), alloc_cell _ (below_cell s9 c0_1_2), alloc_cell _ (below_cell s9 c0_2_2), alloc_cell _ (below_cell s9 c1_0_2), alloc_cell _ (below_cell s9 c1_1_2), alloc_cell _ (below_cell s9 c2_0_2), alloc_cell _ (below_cell s9 c2_1_2), alloc_cell _ (below_cell s9 c2_2_2), alloc_cell _ (below_cell s9 c2_3_2), alloc_cell _ (below_cell s9 c2_4_2)⟩ | with_reducible exact ⟨BX.keep (below_cell s9 c0_0_2) (World.block_lt_of_cell? _ _ c0_0_2) _ _ _, BX.keep (below_cell s9 c0_1_2) (World.block_lt_of_cell? _ _ c0_1_2) _ _ _, BX.keep (below_cell s9 c0_2_2) (World.block_lt_of_cell? _ _ c0_2_2) _ _ _, BX.keep (below_cell s9 c1_0_2) (World.block_lt_of_cell? _ _ c1_0_2) _ _ _, BX.keep (below_cell s9 c1_1_2) (World.block_lt_of_cell? _ _ c1_1_2) _ _ _, BX.keep (below_cell s9 c2_0_2) (World.block_lt_of_cell? _ _ c2_0_2) _ _ _, BX.keep (below_cell s9 c2_1_2) (World.block_lt_of_cell? _ _ c2_1_2) _ _ _, BX.keep (below_cell s9 c2_2_2) (World.block_lt_of_cell? _ _ c2_2_2) _ _ _, BX.keep (below_cell s9 c2_3_2) (World.block_lt_of_cell? _ _ c2_3_2) _ _ _, BX.keep (below_cell s9 c2_4_2) (World.block_lt_of_cell? _ _ c2_4_2) _ _ _⟩ | with_reducible exact ⟨below_cell BD2.out c0_0_2, below_cell BD2.out c0_1_2, below_cell BD2.out c0_2_2, below_cell BD2.out c1_0_2, below_cell BD2.out c1_1_2, below_cell BD2.out c2_0_2, below_cell BD2.out c2_1_2, below_cell BD2.out c2_2_2, below_cell BD2.out c2_3_2, below_cell BD2.out c2_4_2⟩ | with_reducible exact ⟨alloc_cell _ (below_cell BD2.out c0_0_2), alloc_cell _ (below_cell BD2.out c0_1_2), alloc_cell _ (below_cell BD2.out c0_2_2), alloc_cell _ (below_cell BD2.out c1_0_2), alloc_cell _ (below_cell BD2.out c1_1_2), alloc_cell _ (below_cell BD2.out c2_0_2), alloc_cell _ (below_cell BD2.out c2_1_2), alloc_cell _ (below_cell BD2.out c2_2_2), alloc_cell _ (below_cell BD2.out c2_3_2), alloc_cell _ (below_cell BD2.out c2_4_2)⟩ | with_reducible exact ⟨below_cell BD1.out c0_0_2, below_cell BD1.out c0_1_2, below_cell BD1.out c0_2_2, below_cell BD1.out c1_0_2, below_cell BD1.out c1_1_2, below_cell BD1.out c2_0_2, below_cell BD1.out c2_1_2, below_cell BD1.out c2_2_2, below_cell BD1.out c2_3_2, below_cell BD1.out c2_4_2⟩ | with_reducible exact ⟨alloc_cell _ (below_cell BD1.out c0_0_2), alloc_cell _ (below_cell BD1.out c0_1_2), alloc_cell _ (below_cell BD1.out c0_2_2), alloc_cell _ (below_cell BD1.out c1_0_2), alloc_cell _ (below_cell BD1.out c1_1_2), alloc_cell _ (below_cell BD1.out c2_0_2), alloc_cell _ (below_cell BD1.out c2_1_2), alloc_cell _ (below_cell BD1.out c2_2_2), alloc_cell _ (below_cell BD1.out c2_3_2), alloc_cell _ (below_cell BD1.out c2_4_2)⟩ | with_reducible exact ⟨below_cell BD0.out c0_0_2, below_cell BD0.out c0_1_2, below_cell BD0.out c0_2_2, below_cell BD0.out c1_0_2, below_cell BD0.out c1_1_2, below_cell BD0.out c2_0_2, below_cell BD0.out c2_1_2, below_cell BD0.out c2_2_2, below_cell BD0.out c2_3_2, below_cell BD0.out c2_4_2⟩ | with_reducible exact ⟨alloc_cell _ (below_cell BD0.out c0_0_2), alloc_cell _ (below_cell BD0.out c0_1_2), alloc_cell _ (below_cell BD0.out c0_2_2), alloc_cell _ (below_cell BD0.out c1_0_2), alloc_cell _ (below_cell BD0.out c1_1_2), alloc_cell _ (below_cell BD0.out c2_0_2), alloc_cell _ (below_cell BD0.out c2_1_2), alloc_cell _ (below_cell BD0.out c2_2_2), alloc_cell _ (below_cell BD0.out c2_3_2), alloc_cell _ (below_cell BD0.out c2_4_2)⟩ | go_keep) (first | (go_at_call 17; (first | (with_reducible refine (HS.out _ _ _ _ _ OD0_2.out.1 OD0_2.out.2.1 OD0_2.out.2.2 OD1_2.out).mono ?_) | (with_reducible refine (HS.out _ _ _ _ _ (OD0_2.out.1.later (below_alloc _ _)) (OD0_2.out.2.1.later (below_alloc _ _)) (OD0_2.out.2.2.later (below_alloc _ _)) (OD1_2.out.later (below_alloc _ _))).mono ?_)); rintro _ w3 ⟨xa9, xb9, xc9, us9, rfl, n9, rd9⟩; obtain ⟨az9, cz9, rfl⟩ := own_shape n9.z; obtain ⟨aw9, cw9, rfl⟩ := own_shape n9.s.row; obtain ⟨ab9, cb9, rfl⟩ := own_shape n9.b; have N9 := Lib.hid n9; clear n9; (first | (with_reducible have s9 := BD2.out.trans (rd9.mono BD2.out.size)) | (with_reducible have s9 := (below_alloced BD2.out BD2.out.size _).trans (rd9.mono (below_alloced BD2.out BD2.out.size _).size))); have lo9 := BD2.out.size; have lo8 := fun o => Nat.le_trans lo9 (below_alloc wd2 o).size; (first | (have hbl := BX.lt; with_reducible have BX := BoxM.later BX rd9; have hbl9 := hbl) | (with_reducible have BX := BoxM.after (B := w2.heap.size) rd9 lo9; have hbl9 := lt_alloc wd2) | skip); (first | (have bf9 := BX.f; have bc0 := BX.c0; have bc1 := BX.c1; have bc2 := BX.c2) | skip)) | (have _gd := BD1; go_at_call 19; (with_reducible refine (HTD2.out _ (by first | exact BD1.out | exact below_alloced BD1.out BD1.out.size _ | go_grown)).mono ?_); rintro _ wd2 ⟨rfl, od2_2, qd2, bd2⟩; have OD2_2 := Lib.hid od2_2; clear od2_2; have BD2 := Lib.hid bd2; clear bd2; (first | (with_reducible have BX := BoxM.later BX qd2) | (with_reducible have BX := BoxM.after (B := w2.heap.size) qd2 BD1.out.size) | (with_reducible have BX := BoxM.afterD (B := w2.heap.size) qd2 BD1.out.size) | skip); (first | (with_reducible have qq2 : Below wd1.heap.size wd1 wd2 := qd2) | (with_reducible have qq2 : Below wd1.heap.size wd1 wd2 := below_of_alloc qd2)); have QD2 := Lib.hid qq2; clear qq2; clear qd2; have od0_2 := And.intro (OD0_1.out.1.later QD2.out) (And.intro (OD0_1.out.2.1.later QD2.out) (OD0_1.out.2.2.later QD2.out)); have OD0_2 := Lib.hid od0_2; clear od0_2; have od1_2 := OD1_1.out.later QD2.out; have OD1_2 := Lib.hid od1_2; clear od1_2) | (have _gd := BD0; go_at_call 9; (with_reducible refine (HTD1.out _ (by first | exact BD0.out | exact below_alloced BD0.out BD0.out.size _ | go_grown)).mono ?_); rintro _ wd1 ⟨u1, rfl, od1_1, qd1, bd1⟩; have OD1_1 := Lib.hid od1_1; clear od1_1; have BD1 := Lib.hid bd1; clear bd1; (first | (with_reducible have BX := BoxM.later BX qd1) | (with_reducible have BX := BoxM.after (B := w2.heap.size) qd1 BD0.out.size) | (with_reducible have BX := BoxM.afterD (B := w2.heap.size) qd1 BD0.out.size) | skip); (first | (with_reducible have qq1 : Below wd0.heap.size wd0 wd1 := qd1) | (with_reducible have qq1 : Below wd0.heap.size wd0 wd1 := below_of_alloc qd1)); have QD1 := Lib.hid qq1; clear qq1; clear qd1; have od0_1 := And.intro (OD0_0.out.1.later QD1.out) (And.intro (OD0_0.out.2.1.later QD1.out) (OD0_0.out.2.2.later QD1.out)); have OD0_1 := Lib.hid od0_1; clear od0_1) | (go_at_call 18; (with_reducible refine (HTD0.out _ (by go_grown)).mono ?_); rintro _ wd0 ⟨ua0, ub0, uc0, rfl, od0_0, qd0, bd0⟩; have OD0_0 := Lib.hid od0_0; clear od0_0; have BD0 := Lib.hid bd0; clear bd0; (first | (with_reducible have BX := BoxM.later BX qd0) | (with_reducible have BX := BoxM.after (B := w2.heap.size) qd0 (Nat.le_refl _)) | (with_reducible have BX := BoxM.afterD (B := w2.heap.size) qd0 (Nat.le_refl _)) | skip); clear qd0))
        all_goals (go_wp2_with fail; go_meet; first | exact CutMN.mk s9 N9.out lo9 | exact CutMN.mk s9 N9.out (lo8 _) | exact CutMN.set BX s9 N9.out hbl9 lo9 | exact CutMN.set BX s9 N9.out (hbl9 _) (lo8 _))
      case rest =>
      obtain ⟨bx3, L3, H3, az1, aw1, ab1, pz1, pw1, pb1, us1, rfl, rfl, hbl3, hbt3, c3_0_3, c3_1_3, c3_2_3, om1, s3, hLl3, hLh3, hLd3⟩ := hcut
      generalize wc = w3 at *
      clear HTD0 HTD1 HTD2
      have y3 := s3.size
      have b3 := b2.trans (s3.mono z2)
      have z3 := b3.size
      have c0_0_3 := below_cell s3 c0_0_2
      clear c0_0_2
      have c0_1_3 := below_cell s3 c0_1_2
      clear c0_1_2
      have c0_2_3 := below_cell s3 c0_2_2
      clear c0_2_2
      have c1_0_3 := below_cell s3 c1_0_2
      clear c1_0_2
      have c1_1_3 := below_cell s3 c1_1_2
      clear c1_1_2
      have c2_0_3 := below_cell s3 c2_0_2
      clear c2_0_2
      have c2_1_3 := below_cell s3 c2_1_2
      clear c2_1_2
      have c2_2_3 := below_cell s3 c2_2_2
      clear c2_2_2
      have c2_3_3 := below_cell s3 c2_3_2
      clear c2_3_2
      have c2_4_3 := below_cell s3 c2_4_2
      clear c2_4_2
      clear al0_0_2
      clear al0_1_2
      clear al0_2_2
      clear al1_0_2
      clear al1_1_2
      clear al2_0_2
      clear al2_1_2
      clear al2_2_2
      clear al2_3_2
      clear al2_4_2
      have al0_0_3 := fun o => alloc_cell o c0_0_3
      have al0_1_3 := fun o => alloc_cell o c0_1_3
      have al0_2_3 := fun o => alloc_cell o c0_2_3
      have al1_0_3 := fun o => alloc_cell o c1_0_3
      have al1_1_3 := fun o => alloc_cell o c1_1_3
      have al2_0_3 := fun o => alloc_cell o c2_0_3
      have al2_1_3 := fun o => alloc_cell o c2_1_3
      have al2_2_3 := fun o => alloc_cell o c2_2_3
      have al2_3_3 := fun o => alloc_cell o c2_3_3
      have al2_4_3 := fun o => alloc_cell o c2_4_3
      have OM1_3 := Lib.hid om1; clear om1
      go_wp2_with fail
      refine (HT0.out _ b3).mono ?_
      rintro _ w4 ⟨xa2, xb2, xc2, us2, rfl, nm_2, r4⟩
      have s4 := r4
      have y4 := s4.size
      have b4 := b3.trans (s4.mono z3)
      have z4 := b4.size
      have c0_0_4 := below_cell s4 c0_0_3
      clear c0_0_3
      have c0_1_4 := below_cell s4 c0_1_3
      clear c0_1_3
      have c0_2_4 := below_cell s4 c0_2_3
      clear c0_2_3
      have c1_0_4 := below_cell s4 c1_0_3
      clear c1_0_3
      have c1_1_4 := below_cell s4 c1_1_3
      clear c1_1_3
      have c2_0_4 := below_cell s4 c2_0_3
      clear c2_0_3
      have c2_1_4 := below_cell s4 c2_1_3
      clear c2_1_3
      have c2_2_4 := below_cell s4 c2_2_3
      clear c2_2_3
      have c2_3_4 := below_cell s4 c2_3_3
      clear c2_3_3
      have c2_4_4 := below_cell s4 c2_4_3
      clear c2_4_3
      have c3_0_4 := below_cell s4 c3_0_3
      clear c3_0_3
      have c3_1_4 := below_cell s4 c3_1_3
      clear c3_1_3
      have c3_2_4 := below_cell s4 c3_2_3
      clear c3_2_3
      have o1_4 := OM1_3.out.later s4
      have O1_4 := Lib.hid o1_4; clear o1_4
      clear al0_0_3
      clear al0_1_3
      clear al0_2_3
      clear al1_0_3
      clear al1_1_3
      clear al2_0_3
      clear al2_1_3
      clear al2_2_3
      clear al2_3_3
      clear al2_4_3
      have al0_0_4 := fun o => alloc_cell o c0_0_4
      have al0_1_4 := fun o => alloc_cell o c0_1_4
      have al0_2_4 := fun o => alloc_cell o c0_2_4
      have al1_0_4 := fun o => alloc_cell o c1_0_4
      have al1_1_4 := fun o => alloc_cell o c1_1_4
      have al2_0_4 := fun o => alloc_cell o c2_0_4
      have al2_1_4 := fun o => alloc_cell o c2_1_4
      have al2_2_4 := fun o => alloc_cell o c2_2_4
      have al2_3_4 := fun o => alloc_cell o c2_3_4
      have al2_4_4 := fun o => alloc_cell o c2_4_4
      have al3_0_4 := fun o => alloc_cell o c3_0_4
      have al3_1_4 := fun o => alloc_cell o c3_1_4
      have al3_2_4 := fun o => alloc_cell o c3_2_4
      obtain ⟨az2, pz2, rfl⟩ := own_shape nm_2.z
      obtain ⟨aw2, pw2, rfl⟩ := own_shape nm_2.s.row
      obtain ⟨ab2, pb2, rfl⟩ := own_shape nm_2.b
      have om2 : OwnM w3.heap.size w4.heap.size w4 (.slice az2 zs0.length pz2) (.slice aw2 ws0.length pw2) (.slice ab2 bs0.length pb2) us2 zs0 ws0 bs0 := nm_2.wide (by first | exact Nat.le_refl _ | (simp; done) | (simp; omega)) (Nat.le_refl _)
      clear nm_2
      have OM2_4 := Lib.hid om2; clear om2
      go_wp2_with fail
      refine (HT1.out _ (by go_grown)).mono ?_
      rintro _ w5 ⟨x3, rfl, n3, r5⟩
      have s5 : Below w4.heap.size w4 w5 := Below.trans (by go_grown) (r5.mono (by simp; try omega))
      have y5 := s5.size
      have v5 : w4.heap.size + 1 ≤ w5.heap.size := by have := r5.size; simp only [World.size_alloc] at this; omega
      have b5 := b4.trans (s5.mono z4)
      have z5 := b5.size
      have c0_0_5 := below_cell s5 c0_0_4
      clear c0_0_4
      have c0_1_5 := below_cell s5 c0_1_4
      clear c0_1_4
      have c0_2_5 := below_cell s5 c0_2_4
      clear c0_2_4
      have c1_0_5 := below_cell s5 c1_0_4
      clear c1_0_4
      have c1_1_5 := below_cell s5 c1_1_4
      clear c1_1_4
      have c2_0_5 := below_cell s5 c2_0_4
      clear c2_0_4
      have c2_1_5 := below_cell s5 c2_1_4
      clear c2_1_4
      have c2_2_5 := below_cell s5 c2_2_4
      clear c2_2_4
      have c2_3_5 := below_cell s5 c2_3_4
      clear c2_3_4
      have c2_4_5 := below_cell s5 c2_4_4
      clear c2_4_4
      have c3_0_5 := below_cell s5 c3_0_4
      clear c3_0_4
      have c3_1_5 := below_cell s5 c3_1_4
      clear c3_1_4
      have c3_2_5 := below_cell s5 c3_2_4
      clear c3_2_4
      have c4_0_5 := below_cell r5 (p := ⟨w4.heap.size, 0, none⟩) (v := .slice az2 zs0.length pz2) (by simp [go_sem])
      have c4_1_5 := below_cell r5 (p := ⟨w4.heap.size, 1, none⟩) (v := .slice aw2 ws0.length pw2) (by simp [go_sem])
      have c4_2_5 := below_cell r5 (p := ⟨w4.heap.size, 2, none⟩) (v := .slice ab2 bs0.length pb2) (by simp [go_sem])
      have o1_5 := O1_4.out.later s5
      have O1_5 := Lib.hid o1_5; clear o1_5
      have o2_5 := OM2_4.out.later s5
      have O2_5 := Lib.hid o2_5; clear o2_5
      clear r5
      clear al0_0_4
      clear al0_1_4
      clear al0_2_4
      clear al1_0_4
      clear al1_1_4
      clear al2_0_4
      clear al2_1_4
      clear al2_2_4
      clear al2_3_4
      clear al2_4_4
      clear al3_0_4
      clear al3_1_4
      clear al3_2_4
      have al0_0_5 := fun o => alloc_cell o c0_0_5
      have al0_1_5 := fun o => alloc_cell o c0_1_5
      have al0_2_5 := fun o => alloc_cell o c0_2_5
      have al1_0_5 := fun o => alloc_cell o c1_0_5
      have al1_1_5 := fun o => alloc_cell o c1_1_5
      have al2_0_5 := fun o => alloc_cell o c2_0_5
      have al2_1_5 := fun o => alloc_cell o c2_1_5
      have al2_2_5 := fun o => alloc_cell o c2_2_5
      have al2_3_5 := fun o => alloc_cell o c2_3_5
      have al2_4_5 := fun o => alloc_cell o c2_4_5
      have al3_0_5 := fun o => alloc_cell o c3_0_5
      have al3_1_5 := fun o => alloc_cell o c3_1_5
      have al3_2_5 := fun o => alloc_cell o c3_2_5
      have al4_0_5 := fun o => alloc_cell o c4_0_5
      have al4_1_5 := fun o => alloc_cell o c4_1_5
      have al4_2_5 := fun o => alloc_cell o c4_2_5
      obtain ⟨ao3, cap3, g3, rfl, _, _⟩ := own_open n3
      have up3 := fun k hk => (World.ownsRow.lt n3 k hk).2
      have lo3 := fun k hk => (World.ownsRow.lt n3 k hk).1
      try simp only [World.size_alloc] at lo3
      have UP3 := Lib.hid up3; clear up3
      have LO3 := Lib.hid lo3; clear lo3
      have o3' := n3
      have O3_5 := Lib.hid o3'; clear o3'
      clear n3
      go_upto_region 11 with fail
      obtain ⟨w6, hwq⟩ : ∃ x, x = w5.alloc (.cells #[.string nm1, .slice ao3 rs1.length cap3] 31) := ⟨_, rfl⟩
      rw [← hwq]
      have r6 : Below (w5.alloc (.cells #[.string nm1, .slice ao3 rs1.length cap3] 31)).heap.size (w5.alloc (.cells #[.string nm1, .slice ao3 rs1.length cap3] 31)) w6 := by rw [hwq]; exact Below.refl _ _
      clear hwq
      have s6 : Below w5.heap.size w5 w6 := Below.trans (by go_grown) (r6.mono (by simp; try omega))
      have y6 := s6.size
      have v6 : w5.heap.size + 1 ≤ w6.heap.size := by have := r6.size; simp only [World.size_alloc] at this; omega
      have b6 := b5.trans (s6.mono z5)
      have z6 := b6.size
      have c0_0_6 := below_cell s6 c0_0_5
      clear c0_0_5
      have c0_1_6 := below_cell s6 c0_1_5
      clear c0_1_5
      have c0_2_6 := below_cell s6 c0_2_5
      clear c0_2_5
      have c1_0_6 := below_cell s6 c1_0_5
      clear c1_0_5
      have c1_1_6 := below_cell s6 c1_1_5
      clear c1_1_5
      have c2_0_6 := below_cell s6 c2_0_5
      clear c2_0_5
      have c2_1_6 := below_cell s6 c2_1_5
      clear c2_1_5
      have c2_2_6 := below_cell s6 c2_2_5
      clear c2_2_5
      have c2_3_6 := below_cell s6 c2_3_5
      clear c2_3_5
      have c2_4_6 := below_cell s6 c2_4_5
      clear c2_4_5
      have c3_0_6 := below_cell s6 c3_0_5
      clear c3_0_5
      have c3_1_6 := below_cell s6 c3_1_5
      clear c3_1_5
      have c3_2_6 := below_cell s6 c3_2_5
      clear c3_2_5
      have c4_0_6 := below_cell s6 c4_0_5
      clear c4_0_5
      have c4_1_6 := below_cell s6 c4_1_5
      clear c4_1_5
      have c4_2_6 := below_cell s6 c4_2_5
      clear c4_2_5
      have c5_0_6 := below_cell r6 (p := ⟨w5.heap.size, 0, none⟩) (v := .string nm1) (by simp [go_sem])
      have c5_1_6 := below_cell r6 (p := ⟨w5.heap.size, 1, none⟩) (v := .slice ao3 rs1.length cap3) (by simp [go_sem])
      have o1_6 := O1_5.out.later s6
      have O1_6 := Lib.hid o1_6; clear o1_6
      have o2_6 := O2_5.out.later s6
      have O2_6 := Lib.hid o2_6; clear o2_6
      have o3_6 := own_later O3_5.out s6
      have O3_6 := Lib.hid o3_6; clear o3_6
      clear r6
      clear al0_0_5
      clear al0_1_5
      clear al0_2_5
      clear al1_0_5
      clear al1_1_5
      clear al2_0_5
      clear al2_1_5
      clear al2_2_5
      clear al2_3_5
      clear al2_4_5
      clear al3_0_5
      clear al3_1_5
      clear al3_2_5
      clear al4_0_5
      clear al4_1_5
      clear al4_2_5
      have al0_0_6 := fun o => alloc_cell o c0_0_6
      have al0_1_6 := fun o => alloc_cell o c0_1_6
      have al0_2_6 := fun o => alloc_cell o c0_2_6
      have al1_0_6 := fun o => alloc_cell o c1_0_6
      have al1_1_6 := fun o => alloc_cell o c1_1_6
      have al2_0_6 := fun o => alloc_cell o c2_0_6
      have al2_1_6 := fun o => alloc_cell o c2_1_6
      have al2_2_6 := fun o => alloc_cell o c2_2_6
      have al2_3_6 := fun o => alloc_cell o c2_3_6
      have al2_4_6 := fun o => alloc_cell o c2_4_6
      have al3_0_6 := fun o => alloc_cell o c3_0_6
      have al3_1_6 := fun o => alloc_cell o c3_1_6
      have al3_2_6 := fun o => alloc_cell o c3_2_6
      have al4_0_6 := fun o => alloc_cell o c4_0_6
      have al4_1_6 := fun o => alloc_cell o c4_1_6
      have al4_2_6 := fun o => alloc_cell o c4_2_6
      have al5_0_6 := fun o => alloc_cell o c5_0_6
      have al5_1_6 := fun o => alloc_cell o c5_1_6
      have htd0 : ∀ w', Below w6.heap.size w6 w' → Calls Try.prog 19 #[.agg #[.int .i64 so2a, .int .i64 so2b, .int .i64 so2c, .int .i64 so2d, .int .i64 so2e]] w' (fun e w'' => e = .returned (.agg #[.int .i64 so2a, .int .i64 so2b, .int .i64 so2c, .int .i64 so2d, .int .i64 so2e]) ∧ (True) ∧ Below w'.heap.size w' w'' ∧ Below w6.heap.size w6 w'') := fun w' hb => (HT2.out w').mono fun _ _ ⟨e, b⟩ => ⟨e, trivial, b, hb.trans (b.mono hb.size)⟩
      have HTD0 := Lib.hid htd0; clear htd0
      have rv1 := (Rd.of_own O2_6.out.z)
      have RV1 := Lib.hid rv1; clear rv1
      have rv2 := (O2_6.out.s.rd)
      have RV2 := Lib.hid rv2; clear rv2
      have rv3 := (Rd.of_own O2_6.out.b)
      have RV3 := Lib.hid rv3; clear rv3
      have rv4 := (Rd.of_own O3_6.out)
      have RV4 := Lib.hid rv4; clear rv4
      go_upto_region 11 with fail
      go_cut [12, 13] from 43 to 50 (fun s6 s7 wx => CutMN qz0 qw0 qb0 t1 w6 s6 s7 wx)
      case first =>
        go_region_held3 (fun w' => w'.cell? ⟨w4.heap.size, 0, none⟩ = some (.slice az2 zs0.length pz2) ∧ w'.cell? ⟨w4.heap.size, 1, none⟩ = some (.slice aw2 ws0.length pw2) ∧ w'.cell? ⟨w4.heap.size, 2, none⟩ = some (.slice ab2 bs0.length pb2) ∧ w'.cell? ⟨w5.heap.size, 0, none⟩ = some (.string nm1) ∧ w'.cell? ⟨w5.heap.size, 1, none⟩ = some (.slice ao3 rs1.length cap3) ∧ w'.cell? ⟨w.heap.size + 1 + 1, 0, none⟩ = some (.int .i64 so2a) ∧ w'.cell? ⟨w.heap.size + 1 + 1, 1, none⟩ = some (.int .i64 so2b) ∧ w'.cell? ⟨w.heap.size + 1 + 1, 2, none⟩ = some (.int .i64 so2c) ∧ w'.cell? ⟨w.heap.size + 1 + 1, 3, none⟩ = some (.int .i64 so2d) ∧ w'.cell? ⟨w.heap.size + 1 + 1, 4, none⟩ = some (.int .i64 so2e)) (first | with_reducible exact ⟨c4_0_6, c4_1_6, c4_2_6, c5_0_6, c5_1_6, c2_0_6, c2_1_6, c2_2_6, c2_3_6, c2_4_6⟩ | with_reducible exact ⟨alloc_cell _ c4_0_6, alloc_cell _ c4_1_6, alloc_cell _ c4_2_6, alloc_cell _ c5_0_6, alloc_cell _ c5_1_6, alloc_cell _ c2_0_6, alloc_cell _ c2_1_6, alloc_cell _ c2_2_6, alloc_cell _ c2_3_6, alloc_cell _ c2_4_6⟩ | with_reducible exact ⟨below_cell s9 c4_0_6, below_cell s9 c4_1_6, below_cell s9 c4_2_6, below_cell s9 c5_0_6, below_cell s9 c5_1_6, below_cell s9 c2_0_6, below_cell s9 c2_1_6, below_cell s9 c2_2_6, below_cell s9 c2_3_6, below_cell s9 c2_4_6⟩ | with_reducible exact ⟨alloc_cell _ (below_cell s9 c4_0_6), alloc_cell _ (below_cell s9 c4_1_6), alloc_cell _ (below_cell s9 c4_2_6), alloc_cell _ (below_cell s9 c5_0_6), alloc_cell _ (below_cell s9 c5_1_6), alloc_cell _ (below_cell s9 c2_0_6), alloc_cell _ (below_cell s9 c2_1_6), alloc_cell _ (below_cell s9 c2_2_6), alloc_cell _ (below_cell s9 c2_3_6), alloc_cell _ (below_cell s9 c2_4_6)⟩ | with_reducible exact ⟨BX.keep (below_cell s9 c4_0_6) (World.block_lt_of_cell? _ _ c4_0_6) _ _ _, BX.keep (below_cell s9 c4_1_6) (World.block_lt_of_cell? _ _ c4_1_6) _ _ _, BX.keep (below_cell s9 c4_2_6) (World.block_lt_of_cell? _ _ c4_2_6) _ _ _, BX.keep (below_cell s9 c5_0_6) (World.block_lt_of_cell? _ _ c5_0_6) _ _ _, BX.keep (below_cell s9 c5_1_6) (World.block_lt_of_cell? _ _ c5_1_6) _ _ _, BX.keep (below_cell s9 c2_0_6) (World.block_lt_of_cell? _ _ c2_0_6) _ _ _, BX.keep (below_cell s9 c2_1_6) (World.block_lt_of_cell? _ _ c2_1_6) _ _ _, BX.keep (below_cell s9 c2_2_6) (World.block_lt_of_cell? _ _ c2_2_6) _ _ _, BX.keep (below_cell s9 c2_3_6) (World.block_lt_of_cell? _ _ c2_3_6) _ _ _, BX.keep (below_cell s9 c2_4_6) (World.block_lt_of_cell? _ _ c2_4_6) _ _ _⟩ | with_reducible exact ⟨below_cell BD0.out c4_0_6, below_cell BD0.out c4_1_6, below_cell BD0.out c4_2_6, below_cell BD0.out c5_0_6, below_cell BD0.out c5_1_6, below_cell BD0.out c2_0_6, below_cell BD0.out c2_1_6, below_cell BD0.out c2_2_6, below_cell BD0.out c2_3_6, below_cell BD0.out c2_4_6⟩ | with_reducible exact ⟨alloc_cell _ (below_cell BD0.out c4_0_6), alloc_cell _ (below_cell BD0.out c4_1_6), alloc_cell _ (below_cell BD0.out c4_2_6), alloc_cell _ (below_cell BD0.out c5_0_6), alloc_cell _ (below_cell BD0.out c5_1_6), alloc_cell _ (below_cell BD0.out c2_0_6), alloc_cell _ (below_cell BD0.out c2_1_6), alloc_cell _ (below_cell BD0.out c2_2_6), alloc_cell _ (below_cell BD0.out c2_3_6), alloc_cell _ (below_cell BD0.out c2_4_6)⟩ | go_keep) (first | (go_at_call 20; (first | (with_reducible refine (HI.out _ _ _ _ _ (RV1.out.later BD0.out) (RV2.out.later BD0.out) (RV3.out.later BD0.out) (RV4.out.later BD0.out)).mono ?_) | (with_reducible refine (HI.out _ _ _ _ _ ((RV1.out.later BD0.out).later (below_alloc _ _)) ((RV2.out.later BD0.out).later (below_alloc _ _)) ((RV3.out.later BD0.out).later (below_alloc _ _)) ((RV4.out.later BD0.out).later (below_alloc _ _))).mono ?_)); rintro _ w7 ⟨xa9, xb9, xc9, us9, rfl, n9, rd9⟩; obtain ⟨az9, cz9, rfl⟩ := own_shape n9.z; obtain ⟨aw9, cw9, rfl⟩ := own_shape n9.s.row; obtain ⟨ab9, cb9, rfl⟩ := own_shape n9.b; have N9 := Lib.hid n9; clear n9; (first | (with_reducible have s9 := BD0.out.trans (rd9.mono BD0.out.size)) | (with_reducible have s9 := (below_alloced BD0.out BD0.out.size _).trans (rd9.mono (below_alloced BD0.out BD0.out.size _).size))); have lo9 := BD0.out.size; have lo8 := fun o => Nat.le_trans lo9 (below_alloc wd0 o).size; (first | (have hbl := BX.lt; with_reducible have BX := BoxM.later BX rd9; have hbl9 := hbl) | (with_reducible have BX := BoxM.after (B := w6.heap.size) rd9 lo9; have hbl9 := lt_alloc wd0) | skip); (first | (have bf9 := BX.f; have bc0 := BX.c0; have bc1 := BX.c1; have bc2 := BX.c2) | skip)) | (go_at_call 19; (with_reducible refine (HTD0.out _ (by go_grown)).mono ?_); rintro _ wd0 ⟨rfl, od0_0, qd0, bd0⟩; have OD0_0 := Lib.hid od0_0; clear od0_0; have BD0 := Lib.hid bd0; clear bd0; (first | (with_reducible have BX := BoxM.later BX qd0) | (with_reducible have BX := BoxM.after (B := w6.heap.size) qd0 (Nat.le_refl _)) | (with_reducible have BX := BoxM.afterD (B := w6.heap.size) qd0 (Nat.le_refl _)) | skip); clear qd0))
        all_goals (go_wp2_with fail; go_meet; first | exact CutMN.mk s9 N9.out lo9 | exact CutMN.mk s9 N9.out (lo8 _) | exact CutMN.set BX s9 N9.out hbl9 lo9 | exact CutMN.set BX s9 N9.out (hbl9 _) (lo8 _))
      case rest =>
      obtain ⟨bx7, L7, H7, az4, aw4, ab4, pz4, pw4, pb4, us4, rfl, rfl, hbl7, hbt7, c6_0_7, c6_1_7, c6_2_7, om4, s7, hLl7, hLh7, hLd7⟩ := hcut
      generalize wc = w7 at *
      clear HTD0
      have y7 := s7.size
      have b7 := b6.trans (s7.mono z6)
      have z7 := b7.size
      have c0_0_7 := below_cell s7 c0_0_6
      clear c0_0_6
      have c0_1_7 := below_cell s7 c0_1_6
      clear c0_1_6
      have c0_2_7 := below_cell s7 c0_2_6
      clear c0_2_6
      have c1_0_7 := below_cell s7 c1_0_6
      clear c1_0_6
      have c1_1_7 := below_cell s7 c1_1_6
      clear c1_1_6
      have c2_0_7 := below_cell s7 c2_0_6
      clear c2_0_6
      have c2_1_7 := below_cell s7 c2_1_6
      clear c2_1_6
      have c2_2_7 := below_cell s7 c2_2_6
      clear c2_2_6
      have c2_3_7 := below_cell s7 c2_3_6
      clear c2_3_6
      have c2_4_7 := below_cell s7 c2_4_6
      clear c2_4_6
      have c3_0_7 := below_cell s7 c3_0_6
      clear c3_0_6
      have c3_1_7 := below_cell s7 c3_1_6
      clear c3_1_6
      have c3_2_7 := below_cell s7 c3_2_6
      clear c3_2_6
      have c4_0_7 := below_cell s7 c4_0_6
      clear c4_0_6
      have c4_1_7 := below_cell s7 c4_1_6
      clear c4_1_6
      have c4_2_7 := below_cell s7 c4_2_6
      clear c4_2_6
      have c5_0_7 := below_cell s7 c5_0_6
      clear c5_0_6
      have c5_1_7 := below_cell s7 c5_1_6
      clear c5_1_6
      have o1_7 := O1_6.out.later s7
      have O1_7 := Lib.hid o1_7; clear o1_7
      have o2_7 := O2_6.out.later s7
      have O2_7 := Lib.hid o2_7; clear o2_7
      have o3_7 := own_later O3_6.out s7
      have O3_7 := Lib.hid o3_7; clear o3_7
      clear al0_0_6
      clear al0_1_6
      clear al0_2_6
      clear al1_0_6
      clear al1_1_6
      clear al2_0_6
      clear al2_1_6
      clear al2_2_6
      clear al2_3_6
      clear al2_4_6
      clear al3_0_6
      clear al3_1_6
      clear al3_2_6
      clear al4_0_6
      clear al4_1_6
      clear al4_2_6
      clear al5_0_6
      clear al5_1_6
      have al0_0_7 := fun o => alloc_cell o c0_0_7
      have al0_1_7 := fun o => alloc_cell o c0_1_7
      have al0_2_7 := fun o => alloc_cell o c0_2_7
      have al1_0_7 := fun o => alloc_cell o c1_0_7
      have al1_1_7 := fun o => alloc_cell o c1_1_7
      have al2_0_7 := fun o => alloc_cell o c2_0_7
      have al2_1_7 := fun o => alloc_cell o c2_1_7
      have al2_2_7 := fun o => alloc_cell o c2_2_7
      have al2_3_7 := fun o => alloc_cell o c2_3_7
      have al2_4_7 := fun o => alloc_cell o c2_4_7
      have al3_0_7 := fun o => alloc_cell o c3_0_7
      have al3_1_7 := fun o => alloc_cell o c3_1_7
      have al3_2_7 := fun o => alloc_cell o c3_2_7
      have al4_0_7 := fun o => alloc_cell o c4_0_7
      have al4_1_7 := fun o => alloc_cell o c4_1_7
      have al4_2_7 := fun o => alloc_cell o c4_2_7
      have al5_0_7 := fun o => alloc_cell o c5_0_7
      have al5_1_7 := fun o => alloc_cell o c5_1_7
      have OM4_7 := Lib.hid om4; clear om4
      go_wp2_with fail
      refine (HEq.out _ _ _ _ _ _ _ (Rd.of_own OM4_7.out.z) (OM4_7.out.s.rd) (Rd.of_own OM4_7.out.b) (Rd.of_own O1_7.out.z) (O1_7.out.s.rd) (Rd.of_own O1_7.out.b)).mono ?_
      rintro _ w8 ⟨rfl, r8⟩
      have s8 := r8
      have y8 := s8.size
      have b8 := b7.trans (s8.mono z7)
      have z8 := b8.size
      have c0_0_8 := below_cell s8 c0_0_7
      clear c0_0_7
      have c0_1_8 := below_cell s8 c0_1_7
      clear c0_1_7
      have c0_2_8 := below_cell s8 c0_2_7
      clear c0_2_7
      have c1_0_8 := below_cell s8 c1_0_7
      clear c1_0_7
      have c1_1_8 := below_cell s8 c1_1_7
      clear c1_1_7
      have c2_0_8 := below_cell s8 c2_0_7
      clear c2_0_7
      have c2_1_8 := below_cell s8 c2_1_7
      clear c2_1_7
      have c2_2_8 := below_cell s8 c2_2_7
      clear c2_2_7
      have c2_3_8 := below_cell s8 c2_3_7
      clear c2_3_7
      have c2_4_8 := below_cell s8 c2_4_7
      clear c2_4_7
      have c3_0_8 := below_cell s8 c3_0_7
      clear c3_0_7
      have c3_1_8 := below_cell s8 c3_1_7
      clear c3_1_7
      have c3_2_8 := below_cell s8 c3_2_7
      clear c3_2_7
      have c4_0_8 := below_cell s8 c4_0_7
      clear c4_0_7
      have c4_1_8 := below_cell s8 c4_1_7
      clear c4_1_7
      have c4_2_8 := below_cell s8 c4_2_7
      clear c4_2_7
      have c5_0_8 := below_cell s8 c5_0_7
      clear c5_0_7
      have c5_1_8 := below_cell s8 c5_1_7
      clear c5_1_7
      have c6_0_8 := below_cell s8 c6_0_7
      clear c6_0_7
      have c6_1_8 := below_cell s8 c6_1_7
      clear c6_1_7
      have c6_2_8 := below_cell s8 c6_2_7
      clear c6_2_7
      have o1_8 := O1_7.out.later s8
      have O1_8 := Lib.hid o1_8; clear o1_8
      have o2_8 := O2_7.out.later s8
      have O2_8 := Lib.hid o2_8; clear o2_8
      have o3_8 := own_later O3_7.out s8
      have O3_8 := Lib.hid o3_8; clear o3_8
      have o4_8 := OM4_7.out.later s8
      have O4_8 := Lib.hid o4_8; clear o4_8
      clear al0_0_7
      clear al0_1_7
      clear al0_2_7
      clear al1_0_7
      clear al1_1_7
      clear al2_0_7
      clear al2_1_7
      clear al2_2_7
      clear al2_3_7
      clear al2_4_7
      clear al3_0_7
      clear al3_1_7
      clear al3_2_7
      clear al4_0_7
      clear al4_1_7
      clear al4_2_7
      clear al5_0_7
      clear al5_1_7
      have al0_0_8 := fun o => alloc_cell o c0_0_8
      have al0_1_8 := fun o => alloc_cell o c0_1_8
      have al0_2_8 := fun o => alloc_cell o c0_2_8
      have al1_0_8 := fun o => alloc_cell o c1_0_8
      have al1_1_8 := fun o => alloc_cell o c1_1_8
      have al2_0_8 := fun o => alloc_cell o c2_0_8
      have al2_1_8 := fun o => alloc_cell o c2_1_8
      have al2_2_8 := fun o => alloc_cell o c2_2_8
      have al2_3_8 := fun o => alloc_cell o c2_3_8
      have al2_4_8 := fun o => alloc_cell o c2_4_8
      have al3_0_8 := fun o => alloc_cell o c3_0_8
      have al3_1_8 := fun o => alloc_cell o c3_1_8
      have al3_2_8 := fun o => alloc_cell o c3_2_8
      have al4_0_8 := fun o => alloc_cell o c4_0_8
      have al4_1_8 := fun o => alloc_cell o c4_1_8
      have al4_2_8 := fun o => alloc_cell o c4_2_8
      have al5_0_8 := fun o => alloc_cell o c5_0_8
      have al5_1_8 := fun o => alloc_cell o c5_1_8
      have al6_0_8 := fun o => alloc_cell o c6_0_8
      have al6_1_8 := fun o => alloc_cell o c6_1_8
      have al6_2_8 := fun o => alloc_cell o c6_2_8
      go_wp2_with fail
      have ht5 : ∀ w', Below w8.heap.size w8 w' → Calls Try.prog 18 #[.agg #[zv0, wv0, bv0]] w' (fun e w'' => ∃ ua ub uc, e = .returned (.agg #[ua, ub, uc]) ∧ ((Rd w'' ua zs0.length (ints zs0) ∧ RdSS w'' ub ws0 ∧ Rd w'' uc bs0.length (ints bs0)) ∧ Below w8.heap.size w8 w'')) := fun w' hb => (HT0.out w' (b8.trans (hb.mono z8))).mono fun _ _ ⟨va, vb, vc, us, e, o, b⟩ => ⟨va, vb, vc, e, ⟨Rd.of_own o.z, o.s.rd, Rd.of_own o.b⟩, hb.trans (b.mono hb.size)⟩
      have he5 : ∀ w' ua ub uc, (Rd w' ua zs0.length (ints zs0) ∧ RdSS w' ub ws0 ∧ Rd w' uc bs0.length (ints bs0)) ∧ Below w8.heap.size w8 w' → Calls Try.prog 21 #[.agg #[.slice az2 zs0.length pz2, .slice aw2 ws0.length pw2, .slice ab2 bs0.length pb2], .agg #[ua, ub, uc]] w' (fun e w'' => e = .returned (.bool true) ∧ Below w8.heap.size w8 w'') := fun w' va vb vc ⟨o, hb⟩ => (HE0.out w' _ _ _ _ _ _ (Rd.of_own (O2_8.out.later hb).z) (O2_8.out.later hb).s.rd (Rd.of_own (O2_8.out.later hb).b) o.1 o.2.1 o.2.2).mono fun _ _ ⟨e, b⟩ => ⟨e, hb.trans (b.mono hb.size)⟩
      have HT5 := Lib.hid ht5; clear ht5
      have HE5 := Lib.hid he5; clear he5
      go_region_held3 (fun w' => w'.cell? ⟨w.heap.size, 0, none⟩ = some (zv0) ∧ w'.cell? ⟨w.heap.size, 1, none⟩ = some (wv0) ∧ w'.cell? ⟨w.heap.size, 2, none⟩ = some (bv0) ∧ w'.cell? ⟨w4.heap.size, 0, none⟩ = some (.slice az2 zs0.length pz2) ∧ w'.cell? ⟨w4.heap.size, 1, none⟩ = some (.slice aw2 ws0.length pw2) ∧ w'.cell? ⟨w4.heap.size, 2, none⟩ = some (.slice ab2 bs0.length pb2)) (first | exact ⟨c0_0_8, c0_1_8, c0_2_8, c4_0_8, c4_1_8, c4_2_8⟩ | exact ⟨below_cell O6.out.2 c0_0_8, below_cell O6.out.2 c0_1_8, below_cell O6.out.2 c0_2_8, below_cell O6.out.2 c4_0_8, below_cell O6.out.2 c4_1_8, below_cell O6.out.2 c4_2_8⟩ | exact ⟨below_cell s9 c0_0_8, below_cell s9 c0_1_8, below_cell s9 c0_2_8, below_cell s9 c4_0_8, below_cell s9 c4_1_8, below_cell s9 c4_2_8⟩ | go_keep) (first | (go_at_call 18; refine (HT5.out _ (by go_grown)).mono ?_; rintro _ ww6 ⟨va6, vb6, vc6, rfl, o6⟩; have O6 := Lib.hid o6; clear o6) | (go_at_call 21; refine (HE5.out _ _ _ _ (by assumption)).mono ?_; rintro _ w9 ⟨rfl, s9⟩))
      clear HT5 HE5
      have y9 := s9.size
      have b9 := b8.trans (s9.mono z8)
      have z9 := b9.size
      have c0_0_9 := below_cell s9 c0_0_8
      clear c0_0_8
      have c0_1_9 := below_cell s9 c0_1_8
      clear c0_1_8
      have c0_2_9 := below_cell s9 c0_2_8
      clear c0_2_8
      have c1_0_9 := below_cell s9 c1_0_8
      clear c1_0_8
      have c1_1_9 := below_cell s9 c1_1_8
      clear c1_1_8
      have c2_0_9 := below_cell s9 c2_0_8
      clear c2_0_8
      have c2_1_9 := below_cell s9 c2_1_8
      clear c2_1_8
      have c2_2_9 := below_cell s9 c2_2_8
      clear c2_2_8
      have c2_3_9 := below_cell s9 c2_3_8
      clear c2_3_8
      have c2_4_9 := below_cell s9 c2_4_8
      clear c2_4_8
      have c3_0_9 := below_cell s9 c3_0_8
      clear c3_0_8
      have c3_1_9 := below_cell s9 c3_1_8
      clear c3_1_8
      have c3_2_9 := below_cell s9 c3_2_8
      clear c3_2_8
      have c4_0_9 := below_cell s9 c4_0_8
      clear c4_0_8
      have c4_1_9 := below_cell s9 c4_1_8
      clear c4_1_8
      have c4_2_9 := below_cell s9 c4_2_8
      clear c4_2_8
      have c5_0_9 := below_cell s9 c5_0_8
      clear c5_0_8
      have c5_1_9 := below_cell s9 c5_1_8
      clear c5_1_8
      have c6_0_9 := below_cell s9 c6_0_8
      clear c6_0_8
      have c6_1_9 := below_cell s9 c6_1_8
      clear c6_1_8
      have c6_2_9 := below_cell s9 c6_2_8
      clear c6_2_8
      have o1_9 := O1_8.out.later s9
      have O1_9 := Lib.hid o1_9; clear o1_9
      have o2_9 := O2_8.out.later s9
      have O2_9 := Lib.hid o2_9; clear o2_9
      have o3_9 := own_later O3_8.out s9
      have O3_9 := Lib.hid o3_9; clear o3_9
      have o4_9 := O4_8.out.later s9
      have O4_9 := Lib.hid o4_9; clear o4_9
      clear al0_0_8
      clear al0_1_8
      clear al0_2_8
      clear al1_0_8
      clear al1_1_8
      clear al2_0_8
      clear al2_1_8
      clear al2_2_8
      clear al2_3_8
      clear al2_4_8
      clear al3_0_8
      clear al3_1_8
      clear al3_2_8
      clear al4_0_8
      clear al4_1_8
      clear al4_2_8
      clear al5_0_8
      clear al5_1_8
      clear al6_0_8
      clear al6_1_8
      clear al6_2_8
      have al0_0_9 := fun o => alloc_cell o c0_0_9
      have al0_1_9 := fun o => alloc_cell o c0_1_9
      have al0_2_9 := fun o => alloc_cell o c0_2_9
      have al1_0_9 := fun o => alloc_cell o c1_0_9
      have al1_1_9 := fun o => alloc_cell o c1_1_9
      have al2_0_9 := fun o => alloc_cell o c2_0_9
      have al2_1_9 := fun o => alloc_cell o c2_1_9
      have al2_2_9 := fun o => alloc_cell o c2_2_9
      have al2_3_9 := fun o => alloc_cell o c2_3_9
      have al2_4_9 := fun o => alloc_cell o c2_4_9
      have al3_0_9 := fun o => alloc_cell o c3_0_9
      have al3_1_9 := fun o => alloc_cell o c3_1_9
      have al3_2_9 := fun o => alloc_cell o c3_2_9
      have al4_0_9 := fun o => alloc_cell o c4_0_9
      have al4_1_9 := fun o => alloc_cell o c4_1_9
      have al4_2_9 := fun o => alloc_cell o c4_2_9
      have al5_0_9 := fun o => alloc_cell o c5_0_9
      have al5_1_9 := fun o => alloc_cell o c5_1_9
      have al6_0_9 := fun o => alloc_cell o c6_0_9
      have al6_1_9 := fun o => alloc_cell o c6_1_9
      have al6_2_9 := fun o => alloc_cell o c6_2_9
      go_wp2_with fail
      have ht5 : ∀ w', Below w9.heap.size w9 w' → Calls Try.prog 9 #[.agg #[.string nm1, sv1]] w' (fun e w'' => ∃ u, e = .returned (.agg #[.string nm1, u]) ∧ (OwnR w'.heap.size w'' u rs1 ∧ Below w9.heap.size w9 w'')) := fun w' hb => (HT1.out w' (b9.trans (hb.mono z9))).mono fun _ _ ⟨v, e, o, b⟩ => ⟨v, e, o, hb.trans (b.mono hb.size)⟩
      have he5 : ∀ B w' u, OwnR B w' u rs1 ∧ Below w9.heap.size w9 w' → Calls Try.prog 12 #[.agg #[.string nm1, .slice ao3 rs1.length cap3], .agg #[.string nm1, u]] w' (fun e w'' => e = .returned (.bool true) ∧ Below w9.heap.size w9 w'') := fun B w' v ⟨o, hb⟩ => (HE1.out w' _ _ (Rd.of_own (own_later O3_9.out hb)) (Rd.of_own o)).mono fun _ _ ⟨e, b⟩ => ⟨e, hb.trans (b.mono hb.size)⟩
      have HT5 := Lib.hid ht5; clear ht5
      have HE5 := Lib.hid he5; clear he5
      go_region_held3 (fun w' => w'.cell? ⟨w.heap.size + 1, 0, none⟩ = some (.string nm1) ∧ w'.cell? ⟨w.heap.size + 1, 1, none⟩ = some (sv1) ∧ w'.cell? ⟨w5.heap.size, 0, none⟩ = some (.string nm1) ∧ w'.cell? ⟨w5.heap.size, 1, none⟩ = some (.slice ao3 rs1.length cap3)) (first | exact ⟨c1_0_9, c1_1_9, c5_0_9, c5_1_9⟩ | exact ⟨below_cell O6.out.2 c1_0_9, below_cell O6.out.2 c1_1_9, below_cell O6.out.2 c5_0_9, below_cell O6.out.2 c5_1_9⟩ | exact ⟨below_cell s10 c1_0_9, below_cell s10 c1_1_9, below_cell s10 c5_0_9, below_cell s10 c5_1_9⟩ | go_keep) (first | (go_at_call 9; refine (HT5.out _ (by go_grown)).mono ?_; rintro _ ww6 ⟨vv6, rfl, o6⟩; have O6 := Lib.hid o6; clear o6) | (go_at_call 12; refine (HE5.out _ _ _ (by assumption)).mono ?_; rintro _ w10 ⟨rfl, s10⟩))
      clear HT5 HE5
      have y10 := s10.size
      have b10 := b9.trans (s10.mono z9)
      have z10 := b10.size
      have c0_0_10 := below_cell s10 c0_0_9
      clear c0_0_9
      have c0_1_10 := below_cell s10 c0_1_9
      clear c0_1_9
      have c0_2_10 := below_cell s10 c0_2_9
      clear c0_2_9
      have c1_0_10 := below_cell s10 c1_0_9
      clear c1_0_9
      have c1_1_10 := below_cell s10 c1_1_9
      clear c1_1_9
      have c2_0_10 := below_cell s10 c2_0_9
      clear c2_0_9
      have c2_1_10 := below_cell s10 c2_1_9
      clear c2_1_9
      have c2_2_10 := below_cell s10 c2_2_9
      clear c2_2_9
      have c2_3_10 := below_cell s10 c2_3_9
      clear c2_3_9
      have c2_4_10 := below_cell s10 c2_4_9
      clear c2_4_9
      have c3_0_10 := below_cell s10 c3_0_9
      clear c3_0_9
      have c3_1_10 := below_cell s10 c3_1_9
      clear c3_1_9
      have c3_2_10 := below_cell s10 c3_2_9
      clear c3_2_9
      have c4_0_10 := below_cell s10 c4_0_9
      clear c4_0_9
      have c4_1_10 := below_cell s10 c4_1_9
      clear c4_1_9
      have c4_2_10 := below_cell s10 c4_2_9
      clear c4_2_9
      have c5_0_10 := below_cell s10 c5_0_9
      clear c5_0_9
      have c5_1_10 := below_cell s10 c5_1_9
      clear c5_1_9
      have c6_0_10 := below_cell s10 c6_0_9
      clear c6_0_9
      have c6_1_10 := below_cell s10 c6_1_9
      clear c6_1_9
      have c6_2_10 := below_cell s10 c6_2_9
      clear c6_2_9
      have o1_10 := O1_9.out.later s10
      have O1_10 := Lib.hid o1_10; clear o1_10
      have o2_10 := O2_9.out.later s10
      have O2_10 := Lib.hid o2_10; clear o2_10
      have o3_10 := own_later O3_9.out s10
      have O3_10 := Lib.hid o3_10; clear o3_10
      have o4_10 := O4_9.out.later s10
      have O4_10 := Lib.hid o4_10; clear o4_10
      clear al0_0_9
      clear al0_1_9
      clear al0_2_9
      clear al1_0_9
      clear al1_1_9
      clear al2_0_9
      clear al2_1_9
      clear al2_2_9
      clear al2_3_9
      clear al2_4_9
      clear al3_0_9
      clear al3_1_9
      clear al3_2_9
      clear al4_0_9
      clear al4_1_9
      clear al4_2_9
      clear al5_0_9
      clear al5_1_9
      clear al6_0_9
      clear al6_1_9
      clear al6_2_9
      have al0_0_10 := fun o => alloc_cell o c0_0_10
      have al0_1_10 := fun o => alloc_cell o c0_1_10
      have al0_2_10 := fun o => alloc_cell o c0_2_10
      have al1_0_10 := fun o => alloc_cell o c1_0_10
      have al1_1_10 := fun o => alloc_cell o c1_1_10
      have al2_0_10 := fun o => alloc_cell o c2_0_10
      have al2_1_10 := fun o => alloc_cell o c2_1_10
      have al2_2_10 := fun o => alloc_cell o c2_2_10
      have al2_3_10 := fun o => alloc_cell o c2_3_10
      have al2_4_10 := fun o => alloc_cell o c2_4_10
      have al3_0_10 := fun o => alloc_cell o c3_0_10
      have al3_1_10 := fun o => alloc_cell o c3_1_10
      have al3_2_10 := fun o => alloc_cell o c3_2_10
      have al4_0_10 := fun o => alloc_cell o c4_0_10
      have al4_1_10 := fun o => alloc_cell o c4_1_10
      have al4_2_10 := fun o => alloc_cell o c4_2_10
      have al5_0_10 := fun o => alloc_cell o c5_0_10
      have al5_1_10 := fun o => alloc_cell o c5_1_10
      have al6_0_10 := fun o => alloc_cell o c6_0_10
      have al6_1_10 := fun o => alloc_cell o c6_1_10
      have al6_2_10 := fun o => alloc_cell o c6_2_10
      go_wp2_with fail
      have hSL : lensK ws0 ws0.length ≤ SzSS ws0 := by unfold SzSS; omega
      refine (markModel_c (w3.heap.size) (w4.heap.size) _ _ _ _ _ _ _ _ _ O2_10.out (by omega) (by omega) (by omega) (by omega) (by omega) (by omega)).mono ?_
      rintro _ w11 ⟨rfl, q11⟩
      have y11 := q11.size
      have b11 := Only.below b10 q11 z10 (fun b hS => by have := hS.1; omega)
      have z11 := b11.size
      have c0_0_11 := cell_only q11 c0_0_10 (fun hS => by have h1 := hS.1; have h2 := hS.2; simp only at h1 h2; omega)
      clear c0_0_10
      have c0_1_11 := cell_only q11 c0_1_10 (fun hS => by have h1 := hS.1; have h2 := hS.2; simp only at h1 h2; omega)
      clear c0_1_10
      have c0_2_11 := cell_only q11 c0_2_10 (fun hS => by have h1 := hS.1; have h2 := hS.2; simp only at h1 h2; omega)
      clear c0_2_10
      have c1_0_11 := cell_only q11 c1_0_10 (fun hS => by have h1 := hS.1; have h2 := hS.2; simp only at h1 h2; omega)
      clear c1_0_10
      have c1_1_11 := cell_only q11 c1_1_10 (fun hS => by have h1 := hS.1; have h2 := hS.2; simp only at h1 h2; omega)
      clear c1_1_10
      have c2_0_11 := cell_only q11 c2_0_10 (fun hS => by have h1 := hS.1; have h2 := hS.2; simp only at h1 h2; omega)
      clear c2_0_10
      have c2_1_11 := cell_only q11 c2_1_10 (fun hS => by have h1 := hS.1; have h2 := hS.2; simp only at h1 h2; omega)
      clear c2_1_10
      have c2_2_11 := cell_only q11 c2_2_10 (fun hS => by have h1 := hS.1; have h2 := hS.2; simp only at h1 h2; omega)
      clear c2_2_10
      have c2_3_11 := cell_only q11 c2_3_10 (fun hS => by have h1 := hS.1; have h2 := hS.2; simp only at h1 h2; omega)
      clear c2_3_10
      have c2_4_11 := cell_only q11 c2_4_10 (fun hS => by have h1 := hS.1; have h2 := hS.2; simp only at h1 h2; omega)
      clear c2_4_10
      have c3_0_11 := cell_only q11 c3_0_10 (fun hS => by have h1 := hS.1; have h2 := hS.2; simp only at h1 h2; omega)
      clear c3_0_10
      have c3_1_11 := cell_only q11 c3_1_10 (fun hS => by have h1 := hS.1; have h2 := hS.2; simp only at h1 h2; omega)
      clear c3_1_10
      have c3_2_11 := cell_only q11 c3_2_10 (fun hS => by have h1 := hS.1; have h2 := hS.2; simp only at h1 h2; omega)
      clear c3_2_10
      have c4_0_11 := cell_only q11 c4_0_10 (fun hS => by have h1 := hS.1; have h2 := hS.2; simp only at h1 h2; omega)
      clear c4_0_10
      have c4_1_11 := cell_only q11 c4_1_10 (fun hS => by have h1 := hS.1; have h2 := hS.2; simp only at h1 h2; omega)
      clear c4_1_10
      have c4_2_11 := cell_only q11 c4_2_10 (fun hS => by have h1 := hS.1; have h2 := hS.2; simp only at h1 h2; omega)
      clear c4_2_10
      have c5_0_11 := cell_only q11 c5_0_10 (fun hS => by have h1 := hS.1; have h2 := hS.2; simp only at h1 h2; omega)
      clear c5_0_10
      have c5_1_11 := cell_only q11 c5_1_10 (fun hS => by have h1 := hS.1; have h2 := hS.2; simp only at h1 h2; omega)
      clear c5_1_10
      have c6_0_11 := cell_only q11 c6_0_10 (fun hS => by have h1 := hS.1; have h2 := hS.2; simp only at h1 h2; omega)
      clear c6_0_10
      have c6_1_11 := cell_only q11 c6_1_10 (fun hS => by have h1 := hS.1; have h2 := hS.2; simp only at h1 h2; omega)
      clear c6_1_10
      have c6_2_11 := cell_only q11 c6_2_10 (fun hS => by have h1 := hS.1; have h2 := hS.2; simp only at h1 h2; omega)
      clear c6_2_10
      have o1_11 := O1_10.out.only q11 (fun b hS hB => by have h1 := hS.1; have h2 := hS.2; have h3 := hB.1; have h4 := hB.2; omega)
      have O1_11 := Lib.hid o1_11; clear o1_11
      have o3_11 := own_only O3_10.out q11 (fun k hk hS => by have h1 := hS.1; have h2 := hS.2; have := LO3.out _ hk; have := UP3.out _ hk; omega)
      have O3_11 := Lib.hid o3_11; clear o3_11
      have o4_11 := O4_10.out.only q11 (fun b hS hB => by have h1 := hS.1; have h2 := hS.2; have h3 := hB.1; have h4 := hB.2; omega)
      have O4_11 := Lib.hid o4_11; clear o4_11
      go_wp2_with fail
      refine (markProfile_c _ _ _ _ _ _ _ O3_11.out (by omega) (by omega) (by omega)).mono ?_
      rintro _ w12 ⟨rfl, m12, q12⟩
      have y12 := q12.size
      have b12 := Only.below b11 q12 z11 (fun b hS => by have := LO3.out b hS; omega)
      have z12 := b12.size
      have c0_0_12 := cell_only q12 c0_0_11 (fun hS => by have h1 : _ ≤ w.heap.size := LO3.out _ hS; have h2 : w.heap.size < _ := UP3.out _ hS; omega)
      clear c0_0_11
      have c0_1_12 := cell_only q12 c0_1_11 (fun hS => by have h1 : _ ≤ w.heap.size := LO3.out _ hS; have h2 : w.heap.size < _ := UP3.out _ hS; omega)
      clear c0_1_11
      have c0_2_12 := cell_only q12 c0_2_11 (fun hS => by have h1 : _ ≤ w.heap.size := LO3.out _ hS; have h2 : w.heap.size < _ := UP3.out _ hS; omega)
      clear c0_2_11
      have c1_0_12 := cell_only q12 c1_0_11 (fun hS => by have h1 : _ ≤ w.heap.size + 1 := LO3.out _ hS; have h2 : w.heap.size + 1 < _ := UP3.out _ hS; omega)
      clear c1_0_11
      have c1_1_12 := cell_only q12 c1_1_11 (fun hS => by have h1 : _ ≤ w.heap.size + 1 := LO3.out _ hS; have h2 : w.heap.size + 1 < _ := UP3.out _ hS; omega)
      clear c1_1_11
      have c2_0_12 := cell_only q12 c2_0_11 (fun hS => by have h1 : _ ≤ w.heap.size + 1 + 1 := LO3.out _ hS; have h2 : w.heap.size + 1 + 1 < _ := UP3.out _ hS; omega)
      clear c2_0_11
      have c2_1_12 := cell_only q12 c2_1_11 (fun hS => by have h1 : _ ≤ w.heap.size + 1 + 1 := LO3.out _ hS; have h2 : w.heap.size + 1 + 1 < _ := UP3.out _ hS; omega)
      clear c2_1_11
      have c2_2_12 := cell_only q12 c2_2_11 (fun hS => by have h1 : _ ≤ w.heap.size + 1 + 1 := LO3.out _ hS; have h2 : w.heap.size + 1 + 1 < _ := UP3.out _ hS; omega)
      clear c2_2_11
      have c2_3_12 := cell_only q12 c2_3_11 (fun hS => by have h1 : _ ≤ w.heap.size + 1 + 1 := LO3.out _ hS; have h2 : w.heap.size + 1 + 1 < _ := UP3.out _ hS; omega)
      clear c2_3_11
      have c2_4_12 := cell_only q12 c2_4_11 (fun hS => by have h1 : _ ≤ w.heap.size + 1 + 1 := LO3.out _ hS; have h2 : w.heap.size + 1 + 1 < _ := UP3.out _ hS; omega)
      clear c2_4_11
      have c3_0_12 := cell_only q12 c3_0_11 (fun hS => by have h1 : _ ≤ bx3 := LO3.out _ hS; have h2 : bx3 < _ := UP3.out _ hS; omega)
      clear c3_0_11
      have c3_1_12 := cell_only q12 c3_1_11 (fun hS => by have h1 : _ ≤ bx3 := LO3.out _ hS; have h2 : bx3 < _ := UP3.out _ hS; omega)
      clear c3_1_11
      have c3_2_12 := cell_only q12 c3_2_11 (fun hS => by have h1 : _ ≤ bx3 := LO3.out _ hS; have h2 : bx3 < _ := UP3.out _ hS; omega)
      clear c3_2_11
      have c4_0_12 := cell_only q12 c4_0_11 (fun hS => by have h1 : _ ≤ w4.heap.size := LO3.out _ hS; have h2 : w4.heap.size < _ := UP3.out _ hS; omega)
      clear c4_0_11
      have c4_1_12 := cell_only q12 c4_1_11 (fun hS => by have h1 : _ ≤ w4.heap.size := LO3.out _ hS; have h2 : w4.heap.size < _ := UP3.out _ hS; omega)
      clear c4_1_11
      have c4_2_12 := cell_only q12 c4_2_11 (fun hS => by have h1 : _ ≤ w4.heap.size := LO3.out _ hS; have h2 : w4.heap.size < _ := UP3.out _ hS; omega)
      clear c4_2_11
      have c5_0_12 := cell_only q12 c5_0_11 (fun hS => by have h1 : _ ≤ w5.heap.size := LO3.out _ hS; have h2 : w5.heap.size < _ := UP3.out _ hS; omega)
      clear c5_0_11
      have c5_1_12 := cell_only q12 c5_1_11 (fun hS => by have h1 : _ ≤ w5.heap.size := LO3.out _ hS; have h2 : w5.heap.size < _ := UP3.out _ hS; omega)
      clear c5_1_11
      have c6_0_12 := cell_only q12 c6_0_11 (fun hS => by have h1 : _ ≤ bx7 := LO3.out _ hS; have h2 : bx7 < _ := UP3.out _ hS; omega)
      clear c6_0_11
      have c6_1_12 := cell_only q12 c6_1_11 (fun hS => by have h1 : _ ≤ bx7 := LO3.out _ hS; have h2 : bx7 < _ := UP3.out _ hS; omega)
      clear c6_1_11
      have c6_2_12 := cell_only q12 c6_2_11 (fun hS => by have h1 : _ ≤ bx7 := LO3.out _ hS; have h2 : bx7 < _ := UP3.out _ hS; omega)
      clear c6_2_11
      have o1_12 := O1_11.out.only q12 (fun b hS hB => by have := LO3.out _ hS; have := UP3.out _ hS; have h3 := hB.1; have h4 := hB.2; omega)
      have O1_12 := Lib.hid o1_12; clear o1_12
      have o4_12 := O4_11.out.only q12 (fun b hS hB => by have := LO3.out _ hS; have := UP3.out _ hS; have h3 := hB.1; have h4 := hB.2; omega)
      have O4_12 := Lib.hid o4_12; clear o4_12
      have O3_12 := Lib.hid m12; clear m12
      go_wp2_with fail
      refine (HEq.out _ _ _ _ _ _ _ (Rd.of_own O4_12.out.z) (O4_12.out.s.rd) (Rd.of_own O4_12.out.b) (Rd.of_own O1_12.out.z) (O1_12.out.s.rd) (Rd.of_own O1_12.out.b)).mono ?_
      rintro _ w13 ⟨rfl, r13⟩
      have s13 := r13
      have y13 := s13.size
      have b13 := b12.trans (s13.mono z12)
      have z13 := b13.size
      have c0_0_13 := below_cell s13 c0_0_12
      clear c0_0_12
      have c0_1_13 := below_cell s13 c0_1_12
      clear c0_1_12
      have c0_2_13 := below_cell s13 c0_2_12
      clear c0_2_12
      have c1_0_13 := below_cell s13 c1_0_12
      clear c1_0_12
      have c1_1_13 := below_cell s13 c1_1_12
      clear c1_1_12
      have c2_0_13 := below_cell s13 c2_0_12
      clear c2_0_12
      have c2_1_13 := below_cell s13 c2_1_12
      clear c2_1_12
      have c2_2_13 := below_cell s13 c2_2_12
      clear c2_2_12
      have c2_3_13 := below_cell s13 c2_3_12
      clear c2_3_12
      have c2_4_13 := below_cell s13 c2_4_12
      clear c2_4_12
      have c3_0_13 := below_cell s13 c3_0_12
      clear c3_0_12
      have c3_1_13 := below_cell s13 c3_1_12
      clear c3_1_12
      have c3_2_13 := below_cell s13 c3_2_12
      clear c3_2_12
      have c4_0_13 := below_cell s13 c4_0_12
      clear c4_0_12
      have c4_1_13 := below_cell s13 c4_1_12
      clear c4_1_12
      have c4_2_13 := below_cell s13 c4_2_12
      clear c4_2_12
      have c5_0_13 := below_cell s13 c5_0_12
      clear c5_0_12
      have c5_1_13 := below_cell s13 c5_1_12
      clear c5_1_12
      have c6_0_13 := below_cell s13 c6_0_12
      clear c6_0_12
      have c6_1_13 := below_cell s13 c6_1_12
      clear c6_1_12
      have c6_2_13 := below_cell s13 c6_2_12
      clear c6_2_12
      have o1_13 := O1_12.out.later s13
      have O1_13 := Lib.hid o1_13; clear o1_13
      have o3_13 := own_later O3_12.out s13
      have O3_13 := Lib.hid o3_13; clear o3_13
      have o4_13 := O4_12.out.later s13
      have O4_13 := Lib.hid o4_13; clear o4_13
      clear al0_0_10
      clear al0_1_10
      clear al0_2_10
      clear al1_0_10
      clear al1_1_10
      clear al2_0_10
      clear al2_1_10
      clear al2_2_10
      clear al2_3_10
      clear al2_4_10
      clear al3_0_10
      clear al3_1_10
      clear al3_2_10
      clear al4_0_10
      clear al4_1_10
      clear al4_2_10
      clear al5_0_10
      clear al5_1_10
      clear al6_0_10
      clear al6_1_10
      clear al6_2_10
      have al0_0_13 := fun o => alloc_cell o c0_0_13
      have al0_1_13 := fun o => alloc_cell o c0_1_13
      have al0_2_13 := fun o => alloc_cell o c0_2_13
      have al1_0_13 := fun o => alloc_cell o c1_0_13
      have al1_1_13 := fun o => alloc_cell o c1_1_13
      have al2_0_13 := fun o => alloc_cell o c2_0_13
      have al2_1_13 := fun o => alloc_cell o c2_1_13
      have al2_2_13 := fun o => alloc_cell o c2_2_13
      have al2_3_13 := fun o => alloc_cell o c2_3_13
      have al2_4_13 := fun o => alloc_cell o c2_4_13
      have al3_0_13 := fun o => alloc_cell o c3_0_13
      have al3_1_13 := fun o => alloc_cell o c3_1_13
      have al3_2_13 := fun o => alloc_cell o c3_2_13
      have al4_0_13 := fun o => alloc_cell o c4_0_13
      have al4_1_13 := fun o => alloc_cell o c4_1_13
      have al4_2_13 := fun o => alloc_cell o c4_2_13
      have al5_0_13 := fun o => alloc_cell o c5_0_13
      have al5_1_13 := fun o => alloc_cell o c5_1_13
      have al6_0_13 := fun o => alloc_cell o c6_0_13
      have al6_1_13 := fun o => alloc_cell o c6_1_13
      have al6_2_13 := fun o => alloc_cell o c6_2_13
      go_wp2_with fail
      refine (markModel2_c (L7) (H7) _ _ _ _ _ _ _ _ _ O4_13.out (by omega) (by omega) (by omega) (by omega) (by omega) (by omega)).mono ?_
      rintro _ w14 ⟨rfl, m14, q14⟩
      have y14 := q14.size
      have b14 := Only.below b13 q14 z13 (fun b hS => by have := hS.1; omega)
      have z14 := b14.size
      have c0_0_14 := cell_only q14 c0_0_13 (fun hS => by have h1 := hS.1; have h2 := hS.2; simp only at h1 h2; omega)
      clear c0_0_13
      have c0_1_14 := cell_only q14 c0_1_13 (fun hS => by have h1 := hS.1; have h2 := hS.2; simp only at h1 h2; omega)
      clear c0_1_13
      have c0_2_14 := cell_only q14 c0_2_13 (fun hS => by have h1 := hS.1; have h2 := hS.2; simp only at h1 h2; omega)
      clear c0_2_13
      have c1_0_14 := cell_only q14 c1_0_13 (fun hS => by have h1 := hS.1; have h2 := hS.2; simp only at h1 h2; omega)
      clear c1_0_13
      have c1_1_14 := cell_only q14 c1_1_13 (fun hS => by have h1 := hS.1; have h2 := hS.2; simp only at h1 h2; omega)
      clear c1_1_13
      have c2_0_14 := cell_only q14 c2_0_13 (fun hS => by have h1 := hS.1; have h2 := hS.2; simp only at h1 h2; omega)
      clear c2_0_13
      have c2_1_14 := cell_only q14 c2_1_13 (fun hS => by have h1 := hS.1; have h2 := hS.2; simp only at h1 h2; omega)
      clear c2_1_13
      have c2_2_14 := cell_only q14 c2_2_13 (fun hS => by have h1 := hS.1; have h2 := hS.2; simp only at h1 h2; omega)
      clear c2_2_13
      have c2_3_14 := cell_only q14 c2_3_13 (fun hS => by have h1 := hS.1; have h2 := hS.2; simp only at h1 h2; omega)
      clear c2_3_13
      have c2_4_14 := cell_only q14 c2_4_13 (fun hS => by have h1 := hS.1; have h2 := hS.2; simp only at h1 h2; omega)
      clear c2_4_13
      have c3_0_14 := cell_only q14 c3_0_13 (fun hS => by have h1 := hS.1; have h2 := hS.2; simp only at h1 h2; omega)
      clear c3_0_13
      have c3_1_14 := cell_only q14 c3_1_13 (fun hS => by have h1 := hS.1; have h2 := hS.2; simp only at h1 h2; omega)
      clear c3_1_13
      have c3_2_14 := cell_only q14 c3_2_13 (fun hS => by have h1 := hS.1; have h2 := hS.2; simp only at h1 h2; omega)
      clear c3_2_13
      have c4_0_14 := cell_only q14 c4_0_13 (fun hS => by have h1 := hS.1; have h2 := hS.2; simp only at h1 h2; omega)
      clear c4_0_13
      have c4_1_14 := cell_only q14 c4_1_13 (fun hS => by have h1 := hS.1; have h2 := hS.2; simp only at h1 h2; omega)
      clear c4_1_13
      have c4_2_14 := cell_only q14 c4_2_13 (fun hS => by have h1 := hS.1; have h2 := hS.2; simp only at h1 h2; omega)
      clear c4_2_13
      have c5_0_14 := cell_only q14 c5_0_13 (fun hS => by have h1 := hS.1; have h2 := hS.2; simp only at h1 h2; omega)
      clear c5_0_13
      have c5_1_14 := cell_only q14 c5_1_13 (fun hS => by have h1 := hS.1; have h2 := hS.2; simp only at h1 h2; omega)
      clear c5_1_13
      have c6_0_14 := cell_only q14 c6_0_13 (fun hS => by have h1 := hS.1; have h2 := hS.2; simp only at h1 h2; omega)
      clear c6_0_13
      have c6_1_14 := cell_only q14 c6_1_13 (fun hS => by have h1 := hS.1; have h2 := hS.2; simp only at h1 h2; omega)
      clear c6_1_13
      have c6_2_14 := cell_only q14 c6_2_13 (fun hS => by have h1 := hS.1; have h2 := hS.2; simp only at h1 h2; omega)
      clear c6_2_13
      have o1_14 := O1_13.out.only q14 (fun b hS hB => by have h1 := hS.1; have h2 := hS.2; have h3 := hB.1; have h4 := hB.2; omega)
      have O1_14 := Lib.hid o1_14; clear o1_14
      have o3_14 := own_only O3_13.out q14 (fun k hk hS => by have h1 := hS.1; have h2 := hS.2; have := LO3.out _ hk; have := UP3.out _ hk; omega)
      have O3_14 := Lib.hid o3_14; clear o3_14
      have O4_14 := Lib.hid m14; clear m14
      go_wp2_with fail
      refine (heldModel_c _ _ _ qz0.length qw0 qb0.length _ _ (Rd.of_own O4_14.out.z) (O4_14.out.s.rd) (Rd.of_own O4_14.out.b) (by omega) (by omega) (by omega)).mono ?_
      rintro _ w15 ⟨rfl, r15⟩
      have s15 := r15
      have y15 := s15.size
      have b15 := b14.trans (s15.mono z14)
      have z15 := b15.size
      have c0_0_15 := below_cell s15 c0_0_14
      clear c0_0_14
      have c0_1_15 := below_cell s15 c0_1_14
      clear c0_1_14
      have c0_2_15 := below_cell s15 c0_2_14
      clear c0_2_14
      have c1_0_15 := below_cell s15 c1_0_14
      clear c1_0_14
      have c1_1_15 := below_cell s15 c1_1_14
      clear c1_1_14
      have c2_0_15 := below_cell s15 c2_0_14
      clear c2_0_14
      have c2_1_15 := below_cell s15 c2_1_14
      clear c2_1_14
      have c2_2_15 := below_cell s15 c2_2_14
      clear c2_2_14
      have c2_3_15 := below_cell s15 c2_3_14
      clear c2_3_14
      have c2_4_15 := below_cell s15 c2_4_14
      clear c2_4_14
      have c3_0_15 := below_cell s15 c3_0_14
      clear c3_0_14
      have c3_1_15 := below_cell s15 c3_1_14
      clear c3_1_14
      have c3_2_15 := below_cell s15 c3_2_14
      clear c3_2_14
      have c4_0_15 := below_cell s15 c4_0_14
      clear c4_0_14
      have c4_1_15 := below_cell s15 c4_1_14
      clear c4_1_14
      have c4_2_15 := below_cell s15 c4_2_14
      clear c4_2_14
      have c5_0_15 := below_cell s15 c5_0_14
      clear c5_0_14
      have c5_1_15 := below_cell s15 c5_1_14
      clear c5_1_14
      have c6_0_15 := below_cell s15 c6_0_14
      clear c6_0_14
      have c6_1_15 := below_cell s15 c6_1_14
      clear c6_1_14
      have c6_2_15 := below_cell s15 c6_2_14
      clear c6_2_14
      have o1_15 := O1_14.out.later s15
      have O1_15 := Lib.hid o1_15; clear o1_15
      have o3_15 := own_later O3_14.out s15
      have O3_15 := Lib.hid o3_15; clear o3_15
      have o4_15 := O4_14.out.later s15
      have O4_15 := Lib.hid o4_15; clear o4_15
      clear al0_0_13
      clear al0_1_13
      clear al0_2_13
      clear al1_0_13
      clear al1_1_13
      clear al2_0_13
      clear al2_1_13
      clear al2_2_13
      clear al2_3_13
      clear al2_4_13
      clear al3_0_13
      clear al3_1_13
      clear al3_2_13
      clear al4_0_13
      clear al4_1_13
      clear al4_2_13
      clear al5_0_13
      clear al5_1_13
      clear al6_0_13
      clear al6_1_13
      clear al6_2_13
      have al0_0_15 := fun o => alloc_cell o c0_0_15
      have al0_1_15 := fun o => alloc_cell o c0_1_15
      have al0_2_15 := fun o => alloc_cell o c0_2_15
      have al1_0_15 := fun o => alloc_cell o c1_0_15
      have al1_1_15 := fun o => alloc_cell o c1_1_15
      have al2_0_15 := fun o => alloc_cell o c2_0_15
      have al2_1_15 := fun o => alloc_cell o c2_1_15
      have al2_2_15 := fun o => alloc_cell o c2_2_15
      have al2_3_15 := fun o => alloc_cell o c2_3_15
      have al2_4_15 := fun o => alloc_cell o c2_4_15
      have al3_0_15 := fun o => alloc_cell o c3_0_15
      have al3_1_15 := fun o => alloc_cell o c3_1_15
      have al3_2_15 := fun o => alloc_cell o c3_2_15
      have al4_0_15 := fun o => alloc_cell o c4_0_15
      have al4_1_15 := fun o => alloc_cell o c4_1_15
      have al4_2_15 := fun o => alloc_cell o c4_2_15
      have al5_0_15 := fun o => alloc_cell o c5_0_15
      have al5_1_15 := fun o => alloc_cell o c5_1_15
      have al6_0_15 := fun o => alloc_cell o c6_0_15
      have al6_1_15 := fun o => alloc_cell o c6_1_15
      have al6_2_15 := fun o => alloc_cell o c6_2_15
      have htd0 : ∀ w', Below w15.heap.size w15 w' → Calls Try.prog 18 #[.agg #[zv0, wv0, bv0]] w' (fun e w'' => ∃ ua0 ub0 uc0, e = .returned (.agg #[ua0, ub0, uc0]) ∧ (Rd w'' ua0 zs0.length (ints zs0) ∧ RdSS w'' ub0 ws0 ∧ Rd w'' uc0 bs0.length (ints bs0)) ∧ Below w'.heap.size w' w'' ∧ Below w15.heap.size w15 w'') := fun w' hb => (HT0.out w' (b15.trans (hb.mono z15))).mono fun _ _ ⟨va, vb, vc, us, e, o, b⟩ => ⟨va, vb, vc, e, ⟨Rd.of_own o.z, o.s.rd, Rd.of_own o.b⟩, b, hb.trans (b.mono hb.size)⟩
      have HTD0 := Lib.hid htd0; clear htd0
      have htd1 : ∀ w', Below w15.heap.size w15 w' → Calls Try.prog 9 #[.agg #[.string nm1, sv1]] w' (fun e w'' => ∃ u1, e = .returned (.agg #[.string nm1, u1]) ∧ (Rd w'' u1 rs1.length (trips rs1)) ∧ Below w'.heap.size w' w'' ∧ Below w15.heap.size w15 w'') := fun w' hb => (HT1.out w' (b15.trans (hb.mono z15))).mono fun _ _ ⟨v, e, o, b⟩ => ⟨v, e, Rd.of_own o, b, hb.trans (b.mono hb.size)⟩
      have HTD1 := Lib.hid htd1; clear htd1
      have htd2 : ∀ w', Below w15.heap.size w15 w' → Calls Try.prog 19 #[.agg #[.int .i64 so2a, .int .i64 so2b, .int .i64 so2c, .int .i64 so2d, .int .i64 so2e]] w' (fun e w'' => e = .returned (.agg #[.int .i64 so2a, .int .i64 so2b, .int .i64 so2c, .int .i64 so2d, .int .i64 so2e]) ∧ (True) ∧ Below w'.heap.size w' w'' ∧ Below w15.heap.size w15 w'') := fun w' hb => (HT2.out w').mono fun _ _ ⟨e, b⟩ => ⟨e, trivial, b, hb.trans (b.mono hb.size)⟩
      have HTD2 := Lib.hid htd2; clear htd2
      go_upto_region 31 with fail
      go_cut [17, 18] from 100 to 109 (fun s6 s7 wx => CutMN qz0 qw0 qb0 t1 w15 s6 s7 wx)
      case first =>
        go_region_held3 (fun w' => w'.cell? ⟨w.heap.size, 0, none⟩ = some (zv0) ∧ w'.cell? ⟨w.heap.size, 1, none⟩ = some (wv0) ∧ w'.cell? ⟨w.heap.size, 2, none⟩ = some (bv0) ∧ w'.cell? ⟨w.heap.size + 1, 0, none⟩ = some (.string nm1) ∧ w'.cell? ⟨w.heap.size + 1, 1, none⟩ = some (sv1) ∧ w'.cell? ⟨w.heap.size + 1 + 1, 0, none⟩ = some (.int .i64 so2a) ∧ w'.cell? ⟨w.heap.size + 1 + 1, 1, none⟩ = some (.int .i64 so2b) ∧ w'.cell? ⟨w.heap.size + 1 + 1, 2, none⟩ = some (.int .i64 so2c) ∧ w'.cell? ⟨w.heap.size + 1 + 1, 3, none⟩ = some (.int .i64 so2d) ∧ w'.cell? ⟨w.heap.size + 1 + 1, 4, none⟩ = some (.int .i64 so2e)) (first | with_reducible exact ⟨c0_0_15, c0_1_15, c0_2_15, c1_0_15, c1_1_15, c2_0_15, c2_1_15, c2_2_15, c2_3_15, c2_4_15⟩ | with_reducible exact ⟨alloc_cell _ c0_0_15, alloc_cell _ c0_1_15, alloc_cell _ c0_2_15, alloc_cell _ c1_0_15, alloc_cell _ c1_1_15, alloc_cell _ c2_0_15, alloc_cell _ c2_1_15, alloc_cell _ c2_2_15, alloc_cell _ c2_3_15, alloc_cell _ c2_4_15⟩ | with_reducible exact ⟨below_cell s9 c0_0_15, below_cell s9 c0_1_15, below_cell s9 c0_2_15, below_cell s9 c1_0_15, below_cell s9 c1_1_15, below_cell s9 c2_0_15, below_cell s9 c2_1_15, below_cell s9 c2_2_15, below_cell s9 c2_3_15, below_cell s9 c2_4_15⟩ | with_reducible exact ⟨alloc_cell _ (below_cell s9 c0_0_15), alloc_cell _ (below_cell s9 c0_1_15), alloc_cell _ (below_cell s9 c0_2_15), alloc_cell _ (below_cell s9 c1_0_15), alloc_cell _ (below_cell s9 c1_1_15), alloc_cell _ (below_cell s9 c2_0_15), alloc_cell _ (below_cell s9 c2_1_15), alloc_cell _ (below_cell s9 c2_2_15), alloc_cell _ (below_cell s9 c2_3_15), alloc_cell _ (below_cell s9 c2_4_15)⟩ | with_reducible exact ⟨BX.keep (below_cell s9 c0_0_15) (World.block_lt_of_cell? _ _ c0_0_15) _ _ _, BX.keep (below_cell s9 c0_1_15) (World.block_lt_of_cell? _ _ c0_1_15) _ _ _, BX.keep (below_cell s9 c0_2_15) (World.block_lt_of_cell? _ _ c0_2_15) _ _ _, BX.keep (below_cell s9 c1_0_15) (World.block_lt_of_cell? _ _ c1_0_15) _ _ _, BX.keep (below_cell s9 c1_1_15) (World.block_lt_of_cell? _ _ c1_1_15) _ _ _, BX.keep (below_cell s9 c2_0_15) (World.block_lt_of_cell? _ _ c2_0_15) _ _ _, BX.keep (below_cell s9 c2_1_15) (World.block_lt_of_cell? _ _ c2_1_15) _ _ _, BX.keep (below_cell s9 c2_2_15) (World.block_lt_of_cell? _ _ c2_2_15) _ _ _, BX.keep (below_cell s9 c2_3_15) (World.block_lt_of_cell? _ _ c2_3_15) _ _ _, BX.keep (below_cell s9 c2_4_15) (World.block_lt_of_cell? _ _ c2_4_15) _ _ _⟩ | with_reducible exact ⟨below_cell BD2.out c0_0_15, below_cell BD2.out c0_1_15, below_cell BD2.out c0_2_15, below_cell BD2.out c1_0_15, below_cell BD2.out c1_1_15, below_cell BD2.out c2_0_15, below_cell BD2.out c2_1_15, below_cell BD2.out c2_2_15, below_cell BD2.out c2_3_15, below_cell BD2.out c2_4_15⟩ | with_reducible exact ⟨alloc_cell _ (below_cell BD2.out c0_0_15), alloc_cell _ (below_cell BD2.out c0_1_15), alloc_cell _ (below_cell BD2.out c0_2_15), alloc_cell _ (below_cell BD2.out c1_0_15), alloc_cell _ (below_cell BD2.out c1_1_15), alloc_cell _ (below_cell BD2.out c2_0_15), alloc_cell _ (below_cell BD2.out c2_1_15), alloc_cell _ (below_cell BD2.out c2_2_15), alloc_cell _ (below_cell BD2.out c2_3_15), alloc_cell _ (below_cell BD2.out c2_4_15)⟩ | with_reducible exact ⟨below_cell BD1.out c0_0_15, below_cell BD1.out c0_1_15, below_cell BD1.out c0_2_15, below_cell BD1.out c1_0_15, below_cell BD1.out c1_1_15, below_cell BD1.out c2_0_15, below_cell BD1.out c2_1_15, below_cell BD1.out c2_2_15, below_cell BD1.out c2_3_15, below_cell BD1.out c2_4_15⟩ | with_reducible exact ⟨alloc_cell _ (below_cell BD1.out c0_0_15), alloc_cell _ (below_cell BD1.out c0_1_15), alloc_cell _ (below_cell BD1.out c0_2_15), alloc_cell _ (below_cell BD1.out c1_0_15), alloc_cell _ (below_cell BD1.out c1_1_15), alloc_cell _ (below_cell BD1.out c2_0_15), alloc_cell _ (below_cell BD1.out c2_1_15), alloc_cell _ (below_cell BD1.out c2_2_15), alloc_cell _ (below_cell BD1.out c2_3_15), alloc_cell _ (below_cell BD1.out c2_4_15)⟩ | with_reducible exact ⟨below_cell BD0.out c0_0_15, below_cell BD0.out c0_1_15, below_cell BD0.out c0_2_15, below_cell BD0.out c1_0_15, below_cell BD0.out c1_1_15, below_cell BD0.out c2_0_15, below_cell BD0.out c2_1_15, below_cell BD0.out c2_2_15, below_cell BD0.out c2_3_15, below_cell BD0.out c2_4_15⟩ | with_reducible exact ⟨alloc_cell _ (below_cell BD0.out c0_0_15), alloc_cell _ (below_cell BD0.out c0_1_15), alloc_cell _ (below_cell BD0.out c0_2_15), alloc_cell _ (below_cell BD0.out c1_0_15), alloc_cell _ (below_cell BD0.out c1_1_15), alloc_cell _ (below_cell BD0.out c2_0_15), alloc_cell _ (below_cell BD0.out c2_1_15), alloc_cell _ (below_cell BD0.out c2_2_15), alloc_cell _ (below_cell BD0.out c2_3_15), alloc_cell _ (below_cell BD0.out c2_4_15)⟩ | go_keep) (first | (go_at_call 20; (first | (with_reducible refine (HI.out _ _ _ _ _ OD0_2.out.1 OD0_2.out.2.1 OD0_2.out.2.2 OD1_2.out).mono ?_) | (with_reducible refine (HI.out _ _ _ _ _ (OD0_2.out.1.later (below_alloc _ _)) (OD0_2.out.2.1.later (below_alloc _ _)) (OD0_2.out.2.2.later (below_alloc _ _)) (OD1_2.out.later (below_alloc _ _))).mono ?_)); rintro _ w16 ⟨xa9, xb9, xc9, us9, rfl, n9, rd9⟩; obtain ⟨az9, cz9, rfl⟩ := own_shape n9.z; obtain ⟨aw9, cw9, rfl⟩ := own_shape n9.s.row; obtain ⟨ab9, cb9, rfl⟩ := own_shape n9.b; have N9 := Lib.hid n9; clear n9; (first | (with_reducible have s9 := BD2.out.trans (rd9.mono BD2.out.size)) | (with_reducible have s9 := (below_alloced BD2.out BD2.out.size _).trans (rd9.mono (below_alloced BD2.out BD2.out.size _).size))); have lo9 := BD2.out.size; have lo8 := fun o => Nat.le_trans lo9 (below_alloc wd2 o).size; (first | (have hbl := BX.lt; with_reducible have BX := BoxM.later BX rd9; have hbl9 := hbl) | (with_reducible have BX := BoxM.after (B := w15.heap.size) rd9 lo9; have hbl9 := lt_alloc wd2) | skip); (first | (have bf9 := BX.f; have bc0 := BX.c0; have bc1 := BX.c1; have bc2 := BX.c2) | skip)) | (have _gd := BD1; go_at_call 19; (with_reducible refine (HTD2.out _ (by first | exact BD1.out | exact below_alloced BD1.out BD1.out.size _ | go_grown)).mono ?_); rintro _ wd2 ⟨rfl, od2_2, qd2, bd2⟩; have OD2_2 := Lib.hid od2_2; clear od2_2; have BD2 := Lib.hid bd2; clear bd2; (first | (with_reducible have BX := BoxM.later BX qd2) | (with_reducible have BX := BoxM.after (B := w15.heap.size) qd2 BD1.out.size) | (with_reducible have BX := BoxM.afterD (B := w15.heap.size) qd2 BD1.out.size) | skip); (first | (with_reducible have qq2 : Below wd1.heap.size wd1 wd2 := qd2) | (with_reducible have qq2 : Below wd1.heap.size wd1 wd2 := below_of_alloc qd2)); have QD2 := Lib.hid qq2; clear qq2; clear qd2; have od0_2 := And.intro (OD0_1.out.1.later QD2.out) (And.intro (OD0_1.out.2.1.later QD2.out) (OD0_1.out.2.2.later QD2.out)); have OD0_2 := Lib.hid od0_2; clear od0_2; have od1_2 := OD1_1.out.later QD2.out; have OD1_2 := Lib.hid od1_2; clear od1_2) | (have _gd := BD0; go_at_call 9; (with_reducible refine (HTD1.out _ (by first | exact BD0.out | exact below_alloced BD0.out BD0.out.size _ | go_grown)).mono ?_); rintro _ wd1 ⟨u1, rfl, od1_1, qd1, bd1⟩; have OD1_1 := Lib.hid od1_1; clear od1_1; have BD1 := Lib.hid bd1; clear bd1; (first | (with_reducible have BX := BoxM.later BX qd1) | (with_reducible have BX := BoxM.after (B := w15.heap.size) qd1 BD0.out.size) | (with_reducible have BX := BoxM.afterD (B := w15.heap.size) qd1 BD0.out.size) | skip); (first | (with_reducible have qq1 : Below wd0.heap.size wd0 wd1 := qd1) | (with_reducible have qq1 : Below wd0.heap.size wd0 wd1 := below_of_alloc qd1)); have QD1 := Lib.hid qq1; clear qq1; clear qd1; have od0_1 := And.intro (OD0_0.out.1.later QD1.out) (And.intro (OD0_0.out.2.1.later QD1.out) (OD0_0.out.2.2.later QD1.out)); have OD0_1 := Lib.hid od0_1; clear od0_1) | (go_at_call 18; (with_reducible refine (HTD0.out _ (by go_grown)).mono ?_); rintro _ wd0 ⟨ua0, ub0, uc0, rfl, od0_0, qd0, bd0⟩; have OD0_0 := Lib.hid od0_0; clear od0_0; have BD0 := Lib.hid bd0; clear bd0; (first | (with_reducible have BX := BoxM.later BX qd0) | (with_reducible have BX := BoxM.after (B := w15.heap.size) qd0 (Nat.le_refl _)) | (with_reducible have BX := BoxM.afterD (B := w15.heap.size) qd0 (Nat.le_refl _)) | skip); clear qd0))
        all_goals (go_wp2_with fail; go_meet; first | exact CutMN.mk s9 N9.out lo9 | exact CutMN.mk s9 N9.out (lo8 _) | exact CutMN.set BX s9 N9.out hbl9 lo9 | exact CutMN.set BX s9 N9.out (hbl9 _) (lo8 _))
      case rest =>
      obtain ⟨bx16, L16, H16, az5, aw5, ab5, pz5, pw5, pb5, us5, rfl, rfl, hbl16, hbt16, c7_0_16, c7_1_16, c7_2_16, om5, s16, hLl16, hLh16, hLd16⟩ := hcut
      generalize wc = w16 at *
      clear HTD0 HTD1 HTD2
      have y16 := s16.size
      have b16 := b15.trans (s16.mono z15)
      have z16 := b16.size
      have c0_0_16 := below_cell s16 c0_0_15
      clear c0_0_15
      have c0_1_16 := below_cell s16 c0_1_15
      clear c0_1_15
      have c0_2_16 := below_cell s16 c0_2_15
      clear c0_2_15
      have c1_0_16 := below_cell s16 c1_0_15
      clear c1_0_15
      have c1_1_16 := below_cell s16 c1_1_15
      clear c1_1_15
      have c2_0_16 := below_cell s16 c2_0_15
      clear c2_0_15
      have c2_1_16 := below_cell s16 c2_1_15
      clear c2_1_15
      have c2_2_16 := below_cell s16 c2_2_15
      clear c2_2_15
      have c2_3_16 := below_cell s16 c2_3_15
      clear c2_3_15
      have c2_4_16 := below_cell s16 c2_4_15
      clear c2_4_15
      have c3_0_16 := below_cell s16 c3_0_15
      clear c3_0_15
      have c3_1_16 := below_cell s16 c3_1_15
      clear c3_1_15
      have c3_2_16 := below_cell s16 c3_2_15
      clear c3_2_15
      have c4_0_16 := below_cell s16 c4_0_15
      clear c4_0_15
      have c4_1_16 := below_cell s16 c4_1_15
      clear c4_1_15
      have c4_2_16 := below_cell s16 c4_2_15
      clear c4_2_15
      have c5_0_16 := below_cell s16 c5_0_15
      clear c5_0_15
      have c5_1_16 := below_cell s16 c5_1_15
      clear c5_1_15
      have c6_0_16 := below_cell s16 c6_0_15
      clear c6_0_15
      have c6_1_16 := below_cell s16 c6_1_15
      clear c6_1_15
      have c6_2_16 := below_cell s16 c6_2_15
      clear c6_2_15
      have o1_16 := O1_15.out.later s16
      have O1_16 := Lib.hid o1_16; clear o1_16
      have o3_16 := own_later O3_15.out s16
      have O3_16 := Lib.hid o3_16; clear o3_16
      have o4_16 := O4_15.out.later s16
      have O4_16 := Lib.hid o4_16; clear o4_16
      clear al0_0_15
      clear al0_1_15
      clear al0_2_15
      clear al1_0_15
      clear al1_1_15
      clear al2_0_15
      clear al2_1_15
      clear al2_2_15
      clear al2_3_15
      clear al2_4_15
      clear al3_0_15
      clear al3_1_15
      clear al3_2_15
      clear al4_0_15
      clear al4_1_15
      clear al4_2_15
      clear al5_0_15
      clear al5_1_15
      clear al6_0_15
      clear al6_1_15
      clear al6_2_15
      have al0_0_16 := fun o => alloc_cell o c0_0_16
      have al0_1_16 := fun o => alloc_cell o c0_1_16
      have al0_2_16 := fun o => alloc_cell o c0_2_16
      have al1_0_16 := fun o => alloc_cell o c1_0_16
      have al1_1_16 := fun o => alloc_cell o c1_1_16
      have al2_0_16 := fun o => alloc_cell o c2_0_16
      have al2_1_16 := fun o => alloc_cell o c2_1_16
      have al2_2_16 := fun o => alloc_cell o c2_2_16
      have al2_3_16 := fun o => alloc_cell o c2_3_16
      have al2_4_16 := fun o => alloc_cell o c2_4_16
      have al3_0_16 := fun o => alloc_cell o c3_0_16
      have al3_1_16 := fun o => alloc_cell o c3_1_16
      have al3_2_16 := fun o => alloc_cell o c3_2_16
      have al4_0_16 := fun o => alloc_cell o c4_0_16
      have al4_1_16 := fun o => alloc_cell o c4_1_16
      have al4_2_16 := fun o => alloc_cell o c4_2_16
      have al5_0_16 := fun o => alloc_cell o c5_0_16
      have al5_1_16 := fun o => alloc_cell o c5_1_16
      have al6_0_16 := fun o => alloc_cell o c6_0_16
      have al6_1_16 := fun o => alloc_cell o c6_1_16
      have al6_2_16 := fun o => alloc_cell o c6_2_16
      have OM5_16 := Lib.hid om5; clear om5
      go_wp2_with fail
      refine (HEq.out _ _ _ _ _ _ _ (Rd.of_own OM5_16.out.z) (OM5_16.out.s.rd) (Rd.of_own OM5_16.out.b) (Rd.of_own O1_16.out.z) (O1_16.out.s.rd) (Rd.of_own O1_16.out.b)).mono ?_
      rintro _ w17 ⟨rfl, r17⟩
      have s17 := r17
      have y17 := s17.size
      have b17 := b16.trans (s17.mono z16)
      have z17 := b17.size
      have c0_0_17 := below_cell s17 c0_0_16
      clear c0_0_16
      have c0_1_17 := below_cell s17 c0_1_16
      clear c0_1_16
      have c0_2_17 := below_cell s17 c0_2_16
      clear c0_2_16
      have c1_0_17 := below_cell s17 c1_0_16
      clear c1_0_16
      have c1_1_17 := below_cell s17 c1_1_16
      clear c1_1_16
      have c2_0_17 := below_cell s17 c2_0_16
      clear c2_0_16
      have c2_1_17 := below_cell s17 c2_1_16
      clear c2_1_16
      have c2_2_17 := below_cell s17 c2_2_16
      clear c2_2_16
      have c2_3_17 := below_cell s17 c2_3_16
      clear c2_3_16
      have c2_4_17 := below_cell s17 c2_4_16
      clear c2_4_16
      have c3_0_17 := below_cell s17 c3_0_16
      clear c3_0_16
      have c3_1_17 := below_cell s17 c3_1_16
      clear c3_1_16
      have c3_2_17 := below_cell s17 c3_2_16
      clear c3_2_16
      have c4_0_17 := below_cell s17 c4_0_16
      clear c4_0_16
      have c4_1_17 := below_cell s17 c4_1_16
      clear c4_1_16
      have c4_2_17 := below_cell s17 c4_2_16
      clear c4_2_16
      have c5_0_17 := below_cell s17 c5_0_16
      clear c5_0_16
      have c5_1_17 := below_cell s17 c5_1_16
      clear c5_1_16
      have c6_0_17 := below_cell s17 c6_0_16
      clear c6_0_16
      have c6_1_17 := below_cell s17 c6_1_16
      clear c6_1_16
      have c6_2_17 := below_cell s17 c6_2_16
      clear c6_2_16
      have c7_0_17 := below_cell s17 c7_0_16
      clear c7_0_16
      have c7_1_17 := below_cell s17 c7_1_16
      clear c7_1_16
      have c7_2_17 := below_cell s17 c7_2_16
      clear c7_2_16
      have o1_17 := O1_16.out.later s17
      have O1_17 := Lib.hid o1_17; clear o1_17
      have o3_17 := own_later O3_16.out s17
      have O3_17 := Lib.hid o3_17; clear o3_17
      have o4_17 := O4_16.out.later s17
      have O4_17 := Lib.hid o4_17; clear o4_17
      have o5_17 := OM5_16.out.later s17
      have O5_17 := Lib.hid o5_17; clear o5_17
      clear al0_0_16
      clear al0_1_16
      clear al0_2_16
      clear al1_0_16
      clear al1_1_16
      clear al2_0_16
      clear al2_1_16
      clear al2_2_16
      clear al2_3_16
      clear al2_4_16
      clear al3_0_16
      clear al3_1_16
      clear al3_2_16
      clear al4_0_16
      clear al4_1_16
      clear al4_2_16
      clear al5_0_16
      clear al5_1_16
      clear al6_0_16
      clear al6_1_16
      clear al6_2_16
      have al0_0_17 := fun o => alloc_cell o c0_0_17
      have al0_1_17 := fun o => alloc_cell o c0_1_17
      have al0_2_17 := fun o => alloc_cell o c0_2_17
      have al1_0_17 := fun o => alloc_cell o c1_0_17
      have al1_1_17 := fun o => alloc_cell o c1_1_17
      have al2_0_17 := fun o => alloc_cell o c2_0_17
      have al2_1_17 := fun o => alloc_cell o c2_1_17
      have al2_2_17 := fun o => alloc_cell o c2_2_17
      have al2_3_17 := fun o => alloc_cell o c2_3_17
      have al2_4_17 := fun o => alloc_cell o c2_4_17
      have al3_0_17 := fun o => alloc_cell o c3_0_17
      have al3_1_17 := fun o => alloc_cell o c3_1_17
      have al3_2_17 := fun o => alloc_cell o c3_2_17
      have al4_0_17 := fun o => alloc_cell o c4_0_17
      have al4_1_17 := fun o => alloc_cell o c4_1_17
      have al4_2_17 := fun o => alloc_cell o c4_2_17
      have al5_0_17 := fun o => alloc_cell o c5_0_17
      have al5_1_17 := fun o => alloc_cell o c5_1_17
      have al6_0_17 := fun o => alloc_cell o c6_0_17
      have al6_1_17 := fun o => alloc_cell o c6_1_17
      have al6_2_17 := fun o => alloc_cell o c6_2_17
      have al7_0_17 := fun o => alloc_cell o c7_0_17
      have al7_1_17 := fun o => alloc_cell o c7_1_17
      have al7_2_17 := fun o => alloc_cell o c7_2_17
      go_wp2_with fail
      refine (heldModel_c _ _ _ qz0.length qw0 qb0.length _ _ (Rd.of_own O4_17.out.z) (O4_17.out.s.rd) (Rd.of_own O4_17.out.b) (by omega) (by omega) (by omega)).mono ?_
      rintro _ w18 ⟨rfl, r18⟩
      have s18 := r18
      have y18 := s18.size
      have b18 := b17.trans (s18.mono z17)
      have z18 := b18.size
      have c0_0_18 := below_cell s18 c0_0_17
      clear c0_0_17
      have c0_1_18 := below_cell s18 c0_1_17
      clear c0_1_17
      have c0_2_18 := below_cell s18 c0_2_17
      clear c0_2_17
      have c1_0_18 := below_cell s18 c1_0_17
      clear c1_0_17
      have c1_1_18 := below_cell s18 c1_1_17
      clear c1_1_17
      have c2_0_18 := below_cell s18 c2_0_17
      clear c2_0_17
      have c2_1_18 := below_cell s18 c2_1_17
      clear c2_1_17
      have c2_2_18 := below_cell s18 c2_2_17
      clear c2_2_17
      have c2_3_18 := below_cell s18 c2_3_17
      clear c2_3_17
      have c2_4_18 := below_cell s18 c2_4_17
      clear c2_4_17
      have c3_0_18 := below_cell s18 c3_0_17
      clear c3_0_17
      have c3_1_18 := below_cell s18 c3_1_17
      clear c3_1_17
      have c3_2_18 := below_cell s18 c3_2_17
      clear c3_2_17
      have c4_0_18 := below_cell s18 c4_0_17
      clear c4_0_17
      have c4_1_18 := below_cell s18 c4_1_17
      clear c4_1_17
      have c4_2_18 := below_cell s18 c4_2_17
      clear c4_2_17
      have c5_0_18 := below_cell s18 c5_0_17
      clear c5_0_17
      have c5_1_18 := below_cell s18 c5_1_17
      clear c5_1_17
      have c6_0_18 := below_cell s18 c6_0_17
      clear c6_0_17
      have c6_1_18 := below_cell s18 c6_1_17
      clear c6_1_17
      have c6_2_18 := below_cell s18 c6_2_17
      clear c6_2_17
      have c7_0_18 := below_cell s18 c7_0_17
      clear c7_0_17
      have c7_1_18 := below_cell s18 c7_1_17
      clear c7_1_17
      have c7_2_18 := below_cell s18 c7_2_17
      clear c7_2_17
      have o1_18 := O1_17.out.later s18
      have O1_18 := Lib.hid o1_18; clear o1_18
      have o3_18 := own_later O3_17.out s18
      have O3_18 := Lib.hid o3_18; clear o3_18
      have o4_18 := O4_17.out.later s18
      have O4_18 := Lib.hid o4_18; clear o4_18
      have o5_18 := O5_17.out.later s18
      have O5_18 := Lib.hid o5_18; clear o5_18
      clear al0_0_17
      clear al0_1_17
      clear al0_2_17
      clear al1_0_17
      clear al1_1_17
      clear al2_0_17
      clear al2_1_17
      clear al2_2_17
      clear al2_3_17
      clear al2_4_17
      clear al3_0_17
      clear al3_1_17
      clear al3_2_17
      clear al4_0_17
      clear al4_1_17
      clear al4_2_17
      clear al5_0_17
      clear al5_1_17
      clear al6_0_17
      clear al6_1_17
      clear al6_2_17
      clear al7_0_17
      clear al7_1_17
      clear al7_2_17
      have al0_0_18 := fun o => alloc_cell o c0_0_18
      have al0_1_18 := fun o => alloc_cell o c0_1_18
      have al0_2_18 := fun o => alloc_cell o c0_2_18
      have al1_0_18 := fun o => alloc_cell o c1_0_18
      have al1_1_18 := fun o => alloc_cell o c1_1_18
      have al2_0_18 := fun o => alloc_cell o c2_0_18
      have al2_1_18 := fun o => alloc_cell o c2_1_18
      have al2_2_18 := fun o => alloc_cell o c2_2_18
      have al2_3_18 := fun o => alloc_cell o c2_3_18
      have al2_4_18 := fun o => alloc_cell o c2_4_18
      have al3_0_18 := fun o => alloc_cell o c3_0_18
      have al3_1_18 := fun o => alloc_cell o c3_1_18
      have al3_2_18 := fun o => alloc_cell o c3_2_18
      have al4_0_18 := fun o => alloc_cell o c4_0_18
      have al4_1_18 := fun o => alloc_cell o c4_1_18
      have al4_2_18 := fun o => alloc_cell o c4_2_18
      have al5_0_18 := fun o => alloc_cell o c5_0_18
      have al5_1_18 := fun o => alloc_cell o c5_1_18
      have al6_0_18 := fun o => alloc_cell o c6_0_18
      have al6_1_18 := fun o => alloc_cell o c6_1_18
      have al6_2_18 := fun o => alloc_cell o c6_2_18
      have al7_0_18 := fun o => alloc_cell o c7_0_18
      have al7_1_18 := fun o => alloc_cell o c7_1_18
      have al7_2_18 := fun o => alloc_cell o c7_2_18
      go_wp2
      go_returns
      exact RetB.mk rfl b18
    · skip
      have hz1' := fun w' (hb : Below w.heap.size w w') => szProfile_c nm1 sv1 rs1.length (trips rs1) (1048576 - (zs0.length : Int) - (SzSS ws0 : Int) - (bs0.length : Int)) w' hnm1 (h1.later hb) (by omega) (by omega)
      rw [leftP_neg (by omega)] at hz1'
      have HZ1 := Lib.hid hz1'; clear hz1'
      have HS := Lib.hid hs; clear hs
      have HI := Lib.hid hi; clear hi
      go_enter Try.func4, Try.ntmps4
      have b0 : Below w.heap.size w w := Below.refl _ _
      have z0 : w.heap.size ≤ w.heap.size := Nat.le_refl _
      go_wp2_with fail
      refine (HZ0.out _ (by go_grown)).mono ?_
      rintro _ w1 ⟨rfl, r1⟩
      have s1 : Below w.heap.size w w1 := Below.trans (by go_grown) (r1.mono (by simp; try omega))
      have y1 := s1.size
      have v1 : w.heap.size + 3 ≤ w1.heap.size := by have := r1.size; simp only [World.size_alloc] at this; omega
      have b1 := b0.trans (s1.mono z0)
      have z1 := b1.size
      have c0_0_1 := below_cell r1 (p := ⟨w.heap.size, 0, none⟩) (v := zv0) (by simp [go_sem])
      have c0_1_1 := below_cell r1 (p := ⟨w.heap.size, 1, none⟩) (v := wv0) (by simp [go_sem])
      have c0_2_1 := below_cell r1 (p := ⟨w.heap.size, 2, none⟩) (v := bv0) (by simp [go_sem])
      have c1_0_1 := below_cell r1 (p := ⟨w.heap.size + 1, 0, none⟩) (v := .string nm1) (by simp [go_sem])
      have c1_1_1 := below_cell r1 (p := ⟨w.heap.size + 1, 1, none⟩) (v := sv1) (by simp [go_sem])
      have c2_0_1 := below_cell r1 (p := ⟨w.heap.size + 1 + 1, 0, none⟩) (v := .int .i64 so2a) (by simp [go_sem])
      have c2_1_1 := below_cell r1 (p := ⟨w.heap.size + 1 + 1, 1, none⟩) (v := .int .i64 so2b) (by simp [go_sem])
      have c2_2_1 := below_cell r1 (p := ⟨w.heap.size + 1 + 1, 2, none⟩) (v := .int .i64 so2c) (by simp [go_sem])
      have c2_3_1 := below_cell r1 (p := ⟨w.heap.size + 1 + 1, 3, none⟩) (v := .int .i64 so2d) (by simp [go_sem])
      have c2_4_1 := below_cell r1 (p := ⟨w.heap.size + 1 + 1, 4, none⟩) (v := .int .i64 so2e) (by simp [go_sem])
      clear r1
      have al0_0_1 := fun o => alloc_cell o c0_0_1
      have al0_1_1 := fun o => alloc_cell o c0_1_1
      have al0_2_1 := fun o => alloc_cell o c0_2_1
      have al1_0_1 := fun o => alloc_cell o c1_0_1
      have al1_1_1 := fun o => alloc_cell o c1_1_1
      have al2_0_1 := fun o => alloc_cell o c2_0_1
      have al2_1_1 := fun o => alloc_cell o c2_1_1
      have al2_2_1 := fun o => alloc_cell o c2_2_1
      have al2_3_1 := fun o => alloc_cell o c2_3_1
      have al2_4_1 := fun o => alloc_cell o c2_4_1
      go_wp2_with fail
      refine (HZ1.out _ b1).mono ?_
      rintro _ w2 ⟨rfl, r2⟩
      have s2 := r2
      have y2 := s2.size
      have b2 := b1.trans (s2.mono z1)
      have z2 := b2.size
      have c0_0_2 := below_cell s2 c0_0_1
      clear c0_0_1
      have c0_1_2 := below_cell s2 c0_1_1
      clear c0_1_1
      have c0_2_2 := below_cell s2 c0_2_1
      clear c0_2_1
      have c1_0_2 := below_cell s2 c1_0_1
      clear c1_0_1
      have c1_1_2 := below_cell s2 c1_1_1
      clear c1_1_1
      have c2_0_2 := below_cell s2 c2_0_1
      clear c2_0_1
      have c2_1_2 := below_cell s2 c2_1_1
      clear c2_1_1
      have c2_2_2 := below_cell s2 c2_2_1
      clear c2_2_1
      have c2_3_2 := below_cell s2 c2_3_1
      clear c2_3_1
      have c2_4_2 := below_cell s2 c2_4_1
      clear c2_4_1
      clear al0_0_1
      clear al0_1_1
      clear al0_2_1
      clear al1_0_1
      clear al1_1_1
      clear al2_0_1
      clear al2_1_1
      clear al2_2_1
      clear al2_3_1
      clear al2_4_1
      have al0_0_2 := fun o => alloc_cell o c0_0_2
      have al0_1_2 := fun o => alloc_cell o c0_1_2
      have al0_2_2 := fun o => alloc_cell o c0_2_2
      have al1_0_2 := fun o => alloc_cell o c1_0_2
      have al1_1_2 := fun o => alloc_cell o c1_1_2
      have al2_0_2 := fun o => alloc_cell o c2_0_2
      have al2_1_2 := fun o => alloc_cell o c2_1_2
      have al2_2_2 := fun o => alloc_cell o c2_2_2
      have al2_3_2 := fun o => alloc_cell o c2_3_2
      have al2_4_2 := fun o => alloc_cell o c2_4_2
      go_wp2
      go_returns
      exact RetB.mk rfl b2
  · skip
    have hz0' := fun w' (hb : Below w.heap.size w w') => szModel_c zv0 wv0 bv0 zs0 ws0 bs0 (1048576) w' (hz0.later hb) (hw0.later hb) (hb0.later hb) (by omega) (by omega)
    rw [leftM_neg (by omega)] at hz0'
    have HZ0 := Lib.hid hz0'; clear hz0'
    have HS := Lib.hid hs; clear hs
    have HI := Lib.hid hi; clear hi
    go_enter Try.func4, Try.ntmps4
    have b0 : Below w.heap.size w w := Below.refl _ _
    have z0 : w.heap.size ≤ w.heap.size := Nat.le_refl _
    go_wp2_with fail
    refine (HZ0.out _ (by go_grown)).mono ?_
    rintro _ w1 ⟨rfl, r1⟩
    have s1 : Below w.heap.size w w1 := Below.trans (by go_grown) (r1.mono (by simp; try omega))
    have y1 := s1.size
    have v1 : w.heap.size + 3 ≤ w1.heap.size := by have := r1.size; simp only [World.size_alloc] at this; omega
    have b1 := b0.trans (s1.mono z0)
    have z1 := b1.size
    have c0_0_1 := below_cell r1 (p := ⟨w.heap.size, 0, none⟩) (v := zv0) (by simp [go_sem])
    have c0_1_1 := below_cell r1 (p := ⟨w.heap.size, 1, none⟩) (v := wv0) (by simp [go_sem])
    have c0_2_1 := below_cell r1 (p := ⟨w.heap.size, 2, none⟩) (v := bv0) (by simp [go_sem])
    have c1_0_1 := below_cell r1 (p := ⟨w.heap.size + 1, 0, none⟩) (v := .string nm1) (by simp [go_sem])
    have c1_1_1 := below_cell r1 (p := ⟨w.heap.size + 1, 1, none⟩) (v := sv1) (by simp [go_sem])
    have c2_0_1 := below_cell r1 (p := ⟨w.heap.size + 1 + 1, 0, none⟩) (v := .int .i64 so2a) (by simp [go_sem])
    have c2_1_1 := below_cell r1 (p := ⟨w.heap.size + 1 + 1, 1, none⟩) (v := .int .i64 so2b) (by simp [go_sem])
    have c2_2_1 := below_cell r1 (p := ⟨w.heap.size + 1 + 1, 2, none⟩) (v := .int .i64 so2c) (by simp [go_sem])
    have c2_3_1 := below_cell r1 (p := ⟨w.heap.size + 1 + 1, 3, none⟩) (v := .int .i64 so2d) (by simp [go_sem])
    have c2_4_1 := below_cell r1 (p := ⟨w.heap.size + 1 + 1, 4, none⟩) (v := .int .i64 so2e) (by simp [go_sem])
    clear r1
    have al0_0_1 := fun o => alloc_cell o c0_0_1
    have al0_1_1 := fun o => alloc_cell o c0_1_1
    have al0_2_1 := fun o => alloc_cell o c0_2_1
    have al1_0_1 := fun o => alloc_cell o c1_0_1
    have al1_1_1 := fun o => alloc_cell o c1_1_1
    have al2_0_1 := fun o => alloc_cell o c2_0_1
    have al2_1_1 := fun o => alloc_cell o c2_1_1
    have al2_2_1 := fun o => alloc_cell o c2_2_1
    have al2_3_1 := fun o => alloc_cell o c2_3_1
    have al2_4_1 := fun o => alloc_cell o c2_4_1
    go_wp2
    go_returns
    exact RetB.mk rfl b1

theorem lawFitBase_c (w : World) (zv0 wv0 bv0 : Value) (zs0 : List Int) (ws0 : List (List Int)) (bs0 : List Int) (hz0 : Rd w zv0 zs0.length (ints zs0)) (hw0 : RdSS w wv0 ws0) (hb0 : Rd w bv0 bs0.length (ints bs0)) (w0 : (∀ z ∈ zs0, I64 z) ∧ (∀ x ∈ ws0, ∀ z ∈ x, I64 z) ∧ ∀ z ∈ bs0, I64 z) (nm1 : ByteArray) (sv1 : Value) (rs1 : List (Int × Int × Int)) (hnm1 : nm1.size ≤ maxLen) (h1 : Rd w sv1 rs1.length (trips rs1)) (w1 : ∀ z ∈ rs1, I64 z.1 ∧ I64 z.2.1 ∧ I64 z.2.2) (so2a so2b so2c so2d so2e : Int) (w2 : I64 so2a ∧ I64 so2b ∧ I64 so2c ∧ I64 so2d ∧ I64 so2e) :
    Calls Try.prog 4 #[.agg #[zv0, wv0, bv0], .agg #[.string nm1, sv1], .agg #[.int .i64 so2a, .int .i64 so2b, .int .i64 so2c, .int .i64 so2d, .int .i64 so2e]] w (RetB (.bool true) w) :=
  lawFitBase_h w zv0 wv0 bv0 zs0 ws0 bs0 hz0 hw0 hb0 nm1 sv1 rs1 hnm1 h1 so2a so2b so2c so2d so2e (fitM zs0 ws0 bs0 nm1 rs1 so2a so2b so2c so2d so2e).1.1 (fitM zs0 ws0 bs0 nm1 rs1 so2a so2b so2c so2d so2e).1.2.1 (fitM zs0 ws0 bs0 nm1 rs1 so2a so2b so2c so2d so2e).1.2.2 (fitM_bd zs0 ws0 bs0 nm1 rs1 so2a so2b so2c so2d so2e) _ (fun w' uz uw ub u1 hz hw hb h1 => specFitBase_c uz uw ub zs0 ws0 bs0 nm1 u1 rs1 so2a so2b so2c so2d so2e w' hz hw hb hnm1 h1) (fun w' uz uw ub u1 hz hw hb h1 => implFitBase_c uz uw ub zs0 ws0 bs0 nm1 u1 rs1 so2a so2b so2c so2d so2e w' hz hw hb hnm1 h1)

end Go.Proofs.Ytmeeibcbhjifbaa
