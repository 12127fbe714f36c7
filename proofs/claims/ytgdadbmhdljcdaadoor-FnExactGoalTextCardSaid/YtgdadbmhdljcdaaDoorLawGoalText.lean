/- The law of GoalText, walked. -/
import Derived.Test.YtgdadbmhdljcdaaDoorGC
import Derived.Test.YtgdadbmhdljcdaaDoorTxtGo
namespace Go.Proofs.YtgdadbmhdljcdaaDoor
set_option linter.unusedVariables false
open Go.RowKit Go.Proofs.Bell Go.BigFrame

set_option maxRecDepth 100000 in
set_option maxHeartbeats 3200000 in
theorem lawGoalText_h (w : World) (go0a go0b go0c go0d go0e go0f go0g : Int) (t0 : ByteArray)
    (hs : ∀ w', Below w.heap.size w w' → Calls Tryd.prog 25 #[.agg #[.int .i64 go0a, .int .i64 go0b, .int .i64 go0c, .int .i64 go0d, .int .i64 go0e, .int .i64 go0f, .int .i64 go0g]] w' (RetB (.string t0) w'))
    (hi : ∀ w', Below w.heap.size w w' → Calls Tryd.prog 27 #[.agg #[.int .i64 go0a, .int .i64 go0b, .int .i64 go0c, .int .i64 go0d, .int .i64 go0e, .int .i64 go0f, .int .i64 go0g]] w' (RetB (.string t0) w')) :
    Calls Tryd.prog 6 #[.agg #[.int .i64 go0a, .int .i64 go0b, .int .i64 go0c, .int .i64 go0d, .int .i64 go0e, .int .i64 go0f, .int .i64 go0g]] w (RetB (.bool true) w) := by
  have ht0 := fun w' => toGoal_c go0a go0b go0c go0d go0e go0f go0g w'
  have HT0 := Lib.hid ht0; clear ht0
  have HS := Lib.hid hs; clear hs
  have HI := Lib.hid hi; clear hi
  go_enter Tryd.func6, Tryd.ntmps6
  have b0 : Below w.heap.size w w := Below.refl _ _
  have z0 : w.heap.size ≤ w.heap.size := Nat.le_refl _
  go_wp2_with fail
  refine (HT0.out _).mono ?_
  rintro _ w1 ⟨rfl, r1⟩
  have s1 : Below w.heap.size w w1 := Below.trans (by go_grown) (r1.mono (by simp; try omega))
  have y1 := s1.size
  have v1 : w.heap.size + 1 ≤ w1.heap.size := by have := r1.size; simp only [World.size_alloc] at this; omega
  have b1 := b0.trans (s1.mono z0)
  have z1 := b1.size
  have c0_0_1 := below_cell r1 (p := ⟨w.heap.size, 0, none⟩) (v := .int .i64 go0a) (by simp [go_sem])
  have c0_1_1 := below_cell r1 (p := ⟨w.heap.size, 1, none⟩) (v := .int .i64 go0b) (by simp [go_sem])
  have c0_2_1 := below_cell r1 (p := ⟨w.heap.size, 2, none⟩) (v := .int .i64 go0c) (by simp [go_sem])
  have c0_3_1 := below_cell r1 (p := ⟨w.heap.size, 3, none⟩) (v := .int .i64 go0d) (by simp [go_sem])
  have c0_4_1 := below_cell r1 (p := ⟨w.heap.size, 4, none⟩) (v := .int .i64 go0e) (by simp [go_sem])
  have c0_5_1 := below_cell r1 (p := ⟨w.heap.size, 5, none⟩) (v := .int .i64 go0f) (by simp [go_sem])
  have c0_6_1 := below_cell r1 (p := ⟨w.heap.size, 6, none⟩) (v := .int .i64 go0g) (by simp [go_sem])
  clear r1
  go_wp2_with fail
  refine (HS.out _ b1).mono ?_
  rintro _ w2 ⟨rfl, r2⟩
  have s2 := r2
  have y2 := s2.size
  have b2 := b1.trans (s2.mono z1)
  have z2 := b2.size
  have c0_0_2 := below_cell s2 c0_0_1
  clear c0_0_1
  have c0_1_2 := below_cell s2 c0_1_1
  clear c0_1_1
  have c0_2_2 := below_cell s2 c0_2_1
  clear c0_2_1
  have c0_3_2 := below_cell s2 c0_3_1
  clear c0_3_1
  have c0_4_2 := below_cell s2 c0_4_1
  clear c0_4_1
  have c0_5_2 := below_cell s2 c0_5_1
  clear c0_5_1
  have c0_6_2 := below_cell s2 c0_6_1
  clear c0_6_1
  go_wp2_with fail
  refine (HT0.out _).mono ?_
  rintro _ w3 ⟨rfl, r3⟩
  have s3 := r3
  have y3 := s3.size
  have b3 := b2.trans (s3.mono z2)
  have z3 := b3.size
  have c0_0_3 := below_cell s3 c0_0_2
  clear c0_0_2
  have c0_1_3 := below_cell s3 c0_1_2
  clear c0_1_2
  have c0_2_3 := below_cell s3 c0_2_2
  clear c0_2_2
  have c0_3_3 := below_cell s3 c0_3_2
  clear c0_3_2
  have c0_4_3 := below_cell s3 c0_4_2
  clear c0_4_2
  have c0_5_3 := below_cell s3 c0_5_2
  clear c0_5_2
  have c0_6_3 := below_cell s3 c0_6_2
  clear c0_6_2
  go_wp2_with fail
  refine (HI.out _ b3).mono ?_
  rintro _ w4 ⟨rfl, r4⟩
  have s4 := r4
  have y4 := s4.size
  have b4 := b3.trans (s4.mono z3)
  have z4 := b4.size
  have c0_0_4 := below_cell s4 c0_0_3
  clear c0_0_3
  have c0_1_4 := below_cell s4 c0_1_3
  clear c0_1_3
  have c0_2_4 := below_cell s4 c0_2_3
  clear c0_2_3
  have c0_3_4 := below_cell s4 c0_3_3
  clear c0_3_3
  have c0_4_4 := below_cell s4 c0_4_3
  clear c0_4_3
  have c0_5_4 := below_cell s4 c0_5_3
  clear c0_5_3
  have c0_6_4 := below_cell s4 c0_6_3
  clear c0_6_3
  go_wp2
  go_returns
  exact RetB.mk rfl b4

theorem lawGoalText_c (w : World) (htab : Tab w) (go0a go0b go0c go0d go0e go0f go0g : Int) (w0 : I64 go0a ∧ I64 go0b ∧ I64 go0c ∧ I64 go0d ∧ I64 go0e ∧ I64 go0f ∧ I64 go0g) :
    Calls Tryd.prog 6 #[.agg #[.int .i64 go0a, .int .i64 go0b, .int .i64 go0c, .int .i64 go0d, .int .i64 go0e, .int .i64 go0f, .int .i64 go0g]] w (RetB (.bool true) w) :=
  lawGoalText_h w go0a go0b go0c go0d go0e go0f go0g (goalTI go0a go0b go0c go0d go0e go0f go0g) (fun w' _ => specGoalText_c go0a go0b go0c go0d go0e go0f go0g w') (fun w' b => implGoalText_c go0a go0b go0c go0d go0e go0f go0g w' (htab.later b))

end Go.Proofs.YtgdadbmhdljcdaaDoor
