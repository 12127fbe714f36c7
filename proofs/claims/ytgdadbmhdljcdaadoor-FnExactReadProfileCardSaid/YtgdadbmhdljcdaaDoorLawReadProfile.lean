/- The law of ReadProfile, walked. -/
import Derived.Test.YtgdadbmhdljcdaaDoorGC
import Derived.Test.YtgdadbmhdljcdaaDoorTxtPi
import Derived.Test.YtgdadbmhdljcdaaDoorTxtPj
namespace Go.Proofs.YtgdadbmhdljcdaaDoor
set_option linter.unusedVariables false
open Go.RowKit Go.Proofs.Bell Go.BigFrame

set_option maxRecDepth 100000 in
set_option maxHeartbeats 3200000 in
theorem lawReadProfile_h (w : World) (st0 : ByteArray) (hst0 : st0.size ≤ maxLen) (qn0 : ByteArray) (q0 : List (Int × Int × Int)) (hq0 : q0.length ≤ 1000000) (t1 : Bool)
    (hs : ∀ w', Below w.heap.size w w' → (st0.size : Int) ≤ 1048576 → Calls Tryd.prog 36 #[.string st0] w' (RetP2 qn0 q0 (.bool t1) w'))
    (hi : ∀ w', Below w.heap.size w w' → (st0.size : Int) ≤ 1048576 → Calls Tryd.prog 37 #[.string st0] w' (RetP2 qn0 q0 (.bool t1) w')) :
    Calls Tryd.prog 9 #[.string st0] w (RetB (.bool true) w) := by
  unfold maxLen at hst0
  by_cases hl0 : (st0.size : Int) ≤ 1048576
  · skip
    have heq := fun w' x y (h1 : Rd w' x q0.length (trips q0)) (h2 : Rd w' y q0.length (trips q0)) => eqProfile_c qn0 qn0 x y q0 q0 w' h1 h2
    rw [eqPr_refl] at heq
    have HEq := Lib.hid heq; clear heq
    have HS := Lib.hid hs; clear hs
    have HI := Lib.hid hi; clear hi
    go_enter Tryd.func9, Tryd.ntmps9
    have b0 : Below w.heap.size w w := Below.refl _ _
    have z0 : w.heap.size ≤ w.heap.size := Nat.le_refl _
    go_wp2_with fail
    refine (HS.out _ b0 hl0).mono ?_
    rintro _ w1 ⟨x1, rfl, n1, r1⟩
    have s1 := r1
    have y1 := s1.size
    have b1 := b0.trans (s1.mono z0)
    have z1 := b1.size
    obtain ⟨ao1, cap1, g1, rfl, _, _⟩ := own_open n1
    have up1 := fun k hk => (World.ownsRow.lt n1 k hk).2
    have lo1 := fun k hk => (World.ownsRow.lt n1 k hk).1
    try simp only [World.size_alloc] at lo1
    have UP1 := Lib.hid up1; clear up1
    have LO1 := Lib.hid lo1; clear lo1
    have o1' := n1
    have O1_1 := Lib.hid o1'; clear o1'
    clear n1
    go_wp2_with fail
    refine (HI.out _ (by go_grown) hl0).mono ?_
    rintro _ w2 ⟨x2, rfl, n2, r2⟩
    have s2 : Below w1.heap.size w1 w2 := Below.trans (by go_grown) (r2.mono (by simp; try omega))
    have y2 := s2.size
    have v2 : w1.heap.size + 1 ≤ w2.heap.size := by have := r2.size; simp only [World.size_alloc] at this; omega
    have b2 := b1.trans (s2.mono z1)
    have z2 := b2.size
    have c0_0_2 := below_cell r2 (p := ⟨w1.heap.size, 0, none⟩) (v := .string qn0) (by simp [go_sem])
    have c0_1_2 := below_cell r2 (p := ⟨w1.heap.size, 1, none⟩) (v := .slice ao1 q0.length cap1) (by simp [go_sem])
    have o1_2 := own_later O1_1.out s2
    have O1_2 := Lib.hid o1_2; clear o1_2
    clear r2
    have al0_0_2 := fun o => alloc_cell o c0_0_2
    have al0_1_2 := fun o => alloc_cell o c0_1_2
    obtain ⟨ao2, cap2, g2, rfl, _, _⟩ := own_open n2
    have up2 := fun k hk => (World.ownsRow.lt n2 k hk).2
    have lo2 := fun k hk => (World.ownsRow.lt n2 k hk).1
    try simp only [World.size_alloc] at lo2
    have UP2 := Lib.hid up2; clear up2
    have LO2 := Lib.hid lo2; clear lo2
    have o2' := n2
    have O2_2 := Lib.hid o2'; clear o2'
    clear n2
    go_wp2_with fail
    refine (HEq.out _ _ _ ((Rd.of_own O2_2.out).later (by go_grown)) ((Rd.of_own O1_2.out).later (by go_grown))).mono ?_
    rintro _ w3 ⟨rfl, r3⟩
    have s3 : Below w2.heap.size w2 w3 := Below.trans (by go_grown) (r3.mono (by simp; try omega))
    have y3 := s3.size
    have v3 : w2.heap.size + 1 ≤ w3.heap.size := by have := r3.size; simp only [World.size_alloc] at this; omega
    have b3 := b2.trans (s3.mono z2)
    have z3 := b3.size
    have c0_0_3 := below_cell s3 c0_0_2
    clear c0_0_2
    have c0_1_3 := below_cell s3 c0_1_2
    clear c0_1_2
    have c1_0_3 := below_cell r3 (p := ⟨w2.heap.size, 0, none⟩) (v := .string qn0) (by simp [go_sem])
    have c1_1_3 := below_cell r3 (p := ⟨w2.heap.size, 1, none⟩) (v := .slice ao2 q0.length cap2) (by simp [go_sem])
    have o1_3 := own_later O1_2.out s3
    have O1_3 := Lib.hid o1_3; clear o1_3
    have o2_3 := own_later O2_2.out s3
    have O2_3 := Lib.hid o2_3; clear o2_3
    clear r3
    clear al0_0_2
    clear al0_1_2
    have al0_0_3 := fun o => alloc_cell o c0_0_3
    have al0_1_3 := fun o => alloc_cell o c0_1_3
    have al1_0_3 := fun o => alloc_cell o c1_0_3
    have al1_1_3 := fun o => alloc_cell o c1_1_3
    go_wp2_with fail
    refine (markProfile_c _ _ _ _ _ _ _ O2_3.out (by omega) (by omega) (by omega)).mono ?_
    rintro _ w4 ⟨rfl, m4, q4⟩
    have y4 := q4.size
    have b4 := Only.below b3 q4 z3 (fun b hS => by have := LO2.out b hS; omega)
    have z4 := b4.size
    have c0_0_4 := cell_only q4 c0_0_3 (fun hS => by have h1 : _ ≤ w1.heap.size := LO2.out _ hS; have h2 : w1.heap.size < _ := UP2.out _ hS; omega)
    clear c0_0_3
    have c0_1_4 := cell_only q4 c0_1_3 (fun hS => by have h1 : _ ≤ w1.heap.size := LO2.out _ hS; have h2 : w1.heap.size < _ := UP2.out _ hS; omega)
    clear c0_1_3
    have c1_0_4 := cell_only q4 c1_0_3 (fun hS => by have h1 : _ ≤ w2.heap.size := LO2.out _ hS; have h2 : w2.heap.size < _ := UP2.out _ hS; omega)
    clear c1_0_3
    have c1_1_4 := cell_only q4 c1_1_3 (fun hS => by have h1 : _ ≤ w2.heap.size := LO2.out _ hS; have h2 : w2.heap.size < _ := UP2.out _ hS; omega)
    clear c1_1_3
    have o1_4 := own_only O1_3.out q4 (fun k hk hS => by have := LO2.out _ hS; have := UP2.out _ hS; have := LO1.out _ hk; have := UP1.out _ hk; omega)
    have O1_4 := Lib.hid o1_4; clear o1_4
    have O2_4 := Lib.hid m4; clear m4
    go_wp2_with fail
    refine (heldProfile_c _ _ _ _ _ (Rd.of_own O2_4.out) (by omega) (by omega)).mono ?_
    rintro _ w5 ⟨rfl, r5⟩
    have s5 := r5
    have y5 := s5.size
    have b5 := b4.trans (s5.mono z4)
    have z5 := b5.size
    have c0_0_5 := below_cell s5 c0_0_4
    clear c0_0_4
    have c0_1_5 := below_cell s5 c0_1_4
    clear c0_1_4
    have c1_0_5 := below_cell s5 c1_0_4
    clear c1_0_4
    have c1_1_5 := below_cell s5 c1_1_4
    clear c1_1_4
    have o1_5 := own_later O1_4.out s5
    have O1_5 := Lib.hid o1_5; clear o1_5
    have o2_5 := own_later O2_4.out s5
    have O2_5 := Lib.hid o2_5; clear o2_5
    clear al0_0_3
    clear al0_1_3
    clear al1_0_3
    clear al1_1_3
    have al0_0_5 := fun o => alloc_cell o c0_0_5
    have al0_1_5 := fun o => alloc_cell o c0_1_5
    have al1_0_5 := fun o => alloc_cell o c1_0_5
    have al1_1_5 := fun o => alloc_cell o c1_1_5
    go_wp2_with fail
    refine (HI.out _ b5 hl0).mono ?_
    rintro _ w6 ⟨x3, rfl, n3, r6⟩
    have s6 := r6
    have y6 := s6.size
    have b6 := b5.trans (s6.mono z5)
    have z6 := b6.size
    have c0_0_6 := below_cell s6 c0_0_5
    clear c0_0_5
    have c0_1_6 := below_cell s6 c0_1_5
    clear c0_1_5
    have c1_0_6 := below_cell s6 c1_0_5
    clear c1_0_5
    have c1_1_6 := below_cell s6 c1_1_5
    clear c1_1_5
    have o1_6 := own_later O1_5.out s6
    have O1_6 := Lib.hid o1_6; clear o1_6
    have o2_6 := own_later O2_5.out s6
    have O2_6 := Lib.hid o2_6; clear o2_6
    clear al0_0_5
    clear al0_1_5
    clear al1_0_5
    clear al1_1_5
    have al0_0_6 := fun o => alloc_cell o c0_0_6
    have al0_1_6 := fun o => alloc_cell o c0_1_6
    have al1_0_6 := fun o => alloc_cell o c1_0_6
    have al1_1_6 := fun o => alloc_cell o c1_1_6
    obtain ⟨ao3, cap3, g3, rfl, _, _⟩ := own_open n3
    have up3 := fun k hk => (World.ownsRow.lt n3 k hk).2
    have lo3 := fun k hk => (World.ownsRow.lt n3 k hk).1
    try simp only [World.size_alloc] at lo3
    have UP3 := Lib.hid up3; clear up3
    have LO3 := Lib.hid lo3; clear lo3
    have o3' := n3
    have O3_6 := Lib.hid o3'; clear o3'
    clear n3
    go_wp2_with fail
    refine (HEq.out _ _ _ ((Rd.of_own O3_6.out).later (by go_grown)) ((Rd.of_own O1_6.out).later (by go_grown))).mono ?_
    rintro _ w7 ⟨rfl, r7⟩
    have s7 : Below w6.heap.size w6 w7 := Below.trans (by go_grown) (r7.mono (by simp; try omega))
    have y7 := s7.size
    have v7 : w6.heap.size + 1 ≤ w7.heap.size := by have := r7.size; simp only [World.size_alloc] at this; omega
    have b7 := b6.trans (s7.mono z6)
    have z7 := b7.size
    have c0_0_7 := below_cell s7 c0_0_6
    clear c0_0_6
    have c0_1_7 := below_cell s7 c0_1_6
    clear c0_1_6
    have c1_0_7 := below_cell s7 c1_0_6
    clear c1_0_6
    have c1_1_7 := below_cell s7 c1_1_6
    clear c1_1_6
    have c2_0_7 := below_cell r7 (p := ⟨w6.heap.size, 0, none⟩) (v := .string qn0) (by simp [go_sem])
    have c2_1_7 := below_cell r7 (p := ⟨w6.heap.size, 1, none⟩) (v := .slice ao3 q0.length cap3) (by simp [go_sem])
    have o1_7 := own_later O1_6.out s7
    have O1_7 := Lib.hid o1_7; clear o1_7
    have o2_7 := own_later O2_6.out s7
    have O2_7 := Lib.hid o2_7; clear o2_7
    have o3_7 := own_later O3_6.out s7
    have O3_7 := Lib.hid o3_7; clear o3_7
    clear r7
    clear al0_0_6
    clear al0_1_6
    clear al1_0_6
    clear al1_1_6
    have al0_0_7 := fun o => alloc_cell o c0_0_7
    have al0_1_7 := fun o => alloc_cell o c0_1_7
    have al1_0_7 := fun o => alloc_cell o c1_0_7
    have al1_1_7 := fun o => alloc_cell o c1_1_7
    have al2_0_7 := fun o => alloc_cell o c2_0_7
    have al2_1_7 := fun o => alloc_cell o c2_1_7
    go_wp2_with fail
    refine (heldProfile_c _ _ _ _ _ (Rd.of_own O2_7.out) (by omega) (by omega)).mono ?_
    rintro _ w8 ⟨rfl, r8⟩
    have s8 := r8
    have y8 := s8.size
    have b8 := b7.trans (s8.mono z7)
    have z8 := b8.size
    have c0_0_8 := below_cell s8 c0_0_7
    clear c0_0_7
    have c0_1_8 := below_cell s8 c0_1_7
    clear c0_1_7
    have c1_0_8 := below_cell s8 c1_0_7
    clear c1_0_7
    have c1_1_8 := below_cell s8 c1_1_7
    clear c1_1_7
    have c2_0_8 := below_cell s8 c2_0_7
    clear c2_0_7
    have c2_1_8 := below_cell s8 c2_1_7
    clear c2_1_7
    have o1_8 := own_later O1_7.out s8
    have O1_8 := Lib.hid o1_8; clear o1_8
    have o2_8 := own_later O2_7.out s8
    have O2_8 := Lib.hid o2_8; clear o2_8
    have o3_8 := own_later O3_7.out s8
    have O3_8 := Lib.hid o3_8; clear o3_8
    clear al0_0_7
    clear al0_1_7
    clear al1_0_7
    clear al1_1_7
    clear al2_0_7
    clear al2_1_7
    have al0_0_8 := fun o => alloc_cell o c0_0_8
    have al0_1_8 := fun o => alloc_cell o c0_1_8
    have al1_0_8 := fun o => alloc_cell o c1_0_8
    have al1_1_8 := fun o => alloc_cell o c1_1_8
    have al2_0_8 := fun o => alloc_cell o c2_0_8
    have al2_1_8 := fun o => alloc_cell o c2_1_8
    go_wp2
    go_returns
    exact RetB.mk rfl b8
  · skip
    have HS := Lib.hid hs; clear hs
    have HI := Lib.hid hi; clear hi
    go_enter Tryd.func9, Tryd.ntmps9
    go_wp2
    go_returns
    exact RetB.mk rfl (by go_grown)

theorem lawReadProfile_c (w : World) (htab : RTab w) (st0 : ByteArray) (hst0 : st0.size ≤ maxLen) :
    Calls Tryd.prog 9 #[.string st0] w (RetB (.bool true) w) :=
  lawReadProfile_h w st0 hst0 (prN (readP (byteL st0))) (prL (readP (byteL st0))) (readP_len _) _ (fun w' b hl => specReadProfile_c st0 w' (by omega)) (fun w' b hl => implReadProfile_c st0 w' (by omega) (htab.later b))

end Go.Proofs.YtgdadbmhdljcdaaDoor
