/- The law of ReadCuts, walked. -/
import Derived.Test.YtgdadbmhdljcdaaDoorGC
import Derived.Test.YtgdadbmhdljcdaaDoorTxtRc
import Derived.Test.YtgdadbmhdljcdaaDoorTxtRi
namespace Go.Proofs.YtgdadbmhdljcdaaDoor
set_option linter.unusedVariables false
open Go.RowKit Go.Proofs.Bell Go.BigFrame

set_option maxRecDepth 100000 in
set_option maxHeartbeats 3200000 in
theorem lawReadCuts_h (w : World) (st0 : ByteArray) (hst0 : st0.size ≤ maxLen) (q0 : List (Int × Int)) (hq0 : q0.length ≤ 1000000) (t1 : Bool)
    (hs : ∀ w', Below w.heap.size w w' → (st0.size : Int) ≤ 1048576 → Calls Tryd.prog 32 #[.string st0] w' (RetC2 q0 (.bool t1) w'))
    (hi : ∀ w', Below w.heap.size w w' → (st0.size : Int) ≤ 1048576 → Calls Tryd.prog 33 #[.string st0] w' (RetC2 q0 (.bool t1) w')) :
    Calls Tryd.prog 8 #[.string st0] w (RetB (.bool true) w) := by
  unfold maxLen at hst0
  by_cases hl0 : (st0.size : Int) ≤ 1048576
  · skip
    have heq := fun w' x y (h1 : Rd w' x q0.length (pairs q0)) (h2 : Rd w' y q0.length (pairs q0)) => eqCutS_c x y q0 q0 w' h1 h2
    rw [eqPs_refl] at heq
    have HEq := Lib.hid heq; clear heq
    have HS := Lib.hid hs; clear hs
    have HI := Lib.hid hi; clear hi
    go_enter Tryd.func8, Tryd.ntmps8
    have b0 : Below w.heap.size w w := Below.refl _ _
    have z0 : w.heap.size ≤ w.heap.size := Nat.le_refl _
    go_wp2_with fail
    refine (HS.out _ b0 hl0).mono ?_
    rintro _ w1 ⟨x1, rfl, n1, r1⟩
    have s1 := r1
    have y1 := s1.size
    have b1 := b0.trans (s1.mono z0)
    have z1 := b1.size
    obtain ⟨ao1, cap1, g1, rfl, _, _⟩ := own_open n1
    have up1 := fun k hk => (World.ownsRow.lt n1 k hk).2
    have lo1 := fun k hk => (World.ownsRow.lt n1 k hk).1
    try simp only [World.size_alloc] at lo1
    have UP1 := Lib.hid up1; clear up1
    have LO1 := Lib.hid lo1; clear lo1
    have o1' := n1
    have O1_1 := Lib.hid o1'; clear o1'
    clear n1
    go_wp2_with fail
    refine (HI.out _ b1 hl0).mono ?_
    rintro _ w2 ⟨x2, rfl, n2, r2⟩
    have s2 := r2
    have y2 := s2.size
    have b2 := b1.trans (s2.mono z1)
    have z2 := b2.size
    have o1_2 := own_later O1_1.out s2
    have O1_2 := Lib.hid o1_2; clear o1_2
    obtain ⟨ao2, cap2, g2, rfl, _, _⟩ := own_open n2
    have up2 := fun k hk => (World.ownsRow.lt n2 k hk).2
    have lo2 := fun k hk => (World.ownsRow.lt n2 k hk).1
    try simp only [World.size_alloc] at lo2
    have UP2 := Lib.hid up2; clear up2
    have LO2 := Lib.hid lo2; clear lo2
    have o2' := n2
    have O2_2 := Lib.hid o2'; clear o2'
    clear n2
    go_wp2_with fail
    refine (HEq.out _ _ _ (Rd.of_own O2_2.out) (Rd.of_own O1_2.out)).mono ?_
    rintro _ w3 ⟨rfl, r3⟩
    have s3 := r3
    have y3 := s3.size
    have b3 := b2.trans (s3.mono z2)
    have z3 := b3.size
    have o1_3 := own_later O1_2.out s3
    have O1_3 := Lib.hid o1_3; clear o1_3
    have o2_3 := own_later O2_2.out s3
    have O2_3 := Lib.hid o2_3; clear o2_3
    go_wp2_with fail
    refine (markCutS_c _ _ _ _ _ _ O2_3.out (by omega) (by omega) (by omega)).mono ?_
    rintro _ w4 ⟨rfl, m4, q4⟩
    have y4 := q4.size
    have b4 := Only.below b3 q4 z3 (fun b hS => by have := LO2.out b hS; omega)
    have z4 := b4.size
    have o1_4 := own_only O1_3.out q4 (fun k hk hS => by have := LO2.out _ hS; have := UP2.out _ hS; have := LO1.out _ hk; have := UP1.out _ hk; omega)
    have O1_4 := Lib.hid o1_4; clear o1_4
    have O2_4 := Lib.hid m4; clear m4
    go_wp2_with fail
    refine (heldCutS_c _ _ _ _ (Rd.of_own O2_4.out) (by omega) (by omega)).mono ?_
    rintro _ _ ⟨rfl, rfl⟩
    go_wp2_with fail
    refine (HI.out _ b4 hl0).mono ?_
    rintro _ w5 ⟨x3, rfl, n3, r5⟩
    have s5 := r5
    have y5 := s5.size
    have b5 := b4.trans (s5.mono z4)
    have z5 := b5.size
    have o1_5 := own_later O1_4.out s5
    have O1_5 := Lib.hid o1_5; clear o1_5
    have o2_5 := own_later O2_4.out s5
    have O2_5 := Lib.hid o2_5; clear o2_5
    obtain ⟨ao3, cap3, g3, rfl, _, _⟩ := own_open n3
    have up3 := fun k hk => (World.ownsRow.lt n3 k hk).2
    have lo3 := fun k hk => (World.ownsRow.lt n3 k hk).1
    try simp only [World.size_alloc] at lo3
    have UP3 := Lib.hid up3; clear up3
    have LO3 := Lib.hid lo3; clear lo3
    have o3' := n3
    have O3_5 := Lib.hid o3'; clear o3'
    clear n3
    go_wp2_with fail
    refine (HEq.out _ _ _ (Rd.of_own O3_5.out) (Rd.of_own O1_5.out)).mono ?_
    rintro _ w6 ⟨rfl, r6⟩
    have s6 := r6
    have y6 := s6.size
    have b6 := b5.trans (s6.mono z5)
    have z6 := b6.size
    have o1_6 := own_later O1_5.out s6
    have O1_6 := Lib.hid o1_6; clear o1_6
    have o2_6 := own_later O2_5.out s6
    have O2_6 := Lib.hid o2_6; clear o2_6
    have o3_6 := own_later O3_5.out s6
    have O3_6 := Lib.hid o3_6; clear o3_6
    go_wp2_with fail
    refine (heldCutS_c _ _ _ _ (Rd.of_own O2_6.out) (by omega) (by omega)).mono ?_
    rintro _ _ ⟨rfl, rfl⟩
    go_wp2
    go_returns
    exact RetB.mk rfl b6
  · skip
    have HS := Lib.hid hs; clear hs
    have HI := Lib.hid hi; clear hi
    go_enter Tryd.func8, Tryd.ntmps8
    go_wp2
    go_returns
    exact RetB.mk rfl (by go_grown)

theorem lawReadCuts_c (w : World) (htab : RTab w) (st0 : ByteArray) (hst0 : st0.size ≤ maxLen) :
    Calls Tryd.prog 8 #[.string st0] w (RetB (.bool true) w) :=
  lawReadCuts_h w st0 hst0 _ (readC_len _) _ (fun w' b hl => specReadCuts_c st0 w' (by omega)) (fun w' b hl => implReadCuts_c st0 w' (by omega) (htab.later b))

end Go.Proofs.YtgdadbmhdljcdaaDoor
