/- The law of CutsText, walked. -/
import Derived.Test.YtgdadbmhdljcdaaDoorGC
import Derived.Test.YtgdadbmhdljcdaaDoorTxtD
namespace Go.Proofs.YtgdadbmhdljcdaaDoor
set_option linter.unusedVariables false
open Go.RowKit Go.Proofs.Bell Go.BigFrame

set_option maxRecDepth 100000 in
set_option maxHeartbeats 3200000 in
theorem lawCutsText_h (w : World) (v0 : Value) (ps0 : List (Int × Int)) (h0 : Rd w v0 ps0.length (pairs ps0)) (t0 : ByteArray)
    (hs : ∀ w' u0, Below w.heap.size w w' → Rd w' u0 ps0.length (pairs ps0) → Calls Tryd.prog 16 #[u0] w' (RetB (.string t0) w'))
    (hi : ∀ w' u0, Below w.heap.size w w' → Rd w' u0 ps0.length (pairs ps0) → Calls Tryd.prog 18 #[u0] w' (RetB (.string t0) w')) :
    Calls Tryd.prog 4 #[v0] w (RetB (.bool true) w) := by
  by_cases hl0 : (ps0.length : Int) ≤ 1048576
  · skip
    have hz0' := fun w' (hb : Below w.heap.size w w') => szCutS_c v0 ps0.length (pairs ps0) (1048576) w' (h0.later hb) (by omega) (by omega)
    rw [leftOf_pos (by omega)] at hz0'
    have HZ0 := Lib.hid hz0'; clear hz0'
    have ht0 := fun w' (hb : Below w.heap.size w w') => toCutS_c v0 ps0 w' (h0.later hb) (by omega)
    have he0 := fun w' x y (h1 : Rd w' x ps0.length (pairs ps0)) (h2 : Rd w' y ps0.length (pairs ps0)) => eqCutS_c x y ps0 ps0 w' h1 h2
    rw [eqPs_refl] at he0
    have HA0 := Lib.hid h0; clear h0
    have HE0 := Lib.hid he0; clear he0
    have HT0 := Lib.hid ht0; clear ht0
    have HS := Lib.hid hs; clear hs
    have HI := Lib.hid hi; clear hi
    go_enter Tryd.func4, Tryd.ntmps4
    have b0 : Below w.heap.size w w := Below.refl _ _
    have z0 : w.heap.size ≤ w.heap.size := Nat.le_refl _
    go_wp2_with fail
    refine (HZ0.out _ b0).mono ?_
    rintro _ _ ⟨rfl, rfl⟩
    go_wp2_with fail
    refine (HT0.out _ b0).mono ?_
    rintro _ w1 ⟨x1, rfl, n1, r1⟩
    have s1 := r1
    have y1 := s1.size
    have b1 := b0.trans (s1.mono z0)
    have z1 := b1.size
    obtain ⟨ao1, cap1, g1, rfl, _, _⟩ := own_open n1
    have up1 := fun k hk => (World.ownsRow.lt n1 k hk).2
    have lo1 := fun k hk => (World.ownsRow.lt n1 k hk).1
    try simp only [World.size_alloc] at lo1
    have UP1 := Lib.hid up1; clear up1
    have LO1 := Lib.hid lo1; clear lo1
    have o1' := n1
    have O1_1 := Lib.hid o1'; clear o1'
    clear n1
    go_wp2_with fail
    refine (HS.out _ _ b1 (Rd.of_own O1_1.out)).mono ?_
    rintro _ w2 ⟨rfl, r2⟩
    have s2 := r2
    have y2 := s2.size
    have b2 := b1.trans (s2.mono z1)
    have z2 := b2.size
    have o1_2 := own_later O1_1.out s2
    have O1_2 := Lib.hid o1_2; clear o1_2
    go_wp2_with fail
    refine (HT0.out _ b2).mono ?_
    rintro _ w3 ⟨x2, rfl, n2, r3⟩
    have s3 := r3
    have y3 := s3.size
    have b3 := b2.trans (s3.mono z2)
    have z3 := b3.size
    have o1_3 := own_later O1_2.out s3
    have O1_3 := Lib.hid o1_3; clear o1_3
    obtain ⟨ao2, cap2, g2, rfl, _, _⟩ := own_open n2
    have up2 := fun k hk => (World.ownsRow.lt n2 k hk).2
    have lo2 := fun k hk => (World.ownsRow.lt n2 k hk).1
    try simp only [World.size_alloc] at lo2
    have UP2 := Lib.hid up2; clear up2
    have LO2 := Lib.hid lo2; clear lo2
    have o2' := n2
    have O2_3 := Lib.hid o2'; clear o2'
    clear n2
    go_wp2_with fail
    refine (HI.out _ _ b3 (Rd.of_own O2_3.out)).mono ?_
    rintro _ w4 ⟨rfl, r4⟩
    have s4 := r4
    have y4 := s4.size
    have b4 := b3.trans (s4.mono z3)
    have z4 := b4.size
    have o1_4 := own_later O1_3.out s4
    have O1_4 := Lib.hid o1_4; clear o1_4
    have o2_4 := own_later O2_3.out s4
    have O2_4 := Lib.hid o2_4; clear o2_4
    go_wp2_with fail
    refine (HT0.out _ b4).mono ?_
    rintro _ w5 ⟨x3, rfl, n3, r5⟩
    have s5 := r5
    have y5 := s5.size
    have b5 := b4.trans (s5.mono z4)
    have z5 := b5.size
    have o1_5 := own_later O1_4.out s5
    have O1_5 := Lib.hid o1_5; clear o1_5
    have o2_5 := own_later O2_4.out s5
    have O2_5 := Lib.hid o2_5; clear o2_5
    obtain ⟨ao3, cap3, g3, rfl, _, _⟩ := own_open n3
    have up3 := fun k hk => (World.ownsRow.lt n3 k hk).2
    have lo3 := fun k hk => (World.ownsRow.lt n3 k hk).1
    try simp only [World.size_alloc] at lo3
    have UP3 := Lib.hid up3; clear up3
    have LO3 := Lib.hid lo3; clear lo3
    have o3' := n3
    have O3_5 := Lib.hid o3'; clear o3'
    clear n3
    go_wp2_with fail
    refine (HE0.out _ _ _ (Rd.of_own O2_5.out) (Rd.of_own O3_5.out)).mono ?_
    rintro _ w6 ⟨rfl, r6⟩
    have s6 := r6
    have y6 := s6.size
    have b6 := b5.trans (s6.mono z5)
    have z6 := b6.size
    have o1_6 := own_later O1_5.out s6
    have O1_6 := Lib.hid o1_6; clear o1_6
    have o2_6 := own_later O2_5.out s6
    have O2_6 := Lib.hid o2_6; clear o2_6
    have o3_6 := own_later O3_5.out s6
    have O3_6 := Lib.hid o3_6; clear o3_6
    go_wp2
    go_returns
    exact RetB.mk rfl b6
  · skip
    have hz0' := fun w' (hb : Below w.heap.size w w') => szCutS_c v0 ps0.length (pairs ps0) (1048576) w' (h0.later hb) (by omega) (by omega)
    rw [leftOf_neg (by omega)] at hz0'
    have HZ0 := Lib.hid hz0'; clear hz0'
    have HS := Lib.hid hs; clear hs
    have HI := Lib.hid hi; clear hi
    go_enter Tryd.func4, Tryd.ntmps4
    have b0 : Below w.heap.size w w := Below.refl _ _
    have z0 : w.heap.size ≤ w.heap.size := Nat.le_refl _
    go_wp2_with fail
    refine (HZ0.out _ b0).mono ?_
    rintro _ _ ⟨rfl, rfl⟩
    go_wp2
    go_returns
    exact RetB.mk rfl b0

theorem lawCutsText_c (w : World) (htab : Tab w) (v0 : Value) (ps0 : List (Int × Int)) (h0 : Rd w v0 ps0.length (pairs ps0)) (w0 : ∀ z ∈ ps0, I64 z.1 ∧ I64 z.2) :
    Calls Tryd.prog 4 #[v0] w (RetB (.bool true) w) :=
  lawCutsText_h w v0 ps0 h0 (cutsTI ps0) (fun w' u _ h => specCutsText_c u ps0 w' h) (fun w' u b h => implCutsText_c u ps0 w' h (htab.later b))

end Go.Proofs.YtgdadbmhdljcdaaDoor
