/- The law of ReadModel, walked. -/
import Derived.Test.YtgdadbmhdljcdaaDoorGC
import Derived.Test.YtgdadbmhdljcdaaDoorTF
import Derived.Test.YtgdadbmhdljcdaaDoorTxtMr
namespace Go.Proofs.YtgdadbmhdljcdaaDoor
set_option linter.unusedVariables false
open Go.RowKit Go.Proofs.Bell Go.BigFrame

set_option maxRecDepth 100000 in
set_option maxHeartbeats 3200000 in
theorem lawReadModel_h (w : World) (st0 : ByteArray) (hst0 : st0.size ≤ maxLen) (qz0 : List Int) (qw0 : List (List Int)) (qb0 : List Int) (hq0 : qz0.length ≤ 100000 ∧ SzSS qw0 ≤ 100000 ∧ qb0.length ≤ 100000) (t1 : Bool)
    (hs : ∀ w', Below w.heap.size w w' → (st0.size : Int) ≤ 1048576 → Calls Tryd.prog 10 #[.string st0] w' (RetM2 qz0 qw0 qb0 (.bool t1) w'))
    (hi : ∀ w', Below w.heap.size w w' → (st0.size : Int) ≤ 1048576 → Calls Tryd.prog 11 #[.string st0] w' (RetM2 qz0 qw0 qb0 (.bool t1) w')) :
    Calls Tryd.prog 3 #[.string st0] w (RetB (.bool true) w) := by
  unfold maxLen at hst0
  by_cases hl0 : (st0.size : Int) ≤ 1048576
  · skip
    have heq := fun w' xa xb xc ya yb yc (h1 : Rd w' xa qz0.length (ints qz0)) (h2 : RdSS w' xb qw0) (h3 : Rd w' xc qb0.length (ints qb0)) (h4 : Rd w' ya qz0.length (ints qz0)) (h5 : RdSS w' yb qw0) (h6 : Rd w' yc qb0.length (ints qb0)) => eqModel_c xa xb xc ya yb yc qz0 qw0 qb0 w' h1 h2 h3 h4 h5 h6
    have HEq := Lib.hid heq; clear heq
    obtain ⟨hq0a, hq0b, hq0c⟩ := hq0
    have hSLq : lensK qw0 qw0.length ≤ SzSS qw0 := by unfold SzSS; omega
    have HS := Lib.hid hs; clear hs
    have HI := Lib.hid hi; clear hi
    go_enter Tryd.func3, Tryd.ntmps3
    have b0 : Below w.heap.size w w := Below.refl _ _
    have z0 : w.heap.size ≤ w.heap.size := Nat.le_refl _
    go_wp2_with fail
    refine (HS.out _ b0 hl0).mono ?_
    rintro _ w1 ⟨xa1, xb1, xc1, us1, rfl, nm_1, r1⟩
    have s1 := r1
    have y1 := s1.size
    have b1 := b0.trans (s1.mono z0)
    have z1 := b1.size
    obtain ⟨az1, pz1, rfl⟩ := own_shape nm_1.z
    obtain ⟨aw1, pw1, rfl⟩ := own_shape nm_1.s.row
    obtain ⟨ab1, pb1, rfl⟩ := own_shape nm_1.b
    have om1 : OwnM w.heap.size w1.heap.size w1 (.slice az1 qz0.length pz1) (.slice aw1 qw0.length pw1) (.slice ab1 qb0.length pb1) us1 qz0 qw0 qb0 := nm_1.wide (by first | exact Nat.le_refl _ | (simp; done) | (simp; omega)) (Nat.le_refl _)
    clear nm_1
    have OM1_1 := Lib.hid om1; clear om1
    go_wp2_with fail
    refine (HI.out _ (by go_grown) hl0).mono ?_
    rintro _ w2 ⟨xa2, xb2, xc2, us2, rfl, nm_2, r2⟩
    have s2 : Below w1.heap.size w1 w2 := Below.trans (by go_grown) (r2.mono (by simp; try omega))
    have y2 := s2.size
    have v2 : w1.heap.size + 1 ≤ w2.heap.size := by have := r2.size; simp only [World.size_alloc] at this; omega
    have b2 := b1.trans (s2.mono z1)
    have z2 := b2.size
    have c0_0_2 := below_cell r2 (p := ⟨w1.heap.size, 0, none⟩) (v := .slice az1 qz0.length pz1) (by simp [go_sem])
    have c0_1_2 := below_cell r2 (p := ⟨w1.heap.size, 1, none⟩) (v := .slice aw1 qw0.length pw1) (by simp [go_sem])
    have c0_2_2 := below_cell r2 (p := ⟨w1.heap.size, 2, none⟩) (v := .slice ab1 qb0.length pb1) (by simp [go_sem])
    have o1_2 := OM1_1.out.later s2
    have O1_2 := Lib.hid o1_2; clear o1_2
    clear r2
    have al0_0_2 := fun o => alloc_cell o c0_0_2
    have al0_1_2 := fun o => alloc_cell o c0_1_2
    have al0_2_2 := fun o => alloc_cell o c0_2_2
    obtain ⟨az2, pz2, rfl⟩ := own_shape nm_2.z
    obtain ⟨aw2, pw2, rfl⟩ := own_shape nm_2.s.row
    obtain ⟨ab2, pb2, rfl⟩ := own_shape nm_2.b
    have om2 : OwnM (w1.heap.size + 1) w2.heap.size w2 (.slice az2 qz0.length pz2) (.slice aw2 qw0.length pw2) (.slice ab2 qb0.length pb2) us2 qz0 qw0 qb0 := nm_2.wide (by first | exact Nat.le_refl _ | (simp; done) | (simp; omega)) (Nat.le_refl _)
    clear nm_2
    have OM2_2 := Lib.hid om2; clear om2
    go_wp2_with fail
    refine (HEq.out _ _ _ _ _ _ _ ((Rd.of_own OM2_2.out.z).later (by go_grown)) ((OM2_2.out.s.rd).later (by go_grown)) ((Rd.of_own OM2_2.out.b).later (by go_grown)) ((Rd.of_own O1_2.out.z).later (by go_grown)) ((O1_2.out.s.rd).later (by go_grown)) ((Rd.of_own O1_2.out.b).later (by go_grown))).mono ?_
    rintro _ w3 ⟨rfl, r3⟩
    have s3 : Below w2.heap.size w2 w3 := Below.trans (by go_grown) (r3.mono (by simp; try omega))
    have y3 := s3.size
    have v3 : w2.heap.size + 1 ≤ w3.heap.size := by have := r3.size; simp only [World.size_alloc] at this; omega
    have b3 := b2.trans (s3.mono z2)
    have z3 := b3.size
    have c0_0_3 := below_cell s3 c0_0_2
    clear c0_0_2
    have c0_1_3 := below_cell s3 c0_1_2
    clear c0_1_2
    have c0_2_3 := below_cell s3 c0_2_2
    clear c0_2_2
    have c1_0_3 := below_cell r3 (p := ⟨w2.heap.size, 0, none⟩) (v := .slice az2 qz0.length pz2) (by simp [go_sem])
    have c1_1_3 := below_cell r3 (p := ⟨w2.heap.size, 1, none⟩) (v := .slice aw2 qw0.length pw2) (by simp [go_sem])
    have c1_2_3 := below_cell r3 (p := ⟨w2.heap.size, 2, none⟩) (v := .slice ab2 qb0.length pb2) (by simp [go_sem])
    have o1_3 := O1_2.out.later s3
    have O1_3 := Lib.hid o1_3; clear o1_3
    have o2_3 := OM2_2.out.later s3
    have O2_3 := Lib.hid o2_3; clear o2_3
    clear r3
    clear al0_0_2
    clear al0_1_2
    clear al0_2_2
    have al0_0_3 := fun o => alloc_cell o c0_0_3
    have al0_1_3 := fun o => alloc_cell o c0_1_3
    have al0_2_3 := fun o => alloc_cell o c0_2_3
    have al1_0_3 := fun o => alloc_cell o c1_0_3
    have al1_1_3 := fun o => alloc_cell o c1_1_3
    have al1_2_3 := fun o => alloc_cell o c1_2_3
    go_wp2_with fail
    refine (markModel2_c ((w1.heap.size + 1)) (w2.heap.size) _ _ _ _ _ _ _ _ _ O2_3.out (by omega) (by omega) (by omega) (by omega) (by omega) (by omega)).mono ?_
    rintro _ w4 ⟨rfl, m4, q4⟩
    have y4 := q4.size
    have b4 := Only.below b3 q4 z3 (fun b hS => by have := hS.1; omega)
    have z4 := b4.size
    have c0_0_4 := cell_only q4 c0_0_3 (fun hS => by have h1 := hS.1; have h2 := hS.2; simp only at h1 h2; omega)
    clear c0_0_3
    have c0_1_4 := cell_only q4 c0_1_3 (fun hS => by have h1 := hS.1; have h2 := hS.2; simp only at h1 h2; omega)
    clear c0_1_3
    have c0_2_4 := cell_only q4 c0_2_3 (fun hS => by have h1 := hS.1; have h2 := hS.2; simp only at h1 h2; omega)
    clear c0_2_3
    have c1_0_4 := cell_only q4 c1_0_3 (fun hS => by have h1 := hS.1; have h2 := hS.2; simp only at h1 h2; omega)
    clear c1_0_3
    have c1_1_4 := cell_only q4 c1_1_3 (fun hS => by have h1 := hS.1; have h2 := hS.2; simp only at h1 h2; omega)
    clear c1_1_3
    have c1_2_4 := cell_only q4 c1_2_3 (fun hS => by have h1 := hS.1; have h2 := hS.2; simp only at h1 h2; omega)
    clear c1_2_3
    have o1_4 := O1_3.out.only q4 (fun b hS hB => by have h1 := hS.1; have h2 := hS.2; have h3 := hB.1; have h4 := hB.2; omega)
    have O1_4 := Lib.hid o1_4; clear o1_4
    have O2_4 := Lib.hid m4; clear m4
    go_wp2_with fail
    refine (heldModel_c _ _ _ qz0.length qw0 qb0.length _ _ (Rd.of_own O2_4.out.z) (O2_4.out.s.rd) (Rd.of_own O2_4.out.b) (by omega) (by omega) (by omega)).mono ?_
    rintro _ w5 ⟨rfl, r5⟩
    have s5 := r5
    have y5 := s5.size
    have b5 := b4.trans (s5.mono z4)
    have z5 := b5.size
    have c0_0_5 := below_cell s5 c0_0_4
    clear c0_0_4
    have c0_1_5 := below_cell s5 c0_1_4
    clear c0_1_4
    have c0_2_5 := below_cell s5 c0_2_4
    clear c0_2_4
    have c1_0_5 := below_cell s5 c1_0_4
    clear c1_0_4
    have c1_1_5 := below_cell s5 c1_1_4
    clear c1_1_4
    have c1_2_5 := below_cell s5 c1_2_4
    clear c1_2_4
    have o1_5 := O1_4.out.later s5
    have O1_5 := Lib.hid o1_5; clear o1_5
    have o2_5 := O2_4.out.later s5
    have O2_5 := Lib.hid o2_5; clear o2_5
    clear al0_0_3
    clear al0_1_3
    clear al0_2_3
    clear al1_0_3
    clear al1_1_3
    clear al1_2_3
    have al0_0_5 := fun o => alloc_cell o c0_0_5
    have al0_1_5 := fun o => alloc_cell o c0_1_5
    have al0_2_5 := fun o => alloc_cell o c0_2_5
    have al1_0_5 := fun o => alloc_cell o c1_0_5
    have al1_1_5 := fun o => alloc_cell o c1_1_5
    have al1_2_5 := fun o => alloc_cell o c1_2_5
    go_wp2_with fail
    refine (HI.out _ b5 hl0).mono ?_
    rintro _ w6 ⟨xa3, xb3, xc3, us3, rfl, nm_3, r6⟩
    have s6 := r6
    have y6 := s6.size
    have b6 := b5.trans (s6.mono z5)
    have z6 := b6.size
    have c0_0_6 := below_cell s6 c0_0_5
    clear c0_0_5
    have c0_1_6 := below_cell s6 c0_1_5
    clear c0_1_5
    have c0_2_6 := below_cell s6 c0_2_5
    clear c0_2_5
    have c1_0_6 := below_cell s6 c1_0_5
    clear c1_0_5
    have c1_1_6 := below_cell s6 c1_1_5
    clear c1_1_5
    have c1_2_6 := below_cell s6 c1_2_5
    clear c1_2_5
    have o1_6 := O1_5.out.later s6
    have O1_6 := Lib.hid o1_6; clear o1_6
    have o2_6 := O2_5.out.later s6
    have O2_6 := Lib.hid o2_6; clear o2_6
    clear al0_0_5
    clear al0_1_5
    clear al0_2_5
    clear al1_0_5
    clear al1_1_5
    clear al1_2_5
    have al0_0_6 := fun o => alloc_cell o c0_0_6
    have al0_1_6 := fun o => alloc_cell o c0_1_6
    have al0_2_6 := fun o => alloc_cell o c0_2_6
    have al1_0_6 := fun o => alloc_cell o c1_0_6
    have al1_1_6 := fun o => alloc_cell o c1_1_6
    have al1_2_6 := fun o => alloc_cell o c1_2_6
    obtain ⟨az3, pz3, rfl⟩ := own_shape nm_3.z
    obtain ⟨aw3, pw3, rfl⟩ := own_shape nm_3.s.row
    obtain ⟨ab3, pb3, rfl⟩ := own_shape nm_3.b
    have om3 : OwnM w5.heap.size w6.heap.size w6 (.slice az3 qz0.length pz3) (.slice aw3 qw0.length pw3) (.slice ab3 qb0.length pb3) us3 qz0 qw0 qb0 := nm_3.wide (by first | exact Nat.le_refl _ | (simp; done) | (simp; omega)) (Nat.le_refl _)
    clear nm_3
    have OM3_6 := Lib.hid om3; clear om3
    go_wp2_with fail
    refine (HEq.out _ _ _ _ _ _ _ ((Rd.of_own OM3_6.out.z).later (by go_grown)) ((OM3_6.out.s.rd).later (by go_grown)) ((Rd.of_own OM3_6.out.b).later (by go_grown)) ((Rd.of_own O1_6.out.z).later (by go_grown)) ((O1_6.out.s.rd).later (by go_grown)) ((Rd.of_own O1_6.out.b).later (by go_grown))).mono ?_
    rintro _ w7 ⟨rfl, r7⟩
    have s7 : Below w6.heap.size w6 w7 := Below.trans (by go_grown) (r7.mono (by simp; try omega))
    have y7 := s7.size
    have v7 : w6.heap.size + 1 ≤ w7.heap.size := by have := r7.size; simp only [World.size_alloc] at this; omega
    have b7 := b6.trans (s7.mono z6)
    have z7 := b7.size
    have c0_0_7 := below_cell s7 c0_0_6
    clear c0_0_6
    have c0_1_7 := below_cell s7 c0_1_6
    clear c0_1_6
    have c0_2_7 := below_cell s7 c0_2_6
    clear c0_2_6
    have c1_0_7 := below_cell s7 c1_0_6
    clear c1_0_6
    have c1_1_7 := below_cell s7 c1_1_6
    clear c1_1_6
    have c1_2_7 := below_cell s7 c1_2_6
    clear c1_2_6
    have c2_0_7 := below_cell r7 (p := ⟨w6.heap.size, 0, none⟩) (v := .slice az3 qz0.length pz3) (by simp [go_sem])
    have c2_1_7 := below_cell r7 (p := ⟨w6.heap.size, 1, none⟩) (v := .slice aw3 qw0.length pw3) (by simp [go_sem])
    have c2_2_7 := below_cell r7 (p := ⟨w6.heap.size, 2, none⟩) (v := .slice ab3 qb0.length pb3) (by simp [go_sem])
    have o1_7 := O1_6.out.later s7
    have O1_7 := Lib.hid o1_7; clear o1_7
    have o2_7 := O2_6.out.later s7
    have O2_7 := Lib.hid o2_7; clear o2_7
    have o3_7 := OM3_6.out.later s7
    have O3_7 := Lib.hid o3_7; clear o3_7
    clear r7
    clear al0_0_6
    clear al0_1_6
    clear al0_2_6
    clear al1_0_6
    clear al1_1_6
    clear al1_2_6
    have al0_0_7 := fun o => alloc_cell o c0_0_7
    have al0_1_7 := fun o => alloc_cell o c0_1_7
    have al0_2_7 := fun o => alloc_cell o c0_2_7
    have al1_0_7 := fun o => alloc_cell o c1_0_7
    have al1_1_7 := fun o => alloc_cell o c1_1_7
    have al1_2_7 := fun o => alloc_cell o c1_2_7
    have al2_0_7 := fun o => alloc_cell o c2_0_7
    have al2_1_7 := fun o => alloc_cell o c2_1_7
    have al2_2_7 := fun o => alloc_cell o c2_2_7
    go_wp2_with fail
    refine (heldModel_c _ _ _ qz0.length qw0 qb0.length _ _ (Rd.of_own O2_7.out.z) (O2_7.out.s.rd) (Rd.of_own O2_7.out.b) (by omega) (by omega) (by omega)).mono ?_
    rintro _ w8 ⟨rfl, r8⟩
    have s8 := r8
    have y8 := s8.size
    have b8 := b7.trans (s8.mono z7)
    have z8 := b8.size
    have c0_0_8 := below_cell s8 c0_0_7
    clear c0_0_7
    have c0_1_8 := below_cell s8 c0_1_7
    clear c0_1_7
    have c0_2_8 := below_cell s8 c0_2_7
    clear c0_2_7
    have c1_0_8 := below_cell s8 c1_0_7
    clear c1_0_7
    have c1_1_8 := below_cell s8 c1_1_7
    clear c1_1_7
    have c1_2_8 := below_cell s8 c1_2_7
    clear c1_2_7
    have c2_0_8 := below_cell s8 c2_0_7
    clear c2_0_7
    have c2_1_8 := below_cell s8 c2_1_7
    clear c2_1_7
    have c2_2_8 := below_cell s8 c2_2_7
    clear c2_2_7
    have o1_8 := O1_7.out.later s8
    have O1_8 := Lib.hid o1_8; clear o1_8
    have o2_8 := O2_7.out.later s8
    have O2_8 := Lib.hid o2_8; clear o2_8
    have o3_8 := O3_7.out.later s8
    have O3_8 := Lib.hid o3_8; clear o3_8
    clear al0_0_7
    clear al0_1_7
    clear al0_2_7
    clear al1_0_7
    clear al1_1_7
    clear al1_2_7
    clear al2_0_7
    clear al2_1_7
    clear al2_2_7
    have al0_0_8 := fun o => alloc_cell o c0_0_8
    have al0_1_8 := fun o => alloc_cell o c0_1_8
    have al0_2_8 := fun o => alloc_cell o c0_2_8
    have al1_0_8 := fun o => alloc_cell o c1_0_8
    have al1_1_8 := fun o => alloc_cell o c1_1_8
    have al1_2_8 := fun o => alloc_cell o c1_2_8
    have al2_0_8 := fun o => alloc_cell o c2_0_8
    have al2_1_8 := fun o => alloc_cell o c2_1_8
    have al2_2_8 := fun o => alloc_cell o c2_2_8
    go_wp2
    go_returns
    exact RetB.mk rfl b8
  · skip
    have HS := Lib.hid hs; clear hs
    have HI := Lib.hid hi; clear hi
    go_enter Tryd.func3, Tryd.ntmps3
    go_wp2
    go_returns
    exact RetB.mk rfl (by go_grown)

theorem lawReadModel_c (w : World) (htab : RTab w) (st0 : ByteArray) (hst0 : st0.size ≤ maxLen) :
    Calls Tryd.prog 3 #[.string st0] w (RetB (.bool true) w) :=
  lawReadModel_h w st0 hst0 (mdZ (readM (byteL st0))) (mdW (readM (byteL st0))) (mdB (readM (byteL st0))) (readM_bd _) _ (fun w' b hl => specReadModel_c st0 w' (by omega)) (fun w' b hl => implReadModel_c st0 w' (by omega) (htab.later b))

end Go.Proofs.YtgdadbmhdljcdaaDoor
