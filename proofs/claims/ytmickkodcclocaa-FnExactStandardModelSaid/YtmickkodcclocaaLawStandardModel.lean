/- The law of StandardModel, walked. -/
import Derived.Test.YtmickkodcclocaaGC
import Derived.Test.YtmickkodcclocaaMarkM2
import Derived.Test.YtmickkodcclocaaStd2
namespace Go.Proofs.Ytmickkodcclocaa
set_option linter.unusedVariables false
open Go.RowKit Go.Proofs.Bell Go.BigFrame

set_option maxRecDepth 100000 in
set_option maxHeartbeats 3200000 in
theorem lawStandardModel_h (w : World) (v0 : Value) (zs0 : List Int) (h0 : Rd w v0 zs0.length (ints zs0)) (qz0 : List Int) (qw0 : List (List Int)) (qb0 : List Int) (hq0 : qz0.length ≤ 100000 ∧ SzSS qw0 ≤ 100000 ∧ qb0.length ≤ 100000) (t1 : Int)
    (hs : ∀ w' u0, Rd w' u0 zs0.length (ints zs0) → Calls Try.prog 29 #[u0] w' (RetM2 qz0 qw0 qb0 (.int .i64 t1) w'))
    (hi : ∀ w' u0, Rd w' u0 zs0.length (ints zs0) → Calls Try.prog 31 #[u0] w' (RetM2 qz0 qw0 qb0 (.int .i64 t1) w')) :
    Calls Try.prog 6 #[v0] w (RetB (.bool true) w) := by
  obtain ⟨hn0, aoA0, capA0, bb0, off0, rfl, hao0, hcell0⟩ := h0.open
  clear hn0 hao0 hcell0
  by_cases hl0 : (zs0.length : Int) ≤ 1048576
  · skip
    have ht0 := fun w' (hb : Below w.heap.size w w') => toInt64S_c _ zs0 w' (h0.later hb) (by omega)
    have he0 := fun w' x y (h1 : Rd w' x zs0.length (ints zs0)) (h2 : Rd w' y zs0.length (ints zs0)) => (eqInt64S_c x y zs0 zs0 w' h1 h2).mono fun _ _ h => h.toB
    rw [eqZs_refl] at he0
    have HA0 := Lib.hid h0; clear h0
    have HE0 := Lib.hid he0; clear he0
    have HT0 := Lib.hid ht0; clear ht0
    have heq := fun w' xa xb xc ya yb yc (h1 : Rd w' xa qz0.length (ints qz0)) (h2 : RdSS w' xb qw0) (h3 : Rd w' xc qb0.length (ints qb0)) (h4 : Rd w' ya qz0.length (ints qz0)) (h5 : RdSS w' yb qw0) (h6 : Rd w' yc qb0.length (ints qb0)) => eqModel_c xa xb xc ya yb yc qz0 qw0 qb0 w' h1 h2 h3 h4 h5 h6
    have HEq := Lib.hid heq; clear heq
    obtain ⟨hq0a, hq0b, hq0c⟩ := hq0
    have hSLq : lensK qw0 qw0.length ≤ SzSS qw0 := by unfold SzSS; omega
    have HS := Lib.hid hs; clear hs
    have HI := Lib.hid hi; clear hi
    go_enter Try.func6, Try.ntmps6
    have b0 : Below w.heap.size w w := Below.refl _ _
    have z0 : w.heap.size ≤ w.heap.size := Nat.le_refl _
    go_wp2_with fail
    refine (HT0.out _ b0).mono ?_
    rintro _ w1 ⟨x1, rfl, n1, r1⟩
    have s1 := r1
    have y1 := s1.size
    have b1 := b0.trans (s1.mono z0)
    have z1 := b1.size
    obtain ⟨ao1, cap1, g1, rfl, _, _⟩ := own_open n1
    have up1 := fun k hk => (World.ownsRow.lt n1 k hk).2
    have lo1 := fun k hk => (World.ownsRow.lt n1 k hk).1
    try simp only [World.size_alloc] at lo1
    have UP1 := Lib.hid up1; clear up1
    have LO1 := Lib.hid lo1; clear lo1
    have o1' := n1
    have O1_1 := Lib.hid o1'; clear o1'
    clear n1
    go_wp2_with fail
    refine (HS.out _ _ (Rd.of_own O1_1.out)).mono ?_
    rintro _ w2 ⟨xa2, xb2, xc2, us2, rfl, nm_2, r2⟩
    have s2 := r2
    have y2 := s2.size
    have b2 := b1.trans (s2.mono z1)
    have z2 := b2.size
    have o1_2 := own_later O1_1.out s2
    have O1_2 := Lib.hid o1_2; clear o1_2
    obtain ⟨az2, pz2, rfl⟩ := own_shape nm_2.z
    obtain ⟨aw2, pw2, rfl⟩ := own_shape nm_2.s.row
    obtain ⟨ab2, pb2, rfl⟩ := own_shape nm_2.b
    have om2 : OwnM w1.heap.size w2.heap.size w2 (.slice az2 qz0.length pz2) (.slice aw2 qw0.length pw2) (.slice ab2 qb0.length pb2) us2 qz0 qw0 qb0 := nm_2.wide (by first | exact Nat.le_refl _ | (simp; done) | (simp; omega)) (Nat.le_refl _)
    clear nm_2
    have OM2_2 := Lib.hid om2; clear om2
    go_wp2_with fail
    refine (HT0.out _ (by go_grown)).mono ?_
    rintro _ w3 ⟨x3, rfl, n3, r3⟩
    have s3 : Below w2.heap.size w2 w3 := Below.trans (by go_grown) (r3.mono (by simp; try omega))
    have y3 := s3.size
    have v3 : w2.heap.size + 1 ≤ w3.heap.size := by have := r3.size; simp only [World.size_alloc] at this; omega
    have b3 := b2.trans (s3.mono z2)
    have z3 := b3.size
    have c0_0_3 := below_cell r3 (p := ⟨w2.heap.size, 0, none⟩) (v := .slice az2 qz0.length pz2) (by simp [go_sem])
    have c0_1_3 := below_cell r3 (p := ⟨w2.heap.size, 1, none⟩) (v := .slice aw2 qw0.length pw2) (by simp [go_sem])
    have c0_2_3 := below_cell r3 (p := ⟨w2.heap.size, 2, none⟩) (v := .slice ab2 qb0.length pb2) (by simp [go_sem])
    have o1_3 := own_later O1_2.out s3
    have O1_3 := Lib.hid o1_3; clear o1_3
    have o2_3 := OM2_2.out.later s3
    have O2_3 := Lib.hid o2_3; clear o2_3
    clear r3
    have al0_0_3 := fun o => alloc_cell o c0_0_3
    have al0_1_3 := fun o => alloc_cell o c0_1_3
    have al0_2_3 := fun o => alloc_cell o c0_2_3
    obtain ⟨ao3, cap3, g3, rfl, _, _⟩ := own_open n3
    have up3 := fun k hk => (World.ownsRow.lt n3 k hk).2
    have lo3 := fun k hk => (World.ownsRow.lt n3 k hk).1
    try simp only [World.size_alloc] at lo3
    have UP3 := Lib.hid up3; clear up3
    have LO3 := Lib.hid lo3; clear lo3
    have o3' := n3
    have O3_3 := Lib.hid o3'; clear o3'
    clear n3
    go_wp2_with fail
    refine (HI.out _ _ (Rd.of_own O3_3.out)).mono ?_
    rintro _ w4 ⟨xa4, xb4, xc4, us4, rfl, nm_4, r4⟩
    have s4 := r4
    have y4 := s4.size
    have b4 := b3.trans (s4.mono z3)
    have z4 := b4.size
    have c0_0_4 := below_cell s4 c0_0_3
    clear c0_0_3
    have c0_1_4 := below_cell s4 c0_1_3
    clear c0_1_3
    have c0_2_4 := below_cell s4 c0_2_3
    clear c0_2_3
    have o1_4 := own_later O1_3.out s4
    have O1_4 := Lib.hid o1_4; clear o1_4
    have o2_4 := O2_3.out.later s4
    have O2_4 := Lib.hid o2_4; clear o2_4
    have o3_4 := own_later O3_3.out s4
    have O3_4 := Lib.hid o3_4; clear o3_4
    clear al0_0_3
    clear al0_1_3
    clear al0_2_3
    have al0_0_4 := fun o => alloc_cell o c0_0_4
    have al0_1_4 := fun o => alloc_cell o c0_1_4
    have al0_2_4 := fun o => alloc_cell o c0_2_4
    obtain ⟨az4, pz4, rfl⟩ := own_shape nm_4.z
    obtain ⟨aw4, pw4, rfl⟩ := own_shape nm_4.s.row
    obtain ⟨ab4, pb4, rfl⟩ := own_shape nm_4.b
    have om4 : OwnM w3.heap.size w4.heap.size w4 (.slice az4 qz0.length pz4) (.slice aw4 qw0.length pw4) (.slice ab4 qb0.length pb4) us4 qz0 qw0 qb0 := nm_4.wide (by first | exact Nat.le_refl _ | (simp; done) | (simp; omega)) (Nat.le_refl _)
    clear nm_4
    have OM4_4 := Lib.hid om4; clear om4
    go_wp2_with fail
    refine (HEq.out _ _ _ _ _ _ _ ((Rd.of_own OM4_4.out.z).later (by go_grown)) ((OM4_4.out.s.rd).later (by go_grown)) ((Rd.of_own OM4_4.out.b).later (by go_grown)) ((Rd.of_own O2_4.out.z).later (by go_grown)) ((O2_4.out.s.rd).later (by go_grown)) ((Rd.of_own O2_4.out.b).later (by go_grown))).mono ?_
    rintro _ w5 ⟨rfl, r5⟩
    have s5 : Below w4.heap.size w4 w5 := Below.trans (by go_grown) (r5.mono (by simp; try omega))
    have y5 := s5.size
    have v5 : w4.heap.size + 1 ≤ w5.heap.size := by have := r5.size; simp only [World.size_alloc] at this; omega
    have b5 := b4.trans (s5.mono z4)
    have z5 := b5.size
    have c0_0_5 := below_cell s5 c0_0_4
    clear c0_0_4
    have c0_1_5 := below_cell s5 c0_1_4
    clear c0_1_4
    have c0_2_5 := below_cell s5 c0_2_4
    clear c0_2_4
    have c1_0_5 := below_cell r5 (p := ⟨w4.heap.size, 0, none⟩) (v := .slice az4 qz0.length pz4) (by simp [go_sem])
    have c1_1_5 := below_cell r5 (p := ⟨w4.heap.size, 1, none⟩) (v := .slice aw4 qw0.length pw4) (by simp [go_sem])
    have c1_2_5 := below_cell r5 (p := ⟨w4.heap.size, 2, none⟩) (v := .slice ab4 qb0.length pb4) (by simp [go_sem])
    have o1_5 := own_later O1_4.out s5
    have O1_5 := Lib.hid o1_5; clear o1_5
    have o2_5 := O2_4.out.later s5
    have O2_5 := Lib.hid o2_5; clear o2_5
    have o3_5 := own_later O3_4.out s5
    have O3_5 := Lib.hid o3_5; clear o3_5
    have o4_5 := OM4_4.out.later s5
    have O4_5 := Lib.hid o4_5; clear o4_5
    clear r5
    clear al0_0_4
    clear al0_1_4
    clear al0_2_4
    have al0_0_5 := fun o => alloc_cell o c0_0_5
    have al0_1_5 := fun o => alloc_cell o c0_1_5
    have al0_2_5 := fun o => alloc_cell o c0_2_5
    have al1_0_5 := fun o => alloc_cell o c1_0_5
    have al1_1_5 := fun o => alloc_cell o c1_1_5
    have al1_2_5 := fun o => alloc_cell o c1_2_5
    go_wp2_with fail
    refine (HT0.out _ b5).mono ?_
    rintro _ w6 ⟨x5, rfl, n5, r6⟩
    have s6 := r6
    have y6 := s6.size
    have b6 := b5.trans (s6.mono z5)
    have z6 := b6.size
    have c0_0_6 := below_cell s6 c0_0_5
    clear c0_0_5
    have c0_1_6 := below_cell s6 c0_1_5
    clear c0_1_5
    have c0_2_6 := below_cell s6 c0_2_5
    clear c0_2_5
    have c1_0_6 := below_cell s6 c1_0_5
    clear c1_0_5
    have c1_1_6 := below_cell s6 c1_1_5
    clear c1_1_5
    have c1_2_6 := below_cell s6 c1_2_5
    clear c1_2_5
    have o1_6 := own_later O1_5.out s6
    have O1_6 := Lib.hid o1_6; clear o1_6
    have o2_6 := O2_5.out.later s6
    have O2_6 := Lib.hid o2_6; clear o2_6
    have o3_6 := own_later O3_5.out s6
    have O3_6 := Lib.hid o3_6; clear o3_6
    have o4_6 := O4_5.out.later s6
    have O4_6 := Lib.hid o4_6; clear o4_6
    clear al0_0_5
    clear al0_1_5
    clear al0_2_5
    clear al1_0_5
    clear al1_1_5
    clear al1_2_5
    have al0_0_6 := fun o => alloc_cell o c0_0_6
    have al0_1_6 := fun o => alloc_cell o c0_1_6
    have al0_2_6 := fun o => alloc_cell o c0_2_6
    have al1_0_6 := fun o => alloc_cell o c1_0_6
    have al1_1_6 := fun o => alloc_cell o c1_1_6
    have al1_2_6 := fun o => alloc_cell o c1_2_6
    obtain ⟨ao5, cap5, g5, rfl, _, _⟩ := own_open n5
    have up5 := fun k hk => (World.ownsRow.lt n5 k hk).2
    have lo5 := fun k hk => (World.ownsRow.lt n5 k hk).1
    try simp only [World.size_alloc] at lo5
    have UP5 := Lib.hid up5; clear up5
    have LO5 := Lib.hid lo5; clear lo5
    have o5' := n5
    have O5_6 := Lib.hid o5'; clear o5'
    clear n5
    go_wp2_with fail
    refine (HE0.out _ _ _ (Rd.of_own O3_6.out) (Rd.of_own O5_6.out)).mono ?_
    rintro _ w7 ⟨rfl, r7⟩
    have s7 := r7
    have y7 := s7.size
    have b7 := b6.trans (s7.mono z6)
    have z7 := b7.size
    have c0_0_7 := below_cell s7 c0_0_6
    clear c0_0_6
    have c0_1_7 := below_cell s7 c0_1_6
    clear c0_1_6
    have c0_2_7 := below_cell s7 c0_2_6
    clear c0_2_6
    have c1_0_7 := below_cell s7 c1_0_6
    clear c1_0_6
    have c1_1_7 := below_cell s7 c1_1_6
    clear c1_1_6
    have c1_2_7 := below_cell s7 c1_2_6
    clear c1_2_6
    have o1_7 := own_later O1_6.out s7
    have O1_7 := Lib.hid o1_7; clear o1_7
    have o2_7 := O2_6.out.later s7
    have O2_7 := Lib.hid o2_7; clear o2_7
    have o3_7 := own_later O3_6.out s7
    have O3_7 := Lib.hid o3_7; clear o3_7
    have o4_7 := O4_6.out.later s7
    have O4_7 := Lib.hid o4_7; clear o4_7
    have o5_7 := own_later O5_6.out s7
    have O5_7 := Lib.hid o5_7; clear o5_7
    clear al0_0_6
    clear al0_1_6
    clear al0_2_6
    clear al1_0_6
    clear al1_1_6
    clear al1_2_6
    have al0_0_7 := fun o => alloc_cell o c0_0_7
    have al0_1_7 := fun o => alloc_cell o c0_1_7
    have al0_2_7 := fun o => alloc_cell o c0_2_7
    have al1_0_7 := fun o => alloc_cell o c1_0_7
    have al1_1_7 := fun o => alloc_cell o c1_1_7
    have al1_2_7 := fun o => alloc_cell o c1_2_7
    go_wp2_with fail
    refine (markInt64S_c _ _ _ _ _ _ O3_7.out (by omega) (by omega) (by omega)).mono ?_
    rintro _ w8 ⟨rfl, m8, q8⟩
    have y8 := q8.size
    have b8 := Only.below b7 q8 z7 (fun b hS => by have := LO3.out b hS; omega)
    have z8 := b8.size
    have c0_0_8 := cell_only q8 c0_0_7 (fun hS => by have h1 : _ ≤ w2.heap.size := LO3.out _ hS; have h2 : w2.heap.size < _ := UP3.out _ hS; omega)
    clear c0_0_7
    have c0_1_8 := cell_only q8 c0_1_7 (fun hS => by have h1 : _ ≤ w2.heap.size := LO3.out _ hS; have h2 : w2.heap.size < _ := UP3.out _ hS; omega)
    clear c0_1_7
    have c0_2_8 := cell_only q8 c0_2_7 (fun hS => by have h1 : _ ≤ w2.heap.size := LO3.out _ hS; have h2 : w2.heap.size < _ := UP3.out _ hS; omega)
    clear c0_2_7
    have c1_0_8 := cell_only q8 c1_0_7 (fun hS => by have h1 : _ ≤ w4.heap.size := LO3.out _ hS; have h2 : w4.heap.size < _ := UP3.out _ hS; omega)
    clear c1_0_7
    have c1_1_8 := cell_only q8 c1_1_7 (fun hS => by have h1 : _ ≤ w4.heap.size := LO3.out _ hS; have h2 : w4.heap.size < _ := UP3.out _ hS; omega)
    clear c1_1_7
    have c1_2_8 := cell_only q8 c1_2_7 (fun hS => by have h1 : _ ≤ w4.heap.size := LO3.out _ hS; have h2 : w4.heap.size < _ := UP3.out _ hS; omega)
    clear c1_2_7
    have o1_8 := own_only O1_7.out q8 (fun k hk hS => by have := LO3.out _ hS; have := UP3.out _ hS; have := LO1.out _ hk; have := UP1.out _ hk; omega)
    have O1_8 := Lib.hid o1_8; clear o1_8
    have o2_8 := O2_7.out.only q8 (fun b hS hB => by have := LO3.out _ hS; have := UP3.out _ hS; have h3 := hB.1; have h4 := hB.2; omega)
    have O2_8 := Lib.hid o2_8; clear o2_8
    have o4_8 := O4_7.out.only q8 (fun b hS hB => by have := LO3.out _ hS; have := UP3.out _ hS; have h3 := hB.1; have h4 := hB.2; omega)
    have O4_8 := Lib.hid o4_8; clear o4_8
    have o5_8 := own_only O5_7.out q8 (fun k hk hS => by have := LO3.out _ hS; have := UP3.out _ hS; have := LO5.out _ hk; have := UP5.out _ hk; omega)
    have O5_8 := Lib.hid o5_8; clear o5_8
    have O3_8 := Lib.hid m8; clear m8
    go_wp2_with fail
    refine (HEq.out _ _ _ _ _ _ _ (Rd.of_own O4_8.out.z) (O4_8.out.s.rd) (Rd.of_own O4_8.out.b) (Rd.of_own O2_8.out.z) (O2_8.out.s.rd) (Rd.of_own O2_8.out.b)).mono ?_
    rintro _ w9 ⟨rfl, r9⟩
    have s9 := r9
    have y9 := s9.size
    have b9 := b8.trans (s9.mono z8)
    have z9 := b9.size
    have c0_0_9 := below_cell s9 c0_0_8
    clear c0_0_8
    have c0_1_9 := below_cell s9 c0_1_8
    clear c0_1_8
    have c0_2_9 := below_cell s9 c0_2_8
    clear c0_2_8
    have c1_0_9 := below_cell s9 c1_0_8
    clear c1_0_8
    have c1_1_9 := below_cell s9 c1_1_8
    clear c1_1_8
    have c1_2_9 := below_cell s9 c1_2_8
    clear c1_2_8
    have o1_9 := own_later O1_8.out s9
    have O1_9 := Lib.hid o1_9; clear o1_9
    have o2_9 := O2_8.out.later s9
    have O2_9 := Lib.hid o2_9; clear o2_9
    have o3_9 := own_later O3_8.out s9
    have O3_9 := Lib.hid o3_9; clear o3_9
    have o4_9 := O4_8.out.later s9
    have O4_9 := Lib.hid o4_9; clear o4_9
    have o5_9 := own_later O5_8.out s9
    have O5_9 := Lib.hid o5_9; clear o5_9
    clear al0_0_7
    clear al0_1_7
    clear al0_2_7
    clear al1_0_7
    clear al1_1_7
    clear al1_2_7
    have al0_0_9 := fun o => alloc_cell o c0_0_9
    have al0_1_9 := fun o => alloc_cell o c0_1_9
    have al0_2_9 := fun o => alloc_cell o c0_2_9
    have al1_0_9 := fun o => alloc_cell o c1_0_9
    have al1_1_9 := fun o => alloc_cell o c1_1_9
    have al1_2_9 := fun o => alloc_cell o c1_2_9
    go_wp2_with fail
    refine (markModel2_c (w3.heap.size) (w4.heap.size) _ _ _ _ _ _ _ _ _ O4_9.out (by omega) (by omega) (by omega) (by omega) (by omega) (by omega)).mono ?_
    rintro _ w10 ⟨rfl, m10, q10⟩
    have y10 := q10.size
    have b10 := Only.below b9 q10 z9 (fun b hS => by have := hS.1; omega)
    have z10 := b10.size
    have c0_0_10 := cell_only q10 c0_0_9 (fun hS => by have h1 := hS.1; have h2 := hS.2; simp only at h1 h2; omega)
    clear c0_0_9
    have c0_1_10 := cell_only q10 c0_1_9 (fun hS => by have h1 := hS.1; have h2 := hS.2; simp only at h1 h2; omega)
    clear c0_1_9
    have c0_2_10 := cell_only q10 c0_2_9 (fun hS => by have h1 := hS.1; have h2 := hS.2; simp only at h1 h2; omega)
    clear c0_2_9
    have c1_0_10 := cell_only q10 c1_0_9 (fun hS => by have h1 := hS.1; have h2 := hS.2; simp only at h1 h2; omega)
    clear c1_0_9
    have c1_1_10 := cell_only q10 c1_1_9 (fun hS => by have h1 := hS.1; have h2 := hS.2; simp only at h1 h2; omega)
    clear c1_1_9
    have c1_2_10 := cell_only q10 c1_2_9 (fun hS => by have h1 := hS.1; have h2 := hS.2; simp only at h1 h2; omega)
    clear c1_2_9
    have o1_10 := own_only O1_9.out q10 (fun k hk hS => by have h1 := hS.1; have h2 := hS.2; have := LO1.out _ hk; have := UP1.out _ hk; omega)
    have O1_10 := Lib.hid o1_10; clear o1_10
    have o2_10 := O2_9.out.only q10 (fun b hS hB => by have h1 := hS.1; have h2 := hS.2; have h3 := hB.1; have h4 := hB.2; omega)
    have O2_10 := Lib.hid o2_10; clear o2_10
    have o3_10 := own_only O3_9.out q10 (fun k hk hS => by have h1 := hS.1; have h2 := hS.2; have := LO3.out _ hk; have := UP3.out _ hk; omega)
    have O3_10 := Lib.hid o3_10; clear o3_10
    have o5_10 := own_only O5_9.out q10 (fun k hk hS => by have h1 := hS.1; have h2 := hS.2; have := LO5.out _ hk; have := UP5.out _ hk; omega)
    have O5_10 := Lib.hid o5_10; clear o5_10
    have O4_10 := Lib.hid m10; clear m10
    go_wp2_with fail
    refine (heldModel_c _ _ _ qz0.length qw0 qb0.length _ _ (Rd.of_own O4_10.out.z) (O4_10.out.s.rd) (Rd.of_own O4_10.out.b) (by omega) (by omega) (by omega)).mono ?_
    rintro _ w11 ⟨rfl, r11⟩
    have s11 := r11
    have y11 := s11.size
    have b11 := b10.trans (s11.mono z10)
    have z11 := b11.size
    have c0_0_11 := below_cell s11 c0_0_10
    clear c0_0_10
    have c0_1_11 := below_cell s11 c0_1_10
    clear c0_1_10
    have c0_2_11 := below_cell s11 c0_2_10
    clear c0_2_10
    have c1_0_11 := below_cell s11 c1_0_10
    clear c1_0_10
    have c1_1_11 := below_cell s11 c1_1_10
    clear c1_1_10
    have c1_2_11 := below_cell s11 c1_2_10
    clear c1_2_10
    have o1_11 := own_later O1_10.out s11
    have O1_11 := Lib.hid o1_11; clear o1_11
    have o2_11 := O2_10.out.later s11
    have O2_11 := Lib.hid o2_11; clear o2_11
    have o3_11 := own_later O3_10.out s11
    have O3_11 := Lib.hid o3_11; clear o3_11
    have o4_11 := O4_10.out.later s11
    have O4_11 := Lib.hid o4_11; clear o4_11
    have o5_11 := own_later O5_10.out s11
    have O5_11 := Lib.hid o5_11; clear o5_11
    clear al0_0_9
    clear al0_1_9
    clear al0_2_9
    clear al1_0_9
    clear al1_1_9
    clear al1_2_9
    have al0_0_11 := fun o => alloc_cell o c0_0_11
    have al0_1_11 := fun o => alloc_cell o c0_1_11
    have al0_2_11 := fun o => alloc_cell o c0_2_11
    have al1_0_11 := fun o => alloc_cell o c1_0_11
    have al1_1_11 := fun o => alloc_cell o c1_1_11
    have al1_2_11 := fun o => alloc_cell o c1_2_11
    go_wp2_with fail
    refine (HT0.out _ b11).mono ?_
    rintro _ w12 ⟨x6, rfl, n6, r12⟩
    have s12 := r12
    have y12 := s12.size
    have b12 := b11.trans (s12.mono z11)
    have z12 := b12.size
    have c0_0_12 := below_cell s12 c0_0_11
    clear c0_0_11
    have c0_1_12 := below_cell s12 c0_1_11
    clear c0_1_11
    have c0_2_12 := below_cell s12 c0_2_11
    clear c0_2_11
    have c1_0_12 := below_cell s12 c1_0_11
    clear c1_0_11
    have c1_1_12 := below_cell s12 c1_1_11
    clear c1_1_11
    have c1_2_12 := below_cell s12 c1_2_11
    clear c1_2_11
    have o1_12 := own_later O1_11.out s12
    have O1_12 := Lib.hid o1_12; clear o1_12
    have o2_12 := O2_11.out.later s12
    have O2_12 := Lib.hid o2_12; clear o2_12
    have o3_12 := own_later O3_11.out s12
    have O3_12 := Lib.hid o3_12; clear o3_12
    have o4_12 := O4_11.out.later s12
    have O4_12 := Lib.hid o4_12; clear o4_12
    have o5_12 := own_later O5_11.out s12
    have O5_12 := Lib.hid o5_12; clear o5_12
    clear al0_0_11
    clear al0_1_11
    clear al0_2_11
    clear al1_0_11
    clear al1_1_11
    clear al1_2_11
    have al0_0_12 := fun o => alloc_cell o c0_0_12
    have al0_1_12 := fun o => alloc_cell o c0_1_12
    have al0_2_12 := fun o => alloc_cell o c0_2_12
    have al1_0_12 := fun o => alloc_cell o c1_0_12
    have al1_1_12 := fun o => alloc_cell o c1_1_12
    have al1_2_12 := fun o => alloc_cell o c1_2_12
    obtain ⟨ao6, cap6, g6, rfl, _, _⟩ := own_open n6
    have up6 := fun k hk => (World.ownsRow.lt n6 k hk).2
    have lo6 := fun k hk => (World.ownsRow.lt n6 k hk).1
    try simp only [World.size_alloc] at lo6
    have UP6 := Lib.hid up6; clear up6
    have LO6 := Lib.hid lo6; clear lo6
    have o6' := n6
    have O6_12 := Lib.hid o6'; clear o6'
    clear n6
    go_wp2_with fail
    refine (HI.out _ _ (Rd.of_own O6_12.out)).mono ?_
    rintro _ w13 ⟨xa7, xb7, xc7, us7, rfl, nm_7, r13⟩
    have s13 := r13
    have y13 := s13.size
    have b13 := b12.trans (s13.mono z12)
    have z13 := b13.size
    have c0_0_13 := below_cell s13 c0_0_12
    clear c0_0_12
    have c0_1_13 := below_cell s13 c0_1_12
    clear c0_1_12
    have c0_2_13 := below_cell s13 c0_2_12
    clear c0_2_12
    have c1_0_13 := below_cell s13 c1_0_12
    clear c1_0_12
    have c1_1_13 := below_cell s13 c1_1_12
    clear c1_1_12
    have c1_2_13 := below_cell s13 c1_2_12
    clear c1_2_12
    have o1_13 := own_later O1_12.out s13
    have O1_13 := Lib.hid o1_13; clear o1_13
    have o2_13 := O2_12.out.later s13
    have O2_13 := Lib.hid o2_13; clear o2_13
    have o3_13 := own_later O3_12.out s13
    have O3_13 := Lib.hid o3_13; clear o3_13
    have o4_13 := O4_12.out.later s13
    have O4_13 := Lib.hid o4_13; clear o4_13
    have o5_13 := own_later O5_12.out s13
    have O5_13 := Lib.hid o5_13; clear o5_13
    have o6_13 := own_later O6_12.out s13
    have O6_13 := Lib.hid o6_13; clear o6_13
    clear al0_0_12
    clear al0_1_12
    clear al0_2_12
    clear al1_0_12
    clear al1_1_12
    clear al1_2_12
    have al0_0_13 := fun o => alloc_cell o c0_0_13
    have al0_1_13 := fun o => alloc_cell o c0_1_13
    have al0_2_13 := fun o => alloc_cell o c0_2_13
    have al1_0_13 := fun o => alloc_cell o c1_0_13
    have al1_1_13 := fun o => alloc_cell o c1_1_13
    have al1_2_13 := fun o => alloc_cell o c1_2_13
    obtain ⟨az7, pz7, rfl⟩ := own_shape nm_7.z
    obtain ⟨aw7, pw7, rfl⟩ := own_shape nm_7.s.row
    obtain ⟨ab7, pb7, rfl⟩ := own_shape nm_7.b
    have om7 : OwnM w12.heap.size w13.heap.size w13 (.slice az7 qz0.length pz7) (.slice aw7 qw0.length pw7) (.slice ab7 qb0.length pb7) us7 qz0 qw0 qb0 := nm_7.wide (by first | exact Nat.le_refl _ | (simp; done) | (simp; omega)) (Nat.le_refl _)
    clear nm_7
    have OM7_13 := Lib.hid om7; clear om7
    go_wp2_with fail
    refine (HEq.out _ _ _ _ _ _ _ ((Rd.of_own OM7_13.out.z).later (by go_grown)) ((OM7_13.out.s.rd).later (by go_grown)) ((Rd.of_own OM7_13.out.b).later (by go_grown)) ((Rd.of_own O2_13.out.z).later (by go_grown)) ((O2_13.out.s.rd).later (by go_grown)) ((Rd.of_own O2_13.out.b).later (by go_grown))).mono ?_
    rintro _ w14 ⟨rfl, r14⟩
    have s14 : Below w13.heap.size w13 w14 := Below.trans (by go_grown) (r14.mono (by simp; try omega))
    have y14 := s14.size
    have v14 : w13.heap.size + 1 ≤ w14.heap.size := by have := r14.size; simp only [World.size_alloc] at this; omega
    have b14 := b13.trans (s14.mono z13)
    have z14 := b14.size
    have c0_0_14 := below_cell s14 c0_0_13
    clear c0_0_13
    have c0_1_14 := below_cell s14 c0_1_13
    clear c0_1_13
    have c0_2_14 := below_cell s14 c0_2_13
    clear c0_2_13
    have c1_0_14 := below_cell s14 c1_0_13
    clear c1_0_13
    have c1_1_14 := below_cell s14 c1_1_13
    clear c1_1_13
    have c1_2_14 := below_cell s14 c1_2_13
    clear c1_2_13
    have c2_0_14 := below_cell r14 (p := ⟨w13.heap.size, 0, none⟩) (v := .slice az7 qz0.length pz7) (by simp [go_sem])
    have c2_1_14 := below_cell r14 (p := ⟨w13.heap.size, 1, none⟩) (v := .slice aw7 qw0.length pw7) (by simp [go_sem])
    have c2_2_14 := below_cell r14 (p := ⟨w13.heap.size, 2, none⟩) (v := .slice ab7 qb0.length pb7) (by simp [go_sem])
    have o1_14 := own_later O1_13.out s14
    have O1_14 := Lib.hid o1_14; clear o1_14
    have o2_14 := O2_13.out.later s14
    have O2_14 := Lib.hid o2_14; clear o2_14
    have o3_14 := own_later O3_13.out s14
    have O3_14 := Lib.hid o3_14; clear o3_14
    have o4_14 := O4_13.out.later s14
    have O4_14 := Lib.hid o4_14; clear o4_14
    have o5_14 := own_later O5_13.out s14
    have O5_14 := Lib.hid o5_14; clear o5_14
    have o6_14 := own_later O6_13.out s14
    have O6_14 := Lib.hid o6_14; clear o6_14
    have o7_14 := OM7_13.out.later s14
    have O7_14 := Lib.hid o7_14; clear o7_14
    clear r14
    clear al0_0_13
    clear al0_1_13
    clear al0_2_13
    clear al1_0_13
    clear al1_1_13
    clear al1_2_13
    have al0_0_14 := fun o => alloc_cell o c0_0_14
    have al0_1_14 := fun o => alloc_cell o c0_1_14
    have al0_2_14 := fun o => alloc_cell o c0_2_14
    have al1_0_14 := fun o => alloc_cell o c1_0_14
    have al1_1_14 := fun o => alloc_cell o c1_1_14
    have al1_2_14 := fun o => alloc_cell o c1_2_14
    have al2_0_14 := fun o => alloc_cell o c2_0_14
    have al2_1_14 := fun o => alloc_cell o c2_1_14
    have al2_2_14 := fun o => alloc_cell o c2_2_14
    go_wp2_with fail
    refine (heldModel_c _ _ _ qz0.length qw0 qb0.length _ _ (Rd.of_own O4_14.out.z) (O4_14.out.s.rd) (Rd.of_own O4_14.out.b) (by omega) (by omega) (by omega)).mono ?_
    rintro _ w15 ⟨rfl, r15⟩
    have s15 := r15
    have y15 := s15.size
    have b15 := b14.trans (s15.mono z14)
    have z15 := b15.size
    have c0_0_15 := below_cell s15 c0_0_14
    clear c0_0_14
    have c0_1_15 := below_cell s15 c0_1_14
    clear c0_1_14
    have c0_2_15 := below_cell s15 c0_2_14
    clear c0_2_14
    have c1_0_15 := below_cell s15 c1_0_14
    clear c1_0_14
    have c1_1_15 := below_cell s15 c1_1_14
    clear c1_1_14
    have c1_2_15 := below_cell s15 c1_2_14
    clear c1_2_14
    have c2_0_15 := below_cell s15 c2_0_14
    clear c2_0_14
    have c2_1_15 := below_cell s15 c2_1_14
    clear c2_1_14
    have c2_2_15 := below_cell s15 c2_2_14
    clear c2_2_14
    have o1_15 := own_later O1_14.out s15
    have O1_15 := Lib.hid o1_15; clear o1_15
    have o2_15 := O2_14.out.later s15
    have O2_15 := Lib.hid o2_15; clear o2_15
    have o3_15 := own_later O3_14.out s15
    have O3_15 := Lib.hid o3_15; clear o3_15
    have o4_15 := O4_14.out.later s15
    have O4_15 := Lib.hid o4_15; clear o4_15
    have o5_15 := own_later O5_14.out s15
    have O5_15 := Lib.hid o5_15; clear o5_15
    have o6_15 := own_later O6_14.out s15
    have O6_15 := Lib.hid o6_15; clear o6_15
    have o7_15 := O7_14.out.later s15
    have O7_15 := Lib.hid o7_15; clear o7_15
    clear al0_0_14
    clear al0_1_14
    clear al0_2_14
    clear al1_0_14
    clear al1_1_14
    clear al1_2_14
    clear al2_0_14
    clear al2_1_14
    clear al2_2_14
    have al0_0_15 := fun o => alloc_cell o c0_0_15
    have al0_1_15 := fun o => alloc_cell o c0_1_15
    have al0_2_15 := fun o => alloc_cell o c0_2_15
    have al1_0_15 := fun o => alloc_cell o c1_0_15
    have al1_1_15 := fun o => alloc_cell o c1_1_15
    have al1_2_15 := fun o => alloc_cell o c1_2_15
    have al2_0_15 := fun o => alloc_cell o c2_0_15
    have al2_1_15 := fun o => alloc_cell o c2_1_15
    have al2_2_15 := fun o => alloc_cell o c2_2_15
    go_wp2
    go_returns
    exact RetB.mk rfl b15
  · skip
    have HA0 := Lib.hid h0; clear h0
    have HS := Lib.hid hs; clear hs
    have HI := Lib.hid hi; clear hi
    go_enter Try.func6, Try.ntmps6
    go_wp2
    go_returns
    exact RetB.mk rfl (by go_grown)

theorem lawStandardModel_c (w : World) (v0 : Value) (zs0 : List Int) (h0 : Rd w v0 zs0.length (ints zs0)) (w0 : ∀ z ∈ zs0, I64 z) :
    Calls Try.prog 6 #[v0] w (RetB (.bool true) w) :=
  lawStandardModel_h w v0 zs0 h0 (stdI zs0).1.1 (stdI zs0).1.2.1 (stdI zs0).1.2.2 (stdI_bd zs0) _ (fun w' u h => specStandardModel_c u zs0 w' h) (fun w' u h => implStandardModel_c u zs0 w' h)

end Go.Proofs.Ytmickkodcclocaa
