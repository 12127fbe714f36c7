/- The law of SameModel, walked. -/
import Derived.Test.YtjbbhfmojfdcaaaLawBase
import Derived.Test.YtjbbhfmojfdcaaaSame
import Derived.Test.YtjbbhfmojfdcaaaSS2
namespace Go.Proofs.Ytjbbhfmojfdcaaa
set_option linter.unusedVariables false
open Go.RowKit Go.Proofs.Bell Go.BigFrame

set_option maxRecDepth 100000 in
set_option maxHeartbeats 3200000 in
theorem lawSameModel_h (w : World) (zv0 wv0 bv0 : Value) (zs0 : List Int) (ws0 : List (List Int)) (bs0 : List Int) (hz0 : Rd w zv0 zs0.length (ints zs0)) (hw0 : RdSS w wv0 ws0) (hb0 : Rd w bv0 bs0.length (ints bs0)) (zv1 wv1 bv1 : Value) (zs1 : List Int) (ws1 : List (List Int)) (bs1 : List Int) (hz1 : Rd w zv1 zs1.length (ints zs1)) (hw1 : RdSS w wv1 ws1) (hb1 : Rd w bv1 bs1.length (ints bs1)) (t0 : Bool)
    (hs : ∀ w' uz0 uw0 ub0 uz1 uw1 ub1, Rd w' uz0 zs0.length (ints zs0) → RdSS w' uw0 ws0 → Rd w' ub0 bs0.length (ints bs0) → Rd w' uz1 zs1.length (ints zs1) → RdSS w' uw1 ws1 → Rd w' ub1 bs1.length (ints bs1) → Calls Try.prog 16 #[.agg #[uz0, uw0, ub0], .agg #[uz1, uw1, ub1]] w' (RetB (.bool t0) w'))
    (hi : ∀ w' uz0 uw0 ub0 uz1 uw1 ub1, Rd w' uz0 zs0.length (ints zs0) → RdSS w' uw0 ws0 → Rd w' ub0 bs0.length (ints bs0) → Rd w' uz1 zs1.length (ints zs1) → RdSS w' uw1 ws1 → Rd w' ub1 bs1.length (ints bs1) → Calls Try.prog 18 #[.agg #[uz0, uw0, ub0], .agg #[uz1, uw1, ub1]] w' (RetB (.bool t0) w')) :
    Calls Try.prog 3 #[.agg #[zv0, wv0, bv0], .agg #[zv1, wv1, bv1]] w (RetB (.bool true) w) := by
  by_cases hl0 : ((zs0.length : Int) + SzSS ws0 + bs0.length) ≤ 1048576
  · skip
    have hz0' := fun w' (hb : Below w.heap.size w w') => szModel_c zv0 wv0 bv0 zs0 ws0 bs0 (1048576) w' (hz0.later hb) (hw0.later hb) (hb0.later hb) (by omega) (by omega)
    rw [leftM_pos (by omega)] at hz0'
    have HZ0 := Lib.hid hz0'; clear hz0'
    by_cases hl1 : ((zs1.length : Int) + SzSS ws1 + bs1.length) ≤ 1048576 - (zs0.length : Int) - (SzSS ws0 : Int) - (bs0.length : Int)
    · skip
      have hz1' := fun w' (hb : Below w.heap.size w w') => szModel_c zv1 wv1 bv1 zs1 ws1 bs1 (1048576 - (zs0.length : Int) - (SzSS ws0 : Int) - (bs0.length : Int)) w' (hz1.later hb) (hw1.later hb) (hb1.later hb) (by omega) (by omega)
      rw [leftM_pos (by omega)] at hz1'
      have HZ1 := Lib.hid hz1'; clear hz1'
      have ht0 := fun w' (hb : Below w.heap.size w w') => toModel_c zv0 wv0 bv0 zs0 ws0 bs0 w' (hz0.later hb) (hw0.later hb) (hb0.later hb) (by omega) (by omega) (by omega)
      have he0 := fun w' xa xb xc ya yb yc (h1 : Rd w' xa zs0.length (ints zs0)) (h2 : RdSS w' xb ws0) (h3 : Rd w' xc bs0.length (ints bs0)) (h4 : Rd w' ya zs0.length (ints zs0)) (h5 : RdSS w' yb ws0) (h6 : Rd w' yc bs0.length (ints bs0)) => eqModel_c xa xb xc ya yb yc zs0 ws0 bs0 w' h1 h2 h3 h4 h5 h6
      have HAZ0 := Lib.hid hz0; clear hz0
      have HAW0 := Lib.hid hw0; clear hw0
      have HAB0 := Lib.hid hb0; clear hb0
      have HE0 := Lib.hid he0; clear he0
      have HT0 := Lib.hid ht0; clear ht0
      have ht1 := fun w' (hb : Below w.heap.size w w') => toModel_c zv1 wv1 bv1 zs1 ws1 bs1 w' (hz1.later hb) (hw1.later hb) (hb1.later hb) (by omega) (by omega) (by omega)
      have he1 := fun w' xa xb xc ya yb yc (h1 : Rd w' xa zs1.length (ints zs1)) (h2 : RdSS w' xb ws1) (h3 : Rd w' xc bs1.length (ints bs1)) (h4 : Rd w' ya zs1.length (ints zs1)) (h5 : RdSS w' yb ws1) (h6 : Rd w' yc bs1.length (ints bs1)) => eqModel_c xa xb xc ya yb yc zs1 ws1 bs1 w' h1 h2 h3 h4 h5 h6
      have HAZ1 := Lib.hid hz1; clear hz1
      have HAW1 := Lib.hid hw1; clear hw1
      have HAB1 := Lib.hid hb1; clear hb1
      have HE1 := Lib.hid he1; clear he1
      have HT1 := Lib.hid ht1; clear ht1
      have HS := Lib.hid hs; clear hs
      have HI := Lib.hid hi; clear hi
      go_enter Try.func3, Try.ntmps3
      have b0 : Below w.heap.size w w := Below.refl _ _
      have z0 : w.heap.size ≤ w.heap.size := Nat.le_refl _
      go_wp2_with fail
      refine (HZ0.out _ (by go_grown)).mono ?_
      rintro _ w1 ⟨rfl, r1⟩
      have s1 : Below w.heap.size w w1 := Below.trans (by go_grown) (r1.mono (by simp; try omega))
      have y1 := s1.size
      have v1 : w.heap.size + 2 ≤ w1.heap.size := by have := r1.size; simp only [World.size_alloc] at this; omega
      have b1 := b0.trans (s1.mono z0)
      have z1 := b1.size
      have c0_0_1 := below_cell r1 (p := ⟨w.heap.size, 0, none⟩) (v := zv0) (by simp [go_sem])
      have c0_1_1 := below_cell r1 (p := ⟨w.heap.size, 1, none⟩) (v := wv0) (by simp [go_sem])
      have c0_2_1 := below_cell r1 (p := ⟨w.heap.size, 2, none⟩) (v := bv0) (by simp [go_sem])
      have c1_0_1 := below_cell r1 (p := ⟨w.heap.size + 1, 0, none⟩) (v := zv1) (by simp [go_sem])
      have c1_1_1 := below_cell r1 (p := ⟨w.heap.size + 1, 1, none⟩) (v := wv1) (by simp [go_sem])
      have c1_2_1 := below_cell r1 (p := ⟨w.heap.size + 1, 2, none⟩) (v := bv1) (by simp [go_sem])
      clear r1
      have al0_0_1 := fun o => alloc_cell o c0_0_1
      have al0_1_1 := fun o => alloc_cell o c0_1_1
      have al0_2_1 := fun o => alloc_cell o c0_2_1
      have al1_0_1 := fun o => alloc_cell o c1_0_1
      have al1_1_1 := fun o => alloc_cell o c1_1_1
      have al1_2_1 := fun o => alloc_cell o c1_2_1
      go_wp2_with fail
      refine (HZ1.out _ b1).mono ?_
      rintro _ w2 ⟨rfl, r2⟩
      have s2 := r2
      have y2 := s2.size
      have b2 := b1.trans (s2.mono z1)
      have z2 := b2.size
      have c0_0_2 := below_cell s2 c0_0_1
      clear c0_0_1
      have c0_1_2 := below_cell s2 c0_1_1
      clear c0_1_1
      have c0_2_2 := below_cell s2 c0_2_1
      clear c0_2_1
      have c1_0_2 := below_cell s2 c1_0_1
      clear c1_0_1
      have c1_1_2 := below_cell s2 c1_1_1
      clear c1_1_1
      have c1_2_2 := below_cell s2 c1_2_1
      clear c1_2_1
      clear al0_0_1
      clear al0_1_1
      clear al0_2_1
      clear al1_0_1
      clear al1_1_1
      clear al1_2_1
      have al0_0_2 := fun o => alloc_cell o c0_0_2
      have al0_1_2 := fun o => alloc_cell o c0_1_2
      have al0_2_2 := fun o => alloc_cell o c0_2_2
      have al1_0_2 := fun o => alloc_cell o c1_0_2
      have al1_1_2 := fun o => alloc_cell o c1_1_2
      have al1_2_2 := fun o => alloc_cell o c1_2_2
      have htd0 : ∀ w', Below w2.heap.size w2 w' → Calls Try.prog 17 #[.agg #[zv0, wv0, bv0]] w' (fun e w'' => ∃ ua0 ub0 uc0, e = .returned (.agg #[ua0, ub0, uc0]) ∧ (Rd w'' ua0 zs0.length (ints zs0) ∧ RdSS w'' ub0 ws0 ∧ Rd w'' uc0 bs0.length (ints bs0)) ∧ Below w'.heap.size w' w'' ∧ Below w2.heap.size w2 w'') := fun w' hb => (HT0.out w' (b2.trans (hb.mono z2))).mono fun _ _ ⟨va, vb, vc, us, e, o, b⟩ => ⟨va, vb, vc, e, ⟨Rd.of_own o.z, o.s.rd, Rd.of_own o.b⟩, b, hb.trans (b.mono hb.size)⟩
      have HTD0 := Lib.hid htd0; clear htd0
      have htd1 : ∀ w', Below w2.heap.size w2 w' → Calls Try.prog 17 #[.agg #[zv1, wv1, bv1]] w' (fun e w'' => ∃ ua1 ub1 uc1, e = .returned (.agg #[ua1, ub1, uc1]) ∧ (Rd w'' ua1 zs1.length (ints zs1) ∧ RdSS w'' ub1 ws1 ∧ Rd w'' uc1 bs1.length (ints bs1)) ∧ Below w'.heap.size w' w'' ∧ Below w2.heap.size w2 w'') := fun w' hb => (HT1.out w' (b2.trans (hb.mono z2))).mono fun _ _ ⟨va, vb, vc, us, e, o, b⟩ => ⟨va, vb, vc, e, ⟨Rd.of_own o.z, o.s.rd, Rd.of_own o.b⟩, b, hb.trans (b.mono hb.size)⟩
      have HTD1 := Lib.hid htd1; clear htd1
      go_wp2_with fail
      go_region_held3 (fun w' => w'.cell? ⟨w.heap.size, 0, none⟩ = some (zv0) ∧ w'.cell? ⟨w.heap.size, 1, none⟩ = some (wv0) ∧ w'.cell? ⟨w.heap.size, 2, none⟩ = some (bv0) ∧ w'.cell? ⟨w.heap.size + 1, 0, none⟩ = some (zv1) ∧ w'.cell? ⟨w.heap.size + 1, 1, none⟩ = some (wv1) ∧ w'.cell? ⟨w.heap.size + 1, 2, none⟩ = some (bv1)) (first | exact ⟨c0_0_2, c0_1_2, c0_2_2, c1_0_2, c1_1_2, c1_2_2⟩ | exact ⟨below_cell s3 c0_0_2, below_cell s3 c0_1_2, below_cell s3 c0_2_2, below_cell s3 c1_0_2, below_cell s3 c1_1_2, below_cell s3 c1_2_2⟩ | exact ⟨below_cell BD1.out c0_0_2, below_cell BD1.out c0_1_2, below_cell BD1.out c0_2_2, below_cell BD1.out c1_0_2, below_cell BD1.out c1_1_2, below_cell BD1.out c1_2_2⟩ | exact ⟨below_cell BD0.out c0_0_2, below_cell BD0.out c0_1_2, below_cell BD0.out c0_2_2, below_cell BD0.out c1_0_2, below_cell BD0.out c1_1_2, below_cell BD0.out c1_2_2⟩ | go_keep) (first | (go_at_call 16; refine (HS.out _ _ _ _ _ _ _ OD0_1.out.1 OD0_1.out.2.1 OD0_1.out.2.2 OD1_1.out.1 OD1_1.out.2.1 OD1_1.out.2.2).mono ?_; rintro _ w3 ⟨rfl, rd9⟩; have s3 := BD1.out.trans (rd9.mono BD1.out.size); have lo9 := BD1.out.size) | (have _gd := BD0; go_at_call 17; refine (HTD1.out _ (by first | exact BD0.out | go_grown)).mono ?_; rintro _ wd1 ⟨ua1, ub1, uc1, rfl, od1_1, qd1, bd1⟩; have OD1_1 := Lib.hid od1_1; clear od1_1; have QD1 := Lib.hid qd1; clear qd1; have BD1 := Lib.hid bd1; clear bd1; have od0_1 := And.intro (OD0_0.out.1.later QD1.out) (And.intro (OD0_0.out.2.1.later QD1.out) (OD0_0.out.2.2.later QD1.out)); have OD0_1 := Lib.hid od0_1; clear od0_1) | (go_at_call 17; refine (HTD0.out _ (by go_grown)).mono ?_; rintro _ wd0 ⟨ua0, ub0, uc0, rfl, od0_0, qd0, bd0⟩; have OD0_0 := Lib.hid od0_0; clear od0_0; have QD0 := Lib.hid qd0; clear qd0; have BD0 := Lib.hid bd0; clear bd0))
      clear HTD0 HTD1 rd9
      have y3 := s3.size
      have b3 := b2.trans (s3.mono z2)
      have z3 := b3.size
      have c0_0_3 := below_cell s3 c0_0_2
      clear c0_0_2
      have c0_1_3 := below_cell s3 c0_1_2
      clear c0_1_2
      have c0_2_3 := below_cell s3 c0_2_2
      clear c0_2_2
      have c1_0_3 := below_cell s3 c1_0_2
      clear c1_0_2
      have c1_1_3 := below_cell s3 c1_1_2
      clear c1_1_2
      have c1_2_3 := below_cell s3 c1_2_2
      clear c1_2_2
      clear al0_0_2
      clear al0_1_2
      clear al0_2_2
      clear al1_0_2
      clear al1_1_2
      clear al1_2_2
      have al0_0_3 := fun o => alloc_cell o c0_0_3
      have al0_1_3 := fun o => alloc_cell o c0_1_3
      have al0_2_3 := fun o => alloc_cell o c0_2_3
      have al1_0_3 := fun o => alloc_cell o c1_0_3
      have al1_1_3 := fun o => alloc_cell o c1_1_3
      have al1_2_3 := fun o => alloc_cell o c1_2_3
      go_wp2_with fail
      refine (HT0.out _ b3).mono ?_
      rintro _ w4 ⟨xa1, xb1, xc1, us1, rfl, nm_1, r4⟩
      have s4 := r4
      have y4 := s4.size
      have b4 := b3.trans (s4.mono z3)
      have z4 := b4.size
      have c0_0_4 := below_cell s4 c0_0_3
      clear c0_0_3
      have c0_1_4 := below_cell s4 c0_1_3
      clear c0_1_3
      have c0_2_4 := below_cell s4 c0_2_3
      clear c0_2_3
      have c1_0_4 := below_cell s4 c1_0_3
      clear c1_0_3
      have c1_1_4 := below_cell s4 c1_1_3
      clear c1_1_3
      have c1_2_4 := below_cell s4 c1_2_3
      clear c1_2_3
      clear al0_0_3
      clear al0_1_3
      clear al0_2_3
      clear al1_0_3
      clear al1_1_3
      clear al1_2_3
      have al0_0_4 := fun o => alloc_cell o c0_0_4
      have al0_1_4 := fun o => alloc_cell o c0_1_4
      have al0_2_4 := fun o => alloc_cell o c0_2_4
      have al1_0_4 := fun o => alloc_cell o c1_0_4
      have al1_1_4 := fun o => alloc_cell o c1_1_4
      have al1_2_4 := fun o => alloc_cell o c1_2_4
      obtain ⟨az1, pz1, rfl⟩ := own_shape nm_1.z
      obtain ⟨aw1, pw1, rfl⟩ := own_shape nm_1.s.row
      obtain ⟨ab1, pb1, rfl⟩ := own_shape nm_1.b
      have om1 : OwnM w3.heap.size w4.heap.size w4 (.slice az1 zs0.length pz1) (.slice aw1 ws0.length pw1) (.slice ab1 bs0.length pb1) us1 zs0 ws0 bs0 := nm_1.wide (by first | exact Nat.le_refl _ | (simp; done) | (simp; omega)) (Nat.le_refl _)
      clear nm_1
      have OM1_4 := Lib.hid om1; clear om1
      go_wp2_with fail
      refine (HT1.out _ (by go_grown)).mono ?_
      rintro _ w5 ⟨xa2, xb2, xc2, us2, rfl, nm_2, r5⟩
      have s5 : Below w4.heap.size w4 w5 := Below.trans (by go_grown) (r5.mono (by simp; try omega))
      have y5 := s5.size
      have v5 : w4.heap.size + 1 ≤ w5.heap.size := by have := r5.size; simp only [World.size_alloc] at this; omega
      have b5 := b4.trans (s5.mono z4)
      have z5 := b5.size
      have c0_0_5 := below_cell s5 c0_0_4
      clear c0_0_4
      have c0_1_5 := below_cell s5 c0_1_4
      clear c0_1_4
      have c0_2_5 := below_cell s5 c0_2_4
      clear c0_2_4
      have c1_0_5 := below_cell s5 c1_0_4
      clear c1_0_4
      have c1_1_5 := below_cell s5 c1_1_4
      clear c1_1_4
      have c1_2_5 := below_cell s5 c1_2_4
      clear c1_2_4
      have c2_0_5 := below_cell r5 (p := ⟨w4.heap.size, 0, none⟩) (v := .slice az1 zs0.length pz1) (by simp [go_sem])
      have c2_1_5 := below_cell r5 (p := ⟨w4.heap.size, 1, none⟩) (v := .slice aw1 ws0.length pw1) (by simp [go_sem])
      have c2_2_5 := below_cell r5 (p := ⟨w4.heap.size, 2, none⟩) (v := .slice ab1 bs0.length pb1) (by simp [go_sem])
      have o1_5 := OM1_4.out.later s5
      have O1_5 := Lib.hid o1_5; clear o1_5
      clear r5
      clear al0_0_4
      clear al0_1_4
      clear al0_2_4
      clear al1_0_4
      clear al1_1_4
      clear al1_2_4
      have al0_0_5 := fun o => alloc_cell o c0_0_5
      have al0_1_5 := fun o => alloc_cell o c0_1_5
      have al0_2_5 := fun o => alloc_cell o c0_2_5
      have al1_0_5 := fun o => alloc_cell o c1_0_5
      have al1_1_5 := fun o => alloc_cell o c1_1_5
      have al1_2_5 := fun o => alloc_cell o c1_2_5
      have al2_0_5 := fun o => alloc_cell o c2_0_5
      have al2_1_5 := fun o => alloc_cell o c2_1_5
      have al2_2_5 := fun o => alloc_cell o c2_2_5
      obtain ⟨az2, pz2, rfl⟩ := own_shape nm_2.z
      obtain ⟨aw2, pw2, rfl⟩ := own_shape nm_2.s.row
      obtain ⟨ab2, pb2, rfl⟩ := own_shape nm_2.b
      have om2 : OwnM w4.heap.size w5.heap.size w5 (.slice az2 zs1.length pz2) (.slice aw2 ws1.length pw2) (.slice ab2 bs1.length pb2) us2 zs1 ws1 bs1 := nm_2.wide (by first | exact Nat.le_refl _ | (simp; done) | (simp; omega)) (Nat.le_refl _)
      clear nm_2
      have OM2_5 := Lib.hid om2; clear om2
      go_wp2_with fail
      refine (HI.out _ _ _ _ _ _ _ ((Rd.of_own O1_5.out.z).later (by go_grown)) ((O1_5.out.s.rd).later (by go_grown)) ((Rd.of_own O1_5.out.b).later (by go_grown)) ((Rd.of_own OM2_5.out.z).later (by go_grown)) ((OM2_5.out.s.rd).later (by go_grown)) ((Rd.of_own OM2_5.out.b).later (by go_grown))).mono ?_
      rintro _ w6 ⟨rfl, r6⟩
      have s6 : Below w5.heap.size w5 w6 := Below.trans (by go_grown) (r6.mono (by simp; try omega))
      have y6 := s6.size
      have v6 : w5.heap.size + 1 ≤ w6.heap.size := by have := r6.size; simp only [World.size_alloc] at this; omega
      have b6 := b5.trans (s6.mono z5)
      have z6 := b6.size
      have c0_0_6 := below_cell s6 c0_0_5
      clear c0_0_5
      have c0_1_6 := below_cell s6 c0_1_5
      clear c0_1_5
      have c0_2_6 := below_cell s6 c0_2_5
      clear c0_2_5
      have c1_0_6 := below_cell s6 c1_0_5
      clear c1_0_5
      have c1_1_6 := below_cell s6 c1_1_5
      clear c1_1_5
      have c1_2_6 := below_cell s6 c1_2_5
      clear c1_2_5
      have c2_0_6 := below_cell s6 c2_0_5
      clear c2_0_5
      have c2_1_6 := below_cell s6 c2_1_5
      clear c2_1_5
      have c2_2_6 := below_cell s6 c2_2_5
      clear c2_2_5
      have c3_0_6 := below_cell r6 (p := ⟨w5.heap.size, 0, none⟩) (v := .slice az2 zs1.length pz2) (by simp [go_sem])
      have c3_1_6 := below_cell r6 (p := ⟨w5.heap.size, 1, none⟩) (v := .slice aw2 ws1.length pw2) (by simp [go_sem])
      have c3_2_6 := below_cell r6 (p := ⟨w5.heap.size, 2, none⟩) (v := .slice ab2 bs1.length pb2) (by simp [go_sem])
      have o1_6 := O1_5.out.later s6
      have O1_6 := Lib.hid o1_6; clear o1_6
      have o2_6 := OM2_5.out.later s6
      have O2_6 := Lib.hid o2_6; clear o2_6
      clear r6
      clear al0_0_5
      clear al0_1_5
      clear al0_2_5
      clear al1_0_5
      clear al1_1_5
      clear al1_2_5
      clear al2_0_5
      clear al2_1_5
      clear al2_2_5
      have al0_0_6 := fun o => alloc_cell o c0_0_6
      have al0_1_6 := fun o => alloc_cell o c0_1_6
      have al0_2_6 := fun o => alloc_cell o c0_2_6
      have al1_0_6 := fun o => alloc_cell o c1_0_6
      have al1_1_6 := fun o => alloc_cell o c1_1_6
      have al1_2_6 := fun o => alloc_cell o c1_2_6
      have al2_0_6 := fun o => alloc_cell o c2_0_6
      have al2_1_6 := fun o => alloc_cell o c2_1_6
      have al2_2_6 := fun o => alloc_cell o c2_2_6
      have al3_0_6 := fun o => alloc_cell o c3_0_6
      have al3_1_6 := fun o => alloc_cell o c3_1_6
      have al3_2_6 := fun o => alloc_cell o c3_2_6
      go_wp2_with fail
      have ht5 : ∀ w', Below w6.heap.size w6 w' → Calls Try.prog 17 #[.agg #[zv0, wv0, bv0]] w' (fun e w'' => ∃ ua ub uc, e = .returned (.agg #[ua, ub, uc]) ∧ ((Rd w'' ua zs0.length (ints zs0) ∧ RdSS w'' ub ws0 ∧ Rd w'' uc bs0.length (ints bs0)) ∧ Below w6.heap.size w6 w'')) := fun w' hb => (HT0.out w' (b6.trans (hb.mono z6))).mono fun _ _ ⟨va, vb, vc, us, e, o, b⟩ => ⟨va, vb, vc, e, ⟨Rd.of_own o.z, o.s.rd, Rd.of_own o.b⟩, hb.trans (b.mono hb.size)⟩
      have he5 : ∀ w' ua ub uc, (Rd w' ua zs0.length (ints zs0) ∧ RdSS w' ub ws0 ∧ Rd w' uc bs0.length (ints bs0)) ∧ Below w6.heap.size w6 w' → Calls Try.prog 19 #[.agg #[.slice az1 zs0.length pz1, .slice aw1 ws0.length pw1, .slice ab1 bs0.length pb1], .agg #[ua, ub, uc]] w' (fun e w'' => e = .returned (.bool true) ∧ Below w6.heap.size w6 w'') := fun w' va vb vc ⟨o, hb⟩ => (HE0.out w' _ _ _ _ _ _ (Rd.of_own (O1_6.out.later hb).z) (O1_6.out.later hb).s.rd (Rd.of_own (O1_6.out.later hb).b) o.1 o.2.1 o.2.2).mono fun _ _ ⟨e, b⟩ => ⟨e, hb.trans (b.mono hb.size)⟩
      have HT5 := Lib.hid ht5; clear ht5
      have HE5 := Lib.hid he5; clear he5
      go_region_held3 (fun w' => w'.cell? ⟨w.heap.size, 0, none⟩ = some (zv0) ∧ w'.cell? ⟨w.heap.size, 1, none⟩ = some (wv0) ∧ w'.cell? ⟨w.heap.size, 2, none⟩ = some (bv0) ∧ w'.cell? ⟨w4.heap.size, 0, none⟩ = some (.slice az1 zs0.length pz1) ∧ w'.cell? ⟨w4.heap.size, 1, none⟩ = some (.slice aw1 ws0.length pw1) ∧ w'.cell? ⟨w4.heap.size, 2, none⟩ = some (.slice ab1 bs0.length pb1)) (first | exact ⟨c0_0_6, c0_1_6, c0_2_6, c2_0_6, c2_1_6, c2_2_6⟩ | exact ⟨below_cell O6.out.2 c0_0_6, below_cell O6.out.2 c0_1_6, below_cell O6.out.2 c0_2_6, below_cell O6.out.2 c2_0_6, below_cell O6.out.2 c2_1_6, below_cell O6.out.2 c2_2_6⟩ | exact ⟨below_cell s7 c0_0_6, below_cell s7 c0_1_6, below_cell s7 c0_2_6, below_cell s7 c2_0_6, below_cell s7 c2_1_6, below_cell s7 c2_2_6⟩ | go_keep) (first | (go_at_call 17; refine (HT5.out _ (by go_grown)).mono ?_; rintro _ ww6 ⟨va6, vb6, vc6, rfl, o6⟩; have O6 := Lib.hid o6; clear o6) | (go_at_call 19; refine (HE5.out _ _ _ _ (by assumption)).mono ?_; rintro _ w7 ⟨rfl, s7⟩))
      clear HT5 HE5
      have y7 := s7.size
      have b7 := b6.trans (s7.mono z6)
      have z7 := b7.size
      have c0_0_7 := below_cell s7 c0_0_6
      clear c0_0_6
      have c0_1_7 := below_cell s7 c0_1_6
      clear c0_1_6
      have c0_2_7 := below_cell s7 c0_2_6
      clear c0_2_6
      have c1_0_7 := below_cell s7 c1_0_6
      clear c1_0_6
      have c1_1_7 := below_cell s7 c1_1_6
      clear c1_1_6
      have c1_2_7 := below_cell s7 c1_2_6
      clear c1_2_6
      have c2_0_7 := below_cell s7 c2_0_6
      clear c2_0_6
      have c2_1_7 := below_cell s7 c2_1_6
      clear c2_1_6
      have c2_2_7 := below_cell s7 c2_2_6
      clear c2_2_6
      have c3_0_7 := below_cell s7 c3_0_6
      clear c3_0_6
      have c3_1_7 := below_cell s7 c3_1_6
      clear c3_1_6
      have c3_2_7 := below_cell s7 c3_2_6
      clear c3_2_6
      have o1_7 := O1_6.out.later s7
      have O1_7 := Lib.hid o1_7; clear o1_7
      have o2_7 := O2_6.out.later s7
      have O2_7 := Lib.hid o2_7; clear o2_7
      clear al0_0_6
      clear al0_1_6
      clear al0_2_6
      clear al1_0_6
      clear al1_1_6
      clear al1_2_6
      clear al2_0_6
      clear al2_1_6
      clear al2_2_6
      clear al3_0_6
      clear al3_1_6
      clear al3_2_6
      have al0_0_7 := fun o => alloc_cell o c0_0_7
      have al0_1_7 := fun o => alloc_cell o c0_1_7
      have al0_2_7 := fun o => alloc_cell o c0_2_7
      have al1_0_7 := fun o => alloc_cell o c1_0_7
      have al1_1_7 := fun o => alloc_cell o c1_1_7
      have al1_2_7 := fun o => alloc_cell o c1_2_7
      have al2_0_7 := fun o => alloc_cell o c2_0_7
      have al2_1_7 := fun o => alloc_cell o c2_1_7
      have al2_2_7 := fun o => alloc_cell o c2_2_7
      have al3_0_7 := fun o => alloc_cell o c3_0_7
      have al3_1_7 := fun o => alloc_cell o c3_1_7
      have al3_2_7 := fun o => alloc_cell o c3_2_7
      go_wp2_with fail
      have ht5 : ∀ w', Below w7.heap.size w7 w' → Calls Try.prog 17 #[.agg #[zv1, wv1, bv1]] w' (fun e w'' => ∃ ua ub uc, e = .returned (.agg #[ua, ub, uc]) ∧ ((Rd w'' ua zs1.length (ints zs1) ∧ RdSS w'' ub ws1 ∧ Rd w'' uc bs1.length (ints bs1)) ∧ Below w7.heap.size w7 w'')) := fun w' hb => (HT1.out w' (b7.trans (hb.mono z7))).mono fun _ _ ⟨va, vb, vc, us, e, o, b⟩ => ⟨va, vb, vc, e, ⟨Rd.of_own o.z, o.s.rd, Rd.of_own o.b⟩, hb.trans (b.mono hb.size)⟩
      have he5 : ∀ w' ua ub uc, (Rd w' ua zs1.length (ints zs1) ∧ RdSS w' ub ws1 ∧ Rd w' uc bs1.length (ints bs1)) ∧ Below w7.heap.size w7 w' → Calls Try.prog 19 #[.agg #[.slice az2 zs1.length pz2, .slice aw2 ws1.length pw2, .slice ab2 bs1.length pb2], .agg #[ua, ub, uc]] w' (fun e w'' => e = .returned (.bool true) ∧ Below w7.heap.size w7 w'') := fun w' va vb vc ⟨o, hb⟩ => (HE1.out w' _ _ _ _ _ _ (Rd.of_own (O2_7.out.later hb).z) (O2_7.out.later hb).s.rd (Rd.of_own (O2_7.out.later hb).b) o.1 o.2.1 o.2.2).mono fun _ _ ⟨e, b⟩ => ⟨e, hb.trans (b.mono hb.size)⟩
      have HT5 := Lib.hid ht5; clear ht5
      have HE5 := Lib.hid he5; clear he5
      go_region_held3 (fun w' => w'.cell? ⟨w.heap.size + 1, 0, none⟩ = some (zv1) ∧ w'.cell? ⟨w.heap.size + 1, 1, none⟩ = some (wv1) ∧ w'.cell? ⟨w.heap.size + 1, 2, none⟩ = some (bv1) ∧ w'.cell? ⟨w5.heap.size, 0, none⟩ = some (.slice az2 zs1.length pz2) ∧ w'.cell? ⟨w5.heap.size, 1, none⟩ = some (.slice aw2 ws1.length pw2) ∧ w'.cell? ⟨w5.heap.size, 2, none⟩ = some (.slice ab2 bs1.length pb2)) (first | exact ⟨c1_0_7, c1_1_7, c1_2_7, c3_0_7, c3_1_7, c3_2_7⟩ | exact ⟨below_cell O6.out.2 c1_0_7, below_cell O6.out.2 c1_1_7, below_cell O6.out.2 c1_2_7, below_cell O6.out.2 c3_0_7, below_cell O6.out.2 c3_1_7, below_cell O6.out.2 c3_2_7⟩ | exact ⟨below_cell s8 c1_0_7, below_cell s8 c1_1_7, below_cell s8 c1_2_7, below_cell s8 c3_0_7, below_cell s8 c3_1_7, below_cell s8 c3_2_7⟩ | go_keep) (first | (go_at_call 17; refine (HT5.out _ (by go_grown)).mono ?_; rintro _ ww6 ⟨va6, vb6, vc6, rfl, o6⟩; have O6 := Lib.hid o6; clear o6) | (go_at_call 19; refine (HE5.out _ _ _ _ (by assumption)).mono ?_; rintro _ w8 ⟨rfl, s8⟩))
      clear HT5 HE5
      have y8 := s8.size
      have b8 := b7.trans (s8.mono z7)
      have z8 := b8.size
      have c0_0_8 := below_cell s8 c0_0_7
      clear c0_0_7
      have c0_1_8 := below_cell s8 c0_1_7
      clear c0_1_7
      have c0_2_8 := below_cell s8 c0_2_7
      clear c0_2_7
      have c1_0_8 := below_cell s8 c1_0_7
      clear c1_0_7
      have c1_1_8 := below_cell s8 c1_1_7
      clear c1_1_7
      have c1_2_8 := below_cell s8 c1_2_7
      clear c1_2_7
      have c2_0_8 := below_cell s8 c2_0_7
      clear c2_0_7
      have c2_1_8 := below_cell s8 c2_1_7
      clear c2_1_7
      have c2_2_8 := below_cell s8 c2_2_7
      clear c2_2_7
      have c3_0_8 := below_cell s8 c3_0_7
      clear c3_0_7
      have c3_1_8 := below_cell s8 c3_1_7
      clear c3_1_7
      have c3_2_8 := below_cell s8 c3_2_7
      clear c3_2_7
      have o1_8 := O1_7.out.later s8
      have O1_8 := Lib.hid o1_8; clear o1_8
      have o2_8 := O2_7.out.later s8
      have O2_8 := Lib.hid o2_8; clear o2_8
      clear al0_0_7
      clear al0_1_7
      clear al0_2_7
      clear al1_0_7
      clear al1_1_7
      clear al1_2_7
      clear al2_0_7
      clear al2_1_7
      clear al2_2_7
      clear al3_0_7
      clear al3_1_7
      clear al3_2_7
      have al0_0_8 := fun o => alloc_cell o c0_0_8
      have al0_1_8 := fun o => alloc_cell o c0_1_8
      have al0_2_8 := fun o => alloc_cell o c0_2_8
      have al1_0_8 := fun o => alloc_cell o c1_0_8
      have al1_1_8 := fun o => alloc_cell o c1_1_8
      have al1_2_8 := fun o => alloc_cell o c1_2_8
      have al2_0_8 := fun o => alloc_cell o c2_0_8
      have al2_1_8 := fun o => alloc_cell o c2_1_8
      have al2_2_8 := fun o => alloc_cell o c2_2_8
      have al3_0_8 := fun o => alloc_cell o c3_0_8
      have al3_1_8 := fun o => alloc_cell o c3_1_8
      have al3_2_8 := fun o => alloc_cell o c3_2_8
      go_wp2
      go_returns
      exact RetB.mk rfl b8
    · skip
      have hz1' := fun w' (hb : Below w.heap.size w w') => szModel_c zv1 wv1 bv1 zs1 ws1 bs1 (1048576 - (zs0.length : Int) - (SzSS ws0 : Int) - (bs0.length : Int)) w' (hz1.later hb) (hw1.later hb) (hb1.later hb) (by omega) (by omega)
      rw [leftM_neg (by omega)] at hz1'
      have HZ1 := Lib.hid hz1'; clear hz1'
      have HS := Lib.hid hs; clear hs
      have HI := Lib.hid hi; clear hi
      go_enter Try.func3, Try.ntmps3
      have b0 : Below w.heap.size w w := Below.refl _ _
      have z0 : w.heap.size ≤ w.heap.size := Nat.le_refl _
      go_wp2_with fail
      refine (HZ0.out _ (by go_grown)).mono ?_
      rintro _ w1 ⟨rfl, r1⟩
      have s1 : Below w.heap.size w w1 := Below.trans (by go_grown) (r1.mono (by simp; try omega))
      have y1 := s1.size
      have v1 : w.heap.size + 2 ≤ w1.heap.size := by have := r1.size; simp only [World.size_alloc] at this; omega
      have b1 := b0.trans (s1.mono z0)
      have z1 := b1.size
      have c0_0_1 := below_cell r1 (p := ⟨w.heap.size, 0, none⟩) (v := zv0) (by simp [go_sem])
      have c0_1_1 := below_cell r1 (p := ⟨w.heap.size, 1, none⟩) (v := wv0) (by simp [go_sem])
      have c0_2_1 := below_cell r1 (p := ⟨w.heap.size, 2, none⟩) (v := bv0) (by simp [go_sem])
      have c1_0_1 := below_cell r1 (p := ⟨w.heap.size + 1, 0, none⟩) (v := zv1) (by simp [go_sem])
      have c1_1_1 := below_cell r1 (p := ⟨w.heap.size + 1, 1, none⟩) (v := wv1) (by simp [go_sem])
      have c1_2_1 := below_cell r1 (p := ⟨w.heap.size + 1, 2, none⟩) (v := bv1) (by simp [go_sem])
      clear r1
      have al0_0_1 := fun o => alloc_cell o c0_0_1
      have al0_1_1 := fun o => alloc_cell o c0_1_1
      have al0_2_1 := fun o => alloc_cell o c0_2_1
      have al1_0_1 := fun o => alloc_cell o c1_0_1
      have al1_1_1 := fun o => alloc_cell o c1_1_1
      have al1_2_1 := fun o => alloc_cell o c1_2_1
      go_wp2_with fail
      refine (HZ1.out _ b1).mono ?_
      rintro _ w2 ⟨rfl, r2⟩
      have s2 := r2
      have y2 := s2.size
      have b2 := b1.trans (s2.mono z1)
      have z2 := b2.size
      have c0_0_2 := below_cell s2 c0_0_1
      clear c0_0_1
      have c0_1_2 := below_cell s2 c0_1_1
      clear c0_1_1
      have c0_2_2 := below_cell s2 c0_2_1
      clear c0_2_1
      have c1_0_2 := below_cell s2 c1_0_1
      clear c1_0_1
      have c1_1_2 := below_cell s2 c1_1_1
      clear c1_1_1
      have c1_2_2 := below_cell s2 c1_2_1
      clear c1_2_1
      clear al0_0_1
      clear al0_1_1
      clear al0_2_1
      clear al1_0_1
      clear al1_1_1
      clear al1_2_1
      have al0_0_2 := fun o => alloc_cell o c0_0_2
      have al0_1_2 := fun o => alloc_cell o c0_1_2
      have al0_2_2 := fun o => alloc_cell o c0_2_2
      have al1_0_2 := fun o => alloc_cell o c1_0_2
      have al1_1_2 := fun o => alloc_cell o c1_1_2
      have al1_2_2 := fun o => alloc_cell o c1_2_2
      go_wp2
      go_returns
      exact RetB.mk rfl b2
  · skip
    have hz0' := fun w' (hb : Below w.heap.size w w') => szModel_c zv0 wv0 bv0 zs0 ws0 bs0 (1048576) w' (hz0.later hb) (hw0.later hb) (hb0.later hb) (by omega) (by omega)
    rw [leftM_neg (by omega)] at hz0'
    have HZ0 := Lib.hid hz0'; clear hz0'
    have HS := Lib.hid hs; clear hs
    have HI := Lib.hid hi; clear hi
    go_enter Try.func3, Try.ntmps3
    have b0 : Below w.heap.size w w := Below.refl _ _
    have z0 : w.heap.size ≤ w.heap.size := Nat.le_refl _
    go_wp2_with fail
    refine (HZ0.out _ (by go_grown)).mono ?_
    rintro _ w1 ⟨rfl, r1⟩
    have s1 : Below w.heap.size w w1 := Below.trans (by go_grown) (r1.mono (by simp; try omega))
    have y1 := s1.size
    have v1 : w.heap.size + 2 ≤ w1.heap.size := by have := r1.size; simp only [World.size_alloc] at this; omega
    have b1 := b0.trans (s1.mono z0)
    have z1 := b1.size
    have c0_0_1 := below_cell r1 (p := ⟨w.heap.size, 0, none⟩) (v := zv0) (by simp [go_sem])
    have c0_1_1 := below_cell r1 (p := ⟨w.heap.size, 1, none⟩) (v := wv0) (by simp [go_sem])
    have c0_2_1 := below_cell r1 (p := ⟨w.heap.size, 2, none⟩) (v := bv0) (by simp [go_sem])
    have c1_0_1 := below_cell r1 (p := ⟨w.heap.size + 1, 0, none⟩) (v := zv1) (by simp [go_sem])
    have c1_1_1 := below_cell r1 (p := ⟨w.heap.size + 1, 1, none⟩) (v := wv1) (by simp [go_sem])
    have c1_2_1 := below_cell r1 (p := ⟨w.heap.size + 1, 2, none⟩) (v := bv1) (by simp [go_sem])
    clear r1
    have al0_0_1 := fun o => alloc_cell o c0_0_1
    have al0_1_1 := fun o => alloc_cell o c0_1_1
    have al0_2_1 := fun o => alloc_cell o c0_2_1
    have al1_0_1 := fun o => alloc_cell o c1_0_1
    have al1_1_1 := fun o => alloc_cell o c1_1_1
    have al1_2_1 := fun o => alloc_cell o c1_2_1
    go_wp2
    go_returns
    exact RetB.mk rfl b1

theorem lawSameModel_c (w : World) (zv0 wv0 bv0 : Value) (zs0 : List Int) (ws0 : List (List Int)) (bs0 : List Int) (hz0 : Rd w zv0 zs0.length (ints zs0)) (hw0 : RdSS w wv0 ws0) (hb0 : Rd w bv0 bs0.length (ints bs0)) (w0 : (∀ z ∈ zs0, I64 z) ∧ (∀ x ∈ ws0, ∀ z ∈ x, I64 z) ∧ ∀ z ∈ bs0, I64 z) (zv1 wv1 bv1 : Value) (zs1 : List Int) (ws1 : List (List Int)) (bs1 : List Int) (hz1 : Rd w zv1 zs1.length (ints zs1)) (hw1 : RdSS w wv1 ws1) (hb1 : Rd w bv1 bs1.length (ints bs1)) (w1 : (∀ z ∈ zs1, I64 z) ∧ (∀ x ∈ ws1, ∀ z ∈ x, I64 z) ∧ ∀ z ∈ bs1, I64 z) :
    Calls Try.prog 3 #[.agg #[zv0, wv0, bv0], .agg #[zv1, wv1, bv1]] w (RetB (.bool true) w) :=
  lawSameModel_h w zv0 wv0 bv0 zs0 ws0 bs0 hz0 hw0 hb0 zv1 wv1 bv1 zs1 ws1 bs1 hz1 hw1 hb1 _ (fun w' ua ub uc va vb vc h1 h2 h3 h4 h5 h6 => specSameModel_c ua ub uc va vb vc zs0 ws0 bs0 zs1 ws1 bs1 w' h1 h2 h3 h4 h5 h6) (fun w' ua ub uc va vb vc h1 h2 h3 h4 h5 h6 => implSameModel_c ua ub uc va vb vc zs0 ws0 bs0 zs1 ws1 bs1 w' h1 h2 h3 h4 h5 h6)

end Go.Proofs.Ytjbbhfmojfdcaaa
