/- The law of ModelText, walked. -/
import Derived.Test.YtgdadbmhdljcdaaDoorGC
import Derived.Test.YtgdadbmhdljcdaaDoorTxtMp
namespace Go.Proofs.YtgdadbmhdljcdaaDoor
set_option linter.unusedVariables false
open Go.RowKit Go.Proofs.Bell Go.BigFrame

set_option maxRecDepth 100000 in
set_option maxHeartbeats 3200000 in
theorem lawModelText_h (w : World) (zv0 wv0 bv0 : Value) (zs0 : List Int) (ws0 : List (List Int)) (bs0 : List Int) (hz0 : Rd w zv0 zs0.length (ints zs0)) (hw0 : RdSS w wv0 ws0) (hb0 : Rd w bv0 bs0.length (ints bs0)) (t0 : ByteArray)
    (hs : ∀ w' uz0 uw0 ub0, Below w.heap.size w w' → Rd w' uz0 zs0.length (ints zs0) → RdSS w' uw0 ws0 → Rd w' ub0 bs0.length (ints bs0) → Calls Tryd.prog 29 #[.agg #[uz0, uw0, ub0]] w' (RetB (.string t0) w'))
    (hi : ∀ w' uz0 uw0 ub0, Below w.heap.size w w' → Rd w' uz0 zs0.length (ints zs0) → RdSS w' uw0 ws0 → Rd w' ub0 bs0.length (ints bs0) → Calls Tryd.prog 31 #[.agg #[uz0, uw0, ub0]] w' (RetB (.string t0) w')) :
    Calls Tryd.prog 7 #[.agg #[zv0, wv0, bv0]] w (RetB (.bool true) w) := by
  by_cases hl0 : ((zs0.length : Int) + SzSS ws0 + bs0.length) ≤ 1048576
  · skip
    have hz0' := fun w' (hb : Below w.heap.size w w') => szModel_c zv0 wv0 bv0 zs0 ws0 bs0 (1048576) w' (hz0.later hb) (hw0.later hb) (hb0.later hb) (by omega) (by omega)
    rw [leftM_pos (by omega)] at hz0'
    have HZ0 := Lib.hid hz0'; clear hz0'
    have ht0 := fun w' (hb : Below w.heap.size w w') => toModel_c zv0 wv0 bv0 zs0 ws0 bs0 w' (hz0.later hb) (hw0.later hb) (hb0.later hb) (by omega) (by omega) (by omega)
    have he0 := fun w' xa xb xc ya yb yc (h1 : Rd w' xa zs0.length (ints zs0)) (h2 : RdSS w' xb ws0) (h3 : Rd w' xc bs0.length (ints bs0)) (h4 : Rd w' ya zs0.length (ints zs0)) (h5 : RdSS w' yb ws0) (h6 : Rd w' yc bs0.length (ints bs0)) => eqModel_c xa xb xc ya yb yc zs0 ws0 bs0 w' h1 h2 h3 h4 h5 h6
    have HAZ0 := Lib.hid hz0; clear hz0
    have HAW0 := Lib.hid hw0; clear hw0
    have HAB0 := Lib.hid hb0; clear hb0
    have HE0 := Lib.hid he0; clear he0
    have HT0 := Lib.hid ht0; clear ht0
    have HS := Lib.hid hs; clear hs
    have HI := Lib.hid hi; clear hi
    go_enter Tryd.func7, Tryd.ntmps7
    have b0 : Below w.heap.size w w := Below.refl _ _
    have z0 : w.heap.size ≤ w.heap.size := Nat.le_refl _
    go_wp2_with fail
    refine (HZ0.out _ (by go_grown)).mono ?_
    rintro _ w1 ⟨rfl, r1⟩
    have s1 : Below w.heap.size w w1 := Below.trans (by go_grown) (r1.mono (by simp; try omega))
    have y1 := s1.size
    have v1 : w.heap.size + 1 ≤ w1.heap.size := by have := r1.size; simp only [World.size_alloc] at this; omega
    have b1 := b0.trans (s1.mono z0)
    have z1 := b1.size
    have c0_0_1 := below_cell r1 (p := ⟨w.heap.size, 0, none⟩) (v := zv0) (by simp [go_sem])
    have c0_1_1 := below_cell r1 (p := ⟨w.heap.size, 1, none⟩) (v := wv0) (by simp [go_sem])
    have c0_2_1 := below_cell r1 (p := ⟨w.heap.size, 2, none⟩) (v := bv0) (by simp [go_sem])
    clear r1
    go_wp2_with fail
    refine (HT0.out _ b1).mono ?_
    rintro _ w2 ⟨xa1, xb1, xc1, us1, rfl, nm_1, r2⟩
    have s2 := r2
    have y2 := s2.size
    have b2 := b1.trans (s2.mono z1)
    have z2 := b2.size
    have c0_0_2 := below_cell s2 c0_0_1
    clear c0_0_1
    have c0_1_2 := below_cell s2 c0_1_1
    clear c0_1_1
    have c0_2_2 := below_cell s2 c0_2_1
    clear c0_2_1
    obtain ⟨az1, pz1, rfl⟩ := own_shape nm_1.z
    obtain ⟨aw1, pw1, rfl⟩ := own_shape nm_1.s.row
    obtain ⟨ab1, pb1, rfl⟩ := own_shape nm_1.b
    have om1 : OwnM w1.heap.size w2.heap.size w2 (.slice az1 zs0.length pz1) (.slice aw1 ws0.length pw1) (.slice ab1 bs0.length pb1) us1 zs0 ws0 bs0 := nm_1.wide (by first | exact Nat.le_refl _ | (simp; done) | (simp; omega)) (Nat.le_refl _)
    clear nm_1
    have OM1_2 := Lib.hid om1; clear om1
    go_wp2_with fail
    refine (HS.out _ _ _ _ b2 (Rd.of_own OM1_2.out.z) (OM1_2.out.s.rd) (Rd.of_own OM1_2.out.b)).mono ?_
    rintro _ w3 ⟨rfl, r3⟩
    have s3 := r3
    have y3 := s3.size
    have b3 := b2.trans (s3.mono z2)
    have z3 := b3.size
    have c0_0_3 := below_cell s3 c0_0_2
    clear c0_0_2
    have c0_1_3 := below_cell s3 c0_1_2
    clear c0_1_2
    have c0_2_3 := below_cell s3 c0_2_2
    clear c0_2_2
    have o1_3 := OM1_2.out.later s3
    have O1_3 := Lib.hid o1_3; clear o1_3
    go_wp2_with fail
    refine (HT0.out _ b3).mono ?_
    rintro _ w4 ⟨xa2, xb2, xc2, us2, rfl, nm_2, r4⟩
    have s4 := r4
    have y4 := s4.size
    have b4 := b3.trans (s4.mono z3)
    have z4 := b4.size
    have c0_0_4 := below_cell s4 c0_0_3
    clear c0_0_3
    have c0_1_4 := below_cell s4 c0_1_3
    clear c0_1_3
    have c0_2_4 := below_cell s4 c0_2_3
    clear c0_2_3
    have o1_4 := O1_3.out.later s4
    have O1_4 := Lib.hid o1_4; clear o1_4
    obtain ⟨az2, pz2, rfl⟩ := own_shape nm_2.z
    obtain ⟨aw2, pw2, rfl⟩ := own_shape nm_2.s.row
    obtain ⟨ab2, pb2, rfl⟩ := own_shape nm_2.b
    have om2 : OwnM w3.heap.size w4.heap.size w4 (.slice az2 zs0.length pz2) (.slice aw2 ws0.length pw2) (.slice ab2 bs0.length pb2) us2 zs0 ws0 bs0 := nm_2.wide (by first | exact Nat.le_refl _ | (simp; done) | (simp; omega)) (Nat.le_refl _)
    clear nm_2
    have OM2_4 := Lib.hid om2; clear om2
    go_wp2_with fail
    refine (HI.out _ _ _ _ (by go_grown) ((Rd.of_own OM2_4.out.z).later (by go_grown)) ((OM2_4.out.s.rd).later (by go_grown)) ((Rd.of_own OM2_4.out.b).later (by go_grown))).mono ?_
    rintro _ w5 ⟨rfl, r5⟩
    have s5 : Below w4.heap.size w4 w5 := Below.trans (by go_grown) (r5.mono (by simp; try omega))
    have y5 := s5.size
    have v5 : w4.heap.size + 1 ≤ w5.heap.size := by have := r5.size; simp only [World.size_alloc] at this; omega
    have b5 := b4.trans (s5.mono z4)
    have z5 := b5.size
    have c0_0_5 := below_cell s5 c0_0_4
    clear c0_0_4
    have c0_1_5 := below_cell s5 c0_1_4
    clear c0_1_4
    have c0_2_5 := below_cell s5 c0_2_4
    clear c0_2_4
    have c1_0_5 := below_cell r5 (p := ⟨w4.heap.size, 0, none⟩) (v := .slice az2 zs0.length pz2) (by simp [go_sem])
    have c1_1_5 := below_cell r5 (p := ⟨w4.heap.size, 1, none⟩) (v := .slice aw2 ws0.length pw2) (by simp [go_sem])
    have c1_2_5 := below_cell r5 (p := ⟨w4.heap.size, 2, none⟩) (v := .slice ab2 bs0.length pb2) (by simp [go_sem])
    have o1_5 := O1_4.out.later s5
    have O1_5 := Lib.hid o1_5; clear o1_5
    have o2_5 := OM2_4.out.later s5
    have O2_5 := Lib.hid o2_5; clear o2_5
    clear r5
    go_wp2_with fail
    have ht5 : ∀ w', Below w5.heap.size w5 w' → Calls Tryd.prog 30 #[.agg #[zv0, wv0, bv0]] w' (fun e w'' => ∃ ua ub uc, e = .returned (.agg #[ua, ub, uc]) ∧ ((Rd w'' ua zs0.length (ints zs0) ∧ RdSS w'' ub ws0 ∧ Rd w'' uc bs0.length (ints bs0)) ∧ Below w5.heap.size w5 w'')) := fun w' hb => (HT0.out w' (b5.trans (hb.mono z5))).mono fun _ _ ⟨va, vb, vc, us, e, o, b⟩ => ⟨va, vb, vc, e, ⟨Rd.of_own o.z, o.s.rd, Rd.of_own o.b⟩, hb.trans (b.mono hb.size)⟩
    have he5 : ∀ w' ua ub uc, (Rd w' ua zs0.length (ints zs0) ∧ RdSS w' ub ws0 ∧ Rd w' uc bs0.length (ints bs0)) ∧ Below w5.heap.size w5 w' → Calls Tryd.prog 12 #[.agg #[.slice az2 zs0.length pz2, .slice aw2 ws0.length pw2, .slice ab2 bs0.length pb2], .agg #[ua, ub, uc]] w' (fun e w'' => e = .returned (.bool true) ∧ Below w5.heap.size w5 w'') := fun w' va vb vc ⟨o, hb⟩ => (HE0.out w' _ _ _ _ _ _ (Rd.of_own (O2_5.out.later hb).z) (O2_5.out.later hb).s.rd (Rd.of_own (O2_5.out.later hb).b) o.1 o.2.1 o.2.2).mono fun _ _ ⟨e, b⟩ => ⟨e, hb.trans (b.mono hb.size)⟩
    have HT5 := Lib.hid ht5; clear ht5
    have HE5 := Lib.hid he5; clear he5
    go_region_held3 (fun w' => w'.cell? ⟨w.heap.size, 0, none⟩ = some (zv0) ∧ w'.cell? ⟨w.heap.size, 1, none⟩ = some (wv0) ∧ w'.cell? ⟨w.heap.size, 2, none⟩ = some (bv0) ∧ w'.cell? ⟨w4.heap.size, 0, none⟩ = some (.slice az2 zs0.length pz2) ∧ w'.cell? ⟨w4.heap.size, 1, none⟩ = some (.slice aw2 ws0.length pw2) ∧ w'.cell? ⟨w4.heap.size, 2, none⟩ = some (.slice ab2 bs0.length pb2)) (first | exact ⟨c0_0_5, c0_1_5, c0_2_5, c1_0_5, c1_1_5, c1_2_5⟩ | exact ⟨below_cell O6.out.2 c0_0_5, below_cell O6.out.2 c0_1_5, below_cell O6.out.2 c0_2_5, below_cell O6.out.2 c1_0_5, below_cell O6.out.2 c1_1_5, below_cell O6.out.2 c1_2_5⟩ | exact ⟨below_cell s6 c0_0_5, below_cell s6 c0_1_5, below_cell s6 c0_2_5, below_cell s6 c1_0_5, below_cell s6 c1_1_5, below_cell s6 c1_2_5⟩ | go_keep) (first | (go_at_call 30; refine (HT5.out _ (by go_grown)).mono ?_; rintro _ ww6 ⟨va6, vb6, vc6, rfl, o6⟩; have O6 := Lib.hid o6; clear o6) | (go_at_call 12; refine (HE5.out _ _ _ _ (by assumption)).mono ?_; rintro _ w6 ⟨rfl, s6⟩))
    clear HT5 HE5
    have y6 := s6.size
    have b6 := b5.trans (s6.mono z5)
    have z6 := b6.size
    have c0_0_6 := below_cell s6 c0_0_5
    clear c0_0_5
    have c0_1_6 := below_cell s6 c0_1_5
    clear c0_1_5
    have c0_2_6 := below_cell s6 c0_2_5
    clear c0_2_5
    have c1_0_6 := below_cell s6 c1_0_5
    clear c1_0_5
    have c1_1_6 := below_cell s6 c1_1_5
    clear c1_1_5
    have c1_2_6 := below_cell s6 c1_2_5
    clear c1_2_5
    have o1_6 := O1_5.out.later s6
    have O1_6 := Lib.hid o1_6; clear o1_6
    have o2_6 := O2_5.out.later s6
    have O2_6 := Lib.hid o2_6; clear o2_6
    go_wp2
    go_returns
    exact RetB.mk rfl b6
  · skip
    have hz0' := fun w' (hb : Below w.heap.size w w') => szModel_c zv0 wv0 bv0 zs0 ws0 bs0 (1048576) w' (hz0.later hb) (hw0.later hb) (hb0.later hb) (by omega) (by omega)
    rw [leftM_neg (by omega)] at hz0'
    have HZ0 := Lib.hid hz0'; clear hz0'
    have HS := Lib.hid hs; clear hs
    have HI := Lib.hid hi; clear hi
    go_enter Tryd.func7, Tryd.ntmps7
    have b0 : Below w.heap.size w w := Below.refl _ _
    have z0 : w.heap.size ≤ w.heap.size := Nat.le_refl _
    go_wp2_with fail
    refine (HZ0.out _ (by go_grown)).mono ?_
    rintro _ w1 ⟨rfl, r1⟩
    have s1 : Below w.heap.size w w1 := Below.trans (by go_grown) (r1.mono (by simp; try omega))
    have y1 := s1.size
    have v1 : w.heap.size + 1 ≤ w1.heap.size := by have := r1.size; simp only [World.size_alloc] at this; omega
    have b1 := b0.trans (s1.mono z0)
    have z1 := b1.size
    have c0_0_1 := below_cell r1 (p := ⟨w.heap.size, 0, none⟩) (v := zv0) (by simp [go_sem])
    have c0_1_1 := below_cell r1 (p := ⟨w.heap.size, 1, none⟩) (v := wv0) (by simp [go_sem])
    have c0_2_1 := below_cell r1 (p := ⟨w.heap.size, 2, none⟩) (v := bv0) (by simp [go_sem])
    clear r1
    go_wp2
    go_returns
    exact RetB.mk rfl b1

theorem lawModelText_c (w : World) (htab : Tab w) (zv0 wv0 bv0 : Value) (zs0 : List Int) (ws0 : List (List Int)) (bs0 : List Int) (hz0 : Rd w zv0 zs0.length (ints zs0)) (hw0 : RdSS w wv0 ws0) (hb0 : Rd w bv0 bs0.length (ints bs0)) (w0 : (∀ z ∈ zs0, I64 z) ∧ (∀ x ∈ ws0, ∀ z ∈ x, I64 z) ∧ ∀ z ∈ bs0, I64 z) :
    Calls Tryd.prog 7 #[.agg #[zv0, wv0, bv0]] w (RetB (.bool true) w) :=
  lawModelText_h w zv0 wv0 bv0 zs0 ws0 bs0 hz0 hw0 hb0 (modTI zs0 ws0 bs0) (fun w' ua ub uc _ h1 h2 h3 => specModelText_c ua ub uc zs0 ws0 bs0 w' h1 h2 h3) (fun w' ua ub uc b h1 h2 h3 => implModelText_c ua ub uc zs0 ws0 bs0 w' h1 h2 h3 (htab.later b))

end Go.Proofs.YtgdadbmhdljcdaaDoor
