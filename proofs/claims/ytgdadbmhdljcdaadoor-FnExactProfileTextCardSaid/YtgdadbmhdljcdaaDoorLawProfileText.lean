/- The law of ProfileText, walked. -/
import Derived.Test.YtgdadbmhdljcdaaDoorGC
import Derived.Test.YtgdadbmhdljcdaaDoorTxtQ
namespace Go.Proofs.YtgdadbmhdljcdaaDoor
set_option linter.unusedVariables false
open Go.RowKit Go.Proofs.Bell Go.BigFrame

set_option maxRecDepth 100000 in
set_option maxHeartbeats 3200000 in
theorem lawProfileText_h (w : World) (nm0 : ByteArray) (sv0 : Value) (rs0 : List (Int × Int × Int)) (hnm0 : nm0.size ≤ maxLen) (h0 : Rd w sv0 rs0.length (trips rs0)) (t0 : ByteArray)
    (hs : ∀ w' u0, Below w.heap.size w w' → Rd w' u0 rs0.length (trips rs0) → Calls Tryd.prog 21 #[.agg #[.string nm0, u0]] w' (RetB (.string t0) w'))
    (hi : ∀ w' u0, Below w.heap.size w w' → Rd w' u0 rs0.length (trips rs0) → Calls Tryd.prog 23 #[.agg #[.string nm0, u0]] w' (RetB (.string t0) w')) :
    Calls Tryd.prog 5 #[.agg #[.string nm0, sv0]] w (RetB (.bool true) w) := by
  have hnm0' := hnm0
  unfold maxLen at hnm0'
  by_cases hl0 : ((nm0.size : Int) + rs0.length) ≤ 1048576
  · skip
    have hz0' := fun w' (hb : Below w.heap.size w w') => szProfile_c nm0 sv0 rs0.length (trips rs0) (1048576) w' hnm0 (h0.later hb) (by omega) (by omega)
    rw [leftP_pos (by omega)] at hz0'
    have HZ0 := Lib.hid hz0'; clear hz0'
    have ht0 := fun w' (hb : Below w.heap.size w w') => toProfile_c nm0 sv0 rs0 w' (h0.later hb) (by omega)
    have he0 := fun w' x y (h1 : Rd w' x rs0.length (trips rs0)) (h2 : Rd w' y rs0.length (trips rs0)) => eqProfile_c nm0 nm0 x y rs0 rs0 w' h1 h2
    rw [eqPr_refl] at he0
    clear h0
    have HE0 := Lib.hid he0; clear he0
    have HT0 := Lib.hid ht0; clear ht0
    have HS := Lib.hid hs; clear hs
    have HI := Lib.hid hi; clear hi
    go_enter Tryd.func5, Tryd.ntmps5
    have b0 : Below w.heap.size w w := Below.refl _ _
    have z0 : w.heap.size ≤ w.heap.size := Nat.le_refl _
    go_wp2_with fail
    refine (HZ0.out _ (by go_grown)).mono ?_
    rintro _ w1 ⟨rfl, r1⟩
    have s1 : Below w.heap.size w w1 := Below.trans (by go_grown) (r1.mono (by simp; try omega))
    have y1 := s1.size
    have v1 : w.heap.size + 1 ≤ w1.heap.size := by have := r1.size; simp only [World.size_alloc] at this; omega
    have b1 := b0.trans (s1.mono z0)
    have z1 := b1.size
    have c0_0_1 := below_cell r1 (p := ⟨w.heap.size, 0, none⟩) (v := .string nm0) (by simp [go_sem])
    have c0_1_1 := below_cell r1 (p := ⟨w.heap.size, 1, none⟩) (v := sv0) (by simp [go_sem])
    clear r1
    go_wp2_with fail
    refine (HT0.out _ b1).mono ?_
    rintro _ w2 ⟨x1, rfl, n1, r2⟩
    have s2 := r2
    have y2 := s2.size
    have b2 := b1.trans (s2.mono z1)
    have z2 := b2.size
    have c0_0_2 := below_cell s2 c0_0_1
    clear c0_0_1
    have c0_1_2 := below_cell s2 c0_1_1
    clear c0_1_1
    obtain ⟨ao1, cap1, g1, rfl, _, _⟩ := own_open n1
    have up1 := fun k hk => (World.ownsRow.lt n1 k hk).2
    have lo1 := fun k hk => (World.ownsRow.lt n1 k hk).1
    try simp only [World.size_alloc] at lo1
    have UP1 := Lib.hid up1; clear up1
    have LO1 := Lib.hid lo1; clear lo1
    have o1' := n1
    have O1_2 := Lib.hid o1'; clear o1'
    clear n1
    go_wp2_with fail
    refine (HS.out _ _ b2 (Rd.of_own O1_2.out)).mono ?_
    rintro _ w3 ⟨rfl, r3⟩
    have s3 := r3
    have y3 := s3.size
    have b3 := b2.trans (s3.mono z2)
    have z3 := b3.size
    have c0_0_3 := below_cell s3 c0_0_2
    clear c0_0_2
    have c0_1_3 := below_cell s3 c0_1_2
    clear c0_1_2
    have o1_3 := own_later O1_2.out s3
    have O1_3 := Lib.hid o1_3; clear o1_3
    go_wp2_with fail
    refine (HT0.out _ b3).mono ?_
    rintro _ w4 ⟨x2, rfl, n2, r4⟩
    have s4 := r4
    have y4 := s4.size
    have b4 := b3.trans (s4.mono z3)
    have z4 := b4.size
    have c0_0_4 := below_cell s4 c0_0_3
    clear c0_0_3
    have c0_1_4 := below_cell s4 c0_1_3
    clear c0_1_3
    have o1_4 := own_later O1_3.out s4
    have O1_4 := Lib.hid o1_4; clear o1_4
    obtain ⟨ao2, cap2, g2, rfl, _, _⟩ := own_open n2
    have up2 := fun k hk => (World.ownsRow.lt n2 k hk).2
    have lo2 := fun k hk => (World.ownsRow.lt n2 k hk).1
    try simp only [World.size_alloc] at lo2
    have UP2 := Lib.hid up2; clear up2
    have LO2 := Lib.hid lo2; clear lo2
    have o2' := n2
    have O2_4 := Lib.hid o2'; clear o2'
    clear n2
    go_wp2_with fail
    refine (HI.out _ _ (by go_grown) ((Rd.of_own O2_4.out).later (by go_grown))).mono ?_
    rintro _ w5 ⟨rfl, r5⟩
    have s5 : Below w4.heap.size w4 w5 := Below.trans (by go_grown) (r5.mono (by simp; try omega))
    have y5 := s5.size
    have v5 : w4.heap.size + 1 ≤ w5.heap.size := by have := r5.size; simp only [World.size_alloc] at this; omega
    have b5 := b4.trans (s5.mono z4)
    have z5 := b5.size
    have c0_0_5 := below_cell s5 c0_0_4
    clear c0_0_4
    have c0_1_5 := below_cell s5 c0_1_4
    clear c0_1_4
    have c1_0_5 := below_cell r5 (p := ⟨w4.heap.size, 0, none⟩) (v := .string nm0) (by simp [go_sem])
    have c1_1_5 := below_cell r5 (p := ⟨w4.heap.size, 1, none⟩) (v := .slice ao2 rs0.length cap2) (by simp [go_sem])
    have o1_5 := own_later O1_4.out s5
    have O1_5 := Lib.hid o1_5; clear o1_5
    have o2_5 := own_later O2_4.out s5
    have O2_5 := Lib.hid o2_5; clear o2_5
    clear r5
    go_wp2_with fail
    have ht5 : ∀ w', Below w5.heap.size w5 w' → Calls Tryd.prog 22 #[.agg #[.string nm0, sv0]] w' (fun e w'' => ∃ u, e = .returned (.agg #[.string nm0, u]) ∧ (OwnR w'.heap.size w'' u rs0 ∧ Below w5.heap.size w5 w'')) := fun w' hb => (HT0.out w' (b5.trans (hb.mono z5))).mono fun _ _ ⟨v, e, o, b⟩ => ⟨v, e, o, hb.trans (b.mono hb.size)⟩
    have he5 : ∀ B w' u, OwnR B w' u rs0 ∧ Below w5.heap.size w5 w' → Calls Tryd.prog 24 #[.agg #[.string nm0, .slice ao2 rs0.length cap2], .agg #[.string nm0, u]] w' (fun e w'' => e = .returned (.bool true) ∧ Below w5.heap.size w5 w'') := fun B w' v ⟨o, hb⟩ => (HE0.out w' _ _ (Rd.of_own (own_later O2_5.out hb)) (Rd.of_own o)).mono fun _ _ ⟨e, b⟩ => ⟨e, hb.trans (b.mono hb.size)⟩
    have HT5 := Lib.hid ht5; clear ht5
    have HE5 := Lib.hid he5; clear he5
    go_region_held3 (fun w' => w'.cell? ⟨w.heap.size, 0, none⟩ = some (.string nm0) ∧ w'.cell? ⟨w.heap.size, 1, none⟩ = some (sv0) ∧ w'.cell? ⟨w4.heap.size, 0, none⟩ = some (.string nm0) ∧ w'.cell? ⟨w4.heap.size, 1, none⟩ = some (.slice ao2 rs0.length cap2)) (first | exact ⟨c0_0_5, c0_1_5, c1_0_5, c1_1_5⟩ | exact ⟨below_cell O6.out.2 c0_0_5, below_cell O6.out.2 c0_1_5, below_cell O6.out.2 c1_0_5, below_cell O6.out.2 c1_1_5⟩ | exact ⟨below_cell s6 c0_0_5, below_cell s6 c0_1_5, below_cell s6 c1_0_5, below_cell s6 c1_1_5⟩ | go_keep) (first | (go_at_call 22; refine (HT5.out _ (by go_grown)).mono ?_; rintro _ ww6 ⟨vv6, rfl, o6⟩; have O6 := Lib.hid o6; clear o6) | (go_at_call 24; refine (HE5.out _ _ _ (by assumption)).mono ?_; rintro _ w6 ⟨rfl, s6⟩))
    clear HT5 HE5
    have y6 := s6.size
    have b6 := b5.trans (s6.mono z5)
    have z6 := b6.size
    have c0_0_6 := below_cell s6 c0_0_5
    clear c0_0_5
    have c0_1_6 := below_cell s6 c0_1_5
    clear c0_1_5
    have c1_0_6 := below_cell s6 c1_0_5
    clear c1_0_5
    have c1_1_6 := below_cell s6 c1_1_5
    clear c1_1_5
    have o1_6 := own_later O1_5.out s6
    have O1_6 := Lib.hid o1_6; clear o1_6
    have o2_6 := own_later O2_5.out s6
    have O2_6 := Lib.hid o2_6; clear o2_6
    go_wp2
    go_returns
    exact RetB.mk rfl b6
  · skip
    have hz0' := fun w' (hb : Below w.heap.size w w') => szProfile_c nm0 sv0 rs0.length (trips rs0) (1048576) w' hnm0 (h0.later hb) (by omega) (by omega)
    rw [leftP_neg (by omega)] at hz0'
    have HZ0 := Lib.hid hz0'; clear hz0'
    have HS := Lib.hid hs; clear hs
    have HI := Lib.hid hi; clear hi
    go_enter Tryd.func5, Tryd.ntmps5
    have b0 : Below w.heap.size w w := Below.refl _ _
    have z0 : w.heap.size ≤ w.heap.size := Nat.le_refl _
    go_wp2_with fail
    refine (HZ0.out _ (by go_grown)).mono ?_
    rintro _ w1 ⟨rfl, r1⟩
    have s1 : Below w.heap.size w w1 := Below.trans (by go_grown) (r1.mono (by simp; try omega))
    have y1 := s1.size
    have v1 : w.heap.size + 1 ≤ w1.heap.size := by have := r1.size; simp only [World.size_alloc] at this; omega
    have b1 := b0.trans (s1.mono z0)
    have z1 := b1.size
    have c0_0_1 := below_cell r1 (p := ⟨w.heap.size, 0, none⟩) (v := .string nm0) (by simp [go_sem])
    have c0_1_1 := below_cell r1 (p := ⟨w.heap.size, 1, none⟩) (v := sv0) (by simp [go_sem])
    clear r1
    go_wp2
    go_returns
    exact RetB.mk rfl b1

theorem lawProfileText_c (w : World) (htab : Tab w) (nm0 : ByteArray) (sv0 : Value) (rs0 : List (Int × Int × Int)) (hnm0 : nm0.size ≤ maxLen) (h0 : Rd w sv0 rs0.length (trips rs0)) (w0 : ∀ z ∈ rs0, I64 z.1 ∧ I64 z.2.1 ∧ I64 z.2.2) :
    Calls Tryd.prog 5 #[.agg #[.string nm0, sv0]] w (RetB (.bool true) w) :=
  lawProfileText_h w nm0 sv0 rs0 hnm0 h0 (profTI nm0 rs0) (fun w' u _ h => specProfileText_c nm0 u rs0 w' hnm0 h) (fun w' u b h => implProfileText_c nm0 u rs0 w' hnm0 h (htab.later b))

end Go.Proofs.YtgdadbmhdljcdaaDoor
