/- One ring: area and volume, the program's and the reference's. -/
import Derived.Test.YtpefhgkfgbigbaaRing
import Derived.Test.YtpefhgkfgbigbaaMem
import Derived.Lib.Hide
namespace Go.Proofs.Ytpefhgkfgbigbaa
set_option linter.unusedVariables false
open Go.RowKit Go.Proofs.Bell Go.BigFrame

theorem sq_le {a A : Int} (ha : 0 ≤ a) (h : a ≤ A) : 0 ≤ a * a ∧ a * a ≤ A * A := mul_le_of ha ha h h

def secI (o i : Int) : Int := o * o - i * i
theorem secI_bd {o i h : Int} (hh : ringB o i h = true) : 0 ≤ secI o i ∧ secI o i ≤ 22500000000 ∧ 0 ≤ o * o ∧ o * o ≤ 22500000000 ∧ 0 ≤ i * i ∧ i * i ≤ 22500000000 := by
  obtain ⟨h1, h2, h3, h4, h5, h6⟩ := ringB_t hh
  have a := sq_le (a := o) (A := 150000) (by omega) h2
  have b := sq_le (a := i) (A := 150000) h3 (by omega)
  have c : i * i ≤ o * o := Int.mul_le_mul (by omega) (by omega) h3 (by omega)
  unfold secI
  omega

theorem rnd_nonneg {a b : Int} (ha : 0 ≤ a) (hb : 1 ≤ b) : 0 ≤ rnd a b := by
  unfold rnd; rw [if_neg (by omega)]; exact Int.ediv_nonneg (by omega) (by omega)
/-- a quotient of a bounded number -/
theorem rnd_le {a b q : Int} (ha : 0 ≤ a) (hb : 1 ≤ b) (h : 2 * a + b < 2 * b * (q + 1)) : rnd a b ≤ q := by
  unfold rnd; rw [if_neg (by omega)]
  exact Int.lt_add_one_iff.mp (Int.ediv_lt_of_lt_mul (by omega) (by rw [show (q + 1) * (2 * b) = 2 * b * (q + 1) from Int.mul_comm _ _]; exact h))

def tubeI (sq h : Int) : Int := rnd (rnd (sq * h) 1000000 * 3141593) 1000000
theorem tube_bd {sq h : Int} (h1 : 0 ≤ sq) (h2 : sq ≤ 22500000000) (h3 : 0 ≤ h) (h4 : h ≤ 300000) :
    0 ≤ sq * h ∧ sq * h ≤ 6750000000000000 ∧ 0 ≤ rnd (sq * h) 1000000 ∧ rnd (sq * h) 1000000 ≤ 6750000000 ∧ 0 ≤ tubeI sq h ∧ tubeI sq h ≤ 21205752750 := by
  have a := mul_le_of h1 h3 h2 h4
  have b := rnd_nonneg (a := sq * h) (b := 1000000) a.1 (by omega)
  have c := rnd_le (a := sq * h) (b := 1000000) (q := 6750000000) a.1 (by omega) (by omega)
  have d := rnd_nonneg (a := rnd (sq * h) 1000000 * 3141593) (b := 1000000) (by omega) (by omega)
  have e := rnd_le (a := rnd (sq * h) 1000000 * 3141593) (b := 1000000) (q := 21205752750) (by omega) (by omega) (by omega)
  unfold tubeI
  omega

theorem l06Tube_c (sq h : Int) (w : World) (h1 : 0 ≤ sq) (h2 : sq ≤ 22500000000) (h3 : 0 ≤ h) (h4 : h ≤ 300000) :
    Calls Try.prog 62 #[.int .i64 sq, .int .i64 h] w (RetS (.int .i64 (tubeI sq h)) w) := by
  obtain ⟨a1, a2, a3, a4, _, _⟩ := tube_bd h1 h2 h3 h4
  go_enter Try.func62, Try.ntmps62
  go_wp2_with (go_at_call 37; refine (l01Div_c _ _ _ (by omega) (by omega) (by omega) (by omega)).mono ?_; rintro _ _ ⟨rfl, rfl⟩)
  go_returns
  exact RetS.mk rfl

theorem volume_c (sq h : Int) (w : World) (h1 : 0 ≤ sq) (h2 : sq ≤ 22500000000) (h3 : 0 ≤ h) (h4 : h ≤ 300000) :
    Calls Try.prog 63 #[.int .i64 sq, .int .i64 h] w (RetD (.int .i64 (tubeI sq h)) w) := by
  obtain ⟨a1, a2, a3, a4, _, _⟩ := tube_bd h1 h2 h3 h4
  go_enter Try.func63, Try.ntmps63
  go_wp2_with (go_at_call 40; refine (nearest_c _ _ _ (by omega) (by omega) (by omega) (by omega)).mono ?_; rintro _ _ ⟨rfl, _, rfl⟩)
  go_returns
  exact RetD.mk rfl ⟨_, rfl⟩

theorem section_c (o i h : Int) (w : World) (hh : ringB o i h = true) : Calls Try.prog 43 #[.agg #[.int .i64 o, .int .i64 i, .int .i64 h]] w (RetB (.int .i64 (secI o i)) w) := by
  have hb := secI_bd hh
  unfold secI at hb
  obtain ⟨h1, h2, h3, h4, h5, h6⟩ := hb
  go_enter Try.func43, Try.ntmps43
  go_wp2
  go_returns
  refine RetB.mk rfl ?_
  go_grown

set_option maxHeartbeats 400000 in
theorem ringVolume_c (o i h : Int) (w : World) (hh : ringB o i h = true) : Calls Try.prog 45 #[.agg #[.int .i64 o, .int .i64 i, .int .i64 h]] w (RetB (.int .i64 (tubeI (secI o i) h)) w) := by
  obtain ⟨h1, h2, _⟩ := secI_bd hh
  obtain ⟨g1, g2, g3, g4, g5, g6⟩ := ringB_t hh
  have HH := Lib.hid hh; clear hh
  go_enter Try.func45, Try.ntmps45
  go_wp2_with fail
  have hc0 : ∀ s : Lat (w.alloc (Obj.cells #[.int .i64 o, .int .i64 i, .int .i64 h] 38)), s.world.cell? ⟨w.heap.size, 0, none⟩ = some (.int .i64 o) := fun s => s.cell (by simp)
  have hc1 : ∀ s : Lat (w.alloc (Obj.cells #[.int .i64 o, .int .i64 i, .int .i64 h] 38)), s.world.cell? ⟨w.heap.size, 1, none⟩ = some (.int .i64 i) := fun s => s.cell (by simp)
  have hc2 : ∀ s : Lat (w.alloc (Obj.cells #[.int .i64 o, .int .i64 i, .int .i64 h] 38)), s.world.cell? ⟨w.heap.size, 2, none⟩ = some (.int .i64 h) := fun s => s.cell (by simp)
  refine wp_region_lat (by kernel_rfl) (by kernel_rfl) ?_
  repeat (go_big_quiet_step (first | (go_at_call 43; exact Lat.callB (section_c _ _ _ _ HH.out)) | (go_at_call 63; exact Lat.callD (volume_c _ _ _ h1 h2 (by omega) (by omega)))))
  refine wpQuiet_nil ?_
  rintro _ ⟨s, rfl⟩
  clear hc0 hc1 hc2
  go_wp2
  go_returns
  exact RetB.mk rfl (((Below.refl _ _).alloc (Nat.le_refl _) _).trans (s.below.mono (by simp)))

set_option maxHeartbeats 800000 in
theorem l06Ring_c (o i h : Int) (b off : Nat) (w : World) (hh : ringB o i h = true) (h0 : w.cell? ⟨b, off, none⟩ = some (.int .i64 o)) (h1 : w.cell? ⟨b, off + 1, none⟩ = some (.int .i64 i)) (h2 : w.cell? ⟨b, off + 2, none⟩ = some (.int .i64 h)) :
    Calls Try.prog 44 #[.pointer (some ⟨b, off, none⟩)] w (RetD (.int .i64 (tubeI (secI o i) h)) w) := by
  have hb := secI_bd hh
  obtain ⟨q1, q2, q3, q4, q5, q6⟩ := hb
  obtain ⟨g1, g2, g3, g4, g5, g6⟩ := ringB_t hh
  have k1 := q1
  have k2 := q2
  unfold secI at k1 k2
  have HH := Lib.hid hh; clear hh
  have s1 : IntKind.i64.wrap (o * o) = o * o := IntWalk.i64_in _ (by omega)
  have s2 : IntKind.i64.wrap (i * i) = i * i := IntWalk.i64_in _ (by omega)
  have s3 : IntKind.i64.wrap (o * o - i * i) = o * o - i * i := IntWalk.i64_in _ (by omega)
  go_enter Try.func44, Try.ntmps44
  go_wp2_with fail
  go_quiet ((go_at_call 62; exact quietS (l06Tube_c _ _ _ k1 k2 (by omega) (by omega))))
  clear s1 s2 s3
  go_wp2
  go_returns
  exact RetD.mk rfl ⟨_, rfl⟩

def areaI (o i h : Int) : Int × Int := if ringB o i h then (rnd (secI o i * 3141593) 10000000000, 0) else (0, 1)
def rvolI (o i h : Int) : Int × Int := if ringB o i h then (tubeI (secI o i) h, 0) else (0, 1)

theorem area_bd {o i h : Int} (hh : ringB o i h = true) : 0 ≤ secI o i * 3141593 ∧ secI o i * 3141593 ≤ 4000000000000000000 := by
  have := secI_bd hh; omega

theorem implAreaOf_c (o i h : Int) (w : World) : Calls Try.prog 17 #[.agg #[.int .i64 o, .int .i64 i, .int .i64 h]] w (RetB (.tuple #[.int .i64 (areaI o i h).1, .int .i64 (areaI o i h).2]) w) := by
  cases hh : ringB o i h
  · go_enter Try.func17, Try.ntmps17
    go_wp2_with (go_at_call 42; refine (ValidRing_c _ _ _ _).mono ?_; rintro _ w1 ⟨rfl, hb1⟩)
    go_returns
    exact RetB.mk (ints_eq (by simp [areaI, hh]) (by simp [areaI, hh])) (((Below.refl _ _).alloc (Nat.le_refl _) _).trans (hb1.mono (by simp)))
  · obtain ⟨a1, a2⟩ := area_bd hh
    have HH := Lib.hid hh
    go_enter Try.func17, Try.ntmps17
    go_wp2_with (first | (go_at_call 42; refine (ValidRing_c _ _ _ _).mono ?_; rintro _ w1 ⟨rfl, hb1⟩; have hc0 := below_cell hb1 (p := ⟨w.heap.size, 0, none⟩) (v := .int .i64 o) (by simp); have hc1 := below_cell hb1 (p := ⟨w.heap.size, 1, none⟩) (v := .int .i64 i) (by simp); have hc2 := below_cell hb1 (p := ⟨w.heap.size, 2, none⟩) (v := .int .i64 h) (by simp)) | (go_at_call 43; refine (section_c _ _ _ _ HH.out).mono ?_; rintro _ w2 ⟨rfl, hb2⟩) | (go_at_call 40; refine (nearest_c _ _ _ (by omega) (by omega) (by omega) (by omega)).mono ?_; rintro _ _ ⟨rfl, _, rfl⟩))
    go_returns
    have b1 := ((Below.refl w.heap.size w).alloc (Nat.le_refl _) _).trans (hb1.mono (by simp))
    exact RetB.mk (ints_eq (by simp [areaI, hh]) (by simp [areaI, hh])) (below_drewN (b1.trans (hb2.mono b1.size)) _)

theorem implRingVolume_c (o i h : Int) (w : World) : Calls Try.prog 19 #[.agg #[.int .i64 o, .int .i64 i, .int .i64 h]] w (RetB (.tuple #[.int .i64 (rvolI o i h).1, .int .i64 (rvolI o i h).2]) w) := by
  cases hh : ringB o i h
  · go_enter Try.func19, Try.ntmps19
    go_wp2_with (go_at_call 42; refine (ValidRing_c _ _ _ _).mono ?_; rintro _ w1 ⟨rfl, hb1⟩)
    go_returns
    exact RetB.mk (ints_eq (by simp [rvolI, hh]) (by simp [rvolI, hh])) (((Below.refl _ _).alloc (Nat.le_refl _) _).trans (hb1.mono (by simp)))
  · have HH := Lib.hid hh
    go_enter Try.func19, Try.ntmps19
    go_wp2_with (first | (go_at_call 42; refine (ValidRing_c _ _ _ _).mono ?_; rintro _ w1 ⟨rfl, hb1⟩; have hc0 := below_cell hb1 (p := ⟨w.heap.size, 0, none⟩) (v := .int .i64 o) (by simp); have hc1 := below_cell hb1 (p := ⟨w.heap.size, 1, none⟩) (v := .int .i64 i) (by simp); have hc2 := below_cell hb1 (p := ⟨w.heap.size, 2, none⟩) (v := .int .i64 h) (by simp)) | (go_at_call 45; refine (ringVolume_c _ _ _ _ HH.out).mono ?_; rintro _ w2 ⟨rfl, hb2⟩))
    go_returns
    have b1 := ((Below.refl w.heap.size w).alloc (Nat.le_refl _) _).trans (hb1.mono (by simp))
    exact RetB.mk (ints_eq (by simp [rvolI, hh]) (by simp [rvolI, hh])) (b1.trans (hb2.mono b1.size))

theorem specValidRing_c (o i h : Int) (w : World) : Calls Try.prog 41 #[.agg #[.int .i64 o, .int .i64 i, .int .i64 h]] w (RetB (.bool (ringB o i h)) w) := by
  go_enter Try.func41, Try.ntmps41
  go_wp2_with (go_at_call 61; refine (l05Ring_c o i h _ _ _ (by simp) (by simp) (by simp)).mono ?_; rintro _ _ ⟨rfl, _, rfl⟩)
  go_returns
  exact RetB.mk rfl (below_drewN ((Below.refl w.heap.size w).alloc (Nat.le_refl _) _) _)

theorem specAreaOf_c (o i h : Int) (w : World) : Calls Try.prog 15 #[.agg #[.int .i64 o, .int .i64 i, .int .i64 h]] w (RetB (.tuple #[.int .i64 (areaI o i h).1, .int .i64 (areaI o i h).2]) w) := by
  cases hh : ringB o i h
  · go_enter Try.func15, Try.ntmps15
    go_wp2_with (go_at_call 41; refine (specValidRing_c _ _ _ _).mono ?_; rintro _ w1 ⟨rfl, hb1⟩)
    go_returns
    exact RetB.mk (ints_eq (by simp [areaI, hh]) (by simp [areaI, hh])) (((Below.refl _ _).alloc (Nat.le_refl _) _).trans (hb1.mono (by simp)))
  · obtain ⟨a1, a2⟩ := area_bd hh
    obtain ⟨q1, q2, q3, q4, q5, q6⟩ := secI_bd hh
    unfold secI at a1 a2 q1 q2
    have HH := Lib.hid hh
    go_enter Try.func15, Try.ntmps15
    go_wp2_with (first | (go_at_call 41; refine (specValidRing_c _ _ _ _).mono ?_; rintro _ w1 ⟨rfl, hb1⟩; have hc0 := below_cell hb1 (p := ⟨w.heap.size, 0, none⟩) (v := .int .i64 o) (by simp); have hc1 := below_cell hb1 (p := ⟨w.heap.size, 1, none⟩) (v := .int .i64 i) (by simp); have hc2 := below_cell hb1 (p := ⟨w.heap.size, 2, none⟩) (v := .int .i64 h) (by simp)) | (go_at_call 37; refine (l01Div_c _ _ _ (by omega) (by omega) (by omega) (by omega)).mono ?_; rintro _ _ ⟨rfl, rfl⟩))
    go_returns
    have b1 := ((Below.refl w.heap.size w).alloc (Nat.le_refl _) _).trans (hb1.mono (by simp))
    exact RetB.mk (ints_eq (by simp [areaI, secI, hh]) (by simp [areaI, hh])) b1

theorem specRingVolume_c (o i h : Int) (w : World) : Calls Try.prog 18 #[.agg #[.int .i64 o, .int .i64 i, .int .i64 h]] w (RetB (.tuple #[.int .i64 (rvolI o i h).1, .int .i64 (rvolI o i h).2]) w) := by
  cases hh : ringB o i h
  · go_enter Try.func18, Try.ntmps18
    go_wp2_with (go_at_call 41; refine (specValidRing_c _ _ _ _).mono ?_; rintro _ w1 ⟨rfl, hb1⟩)
    go_returns
    exact RetB.mk (ints_eq (by simp [rvolI, hh]) (by simp [rvolI, hh])) (((Below.refl _ _).alloc (Nat.le_refl _) _).trans (hb1.mono (by simp)))
  · have HH := Lib.hid hh
    go_enter Try.func18, Try.ntmps18
    go_wp2_with (first | (go_at_call 41; refine (specValidRing_c _ _ _ _).mono ?_; rintro _ w1 ⟨rfl, hb1⟩; have hc0 := below_cell hb1 (p := ⟨w.heap.size, 0, none⟩) (v := .int .i64 o) (by simp); have hc1 := below_cell hb1 (p := ⟨w.heap.size, 1, none⟩) (v := .int .i64 i) (by simp); have hc2 := below_cell hb1 (p := ⟨w.heap.size, 2, none⟩) (v := .int .i64 h) (by simp)) | (go_at_call 44; refine (l06Ring_c o i h _ _ _ HH.out hc0 hc1 hc2).mono ?_; rintro _ _ ⟨rfl, _, rfl⟩))
    go_returns
    have b1 := ((Below.refl w.heap.size w).alloc (Nat.le_refl _) _).trans (hb1.mono (by simp))
    exact RetB.mk (ints_eq (by simp [rvolI, hh]) (by simp [rvolI, hh])) (below_drewN b1 _)

theorem lawAreaOf_c (w : World) (o i h : Int) : Calls Try.prog 5 #[.agg #[.int .i64 o, .int .i64 i, .int .i64 h]] w (RetB (.bool true) w) := by
  go_enter Try.func5, Try.ntmps5
  go_wp2_with fail
  refine (toRing_c _ _ _ _).mono ?_
  rintro _ w1 ⟨rfl, hb1⟩
  have b1 := ((Below.refl w.heap.size w).alloc (Nat.le_refl _) _).trans (hb1.mono (by simp))
  have hc0 := below_cell hb1 (p := ⟨w.heap.size, 0, none⟩) (v := .int .i64 o) (by simp)
  have hc1 := below_cell hb1 (p := ⟨w.heap.size, 1, none⟩) (v := .int .i64 i) (by simp)
  have hc2 := below_cell hb1 (p := ⟨w.heap.size, 2, none⟩) (v := .int .i64 h) (by simp)
  go_wp2_with fail
  refine (specAreaOf_c _ _ _ _).mono ?_
  rintro _ w2 ⟨rfl, hb2⟩
  have b2 := b1.trans (hb2.mono b1.size)
  have hd0 := below_cell hb2 hc0
  have hd1 := below_cell hb2 hc1
  have hd2 := below_cell hb2 hc2
  clear hc0 hc1 hc2
  go_wp2_with fail
  refine (toRing_c _ _ _ _).mono ?_
  rintro _ w3 ⟨rfl, hb3⟩
  have b3 := b2.trans (hb3.mono b2.size)
  go_wp2_with fail
  refine (implAreaOf_c _ _ _ _).mono ?_
  rintro _ w4 ⟨rfl, hb4⟩
  have b4 := b3.trans (hb4.mono b3.size)
  go_wp2
  go_returns
  exact RetB.mk rfl b4

theorem lawRingVolume_c (w : World) (o i h : Int) : Calls Try.prog 6 #[.agg #[.int .i64 o, .int .i64 i, .int .i64 h]] w (RetB (.bool true) w) := by
  go_enter Try.func6, Try.ntmps6
  go_wp2_with fail
  refine (toRing_c _ _ _ _).mono ?_
  rintro _ w1 ⟨rfl, hb1⟩
  have b1 := ((Below.refl w.heap.size w).alloc (Nat.le_refl _) _).trans (hb1.mono (by simp))
  have hc0 := below_cell hb1 (p := ⟨w.heap.size, 0, none⟩) (v := .int .i64 o) (by simp)
  have hc1 := below_cell hb1 (p := ⟨w.heap.size, 1, none⟩) (v := .int .i64 i) (by simp)
  have hc2 := below_cell hb1 (p := ⟨w.heap.size, 2, none⟩) (v := .int .i64 h) (by simp)
  go_wp2_with fail
  refine (specRingVolume_c _ _ _ _).mono ?_
  rintro _ w2 ⟨rfl, hb2⟩
  have b2 := b1.trans (hb2.mono b1.size)
  have hd0 := below_cell hb2 hc0
  have hd1 := below_cell hb2 hc1
  have hd2 := below_cell hb2 hc2
  clear hc0 hc1 hc2
  go_wp2_with fail
  refine (toRing_c _ _ _ _).mono ?_
  rintro _ w3 ⟨rfl, hb3⟩
  have b3 := b2.trans (hb3.mono b2.size)
  go_wp2_with fail
  refine (implRingVolume_c _ _ _ _).mono ?_
  rintro _ w4 ⟨rfl, hb4⟩
  have b4 := b3.trans (hb4.mono b3.size)
  go_wp2
  go_returns
  exact RetB.mk rfl b4

end Go.Proofs.Ytpefhgkfgbigbaa
