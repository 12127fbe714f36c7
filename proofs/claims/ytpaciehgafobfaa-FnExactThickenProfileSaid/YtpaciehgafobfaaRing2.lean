/- One ring: area and volume, the program's and the reference's. -/
import Derived.Test.YtpaciehgafobfaaRing
import Derived.Test.YtpaciehgafobfaaMem
import Derived.Lib.Hide
namespace Go.Proofs.Ytpaciehgafobfaa
set_option linter.unusedVariables false
open Go.RowKit Go.Proofs.Bell Go.BigFrame

theorem sq_le {a A : Int} (ha : 0 ≤ a) (h : a ≤ A) : 0 ≤ a * a ∧ a * a ≤ A * A := mul_le_of ha ha h h

def secI (o i : Int) : Int := o * o - i * i
theorem secI_bd {o i h : Int} (hh : ringB o i h = true) : 0 ≤ secI o i ∧ secI o i ≤ 22500000000 ∧ 0 ≤ o * o ∧ o * o ≤ 22500000000 ∧ 0 ≤ i * i ∧ i * i ≤ 22500000000 := by
  obtain ⟨h1, h2, h3, h4, h5, h6⟩ := ringB_t hh
  have a := sq_le (a := o) (A := 150000) (by omega) h2
  have b := sq_le (a := i) (A := 150000) h3 (by omega)
  have c : i * i ≤ o * o := Int.mul_le_mul (by omega) (by omega) h3 (by omega)
  unfold secI
  omega

theorem rnd_nonneg {a b : Int} (ha : 0 ≤ a) (hb : 1 ≤ b) : 0 ≤ rnd a b := by
  unfold rnd; rw [if_neg (by omega)]; exact Int.ediv_nonneg (by omega) (by omega)
/-- a quotient of a bounded number -/
theorem rnd_le {a b q : Int} (ha : 0 ≤ a) (hb : 1 ≤ b) (h : 2 * a + b < 2 * b * (q + 1)) : rnd a b ≤ q := by
  unfold rnd; rw [if_neg (by omega)]
  exact Int.lt_add_one_iff.mp (Int.ediv_lt_of_lt_mul (by omega) (by rw [show (q + 1) * (2 * b) = 2 * b * (q + 1) from Int.mul_comm _ _]; exact h))

def tubeI (sq h : Int) : Int := rnd (rnd (sq * h) 1000000 * 3141593) 1000000
theorem tube_bd {sq h : Int} (h1 : 0 ≤ sq) (h2 : sq ≤ 22500000000) (h3 : 0 ≤ h) (h4 : h ≤ 300000) :
    0 ≤ sq * h ∧ sq * h ≤ 6750000000000000 ∧ 0 ≤ rnd (sq * h) 1000000 ∧ rnd (sq * h) 1000000 ≤ 6750000000 ∧ 0 ≤ tubeI sq h ∧ tubeI sq h ≤ 21205752750 := by
  have a := mul_le_of h1 h3 h2 h4
  have b := rnd_nonneg (a := sq * h) (b := 1000000) a.1 (by omega)
  have c := rnd_le (a := sq * h) (b := 1000000) (q := 6750000000) a.1 (by omega) (by omega)
  have d := rnd_nonneg (a := rnd (sq * h) 1000000 * 3141593) (b := 1000000) (by omega) (by omega)
  have e := rnd_le (a := rnd (sq * h) 1000000 * 3141593) (b := 1000000) (q := 21205752750) (by omega) (by omega) (by omega)
  unfold tubeI
  omega

theorem l06Tube_c (sq h : Int) (w : World) (h1 : 0 ≤ sq) (h2 : sq ≤ 22500000000) (h3 : 0 ≤ h) (h4 : h ≤ 300000) :
    Calls Try.prog 103 #[.int .i64 sq, .int .i64 h] w (RetS (.int .i64 (tubeI sq h)) w) := by
  obtain ⟨a1, a2, a3, a4, _, _⟩ := tube_bd h1 h2 h3 h4
  go_enter Try.func103, Try.ntmps103
  go_wp2_with (go_at_call 63; refine (l01Div_c _ _ _ (by omega) (by omega) (by omega) (by omega)).mono ?_; rintro _ _ ⟨rfl, rfl⟩)
  go_returns
  exact RetS.mk rfl

theorem volume_c (sq h : Int) (w : World) (h1 : 0 ≤ sq) (h2 : sq ≤ 22500000000) (h3 : 0 ≤ h) (h4 : h ≤ 300000) :
    Calls Try.prog 111 #[.int .i64 sq, .int .i64 h] w (RetD (.int .i64 (tubeI sq h)) w) := by
  obtain ⟨a1, a2, a3, a4, _, _⟩ := tube_bd h1 h2 h3 h4
  go_enter Try.func111, Try.ntmps111
  go_wp2_with (go_at_call 73; refine (nearest_c _ _ _ (by omega) (by omega) (by omega) (by omega)).mono ?_; rintro _ _ ⟨rfl, _, rfl⟩)
  go_returns
  exact RetD.mk rfl ⟨_, rfl⟩

theorem section_c (o i h : Int) (w : World) (hh : ringB o i h = true) : Calls Try.prog 112 #[.agg #[.int .i64 o, .int .i64 i, .int .i64 h]] w (RetB (.int .i64 (secI o i)) w) := by
  have hb := secI_bd hh
  unfold secI at hb
  obtain ⟨h1, h2, h3, h4, h5, h6⟩ := hb
  go_enter Try.func112, Try.ntmps112
  go_wp2
  go_returns
  refine RetB.mk rfl ?_
  go_grown

set_option maxHeartbeats 400000 in
theorem ringVolume_c (o i h : Int) (w : World) (hh : ringB o i h = true) : Calls Try.prog 104 #[.agg #[.int .i64 o, .int .i64 i, .int .i64 h]] w (RetB (.int .i64 (tubeI (secI o i) h)) w) := by
  obtain ⟨h1, h2, _⟩ := secI_bd hh
  obtain ⟨g1, g2, g3, g4, g5, g6⟩ := ringB_t hh
  have HH := Lib.hid hh; clear hh
  go_enter Try.func104, Try.ntmps104
  go_wp2_with fail
  have hc0 : ∀ s : Lat (w.alloc (Obj.cells #[.int .i64 o, .int .i64 i, .int .i64 h] 54)), s.world.cell? ⟨w.heap.size, 0, none⟩ = some (.int .i64 o) := fun s => s.cell (by simp)
  have hc1 : ∀ s : Lat (w.alloc (Obj.cells #[.int .i64 o, .int .i64 i, .int .i64 h] 54)), s.world.cell? ⟨w.heap.size, 1, none⟩ = some (.int .i64 i) := fun s => s.cell (by simp)
  have hc2 : ∀ s : Lat (w.alloc (Obj.cells #[.int .i64 o, .int .i64 i, .int .i64 h] 54)), s.world.cell? ⟨w.heap.size, 2, none⟩ = some (.int .i64 h) := fun s => s.cell (by simp)
  refine wp_region_lat (by kernel_rfl) (by kernel_rfl) ?_
  repeat (go_big_quiet_step (first | (go_at_call 112; exact Lat.callB (section_c _ _ _ _ HH.out)) | (go_at_call 111; exact Lat.callD (volume_c _ _ _ h1 h2 (by omega) (by omega)))))
  refine wpQuiet_nil ?_
  rintro _ ⟨s, rfl⟩
  clear hc0 hc1 hc2
  go_wp2
  go_returns
  exact RetB.mk rfl (((Below.refl _ _).alloc (Nat.le_refl _) _).trans (s.below.mono (by simp)))

set_option maxHeartbeats 800000 in
theorem l06Ring_c (o i h : Int) (b off : Nat) (w : World) (hh : ringB o i h = true) (h0 : w.cell? ⟨b, off, none⟩ = some (.int .i64 o)) (h1 : w.cell? ⟨b, off + 1, none⟩ = some (.int .i64 i)) (h2 : w.cell? ⟨b, off + 2, none⟩ = some (.int .i64 h)) :
    Calls Try.prog 62 #[.pointer (some ⟨b, off, none⟩)] w (RetD (.int .i64 (tubeI (secI o i) h)) w) := by
  have hb := secI_bd hh
  obtain ⟨q1, q2, q3, q4, q5, q6⟩ := hb
  obtain ⟨g1, g2, g3, g4, g5, g6⟩ := ringB_t hh
  have k1 := q1
  have k2 := q2
  unfold secI at k1 k2
  have HH := Lib.hid hh; clear hh
  have s1 : IntKind.i64.wrap (o * o) = o * o := IntWalk.i64_in _ (by omega)
  have s2 : IntKind.i64.wrap (i * i) = i * i := IntWalk.i64_in _ (by omega)
  have s3 : IntKind.i64.wrap (o * o - i * i) = o * o - i * i := IntWalk.i64_in _ (by omega)
  go_enter Try.func62, Try.ntmps62
  go_wp2_with fail
  go_quiet ((go_at_call 103; exact quietS (l06Tube_c _ _ _ k1 k2 (by omega) (by omega))))
  clear s1 s2 s3
  go_wp2
  go_returns
  exact RetD.mk rfl ⟨_, rfl⟩

def areaI (o i h : Int) : Int × Int := if ringB o i h then (rnd (secI o i * 3141593) 10000000000, 0) else (0, 1)
def rvolI (o i h : Int) : Int × Int := if ringB o i h then (tubeI (secI o i) h, 0) else (0, 1)

theorem area_bd {o i h : Int} (hh : ringB o i h = true) : 0 ≤ secI o i * 3141593 ∧ secI o i * 3141593 ≤ 4000000000000000000 := by
  have := secI_bd hh; omega

end Go.Proofs.Ytpaciehgafobfaa
