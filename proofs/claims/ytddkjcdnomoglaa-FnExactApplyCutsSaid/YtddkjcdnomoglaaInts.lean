/- The contracts of the functions that only compute with integers. -/
import Derived.Test.YtddkjcdnomoglaaBase
import Derived.Lib.Hide
import Derived.Test.YtddkjcdnomoglaaMath
namespace Go.Proofs.Ytddkjcdnomoglaa
set_option linter.unusedVariables false
open Go.RowKit Go.Proofs.Bell


def absI (n : Int) : Int := if n < 0 then -n else n

set_option maxHeartbeats 400000 in
theorem l00In_c (n lo hi : Int) (w : World) : Calls Try.prog 61 #[.int .i64 n, .int .i64 lo, .int .i64 hi] w (RetS (.bool (inB n lo hi)) w) := by
  by_cases h1 : lo ≤ n <;> by_cases h2 : n ≤ hi <;>
  · go_enter Try.func61, Try.ntmps61
    go_wp2
    go_ret
    exact RetS.mk (bool_eq (by simp [inB, *]))

set_option maxHeartbeats 400000 in
theorem within_c (n lo hi : Int) (w : World) : Calls Try.prog 65 #[.int .i64 n, .int .i64 lo, .int .i64 hi] w (RetS (.bool (inB n lo hi)) w) := by
  by_cases h1 : lo ≤ n <;> by_cases h2 : n ≤ hi <;>
  · go_enter Try.func65, Try.ntmps65
    go_wp2
    go_ret
    exact RetS.mk (bool_eq (by simp [inB, *]))

theorem l00In_is {n lo hi : Int} {v : Bool} (w : World) (h : inB n lo hi = v) : Calls Try.prog 61 #[.int .i64 n, .int .i64 lo, .int .i64 hi] w (RetS (.bool v) w) := h ▸ l00In_c n lo hi w
theorem within_is {n lo hi : Int} {v : Bool} (w : World) (h : inB n lo hi = v) : Calls Try.prog 65 #[.int .i64 n, .int .i64 lo, .int .i64 hi] w (RetS (.bool v) w) := h ▸ within_c n lo hi w

theorem abs_c (n : Int) (w : World) (_h : -4000000000000000000 ≤ n) (_h' : n ≤ 4000000000000000000) : Calls Try.prog 137 #[.int .i64 n] w (RetS (.int .i64 (absI n)) w) := by
  by_cases h1 : n < 0 <;>
  · go_enter Try.func137, Try.ntmps137
    go_wp2
    go_ret
    exact RetS.mk (int_eq (by unfold absI; split <;> omega))

theorem rnd_bd (a b : Int) (h1 : -4000000000000000000 ≤ a) (h2 : a ≤ 4000000000000000000) (h3 : 1 ≤ b) : -4000000000000000000 ≤ rnd a b ∧ rnd a b ≤ 4000000000000000000 := by
  have key : ∀ a : Int, 0 ≤ a → 0 ≤ rnd a b ∧ rnd a b ≤ a := fun a ha => by
    have e : rnd a b = (2 * a + b) / (2 * b) := by unfold rnd; rw [if_neg (by omega)]
    rw [e]
    refine ⟨Int.ediv_nonneg (by omega) (by omega), ?_⟩
    refine Int.lt_add_one_iff.mp (Int.ediv_lt_of_lt_mul (by omega) ?_)
    have e2 : (a + 1) * (2 * b) = 2 * (a * b) + 2 * b := by rw [Int.add_mul, Int.one_mul, Int.mul_left_comm]
    have : a * 1 ≤ a * b := Int.mul_le_mul_of_nonneg_left h3 ha
    omega
  rcases Int.lt_or_le a 0 with h | h
  · rw [rnd_neg a b h]; have := key (-a) (by omega); omega
  · have := key a h; omega

set_option maxHeartbeats 400000 in
theorem l01Div_c (a b : Int) (w : World) (h1 : -4000000000000000000 ≤ a) (h2 : a ≤ 4000000000000000000) (h3 : 1 ≤ b) (_h4 : b ≤ 1000000000000000000) :
    Calls Try.prog 130 #[.int .i64 a, .int .i64 b] w (RetS (.int .i64 (rnd a b)) w) := by
  by_cases h : a < 0
  · have hb := rnd_bd a b h1 h2 h3
    unfold rnd at hb
    rw [if_pos h] at hb
    go_enter Try.func130, Try.ntmps130
    go_wp2
    go_ret
    exact RetS.mk (int_eq (by unfold rnd; rw [if_pos h]))
  · go_enter Try.func130, Try.ntmps130
    go_wp2
    go_ret
    exact RetS.mk (int_eq (by unfold rnd; rw [if_neg (by omega)]))

/-- what nearest reckons with -/
theorem near_facts (a b : Int) (h3 : 1 ≤ b) : 0 ≤ absI (a.tmod b) ∧ absI (a.tmod b) < b ∧ -b < a.tmod b ∧ a.tmod b < b ∧ absI b = b ∧
    (0 ≤ a → rnd a b = if b - absI (a.tmod b) ≤ absI (a.tmod b) then a.tdiv b + 1 else a.tdiv b) ∧
    (a < 0 → rnd a b = if b - absI (a.tmod b) ≤ absI (a.tmod b) then a.tdiv b - 1 else a.tdiv b) := by
  have h1 := Int.tmod_lt_of_pos a (by omega : 0 < b)
  have h2 := Int.tmod_lt_of_pos (-a) (by omega : 0 < b)
  rw [Int.neg_tmod] at h2
  have hb : absI b = b := by unfold absI; rw [if_neg (by omega)]
  have hpos : ∀ a : Int, 0 ≤ a → absI (a.tmod b) = a % b ∧ a.tdiv b = a / b := fun a ha => by
    have e := Int.tmod_eq_emod_of_nonneg ha (b := b)
    have := Int.emod_nonneg a (by omega : b ≠ 0)
    exact ⟨by unfold absI; rw [e, if_neg (by omega)], Int.tdiv_eq_ediv_of_nonneg ha⟩
  have hneg : a < 0 → absI (a.tmod b) = (-a) % b ∧ a.tdiv b = -((-a) / b) := fun ha => by
    have e := hpos (-a) (by omega)
    rw [Int.neg_tmod, Int.neg_tdiv] at e
    refine ⟨?_, by omega⟩
    rw [← e.1]; unfold absI; split <;> split <;> omega
  refine ⟨by unfold absI; split <;> omega, by unfold absI; split <;> omega, by omega, h1, hb, fun ha => ?_, fun ha => ?_⟩
  · obtain ⟨e1, e2⟩ := hpos a ha
    rw [rnd_pos a b ha (by omega), e1, e2]
  · obtain ⟨e1, e2⟩ := hneg ha
    rw [rnd_neg a b ha, rnd_pos (-a) b (by omega) (by omega), e1, e2]
    split <;> omega

theorem tdiv_bd (a b : Int) (h1 : -4000000000000000000 ≤ a) (h2 : a ≤ 4000000000000000000) (h3 : 1 ≤ b) : -4000000000000000000 ≤ a.tdiv b ∧ a.tdiv b ≤ 4000000000000000000 := by
  have key : ∀ a : Int, 0 ≤ a → 0 ≤ a.tdiv b ∧ a.tdiv b ≤ a := fun a ha => by
    rw [Int.tdiv_eq_ediv_of_nonneg ha]; exact ⟨Int.ediv_nonneg ha (by omega), Int.ediv_le_self b ha⟩
  rcases Int.lt_or_le a 0 with h | h
  · have := key (-a) (by omega); rw [Int.neg_tdiv] at this; omega
  · have := key a h; omega

set_option maxHeartbeats 400000 in
theorem nearest_c (a b : Int) (w : World) (h1 : -4000000000000000000 ≤ a) (h2 : a ≤ 4000000000000000000) (h3 : 1 ≤ b) (h4 : b ≤ 1000000000000000000) :
    Calls Try.prog 80 #[.int .i64 a, .int .i64 b] w (RetD (.int .i64 (rnd a b)) w) := by
  obtain ⟨f1, f2, f3, f4, f5, f6, f7⟩ := near_facts a b h3
  obtain ⟨g1, g2⟩ := tdiv_bd a b h1 h2 h3
  have F5 := Lib.hid f5; clear f5
  have F6 := Lib.hid f6; clear f6
  have F7 := Lib.hid f7; clear f7
  have b1 : absI b ≤ 1000000000000000000 := by rw [F5.out]; omega
  have b2 : 1 ≤ absI b := by rw [F5.out]; omega
  go_enter Try.func80, Try.ntmps80
  go_wp2_with fail
  go_quiet ((go_at_call 137; exact Calls.quiet_of_same ((abs_c _ _ (by omega) (by omega)).mono fun _ _ h => ⟨h.1, h.2.symm⟩)))
  have hb : decide (b < 0) = false := by simp; omega
  clear f3 f4
  generalize absI (a.tmod b) = r at *
  generalize a.tdiv b = q at *
  by_cases ha : a < 0
  · have ha' : decide (a < 0) = true := by simpa using ha
    go_wp2_with (go_at_call 137; refine (abs_c _ _ (by omega) (by omega)).mono ?_; rintro _ _ ⟨rfl, rfl⟩)
    all_goals
      go_ret
      refine RetD.mk (int_eq ?_) ⟨_, rfl⟩
      rw [F7.out ha]
      have := F5.out
      split <;> first | rfl | omega
  · have ha' : decide (a < 0) = false := by simp; omega
    go_wp2_with (go_at_call 137; refine (abs_c _ _ (by omega) (by omega)).mono ?_; rintro _ _ ⟨rfl, rfl⟩)
    all_goals
      go_ret
      refine RetD.mk (int_eq ?_) ⟨_, rfl⟩
      rw [F6.out (by omega)]
      have := F5.out
      split <;> first | rfl | omega

end Go.Proofs.Ytddkjcdnomoglaa
