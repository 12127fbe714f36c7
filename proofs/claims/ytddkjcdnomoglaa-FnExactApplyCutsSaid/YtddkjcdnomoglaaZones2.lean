/- Zones: the program's test and the reference's; the zone of a ring; the statement FnExactZoneOf's law. -/
import Derived.Test.YtddkjcdnomoglaaZones
import Derived.Test.YtddkjcdnomoglaaOpen
import Derived.Test.YtddkjcdnomoglaaLift
namespace Go.Proofs.Ytddkjcdnomoglaa
set_option linter.unusedVariables false
open Go.RowKit Go.Proofs.Bell Go.BigFrame

def azAt (zs : List Int) (rings : Int) (k : Nat) : Bool := (k == 0 || decide (zs.getD (k - 1) 0 < zs.getD k 0)) && decide (zs.getD k 0 < rings)
def azB (zs : List Int) (rings : Int) : Bool := (List.range zs.length).all (azAt zs rings) && (inB zs.length 1 8 && zs.getD 0 0 == 0)

theorem azB_eq (zs : List Int) (rings : Int) : azB zs rings = zonesB zs (rings - 1) := by
  unfold azB zonesB risesB
  cases h1 : inB zs.length 1 8
  · simp
  · cases h2 : (zs.getD 0 0 == 0)
    · simp
    · simp only [Bool.and_true, Bool.true_and]
      have h0 : zs.getD 0 0 = 0 := by simpa using h2
      rw [Bool.eq_iff_iff, List.all_eq_true, List.all_eq_true]
      constructor
      · intro h
        have pos : ∀ k, k < zs.length → 0 ≤ zs.getD k 0 := by
          intro k
          induction k with
          | zero => intro _; omega
          | succ k ih =>
            intro hk
            have := h (k + 1) (List.mem_range.2 hk)
            simp only [azAt, Nat.add_sub_cancel, Bool.and_eq_true, Bool.or_eq_true, decide_eq_true_eq, beq_iff_eq] at this
            have := ih (by omega)
            omega
        intro k hk
        have hk' := List.mem_range.1 hk
        have h3 := h k hk
        have h4 := pos k hk'
        simp only [azAt, riseAt, inB, Bool.and_eq_true, Bool.or_eq_true, decide_eq_true_eq, beq_iff_eq] at h3 ⊢
        omega
      · intro h k hk
        have h3 := h k hk
        simp only [azAt, riseAt, inB, Bool.and_eq_true, Bool.or_eq_true, decide_eq_true_eq, beq_iff_eq] at h3 ⊢
        omega

theorem size64_c (v : Value) (n : Nat) (xs : List Value) (w : World) (h : Rd w v n xs) : Calls Try.prog 66 #[v] w (RetS (.int .i64 n) w) := by
  obtain ⟨hn, ao, cap, b, off, rfl, hao, hcell⟩ := h.open
  clear hcell h
  go_enter Try.func66, Try.ntmps66
  go_wp2
  go_returns
  exact RetS.mk rfl

set_option maxHeartbeats 1600000 in
theorem areZones_c (v : Value) (zs : List Int) (rings : Int) (w : World) (h : Rd w v zs.length (ints zs)) :
    Calls Try.prog 125 #[v, .int .i64 rings] w (RetS (.bool (zonesB zs (rings - 1))) w) := by
  rw [← azB_eq]
  have hsz := size64_c v zs.length (ints zs) w h
  have HSZ := Lib.hid hsz; clear hsz
  generalize hn : zs.length = n at h HSZ
  have HN := Lib.hid hn; clear hn
  obtain ⟨hn, ao, cap, b, off, rfl, hao, hcell⟩ := h.open
  clear h
  go_enter Try.func125, Try.ntmps125
  go_wp2_with fail
  go_loop [9] (fun i => ∃ (k : Nat), k ≤ n ∧ i = .int .i64 k ∧ (List.range k).all (azAt zs rings) = true) (fun i => n - (intOf i).toNat)
  case atStart => exact ⟨0, Nat.zero_le _, rfl, rfl⟩
  case round =>
    obtain ⟨k, hk, rfl, hx⟩ := hrel
    have HX := Lib.hid hx; clear hx
    by_cases hlt : k < n
    · have hltp : k < zs.length := by rw [HN.out]; exact hlt
      have hix := ix (P := Try.prog) (T := 25) (cap := cap) Try.underlying25 cells_int64 has_int64 hao hlt k rfl
      rw [Nat.mul_one] at hix
      have hc1 : w.cell? ⟨b, off + k, none⟩ = some (.int .i64 zs[k]) := hcell _ (Below.refl _ _) _ _ (by omega) (intsAt hltp)
      have hp : azAt zs rings k = true → (List.range (k + 1)).all (azAt zs rings) = true := fun h => range_step HX.out h
      have hq : azAt zs rings k = false → azB zs rings = false := fun h => by unfold azB; rw [range_false hltp h]; rfl
      have HP := Lib.hid hp; clear hp
      have HQ := Lib.hid hq; clear hq
      rcases Nat.eq_zero_or_pos k with h0 | h0
      · have hr : azAt zs rings k = decide (zs[k] < rings) := by unfold azAt; rw [getD_eq hltp]; simp [h0]
        have HR := Lib.hid hr; clear hr
        clear hcell
        have hkd : decide (0 < k) = false := by simp; omega
        have H0 := Lib.hid h0; clear h0
        generalize zs[k] = z at *
        by_cases t1 : z < rings
        · go_wp2
          go_round
          case rel => exact ⟨k + 1, by omega, by go_num, HP.out (by rw [HR.out]; simpa using t1)⟩
          case measure => simp [intOf]; omega
        · go_wp2
          go_returns
          exact RetS.mk (bool_eq (HQ.out (by rw [HR.out]; simpa using t1)).symm)
      · have hk1 : k - 1 < n := by omega
        have hltm : k - 1 < zs.length := by omega
        have hix2 := ix (P := Try.prog) (T := 25) (cap := cap) Try.underlying25 cells_int64 has_int64 hao hk1 ((k : Int) - 1) (by omega)
        rw [Nat.mul_one] at hix2
        have hc2 : w.cell? ⟨b, off + (k - 1), none⟩ = some (.int .i64 zs[k - 1]) := hcell _ (Below.refl _ _) _ _ (by omega) (intsAt hltm)
        have hr : azAt zs rings k = (decide (zs[k - 1] < zs[k]) && decide (zs[k] < rings)) := by
          unfold azAt; rw [getD_eq hltp, getD_eq hltm]
          have : (k == 0) = false := by simp; omega
          rw [this, Bool.false_or]
        have HR := Lib.hid hr; clear hr
        clear hcell
        have hkd : decide (0 < k) = true := by simp; omega
        generalize zs[k - 1] = y at *
        generalize zs[k] = z at *
        by_cases t1 : y < z <;> by_cases t2 : z < rings
        · go_wp2
          go_round
          case rel => exact ⟨k + 1, by omega, by go_num, HP.out (by rw [HR.out]; simp; omega)⟩
          case measure => simp [intOf]; omega
        all_goals
          go_wp2
          go_returns
          exact RetS.mk (bool_eq (HQ.out (by rw [HR.out]; simp; omega)).symm)
    · obtain rfl : k = n := by omega
      have hx := HX.out
      rw [← HN.out] at hx
      have ha : azB zs rings = (inB zs.length 1 8 && zs.getD 0 0 == 0) := by unfold azB; rw [hx]; rfl
      rw [HN.out] at ha
      clear hx
      have HA := Lib.hid ha; clear ha
      cases t1 : inB k 1 8
      · go_wp2_with (first | (go_at_call 66; refine HSZ.out.mono ?_; rintro _ _ ⟨rfl, rfl⟩) | (go_at_call 65; refine (within_is _ t1).mono ?_; rintro _ _ ⟨rfl, rfl⟩))
        go_returns
        exact RetS.mk (bool_eq (by rw [HA.out, t1]; rfl))
      · obtain ⟨q1, _⟩ := inB_t t1
        have hk0 : 0 < k := by omega
        have hltp : 0 < zs.length := by rw [HN.out]; exact hk0
        have hix := ix (P := Try.prog) (T := 25) (cap := cap) Try.underlying25 cells_int64 has_int64 hao hk0 0 rfl
        rw [Nat.zero_mul, Nat.add_zero] at hix
        have hc1 : w.cell? ⟨b, off, none⟩ = some (.int .i64 zs[0]) := by
          have := hcell _ (Below.refl _ _) _ _ hk0 (intsAt hltp)
          rwa [Nat.add_zero] at this
        have hz : zs.getD 0 0 = zs[0] := getD_eq hltp
        have HZ := Lib.hid hz; clear hz
        clear hcell
        generalize zs[0] = z at *
        clear hao
        go_wp2_with (first | (go_at_call 66; refine HSZ.out.mono ?_; rintro _ _ ⟨rfl, rfl⟩) | (go_at_call 65; refine (within_is _ t1).mono ?_; rintro _ _ ⟨rfl, rfl⟩))
        go_returns
        exact RetS.mk (bool_eq (by rw [HA.out, t1, HZ.out]; rfl))

/-- the last of the first `k` numbers that is not above `ring` -/
def lastLe (zs : List Int) (ring : Int) : Nat → Nat
  | 0 => 0
  | k + 1 => if zs.getD k 0 ≤ ring then k else lastLe zs ring k
theorem lastLe_yes {zs : List Int} {ring : Int} {k : Nat} (hk : k < zs.length) (h : zs[k] ≤ ring) : lastLe zs ring (k + 1) = k := by
  unfold lastLe; rw [getD_eq hk, if_pos h]
theorem lastLe_no {zs : List Int} {ring : Int} {k : Nat} (hk : k < zs.length) (h : ¬ zs[k] ≤ ring) : lastLe zs ring (k + 1) = lastLe zs ring k := by
  conv => lhs; unfold lastLe
  rw [getD_eq hk, if_neg h]
theorem lastLe_le (zs : List Int) (ring : Int) : ∀ k, lastLe zs ring k ≤ k
  | 0 => Nat.le_refl _
  | k + 1 => by unfold lastLe; have := lastLe_le zs ring k; split <;> omega
def zoneI (zs : List Int) (ring : Int) : Nat := lastLe zs ring zs.length
def zoneOfI (zs : List Int) (ring : Int) : Int × Int := if zonesB zs 31 then (if inB ring 0 31 then ((zoneI zs ring : Nat), 0) else (0, 2)) else (0, 1)

set_option maxHeartbeats 800000 in
theorem l09Zone_c (v : Value) (zs : List Int) (ring : Int) (w : World) (h : Rd w v zs.length (ints zs)) :
    Calls Try.prog 141 #[v, .int .i64 ring] w (RetS (.int .i64 (zoneI zs ring)) w) := by
  generalize hn : zs.length = n at h
  have HN := Lib.hid hn; clear hn
  obtain ⟨hn, ao, cap, b, off, rfl, hao, hcell⟩ := h.open
  clear h
  go_enter Try.func141, Try.ntmps141
  go_wp2_with fail
  go_loop [5, 6] (fun z i => ∃ (k : Nat), k ≤ n ∧ i = .int .i64 k ∧ z = .int .i64 (lastLe zs ring k)) (fun _ i => n - (intOf i).toNat)
  case atStart => exact ⟨0, Nat.zero_le _, rfl, rfl⟩
  case round =>
    obtain ⟨k, hk, rfl, rfl⟩ := hrel
    by_cases hlt : k < n
    · have hltp : k < zs.length := by rw [HN.out]; exact hlt
      have hix := ix (P := Try.prog) (T := 25) (cap := cap) Try.underlying25 cells_int64 has_int64 hao hlt k rfl
      rw [Nat.mul_one] at hix
      have hc1 : w.cell? ⟨b, off + k, none⟩ = some (.int .i64 zs[k]) := hcell _ (Below.refl _ _) _ _ (by omega) (intsAt hltp)
      have hy := fun h => lastLe_yes (ring := ring) hltp h
      have hno := fun h => lastLe_no (ring := ring) hltp h
      have HY := Lib.hid hy; clear hy
      have HNO := Lib.hid hno; clear hno
      clear hcell
      generalize zs[k] = x at *
      generalize lastLe zs ring k = y at *
      by_cases t1 : x ≤ ring
      · go_wp2
        go_round
        case rel => exact ⟨k + 1, by omega, by go_num, by rw [HY.out t1]⟩
        case measure => simp [intOf]; omega
      · go_wp2
        go_round
        case rel => exact ⟨k + 1, by omega, by go_num, by rw [HNO.out t1]⟩
        case measure => simp [intOf]; omega
    · obtain rfl : k = n := by omega
      go_wp2
      go_returns
      exact RetS.mk (int_eq (by rw [zoneI, HN.out]))

theorem specZones_eq (zs : List Int) : zonesB zs 31 = (decide (1 ≤ zs.length) && decide (zs.length ≤ 8) && (zs.getD 0 0 == 0) && risesB zs 0 31) := by
  unfold zonesB inB
  congr 2
  rw [Bool.eq_iff_iff]
  simp
  omega

end Go.Proofs.Ytddkjcdnomoglaa
