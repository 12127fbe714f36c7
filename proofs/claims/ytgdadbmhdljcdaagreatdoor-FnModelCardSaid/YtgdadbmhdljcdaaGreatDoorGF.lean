/- Several texts of the proofs in one: Zones2, ValidZ, Wall, ZW, Tail, Turn, Turn2, Turn3. -/
import Derived.Test.YtgdadbmhdljcdaaGreatDoorGA
import Derived.Test.YtgdadbmhdljcdaaGreatDoorGB
import Derived.Test.YtgdadbmhdljcdaaGreatDoorGC
import Derived.Test.YtgdadbmhdljcdaaGreatDoorGD
import Derived.Test.YtgdadbmhdljcdaaGreatDoorGE
import Derived.Deep.Quiet
import Derived.StillTail
/- Zones: the program's test and the reference's; the zone of a ring; the statement FnExactZoneOf's law. -/
namespace Go.Proofs.YtgdadbmhdljcdaaGreatDoor
set_option linter.unusedVariables false
open Go.RowKit Go.Proofs.Bell Go.BigFrame

def azAt (zs : List Int) (rings : Int) (k : Nat) : Bool := (k == 0 || decide (zs.getD (k - 1) 0 < zs.getD k 0)) && decide (zs.getD k 0 < rings)
def azB (zs : List Int) (rings : Int) : Bool := (List.range zs.length).all (azAt zs rings) && (inB zs.length 1 8 && zs.getD 0 0 == 0)

theorem azB_eq (zs : List Int) (rings : Int) : azB zs rings = zonesB zs (rings - 1) := by
  unfold azB zonesB risesB
  cases h1 : inB zs.length 1 8
  · simp
  · cases h2 : (zs.getD 0 0 == 0)
    · simp
    · simp only [Bool.and_true, Bool.true_and]
      have h0 : zs.getD 0 0 = 0 := by simpa using h2
      rw [Bool.eq_iff_iff, List.all_eq_true, List.all_eq_true]
      constructor
      · intro h
        have pos : ∀ k, k < zs.length → 0 ≤ zs.getD k 0 := by
          intro k
          induction k with
          | zero => intro _; omega
          | succ k ih =>
            intro hk
            have := h (k + 1) (List.mem_range.2 hk)
            simp only [azAt, Nat.add_sub_cancel, Bool.and_eq_true, Bool.or_eq_true, decide_eq_true_eq, beq_iff_eq] at this
            have := ih (by omega)
            omega
        intro k hk
        have hk' := List.mem_range.1 hk
        have h3 := h k hk
        have h4 := pos k hk'
        simp only [azAt, riseAt, inB, Bool.and_eq_true, Bool.or_eq_true, decide_eq_true_eq, beq_iff_eq] at h3 ⊢
        omega
      · intro h k hk
        have h3 := h k hk
        simp only [azAt, riseAt, inB, Bool.and_eq_true, Bool.or_eq_true, decide_eq_true_eq, beq_iff_eq] at h3 ⊢
        omega

theorem size64_c (v : Value) (n : Nat) (xs : List Value) (w : World) (h : Rd w v n xs) : Calls Tryz.prog 84 #[v] w (RetS (.int .i64 n) w) := by
  obtain ⟨hn, ao, cap, b, off, rfl, hao, hcell⟩ := h.open
  clear hcell h
  go_enter Tryz.func84, Tryz.ntmps84
  go_wp2
  go_returns
  exact RetS.mk rfl

set_option maxHeartbeats 1600000 in
theorem areZones_c (v : Value) (zs : List Int) (rings : Int) (w : World) (h : Rd w v zs.length (ints zs)) :
    Calls Tryz.prog 83 #[v, .int .i64 rings] w (RetS (.bool (zonesB zs (rings - 1))) w) := by
  rw [← azB_eq]
  have hsz := size64_c v zs.length (ints zs) w h
  have HSZ := Lib.hid hsz; clear hsz
  generalize hn : zs.length = n at h HSZ
  have HN := Lib.hid hn; clear hn
  obtain ⟨hn, ao, cap, b, off, rfl, hao, hcell⟩ := h.open
  clear h
  go_enter Tryz.func83, Tryz.ntmps83
  go_wp2_with fail
  go_loop [9] (fun i => ∃ (k : Nat), k ≤ n ∧ i = .int .i64 k ∧ (List.range k).all (azAt zs rings) = true) (fun i => n - (intOf i).toNat)
  case atStart => exact ⟨0, Nat.zero_le _, rfl, rfl⟩
  case round =>
    obtain ⟨k, hk, rfl, hx⟩ := hrel
    have HX := Lib.hid hx; clear hx
    by_cases hlt : k < n
    · have hltp : k < zs.length := by rw [HN.out]; exact hlt
      have hix := ix (P := Tryz.prog) (T := 42) (cap := cap) Tryz.underlying42 cells_int64 has_int64 hao hlt k rfl
      rw [Nat.mul_one] at hix
      have hc1 : w.cell? ⟨b, off + k, none⟩ = some (.int .i64 zs[k]) := hcell _ (Below.refl _ _) _ _ (by omega) (intsAt hltp)
      have hp : azAt zs rings k = true → (List.range (k + 1)).all (azAt zs rings) = true := fun h => range_step HX.out h
      have hq : azAt zs rings k = false → azB zs rings = false := fun h => by unfold azB; rw [range_false hltp h]; rfl
      have HP := Lib.hid hp; clear hp
      have HQ := Lib.hid hq; clear hq
      rcases Nat.eq_zero_or_pos k with h0 | h0
      · have hr : azAt zs rings k = decide (zs[k] < rings) := by unfold azAt; rw [getD_eq hltp]; simp [h0]
        have HR := Lib.hid hr; clear hr
        clear hcell
        have hkd : decide (0 < k) = false := by simp; omega
        have H0 := Lib.hid h0; clear h0
        generalize zs[k] = z at *
        by_cases t1 : z < rings
        · go_wp2
          go_round
          case rel => exact ⟨k + 1, by omega, by go_num, HP.out (by rw [HR.out]; simpa using t1)⟩
          case measure => simp [intOf]; omega
        · go_wp2
          go_returns
          exact RetS.mk (bool_eq (HQ.out (by rw [HR.out]; simpa using t1)).symm)
      · have hk1 : k - 1 < n := by omega
        have hltm : k - 1 < zs.length := by omega
        have hix2 := ix (P := Tryz.prog) (T := 42) (cap := cap) Tryz.underlying42 cells_int64 has_int64 hao hk1 ((k : Int) - 1) (by omega)
        rw [Nat.mul_one] at hix2
        have hc2 : w.cell? ⟨b, off + (k - 1), none⟩ = some (.int .i64 zs[k - 1]) := hcell _ (Below.refl _ _) _ _ (by omega) (intsAt hltm)
        have hr : azAt zs rings k = (decide (zs[k - 1] < zs[k]) && decide (zs[k] < rings)) := by
          unfold azAt; rw [getD_eq hltp, getD_eq hltm]
          have : (k == 0) = false := by simp; omega
          rw [this, Bool.false_or]
        have HR := Lib.hid hr; clear hr
        clear hcell
        have hkd : decide (0 < k) = true := by simp; omega
        generalize zs[k - 1] = y at *
        generalize zs[k] = z at *
        by_cases t1 : y < z <;> by_cases t2 : z < rings
        · go_wp2
          go_round
          case rel => exact ⟨k + 1, by omega, by go_num, HP.out (by rw [HR.out]; simp; omega)⟩
          case measure => simp [intOf]; omega
        all_goals
          go_wp2
          go_returns
          exact RetS.mk (bool_eq (HQ.out (by rw [HR.out]; simp; omega)).symm)
    · obtain rfl : k = n := by omega
      have hx := HX.out
      rw [← HN.out] at hx
      have ha : azB zs rings = (inB zs.length 1 8 && zs.getD 0 0 == 0) := by unfold azB; rw [hx]; rfl
      rw [HN.out] at ha
      clear hx
      have HA := Lib.hid ha; clear ha
      cases t1 : inB k 1 8
      · go_wp2_with (first | (go_at_call 84; refine HSZ.out.mono ?_; rintro _ _ ⟨rfl, rfl⟩) | (go_at_call 56; refine (within_is _ t1).mono ?_; rintro _ _ ⟨rfl, rfl⟩))
        go_returns
        exact RetS.mk (bool_eq (by rw [HA.out, t1]; rfl))
      · obtain ⟨q1, _⟩ := inB_t t1
        have hk0 : 0 < k := by omega
        have hltp : 0 < zs.length := by rw [HN.out]; exact hk0
        have hix := ix (P := Tryz.prog) (T := 42) (cap := cap) Tryz.underlying42 cells_int64 has_int64 hao hk0 0 rfl
        rw [Nat.zero_mul, Nat.add_zero] at hix
        have hc1 : w.cell? ⟨b, off, none⟩ = some (.int .i64 zs[0]) := by
          have := hcell _ (Below.refl _ _) _ _ hk0 (intsAt hltp)
          rwa [Nat.add_zero] at this
        have hz : zs.getD 0 0 = zs[0] := getD_eq hltp
        have HZ := Lib.hid hz; clear hz
        clear hcell
        generalize zs[0] = z at *
        clear hao
        go_wp2_with (first | (go_at_call 84; refine HSZ.out.mono ?_; rintro _ _ ⟨rfl, rfl⟩) | (go_at_call 56; refine (within_is _ t1).mono ?_; rintro _ _ ⟨rfl, rfl⟩))
        go_returns
        exact RetS.mk (bool_eq (by rw [HA.out, t1, HZ.out]; rfl))

/-- the last of the first `k` numbers that is not above `ring` -/
def lastLe (zs : List Int) (ring : Int) : Nat → Nat
  | 0 => 0
  | k + 1 => if zs.getD k 0 ≤ ring then k else lastLe zs ring k
theorem lastLe_yes {zs : List Int} {ring : Int} {k : Nat} (hk : k < zs.length) (h : zs[k] ≤ ring) : lastLe zs ring (k + 1) = k := by
  unfold lastLe; rw [getD_eq hk, if_pos h]
theorem lastLe_no {zs : List Int} {ring : Int} {k : Nat} (hk : k < zs.length) (h : ¬ zs[k] ≤ ring) : lastLe zs ring (k + 1) = lastLe zs ring k := by
  conv => lhs; unfold lastLe
  rw [getD_eq hk, if_neg h]
theorem lastLe_le (zs : List Int) (ring : Int) : ∀ k, lastLe zs ring k ≤ k
  | 0 => Nat.le_refl _
  | k + 1 => by unfold lastLe; have := lastLe_le zs ring k; split <;> omega
def zoneI (zs : List Int) (ring : Int) : Nat := lastLe zs ring zs.length
def zoneOfI (zs : List Int) (ring : Int) : Int × Int := if zonesB zs 31 then (if inB ring 0 31 then ((zoneI zs ring : Nat), 0) else (0, 2)) else (0, 1)

theorem specZones_eq (zs : List Int) : zonesB zs 31 = (decide (1 ≤ zs.length) && decide (zs.length ≤ 8) && (zs.getD 0 0 == 0) && risesB zs 0 31) := by
  unfold zonesB inB
  congr 2
  rw [Bool.eq_iff_iff]
  simp
  omega

end Go.Proofs.YtgdadbmhdljcdaaGreatDoor

/- Zones of a profile. -/
namespace Go.Proofs.YtgdadbmhdljcdaaGreatDoor
set_option linter.unusedVariables false
open Go.RowKit Go.Proofs.Bell Go.BigFrame

def vzB (nm : ByteArray) (rs : List (Int × Int × Int)) (zs : List Int) : Bool := profB nm rs && zonesB zs ((rs.length : Int) - 1)
theorem zones_eq (zs : List Int) (hi : Int) : zonesB zs hi = (decide (1 ≤ zs.length) && decide (zs.length ≤ 8) && (zs.getD 0 0 == 0) && risesB zs 0 hi) := by
  unfold zonesB inB
  congr 2
  rw [Bool.eq_iff_iff]
  simp
  omega
theorem sizeR_c (v : Value) (n : Nat) (xs : List Value) (w : World) (h : Rd w v n xs) : Calls Tryz.prog 57 #[v] w (RetS (.int .i64 n) w) := by
  obtain ⟨hn, ao, cap, b, off, rfl, hao, hcell⟩ := h.open
  clear hcell h
  go_enter Tryz.func57, Tryz.ntmps57
  go_wp2
  go_returns
  exact RetS.mk rfl

set_option maxHeartbeats 1600000 in
theorem l09Zones_c (g : Nat) (nm : ByteArray) (sv : Value) (ps : List (Int × Int × Int)) (v : Value) (zs : List Int) (w : World) (hg : g < w.heap.size) (hnm : nm.size ≤ maxLen) (c0 : w.cell? ⟨g, 0, none⟩ = some (.string nm)) (c1 : w.cell? ⟨g, 1, none⟩ = some sv) (hr : Rd w sv ps.length (trips ps)) (h : Rd w v zs.length (ints zs)) :
    Calls Tryz.prog 146 #[.pointer (some ⟨g, 0, none⟩), v] w (RetD (.bool (vzB nm ps zs)) w) := by
  have hok := l05Ok_c g nm sv ps w hg hnm c0 c1 hr
  cases t0 : profB nm ps <;> rw [t0] at hok
  · have HOK := Lib.hid hok; clear hok
    have he : vzB nm ps zs = false := by simp [vzB, t0]
    rw [he]
    clear he hr c0 c1
    obtain ⟨hn, ao, cap, b, off, rfl, hao, hcell⟩ := h.open
    clear h hcell hao
    go_enter Tryz.func146, Tryz.ntmps146
    go_wp2_with fail
    refine HOK.out.mono ?_
    rintro _ w1 ⟨rfl, hd⟩
    go_wp2
    go_returns
    exact RetD.mk rfl hd
  · have he : vzB nm ps zs = zonesB zs ((ps.length : Int) - 1) := by simp [vzB, t0]
    rw [he, zones_eq]
    clear he
    have HOK := Lib.hid hok; clear hok
    obtain ⟨hl1, hl2, _, _⟩ := profB_t t0
    have hri := fun w' (hb : Below w.heap.size w w') => l00Rises_c v zs 0 ((ps.length : Int) - 1) w' (h.later hb)
    obtain ⟨_, ao2, cap2, b2, off2, rfl, _, _⟩ := hr.open
    clear hr c0
    generalize ps.length = m at *
    have HRI := Lib.hid hri; clear hri
    generalize hn : zs.length = n at *
    have HN := Lib.hid hn; clear hn
    obtain ⟨hn, ao, cap, b, off, rfl, hao, hcell⟩ := h.open
    clear h
    by_cases h1 : 1 ≤ n
    · by_cases h2 : n ≤ 8
      · have hk0 : 0 < n := by omega
        have hltp : 0 < zs.length := by rw [HN.out]; exact hk0
        have hix := ix (P := Tryz.prog) (T := 42) (cap := cap) Tryz.underlying42 cells_int64 has_int64 hao hk0 0 rfl
        rw [Nat.zero_mul, Nat.add_zero] at hix
        have hz0 : zs.getD 0 0 = zs[0] := getD_eq hltp
        rw [hz0]
        clear hz0
        have hc : ∀ w', Below w.heap.size w w' → w'.cell? ⟨b, off, none⟩ = some (.int .i64 zs[0]) := fun w' hb => by
          have := hcell _ hb _ _ hk0 (intsAt hltp)
          rwa [Nat.add_zero] at this
        have HC := Lib.hid hc; clear hc
        clear hcell hao
        generalize zs[0] = z at *
        by_cases h3 : z = 0
        · cases h4 : risesB zs 0 ((m : Int) - 1) <;> rw [h4] at HRI <;>
          · go_enter Tryz.func146, Tryz.ntmps146
            go_wp2_with fail
            refine HOK.out.mono ?_
            rintro _ w1 ⟨rfl, hd⟩
            have hb := Dr.below hd
            have k1 := below_cell hb c1
            have hc1 := HC.out _ hb
            go_wp2_with (go_at_call 125; refine (HRI.out _ hb).mono ?_; rintro _ w2 ⟨rfl, hd2⟩)
            go_returns
            exact RetD.mk (by simp [h1, h2, h3]) (Dr.trans hd hd2)
        · go_enter Tryz.func146, Tryz.ntmps146
          go_wp2_with fail
          refine HOK.out.mono ?_
          rintro _ w1 ⟨rfl, hd⟩
          have hc1 := HC.out _ (Dr.below hd)
          go_wp2
          go_returns
          exact RetD.mk (by simp [h3]) hd
      · clear hcell
        go_enter Tryz.func146, Tryz.ntmps146
        go_wp2_with fail
        refine HOK.out.mono ?_
        rintro _ w1 ⟨rfl, hd⟩
        go_wp2
        go_returns
        exact RetD.mk (by simp [h2]) hd
    · clear hcell
      go_enter Tryz.func146, Tryz.ntmps146
      go_wp2_with fail
      refine HOK.out.mono ?_
      rintro _ w1 ⟨rfl, hd⟩
      go_wp2
      go_returns
      exact RetD.mk (by simp [h1]) hd

set_option maxHeartbeats 800000 in
theorem ValidZones_c (nm : ByteArray) (sv : Value) (ps : List (Int × Int × Int)) (v : Value) (zs : List Int) (w : World) (hnm : nm.size ≤ maxLen) (hr : Rd w sv ps.length (trips ps)) (h : Rd w v zs.length (ints zs)) :
    Calls Tryz.prog 66 #[.agg #[.string nm, sv], v] w (RetB (.bool (vzB nm ps zs)) w) := by
  have hz := fun w' (hb : Below w.heap.size w w') => areZones_c v zs ps.length w' (h.later hb)
  have hsz := fun w' (hb : Below w.heap.size w w') => sizeR_c sv ps.length (trips ps) w' (hr.later hb)
  have HZ := Lib.hid hz; clear hz
  have HSZ := Lib.hid hsz; clear hsz
  have hok := fun w' (hb : Below w.heap.size w w') => ValidProfile_c nm sv ps w' hnm (hr.later hb)
  obtain ⟨hn, ao, cap, b, off, rfl, hao, hcell⟩ := h.open
  obtain ⟨_, ao2, cap2, b2, off2, rfl, _, _⟩ := hr.open
  clear h hcell hao hr
  cases t0 : profB nm ps <;> rw [t0] at hok
  · have HOK := Lib.hid hok; clear hok
    go_enter Tryz.func66, Tryz.ntmps66
    have b0 : Below w.heap.size w w := Below.refl _ _
    have z0 : w.heap.size ≤ w.heap.size := Nat.le_refl _
    go_wp2_with fail
    refine (HOK.out _ (by go_grown)).mono ?_
    rintro _ w1 ⟨rfl, r1⟩
    have s1 : Below w.heap.size w w1 := Below.trans (by go_grown) (r1.mono (by simp; try omega))
    have b1 := b0.trans (s1.mono z0)
    have z1 := b1.size
    have y1 := s1.size
    have c0_0_1 := below_cell r1 (p := ⟨w.heap.size, 0, none⟩) (v := .string nm) (by simp [go_sem])
    have c0_1_1 := below_cell r1 (p := ⟨w.heap.size, 1, none⟩) (v := .slice ao2 ps.length cap2) (by simp [go_sem])
    clear r1
    go_wp2
    go_returns
    exact RetB.mk (bool_eq (by simp [vzB, t0])) b1
  · have he : vzB nm ps zs = zonesB zs ((ps.length : Int) - 1) := by simp [vzB, t0]
    rw [he]
    have HOK := Lib.hid hok; clear hok
    clear he
    generalize ps.length = m at *
    go_enter Tryz.func66, Tryz.ntmps66
    have b0 : Below w.heap.size w w := Below.refl _ _
    have z0 : w.heap.size ≤ w.heap.size := Nat.le_refl _
    go_wp2_with fail
    refine (HOK.out _ (by go_grown)).mono ?_
    rintro _ w1 ⟨rfl, r1⟩
    have s1 : Below w.heap.size w w1 := Below.trans (by go_grown) (r1.mono (by simp; try omega))
    have b1 := b0.trans (s1.mono z0)
    have z1 := b1.size
    have y1 := s1.size
    have c0_0_1 := below_cell r1 (p := ⟨w.heap.size, 0, none⟩) (v := .string nm) (by simp [go_sem])
    have c0_1_1 := below_cell r1 (p := ⟨w.heap.size, 1, none⟩) (v := .slice ao2 m cap2) (by simp [go_sem])
    clear r1
    go_wp2_with (first | (go_at_call 57; refine (HSZ.out _ b1).mono ?_; rintro _ _ ⟨rfl, rfl⟩) | (go_at_call 83; refine (HZ.out _ b1).mono ?_; rintro _ _ ⟨rfl, rfl⟩))
    go_wp2
    go_returns
    exact RetB.mk (rfl) b1

end Go.Proofs.YtgdadbmhdljcdaaGreatDoor

/- The wall at a height. -/
namespace Go.Proofs.YtgdadbmhdljcdaaGreatDoor
set_option linter.unusedVariables false
open Go.RowKit Go.Proofs.Bell Go.BigFrame

def wallT (p : Int × Int × Int) : Int := p.1 - p.2.1
def wallAtI (nm : ByteArray) (rs : List (Int × Int × Int)) (h : Int) : Int × Int := if askI nm rs h = 0 then (wallT (rg rs (atK rs h)), 0) else (0, askI nm rs h)
theorem wallT_c (p : Int × Int × Int) (w : World) (h : ringT p = true) : Calls Tryz.prog 50 #[.agg #[.int .i64 p.1, .int .i64 p.2.1, .int .i64 p.2.2]] w (RetB (.int .i64 (wallT p)) w) := by
  have r := ringT_t h
  unfold wallT
  obtain ⟨a, b, c⟩ := p
  simp only at r
  clear h
  go_enter Tryz.func50, Tryz.ntmps50
  go_wp2
  go_returns
  exact RetB.mk rfl (by go_grown)

set_option maxHeartbeats 800000 in
theorem implWallAt_c (nm : ByteArray) (sv : Value) (ps : List (Int × Int × Int)) (h : Int) (w : World) (hnm : nm.size ≤ maxLen) (hr : Rd w sv ps.length (trips ps)) :
    Calls Tryz.prog 13 #[.agg #[.string nm, sv], .int .i64 h] w (RetB (.tuple #[.int .i64 (wallAtI nm ps h).1, .int .i64 (wallAtI nm ps h).2]) w) := by
  have hok := fun w' (hb : Below w.heap.size w w') => implRingAt_c nm sv ps h w' hnm (hr.later hb)
  by_cases t0 : askI nm ps h = 0
  · obtain ⟨hal, hl1, hl2, h0, h1⟩ := askI_zero t0
    have hk := atK_lt hl1 h1
    have hring := all_at hal hk
    have he : wallAtI nm ps h = (wallT (rg ps (atK ps h)), 0) := by simp [wallAtI, t0]
    have he2 : ringAtI nm ps h = ((atK ps h : Int), 0) := by simp [ringAtI, t0]
    rw [he]
    rw [he2] at hok
    have hw := fun w' => wallT_c (rg ps (atK ps h)) w' hring
    have HOK := Lib.hid hok; clear hok
    have HW := Lib.hid hw; clear hw
    clear he he2 hal h1 hring t0
    generalize atK ps h = k at *
    generalize hn : ps.length = n at *
    have HN := Lib.hid hn; clear hn
    obtain ⟨hn, ao, cap, bb, off, rfl, hao, hcell⟩ := hr.open
    clear hr
    go_enter Tryz.func13, Tryz.ntmps13
    have b0 : Below w.heap.size w w := Below.refl _ _
    have z0 : w.heap.size ≤ w.heap.size := Nat.le_refl _
    go_wp2_with fail
    refine (HOK.out _ (by go_grown)).mono ?_
    rintro _ w1 ⟨rfl, r1⟩
    have s1 : Below w.heap.size w w1 := Below.trans (by go_grown) (r1.mono (by simp; try omega))
    have b1 := b0.trans (s1.mono z0)
    have z1 := b1.size
    have y1 := s1.size
    have c0_0_1 := below_cell r1 (p := ⟨w.heap.size, 0, none⟩) (v := .string nm) (by simp [go_sem])
    have c0_1_1 := below_cell r1 (p := ⟨w.heap.size, 1, none⟩) (v := .slice ao n cap) (by simp [go_sem])
    clear r1
    have hlt_p : k < ps.length := by rw [HN.out]; omega
    have hix_p := ix (P := Tryz.prog) (T := 24) (cap := cap) Tryz.underlying24 cells_Ring has_Ring hao (k := k) (by omega) _ (rfl)
    have hp0 : w1.cell? ⟨bb, off + k * 3, none⟩ = some (.int .i64 (rg ps k).1) := by rw [rg_eq hlt_p]; exact hcell _ b1 _ _ (by omega) (trips_at hlt_p).1
    have hp1 : w1.cell? ⟨bb, off + k * 3 + 1, none⟩ = some (.int .i64 (rg ps k).2.1) := by rw [rg_eq hlt_p]; exact hcell _ b1 _ _ (by omega) (trips_at hlt_p).2.1
    have hp2 : w1.cell? ⟨bb, off + k * 3 + 2, none⟩ = some (.int .i64 (rg ps k).2.2) := by rw [rg_eq hlt_p]; exact hcell _ b1 _ _ (by omega) (trips_at hlt_p).2.2
    clear hcell hao
    generalize (rg ps k).1 = x0 at *
    generalize (rg ps k).2.1 = x1 at *
    generalize (rg ps k).2.2 = x2 at *
    generalize wallT (rg ps k) = z at *
    go_wp2_with fail
    refine (HW.out _).mono ?_
    rintro _ w2 ⟨rfl, r2⟩
    have s2 := r2
    have b2 := b1.trans (s2.mono z1)
    have z2 := b2.size
    have y2 := s2.size
    have c0_0_2 := below_cell s2 c0_0_1; clear c0_0_1
    have c0_1_2 := below_cell s2 c0_1_1; clear c0_1_1
    clear r2
    go_wp2
    go_returns
    exact RetB.mk (rfl) b2
  · have he : wallAtI nm ps h = (0, askI nm ps h) := by simp [wallAtI, t0]
    have he2 : ringAtI nm ps h = (0, askI nm ps h) := by simp [ringAtI, t0]
    rw [he]
    rw [he2] at hok
    have HOK := Lib.hid hok; clear hok
    clear he he2 hr
    generalize askI nm ps h = c at *
    go_enter Tryz.func13, Tryz.ntmps13
    have b0 : Below w.heap.size w w := Below.refl _ _
    have z0 : w.heap.size ≤ w.heap.size := Nat.le_refl _
    go_wp2_with fail
    refine (HOK.out _ (by go_grown)).mono ?_
    rintro _ w1 ⟨rfl, r1⟩
    have s1 : Below w.heap.size w w1 := Below.trans (by go_grown) (r1.mono (by simp; try omega))
    have b1 := b0.trans (s1.mono z0)
    have z1 := b1.size
    have y1 := s1.size
    have c0_0_1 := below_cell r1 (p := ⟨w.heap.size, 0, none⟩) (v := .string nm) (by simp [go_sem])
    have c0_1_1 := below_cell r1 (p := ⟨w.heap.size, 1, none⟩) (v := sv) (by simp [go_sem])
    clear r1
    go_wp2
    go_returns
    exact RetB.mk (rfl) b1

end Go.Proofs.YtgdadbmhdljcdaaGreatDoor

/- The mean walls of zones. -/
namespace Go.Proofs.YtgdadbmhdljcdaaGreatDoor
set_option linter.unusedVariables false
open Go.RowKit Go.Proofs.Bell Go.BigFrame

def zEnd (zs : List Int) (m : Nat) (z : Nat) : Int := if z + 1 < zs.length then zs.getD (z + 1) 0 else m
def wsK (ps : List (Int × Int × Int)) (a : Nat) : Nat → Int
  | 0 => 0
  | j + 1 => wsK ps a j + wallT (rg ps (a + j))
def zwK (ps : List (Int × Int × Int)) (zs : List Int) : Nat → List Int
  | 0 => []
  | z + 1 => zwK ps zs z ++ [rnd (wsK ps (zs.getD z 0).toNat (zEnd zs ps.length z - zs.getD z 0).toNat) (zEnd zs ps.length z - zs.getD z 0)]
theorem zwK_len (ps : List (Int × Int × Int)) (zs : List Int) : ∀ k, (zwK ps zs k).length = k
  | 0 => rfl
  | k + 1 => by rw [zwK, List.length_append, zwK_len ps zs k]; rfl
theorem wsK_bd {ps : List (Int × Int × Int)} (h : ps.all ringT = true) (a : Nat) : ∀ j, a + j ≤ ps.length → 0 ≤ wsK ps a j ∧ wsK ps a j ≤ 150000 * j
  | 0, _ => by simp [wsK]
  | j + 1, hj => by
    have ih := wsK_bd h a j (by omega)
    have hr := ringT_t (all_at h (show a + j < ps.length by omega))
    simp only [wsK, wallT]
    omega
theorem riseAt_of {zs : List Int} {lo hi : Int} (h : risesB zs lo hi = true) {k : Nat} (hk : k < zs.length) : riseAt zs lo hi k = true := List.all_eq_true.1 h k (List.mem_range.2 hk)
theorem zones_at {zs : List Int} {m z : Nat} (h : zonesB zs ((m : Int) - 1) = true) (hz : z < zs.length) : 0 ≤ zs.getD z 0 ∧ zs.getD z 0 < zEnd zs m z ∧ zEnd zs m z ≤ m := by
  simp only [zonesB, Bool.and_eq_true] at h
  have h0 := riseAt_of h.2 hz
  simp only [riseAt, inB, Bool.and_eq_true, decide_eq_true_eq] at h0
  unfold zEnd
  split
  · rename_i hlt
    have h1 := riseAt_of h.2 hlt
    simp only [riseAt, inB, Bool.and_eq_true, decide_eq_true_eq, Bool.or_eq_true, Nat.add_sub_cancel] at h1
    have h2 : zs.getD z 0 < zs.getD (z + 1) 0 := by
      rcases h1.2 with h3 | h3
      · simp at h3
      · exact h3
    omega
  · omega
theorem zones_len {zs : List Int} {m : Nat} (h : zonesB zs ((m : Int) - 1) = true) : 1 ≤ zs.length ∧ zs.length ≤ 8 := by
  simp only [zonesB, Bool.and_eq_true, inB, decide_eq_true_eq] at h
  omega

theorem rd_cap {w : World} {ao : Option Addr} {n cap n' : Nat} {xs : List Value} (h : Rd w (.slice ao n cap) n' xs) : n ≤ cap := by
  rcases h with ⟨_, ⟨_, _, ao', cap', hv, _⟩ | ⟨_, b, off, m, hv, hlc, _⟩⟩
  · cases hv; exact Nat.zero_le _
  · cases hv; exact hlc

set_option maxHeartbeats 800000 in
theorem zoneEnd_c (nm : ByteArray) (sv : Value) (ps : List (Int × Int × Int)) (v : Value) (zs : List Int) (z : Nat) (w : World) (hr : Rd w sv ps.length (trips ps)) (h : Rd w v zs.length (ints zs)) (hz : z < zs.length) (hl : zs.length ≤ 8) :
    Calls Tryz.prog 133 #[.agg #[.string nm, sv], v, .int .i64 z] w (RetB (.int .i64 (zEnd zs ps.length z)) w) := by
  have hs := fun w' (hb : Below w.heap.size w w') => sizeR_c sv ps.length (trips ps) w' (hr.later hb)
  have HS := Lib.hid hs; clear hs
  by_cases t : z + 1 < zs.length
  · have he : zEnd zs ps.length z = zs.getD (z + 1) 0 := by simp [zEnd, t]
    rw [he]
    clear he hr
    generalize hn : zs.length = n at *
    have HN := Lib.hid hn; clear hn
    obtain ⟨hn, ao, cap, bb, off, rfl, hao, hcell⟩ := h.open
    clear h
    have t1 : (z : Int) + 1 < n := by omega
    go_enter Tryz.func133, Tryz.ntmps133
    have b0 : Below w.heap.size w w := Below.refl _ _
    have z0 : w.heap.size ≤ w.heap.size := Nat.le_refl _
    have hlt_q : z + 1 < zs.length := by rw [HN.out]; omega
    have hix_q := ix (P := Tryz.prog) (T := 42) (cap := cap) Tryz.underlying42 cells_int64 has_int64 hao (k := z + 1) (by omega) ((z : Int) + 1) (by omega)
    rw [Nat.mul_one] at hix_q
    have hq : ∀ o, (w.alloc o).cell? ⟨bb, off + (z + 1), none⟩ = some (.int .i64 (zs.getD (z + 1) 0)) := fun o => alloc_cell o (by rw [getD_eq hlt_q]; exact hcell _ (Below.refl _ _) _ _ (by omega) (intsAt hlt_q))
    clear hcell hlt_q
    generalize zs.getD (z + 1) 0 = q0 at *
    go_wp2
    go_returns
    exact RetB.mk rfl (by go_grown)
  · have he : zEnd zs ps.length z = ps.length := by simp [zEnd, t]
    rw [he]
    clear he
    obtain ⟨hn2, ao2, cap2, b2, off2, rfl, hao2, hcell2⟩ := hr.open
    clear hcell2 hr
    generalize hn : zs.length = n at *
    have HN := Lib.hid hn; clear hn
    obtain ⟨hn, ao, cap, bb, off, rfl, hao, hcell⟩ := h.open
    clear h
    have t1 : ¬ (z : Int) + 1 < n := by omega
    clear hcell
    go_enter Tryz.func133, Tryz.ntmps133
    have b0 : Below w.heap.size w w := Below.refl _ _
    have z0 : w.heap.size ≤ w.heap.size := Nat.le_refl _
    go_wp2_with fail
    refine (HS.out _ (by go_grown)).mono ?_
    rintro _ _ ⟨rfl, rfl⟩
    go_wp2
    go_returns
    exact RetB.mk rfl (by go_grown)

set_option maxRecDepth 100000 in
set_option maxHeartbeats 1600000 in
theorem zoneWalls_c (nm : ByteArray) (sv : Value) (ps : List (Int × Int × Int)) (v : Value) (zs : List Int) (w : World) (hr : Rd w sv ps.length (trips ps)) (h : Rd w v zs.length (ints zs)) (hal : ps.all ringT = true) (hl : ps.length ≤ 32) (hzb : zonesB zs ((ps.length : Int) - 1) = true) :
    Calls Tryz.prog 121 #[.agg #[.string nm, sv], v] w (RetOwnI (zwK ps zs zs.length) w) := by
  obtain ⟨hz1, hz8⟩ := zones_len hzb
  have hza := fun k (hk : k < zs.length) => zones_at hzb hk
  have hze := fun w' k (hk : k < zs.length) (hb : Below w.heap.size w w') => zoneEnd_c nm sv ps v zs k w' (hr.later hb) (h.later hb) hk hz8
  have hst := fun k => (show zwK ps zs k ++ [rnd (wsK ps (zs.getD k 0).toNat (zEnd zs ps.length k - zs.getD k 0).toNat) (zEnd zs ps.length k - zs.getD k 0)] = zwK ps zs (k + 1) from rfl)
  have hbd := wsK_bd hal
  have hcp : ∀ ao n cap, sv = .slice ao n cap → n ≤ cap := fun _ _ _ e => rd_cap (e ▸ hr)
  clear hzb
  have HZA := Lib.hid hza; clear hza
  have HZE := Lib.hid hze; clear hze
  have HST := Lib.hid hst; clear hst
  have HBD := Lib.hid hbd; clear hbd
  have HAL := Lib.hid hal; clear hal
  generalize hn : ps.length = n at *
  have HN := Lib.hid hn; clear hn
  obtain ⟨hn, ao, cap, bb, off, rfl, hao, hcell⟩ := hr.open
  clear hr
  have hcp' := hcp _ _ _ rfl
  clear hcp
  generalize hnz : zs.length = nz at *
  have HNz := Lib.hid hnz; clear hnz
  obtain ⟨hnz, aoz, capz, bbz, offz, rfl, haoz, hcellz⟩ := h.open
  clear h
  go_enter Tryz.func121, Tryz.ntmps121
  have b0 : Below w.heap.size w w := Below.refl _ _
  have z0 : w.heap.size ≤ w.heap.size := Nat.le_refl _
  go_wp2_with fail
  go_loopw [14, 5] (fun i u wr => ∃ (k : Nat), k ≤ nz ∧ i = .int .i64 k ∧ OwnI (w.heap.size + 1) wr u (zwK ps zs k) ∧ Below w.heap.size w wr ∧ wr.cell? ⟨w.heap.size, 0, none⟩ = some (.string nm) ∧ wr.cell? ⟨w.heap.size, 1, none⟩ = some (.slice ao n cap)) (fun i u _ => nz - (intOf i).toNat)
  case atStart => exact ⟨0, Nat.zero_le _, rfl, World.ownsRow_nil _ _ _ _, (by go_grown), (by simp [go_sem]), (by simp [go_sem])⟩
  case round =>
    obtain ⟨k, hk, rfl, ho, br0, c0_0_r0, c0_1_r0⟩ := hrel
    have zr0 := br0.size
    have hlen := zwK_len ps zs k
    have hlo := own_lo ho
    have HO := Lib.hid ho; clear ho
    have LO := Lib.hid hlo; clear hlo
    by_cases hlt : k < nz
    · skip
      have hlt_q : k < zs.length := by rw [HNz.out]; omega
      have hix_q := ix (P := Tryz.prog) (T := 42) (cap := capz) Tryz.underlying42 cells_int64 has_int64 haoz (k := k) (by omega) _ (rfl)
      rw [Nat.mul_one] at hix_q
      have hq : wr.cell? ⟨bbz, offz + k, none⟩ = some (.int .i64 (zs.getD k 0)) := by rw [getD_eq hlt_q]; exact hcellz _ br0 _ _ (by omega) (intsAt hlt_q)
      obtain ⟨g1, g2, g3⟩ := HZA.out k hlt
      have hs := HST.out k
      have he := HZE.out
      obtain ⟨A, hA⟩ : ∃ A : Nat, zs.getD k 0 = A := ⟨_, (Int.toNat_of_nonneg g1).symm⟩
      obtain ⟨E, hE⟩ : ∃ E : Nat, zEnd zs n k = E := ⟨(zEnd zs n k).toNat, (Int.toNat_of_nonneg (by omega)).symm⟩
      have hek := fun w' hb => HZE.out w' k hlt hb
      rw [hA, hE] at g2 hs
      rw [hE] at g3 hek
      rw [hA] at hq
      have e1 : ((A : Int)).toNat = A := Int.toNat_natCast A
      have e2 : ((E : Int) - A).toNat = E - A := by omega
      rw [e1, e2] at hs
      have hsum := HBD.out A (E - A) (by omega)
      have hm := fun w' => nearest_c (wsK ps A (E - A)) ((E : Int) - A) w' (by omega) (by omega) (by omega) (by omega)
      obtain rfl : ao = some ⟨bb, off, none⟩ := hao (by omega)
      have f1 : (0 : Int) ≤ (A : Int) := by omega
      have f2 : (A : Int) ≤ (E : Int) := by omega
      have f3 : (E : Int) ≤ (cap : Int) := by omega
      have HS := Lib.hid hs; clear hs
      have HM := Lib.hid hm; clear hm
      have HEK := Lib.hid hek; clear hek
      clear he hcellz e1 e2
      go_wp2_with fail
      refine (HEK.out _ br0).mono ?_
      rintro _ wr1 ⟨rfl, rr1⟩
      have sr1 := rr1
      have br1 := br0.trans (sr1.mono zr0)
      have zr1 := br1.size
      have yr1 := sr1.size
      have c0_0_r1 := below_cell sr1 c0_0_r0; clear c0_0_r0
      have c0_1_r1 := below_cell sr1 c0_1_r0; clear c0_1_r0
      have o1_r1 := own_later HO.out sr1; have O1_r1 := Lib.hid o1_r1; clear o1_r1
      clear rr1
      go_wp2_with fail
      go_loopw [29, 8] (fun i s wr => ∃ (j : Nat), j ≤ E - A ∧ i = .int .i64 j ∧ s = .int .i64 (wsK ps A j) ∧ Below wr1.heap.size wr1 wr) (fun i _ _ => (E - A) - (intOf i).toNat)
      case atStart => exact ⟨0, Nat.zero_le _, rfl, rfl, Below.refl _ _⟩
      case round =>
        obtain ⟨j, hj, rfl, rfl, hbi⟩ := hrel
        by_cases hlj : j < E - A
        · have hAj : A + j < ps.length := by rw [HN.out]; omega
          have hring := all_at HAL.out hAj
          have hix_p := ix (P := Tryz.prog) (T := 24) (n := E - A) (cap := cap - A) Tryz.underlying24 cells_Ring has_Ring (ao := some ⟨bb, off + A * 3, none⟩) (b := bb) (off := off + A * 3) (fun _ => rfl) (k := j) hlj _ rfl
          have b2 : Below w.heap.size w wr := br1.trans (hbi.mono zr1)
          have hp0 : wr.cell? ⟨bb, off + A * 3 + j * 3, none⟩ = some (.int .i64 (rg ps (A + j)).1) := by rw [show off + A * 3 + j * 3 = off + (A + j) * 3 by omega, rg_eq hAj]; exact hcell _ b2 _ _ (by omega) (trips_at hAj).1
          have hp1 : wr.cell? ⟨bb, off + A * 3 + j * 3 + 1, none⟩ = some (.int .i64 (rg ps (A + j)).2.1) := by rw [show off + A * 3 + j * 3 = off + (A + j) * 3 by omega, rg_eq hAj]; exact hcell _ b2 _ _ (by omega) (trips_at hAj).2.1
          have hp2 : wr.cell? ⟨bb, off + A * 3 + j * 3 + 2, none⟩ = some (.int .i64 (rg ps (A + j)).2.2) := by rw [show off + A * 3 + j * 3 = off + (A + j) * 3 by omega, rg_eq hAj]; exact hcell _ b2 _ _ (by omega) (trips_at hAj).2.2
          have hw := fun w' => wallT_c (rg ps (A + j)) w' hring
          have hsj : wsK ps A j + wallT (rg ps (A + j)) = wsK ps A (j + 1) := rfl
          have hb1 := HBD.out A j (by omega)
          have hb2 := HBD.out A (j + 1) (by omega)
          rw [← hsj] at hb2
          have HSJ := Lib.hid hsj; clear hsj
          have HW := Lib.hid hw; clear hw
          clear hcell hring
          generalize wallT (rg ps (A + j)) = x at *
          generalize (rg ps (A + j)).1 = x0 at *
          generalize (rg ps (A + j)).2.1 = x1 at *
          generalize (rg ps (A + j)).2.2 = x2 at *
          generalize wsK ps A j = s0 at *
          have hlji : (j : Int) < ((E - A : Nat) : Int) := by omega
          go_wp2_with fail
          refine (HW.out _).mono ?_
          rintro _ w5 ⟨rfl, r5⟩
          have sz1 := hbi.size
          have b5 : Below wr1.heap.size wr1 w5 := Below.trans (hbi.trans (Below.mono (by go_grown) sz1)) (r5.mono (by simp; try omega))
          go_wp2
          go_roundw
          case rel => exact ⟨j + 1, by omega, by go_num, by rw [← HSJ.out], b5⟩
          case measure => simp [intOf]; omega
        · obtain rfl : j = E - A := by omega
          have sr2 := hbi
          have br2 := br1.trans (sr2.mono zr1)
          have zr2 := br2.size
          have yr2 := sr2.size
          have c0_0_r2 := below_cell sr2 c0_0_r1; clear c0_0_r1
          have c0_1_r2 := below_cell sr2 c0_1_r1; clear c0_1_r1
          have o1_r2 := own_later O1_r1.out sr2; have O1_r2 := Lib.hid o1_r2; clear o1_r2
          clear hcell
          clear hlj hj hsum
          generalize wsK ps A (E - A) = s0 at *
          go_wp2_with fail
          refine (HM.out _).mono ?_
          rintro _ wr3 ⟨rfl, dr3⟩
          have rr3 := Dr.below dr3; clear dr3
          have sr3 := rr3
          have br3 := br2.trans (sr3.mono zr2)
          have zr3 := br3.size
          have yr3 := sr3.size
          have c0_0_r3 := below_cell sr3 c0_0_r2; clear c0_0_r2
          have c0_1_r3 := below_cell sr3 c0_1_r2; clear c0_1_r2
          have o1_r3 := own_later O1_r2.out sr3; have O1_r3 := Lib.hid o1_r3; clear o1_r3
          clear rr3
          have zz3 : w.heap.size + 1 ≤ wr3.heap.size := World.block_lt_of_cell? _ ⟨w.heap.size, 0, none⟩ c0_0_r3
          go_wp2_with (at_builtin; refine app_I (.tmp 38) (.tmp 44) _ _ _ _ _ (by rfl) (by rfl) (by rfl) (by rfl) O1_r3.out (by omega) zz3 ?_; intro v2 w9 o9 q9)
          have d0 := cell_only q9 c0_0_r3 (fun h => by have := LO.out _ h; simp at this; omega)
          have d1 := cell_only q9 c0_1_r3 (fun h => by have := LO.out _ h; simp at this; omega)
          have hb2 := Only.below br3 q9 zr3 (fun k h => by have := LO.out k h; omega)
          go_wp2
          go_roundw
          case rel => exact ⟨k + 1, by omega, by go_num, by rw [← HS.out]; exact o9, hb2, d0, d1⟩
          case measure => simp [intOf]; omega
    · obtain rfl : k = nz := by omega
      clear hcell hcellz
      go_wp2
      go_returns
      exact ⟨_, rfl, own_base HO.out (by omega), br0⟩

end Go.Proofs.YtgdadbmhdljcdaaGreatDoor

/- A region that draws its order: its first operations leave the world in a class, the others follow one another by force. One walk. -/
namespace Go.Proofs.Bell
set_option linter.unusedVariables false
open Go.RowKit

section
variable {P : Program} {ops : Array Oper} {md : Region.Mode} {C : World → Prop}

/-- the head of the region, whatever order is picked: each operation that may come up is one of the head's and is quiet in the class -/
def HeadQ (P : Program) (md : Region.Mode) (ops : Array Oper) (C : World → Prop) (n : Nat) (L : Array Bool → Act → Prop) : Nat → Array Bool → Act → Prop
  | 0, ls, a => L ls a
  | f + 1, ls, a => Region.ready md ops ls ≠ [] ∧ ∀ i ∈ Region.ready md ops ls, i < n ∧ qOp P ops C i (HeadQ P md ops C n L f (ls.setIfInBounds i true)) a

theorem HeadQ.any {n g : Nat} {L : Array Bool → Act → Prop} {Q : Exit → Act → World → Prop} (hL : ∀ ls a w, C w → L ls a → wpAny P md ops Q g ls a w) (f : Nat) :
    ∀ ls a w, C w → HeadQ P md ops C n L f ls a → wpAny P md ops Q (f + g) ls a w := by
  induction f with
  | zero => intro ls a w hw h; rw [Nat.zero_add]; exact hL ls a w hw h
  | succ f ih =>
    intro ls a w hw h
    rw [show f + 1 + g = (f + g) + 1 by omega]
    refine ⟨fun h0 => absurd h0 h.1, fun i hi => ?_⟩
    exact wpOp_of_qOp hw (fun a' w' hw' h' => ih _ a' w' hw' h') (h.2 i hi).2

/-- an operation of the head that may come up now may be taken first -/
theorem HeadQ.first {n i : Nat} {oi : Oper} {v : Value} {L : Array Bool → Act → Prop} (hi : ops[i]? = some oi) (hsel : ∀ (j : Nat) (o : Oper) cs b, ops[j]? = some o → o.op ≠ .select cs b)
    (hs : Region.sinkB md ops n = true) (hc : Region.chainB md ops n = true) (hn : n < ops.size) (hin : i < n) (hL : ∀ ls a, L ls a → ∀ j ∈ Region.ready md ops ls, n ≤ j) (f : Nat) :
    ∀ ls a, HeadInv md ops n ls →
      (∀ j oj, ops[j]? = some oj → j ≠ i → ls.getD j true = false → (∀ e ∈ oj.after, Region.binds md e = true → e.on ≠ i) → oi.apart ops oj = true) →
      i ∈ Region.ready md ops ls → YieldsIn P ops C oi v a → HeadQ P md ops C n L f (ls.setIfInBounds i true) (a.put oi.dst v) → HeadQ P md ops C n L (f + 1) ls a := by
  have low : ∀ ls, HeadInv md ops n ls → i ∈ Region.ready md ops ls → ∀ j ∈ Region.ready md ops ls, j < n := fun ls inv hr j hj =>
    Nat.lt_of_not_le fun h => tail_waits hs hc hn inv _ i rfl hin (mem_ready.1 hr).1 j h hj
  induction f with
  | zero =>
    intro ls a inv hap hr hy h
    refine ⟨List.ne_nil_of_mem hr, fun j hj => ⟨low ls inv hr j hj, ?_⟩⟩
    rcases Nat.decEq j i with hne | rfl
    · exact absurd (low ls inv hr j hj) (Nat.not_lt.2 (hL _ _ h j (ready_mono hj hne)))
    · exact hy.qOp hi h
  | succ f ih =>
    intro ls a inv hap hr hy h
    refine ⟨List.ne_nil_of_mem hr, fun j hj => ⟨low ls inv hr j hj, ?_⟩⟩
    rcases Nat.decEq j i with hne | rfl
    · obtain ⟨hju, oj, hoj, hall⟩ := mem_ready.1 hj
      have hiu := (mem_ready.1 hr).1
      have free : ∀ e ∈ oj.after, Region.binds md e = true → e.on ≠ i := fun e he hb heq => by
        have := hall e he hb
        rw [heq, getD_both hiu] at this
        cases this
      have step := qOp_put hoj (hap j oj hoj hne hju free) (fun cs b => hsel i oi cs b hi) (fun cs b => hsel j oj cs b hoj) hy (h.2 j (ready_mono hj hne)).2
      refine qOp_mono (fun a' ⟨y', h'⟩ => ih _ a' (inv.set hj (low ls inv hr j hj)) (fun k ok hk hki hku hf => ?_) (ready_mono hr (Ne.symm hne)) y' ?_) step
      · refine hap k ok hk hki ?_ hf
        rcases Nat.decEq j k with hjk | rfl
        · rwa [getD_set_ne true hjk] at hku
        · exact hju
      · rw [Array.setIfInBounds_comm _ _ hne]; exact h'
    · exact hy.qOp hi h

theorem HeadQ.lex {n g : Nat} {R : Act → Prop} (hsel : Region.noSelect ops = true) (hs : Region.sinkB md ops n = true) (hc : Region.chainB md ops n = true) (hn : n < ops.size) (l : List Oper) :
    ∀ k ls a, (∀ j, j < l.length → l[j]? = ops[k + j]?) → k + l.length = n → HeadInv md ops n ls → Region.lexHead md ops g l.length k ls = true → wpQuiet P ops C R l a →
      HeadQ P md ops C n (fun ls' a' => Region.seqB md ops g n ls' = true ∧ R a') l.length ls a := by
  induction l with
  | nil =>
    intro k ls a _ hk _ hB h
    simp only [List.length_nil, Nat.add_zero] at hk
    subst hk
    exact ⟨by simpa [Region.lexHead] using hB, h⟩
  | cons o l ih =>
    intro k ls a hl hk inv hB h
    have h0 : ops[k]? = some o := by have := hl 0 (by simp); simpa using this.symm
    simp only [List.length_cons, Region.lexHead, Bool.and_eq_true] at hB hk
    have hq : qOp P ops C k (wpQuiet P ops C R l) a := by unfold qOp; simp only [h0]; exact h
    obtain ⟨v, hy, hR⟩ := yieldsIn_of_qOp h0 hq
    have hr : k ∈ Region.ready md ops ls := by simpa using hB.1.1
    refine HeadQ.first h0 (Region.noSelect_spec hsel) hs hc hn (by omega) (fun ls' a' hL => seqB_ready hL.1) _ ls a inv (Region.free_spec h0 hB.1.2) hr hy ?_
    exact ih (k + 1) _ _ (fun j hj => by have := hl (j + 1) (by simp; omega); simpa [Nat.add_assoc, Nat.add_comm 1 j] using this) (by omega) (inv.set hr (by omega)) hB.2 hR

/-- **THE WALK**: the first `n` operations in the text's order, quiet in the class; then the others, one behind the other, from every world of the class -/
theorem wp_region_quiet_tail {id : Nat} {Q : Exit → Act → World → Prop} {a : Act} {w : World} {l : List Oper} (n : Nat) (hm : P.follows .mixedOrders = true) (hB : Region.lexTailB .any l.toArray n = true) (hC : C { w with drawn := w.drawn + 1 })
    (h : wpQuiet P l.toArray C (fun a' => ∀ w', C w' → wpList P l.toArray Q (l.drop n) a' w') (l.take n) a) : (Code.region id l.toArray true).wp P Q a w := by
  simp only [Region.lexTailB, Bool.and_eq_true, decide_eq_true_eq] at hB
  obtain ⟨⟨⟨⟨hsel, hn⟩, hs⟩, hc⟩, hlex⟩ := hB
  have hnl : n < l.length := by simpa using hn
  have htl : (l.take n).length = n := by rw [List.length_take]; omega
  have inv : HeadInv .any l.toArray n (Array.replicate l.toArray.size false) :=
    { size := by simp
      closed := fun j oj _ hl => by rw [getD_replicate_false] at hl; cases hl
      tail := fun t _ ht => getD_in (by simpa using ht) (getD_replicate_false _ _) }
  have H := HeadQ.lex (md := .any) (g := l.toArray.size - n) hsel hs hc hn (l.take n) 0 _ a (fun j hj => by rw [htl] at hj; simp [List.getElem?_take, hj]) (by omega) inv (by rw [htl]; exact hlex) h
  refine wp_region_any hm ?_
  have hfin := HeadQ.any (Q := Q) (g := l.toArray.size - n) (fun ls a' w' hw' hL => by
    have := wpAny_of_seq (md := .any) (Q' := Q) (l.drop n) n ls a' w' (fun j => by simp [List.getElem?_drop]) (by simpa using hL.1) (hL.2 w' hw')
    simpa using this) _ _ _ _ hC H
  rw [htl, show n + (l.toArray.size - n) = l.toArray.size by omega] at hfin
  exact hfin

/-- .. the class: the worlds behind `w` that leave alone what was there -/
theorem wp_region_lat_tail {id : Nat} {Q : Exit → Act → World → Prop} {a : Act} {w : World} {l : List Oper} (n : Nat) (hm : P.follows .mixedOrders = true) (hB : Region.lexTailB .any l.toArray n = true)
    (h : wpQuiet P l.toArray (fun w' => ∃ s : Lat w, w' = s.world) (fun a' => ∀ w', (∃ s : Lat w, w' = s.world) → wpList P l.toArray Q (l.drop n) a' w') (l.take n) a) : (Code.region id l.toArray true).wp P Q a w :=
  wp_region_quiet_tail (C := fun w' => ∃ s : Lat w, w' = s.world) n hm hB ⟨⟨w.drew, (Below.refl _ _).drew⟩, rfl⟩ h

/-- .. the class: draws alone -/
theorem wp_region_drew_tail {id : Nat} {Q : Exit → Act → World → Prop} {a : Act} {w : World} {l : List Oper} (n : Nat) (hm : P.follows .mixedOrders = true) (hB : Region.lexTailB .any l.toArray n = true)
    (h : wpQuiet P l.toArray (fun w' => ∃ m, w' = w.drewN m) (fun a' => ∀ w', (∃ m, w' = w.drewN m) → wpList P l.toArray Q (l.drop n) a' w') (l.take n) a) : (Code.region id l.toArray true).wp P Q a w :=
  wp_region_quiet_tail (C := fun w' => ∃ m, w' = w.drewN m) n hm hB ⟨1, rfl⟩ h
end

end Go.Proofs.Bell

/- A profile, turned on the lathe. -/
namespace Go.Proofs.YtgdadbmhdljcdaaGreatDoor
set_option linter.unusedVariables false
open Go.RowKit Go.Proofs.Bell Go.BigFrame

def turnT (zs sums : List Int) (k : Nat) (r : Int × Int × Int) : Int × Int × Int := (r.1, r.2.1 + 10 * sums.getD (zoneI zs k) 0, r.2.2)

end Go.Proofs.YtgdadbmhdljcdaaGreatDoor

/- A profile, turned on the lathe: the program. -/
namespace Go.Proofs.YtgdadbmhdljcdaaGreatDoor
set_option linter.unusedVariables false
open Go.RowKit Go.Proofs.Bell Go.BigFrame

set_option maxRecDepth 100000 in
set_option maxHeartbeats 3200000 in
theorem turned_c (nm : ByteArray) (sv : Value) (ps : List (Int × Int × Int)) (v : Value) (zs : List Int) (u : Value) (sums : List Int) (w : World) (hr : Rd w sv ps.length (trips ps)) (h : Rd w v zs.length (ints zs)) (h2 : Rd w u sums.length (ints sums))
    (hl1 : 1 ≤ ps.length) (hl2 : ps.length ≤ 32) (hal : ps.all ringT = true) (hzb : zonesB zs ((ps.length : Int) - 1) = true) (hzs : zs.length ≤ sums.length) (hsb : ∀ k, 0 ≤ sums.getD k 0 ∧ sums.getD k 0 ≤ 1000000000000)
    (h00 : zs.getD 0 0 = 0) (hT : ∀ z (m : Nat), z < zs.length → zs.getD z 0 ≤ (m : Int) → (m : Int) < zEnd zs ps.length z → zoneI zs m = z) :
    Calls Tryz.prog 99 #[.agg #[.string nm, sv], v, u] w (RetOwnP nm (mapK (turnT zs sums) ps ps.length) w) := by
  obtain ⟨hz1, hz8⟩ := zones_len hzb
  have hza := fun k (hk : k < zs.length) => zones_at hzb hk
  have hze := fun w' k (hk : k < zs.length) (hb : Below w.heap.size w w') => zoneEnd_c nm sv ps v zs k w' (hr.later hb) (h.later hb) hk hz8
  have hc := fun w' (hb : Below w.heap.size w w') => copyProfile_c nm sv ps w' (hr.later hb) hl1 (by omega)
  have hnx : ∀ z, z + 1 < zs.length → zs.getD (z + 1) 0 = zEnd zs ps.length z := fun z hz => by simp only [zEnd, if_pos hz]
  have hny : ∀ z, z + 1 = zs.length → zEnd zs ps.length z = ps.length := fun z hz => by unfold zEnd; rw [if_neg (by omega)]
  obtain ⟨hn0, ao0, cap0, b0', off0, rfl, hao0, hcell0⟩ := hr.open
  clear hcell0 hao0 hr hzb
  have HZA := Lib.hid hza; clear hza
  have HZE := Lib.hid hze; clear hze
  have HC := Lib.hid hc; clear hc
  have HAL := Lib.hid hal; clear hal
  have HSB := Lib.hid hsb; clear hsb
  have HT := Lib.hid hT; clear hT
  have HNX := Lib.hid hnx; clear hnx
  have HNY := Lib.hid hny; clear hny
  have H00 := Lib.hid h00; clear h00
  generalize hns : sums.length = ns at *
  have HNS := Lib.hid hns; clear hns
  obtain ⟨hnn, aos, caps, bs, offs, rfl, haos, hcells⟩ := h2.open
  clear h2
  generalize hnz : zs.length = nz at *
  have HNz := Lib.hid hnz; clear hnz
  obtain ⟨hnz, aoz, capz, bbz, offz, rfl, haoz, hcellz⟩ := h.open
  clear h
  go_enter Tryz.func99, Tryz.ntmps99
  have b0 : Below w.heap.size w w := Below.refl _ _
  have z0 : w.heap.size ≤ w.heap.size := Nat.le_refl _
  go_wp2_with fail
  refine (HC.out _ (by go_grown)).mono ?_
  rintro _ w1 ⟨x1, rfl, n1, r1⟩
  have s1 : Below w.heap.size w w1 := Below.trans (by go_grown) (r1.mono (by simp; try omega))
  have b1 := b0.trans (s1.mono z0)
  have z1 := b1.size
  have y1 := s1.size
  have c0_0_1 := below_cell r1 (p := ⟨w.heap.size, 0, none⟩) (v := .string nm) (by simp [go_sem])
  have c0_1_1 := below_cell r1 (p := ⟨w.heap.size, 1, none⟩) (v := .slice ao0 ps.length cap0) (by simp [go_sem])
  have c1_0_1 := below_cell r1 (p := ⟨w.heap.size + 1, 0, none⟩) (v := .string ⟨#[]⟩) (by simp [go_sem])
  have c1_1_1 := below_cell r1 (p := ⟨w.heap.size + 1, 1, none⟩) (v := .slice none 0 0) (by simp [go_sem])
  have f1_1 : ∀ j, w1.frozen? ⟨w.heap.size + 1, j, none⟩ = false := fun j => (r1.frozen (p := ⟨w.heap.size + 1, j, none⟩) (by simp [go_sem])).trans (by simp [go_sem])
  clear r1
  obtain ⟨g2, cap2, rfl, hg2, hg3⟩ := World.ownsRow.form n1 hl1
  have O2 := Lib.hid n1; clear n1
  have zz : w.heap.size + 1 < w1.heap.size := World.block_lt_of_cell? _ ⟨w.heap.size + 1, 0, none⟩ c1_0_1
  simp at hg2
  have hI : InPl (w.heap.size + 1) w1.heap.size nm (.slice (some ⟨g2, 0, none⟩) ps.length cap2) ps w (w1.alloc (.cells #[.string nm, .slice (some ⟨g2, 0, none⟩) ps.length cap2] 26)) :=
    ⟨b1.alloc z1 _, by omega, alloc_cell _ c1_0_1, alloc_cell _ c1_1_1, fun j => (alloc_frozen _ (show w.heap.size + 1 < _ from zz)).trans (f1_1 j), by simp [go_sem], by simp [go_sem], own_base (own_later O2.out ((Below.refl _ _).alloc (Nat.le_refl _) _)) (by simp; try omega), fun k hk => by simp [Value.ownBlock] at hk; omega⟩
  have HI := Lib.hid hI; clear hI
  have ac0 := fun o => alloc_cell o c0_0_1
  have ac1 := fun o => alloc_cell o c0_1_1
  go_wp2_with fail
  go_loopw [15] (fun i wr => ∃ (z m : Nat), z ≤ nz ∧ i = .int .i64 z ∧ (z < nz → zs.getD z 0 = (m : Int)) ∧ (z = nz → m = ps.length) ∧ InPl (w.heap.size + 1) w1.heap.size nm (.slice (some ⟨g2, 0, none⟩) ps.length cap2) (mixK (turnT zs sums) ps m) w wr ∧ wr.cell? ⟨w.heap.size, 0, none⟩ = some (.string nm) ∧ wr.cell? ⟨w.heap.size, 1, none⟩ = some (.slice ao0 ps.length cap0)) (fun i _ => nz - (intOf i).toNat)
  case atStart => exact ⟨0, 0, Nat.zero_le _, rfl, fun _ => H00.out, fun e => by omega, by rw [mix_zero]; exact HI.out, ac0 _, ac1 _⟩
  case round =>
    obtain ⟨z, m, hk, rfl, hm1, hm2, hI, k0, k1⟩ := hrel
    have br := hI.below
    clear ac0 ac1
    by_cases hlt : z < nz
    · have hA := hm1 hlt
      have hltz : z < zs.length := by rw [HNz.out]; exact hlt
      obtain ⟨g1, g4, g3⟩ := HZA.out z hlt
      obtain ⟨E, hE⟩ : ∃ E : Nat, zEnd zs ps.length z = E := ⟨(zEnd zs ps.length z).toNat, (Int.toNat_of_nonneg (by omega)).symm⟩
      have hx1 := fun e => (HNX.out z e).trans hE
      have hx2 := fun e => hE.symm.trans (HNY.out z e)
      have hTz := fun (m' : Nat) (a1 : m ≤ m') (a2 : m' < E) => HT.out z m' hlt (by omega) (by omega)
      have hek := fun w' hb => HZE.out w' z hlt hb
      rw [hE] at hek g3
      rw [hA, hE] at g4
      have HX1 := Lib.hid hx1; clear hx1
      have HX2 := Lib.hid hx2; clear hx2
      have HTZ := Lib.hid hTz; clear hTz
      have HEK := Lib.hid hek; clear hek
      have hixz := ix (P := Tryz.prog) (T := 42) (cap := capz) Tryz.underlying42 cells_int64 has_int64 haoz (k := z) hlt _ rfl
      rw [Nat.mul_one] at hixz
      have hq : wr.cell? ⟨bbz, offz + z, none⟩ = some (.int .i64 (m : Int)) := by rw [← hA, getD_eq hltz]; exact hcellz _ br _ _ (by omega) (intsAt hltz)
      have hzl : z < sums.length := by rw [HNS.out]; omega
      have hixs := ix (P := Tryz.prog) (T := 42) (cap := caps) Tryz.underlying42 cells_int64 has_int64 haos (k := z) (by omega) _ rfl
      rw [Nat.mul_one] at hixs
      have hs0 : ∀ w', Below w.heap.size w w' → w'.cell? ⟨bs, offs + z, none⟩ = some (.int .i64 (sums.getD z 0)) := fun w' hb => by rw [getD_eq hzl]; exact hcells _ hb _ _ (by omega) (intsAt hzl)
      have HS0 := Lib.hid hs0; clear hs0
      have hss := HSB.out z
      clear hm1 hm2 hA hE hcells hcellz
      have HII := Lib.hid hI; clear hI
      go_wp2_with fail
      go_loopw [10] (fun i wr => ∃ (m' : Nat), m ≤ m' ∧ m' ≤ E ∧ i = .int .i64 m' ∧ InPl (w.heap.size + 1) w1.heap.size nm (.slice (some ⟨g2, 0, none⟩) ps.length cap2) (mixK (turnT zs sums) ps m') w wr ∧ wr.cell? ⟨w.heap.size, 0, none⟩ = some (.string nm) ∧ wr.cell? ⟨w.heap.size, 1, none⟩ = some (.slice ao0 ps.length cap0)) (fun i _ => E - (intOf i).toNat)
      case atStart => exact ⟨m, Nat.le_refl _, by omega, rfl, HII.out, k0, k1⟩
      case round =>
        obtain ⟨m', hj1, hj2, rfl, hI, k0, k1⟩ := hrel
        have br := hI.below
        have HIJ := Lib.hid hI; clear hI
        go_wp2_with fail
        refine (HEK.out _ (by go_grown)).mono ?_
        rintro _ w5 ⟨rfl, r5⟩
        have z5 : Below wr.heap.size wr w5 := Below.trans (by go_grown) (r5.mono (by simp; try omega))
        have hI := HIJ.out.later z5
        have l0 := below_cell z5 k0
        have l1 := below_cell z5 k1
        have b5 := hI.below
        clear k0 k1 r5
        by_cases hlj : m' < E
        · have hlt3 : m' < ps.length := by omega
          have hln := mix_len (turnT zs sums) (Nat.le_of_lt hlt3)
          have hq0 := hI.q0
          have hq1 := hI.q1
          obtain ⟨p0, p1, p2⟩ := hI.cells hln.symm hlt3
          have fz := hI.frozen hln.symm
          have hring := ringT_t (all_at HAL.out hlt3)
          rw [mix_at (turnT zs sums) (Nat.le_refl m') hlt3] at p0 p1 p2
          have hput := fun m => (hI.later (below_drewN (Below.refl _ _) m)).put hln.symm (m' * 3 + 1) (.int .i64 ((rg ps m').2.1 + 10 * sums.getD z 0)) (qs' := mixK (turnT zs sums) ps (m' + 1)) (by rw [hln, mix_len (turnT zs sums) hlt3]) (by
            rw [trips_put1 _ _ _ (by rw [hln]; exact hlt3), mix_at (turnT zs sums) (Nat.le_refl m') hlt3, ← mix_set (turnT zs sums) hlt3]
            simp only [turnT, HTZ.out m' hj1 hlj])
          have hix := ix (P := Tryz.prog) (T := 24) (cap := cap2) Tryz.underlying24 cells_Ring has_Ring (ao := some ⟨g2, 0, none⟩) (b := g2) (off := 0) (fun _ => rfl) (k := m') hlt3 _ rfl
          rw [Nat.zero_add] at hix
          have hs1 := HS0.out w5 b5
          have hlj1 : (m' : Int) < (E : Int) := by omega
          have HP := Lib.hid hput; clear hput
          clear hI
          generalize (rg ps m').2.1 = x0 at *
          generalize sums.getD z 0 = s0 at *
          go_wp2_with fail
          refine wp_region_drew_tail 14 (by kernel_rfl) (by kernel_rfl) ?_
          simp only [List.take_succ_cons, List.take_zero, List.drop_succ_cons, List.drop_zero]
          repeat (quiet_step (fail))
          refine wpQuiet_nil ?_
          rintro _ ⟨nq, rfl⟩
          go_wp2
          go_roundw
          case rel => exact ⟨m' + 1, by omega, by omega, by go_num, HP.out nq, by rw [World.cell?_setCell_other _ _ _ _ (by simp; try omega)]; exact below_cell (below_drewN (Below.refl _ _) _) l0, by rw [World.cell?_setCell_other _ _ _ _ (by simp; try omega)]; exact below_cell (below_drewN (Below.refl _ _) _) l1⟩
          case measure => simp [intOf]; omega
        · obtain rfl : m' = E := by omega
          have HI5 := Lib.hid hI; clear hI
          have hnl : ¬ (m' : Int) < (m' : Int) := by omega
          go_wp2_with fail
          go_roundw
          case rel => exact ⟨z + 1, m', by omega, by go_num, fun e => HX1.out e, fun e => by have := HX2.out e; omega, HI5.out, l0, l1⟩
          case measure => simp [intOf]; omega
    · obtain rfl : z = nz := by omega
      have hmn := hm2 rfl
      subst hmn
      have r0 := hI.r0
      have r1 := hI.r1
      have rf := hI.rf
      have hq0 := hI.q0
      have hq1 := hI.q1
      have o5 := hI.own
      rw [mix_end] at o5
      have lo5 := own_lo o5
      have O5 := Lib.hid o5; clear o5
      clear hI hcells hcellz hm1 hm2
      have hln2 := mapK_len (turnT zs sums) ps ps.length
      go_wp2
      refine bodyPost_ret (v := .agg #[.string nm, .slice (some ⟨g2, 0, none⟩) ps.length cap2]) (by simp [results, Tryz.results99, go_sem, r0, r1]) rfl ?_
      have o11 := own_set O5.out (a := ⟨w.heap.size + 1, 0, none⟩) (fun k hk => by have := lo5 k hk; simp; omega) (.string nm)
      have o12 := own_set o11 (a := ⟨w.heap.size + 1, 1, none⟩) (fun k hk => by have := lo5 k hk; simp; omega) (.slice (some ⟨g2, 0, none⟩) ps.length cap2)
      exact ⟨_, rfl, own_base o12 (by omega), (br.setCell (by simp) _).setCell (by simp) _⟩

end Go.Proofs.YtgdadbmhdljcdaaGreatDoor

/- The zone of a ring lies where the zones' bounds say. -/
namespace Go.Proofs.YtgdadbmhdljcdaaGreatDoor
set_option linter.unusedVariables false
open Go.RowKit Go.Proofs.Bell Go.BigFrame

theorem zs_step {zs : List Int} {m z : Nat} (h : zonesB zs ((m : Int) - 1) = true) (hz : z + 1 < zs.length) : zs.getD z 0 < zs.getD (z + 1) 0 := by
  have h1 := (zones_at h (show z < zs.length by omega)).2.1
  simpa only [zEnd, if_pos hz] using h1
theorem zs_rise {zs : List Int} {m z : Nat} (h : zonesB zs ((m : Int) - 1) = true) : ∀ d, z + d < zs.length → zs.getD z 0 ≤ zs.getD (z + d) 0
  | 0, _ => by simp
  | d + 1, hd => by
    have h1 := zs_rise (z := z) h d (by omega)
    have h2 := zs_step h (show (z + d) + 1 < zs.length by omega)
    rw [show z + (d + 1) = z + d + 1 by omega]
    omega
theorem zoneI_at {zs : List Int} {n z k : Nat} (h : zonesB zs ((n : Int) - 1) = true) (hz : z < zs.length) (h1 : zs.getD z 0 ≤ (k : Int)) (h2 : (k : Int) < zEnd zs n z) : zoneI zs k = z := by
  have key : ∀ d, z + 1 + d ≤ zs.length → lastLe zs k (z + 1 + d) = z := by
    intro d
    induction d with
    | zero => intro _; exact lastLe_yes hz (by rw [← getD_eq hz]; exact h1)
    | succ d ih =>
      intro hd
      have hlt : z + 1 + d < zs.length := by omega
      have hr := zs_rise (z := z + 1) h d hlt
      have he : zEnd zs n z = zs.getD (z + 1) 0 := by simp only [zEnd, if_pos (show z + 1 < zs.length by omega)]
      rw [show z + 1 + (d + 1) = (z + 1 + d) + 1 by omega, lastLe_no hlt (by rw [← getD_eq hlt]; omega)]
      exact ih (by omega)
  have := key (zs.length - (z + 1)) (by omega)
  rw [show z + 1 + (zs.length - (z + 1)) = zs.length by omega] at this
  exact this
theorem zoneI_lt (zs : List Int) (r : Int) (h : 1 ≤ zs.length) : zoneI zs r < zs.length := by
  unfold zoneI
  have key : ∀ k, 1 ≤ k → lastLe zs r k < k := by
    intro k hk
    obtain ⟨j, rfl⟩ : ∃ j, k = j + 1 := ⟨k - 1, by omega⟩
    unfold lastLe
    have := lastLe_le zs r j
    split <;> omega
  exact key _ h
theorem zs_zero {zs : List Int} {m : Nat} (h : zonesB zs ((m : Int) - 1) = true) : zs.getD 0 0 = 0 := by
  simp only [zonesB, Bool.and_eq_true, beq_iff_eq] at h
  exact h.1.2

end Go.Proofs.YtgdadbmhdljcdaaGreatDoor

