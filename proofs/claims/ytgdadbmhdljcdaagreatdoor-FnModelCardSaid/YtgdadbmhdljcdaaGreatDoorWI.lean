/- Several texts of the proofs in one: ZW2, ZW3. -/
import Derived.Test.YtgdadbmhdljcdaaGreatDoorGF
/- The mean walls of zones: the reference. -/
namespace Go.Proofs.YtgdadbmhdljcdaaGreatDoor
set_option linter.unusedVariables false
open Go.RowKit Go.Proofs.Bell Go.BigFrame

set_option maxRecDepth 100000 in
set_option maxHeartbeats 3200000 in
theorem l08Walls_c (g : Nat) (nm : ByteArray) (sv : Value) (ps : List (Int × Int × Int)) (v : Value) (zs : List Int) (w : World) (hg : g < w.heap.size) (c1 : w.cell? ⟨g, 1, none⟩ = some sv) (hr : Rd w sv ps.length (trips ps)) (h : Rd w v zs.length (ints zs)) (hal : ps.all ringT = true) (hl : ps.length ≤ 32) (hzb : zonesB zs ((ps.length : Int) - 1) = true) :
    Calls Tryz.prog 177 #[.pointer (some ⟨g, 0, none⟩), v] w (RetOwnI (zwK ps zs zs.length) w) := by
  obtain ⟨hzl1, hzl8⟩ := zones_len hzb
  have hza := fun k (hk : k < zs.length) => zones_at hzb hk
  have hst := fun k => (show zwK ps zs k ++ [rnd (wsK ps (zs.getD k 0).toNat (zEnd zs ps.length k - zs.getD k 0).toNat) (zEnd zs ps.length k - zs.getD k 0)] = zwK ps zs (k + 1) from rfl)
  have hbd := wsK_bd hal
  clear hzb
  have HZA := Lib.hid hza; clear hza
  have HST := Lib.hid hst; clear hst
  have HBD := Lib.hid hbd; clear hbd
  have HAL := Lib.hid hal; clear hal
  generalize hn : ps.length = n at *
  have HN := Lib.hid hn; clear hn
  obtain ⟨hn, ao, cap, bb, off, rfl, hao, hcell⟩ := hr.open
  clear hr
  generalize hnz : zs.length = nz at *
  have HNz := Lib.hid hnz; clear hnz
  obtain ⟨hnz, aoz, capz, bbz, offz, rfl, haoz, hcellz⟩ := h.open
  clear h
  have hco : ∀ wr, Below w.heap.size w wr → wr.cell? ⟨g, 1, none⟩ = some (.slice ao n cap) := fun wr hb => below_cell hb c1
  have HCO := Lib.hid hco; clear hco
  go_enter Tryz.func177, Tryz.ntmps177
  have b0 : Below w.heap.size w w := Below.refl _ _
  have z0 : w.heap.size ≤ w.heap.size := Nat.le_refl _
  go_wp2_with fail
  go_loopw [6, 5] (fun i u wr => ∃ (k : Nat), k ≤ nz ∧ i = .int .i64 k ∧ OwnI w.heap.size wr u (zwK ps zs k) ∧ Below w.heap.size w wr) (fun i u _ => nz - (intOf i).toNat)
  case atStart => exact ⟨0, Nat.zero_le _, rfl, own_empty _ _ _ _ (Nat.le_refl _), (by go_grown)⟩
  case round =>
    obtain ⟨k, hk, rfl, ho, br0⟩ := hrel
    have zr0 := br0.size
    have hlen := zwK_len ps zs k
    have hlo := own_lo ho
    have HO := Lib.hid ho; clear ho
    have LO := Lib.hid hlo; clear hlo
    have hb1 := br0
    have hz1 := zr0
    clear c1
    by_cases hlt : k < nz
    · have hltz : k < zs.length := by rw [HNz.out]; exact hlt
      have e0 := HCO.out wr hb1
      obtain ⟨g1, g2, g3⟩ := HZA.out k hlt
      have hs := HST.out k
      obtain ⟨A, hA⟩ : ∃ A : Nat, zs.getD k 0 = A := ⟨_, (Int.toNat_of_nonneg g1).symm⟩
      obtain ⟨E, hE⟩ : ∃ E : Nat, zEnd zs n k = E := ⟨(zEnd zs n k).toNat, (Int.toNat_of_nonneg (by omega)).symm⟩
      have hixz := ix (P := Tryz.prog) (T := 42) (cap := capz) Tryz.underlying42 cells_int64 has_int64 haoz (k := k) hlt _ rfl
      rw [Nat.mul_one] at hixz
      have hq : wr.cell? ⟨bbz, offz + k, none⟩ = some (.int .i64 (A : Int)) := by rw [← hA, getD_eq hltz]; exact hcellz _ hb1 _ _ (by omega) (intsAt hltz)
      rw [hA, hE] at g2 hs
      rw [hE] at g3
      have e1 : ((A : Int)).toNat = A := Int.toNat_natCast A
      have e2 : ((E : Int) - A).toNat = E - A := by omega
      rw [e1, e2] at hs
      have hsum := HBD.out A (E - A) (by omega)
      have hm := fun w' => l01Div_c (wsK ps A (E - A)) ((E : Int) - A) w' (by omega) (by omega) (by omega) (by omega)
      have HS := Lib.hid hs; clear hs
      have HM := Lib.hid hm; clear hm
      clear e1 e2
      by_cases t : k + 1 < nz
      · have hE2 : zs.getD (k + 1) 0 = E := by rw [← hE]; unfold zEnd; rw [HNz.out, if_pos t]
        have hltz2 : k + 1 < zs.length := by rw [HNz.out]; exact t
        have hix2 := ix (P := Tryz.prog) (T := 42) (cap := capz) Tryz.underlying42 cells_int64 has_int64 haoz (k := k + 1) t ((k : Int) + 1) (by omega)
        rw [Nat.mul_one] at hix2
        have hq2 : wr.cell? ⟨bbz, offz + (k + 1), none⟩ = some (.int .i64 (E : Int)) := by rw [← hE2, getD_eq hltz2]; exact hcellz _ hb1 _ _ (by omega) (intsAt hltz2)
        have t1 : (k : Int) + 1 < nz := by omega
        generalize wr = w1 at *
        clear hE hE2
        · skip
          go_wp2_with fail
          go_loopw [8, 9] (fun s i wr => ∃ (m : Nat), A ≤ m ∧ m ≤ E ∧ s = .int .i64 (wsK ps A (m - A)) ∧ i = .int .i64 (m : Int) ∧ Below w1.heap.size w1 wr) (fun _ i _ => E - (intOf i).toNat)
          case atStart => exact ⟨A, Nat.le_refl _, by omega, by rw [Nat.sub_self]; rfl, rfl, Below.refl _ _⟩
          case round =>
            obtain ⟨m, hj, hm2, rfl, rfl, hbi⟩ := hrel
            have b2 : Below w.heap.size w wr := hb1.trans (hbi.mono hz1)
            have e1 := HCO.out wr b2
            by_cases hlj : m < E
            · have hAj : m < ps.length := by rw [HN.out]; omega
              have hring := ringT_t (all_at HAL.out hAj)
              have hix_p := ix (P := Tryz.prog) (T := 24) (n := _) (cap := cap) Tryz.underlying24 cells_Ring has_Ring hao (k := m) (by omega) _ rfl
              have hp0 : wr.cell? ⟨bb, off + m * 3, none⟩ = some (.int .i64 (rg ps m).1) := by rw [rg_eq hAj]; exact hcell _ b2 _ _ (by omega) (trips_at hAj).1
              have hp1 : wr.cell? ⟨bb, off + m * 3 + 1, none⟩ = some (.int .i64 (rg ps m).2.1) := by rw [rg_eq hAj]; exact hcell _ b2 _ _ (by omega) (trips_at hAj).2.1
              have hsj : wsK ps A (m - A) + ((rg ps m).1 - (rg ps m).2.1) = wsK ps A (m + 1 - A) := by
                rw [show m + 1 - A = (m - A) + 1 by omega, wsK, show A + (m - A) = m by omega]; rfl
              have hq1 := HBD.out A (m - A) (by omega)
              have hq3 : (0 : Int) ≤ wsK ps A (m - A) ∧ wsK ps A (m - A) ≤ 4800000 := by omega
              have HSJ := Lib.hid hsj; clear hsj
              clear hcell hcellz hsum hq1
              generalize (rg ps m).1 = x0 at *
              generalize (rg ps m).2.1 = x1 at *
              generalize wsK ps A (m - A) = s0 at *
              go_wp2_with fail
              go_quiet (fail)
              go_wp2
              go_roundw
              case rel => exact ⟨m + 1, by omega, by omega, by rw [← HSJ.out], by go_num, by first | exact below_drewN hbi _ | exact hbi | go_grown⟩
              case measure => simp [intOf]; omega
            · obtain rfl : m = E := by omega
              have hq5 : wr.cell? ⟨bbz, offz + k, none⟩ = some (.int .i64 (A : Int)) := by rw [← hA, getD_eq hltz]; exact hcellz _ b2 _ _ (by omega) (intsAt hltz)
              have o5 := own_later HO.out hbi
              have z5 := b2.size
              clear hcell hcellz hj hsum hm2
              generalize wsK ps A (m - A) = s0 at *
              have O5 := Lib.hid o5; clear o5
              go_wp2_with fail
              refine (HM.out _).mono ?_
              rintro _ _ ⟨rfl, rfl⟩
              go_wp2_with (at_builtin; refine app_I (.tmp 60) (.tmp 69) _ _ _ _ _ (by rfl) (by rfl) (by rfl) (by rfl) O5.out (by omega) z5 ?_; intro v2 w9 o9 q9)
              have b9 := Only.below b2 q9 z5 LO.out
              go_wp2
              go_roundw
              case rel => exact ⟨k + 1, by omega, by go_num, by rw [← HS.out]; exact o9, b9⟩
              case measure => simp [intOf]; omega
      · have hE2 : E = n := by
          have e := hE
          unfold zEnd at e
          rw [HNz.out, if_neg t] at e
          omega
        have t1 : ¬ (k : Int) + 1 < nz := by omega
        subst hE2
        generalize wr = w1 at *
        clear hE
        · skip
          go_wp2_with fail
          go_loopw [8, 9] (fun s i wr => ∃ (m : Nat), A ≤ m ∧ m ≤ E ∧ s = .int .i64 (wsK ps A (m - A)) ∧ i = .int .i64 (m : Int) ∧ Below w1.heap.size w1 wr) (fun _ i _ => E - (intOf i).toNat)
          case atStart => exact ⟨A, Nat.le_refl _, by omega, by rw [Nat.sub_self]; rfl, rfl, Below.refl _ _⟩
          case round =>
            obtain ⟨m, hj, hm2, rfl, rfl, hbi⟩ := hrel
            have b2 : Below w.heap.size w wr := hb1.trans (hbi.mono hz1)
            have e1 := HCO.out wr b2
            by_cases hlj : m < E
            · have hAj : m < ps.length := by rw [HN.out]; omega
              have hring := ringT_t (all_at HAL.out hAj)
              have hix_p := ix (P := Tryz.prog) (T := 24) (n := _) (cap := cap) Tryz.underlying24 cells_Ring has_Ring hao (k := m) (by omega) _ rfl
              have hp0 : wr.cell? ⟨bb, off + m * 3, none⟩ = some (.int .i64 (rg ps m).1) := by rw [rg_eq hAj]; exact hcell _ b2 _ _ (by omega) (trips_at hAj).1
              have hp1 : wr.cell? ⟨bb, off + m * 3 + 1, none⟩ = some (.int .i64 (rg ps m).2.1) := by rw [rg_eq hAj]; exact hcell _ b2 _ _ (by omega) (trips_at hAj).2.1
              have hsj : wsK ps A (m - A) + ((rg ps m).1 - (rg ps m).2.1) = wsK ps A (m + 1 - A) := by
                rw [show m + 1 - A = (m - A) + 1 by omega, wsK, show A + (m - A) = m by omega]; rfl
              have hq1 := HBD.out A (m - A) (by omega)
              have hq3 : (0 : Int) ≤ wsK ps A (m - A) ∧ wsK ps A (m - A) ≤ 4800000 := by omega
              have HSJ := Lib.hid hsj; clear hsj
              clear hcell hcellz hsum hq1
              generalize (rg ps m).1 = x0 at *
              generalize (rg ps m).2.1 = x1 at *
              generalize wsK ps A (m - A) = s0 at *
              go_wp2_with fail
              go_quiet (fail)
              go_wp2
              go_roundw
              case rel => exact ⟨m + 1, by omega, by omega, by rw [← HSJ.out], by go_num, by first | exact below_drewN hbi _ | exact hbi | go_grown⟩
              case measure => simp [intOf]; omega
            · obtain rfl : m = E := by omega
              have hq5 : wr.cell? ⟨bbz, offz + k, none⟩ = some (.int .i64 (A : Int)) := by rw [← hA, getD_eq hltz]; exact hcellz _ b2 _ _ (by omega) (intsAt hltz)
              have o5 := own_later HO.out hbi
              have z5 := b2.size
              clear hcell hcellz hj hsum hm2
              generalize wsK ps A (m - A) = s0 at *
              have O5 := Lib.hid o5; clear o5
              go_wp2_with fail
              refine (HM.out _).mono ?_
              rintro _ _ ⟨rfl, rfl⟩
              go_wp2_with (at_builtin; refine app_I (.tmp 60) (.tmp 69) _ _ _ _ _ (by rfl) (by rfl) (by rfl) (by rfl) O5.out (by omega) z5 ?_; intro v2 w9 o9 q9)
              have b9 := Only.below b2 q9 z5 LO.out
              go_wp2
              go_roundw
              case rel => exact ⟨k + 1, by omega, by go_num, by rw [← HS.out]; exact o9, b9⟩
              case measure => simp [intOf]; omega
    · obtain rfl : k = nz := by omega
      clear hcell hcellz
      go_wp2
      go_returns
      exact ⟨_, rfl, HO.out, hb1⟩

end Go.Proofs.YtgdadbmhdljcdaaGreatDoor

/- The mean walls of zones: both. -/
namespace Go.Proofs.YtgdadbmhdljcdaaGreatDoor
set_option linter.unusedVariables false
open Go.RowKit Go.Proofs.Bell Go.BigFrame

def zoneWallsI (nm : ByteArray) (ps : List (Int × Int × Int)) (zs : List Int) : List Int × Int := if profB nm ps then (if vzB nm ps zs then (zwK ps zs zs.length, 0) else ([], 2)) else ([], 1)
theorem zoneWallsI_len (nm : ByteArray) (ps : List (Int × Int × Int)) (zs : List Int) : (zoneWallsI nm ps zs).1.length ≤ 8 := by
  unfold zoneWallsI
  split
  · split
    · rename_i h
      simp only [vzB, Bool.and_eq_true] at h
      rw [zwK_len]; exact (zones_len h.2).2
    · simp
  · simp

end Go.Proofs.YtgdadbmhdljcdaaGreatDoor

