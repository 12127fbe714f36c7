/- The masses of the rings. -/
import Derived.Test.YtmickkodcclocaaGB
import Derived.Test.YtmickkodcclocaaMass2
namespace Go.Proofs.Ytmickkodcclocaa
set_option linter.unusedVariables false
open Go.RowKit Go.Proofs.Bell Go.BigFrame

theorem masses_snoc (ps : List (Int × Int × Int)) (d : Int) {k : Nat} (h : k < ps.length) : massesI (ps.take (k + 1)) d = massesI (ps.take k) d ++ [rmassT d (rg ps k)] := by
  unfold massesI; rw [rg_eq h, List.take_succ_eq_append_getElem h, List.map_append]; rfl
theorem masses_len (ps : List (Int × Int × Int)) (d : Int) (k : Nat) : (massesI (ps.take k) d).length ≤ k := by
  unfold massesI; rw [List.length_map, List.length_take]; omega

set_option maxHeartbeats 1600000 in
theorem ringMasses_c (nm : ByteArray) (sv : Value) (ps : List (Int × Int × Int)) (d : Int) (w : World) (hr : Rd w sv ps.length (trips ps)) (hal : ps.all ringT = true) (hl : ps.length ≤ 32) (h1 : 0 ≤ d) (h2 : d ≤ 20000) :
    Calls Try.prog 141 #[.agg #[.string nm, sv], .int .i64 d] w (RetOwnI (massesI ps d) w) := by
  have HAL := Lib.hid hal; clear hal
  generalize hn : ps.length = n at *
  have HN := Lib.hid hn; clear hn
  obtain ⟨hn, ao, cap, bb, off, rfl, hao, hcell⟩ := hr.open
  clear hr
  go_enter Try.func141, Try.ntmps141
  have b0 : Below w.heap.size w w := Below.refl _ _
  have z0 : w.heap.size ≤ w.heap.size := Nat.le_refl _
  go_wp2_with fail
  go_loopw [11, 5] (fun i u wr => ∃ (k : Nat), k ≤ n ∧ i = .int .i64 k ∧ OwnI w.heap.size wr u (massesI (ps.take k) d) ∧ Below w.heap.size w wr) (fun i u _ => n - (intOf i).toNat)
  case atStart => exact ⟨0, Nat.zero_le _, rfl, World.ownsRow_nil _ _ _ _, (by go_grown)⟩
  case round =>
    obtain ⟨k, hk, rfl, ho, br0⟩ := hrel
    have zr0 := br0.size
    have hlen := masses_len ps d k
    have hlo := own_lo ho
    have HO := Lib.hid ho; clear ho
    have LO := Lib.hid hlo; clear hlo
    by_cases hlt : k < n
    · skip
      have hlt_p : k < ps.length := by rw [HN.out]; omega
      have hix_p := ix (P := Try.prog) (T := 26) (cap := cap) Try.underlying26 cells_Ring has_Ring hao (k := k) (by omega) _ (rfl)
      have hp0 : wr.cell? ⟨bb, off + k * 3, none⟩ = some (.int .i64 (rg ps k).1) := by rw [rg_eq hlt_p]; exact hcell _ br0 _ _ (by omega) (trips_at hlt_p).1
      have hp1 : wr.cell? ⟨bb, off + k * 3 + 1, none⟩ = some (.int .i64 (rg ps k).2.1) := by rw [rg_eq hlt_p]; exact hcell _ br0 _ _ (by omega) (trips_at hlt_p).2.1
      have hp2 : wr.cell? ⟨bb, off + k * 3 + 2, none⟩ = some (.int .i64 (rg ps k).2.2) := by rw [rg_eq hlt_p]; exact hcell _ br0 _ _ (by omega) (trips_at hlt_p).2.2
      have hs := masses_snoc ps d hlt_p
      have hring := all_at HAL.out hlt_p
      obtain ⟨e1, e2, e3, e4⟩ := rmassT_bd h1 h2 hring
      have hrv := fun w' => ringVolume_c (rg ps k).1 (rg ps k).2.1 (rg ps k).2.2 w' hring
      have hm := fun w' => nearest_c (rvolT (rg ps k) * d) 1000000 w' (by omega) (by omega) (by omega) (by omega)
      have he : tubeI (secI (rg ps k).1 (rg ps k).2.1) (rg ps k).2.2 = rvolT (rg ps k) := rfl
      have he2 : rnd (rvolT (rg ps k) * d) 1000000 = rmassT d (rg ps k) := rfl
      rw [he] at hrv
      rw [he2] at hm
      have HS := Lib.hid hs; clear hs
      have HRV := Lib.hid hrv; clear hrv
      have HM := Lib.hid hm; clear hm
      clear hcell hring he he2
      generalize rvolT (rg ps k) = z at *
      generalize rmassT d (rg ps k) = z2 at *
      generalize (rg ps k).1 = x0 at *
      generalize (rg ps k).2.1 = x1 at *
      generalize (rg ps k).2.2 = x2 at *
      go_wp2_with fail
      refine (HRV.out _).mono ?_
      rintro _ wr1 ⟨rfl, rr1⟩
      have sr1 : Below wr.heap.size wr wr1 := Below.trans (by go_grown) (rr1.mono (by simp; try omega))
      have br1 := br0.trans (sr1.mono zr0)
      have zr1 := br1.size
      have yr1 := sr1.size
      have o1_r1 := own_later HO.out sr1; have O1_r1 := Lib.hid o1_r1; clear o1_r1
      clear rr1
      go_wp2_with fail
      refine (HM.out _).mono ?_
      rintro _ wr2 ⟨rfl, dr2⟩
      have rr2 := Dr.below dr2; clear dr2
      have sr2 := rr2
      have br2 := br1.trans (sr2.mono zr1)
      have zr2 := br2.size
      have yr2 := sr2.size
      have o1_r2 := own_later O1_r1.out sr2; have O1_r2 := Lib.hid o1_r2; clear o1_r2
      clear rr2
      go_wp2_with (at_builtin; refine app_I (.tmp 15) (.tmp 21) _ _ _ _ _ (by rfl) (by rfl) (by rfl) (by rfl) O1_r2.out (by omega) zr2 ?_; intro v2 wr3 or3 qr3)
      go_wp2
      have hb2 := Only.below br2 qr3 zr2 LO.out
      go_roundw
      case rel => exact ⟨k + 1, by omega, by go_num, by rw [HS.out]; exact or3, hb2⟩
      case measure => simp [intOf]; omega
    · obtain rfl : k = n := by omega
      clear hcell
      go_wp2
      go_returns
      have e := HO.out
      rw [List.take_of_length_le (by rw [HN.out]; exact Nat.le_refl _)] at e
      exact ⟨_, rfl, e, br0⟩

theorem RetI2.nil {w w' : World} {c : Value} (h : Below w.heap.size w w') : RetI2 [] c w (.returned (.tuple #[.slice none 0 0, c])) w' := ⟨_, rfl, World.ownsRow_nil _ _ _ _, h⟩
theorem ringMassesI_len (nm : ByteArray) (ps : List (Int × Int × Int)) (d : Int) : (ringMassesI nm ps d).1.length ≤ 32 := by
  unfold ringMassesI
  split
  · rename_i h
    obtain ⟨hp, _, _⟩ := denseI_zero h
    have := (profB_t hp).2.1
    simp [massesI]; exact this
  · simp

set_option maxHeartbeats 800000 in
theorem implRingMasses_c (nm : ByteArray) (sv : Value) (ps : List (Int × Int × Int)) (d : Int) (w : World) (hnm : nm.size ≤ maxLen) (hr : Rd w sv ps.length (trips ps)) :
    Calls Try.prog 60 #[.agg #[.string nm, sv], .int .i64 d] w (RetI2 (ringMassesI nm ps d).1 (.int .i64 (ringMassesI nm ps d).2) w) := by
  have hok := fun w' (hb : Below w.heap.size w w') => dense_c nm sv ps d w' hnm (hr.later hb)
  by_cases t0 : ¬ denseI nm ps d = 0
  · have he : ringMassesI nm ps d = ([], denseI nm ps d) := by simp [ringMassesI, t0]
    rw [he]
    clear he
    have HOK := Lib.hid hok; clear hok
    generalize denseI nm ps d = code at *
    go_enter Try.func60, Try.ntmps60
    have b0 : Below w.heap.size w w := Below.refl _ _
    have z0 : w.heap.size ≤ w.heap.size := Nat.le_refl _
    go_wp2_with fail
    refine (HOK.out _ (by go_grown)).mono ?_
    rintro _ w1 ⟨rfl, r1⟩
    have s1 : Below w.heap.size w w1 := Below.trans (by go_grown) (r1.mono (by simp; try omega))
    have b1 := b0.trans (s1.mono z0)
    have z1 := b1.size
    have y1 := s1.size
    have c0_0_1 := below_cell r1 (p := ⟨w.heap.size, 0, none⟩) (v := .string nm) (by simp [go_sem])
    have c0_1_1 := below_cell r1 (p := ⟨w.heap.size, 1, none⟩) (v := sv) (by simp [go_sem])
    clear r1
    go_wp2
    go_returns
    exact RetI2.nil b1
  · have t0 : denseI nm ps d = 0 := Classical.not_not.1 t0
    rw [t0] at hok
    have HOK := Lib.hid hok; clear hok
    obtain ⟨hp, hd1, hd2⟩ := denseI_zero t0
    obtain ⟨hl1, hl2, hal, hht⟩ := profB_t hp
    have he : ringMassesI nm ps d = (massesI ps d, 0) := by simp [ringMassesI, t0]
    rw [he]
    clear he
    have hv := fun w' (hb : Below w.heap.size w w') => ringMasses_c nm sv ps d w' (hr.later hb) hal hl2 (by omega) (by omega)
    have HV := Lib.hid hv; clear hv
    go_enter Try.func60, Try.ntmps60
    have b0 : Below w.heap.size w w := Below.refl _ _
    have z0 : w.heap.size ≤ w.heap.size := Nat.le_refl _
    go_wp2_with fail
    refine (HOK.out _ (by go_grown)).mono ?_
    rintro _ w1 ⟨rfl, r1⟩
    have s1 : Below w.heap.size w w1 := Below.trans (by go_grown) (r1.mono (by simp; try omega))
    have b1 := b0.trans (s1.mono z0)
    have z1 := b1.size
    have y1 := s1.size
    have c0_0_1 := below_cell r1 (p := ⟨w.heap.size, 0, none⟩) (v := .string nm) (by simp [go_sem])
    have c0_1_1 := below_cell r1 (p := ⟨w.heap.size, 1, none⟩) (v := sv) (by simp [go_sem])
    clear r1
    go_wp2_with fail
    refine (HV.out _ b1).mono ?_
    rintro _ w2 ⟨x2, rfl, n2, r2⟩
    have s2 := r2
    have b2 := b1.trans (s2.mono z1)
    have z2 := b2.size
    have y2 := s2.size
    have c0_0_2 := below_cell s2 c0_0_1; clear c0_0_1
    have c0_1_2 := below_cell s2 c0_1_1; clear c0_1_1
    clear r2
    go_wp2
    go_returns
    exact ⟨_, rfl, own_base n2 z1, b2⟩

end Go.Proofs.Ytmickkodcclocaa
