/- The centre of gravity. -/
import Derived.Test.YtmickkodcclocaaMass2
namespace Go.Proofs.Ytmickkodcclocaa
set_option linter.unusedVariables false
open Go.RowKit Go.Proofs.Bell Go.BigFrame

set_option maxHeartbeats 3200000 in
theorem centre_c (nm : ByteArray) (sv : Value) (ps : List (Int × Int × Int)) (w : World) (hr : Rd w sv ps.length (trips ps)) (hal : ps.all ringT = true) (hl : ps.length ≤ 32) (hl1 : 1 ≤ ps.length) (hh : heightI ps ≤ 300000) :
    Calls Try.prog 137 #[.agg #[.string nm, sv]] w (RetB (.int .i64 (rnd (cenK ps ps.length) (2 * volI ps))) w) := by
  have hcb := fun k hk => cenK_bd hal hh k hk
  have hhb := fun k => height_bd hal k
  have hv := fun w' (hb : Below w.heap.size w w') => volumeOf_c nm sv ps w' (hr.later hb) hal hl
  have hvb := volI_bd hal hl
  have hvp := volI_pos hal hl1
  have HCB := Lib.hid hcb; clear hcb
  have HHB := Lib.hid hhb; clear hhb
  have HV := Lib.hid hv; clear hv
  have HAL := Lib.hid hal; clear hal
  clear hh
  generalize volI ps = vol at *
  generalize hn : ps.length = n at *
  have HN := Lib.hid hn; clear hn
  obtain ⟨hn, ao, cap, bb, off, rfl, hao, hcell⟩ := hr.open
  clear hr
  go_enter Try.func137, Try.ntmps137
  have b0 : Below w.heap.size w w := Below.refl _ _
  have z0 : w.heap.size ≤ w.heap.size := Nat.le_refl _
  go_wp2_with fail
  go_loopw [10, 3, 4] (fun i s t wr => ∃ (k : Nat), k ≤ n ∧ i = .int .i64 k ∧ s = .int .i64 (cenK ps k) ∧ t = .int .i64 (heightI (ps.take k)) ∧ Below w.heap.size w wr ∧ wr.cell? ⟨w.heap.size, 0, none⟩ = some (.string nm) ∧ wr.cell? ⟨w.heap.size, 1, none⟩ = some (.slice ao n cap)) (fun i s t _ => n - (intOf i).toNat)
  case atStart => exact ⟨0, Nat.zero_le _, rfl, rfl, rfl, (by go_grown), (by simp [go_sem]), (by simp [go_sem])⟩
  case round =>
    obtain ⟨k, hk, rfl, rfl, rfl, br0, c0_0_r0, c0_1_r0⟩ := hrel
    have zr0 := br0.size
    by_cases hlt : k < n
    · skip
      have hlt_p : k < ps.length := by rw [HN.out]; omega
      have hix_p := ix (P := Try.prog) (T := 26) (cap := cap) Try.underlying26 cells_Ring has_Ring hao (k := k) (by omega) _ (rfl)
      have hp0 : wr.cell? ⟨bb, off + k * 3, none⟩ = some (.int .i64 (rg ps k).1) := by rw [rg_eq hlt_p]; exact hcell _ br0 _ _ (by omega) (trips_at hlt_p).1
      have hp1 : wr.cell? ⟨bb, off + k * 3 + 1, none⟩ = some (.int .i64 (rg ps k).2.1) := by rw [rg_eq hlt_p]; exact hcell _ br0 _ _ (by omega) (trips_at hlt_p).2.1
      have hp2 : wr.cell? ⟨bb, off + k * 3 + 2, none⟩ = some (.int .i64 (rg ps k).2.2) := by rw [rg_eq hlt_p]; exact hcell _ br0 _ _ (by omega) (trips_at hlt_p).2.2
      have hs : cenK ps (k + 1) = cenK ps k + rvolT (rg ps k) * (2 * heightI (ps.take k) + (rg ps k).2.2) := rfl
      have ht := heightI_snocg ps hlt_p
      have hring := all_at HAL.out hlt_p
      have r := ringT_t hring
      have hrv := fun w' => ringVolume_c (rg ps k).1 (rg ps k).2.1 (rg ps k).2.2 w' hring
      have he : tubeI (secI (rg ps k).1 (rg ps k).2.1) (rg ps k).2.2 = rvolT (rg ps k) := rfl
      rw [he] at hrv
      have hb1 := HCB.out k hk
      have hb2 := HCB.out (k + 1) hlt
      have hb3 := HHB.out k
      have hb4 := rvolT_bd hring
      have hb5 := mul_bd (a := rvolT (rg ps k)) (b := 2 * heightI (ps.take k) + (rg ps k).2.2) (A := 21205752750) (B := 20000000) hb4.1 (by omega) hb4.2 (by omega)
      rw [hs] at hb2
      have HS := Lib.hid hs; clear hs
      have HT := Lib.hid ht; clear ht
      have HRV := Lib.hid hrv; clear hrv
      clear hcell hring he
      generalize rvolT (rg ps k) = z at *
      generalize cenK ps k = s at *
      generalize heightI (ps.take k) = t at *
      generalize (rg ps k).1 = x0 at *
      generalize (rg ps k).2.1 = x1 at *
      generalize (rg ps k).2.2 = x2 at *
      have q1 : IntKind.i64.wrap (2 * t) = 2 * t := IntWalk.i64_in _ (by omega)
      have q2 : IntKind.i64.wrap (2 * t + x2) = 2 * t + x2 := IntWalk.i64_in _ (by omega)
      have q3 : IntKind.i64.wrap (z * (2 * t + x2)) = z * (2 * t + x2) := IntWalk.i64_in _ (by omega)
      have q4 : IntKind.i64.wrap (s + z * (2 * t + x2)) = s + z * (2 * t + x2) := IntWalk.i64_in _ (by omega)
      go_wp2_with fail
      have l0 : ∀ s : Lat (wr.alloc (Obj.cells #[.int .i64 x0, .int .i64 x1, .int .i64 x2] 80)), s.world.cell? ⟨wr.heap.size, 0, none⟩ = some (.int .i64 x0) := fun s => s.cell (by simp)
      have l1 : ∀ s : Lat (wr.alloc (Obj.cells #[.int .i64 x0, .int .i64 x1, .int .i64 x2] 80)), s.world.cell? ⟨wr.heap.size, 1, none⟩ = some (.int .i64 x1) := fun s => s.cell (by simp)
      have l2 : ∀ s : Lat (wr.alloc (Obj.cells #[.int .i64 x0, .int .i64 x1, .int .i64 x2] 80)), s.world.cell? ⟨wr.heap.size, 2, none⟩ = some (.int .i64 x2) := fun s => s.cell (by simp)
      refine wp_region_lat (by kernel_rfl) (by kernel_rfl) ?_
      repeat (go_big_quiet_step ((go_at_call 144; exact Lat.callB (HRV.out _))))
      refine wpQuiet_nil ?_
      rintro _ ⟨ls, rfl⟩
      have c2 := l2 ls
      have rr1 := ls.below
      generalize ls.world = wr1 at *
      clear l0 l1 l2 q1 q2 q3 q4
      have sr1 : Below wr.heap.size wr wr1 := Below.trans (by go_grown) (rr1.mono (by simp; try omega))
      have br1 := br0.trans (sr1.mono zr0)
      have zr1 := br1.size
      have yr1 := sr1.size
      have c0_0_r1 := below_cell sr1 c0_0_r0; clear c0_0_r0
      have c0_1_r1 := below_cell sr1 c0_1_r0; clear c0_1_r0
      have c1_0_r1 := below_cell rr1 (p := ⟨wr.heap.size, 0, none⟩) (v := .int .i64 x0) (by simp [go_sem])
      have c1_1_r1 := below_cell rr1 (p := ⟨wr.heap.size, 1, none⟩) (v := .int .i64 x1) (by simp [go_sem])
      have c1_2_r1 := below_cell rr1 (p := ⟨wr.heap.size, 2, none⟩) (v := .int .i64 x2) (by simp [go_sem])
      go_wp2
      go_roundw
      case rel => exact ⟨k + 1, by omega, by go_num, by rw [HS.out], by rw [HT.out], (by first | exact br1 | exact below_drewN br1 _ | go_grown), (by first | exact c0_0_r1 | exact alloc_cell _ c0_0_r1 | exact below_cell (below_drewN (Below.refl _ _) _) c0_0_r1 | simp [go_sem, c0_0_r1]), (by first | exact c0_1_r1 | exact alloc_cell _ c0_1_r1 | exact below_cell (below_drewN (Below.refl _ _) _) c0_1_r1 | simp [go_sem, c0_1_r1])⟩
      case measure => simp [intOf]; omega
    · obtain rfl : k = n := by omega
      have hb1 := HCB.out k (by omega)
      generalize cenK ps k = s at *
      clear hcell
      go_wp2_with fail
      refine (HV.out _ br0).mono ?_
      rintro _ wr1 ⟨rfl, rr1⟩
      have sr1 := rr1
      have br1 := br0.trans (sr1.mono zr0)
      have zr1 := br1.size
      have yr1 := sr1.size
      have c0_0_r1 := below_cell sr1 c0_0_r0; clear c0_0_r0
      have c0_1_r1 := below_cell sr1 c0_1_r0; clear c0_1_r0
      clear rr1
      go_wp2_with fail
      refine (nearest_c _ _ _ (by omega) (by omega) (by omega) (by omega)).mono ?_
      rintro _ wr2 ⟨rfl, dr2⟩
      have rr2 := Dr.below dr2; clear dr2
      have sr2 := rr2
      have br2 := br1.trans (sr2.mono zr1)
      have zr2 := br2.size
      have yr2 := sr2.size
      have c0_0_r2 := below_cell sr2 c0_0_r1; clear c0_0_r1
      have c0_1_r2 := below_cell sr2 c0_1_r1; clear c0_1_r1
      clear rr2
      go_wp2
      go_returns
      exact RetB.mk (rfl) br2

set_option maxHeartbeats 800000 in
theorem implCentreOf_c (nm : ByteArray) (sv : Value) (ps : List (Int × Int × Int)) (w : World) (hnm : nm.size ≤ maxLen) (hr : Rd w sv ps.length (trips ps)) :
    Calls Try.prog 57 #[.agg #[.string nm, sv]] w (RetB (.tuple #[.int .i64 (centreI nm ps).1, .int .i64 (centreI nm ps).2]) w) := by
  have hok := fun w' (hb : Below w.heap.size w w') => ValidProfile_c nm sv ps w' hnm (hr.later hb)
  cases t0 : profB nm ps <;> rw [t0] at hok
  · have HOK := Lib.hid hok; clear hok
    go_enter Try.func57, Try.ntmps57
    have b0 : Below w.heap.size w w := Below.refl _ _
    have z0 : w.heap.size ≤ w.heap.size := Nat.le_refl _
    go_wp2_with fail
    refine (HOK.out _ (by go_grown)).mono ?_
    rintro _ w1 ⟨rfl, r1⟩
    have s1 : Below w.heap.size w w1 := Below.trans (by go_grown) (r1.mono (by simp; try omega))
    have b1 := b0.trans (s1.mono z0)
    have z1 := b1.size
    have y1 := s1.size
    have c0_0_1 := below_cell r1 (p := ⟨w.heap.size, 0, none⟩) (v := .string nm) (by simp [go_sem])
    have c0_1_1 := below_cell r1 (p := ⟨w.heap.size, 1, none⟩) (v := sv) (by simp [go_sem])
    clear r1
    go_wp2
    go_returns
    exact RetB.mk (ints_eq (by simp [centreI, t0]) (by simp [centreI, t0])) b1
  · have HOK := Lib.hid hok; clear hok
    obtain ⟨hl1, hl2, hal, hht⟩ := profB_t t0
    have hv := fun w' (hb : Below w.heap.size w w') => centre_c nm sv ps w' (hr.later hb) hal hl2 hl1 hht
    have HV := Lib.hid hv; clear hv
    go_enter Try.func57, Try.ntmps57
    have b0 : Below w.heap.size w w := Below.refl _ _
    have z0 : w.heap.size ≤ w.heap.size := Nat.le_refl _
    go_wp2_with fail
    refine (HOK.out _ (by go_grown)).mono ?_
    rintro _ w1 ⟨rfl, r1⟩
    have s1 : Below w.heap.size w w1 := Below.trans (by go_grown) (r1.mono (by simp; try omega))
    have b1 := b0.trans (s1.mono z0)
    have z1 := b1.size
    have y1 := s1.size
    have c0_0_1 := below_cell r1 (p := ⟨w.heap.size, 0, none⟩) (v := .string nm) (by simp [go_sem])
    have c0_1_1 := below_cell r1 (p := ⟨w.heap.size, 1, none⟩) (v := sv) (by simp [go_sem])
    clear r1
    go_wp2_with fail
    refine (HV.out _ b1).mono ?_
    rintro _ w2 ⟨rfl, r2⟩
    have s2 := r2
    have b2 := b1.trans (s2.mono z1)
    have z2 := b2.size
    have y2 := s2.size
    have c0_0_2 := below_cell s2 c0_0_1; clear c0_0_1
    have c0_1_2 := below_cell s2 c0_1_1; clear c0_1_1
    clear r2
    go_wp2
    go_returns
    exact RetB.mk (ints_eq (by simp [centreI, t0]) (by simp [centreI, t0])) b2

end Go.Proofs.Ytmickkodcclocaa
