/- The widest and the thinnest ring: the program's, and the reference's thinnest. -/
import Derived.Test.YtjbbhfmojfdcaaaBest
namespace Go.Proofs.Ytjbbhfmojfdcaaa
set_option linter.unusedVariables false
open Go.RowKit Go.Proofs.Bell Go.BigFrame

set_option maxHeartbeats 1600000 in
theorem implWidestRing_c (nm : ByteArray) (sv : Value) (ps : List (Int × Int × Int)) (w : World) (hnm : nm.size ≤ maxLen) (h : Rd w sv ps.length (trips ps)) :
    Calls Try.prog 32 #[.agg #[.string nm, sv]] w (RetB (.tuple #[.int .i64 (widI nm ps).1, .int .i64 (widI nm ps).2]) w) := by
  have hok := fun w' (hb : Below w.heap.size w w') => ValidProfile_c nm sv ps w' hnm (h.later hb)
  have hv := fun (hp : profB nm ps = true) => profB_t hp
  obtain ⟨hn, ao, cap, b, off, rfl, hao, hcell⟩ := h.open
  clear h
  cases t0 : profB nm ps <;> rw [t0] at hok
  · have HOK := Lib.hid hok; clear hok
    go_enter Try.func32, Try.ntmps32
    go_wp2_with fail
    refine (HOK.out _ (by go_grown)).mono ?_
    rintro _ w1 ⟨rfl, s1⟩
    have b1 : Below w.heap.size w w1 := Below.trans (by go_grown) (s1.mono (by simp))
    clear s1
    go_wp2
    go_returns
    exact RetB.mk (ints_eq (by simp [widI, t0]) (by simp [widI, t0])) b1
  · have HOK := Lib.hid hok; clear hok
    obtain ⟨hl1, hl2, _, _⟩ := hv t0
    have hr : widI nm ps = ((bestK widB ps ps.length : Int), 0) := by simp [widI, t0]
    rw [hr]
    clear hv hr
    generalize hn' : ps.length = n at *
    have HN := Lib.hid hn'; clear hn'
    go_enter Try.func32, Try.ntmps32
    go_wp2_with fail
    refine (HOK.out _ (by go_grown)).mono ?_
    rintro _ w1 ⟨rfl, s1⟩
    have b1 : Below w.heap.size w w1 := Below.trans (by go_grown) (s1.mono (by simp))
    have k1 := below_cell s1 (p := ⟨w.heap.size, 1, none⟩) (v := .slice ao n cap) (by simp [go_sem])
    clear s1
    go_wp2_with fail
    go_loopw [13, 4] (fun i s wr => ∃ (k : Nat), k ≤ n ∧ i = .int .i64 k ∧ s = .int .i64 (bestK widB ps k : Nat) ∧ Below w1.heap.size w1 wr) (fun i _ _ => n - (intOf i).toNat)
    case atStart => exact ⟨0, Nat.zero_le _, rfl, rfl, Below.refl _ _⟩
    case round =>
      obtain ⟨k, hk, rfl, rfl, hb1⟩ := hrel
      have hb := b1.trans (hb1.mono b1.size)
      have m1 := below_cell hb1 k1
      by_cases hlt : k < n
      · have hj := bestK_lt (b := widB) (rs := ps) hl1 k hk
        have hltp : k < ps.length := by rw [HN.out]; exact hlt
        have hltj : bestK widB ps k < ps.length := by rw [HN.out]; exact hj
        have hs : bestK widB ps (k + 1) = if widB (rg ps k) (rg ps (bestK widB ps k)) then k else bestK widB ps k := rfl
        generalize bestK widB ps k = j at *
        have hix := ix (P := Try.prog) (T := 48) (cap := cap) Try.underlying48 cells_Ring has_Ring hao hlt k rfl
        have hix2 := ix (P := Try.prog) (T := 48) (cap := cap) Try.underlying48 cells_Ring has_Ring hao hj j rfl
        have hc1 : wr.cell? ⟨b, off + k * 3, none⟩ = some (.int .i64 (rg ps k).1) := by rw [rg_eq hltp]; exact hcell _ hb _ _ (by omega) (trips_at hltp).1
        have hc2 : wr.cell? ⟨b, off + k * 3 + 1, none⟩ = some (.int .i64 (rg ps k).2.1) := by rw [rg_eq hltp]; exact hcell _ hb _ _ (by omega) (trips_at hltp).2.1
        have hc3 : wr.cell? ⟨b, off + k * 3 + 2, none⟩ = some (.int .i64 (rg ps k).2.2) := by rw [rg_eq hltp]; exact hcell _ hb _ _ (by omega) (trips_at hltp).2.2
        have hd1 : wr.cell? ⟨b, off + j * 3, none⟩ = some (.int .i64 (rg ps j).1) := by rw [rg_eq hltj]; exact hcell _ hb _ _ (by omega) (trips_at hltj).1
        have hs2 : (decide ((rg ps j).1 < (rg ps k).1)) = widB (rg ps k) (rg ps j) := rfl
        have hbb : b < wr.heap.size := World.block_lt_of_cell? wr _ hc1
        have hbl : w.heap.size < wr.heap.size := World.block_lt_of_cell? wr _ m1
        clear hcell hltj
        rw [← hs2] at hs
        clear hs2
        generalize (rg ps k).1 = x at *
        generalize (rg ps k).2.1 = x' at *
        generalize (rg ps k).2.2 = x'' at *
        generalize (rg ps j).1 = y at *
        have hz1 := hb1.size
        cases t1 : decide (y < x) <;>
        · rw [t1] at hs
          have HS := Lib.hid hs; clear hs
          go_wp2_with fail
          go_quiet (fail)
          clear hc1 hc2 hc3 hd1 t1
          go_wp2
          go_roundw
          case rel => exact ⟨k + 1, by omega, by go_num, by rw [HS.out]; rfl, below_drewN (hb1.alloc hb1.size _) _⟩
          case measure => simp [intOf]; omega
      · obtain rfl : k = n := by omega
        go_wp2
        go_returns
        exact RetB.mk rfl hb

set_option maxHeartbeats 1600000 in
theorem specThinnestRing_c (nm : ByteArray) (sv : Value) (ps : List (Int × Int × Int)) (w : World) (hnm : nm.size ≤ maxLen) (h : Rd w sv ps.length (trips ps)) :
    Calls Try.prog 34 #[.agg #[.string nm, sv]] w (RetB (.tuple #[.int .i64 (thinI nm ps).1, .int .i64 (thinI nm ps).2]) w) := by
  have hok := fun w' g hg c0 c1 (hb : Below w.heap.size w w') => l05Ok_c g nm sv ps w' hg hnm c0 c1 (h.later hb)
  have hv := fun (hp : profB nm ps = true) => profB_t hp
  obtain ⟨hn, ao, cap, b, off, rfl, hao, hcell⟩ := h.open
  clear h
  cases t0 : profB nm ps <;> rw [t0] at hok
  · have HOK := Lib.hid hok; clear hok
    go_enter Try.func34, Try.ntmps34
    go_wp2_with (go_at_call 78; refine (HOK.out _ _ (by simp) (by simp [go_sem]) (by simp [go_sem]) (by go_grown)).mono ?_; rintro _ w1 ⟨rfl, n, rfl⟩)
    go_returns
    exact RetB.mk (ints_eq (by simp [thinI, t0]) (by simp [thinI, t0])) (below_drewN (by go_grown) _)
  · have HOK := Lib.hid hok; clear hok
    obtain ⟨hl1, hl2, hal, _⟩ := hv t0
    have HAL := Lib.hid hal; clear hal
    have hr : thinI nm ps = ((bestK thinB ps ps.length : Int), 0) := by simp [thinI, t0]
    rw [hr]
    clear hv hr
    generalize hn' : ps.length = n at *
    have HN := Lib.hid hn'; clear hn'
    go_enter Try.func34, Try.ntmps34
    go_wp2_with fail
    refine (HOK.out _ _ (by simp) (by simp [go_sem]) (by simp [go_sem]) (by go_grown)).mono ?_
    rintro _ w1 ⟨rfl, nd, e1⟩
    have b1 : Below w.heap.size w w1 := by rw [e1]; exact below_drewN (by go_grown) _
    have k1 : w1.cell? ⟨w.heap.size, 1, none⟩ = some (.slice ao n cap) := by rw [e1]; exact below_cell (below_drewN (Below.refl _ _) _) (by simp [go_sem])
    clear e1
    go_wp2_with fail
    go_loopw [5, 4] (fun i s wr => ∃ (k : Nat), 1 ≤ k ∧ k ≤ n ∧ i = .int .i64 k ∧ s = .int .i64 (bestK thinB ps k : Nat) ∧ Dr w1 wr) (fun i _ _ => n - (intOf i).toNat)
    case atStart => exact ⟨1, Nat.le_refl _, hl1, rfl, by rw [thinK_one]; rfl, Dr.refl _⟩
    case round =>
      obtain ⟨k, hk1, hk, rfl, rfl, hd⟩ := hrel
      have hb1 := hd.below
      have hb := b1.trans (hb1.mono b1.size)
      have m1 := below_cell hb1 k1
      by_cases hlt : k < n
      · have hj := bestK_lt (b := thinB) (rs := ps) hl1 k hk
        have hltp : k < ps.length := by rw [HN.out]; exact hlt
        have hltj : bestK thinB ps k < ps.length := by rw [HN.out]; exact hj
        have hs : bestK thinB ps (k + 1) = if thinB (rg ps k) (rg ps (bestK thinB ps k)) then k else bestK thinB ps k := rfl
        generalize bestK thinB ps k = j at *
        have hix := ix (P := Try.prog) (T := 48) (cap := cap) Try.underlying48 cells_Ring has_Ring hao hlt k rfl
        have hix2 := ix (P := Try.prog) (T := 48) (cap := cap) Try.underlying48 cells_Ring has_Ring hao hj j rfl
        have hc1 : wr.cell? ⟨b, off + k * 3, none⟩ = some (.int .i64 (rg ps k).1) := by rw [rg_eq hltp]; exact hcell _ hb _ _ (by omega) (trips_at hltp).1
        have hd1 : wr.cell? ⟨b, off + j * 3, none⟩ = some (.int .i64 (rg ps j).1) := by rw [rg_eq hltj]; exact hcell _ hb _ _ (by omega) (trips_at hltj).1
        have hc2 : wr.cell? ⟨b, off + k * 3 + 1, none⟩ = some (.int .i64 (rg ps k).2.1) := by rw [rg_eq hltp]; exact hcell _ hb _ _ (by omega) (trips_at hltp).2.1
        have hd2 : wr.cell? ⟨b, off + j * 3 + 1, none⟩ = some (.int .i64 (rg ps j).2.1) := by rw [rg_eq hltj]; exact hcell _ hb _ _ (by omega) (trips_at hltj).2.1
        have hs2 : (decide ((rg ps k).1 - (rg ps k).2.1 < (rg ps j).1 - (rg ps j).2.1)) = thinB (rg ps k) (rg ps j) := rfl
        have hrk := ringT_t (by have := List.all_eq_true.1 HAL.out ps[k] (List.getElem_mem hltp); rw [← rg_eq hltp] at this; exact this)
        have hrj := ringT_t (by have := List.all_eq_true.1 HAL.out ps[j] (List.getElem_mem hltj); rw [← rg_eq hltj] at this; exact this)
        have hw1 : IntKind.i64.wrap ((rg ps k).1 - (rg ps k).2.1) = (rg ps k).1 - (rg ps k).2.1 := IntWalk.i64_in _ (by omega)
        have hw2 : IntKind.i64.wrap ((rg ps j).1 - (rg ps j).2.1) = (rg ps j).1 - (rg ps j).2.1 := IntWalk.i64_in _ (by omega)
        clear hrk hrj
        clear hcell hltj
        rw [← hs2] at hs
        clear hs2
        generalize (rg ps k).1 = x at *
        generalize (rg ps k).2.1 = x' at *
        generalize (rg ps j).1 = y at *
        generalize (rg ps j).2.1 = y' at *
        cases t1 : decide (x - x' < y - y')
        · rw [t1] at hs
          have HS := Lib.hid hs; clear hs
          go_wp2_with fail
          go_quiet (fail)
          clear hc1 hd1 hc2 hd2 hw1 hw2 t1
          go_wp2
          go_roundw
          case rel => exact ⟨k + 1, by omega, by omega, by go_num, by rw [HS.out]; rfl, (by first | exact Dr.refl _ | exact Dr.next (by assumption) _ | assumption | exact ⟨_, rfl⟩ | exact ⟨_, World.drewN_drewN _ _ _⟩)⟩
          case measure => simp [intOf]; omega
        · rw [t1] at hs
          have HS := Lib.hid hs; clear hs
          go_wp2_with fail
          go_quiet (fail)
          clear hc1 hd1 hc2 hd2 hw1 hw2 t1
          go_wp2
          go_roundw
          case rel => exact ⟨k + 1, by omega, by omega, by go_num, by rw [HS.out]; rfl, (by first | exact Dr.refl _ | exact Dr.next (by assumption) _ | assumption | exact ⟨_, rfl⟩ | exact ⟨_, World.drewN_drewN _ _ _⟩)⟩
          case measure => simp [intOf]; omega
      · obtain rfl : k = n := by omega
        go_wp2
        go_returns
        exact RetB.mk rfl hb

theorem wall_c (a b c : Int) (w : World) (h1 : 0 ≤ a) (h2 : a ≤ 1000000) (h3 : 0 ≤ b) (h4 : b ≤ 1000000) : Calls Try.prog 122 #[.agg #[.int .i64 a, .int .i64 b, .int .i64 c]] w (RetB (.int .i64 (a - b)) w) := by
  go_enter Try.func122, Try.ntmps122
  go_wp2
  go_returns
  exact RetB.mk rfl (by go_grown)

end Go.Proofs.Ytjbbhfmojfdcaaa
