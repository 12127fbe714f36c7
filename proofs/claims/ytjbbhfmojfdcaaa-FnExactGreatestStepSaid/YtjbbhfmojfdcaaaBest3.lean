/- The program's thinnest ring. -/
import Derived.Test.YtjbbhfmojfdcaaaBest2
namespace Go.Proofs.Ytjbbhfmojfdcaaa
set_option linter.unusedVariables false
open Go.RowKit Go.Proofs.Bell Go.BigFrame

set_option maxHeartbeats 3200000 in
theorem thinnest_c (nm : ByteArray) (sv : Value) (ps : List (Int × Int × Int)) (w : World) (h : Rd w sv ps.length (trips ps)) (hal : ps.all ringT = true) (hl1 : 1 ≤ ps.length) :
    Calls Try.prog 82 #[.agg #[.string nm, sv]] w (RetB (.int .i64 (bestK thinB ps ps.length : Nat)) w) := by
  obtain ⟨hn, ao, cap, b, off, rfl, hao, hcell⟩ := h.open
  clear h
  have HAL := Lib.hid hal; clear hal
  generalize hn' : ps.length = n at *
  have HN := Lib.hid hn'; clear hn'
  go_enter Try.func82, Try.ntmps82
  go_wp2_with fail
  go_loopw [9, 3] (fun i s wr => ∃ (k : Nat), k ≤ n ∧ i = .int .i64 k ∧ s = .int .i64 (bestK thinB ps k : Nat) ∧ wr.cell? ⟨w.heap.size, 1, none⟩ = some (.slice ao n cap) ∧ Below w.heap.size w wr) (fun i _ _ => n - (intOf i).toNat)
  case atStart => exact ⟨0, Nat.zero_le _, rfl, rfl, by simp [go_sem], by go_grown⟩
  case round =>
    obtain ⟨k, hk, rfl, rfl, m1, hb⟩ := hrel
    by_cases hlt : k < n
    · have hj := bestK_lt (b := thinB) (rs := ps) hl1 k hk
      have hltp : k < ps.length := by rw [HN.out]; exact hlt
      have hltj : bestK thinB ps k < ps.length := by rw [HN.out]; exact hj
      have hs : bestK thinB ps (k + 1) = if thinB (rg ps k) (rg ps (bestK thinB ps k)) then k else bestK thinB ps k := rfl
      generalize bestK thinB ps k = j at *
      have hix := ix (P := Try.prog) (T := 48) (cap := cap) Try.underlying48 cells_Ring has_Ring hao hlt k rfl
      have hix2 := ix (P := Try.prog) (T := 48) (cap := cap) Try.underlying48 cells_Ring has_Ring hao hj j rfl
      have hc1 : wr.cell? ⟨b, off + k * 3, none⟩ = some (.int .i64 (rg ps k).1) := by rw [rg_eq hltp]; exact hcell _ hb _ _ (by omega) (trips_at hltp).1
      have hc2 : wr.cell? ⟨b, off + k * 3 + 1, none⟩ = some (.int .i64 (rg ps k).2.1) := by rw [rg_eq hltp]; exact hcell _ hb _ _ (by omega) (trips_at hltp).2.1
      have hc3 : wr.cell? ⟨b, off + k * 3 + 2, none⟩ = some (.int .i64 (rg ps k).2.2) := by rw [rg_eq hltp]; exact hcell _ hb _ _ (by omega) (trips_at hltp).2.2
      have hd1 : wr.cell? ⟨b, off + j * 3, none⟩ = some (.int .i64 (rg ps j).1) := by rw [rg_eq hltj]; exact hcell _ hb _ _ (by omega) (trips_at hltj).1
      have hd2 : wr.cell? ⟨b, off + j * 3 + 1, none⟩ = some (.int .i64 (rg ps j).2.1) := by rw [rg_eq hltj]; exact hcell _ hb _ _ (by omega) (trips_at hltj).2.1
      have hd3 : wr.cell? ⟨b, off + j * 3 + 2, none⟩ = some (.int .i64 (rg ps j).2.2) := by rw [rg_eq hltj]; exact hcell _ hb _ _ (by omega) (trips_at hltj).2.2
      have hs2 : (decide ((rg ps k).1 - (rg ps k).2.1 < (rg ps j).1 - (rg ps j).2.1)) = thinB (rg ps k) (rg ps j) := rfl
      have hrk := ringT_t (by have := List.all_eq_true.1 HAL.out ps[k] (List.getElem_mem hltp); rw [← rg_eq hltp] at this; exact this)
      have hrj := ringT_t (by have := List.all_eq_true.1 HAL.out ps[j] (List.getElem_mem hltj); rw [← rg_eq hltj] at this; exact this)
      have hq1 : 0 ≤ (rg ps k).1 ∧ (rg ps k).1 ≤ 1000000 ∧ 0 ≤ (rg ps k).2.1 ∧ (rg ps k).2.1 ≤ 1000000 := by omega
      have hq2 : 0 ≤ (rg ps j).1 ∧ (rg ps j).1 ≤ 1000000 ∧ 0 ≤ (rg ps j).2.1 ∧ (rg ps j).2.1 ≤ 1000000 := by omega
      have hbb : b < wr.heap.size := World.block_lt_of_cell? wr _ hc1
      have hbl : w.heap.size < wr.heap.size := World.block_lt_of_cell? wr _ m1
      clear hcell hltj hrk hrj
      rw [← hs2] at hs
      clear hs2
      generalize (rg ps k).1 = x at *
      generalize (rg ps k).2.1 = x' at *
      generalize (rg ps k).2.2 = x'' at *
      generalize (rg ps j).1 = y at *
      generalize (rg ps j).2.1 = y' at *
      generalize (rg ps j).2.2 = y'' at *
      cases t1 : decide (x - x' < y - y') <;>
      · rw [t1] at hs
        have HS := Lib.hid hs; clear hs
        go_wp2_with fail
        have e0 : ∀ s : Lat (wr.alloc (Obj.cells #[.int .i64 x, .int .i64 x', .int .i64 x''] 90)), s.world.cell? ⟨wr.heap.size, 0, none⟩ = some (.int .i64 x) := fun s => s.cell (by simp [go_sem])
        have e1 : ∀ s : Lat (wr.alloc (Obj.cells #[.int .i64 x, .int .i64 x', .int .i64 x''] 90)), s.world.cell? ⟨wr.heap.size, 1, none⟩ = some (.int .i64 x') := fun s => s.cell (by simp [go_sem])
        have e2 : ∀ s : Lat (wr.alloc (Obj.cells #[.int .i64 x, .int .i64 x', .int .i64 x''] 90)), s.world.cell? ⟨wr.heap.size, 2, none⟩ = some (.int .i64 x'') := fun s => s.cell (by simp [go_sem])
        have e3 : ∀ s : Lat (wr.alloc (Obj.cells #[.int .i64 x, .int .i64 x', .int .i64 x''] 90)), s.world.cell? ⟨w.heap.size, 1, none⟩ = some (.slice ao n cap) := fun s => s.cell (alloc_cell _ m1)
        have e4 : ∀ s : Lat (wr.alloc (Obj.cells #[.int .i64 x, .int .i64 x', .int .i64 x''] 90)), s.world.cell? ⟨b, off + j * 3, none⟩ = some (.int .i64 y) := fun s => s.cell (alloc_cell _ hd1)
        have e5 : ∀ s : Lat (wr.alloc (Obj.cells #[.int .i64 x, .int .i64 x', .int .i64 x''] 90)), s.world.cell? ⟨b, off + j * 3 + 1, none⟩ = some (.int .i64 y') := fun s => s.cell (alloc_cell _ hd2)
        have e6 : ∀ s : Lat (wr.alloc (Obj.cells #[.int .i64 x, .int .i64 x', .int .i64 x''] 90)), s.world.cell? ⟨b, off + j * 3 + 2, none⟩ = some (.int .i64 y'') := fun s => s.cell (alloc_cell _ hd3)
        refine wp_region_lat (by kernel_rfl) (by kernel_rfl) ?_
        repeat (go_big_quiet_step ((go_at_call 122; exact Lat.callB (wall_c _ _ _ _ (by omega) (by omega) (by omega) (by omega)))))
        refine wpQuiet_nil ?_
        rintro _ ⟨s, rfl⟩
        have f3 := e3 s
        have hb2 := (hb.alloc hb.size (Obj.cells #[.int .i64 x, .int .i64 x', .int .i64 x''] 90)).trans (s.below.mono (by simp; have := hb.size; omega))
        clear e0 e1 e2 e3 e4 e5 e6 hc1 hc2 hc3 hd1 hd2 hd3 t1
        go_wp2
        go_roundw
        case rel => exact ⟨k + 1, by omega, by go_num, by rw [HS.out]; rfl, f3, hb2⟩
        case measure => simp [intOf]; omega
    · obtain rfl : k = n := by omega
      go_wp2
      go_returns
      exact RetB.mk rfl hb

theorem implThinnestRing_c (nm : ByteArray) (sv : Value) (ps : List (Int × Int × Int)) (w : World) (hnm : nm.size ≤ maxLen) (h : Rd w sv ps.length (trips ps)) :
    Calls Try.prog 35 #[.agg #[.string nm, sv]] w (RetB (.tuple #[.int .i64 (thinI nm ps).1, .int .i64 (thinI nm ps).2]) w) := by
  have hok := fun w' (hb : Below w.heap.size w w') => ValidProfile_c nm sv ps w' hnm (h.later hb)
  have hv := fun (hp : profB nm ps = true) => profB_t hp
  have ht := fun h1 h2 w' (hb : Below w.heap.size w w') => thinnest_c nm sv ps w' (h.later hb) h1 h2
  clear h
  cases t0 : profB nm ps <;> rw [t0] at hok
  · have HOK := Lib.hid hok; clear hok
    have HT := Lib.hid ht; clear ht
    go_enter Try.func35, Try.ntmps35
    go_wp2_with fail
    refine (HOK.out _ (by go_grown)).mono ?_
    rintro _ w1 ⟨rfl, s1⟩
    have b1 : Below w.heap.size w w1 := Below.trans (by go_grown) (s1.mono (by simp))
    clear s1
    go_wp2
    go_returns
    exact RetB.mk (ints_eq (by simp [thinI, t0]) (by simp [thinI, t0])) b1
  · have HOK := Lib.hid hok; clear hok
    obtain ⟨hl1, hl2, hal, _⟩ := hv t0
    have ht := ht hal hl1
    have HT := Lib.hid ht; clear ht
    have hr : thinI nm ps = ((bestK thinB ps ps.length : Int), 0) := by simp [thinI, t0]
    rw [hr]
    clear hv hr
    go_enter Try.func35, Try.ntmps35
    go_wp2_with fail
    refine (HOK.out _ (by go_grown)).mono ?_
    rintro _ w1 ⟨rfl, s1⟩
    have b1 : Below w.heap.size w w1 := Below.trans (by go_grown) (s1.mono (by simp))
    have k0 := below_cell s1 (p := ⟨w.heap.size, 0, none⟩) (v := .string nm) (by simp [go_sem])
    have k1 := below_cell s1 (p := ⟨w.heap.size, 1, none⟩) (v := sv) (by simp [go_sem])
    clear s1
    go_wp2_with fail
    refine (HT.out _ b1).mono ?_
    rintro _ w2 ⟨rfl, s2⟩
    go_wp2
    go_returns
    exact RetB.mk rfl (b1.trans (s2.mono b1.size))

end Go.Proofs.Ytjbbhfmojfdcaaa
