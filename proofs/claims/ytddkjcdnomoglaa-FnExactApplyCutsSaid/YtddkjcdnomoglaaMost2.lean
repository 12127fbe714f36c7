/- How many steps a zone allows: the program. -/
import Derived.Test.YtddkjcdnomoglaaMost
namespace Go.Proofs.Ytddkjcdnomoglaa
set_option linter.unusedVariables false
open Go.RowKit Go.Proofs.Bell Go.BigFrame

theorem turn_len (zs : List Int) (n z : Nat) (s : Int) : (oneAt n z s).length = n := by simp [oneAt]

set_option maxRecDepth 100000 in
set_option maxHeartbeats 3200000 in
theorem mostSteps_c (nm : ByteArray) (sv : Value) (ps : List (Int × Int × Int)) (v : Value) (zs : List Int) (z : Nat) (w : World) (hnm : nm.size ≤ maxLen) (hr : Rd w sv ps.length (trips ps)) (h : Rd w v zs.length (ints zs))
    (hl1 : 1 ≤ ps.length) (hl2 : ps.length ≤ 32) (hal : ps.all ringT = true) (hzb : zonesB zs ((ps.length : Int) - 1) = true) (hz : z < zs.length) :
    Calls Try.prog 67 #[.agg #[.string nm, sv], v, .int .i64 z] w (RetB (.int .i64 (mostI nm ps zs z)) w) := by
  obtain ⟨hz1, hz8⟩ := zones_len hzb
  obtain ⟨i0, hi, hy0, hy1, hy2⟩ := info_parts info_int64
  have ht := fun (w' : World) (u : Value) (s : Nat) (hs : s ≤ 20) (hb : Below w.heap.size w w') (h2 : Rd w' u zs.length (ints (oneAt zs.length z s))) => turned_c nm sv ps v zs u (oneAt zs.length z s) w' (hr.later hb) (h.later hb) (by rw [turn_len zs]; exact h2) hl1 hl2 hal hzb (by rw [turn_len zs]; exact Nat.le_refl _) (fun k => by rw [oneAt_getD zs.length z s hz]; split <;> omega) (zs_zero hzb) (fun a m h1 h2 h3 => zoneI_at hzb h1 h2 h3)
  have hok := fun (w' : World) (u : Value) (s : Nat) (ho : Rd w' u (mapK (turn1 zs z s) ps ps.length).length (trips (mapK (turn1 zs z s) ps ps.length))) => ValidProfile_c nm u (mapK (turn1 zs z s) ps ps.length) w' hnm ho
  have HOK := Lib.hid hok; clear hok
  simp only [turnT_one zs zs.length z _ hz] at ht
  have HT := Lib.hid ht; clear ht
  obtain ⟨hn0, ao0, cap0, b0', off0, rfl, hao0, hcell0⟩ := hr.open
  clear hcell0 hao0 hr
  obtain ⟨hnq, aoq, capq, bq, offq, rfl, haoq, hcellq⟩ := h.open
  clear hcellq haoq h hal hzb
  generalize zs.length = nz at *
  go_enter Try.func67, Try.ntmps67
  go_wp2_with fail
  go_loopw [7] (fun i wr => ∃ (k : Nat), 1 ≤ k ∧ k ≤ 21 ∧ i = .int .i64 k ∧ mostF (okSteps nm ps zs z) (21 - k) (k - 1) = mostI nm ps zs z ∧ Below w.heap.size w wr ∧ wr.cell? ⟨w.heap.size, 0, none⟩ = some (.string nm) ∧ wr.cell? ⟨w.heap.size, 1, none⟩ = some (.slice ao0 ps.length cap0)) (fun i _ => 21 - (intOf i).toNat)
  case atStart => exact ⟨1, Nat.le_refl _, by omega, rfl, rfl, by go_grown, by simp [go_sem], by simp [go_sem]⟩
  case round =>
    obtain ⟨k, hk1, hk, rfl, hx, hb, k0, k1⟩ := hrel
    have zwr : w.heap.size + 1 ≤ wr.heap.size := World.block_lt_of_cell? _ ⟨w.heap.size, 0, none⟩ k0
    by_cases hlt : k ≤ 20
    · have e1 : (k : Int) ≤ 20 := by omega
      have hx2 : mostF (okSteps nm ps zs z) (21 - k) (k - 1) = if okSteps nm ps zs z k then mostF (okSteps nm ps zs z) (21 - (k + 1)) (k + 1 - 1) else k - 1 := by
        rw [show 21 - k = (21 - (k + 1)) + 1 by omega, Nat.add_sub_cancel]
        conv => lhs; unfold mostF
        rw [show k - 1 + 1 = k by omega]
      rw [hx2] at hx
      clear hx2
      have HX := Lib.hid hx; clear hx
      go_wp2_with (at_make; refine wpList_make_full _ rfl _ _ 25 rfl w.heap.size 2 i0 (.int .i64 0) 1 Try.underlying25 hi hy0 hy1 _ _ _ _ nz rfl rfl (by omega) (by omega) ?b2 ?b3 hb.size ?_)
      case b2 => rw [hy2]; omega
      case b3 => unfold maxLen; omega
      intro w0 hown0 hg0
      rw [toList_madeCells_one] at hown0
      have hb0 : Below w.heap.size w w0 := hb.grown hg0 hb.size (fun k h => by cases h)
      have hbw : Below wr.heap.size wr w0 := (Below.refl _ _).grown hg0 (Nat.le_refl _) (fun k h => by cases h)
      have hix := ix (P := Try.prog) (T := 25) (n := nz) (cap := nz) Try.underlying25 cells_int64 has_int64 (ao := some ⟨wr.heap.size, 0, none⟩) (b := wr.heap.size) (off := 0) (fun _ => rfl) (k := z) hz _ rfl
      rw [Nat.mul_one, Nat.zero_add] at hix
      have hc5 := World.ownsRow.cellAt hown0 z (by omega)
      rw [List.getElem?_replicate, if_pos (by omega)] at hc5
      have hf5 := World.ownsRow.frozenAt hown0 z
      have hst := (World.ownsRow.stored hown0 z (.int .i64 (k : Int))).1
      rw [ints_oneAt] at hst
      have hrd := Rd.of_own hst
      have hb2 : Below w.heap.size w (w0.setCell ⟨wr.heap.size, z, none⟩ (.int .i64 (k : Int))) := hb0.setCell hb.size _
      have m0 : (w0.setCell ⟨wr.heap.size, z, none⟩ (.int .i64 (k : Int))).cell? ⟨w.heap.size, 0, none⟩ = some (.string nm) := by rw [World.cell?_setCell_other _ _ _ _ (by simp; try omega)]; exact below_cell hbw k0
      have m1 : (w0.setCell ⟨wr.heap.size, z, none⟩ (.int .i64 (k : Int))).cell? ⟨w.heap.size, 1, none⟩ = some (.slice ao0 ps.length cap0) := by rw [World.cell?_setCell_other _ _ _ _ (by simp; try omega)]; exact below_cell hbw k1
      have n0 := below_cell hbw k0
      have n1 := below_cell hbw k1
      have htk := HT.out _ _ k (by omega) hb2 hrd
      have hokk := fun w' u ho => HOK.out w' u k ho
      have e9 : profB nm (mapK (turn1 zs z (k : Int)) ps ps.length) = okSteps nm ps zs z k := rfl
      rw [e9] at hokk
      generalize mapK (turn1 zs z (k : Int)) ps ps.length = qs at *
      have hx := HX.out
      clear HX e9 hst hrd hown0 hg0 k0 k1
      generalize okSteps nm ps zs z k = c at *
      have HX := Lib.hid hx; clear hx
      have HTK := Lib.hid htk; clear htk
      have HOKK := Lib.hid hokk; clear hokk
      go_wp2_with fail
      refine HTK.out.mono ?_
      rintro _ w5 ⟨u5, rfl, o5, b5⟩
      have hb5 := hb2.trans (b5.mono hb2.size)
      have l0 := below_cell b5 m0
      have l1 := below_cell b5 m1
      obtain ⟨a5, p5, rfl⟩ := own_shape o5
      have z5 := hb5.size
      have O5 := Lib.hid o5; clear o5
      clear b5 m0 m1 n0 n1
      go_wp2_with fail
      refine (HOKK.out _ _ ((Rd.of_own O5.out).later (by go_grown))).mono ?_
      rintro _ w6 ⟨rfl, r6⟩
      have b6 : Below w.heap.size w w6 := by first | exact hb5.trans (r6.mono z5) | exact Below.trans (by go_grown) (r6.mono (by simp; try omega))
      have j0 := below_cell (Below.trans (Below.refl _ _) r6) l0
      have j1 := below_cell (Below.trans (Below.refl _ _) r6) l1
      clear r6 l0 l1
      have hx := HX.out
      cases c
      · have hx4 : k - 1 = mostI nm ps zs z := by simpa using hx
        have hx3 : ((k : Int) - 1) = ((mostI nm ps zs z : Nat) : Int) := by omega
        clear hx4
        clear HX hx
        go_wp2
        go_returns
        exact RetB.mk (int_eq (by first | rfl | rw [hx3])) b6
      · have hx3 : mostF (okSteps nm ps zs z) (21 - (k + 1)) (k + 1 - 1) = mostI nm ps zs z := by simpa using hx
        clear HX hx
        have HX3 := Lib.hid hx3; clear hx3
        go_wp2
        go_roundw
        case rel => exact ⟨k + 1, by omega, by omega, by go_num, HX3.out, b6, j0, j1⟩
        case measure => simp [intOf]; omega
    · obtain rfl : k = 21 := by omega
      go_wp2
      go_returns
      exact RetB.mk (int_eq (by rw [← hx]; rfl)) hb

end Go.Proofs.Ytddkjcdnomoglaa
