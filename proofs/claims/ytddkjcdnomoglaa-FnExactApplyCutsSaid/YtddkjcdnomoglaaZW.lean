/- The mean walls of zones. -/
import Derived.Test.YtddkjcdnomoglaaValidZ
import Derived.Test.YtddkjcdnomoglaaWall
import Derived.Test.YtddkjcdnomoglaaApp
import Derived.Test.YtddkjcdnomoglaaInts
namespace Go.Proofs.Ytddkjcdnomoglaa
set_option linter.unusedVariables false
open Go.RowKit Go.Proofs.Bell Go.BigFrame

def zEnd (zs : List Int) (m : Nat) (z : Nat) : Int := if z + 1 < zs.length then zs.getD (z + 1) 0 else m
def wsK (ps : List (Int × Int × Int)) (a : Nat) : Nat → Int
  | 0 => 0
  | j + 1 => wsK ps a j + wallT (rg ps (a + j))
def zwK (ps : List (Int × Int × Int)) (zs : List Int) : Nat → List Int
  | 0 => []
  | z + 1 => zwK ps zs z ++ [rnd (wsK ps (zs.getD z 0).toNat (zEnd zs ps.length z - zs.getD z 0).toNat) (zEnd zs ps.length z - zs.getD z 0)]
theorem zwK_len (ps : List (Int × Int × Int)) (zs : List Int) : ∀ k, (zwK ps zs k).length = k
  | 0 => rfl
  | k + 1 => by rw [zwK, List.length_append, zwK_len ps zs k]; rfl
theorem wsK_bd {ps : List (Int × Int × Int)} (h : ps.all ringT = true) (a : Nat) : ∀ j, a + j ≤ ps.length → 0 ≤ wsK ps a j ∧ wsK ps a j ≤ 150000 * j
  | 0, _ => by simp [wsK]
  | j + 1, hj => by
    have ih := wsK_bd h a j (by omega)
    have hr := ringT_t (all_at h (show a + j < ps.length by omega))
    simp only [wsK, wallT]
    omega
theorem riseAt_of {zs : List Int} {lo hi : Int} (h : risesB zs lo hi = true) {k : Nat} (hk : k < zs.length) : riseAt zs lo hi k = true := List.all_eq_true.1 h k (List.mem_range.2 hk)
theorem zones_at {zs : List Int} {m z : Nat} (h : zonesB zs ((m : Int) - 1) = true) (hz : z < zs.length) : 0 ≤ zs.getD z 0 ∧ zs.getD z 0 < zEnd zs m z ∧ zEnd zs m z ≤ m := by
  simp only [zonesB, Bool.and_eq_true] at h
  have h0 := riseAt_of h.2 hz
  simp only [riseAt, inB, Bool.and_eq_true, decide_eq_true_eq] at h0
  unfold zEnd
  split
  · rename_i hlt
    have h1 := riseAt_of h.2 hlt
    simp only [riseAt, inB, Bool.and_eq_true, decide_eq_true_eq, Bool.or_eq_true, Nat.add_sub_cancel] at h1
    have h2 : zs.getD z 0 < zs.getD (z + 1) 0 := by
      rcases h1.2 with h3 | h3
      · simp at h3
      · exact h3
    omega
  · omega
theorem zones_len {zs : List Int} {m : Nat} (h : zonesB zs ((m : Int) - 1) = true) : 1 ≤ zs.length ∧ zs.length ≤ 8 := by
  simp only [zonesB, Bool.and_eq_true, inB, decide_eq_true_eq] at h
  omega

theorem rd_cap {w : World} {ao : Option Addr} {n cap n' : Nat} {xs : List Value} (h : Rd w (.slice ao n cap) n' xs) : n ≤ cap := by
  rcases h with ⟨_, ⟨_, _, ao', cap', hv, _⟩ | ⟨_, b, off, m, hv, hlc, _⟩⟩
  · cases hv; exact Nat.zero_le _
  · cases hv; exact hlc

set_option maxHeartbeats 800000 in
theorem zoneEnd_c (nm : ByteArray) (sv : Value) (ps : List (Int × Int × Int)) (v : Value) (zs : List Int) (z : Nat) (w : World) (hr : Rd w sv ps.length (trips ps)) (h : Rd w v zs.length (ints zs)) (hz : z < zs.length) (hl : zs.length ≤ 8) :
    Calls Try.prog 135 #[.agg #[.string nm, sv], v, .int .i64 z] w (RetB (.int .i64 (zEnd zs ps.length z)) w) := by
  have hs := fun w' (hb : Below w.heap.size w w') => sizeR_c sv ps.length (trips ps) w' (hr.later hb)
  have HS := Lib.hid hs; clear hs
  by_cases t : z + 1 < zs.length
  · have he : zEnd zs ps.length z = zs.getD (z + 1) 0 := by simp [zEnd, t]
    rw [he]
    clear he hr
    generalize hn : zs.length = n at *
    have HN := Lib.hid hn; clear hn
    obtain ⟨hn, ao, cap, bb, off, rfl, hao, hcell⟩ := h.open
    clear h
    have t1 : (z : Int) + 1 < n := by omega
    go_enter Try.func135, Try.ntmps135
    have b0 : Below w.heap.size w w := Below.refl _ _
    have z0 : w.heap.size ≤ w.heap.size := Nat.le_refl _
    have hlt_q : z + 1 < zs.length := by rw [HN.out]; omega
    have hix_q := ix (P := Try.prog) (T := 25) (cap := cap) Try.underlying25 cells_int64 has_int64 hao (k := z + 1) (by omega) ((z : Int) + 1) (by omega)
    rw [Nat.mul_one] at hix_q
    have hq : ∀ o, (w.alloc o).cell? ⟨bb, off + (z + 1), none⟩ = some (.int .i64 (zs.getD (z + 1) 0)) := fun o => alloc_cell o (by rw [getD_eq hlt_q]; exact hcell _ (Below.refl _ _) _ _ (by omega) (intsAt hlt_q))
    clear hcell hlt_q
    generalize zs.getD (z + 1) 0 = q0 at *
    go_wp2
    go_returns
    exact RetB.mk rfl (by go_grown)
  · have he : zEnd zs ps.length z = ps.length := by simp [zEnd, t]
    rw [he]
    clear he
    obtain ⟨hn2, ao2, cap2, b2, off2, rfl, hao2, hcell2⟩ := hr.open
    clear hcell2 hr
    generalize hn : zs.length = n at *
    have HN := Lib.hid hn; clear hn
    obtain ⟨hn, ao, cap, bb, off, rfl, hao, hcell⟩ := h.open
    clear h
    have t1 : ¬ (z : Int) + 1 < n := by omega
    clear hcell
    go_enter Try.func135, Try.ntmps135
    have b0 : Below w.heap.size w w := Below.refl _ _
    have z0 : w.heap.size ≤ w.heap.size := Nat.le_refl _
    go_wp2_with fail
    refine (HS.out _ (by go_grown)).mono ?_
    rintro _ _ ⟨rfl, rfl⟩
    go_wp2
    go_returns
    exact RetB.mk rfl (by go_grown)

set_option maxRecDepth 100000 in
set_option maxHeartbeats 1600000 in
theorem zoneWalls_c (nm : ByteArray) (sv : Value) (ps : List (Int × Int × Int)) (v : Value) (zs : List Int) (w : World) (hr : Rd w sv ps.length (trips ps)) (h : Rd w v zs.length (ints zs)) (hal : ps.all ringT = true) (hl : ps.length ≤ 32) (hzb : zonesB zs ((ps.length : Int) - 1) = true) :
    Calls Try.prog 72 #[.agg #[.string nm, sv], v] w (RetOwnI (zwK ps zs zs.length) w) := by
  obtain ⟨hz1, hz8⟩ := zones_len hzb
  have hza := fun k (hk : k < zs.length) => zones_at hzb hk
  have hze := fun w' k (hk : k < zs.length) (hb : Below w.heap.size w w') => zoneEnd_c nm sv ps v zs k w' (hr.later hb) (h.later hb) hk hz8
  have hst := fun k => (show zwK ps zs k ++ [rnd (wsK ps (zs.getD k 0).toNat (zEnd zs ps.length k - zs.getD k 0).toNat) (zEnd zs ps.length k - zs.getD k 0)] = zwK ps zs (k + 1) from rfl)
  have hbd := wsK_bd hal
  have hcp : ∀ ao n cap, sv = .slice ao n cap → n ≤ cap := fun _ _ _ e => rd_cap (e ▸ hr)
  clear hzb
  have HZA := Lib.hid hza; clear hza
  have HZE := Lib.hid hze; clear hze
  have HST := Lib.hid hst; clear hst
  have HBD := Lib.hid hbd; clear hbd
  have HAL := Lib.hid hal; clear hal
  generalize hn : ps.length = n at *
  have HN := Lib.hid hn; clear hn
  obtain ⟨hn, ao, cap, bb, off, rfl, hao, hcell⟩ := hr.open
  clear hr
  have hcp' := hcp _ _ _ rfl
  clear hcp
  generalize hnz : zs.length = nz at *
  have HNz := Lib.hid hnz; clear hnz
  obtain ⟨hnz, aoz, capz, bbz, offz, rfl, haoz, hcellz⟩ := h.open
  clear h
  go_enter Try.func72, Try.ntmps72
  have b0 : Below w.heap.size w w := Below.refl _ _
  have z0 : w.heap.size ≤ w.heap.size := Nat.le_refl _
  go_wp2_with fail
  go_loopw [14, 5] (fun i u wr => ∃ (k : Nat), k ≤ nz ∧ i = .int .i64 k ∧ OwnI (w.heap.size + 1) wr u (zwK ps zs k) ∧ Below w.heap.size w wr ∧ wr.cell? ⟨w.heap.size, 0, none⟩ = some (.string nm) ∧ wr.cell? ⟨w.heap.size, 1, none⟩ = some (.slice ao n cap)) (fun i u _ => nz - (intOf i).toNat)
  case atStart => exact ⟨0, Nat.zero_le _, rfl, World.ownsRow_nil _ _ _ _, (by go_grown), (by simp [go_sem]), (by simp [go_sem])⟩
  case round =>
    obtain ⟨k, hk, rfl, ho, br0, c0_0_r0, c0_1_r0⟩ := hrel
    have zr0 := br0.size
    have hlen := zwK_len ps zs k
    have hlo := own_lo ho
    have HO := Lib.hid ho; clear ho
    have LO := Lib.hid hlo; clear hlo
    by_cases hlt : k < nz
    · skip
      have hlt_q : k < zs.length := by rw [HNz.out]; omega
      have hix_q := ix (P := Try.prog) (T := 25) (cap := capz) Try.underlying25 cells_int64 has_int64 haoz (k := k) (by omega) _ (rfl)
      rw [Nat.mul_one] at hix_q
      have hq : wr.cell? ⟨bbz, offz + k, none⟩ = some (.int .i64 (zs.getD k 0)) := by rw [getD_eq hlt_q]; exact hcellz _ br0 _ _ (by omega) (intsAt hlt_q)
      obtain ⟨g1, g2, g3⟩ := HZA.out k hlt
      have hs := HST.out k
      have he := HZE.out
      obtain ⟨A, hA⟩ : ∃ A : Nat, zs.getD k 0 = A := ⟨_, (Int.toNat_of_nonneg g1).symm⟩
      obtain ⟨E, hE⟩ : ∃ E : Nat, zEnd zs n k = E := ⟨(zEnd zs n k).toNat, (Int.toNat_of_nonneg (by omega)).symm⟩
      have hek := fun w' hb => HZE.out w' k hlt hb
      rw [hA, hE] at g2 hs
      rw [hE] at g3 hek
      rw [hA] at hq
      have e1 : ((A : Int)).toNat = A := Int.toNat_natCast A
      have e2 : ((E : Int) - A).toNat = E - A := by omega
      rw [e1, e2] at hs
      have hsum := HBD.out A (E - A) (by omega)
      have hm := fun w' => nearest_c (wsK ps A (E - A)) ((E : Int) - A) w' (by omega) (by omega) (by omega) (by omega)
      obtain rfl : ao = some ⟨bb, off, none⟩ := hao (by omega)
      have f1 : (0 : Int) ≤ (A : Int) := by omega
      have f2 : (A : Int) ≤ (E : Int) := by omega
      have f3 : (E : Int) ≤ (cap : Int) := by omega
      have HS := Lib.hid hs; clear hs
      have HM := Lib.hid hm; clear hm
      have HEK := Lib.hid hek; clear hek
      clear he hcellz e1 e2
      go_wp2_with fail
      refine (HEK.out _ br0).mono ?_
      rintro _ wr1 ⟨rfl, rr1⟩
      have sr1 := rr1
      have br1 := br0.trans (sr1.mono zr0)
      have zr1 := br1.size
      have yr1 := sr1.size
      have c0_0_r1 := below_cell sr1 c0_0_r0; clear c0_0_r0
      have c0_1_r1 := below_cell sr1 c0_1_r0; clear c0_1_r0
      have o1_r1 := own_later HO.out sr1; have O1_r1 := Lib.hid o1_r1; clear o1_r1
      clear rr1
      go_wp2_with fail
      go_loopw [29, 8] (fun i s wr => ∃ (j : Nat), j ≤ E - A ∧ i = .int .i64 j ∧ s = .int .i64 (wsK ps A j) ∧ Below wr1.heap.size wr1 wr) (fun i _ _ => (E - A) - (intOf i).toNat)
      case atStart => exact ⟨0, Nat.zero_le _, rfl, rfl, Below.refl _ _⟩
      case round =>
        obtain ⟨j, hj, rfl, rfl, hbi⟩ := hrel
        by_cases hlj : j < E - A
        · have hAj : A + j < ps.length := by rw [HN.out]; omega
          have hring := all_at HAL.out hAj
          have hix_p := ix (P := Try.prog) (T := 29) (n := E - A) (cap := cap - A) Try.underlying29 cells_Ring has_Ring (ao := some ⟨bb, off + A * 3, none⟩) (b := bb) (off := off + A * 3) (fun _ => rfl) (k := j) hlj _ rfl
          have b2 : Below w.heap.size w wr := br1.trans (hbi.mono zr1)
          have hp0 : wr.cell? ⟨bb, off + A * 3 + j * 3, none⟩ = some (.int .i64 (rg ps (A + j)).1) := by rw [show off + A * 3 + j * 3 = off + (A + j) * 3 by omega, rg_eq hAj]; exact hcell _ b2 _ _ (by omega) (trips_at hAj).1
          have hp1 : wr.cell? ⟨bb, off + A * 3 + j * 3 + 1, none⟩ = some (.int .i64 (rg ps (A + j)).2.1) := by rw [show off + A * 3 + j * 3 = off + (A + j) * 3 by omega, rg_eq hAj]; exact hcell _ b2 _ _ (by omega) (trips_at hAj).2.1
          have hp2 : wr.cell? ⟨bb, off + A * 3 + j * 3 + 2, none⟩ = some (.int .i64 (rg ps (A + j)).2.2) := by rw [show off + A * 3 + j * 3 = off + (A + j) * 3 by omega, rg_eq hAj]; exact hcell _ b2 _ _ (by omega) (trips_at hAj).2.2
          have hw := fun w' => wallT_c (rg ps (A + j)) w' hring
          have hsj : wsK ps A j + wallT (rg ps (A + j)) = wsK ps A (j + 1) := rfl
          have hb1 := HBD.out A j (by omega)
          have hb2 := HBD.out A (j + 1) (by omega)
          rw [← hsj] at hb2
          have HSJ := Lib.hid hsj; clear hsj
          have HW := Lib.hid hw; clear hw
          clear hcell hring
          generalize wallT (rg ps (A + j)) = x at *
          generalize (rg ps (A + j)).1 = x0 at *
          generalize (rg ps (A + j)).2.1 = x1 at *
          generalize (rg ps (A + j)).2.2 = x2 at *
          generalize wsK ps A j = s0 at *
          have hlji : (j : Int) < ((E - A : Nat) : Int) := by omega
          go_wp2_with fail
          refine (HW.out _).mono ?_
          rintro _ w5 ⟨rfl, r5⟩
          have sz1 := hbi.size
          have b5 : Below wr1.heap.size wr1 w5 := Below.trans (hbi.trans (Below.mono (by go_grown) sz1)) (r5.mono (by simp; try omega))
          go_wp2
          go_roundw
          case rel => exact ⟨j + 1, by omega, by go_num, by rw [← HSJ.out], b5⟩
          case measure => simp [intOf]; omega
        · obtain rfl : j = E - A := by omega
          have sr2 := hbi
          have br2 := br1.trans (sr2.mono zr1)
          have zr2 := br2.size
          have yr2 := sr2.size
          have c0_0_r2 := below_cell sr2 c0_0_r1; clear c0_0_r1
          have c0_1_r2 := below_cell sr2 c0_1_r1; clear c0_1_r1
          have o1_r2 := own_later O1_r1.out sr2; have O1_r2 := Lib.hid o1_r2; clear o1_r2
          clear hcell
          clear hlj hj hsum
          generalize wsK ps A (E - A) = s0 at *
          go_wp2_with fail
          refine (HM.out _).mono ?_
          rintro _ wr3 ⟨rfl, dr3⟩
          have rr3 := Dr.below dr3; clear dr3
          have sr3 := rr3
          have br3 := br2.trans (sr3.mono zr2)
          have zr3 := br3.size
          have yr3 := sr3.size
          have c0_0_r3 := below_cell sr3 c0_0_r2; clear c0_0_r2
          have c0_1_r3 := below_cell sr3 c0_1_r2; clear c0_1_r2
          have o1_r3 := own_later O1_r2.out sr3; have O1_r3 := Lib.hid o1_r3; clear o1_r3
          clear rr3
          have zz3 : w.heap.size + 1 ≤ wr3.heap.size := World.block_lt_of_cell? _ ⟨w.heap.size, 0, none⟩ c0_0_r3
          go_wp2_with (at_builtin; refine app_I (.tmp 38) (.tmp 44) _ _ _ _ _ (by rfl) (by rfl) (by rfl) (by rfl) O1_r3.out (by omega) zz3 ?_; intro v2 w9 o9 q9)
          have d0 := cell_only q9 c0_0_r3 (fun h => by have := LO.out _ h; simp at this; omega)
          have d1 := cell_only q9 c0_1_r3 (fun h => by have := LO.out _ h; simp at this; omega)
          have hb2 := Only.below br3 q9 zr3 (fun k h => by have := LO.out k h; omega)
          go_wp2
          go_roundw
          case rel => exact ⟨k + 1, by omega, by go_num, by rw [← HS.out]; exact o9, hb2, d0, d1⟩
          case measure => simp [intOf]; omega
    · obtain rfl : k = nz := by omega
      clear hcell hcellz
      go_wp2
      go_returns
      exact ⟨_, rfl, own_base HO.out (by omega), br0⟩

end Go.Proofs.Ytddkjcdnomoglaa
