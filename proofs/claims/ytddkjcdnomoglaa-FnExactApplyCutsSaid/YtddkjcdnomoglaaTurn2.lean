/- A profile, turned on the lathe: the program. -/
import Derived.Test.YtddkjcdnomoglaaTurn
import Derived.Test.YtddkjcdnomoglaaZW
namespace Go.Proofs.Ytddkjcdnomoglaa
set_option linter.unusedVariables false
open Go.RowKit Go.Proofs.Bell Go.BigFrame

set_option maxRecDepth 100000 in
set_option maxHeartbeats 3200000 in
theorem turned_c (nm : ByteArray) (sv : Value) (ps : List (Int × Int × Int)) (v : Value) (zs : List Int) (u : Value) (sums : List Int) (w : World) (hr : Rd w sv ps.length (trips ps)) (h : Rd w v zs.length (ints zs)) (h2 : Rd w u sums.length (ints sums))
    (hl1 : 1 ≤ ps.length) (hl2 : ps.length ≤ 32) (hal : ps.all ringT = true) (hzb : zonesB zs ((ps.length : Int) - 1) = true) (hzs : zs.length ≤ sums.length) (hsb : ∀ k, 0 ≤ sums.getD k 0 ∧ sums.getD k 0 ≤ 1000000000000)
    (h00 : zs.getD 0 0 = 0) (hT : ∀ z (m : Nat), z < zs.length → zs.getD z 0 ≤ (m : Int) → (m : Int) < zEnd zs ps.length z → zoneI zs m = z) :
    Calls Try.prog 101 #[.agg #[.string nm, sv], v, u] w (RetOwnP nm (mapK (turnT zs sums) ps ps.length) w) := by
  obtain ⟨hz1, hz8⟩ := zones_len hzb
  have hza := fun k (hk : k < zs.length) => zones_at hzb hk
  have hze := fun w' k (hk : k < zs.length) (hb : Below w.heap.size w w') => zoneEnd_c nm sv ps v zs k w' (hr.later hb) (h.later hb) hk hz8
  have hc := fun w' (hb : Below w.heap.size w w') => copyProfile_c nm sv ps w' (hr.later hb) hl1 (by omega)
  have hnx : ∀ z, z + 1 < zs.length → zs.getD (z + 1) 0 = zEnd zs ps.length z := fun z hz => by simp only [zEnd, if_pos hz]
  have hny : ∀ z, z + 1 = zs.length → zEnd zs ps.length z = ps.length := fun z hz => by unfold zEnd; rw [if_neg (by omega)]
  obtain ⟨hn0, ao0, cap0, b0', off0, rfl, hao0, hcell0⟩ := hr.open
  clear hcell0 hao0 hr hzb
  have HZA := Lib.hid hza; clear hza
  have HZE := Lib.hid hze; clear hze
  have HC := Lib.hid hc; clear hc
  have HAL := Lib.hid hal; clear hal
  have HSB := Lib.hid hsb; clear hsb
  have HT := Lib.hid hT; clear hT
  have HNX := Lib.hid hnx; clear hnx
  have HNY := Lib.hid hny; clear hny
  have H00 := Lib.hid h00; clear h00
  generalize hns : sums.length = ns at *
  have HNS := Lib.hid hns; clear hns
  obtain ⟨hnn, aos, caps, bs, offs, rfl, haos, hcells⟩ := h2.open
  clear h2
  generalize hnz : zs.length = nz at *
  have HNz := Lib.hid hnz; clear hnz
  obtain ⟨hnz, aoz, capz, bbz, offz, rfl, haoz, hcellz⟩ := h.open
  clear h
  go_enter Try.func101, Try.ntmps101
  have b0 : Below w.heap.size w w := Below.refl _ _
  have z0 : w.heap.size ≤ w.heap.size := Nat.le_refl _
  go_wp2_with fail
  refine (HC.out _ (by go_grown)).mono ?_
  rintro _ w1 ⟨x1, rfl, n1, r1⟩
  have s1 : Below w.heap.size w w1 := Below.trans (by go_grown) (r1.mono (by simp; try omega))
  have b1 := b0.trans (s1.mono z0)
  have z1 := b1.size
  have y1 := s1.size
  have c0_0_1 := below_cell r1 (p := ⟨w.heap.size, 0, none⟩) (v := .string nm) (by simp [go_sem])
  have c0_1_1 := below_cell r1 (p := ⟨w.heap.size, 1, none⟩) (v := .slice ao0 ps.length cap0) (by simp [go_sem])
  have c1_0_1 := below_cell r1 (p := ⟨w.heap.size + 1, 0, none⟩) (v := .string ⟨#[]⟩) (by simp [go_sem])
  have c1_1_1 := below_cell r1 (p := ⟨w.heap.size + 1, 1, none⟩) (v := .slice none 0 0) (by simp [go_sem])
  have f1_1 : ∀ j, w1.frozen? ⟨w.heap.size + 1, j, none⟩ = false := fun j => (r1.frozen (p := ⟨w.heap.size + 1, j, none⟩) (by simp [go_sem])).trans (by simp [go_sem])
  clear r1
  obtain ⟨g2, cap2, rfl, hg2, hg3⟩ := World.ownsRow.form n1 hl1
  have O2 := Lib.hid n1; clear n1
  have zz : w.heap.size + 1 < w1.heap.size := World.block_lt_of_cell? _ ⟨w.heap.size + 1, 0, none⟩ c1_0_1
  simp at hg2
  have hI : InPl (w.heap.size + 1) w1.heap.size nm (.slice (some ⟨g2, 0, none⟩) ps.length cap2) ps w (w1.alloc (.cells #[.string nm, .slice (some ⟨g2, 0, none⟩) ps.length cap2] 31)) :=
    ⟨b1.alloc z1 _, by omega, alloc_cell _ c1_0_1, alloc_cell _ c1_1_1, fun j => (alloc_frozen _ (show w.heap.size + 1 < _ from zz)).trans (f1_1 j), by simp [go_sem], by simp [go_sem], own_base (own_later O2.out ((Below.refl _ _).alloc (Nat.le_refl _) _)) (by simp; try omega), fun k hk => by simp [Value.ownBlock] at hk; omega⟩
  have HI := Lib.hid hI; clear hI
  have ac0 := fun o => alloc_cell o c0_0_1
  have ac1 := fun o => alloc_cell o c0_1_1
  go_wp2_with fail
  go_loopw [15] (fun i wr => ∃ (z m : Nat), z ≤ nz ∧ i = .int .i64 z ∧ (z < nz → zs.getD z 0 = (m : Int)) ∧ (z = nz → m = ps.length) ∧ InPl (w.heap.size + 1) w1.heap.size nm (.slice (some ⟨g2, 0, none⟩) ps.length cap2) (mixK (turnT zs sums) ps m) w wr ∧ wr.cell? ⟨w.heap.size, 0, none⟩ = some (.string nm) ∧ wr.cell? ⟨w.heap.size, 1, none⟩ = some (.slice ao0 ps.length cap0)) (fun i _ => nz - (intOf i).toNat)
  case atStart => exact ⟨0, 0, Nat.zero_le _, rfl, fun _ => H00.out, fun e => by omega, by rw [mix_zero]; exact HI.out, ac0 _, ac1 _⟩
  case round =>
    obtain ⟨z, m, hk, rfl, hm1, hm2, hI, k0, k1⟩ := hrel
    have br := hI.below
    clear ac0 ac1
    by_cases hlt : z < nz
    · have hA := hm1 hlt
      have hltz : z < zs.length := by rw [HNz.out]; exact hlt
      obtain ⟨g1, g4, g3⟩ := HZA.out z hlt
      obtain ⟨E, hE⟩ : ∃ E : Nat, zEnd zs ps.length z = E := ⟨(zEnd zs ps.length z).toNat, (Int.toNat_of_nonneg (by omega)).symm⟩
      have hx1 := fun e => (HNX.out z e).trans hE
      have hx2 := fun e => hE.symm.trans (HNY.out z e)
      have hTz := fun (m' : Nat) (a1 : m ≤ m') (a2 : m' < E) => HT.out z m' hlt (by omega) (by omega)
      have hek := fun w' hb => HZE.out w' z hlt hb
      rw [hE] at hek g3
      rw [hA, hE] at g4
      have HX1 := Lib.hid hx1; clear hx1
      have HX2 := Lib.hid hx2; clear hx2
      have HTZ := Lib.hid hTz; clear hTz
      have HEK := Lib.hid hek; clear hek
      have hixz := ix (P := Try.prog) (T := 25) (cap := capz) Try.underlying25 cells_int64 has_int64 haoz (k := z) hlt _ rfl
      rw [Nat.mul_one] at hixz
      have hq : wr.cell? ⟨bbz, offz + z, none⟩ = some (.int .i64 (m : Int)) := by rw [← hA, getD_eq hltz]; exact hcellz _ br _ _ (by omega) (intsAt hltz)
      have hzl : z < sums.length := by rw [HNS.out]; omega
      have hixs := ix (P := Try.prog) (T := 25) (cap := caps) Try.underlying25 cells_int64 has_int64 haos (k := z) (by omega) _ rfl
      rw [Nat.mul_one] at hixs
      have hs0 : ∀ w', Below w.heap.size w w' → w'.cell? ⟨bs, offs + z, none⟩ = some (.int .i64 (sums.getD z 0)) := fun w' hb => by rw [getD_eq hzl]; exact hcells _ hb _ _ (by omega) (intsAt hzl)
      have HS0 := Lib.hid hs0; clear hs0
      have hss := HSB.out z
      clear hm1 hm2 hA hE hcells hcellz
      have HII := Lib.hid hI; clear hI
      go_wp2_with fail
      go_loopw [10] (fun i wr => ∃ (m' : Nat), m ≤ m' ∧ m' ≤ E ∧ i = .int .i64 m' ∧ InPl (w.heap.size + 1) w1.heap.size nm (.slice (some ⟨g2, 0, none⟩) ps.length cap2) (mixK (turnT zs sums) ps m') w wr ∧ wr.cell? ⟨w.heap.size, 0, none⟩ = some (.string nm) ∧ wr.cell? ⟨w.heap.size, 1, none⟩ = some (.slice ao0 ps.length cap0)) (fun i _ => E - (intOf i).toNat)
      case atStart => exact ⟨m, Nat.le_refl _, by omega, rfl, HII.out, k0, k1⟩
      case round =>
        obtain ⟨m', hj1, hj2, rfl, hI, k0, k1⟩ := hrel
        have br := hI.below
        have HIJ := Lib.hid hI; clear hI
        go_wp2_with fail
        refine (HEK.out _ (by go_grown)).mono ?_
        rintro _ w5 ⟨rfl, r5⟩
        have z5 : Below wr.heap.size wr w5 := Below.trans (by go_grown) (r5.mono (by simp; try omega))
        have hI := HIJ.out.later z5
        have l0 := below_cell z5 k0
        have l1 := below_cell z5 k1
        have b5 := hI.below
        clear k0 k1 r5
        by_cases hlj : m' < E
        · have hlt3 : m' < ps.length := by omega
          have hln := mix_len (turnT zs sums) (Nat.le_of_lt hlt3)
          have hq0 := hI.q0
          have hq1 := hI.q1
          obtain ⟨p0, p1, p2⟩ := hI.cells hln.symm hlt3
          have fz := hI.frozen hln.symm
          have hring := ringT_t (all_at HAL.out hlt3)
          rw [mix_at (turnT zs sums) (Nat.le_refl m') hlt3] at p0 p1 p2
          have hput := fun m => (hI.later (below_drewN (Below.refl _ _) m)).put hln.symm (m' * 3 + 1) (.int .i64 ((rg ps m').2.1 + 10 * sums.getD z 0)) (qs' := mixK (turnT zs sums) ps (m' + 1)) (by rw [hln, mix_len (turnT zs sums) hlt3]) (by
            rw [trips_put1 _ _ _ (by rw [hln]; exact hlt3), mix_at (turnT zs sums) (Nat.le_refl m') hlt3, ← mix_set (turnT zs sums) hlt3]
            simp only [turnT, HTZ.out m' hj1 hlj])
          have hix := ix (P := Try.prog) (T := 29) (cap := cap2) Try.underlying29 cells_Ring has_Ring (ao := some ⟨g2, 0, none⟩) (b := g2) (off := 0) (fun _ => rfl) (k := m') hlt3 _ rfl
          rw [Nat.zero_add] at hix
          have hs1 := HS0.out w5 b5
          have hlj1 : (m' : Int) < (E : Int) := by omega
          have HP := Lib.hid hput; clear hput
          clear hI
          generalize (rg ps m').2.1 = x0 at *
          generalize sums.getD z 0 = s0 at *
          go_wp2_with fail
          refine wp_region_drew_tail 14 (by kernel_rfl) (by kernel_rfl) ?_
          simp only [List.take_succ_cons, List.take_zero, List.drop_succ_cons, List.drop_zero]
          repeat (quiet_step (fail))
          refine wpQuiet_nil ?_
          rintro _ ⟨nq, rfl⟩
          go_wp2
          go_roundw
          case rel => exact ⟨m' + 1, by omega, by omega, by go_num, HP.out nq, by rw [World.cell?_setCell_other _ _ _ _ (by simp; try omega)]; exact below_cell (below_drewN (Below.refl _ _) _) l0, by rw [World.cell?_setCell_other _ _ _ _ (by simp; try omega)]; exact below_cell (below_drewN (Below.refl _ _) _) l1⟩
          case measure => simp [intOf]; omega
        · obtain rfl : m' = E := by omega
          have HI5 := Lib.hid hI; clear hI
          have hnl : ¬ (m' : Int) < (m' : Int) := by omega
          go_wp2_with fail
          go_roundw
          case rel => exact ⟨z + 1, m', by omega, by go_num, fun e => HX1.out e, fun e => by have := HX2.out e; omega, HI5.out, l0, l1⟩
          case measure => simp [intOf]; omega
    · obtain rfl : z = nz := by omega
      have hmn := hm2 rfl
      subst hmn
      have r0 := hI.r0
      have r1 := hI.r1
      have rf := hI.rf
      have hq0 := hI.q0
      have hq1 := hI.q1
      have o5 := hI.own
      rw [mix_end] at o5
      have lo5 := own_lo o5
      have O5 := Lib.hid o5; clear o5
      clear hI hcells hcellz hm1 hm2
      have hln2 := mapK_len (turnT zs sums) ps ps.length
      go_wp2
      refine bodyPost_ret (v := .agg #[.string nm, .slice (some ⟨g2, 0, none⟩) ps.length cap2]) (by simp [results, Try.results101, go_sem, r0, r1]) rfl ?_
      have o11 := own_set O5.out (a := ⟨w.heap.size + 1, 0, none⟩) (fun k hk => by have := lo5 k hk; simp; omega) (.string nm)
      have o12 := own_set o11 (a := ⟨w.heap.size + 1, 1, none⟩) (fun k hk => by have := lo5 k hk; simp; omega) (.slice (some ⟨g2, 0, none⟩) ps.length cap2)
      exact ⟨_, rfl, own_base o12 (by omega), (br.setCell (by simp) _).setCell (by simp) _⟩

end Go.Proofs.Ytddkjcdnomoglaa
