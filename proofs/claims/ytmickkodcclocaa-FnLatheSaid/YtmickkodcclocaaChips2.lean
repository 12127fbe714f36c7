/- What cuts take away: the program. -/
import Derived.Test.YtmickkodcclocaaChips
namespace Go.Proofs.Ytmickkodcclocaa
set_option linter.unusedVariables false
open Go.RowKit Go.Proofs.Bell Go.BigFrame

set_option maxRecDepth 100000 in
set_option maxHeartbeats 3200000 in
theorem implChipsOf_c (nm : ByteArray) (sv : Value) (ps : List (Int × Int × Int)) (v : Value) (zs : List Int) (u : Value) (cs : List (Int × Int)) (w : World) (hnm : nm.size ≤ maxLen) (hr : Rd w sv ps.length (trips ps)) (h : Rd w v zs.length (ints zs)) (h2 : Rd w u cs.length (pairs cs)) :
    Calls Try.prog 73 #[.agg #[.string nm, sv], v, u] w (RetB (.tuple #[.int .i64 (chipsI nm ps zs cs).1, .int .i64 (chipsI nm ps zs cs).2]) w) := by
  have hap := fun w' (hb : Below w.heap.size w w') => implApplyCuts_c nm sv ps v zs u cs w' hnm (hr.later hb) (h.later hb) (h2.later hb)
  by_cases t0 : ¬ (applyI nm ps zs cs).2.2 = 0
  · have he : chipsI nm ps zs cs = (0, (applyI nm ps zs cs).2.2) := by simp [chipsI, t0]
    rw [he]
    generalize applyI nm ps zs cs = RES at *
    have HAP := Lib.hid hap; clear hap
    clear he hr h h2
    go_enter Try.func73, Try.ntmps73
    have b0 : Below w.heap.size w w := Below.refl _ _
    have z0 : w.heap.size ≤ w.heap.size := Nat.le_refl _
    go_wp2_with fail
    refine (HAP.out _ (by go_grown)).mono ?_
    rintro _ w1 ⟨x1, rfl, n1, r1⟩
    have s1 : Below w.heap.size w w1 := Below.trans (by go_grown) (r1.mono (by simp; try omega))
    have b1 := b0.trans (s1.mono z0)
    have z1 := b1.size
    have y1 := s1.size
    have c0_0_1 := below_cell r1 (p := ⟨w.heap.size, 0, none⟩) (v := .string nm) (by simp [go_sem])
    have c0_1_1 := below_cell r1 (p := ⟨w.heap.size, 1, none⟩) (v := sv) (by simp [go_sem])
    clear r1
    obtain ⟨a4, p4, rfl⟩ := own_shape n1
    go_wp2
    go_returns
    exact RetB.mk rfl (by go_grown)
  · have t0 : (applyI nm ps zs cs).2.2 = 0 := Classical.not_not.1 t0
    have he : chipsI nm ps zs cs = (chipK ps (applyI nm ps zs cs).2.1 ps.length, 0) := by simp [chipsI, t0]
    rw [he]
    obtain ⟨hp, hql, hqa⟩ := applyI_ok t0
    obtain ⟨hl1, hl2, hal, hht⟩ := profB_t hp
    have hbd := chipK_bd hal hqa
    rw [hql] at hbd
    have hst := fun k => (show chipK ps (applyI nm ps zs cs).2.1 (k + 1) = chipK ps (applyI nm ps zs cs).2.1 k + ((rg (applyI nm ps zs cs).2.1 k).2.1 - (rg ps k).2.1) * (rg ps k).2.2 from rfl)
    generalize applyI nm ps zs cs = RES at *
    obtain ⟨rn, qs, rc⟩ := RES
    simp only at *
    subst t0
    clear he h h2 hht hp
    have HAP := Lib.hid hap; clear hap
    have HBD := Lib.hid hbd; clear hbd
    have HST := Lib.hid hst; clear hst
    have HAL := Lib.hid hal; clear hal
    have HQA := Lib.hid hqa; clear hqa
    have HQL := Lib.hid hql; clear hql
    generalize hn : ps.length = n at *
    have HN := Lib.hid hn; clear hn
    obtain ⟨hn, ao, cap, bb, off, rfl, hao, hcell⟩ := hr.open
    clear hr
    go_enter Try.func73, Try.ntmps73
    have b0 : Below w.heap.size w w := Below.refl _ _
    have z0 : w.heap.size ≤ w.heap.size := Nat.le_refl _
    go_wp2_with fail
    refine (HAP.out _ (by go_grown)).mono ?_
    rintro _ w1 ⟨x1, rfl, n1, r1⟩
    have s1 : Below w.heap.size w w1 := Below.trans (by go_grown) (r1.mono (by simp; try omega))
    have b1 := b0.trans (s1.mono z0)
    have z1 := b1.size
    have y1 := s1.size
    have c0_0_1 := below_cell r1 (p := ⟨w.heap.size, 0, none⟩) (v := .string nm) (by simp [go_sem])
    have c0_1_1 := below_cell r1 (p := ⟨w.heap.size, 1, none⟩) (v := .slice ao n cap) (by simp [go_sem])
    clear r1
    have rd2 := Rd.of_own n1
    obtain ⟨hn2, ao2, cap2, bb2, off2, hv2, hao2, hcell2⟩ := rd2.open
    subst hv2
    rw [HQL.out] at hn2 hao2
    have y1' : w.heap.size + 1 ≤ w1.heap.size := World.block_lt_of_cell? _ ⟨w.heap.size, 0, none⟩ c0_0_1
    clear rd2 n1
    rw [HQL.out]
    have d0 := fun o => alloc_cell o c0_1_1
    go_wp2_with fail
    clear d0
    obtain ⟨W, hW⟩ : ∃ x, x = w1.alloc (.cells #[.string rn, .slice ao2 n cap2] 28) := ⟨_, rfl⟩
    rw [← hW]
    have k1 : Below w1.heap.size w1 W := by rw [hW]; go_grown
    have k0 : Below w.heap.size w W := b1.trans (k1.mono z1)
    have kz : W.heap.size = w1.heap.size + 1 := by rw [hW]; simp
    have e1 : W.cell? ⟨w.heap.size, 1, none⟩ = some (.slice ao n cap) := below_cell k1 c0_1_1
    have e2 : W.cell? ⟨w1.heap.size, 1, none⟩ = some (.slice ao2 n cap2) := by rw [hW]; simp [go_sem]
    have hc1 : ∀ wr, Below W.heap.size W wr → wr.cell? ⟨w.heap.size, 1, none⟩ = some (.slice ao n cap) := fun wr hb => below_cell hb e1
    have hc2 : ∀ wr, Below W.heap.size W wr → wr.cell? ⟨w1.heap.size, 1, none⟩ = some (.slice ao2 n cap2) := fun wr hb => below_cell hb e2
    have HC1 := Lib.hid hc1; clear hc1
    have HC2 := Lib.hid hc2; clear hc2
    clear hW e1 e2 c0_0_1 c0_1_1
    go_loopw [26, 10] (fun i s wr => ∃ (k : Nat), k ≤ n ∧ i = .int .i64 k ∧ s = .int .i64 (chipK ps qs k) ∧ Below W.heap.size W wr) (fun i _ _ => n - (intOf i).toNat)
    case atStart => exact ⟨0, Nat.zero_le _, rfl, rfl, Below.refl _ _⟩
    case round =>
      obtain ⟨k, hk, rfl, rfl, hb⟩ := hrel
      have br : Below w.heap.size w wr := k0.trans (hb.mono k0.size)
      have br2 : Below w1.heap.size w1 wr := k1.trans (hb.mono k1.size)
      have d1 := HC1.out wr hb
      have d2 := HC2.out wr hb
      by_cases hlt : k < n
      · have hlt_p : k < ps.length := by rw [HN.out]; exact hlt
        have hlt_q : k < qs.length := by rw [HQL.out]; exact hlt
        have hix_p := ix (P := Try.prog) (T := 26) (cap := cap) Try.underlying26 cells_Ring has_Ring hao (k := k) hlt _ rfl
        have hix_q := ix (P := Try.prog) (T := 26) (cap := cap2) Try.underlying26 cells_Ring has_Ring hao2 (k := k) hlt _ rfl
        have hp0 : wr.cell? ⟨bb, off + k * 3, none⟩ = some (.int .i64 (rg ps k).1) := by rw [rg_eq hlt_p]; exact hcell _ br _ _ (by omega) (trips_at hlt_p).1
        have hp1 : wr.cell? ⟨bb, off + k * 3 + 1, none⟩ = some (.int .i64 (rg ps k).2.1) := by rw [rg_eq hlt_p]; exact hcell _ br _ _ (by omega) (trips_at hlt_p).2.1
        have hp2 : wr.cell? ⟨bb, off + k * 3 + 2, none⟩ = some (.int .i64 (rg ps k).2.2) := by rw [rg_eq hlt_p]; exact hcell _ br _ _ (by omega) (trips_at hlt_p).2.2
        have hq1 : wr.cell? ⟨bb2, off2 + k * 3 + 1, none⟩ = some (.int .i64 (rg qs k).2.1) := by rw [rg_eq hlt_q]; exact hcell2 _ br2 _ _ (by omega) (trips_at hlt_q).2.1
        have hring := ringT_t (all_at HAL.out hlt_p)
        have hring2 := ringT_t (all_at HQA.out hlt_q)
        have hbk := HBD.out k (by omega) (by omega)
        have hpr := prod_bd (x := (rg qs k).2.1 - (rg ps k).2.1) (y := (rg ps k).2.2) (by omega) (by omega) (by omega) (by omega)
        have hs := HST.out k
        have HS := Lib.hid hs; clear hs
        clear hcell hcell2
        generalize (rg ps k).1 = x0 at *
        generalize (rg ps k).2.1 = x1 at *
        generalize (rg ps k).2.2 = x2 at *
        generalize (rg qs k).1 = q0 at *
        generalize (rg qs k).2.1 = q1 at *
        generalize (rg qs k).2.2 = q2 at *
        generalize chipK ps qs k = s at *
        have g1 : IntKind.i64.wrap (q1 - x1) = q1 - x1 := IntWalk.i64_in _ (by omega)
        have g2 : IntKind.i64.wrap ((q1 - x1) * x2) = (q1 - x1) * x2 := IntWalk.i64_in _ (by omega)
        have g3 : IntKind.i64.wrap (s + (q1 - x1) * x2) = s + (q1 - x1) * x2 := IntWalk.i64_in _ (by omega)
        go_wp2_with fail
        have hb3 : Below W.heap.size W (wr.alloc (.cells #[.int .i64 x0, .int .i64 x1, .int .i64 x2] 80)) := hb.alloc hb.size _
        have d3 := alloc_cell (.cells #[.int .i64 x0, .int .i64 x1, .int .i64 x2] 80) d2
        have hq3 := alloc_cell (.cells #[.int .i64 x0, .int .i64 x1, .int .i64 x2] 80) hq1
        go_quiet (fail)
        clear g1 g2 g3
        go_wp2
        go_roundw
        case rel => exact ⟨k + 1, by omega, by go_num, by rw [HS.out], by first | exact below_drewN hb3 _ | exact hb3 | go_grown⟩
        case measure => simp [intOf]; omega
      · obtain rfl : k = n := by omega
        go_wp2
        go_returns
        exact RetB.mk rfl br

end Go.Proofs.Ytmickkodcclocaa
