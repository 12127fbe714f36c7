/- The program's ValidProfile. -/
import Derived.Test.YtddkjcdnomoglaaValid
import Derived.BigRegion
namespace Go.Proofs.Ytddkjcdnomoglaa
set_option linter.unusedVariables false
open Go.RowKit Go.Proofs.Bell Go.BigFrame

set_option maxHeartbeats 1600000 in
theorem height_c (nm : ByteArray) (sv : Value) (ps : List (Int × Int × Int)) (w : World) (h : Rd w sv ps.length (trips ps)) (ht : ps.all ringT = true) (hl : ps.length ≤ 32) :
    Calls Try.prog 134 #[.agg #[.string nm, sv]] w (RetB (.int .i64 (heightI ps)) w) := by
  have hbd := height_bd ht
  have HB := Lib.hid hbd; clear hbd
  generalize hn : ps.length = n at h hl
  have HN := Lib.hid hn; clear hn
  obtain ⟨hn, ao, cap, b, off, rfl, hao, hcell⟩ := h.open
  clear h
  go_enter Try.func134, Try.ntmps134
  go_wp2_with fail
  go_loopw [9, 3] (fun i s wr => ∃ (k : Nat), k ≤ n ∧ i = .int .i64 k ∧ s = .int .i64 (heightI (ps.take k)) ∧ Below w.heap.size w wr) (fun i _ _ => n - (intOf i).toNat)
  case atStart => exact ⟨0, Nat.zero_le _, rfl, rfl, by go_grown⟩
  case round =>
    obtain ⟨k, hk, rfl, rfl, hb⟩ := hrel
    have hb1 := HB.out k
    by_cases hlt : k < n
    · have hltp : k < ps.length := by rw [HN.out]; exact hlt
      have hb2 := HB.out (k + 1)
      have hix := ix (P := Try.prog) (T := 29) (cap := cap) Try.underlying29 cells_Ring has_Ring hao hlt k rfl
      have hc1 : wr.cell? ⟨b, off + k * 3, none⟩ = some (.int .i64 ps[k].1) := hcell _ hb _ _ (by omega) (trips_at hltp).1
      have hc2 : wr.cell? ⟨b, off + k * 3 + 1, none⟩ = some (.int .i64 ps[k].2.1) := hcell _ hb _ _ (by omega) (trips_at hltp).2.1
      have hc3 : wr.cell? ⟨b, off + k * 3 + 2, none⟩ = some (.int .i64 ps[k].2.2) := hcell _ hb _ _ (by omega) (trips_at hltp).2.2
      have hs := heightI_snoc ps hltp
      rw [hs] at hb2
      have HS := Lib.hid hs; clear hs
      clear hcell
      generalize ps[k].1 = x at *
      generalize ps[k].2.1 = y at *
      generalize ps[k].2.2 = z at *
      generalize heightI (ps.take k) = s at *
      go_wp2
      go_roundw
      case rel => exact ⟨k + 1, by omega, by go_num, by rw [HS.out], hb.alloc hb.size _⟩
      case measure => simp [intOf]; omega
    · obtain rfl : k = n := by omega
      go_wp2
      go_returns
      refine RetB.mk (int_eq ?_) hb
      rw [List.take_of_length_le (by rw [HN.out]; exact Nat.le_refl _)]

theorem ValidProfile1_c (p : Int × Int × Int) (w : World) : Calls Try.prog 133 #[.agg #[.int .i64 p.1, .int .i64 p.2.1, .int .i64 p.2.2]] w (RetB (.bool (!ringT p)) w) := by
  have hv := fun w' => ValidRing_c p.1 p.2.1 p.2.2 w'
  have HV := Lib.hid hv; clear hv
  go_enter Try.func133, Try.ntmps133
  go_wp2_with (go_at_call 92; refine (HV.out _).mono ?_; rintro _ w1 ⟨rfl, s1⟩)
  go_returns
  exact RetB.mk rfl (Below.trans (by go_grown) (s1.mono (by simp)))

set_option maxHeartbeats 3200000 in
theorem ValidProfile_c (nm : ByteArray) (sv : Value) (ps : List (Int × Int × Int)) (w : World) (hnm : nm.size ≤ maxLen) (h : Rd w sv ps.length (trips ps)) :
    Calls Try.prog 71 #[.agg #[.string nm, sv]] w (RetB (.bool (profB nm ps)) w) := by
  have hn := fun w' => IsName_c nm w' hnm
  have HNM := Lib.hid hn; clear hn
  unfold maxLen at hnm
  have hi := fun w' (hb : Below w.heap.size w w') => ContainsFuncRing_c 133 #[] (fun x => !ringT x) sv ps w' (h.later hb) (enters Try.func133 (by kernel_rfl) rfl) (fun x _ w' _ => ValidProfile1_c x w')
  have hh := fun (ht : ps.all ringT = true) (hl : ps.length ≤ 32) w' (hb : Below w.heap.size w w') => height_c nm sv ps w' (h.later hb) ht hl
  have HH := Lib.hid hh; clear hh
  obtain ⟨hn, ao, cap, b, off, rfl, hao, hcell⟩ := h.open
  have HRD := Lib.hid h; clear h
  cases t0 : nameB nm <;> rw [t0] at HNM
  · have HI := Lib.hid hi; clear hi
    go_enter Try.func71, Try.ntmps71
    go_wp2_with (go_at_call 131; refine (HNM.out _).mono ?_; rintro _ w1 ⟨rfl, s1⟩)
    go_returns
    exact RetB.mk (bool_eq (by simp [profB, t0])) (Below.trans (by go_grown) (s1.mono (by simp)))
  · by_cases hl1 : 1 ≤ ps.length
    · by_cases hl2 : ps.length ≤ 32
      · cases t1 : ps.all ringT
        · have t1' : ps.any (fun x => !ringT x) = true := by rw [any_not, t1]; rfl
          rw [t1'] at hi
          have HI := Lib.hid hi; clear hi
          go_enter Try.func71, Try.ntmps71
          go_wp2_with (first | (go_at_call 131; refine (HNM.out _).mono ?_; rintro _ w1 ⟨rfl, s1⟩; have b1 : Below w.heap.size w w1 := Below.trans (by go_grown) (s1.mono (by simp)); have k1 := below_cell s1 (p := ⟨w.heap.size, 1, none⟩) (v := .slice ao ps.length cap) (by simp [go_sem])) | (go_at_call 132; refine (HI.out _ b1).mono ?_; rintro _ w2 ⟨rfl, s2⟩))
          go_returns
          exact RetB.mk (bool_eq (by simp [profB, t1])) (b1.trans (s2.mono b1.size))
        · have t1' : ps.any (fun x => !ringT x) = false := by rw [any_not, t1]; rfl
          rw [t1'] at hi
          have HI := Lib.hid hi; clear hi
          have hpf : profB nm ps = ((List.range ps.length).all (joinAt ps) && decide (heightI ps ≤ 300000)) := by
            simp [profB, t0, hl1, hl2, t1]
          have HPF := Lib.hid hpf; clear hpf
          have hh := HH.out t1 hl2
          have HHH := Lib.hid hh; clear hh
          generalize hn' : ps.length = n at *
          have HN := Lib.hid hn'; clear hn'
          go_enter Try.func71, Try.ntmps71
          go_wp2_with (first | (go_at_call 131; refine (HNM.out _).mono ?_; rintro _ w1 ⟨rfl, s1⟩; have b1 : Below w.heap.size w w1 := Below.trans (by go_grown) (s1.mono (by simp)); have k0 := below_cell s1 (p := ⟨w.heap.size, 0, none⟩) (v := .string nm) (by simp [go_sem]); have k1 := below_cell s1 (p := ⟨w.heap.size, 1, none⟩) (v := .slice ao n cap) (by simp [go_sem])) | (go_at_call 132; refine (HI.out _ b1).mono ?_; rintro _ w2 ⟨rfl, s2⟩; have l0 := below_cell s2 k0; have l1 := below_cell s2 k1; have b2 := b1.trans (s2.mono b1.size); clear k0 k1 s1))
          go_loopw [3] (fun i wr => ∃ (k : Nat), 1 ≤ k ∧ k ≤ n ∧ i = .int .i64 k ∧ (List.range k).all (joinAt ps) = true ∧ Below w2.heap.size w2 wr) (fun i _ => n - (intOf i).toNat)
          case atStart => exact ⟨1, Nat.le_refl _, hl1, rfl, rfl, Below.refl _ _⟩
          case round =>
            obtain ⟨k, hk1, hk, rfl, hx, hw⟩ := hrel
            have HX := Lib.hid hx; clear hx
            have hb := b2.trans (hw.mono b2.size)
            have m0 := below_cell hw l0
            have m1 := below_cell hw l1
            by_cases hlt : k < n
            · have hltp : k < ps.length := by rw [HN.out]; exact hlt
              have hkm : k - 1 < n := by omega
              have hltm : k - 1 < ps.length := by omega
              have hix := ix (P := Try.prog) (T := 29) (cap := cap) Try.underlying29 cells_Ring has_Ring hao hlt k rfl
              have hix2 := ix (P := Try.prog) (T := 29) (cap := cap) Try.underlying29 cells_Ring has_Ring hao hkm ((k : Int) - 1) (by omega)
              have hc1 : wr.cell? ⟨b, off + k * 3, none⟩ = some (.int .i64 (rg ps k).1) := by rw [rg_eq hltp]; exact hcell _ hb _ _ (by omega) (trips_at hltp).1
              have hc2 : wr.cell? ⟨b, off + k * 3 + 1, none⟩ = some (.int .i64 (rg ps k).2.1) := by rw [rg_eq hltp]; exact hcell _ hb _ _ (by omega) (trips_at hltp).2.1
              have hc3 : wr.cell? ⟨b, off + k * 3 + 2, none⟩ = some (.int .i64 (rg ps k).2.2) := by rw [rg_eq hltp]; exact hcell _ hb _ _ (by omega) (trips_at hltp).2.2
              have hd1 : wr.cell? ⟨b, off + (k - 1) * 3, none⟩ = some (.int .i64 (rg ps (k - 1)).1) := by rw [rg_eq hltm]; exact hcell _ hb _ _ (by omega) (trips_at hltm).1
              have hd2 : wr.cell? ⟨b, off + (k - 1) * 3 + 1, none⟩ = some (.int .i64 (rg ps (k - 1)).2.1) := by rw [rg_eq hltm]; exact hcell _ hb _ _ (by omega) (trips_at hltm).2.1
              have hd3 : wr.cell? ⟨b, off + (k - 1) * 3 + 2, none⟩ = some (.int .i64 (rg ps (k - 1)).2.2) := by rw [rg_eq hltm]; exact hcell _ hb _ _ (by omega) (trips_at hltm).2.2
              have hr : joinAt ps k = (decide ((rg ps (k - 1)).2.1 < (rg ps k).1) && decide ((rg ps k).2.1 < (rg ps (k - 1)).1)) := by
                have : (k == 0) = false := by simp; omega
                unfold joinAt joinB; rw [this, Bool.false_or]
              have HR := Lib.hid hr; clear hr
              have hp : joinAt ps k = true → (List.range (k + 1)).all (joinAt ps) = true := fun h => range_step HX.out h
              have hq : joinAt ps k = false → profB nm ps = false := fun h => by rw [HPF.out, range_false hlt h]; rfl
              have HP := Lib.hid hp; clear hp
              have HQ := Lib.hid hq; clear hq
              clear hcell
              have hw1 : IntKind.i64.wrap ((k : Int) - 1) = (k : Int) - 1 := IntWalk.i64_in _ (by omega)
              have hbl : w.heap.size < wr.heap.size := World.block_lt_of_cell? wr _ m0
              have hbb : b < wr.heap.size := World.block_lt_of_cell? wr _ hc1
              generalize (rg ps (k - 1)).1 = y0 at *
              generalize (rg ps (k - 1)).2.1 = y1 at *
              generalize (rg ps (k - 1)).2.2 = y2 at *
              generalize (rg ps k).1 = z0 at *
              generalize (rg ps k).2.1 = z1 at *
              generalize (rg ps k).2.2 = z2 at *
              have zw := hw.size
              by_cases t1 : y1 < z0
              · by_cases t2 : z1 < y0
                · go_wp2_with fail
                  go_region <;>
                  · go_wp2
                    go_roundw
                    case rel => exact ⟨k + 1, by omega, by omega, by go_num, HP.out (by rw [HR.out]; simp [t1, t2]), by go_grown⟩
                    case measure => simp [intOf]; omega
                · go_wp2_with fail
                  go_region <;>
                  · go_wp2
                    go_returns
                    exact RetB.mk (bool_eq (HQ.out (by rw [HR.out, decide_eq_false (by omega : ¬ z1 < y0), Bool.and_false])).symm) (by go_grown)
              · go_wp2_with fail
                go_region <;>
                · go_wp2
                  go_returns
                  exact RetB.mk (bool_eq (HQ.out (by rw [HR.out, decide_eq_false (by omega : ¬ y1 < z0), Bool.false_and])).symm) (by go_grown)
            · obtain rfl : k = n := by omega
              have hv : profB nm ps = decide (heightI ps ≤ 300000) := by rw [HPF.out, HX.out]; simp
              have HV := Lib.hid hv; clear hv
              go_wp2_with (go_at_call 134; refine (HHH.out _ hb).mono ?_; rintro _ w3 ⟨rfl, s3⟩)
              go_returns
              exact RetB.mk (bool_eq HV.out.symm) (hb.trans (s3.mono hb.size))
      · have HI := Lib.hid hi; clear hi
        go_enter Try.func71, Try.ntmps71
        go_wp2_with (first | (go_at_call 131; refine (HNM.out _).mono ?_; rintro _ w1 ⟨rfl, s1⟩; have b1 : Below w.heap.size w w1 := Below.trans (by go_grown) (s1.mono (by simp)); have k1 := below_cell s1 (p := ⟨w.heap.size, 1, none⟩) (v := .slice ao ps.length cap) (by simp [go_sem])))
        go_returns
        exact RetB.mk (bool_eq (by simp [profB, hl2])) b1
    · have HI := Lib.hid hi; clear hi
      go_enter Try.func71, Try.ntmps71
      go_wp2_with (first | (go_at_call 131; refine (HNM.out _).mono ?_; rintro _ w1 ⟨rfl, s1⟩; have b1 : Below w.heap.size w w1 := Below.trans (by go_grown) (s1.mono (by simp)); have k1 := below_cell s1 (p := ⟨w.heap.size, 1, none⟩) (v := .slice ao ps.length cap) (by simp [go_sem])))
      go_returns
      exact RetB.mk (bool_eq (by simp [profB, hl1])) b1

end Go.Proofs.Ytddkjcdnomoglaa
