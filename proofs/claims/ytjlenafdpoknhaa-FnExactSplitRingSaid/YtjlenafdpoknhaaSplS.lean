/- A ring is divided: the reference's side. -/
import Derived.Test.YtjlenafdpoknhaaSpl
namespace Go.Proofs.Ytjlenafdpoknhaa
set_option linter.unusedVariables false
open Go.RowKit Go.Proofs.Bell Go.BigFrame

set_option maxRecDepth 100000 in
set_option maxHeartbeats 3200000 in
theorem specSplitRing_c (nm : ByteArray) (sv : Value) (ps : List (Int × Int × Int)) (h : Int) (w : World) (hnm : nm.size ≤ maxLen) (hr : Rd w sv ps.length (trips ps)) :
    Calls Try.prog 8 #[.agg #[.string nm, sv], .int .i64 h] w (RetP2 (splI nm ps h).1 (splI nm ps h).2.1 (.int .i64 (splI nm ps h).2.2) w) := by
  have hok := fun w' g hg c0 c1 (hb : Below w.heap.size w w') => l05Ask_c g nm sv ps h w' hg hnm c0 c1 (hr.later hb)
  by_cases t0 : ¬ askI nm ps h = 0
  · have he : splI nm ps h = (⟨#[]⟩, [], askI nm ps h) := by simp [splI, t0]
    rw [he]
    have HOK := Lib.hid hok; clear hok
    clear he hr
    generalize askI nm ps h = code at *
    go_enter Try.func8, Try.ntmps8
    have b0 : Below w.heap.size w w := Below.refl _ _
    have z0 : w.heap.size ≤ w.heap.size := Nat.le_refl _
    go_wp2_with fail
    refine (HOK.out _ _ (by simp; try omega) (by simp [go_sem]) (by simp [go_sem]) (by go_grown)).mono ?_
    rintro _ w1 ⟨rfl, d1⟩
    have r1 := Dr.below d1; clear d1
    have s1 : Below w.heap.size w w1 := Below.trans (by go_grown) (r1.mono (by simp; try omega))
    have b1 := b0.trans (s1.mono z0)
    have z1 := b1.size
    have y1 := s1.size
    have v1 : w.heap.size + 2 ≤ w1.heap.size := by have := r1.size; simp only [World.size_alloc] at this; omega
    have c0_0_1 := below_cell r1 (p := ⟨w.heap.size, 0, none⟩) (v := .string nm) (by simp [go_sem])
    have c0_1_1 := below_cell r1 (p := ⟨w.heap.size, 1, none⟩) (v := sv) (by simp [go_sem])
    have c1_0_1 := below_cell r1 (p := ⟨w.heap.size + 1, 0, none⟩) (v := .string ⟨#[]⟩) (by simp [go_sem])
    have c1_1_1 := below_cell r1 (p := ⟨w.heap.size + 1, 1, none⟩) (v := .slice none 0 0) (by simp [go_sem])
    have f0_1 : ∀ j, w1.frozen? ⟨w.heap.size, j, none⟩ = false := fun j => (r1.frozen (p := ⟨w.heap.size, j, none⟩) (by simp [go_sem])).trans (by simp [go_sem])
    have f1_1 : ∀ j, w1.frozen? ⟨w.heap.size + 1, j, none⟩ = false := fun j => (r1.frozen (p := ⟨w.heap.size + 1, j, none⟩) (by simp [go_sem])).trans (by simp [go_sem])
    clear r1
    go_wp2
    refine bodyPost_ret (v := .tuple #[.agg #[.string ⟨#[]⟩, .slice none 0 0], .int .i64 code]) (by simp [results, Try.results8, go_sem, c1_0_1, c1_1_1]) rfl ?_
    exact RetP2.nil (Below.setCell (Below.setCell b1 (show w.heap.size ≤ w.heap.size + 1 by omega) _) (show w.heap.size ≤ w.heap.size + 1 by omega) _)
  · have t0 : askI nm ps h = 0 := Classical.not_not.1 t0
    obtain ⟨hal, hl1, hl2, h1, h2⟩ := askI_zero t0
    rw [t0] at hok
    have HOK := Lib.hid hok; clear hok
    have hk := atK_lt hl1 h2
    by_cases t2 : ps.length = 32
    · have he : splI nm ps h = (⟨#[]⟩, [], 5) := by simp [splI, t0, t2]
      rw [he]
      have t3 : ((ps.length : Int) == 32) = true := by simp; omega
      obtain ⟨_, ao, cap, _, _, rfl, _, _⟩ := hr.open
      clear he hr t2 hk
      go_enter Try.func8, Try.ntmps8
      have b0 : Below w.heap.size w w := Below.refl _ _
      have z0 : w.heap.size ≤ w.heap.size := Nat.le_refl _
      go_wp2_with fail
      refine (HOK.out _ _ (by simp; try omega) (by simp [go_sem]) (by simp [go_sem]) (by go_grown)).mono ?_
      rintro _ w1 ⟨rfl, d1⟩
      have r1 := Dr.below d1; clear d1
      have s1 : Below w.heap.size w w1 := Below.trans (by go_grown) (r1.mono (by simp; try omega))
      have b1 := b0.trans (s1.mono z0)
      have z1 := b1.size
      have y1 := s1.size
      have v1 : w.heap.size + 2 ≤ w1.heap.size := by have := r1.size; simp only [World.size_alloc] at this; omega
      have c0_0_1 := below_cell r1 (p := ⟨w.heap.size, 0, none⟩) (v := .string nm) (by simp [go_sem])
      have c0_1_1 := below_cell r1 (p := ⟨w.heap.size, 1, none⟩) (v := .slice ao ps.length cap) (by simp [go_sem])
      have c1_0_1 := below_cell r1 (p := ⟨w.heap.size + 1, 0, none⟩) (v := .string ⟨#[]⟩) (by simp [go_sem])
      have c1_1_1 := below_cell r1 (p := ⟨w.heap.size + 1, 1, none⟩) (v := .slice none 0 0) (by simp [go_sem])
      have f0_1 : ∀ j, w1.frozen? ⟨w.heap.size, j, none⟩ = false := fun j => (r1.frozen (p := ⟨w.heap.size, j, none⟩) (by simp [go_sem])).trans (by simp [go_sem])
      have f1_1 : ∀ j, w1.frozen? ⟨w.heap.size + 1, j, none⟩ = false := fun j => (r1.frozen (p := ⟨w.heap.size + 1, j, none⟩) (by simp [go_sem])).trans (by simp [go_sem])
      clear r1
      go_wp2
      refine bodyPost_ret (v := .tuple #[.agg #[.string ⟨#[]⟩, .slice none 0 0], .int .i64 5]) (by simp [results, Try.results8, go_sem, c1_0_1, c1_1_1]) rfl ?_
      exact RetP2.nil (Below.setCell (Below.setCell b1 (show w.heap.size ≤ w.heap.size + 1 by omega) _) (show w.heap.size ≤ w.heap.size + 1 by omega) _)
    · have hat := fun w' g c1 (hb : Below w.heap.size w w') => l05At_c g sv ps h w' c1 (hr.later hb) hal hl1 hl2 h1 h2
      have t3 : ((ps.length : Int) == 32) = false := by simp; omega
      have r := ringT_t (all_at hal hk)
      have he : splI nm ps h = if h - heightI (ps.take (atK ps h)) < 10 ∨ (rg ps (atK ps h)).2.2 - (h - heightI (ps.take (atK ps h))) < 10 then (⟨#[]⟩, [], 6) else (nm, spl ps (atK ps h) (h - heightI (ps.take (atK ps h))), 0) := by unfold splI; rw [if_pos t0, if_neg t2]
      have hhb := height_bd hal (atK ps h)
      have hob : -10000000 ≤ h - heightI (ps.take (atK ps h)) ∧ h - heightI (ps.take (atK ps h)) ≤ 10000000 := by
        have h3 := height_bd hal ps.length
        rw [List.take_length] at h3
        omega
      rw [he]
      clear he hhb
      generalize h - heightI (ps.take (atK ps h)) = o at *
      generalize atK ps h = k at *
      have hwz : IntKind.i64.wrap ((rg ps k).2.2 - o) = (rg ps k).2.2 - o := IntWalk.i64_in _ (by omega)
      have HAT := Lib.hid hat; clear hat
      by_cases t4 : o < 10
      · rw [if_pos (Or.inl t4)]
        have t5 : decide (o < 10) = true := decide_eq_true t4
        clear hob hwz t4 r
        generalize hn : ps.length = n at *
        have HN := Lib.hid hn; clear hn
        obtain ⟨hn, ao, cap, bb, off, rfl, hao, hcell⟩ := hr.open
        clear hr
        go_enter Try.func8, Try.ntmps8
        have b0 : Below w.heap.size w w := Below.refl _ _
        have z0 : w.heap.size ≤ w.heap.size := Nat.le_refl _
        go_wp2_with fail
        refine (HOK.out _ _ (by simp; try omega) (by simp [go_sem]) (by simp [go_sem]) (by go_grown)).mono ?_
        rintro _ w1 ⟨rfl, d1⟩
        have r1 := Dr.below d1; clear d1
        have s1 : Below w.heap.size w w1 := Below.trans (by go_grown) (r1.mono (by simp; try omega))
        have b1 := b0.trans (s1.mono z0)
        have z1 := b1.size
        have y1 := s1.size
        have v1 : w.heap.size + 2 ≤ w1.heap.size := by have := r1.size; simp only [World.size_alloc] at this; omega
        have c0_0_1 := below_cell r1 (p := ⟨w.heap.size, 0, none⟩) (v := .string nm) (by simp [go_sem])
        have c0_1_1 := below_cell r1 (p := ⟨w.heap.size, 1, none⟩) (v := .slice ao n cap) (by simp [go_sem])
        have c1_0_1 := below_cell r1 (p := ⟨w.heap.size + 1, 0, none⟩) (v := .string ⟨#[]⟩) (by simp [go_sem])
        have c1_1_1 := below_cell r1 (p := ⟨w.heap.size + 1, 1, none⟩) (v := .slice none 0 0) (by simp [go_sem])
        have f0_1 : ∀ j, w1.frozen? ⟨w.heap.size, j, none⟩ = false := fun j => (r1.frozen (p := ⟨w.heap.size, j, none⟩) (by simp [go_sem])).trans (by simp [go_sem])
        have f1_1 : ∀ j, w1.frozen? ⟨w.heap.size + 1, j, none⟩ = false := fun j => (r1.frozen (p := ⟨w.heap.size + 1, j, none⟩) (by simp [go_sem])).trans (by simp [go_sem])
        clear r1
        go_wp2_with fail
        refine (HAT.out _ _ c0_1_1 b1).mono ?_
        rintro _ _ ⟨rfl, rfl⟩
        have hlt_p : k < ps.length := by rw [HN.out]; omega
        have hix_p := ix (P := Try.prog) (T := 26) (cap := cap) Try.underlying26 cells_Ring has_Ring hao (k := k) (by omega) _ (rfl)
        have hp0 : w1.cell? ⟨bb, off + k * 3, none⟩ = some (.int .i64 (rg ps k).1) := by rw [rg_eq hlt_p]; exact hcell _ b1 _ _ (by omega) (trips_at hlt_p).1
        have hp1 : w1.cell? ⟨bb, off + k * 3 + 1, none⟩ = some (.int .i64 (rg ps k).2.1) := by rw [rg_eq hlt_p]; exact hcell _ b1 _ _ (by omega) (trips_at hlt_p).2.1
        have hp2 : w1.cell? ⟨bb, off + k * 3 + 2, none⟩ = some (.int .i64 (rg ps k).2.2) := by rw [rg_eq hlt_p]; exact hcell _ b1 _ _ (by omega) (trips_at hlt_p).2.2
        clear hcell hao
        generalize (rg ps k).1 = x0 at *
        generalize (rg ps k).2.1 = x1 at *
        generalize (rg ps k).2.2 = x2 at *
        have ac0_0 := fun o => alloc_cell o c0_0_1
        have ac0_1 := fun o => alloc_cell o c0_1_1
        have af0 : ∀ o j, (w1.alloc o).frozen? ⟨w.heap.size, j, none⟩ = false := fun o j => (alloc_frozen o (show w.heap.size < _ from World.block_lt_of_cell? _ ⟨w.heap.size, 0, none⟩ c0_0_1)).trans (f0_1 j)
        have ac1_0 := fun o => alloc_cell o c1_0_1
        have ac1_1 := fun o => alloc_cell o c1_1_1
        have af1 : ∀ o j, (w1.alloc o).frozen? ⟨w.heap.size + 1, j, none⟩ = false := fun o j => (alloc_frozen o (show w.heap.size + 1 < _ from World.block_lt_of_cell? _ ⟨w.heap.size + 1, 0, none⟩ c1_0_1)).trans (f1_1 j)
        go_wp2
        refine bodyPost_ret (v := .tuple #[.agg #[.string ⟨#[]⟩, .slice none 0 0], .int .i64 6]) (by simp [results, Try.results8, go_sem, ac1_0, ac1_1]) rfl ?_
        exact RetP2.nil (Below.setCell (Below.setCell (b1.alloc z1 _) (show w.heap.size ≤ w.heap.size + 1 by omega) _) (show w.heap.size ≤ w.heap.size + 1 by omega) _)
      · have t5 : decide (o < 10) = false := decide_eq_false t4
        by_cases t6 : (rg ps k).2.2 - o < 10
        · rw [if_pos (Or.inr t6)]
          have t7 : decide ((rg ps k).2.2 - o < 10) = true := decide_eq_true t6
          clear hob t4 r t6
          generalize hn : ps.length = n at *
          have HN := Lib.hid hn; clear hn
          obtain ⟨hn, ao, cap, bb, off, rfl, hao, hcell⟩ := hr.open
          clear hr
          go_enter Try.func8, Try.ntmps8
          have b0 : Below w.heap.size w w := Below.refl _ _
          have z0 : w.heap.size ≤ w.heap.size := Nat.le_refl _
          go_wp2_with fail
          refine (HOK.out _ _ (by simp; try omega) (by simp [go_sem]) (by simp [go_sem]) (by go_grown)).mono ?_
          rintro _ w1 ⟨rfl, d1⟩
          have r1 := Dr.below d1; clear d1
          have s1 : Below w.heap.size w w1 := Below.trans (by go_grown) (r1.mono (by simp; try omega))
          have b1 := b0.trans (s1.mono z0)
          have z1 := b1.size
          have y1 := s1.size
          have v1 : w.heap.size + 2 ≤ w1.heap.size := by have := r1.size; simp only [World.size_alloc] at this; omega
          have c0_0_1 := below_cell r1 (p := ⟨w.heap.size, 0, none⟩) (v := .string nm) (by simp [go_sem])
          have c0_1_1 := below_cell r1 (p := ⟨w.heap.size, 1, none⟩) (v := .slice ao n cap) (by simp [go_sem])
          have c1_0_1 := below_cell r1 (p := ⟨w.heap.size + 1, 0, none⟩) (v := .string ⟨#[]⟩) (by simp [go_sem])
          have c1_1_1 := below_cell r1 (p := ⟨w.heap.size + 1, 1, none⟩) (v := .slice none 0 0) (by simp [go_sem])
          have f0_1 : ∀ j, w1.frozen? ⟨w.heap.size, j, none⟩ = false := fun j => (r1.frozen (p := ⟨w.heap.size, j, none⟩) (by simp [go_sem])).trans (by simp [go_sem])
          have f1_1 : ∀ j, w1.frozen? ⟨w.heap.size + 1, j, none⟩ = false := fun j => (r1.frozen (p := ⟨w.heap.size + 1, j, none⟩) (by simp [go_sem])).trans (by simp [go_sem])
          clear r1
          go_wp2_with fail
          refine (HAT.out _ _ c0_1_1 b1).mono ?_
          rintro _ _ ⟨rfl, rfl⟩
          have hlt_p : k < ps.length := by rw [HN.out]; omega
          have hix_p := ix (P := Try.prog) (T := 26) (cap := cap) Try.underlying26 cells_Ring has_Ring hao (k := k) (by omega) _ (rfl)
          have hp0 : w1.cell? ⟨bb, off + k * 3, none⟩ = some (.int .i64 (rg ps k).1) := by rw [rg_eq hlt_p]; exact hcell _ b1 _ _ (by omega) (trips_at hlt_p).1
          have hp1 : w1.cell? ⟨bb, off + k * 3 + 1, none⟩ = some (.int .i64 (rg ps k).2.1) := by rw [rg_eq hlt_p]; exact hcell _ b1 _ _ (by omega) (trips_at hlt_p).2.1
          have hp2 : w1.cell? ⟨bb, off + k * 3 + 2, none⟩ = some (.int .i64 (rg ps k).2.2) := by rw [rg_eq hlt_p]; exact hcell _ b1 _ _ (by omega) (trips_at hlt_p).2.2
          clear hcell hao
          generalize (rg ps k).1 = x0 at *
          generalize (rg ps k).2.1 = x1 at *
          generalize (rg ps k).2.2 = x2 at *
          have ac0_0 := fun o => alloc_cell o c0_0_1
          have ac0_1 := fun o => alloc_cell o c0_1_1
          have af0 : ∀ o j, (w1.alloc o).frozen? ⟨w.heap.size, j, none⟩ = false := fun o j => (alloc_frozen o (show w.heap.size < _ from World.block_lt_of_cell? _ ⟨w.heap.size, 0, none⟩ c0_0_1)).trans (f0_1 j)
          have ac1_0 := fun o => alloc_cell o c1_0_1
          have ac1_1 := fun o => alloc_cell o c1_1_1
          have af1 : ∀ o j, (w1.alloc o).frozen? ⟨w.heap.size + 1, j, none⟩ = false := fun o j => (alloc_frozen o (show w.heap.size + 1 < _ from World.block_lt_of_cell? _ ⟨w.heap.size + 1, 0, none⟩ c1_0_1)).trans (f1_1 j)
          go_wp2
          refine bodyPost_ret (v := .tuple #[.agg #[.string ⟨#[]⟩, .slice none 0 0], .int .i64 6]) (by simp [results, Try.results8, go_sem, ac1_0, ac1_1]) rfl ?_
          exact RetP2.nil (Below.setCell (Below.setCell (b1.alloc z1 _) (show w.heap.size ≤ w.heap.size + 1 by omega) _) (show w.heap.size ≤ w.heap.size + 1 by omega) _)
        · rw [if_neg (by omega)]
          have t7 : decide ((rg ps k).2.2 - o < 10) = false := decide_eq_false t6
          have hwi := fun w' g c0 c1 (hb : Below w.heap.size w w') => l05With_c g k nm sv ps (rg ps k).1 (rg ps k).2.1 o w' c0 c1 (hr.later hb) hl1 (by omega) (by omega)
          have hil : (insL ps k ((rg ps k).1, (rg ps k).2.1, o)).length = ps.length + 1 := by simp [insL]; omega
          have hsl := spl_len hk o
          have hia := ins_at hk ((rg ps k).1, (rg ps k).2.1, o)
          have hsp := trips_put2 (insL ps k ((rg ps k).1, (rg ps k).2.1, o)) (k + 1) ((rg ps k).2.2 - o) (by rw [hil]; omega)
          rw [hia, spl_put hk] at hsp
          generalize spl ps k o = qs2 at *
          generalize insL ps k ((rg ps k).1, (rg ps k).2.1, o) = qs at *
          have HWI := Lib.hid hwi; clear hwi
          have HIL := Lib.hid hil; clear hil
          have HIA := Lib.hid hia; clear hia
          have HSL := Lib.hid hsl; clear hsl
          have HSP := Lib.hid hsp; clear hsp
          clear hob t4 r t6 hal
          generalize hn : ps.length = n at *
          have HN := Lib.hid hn; clear hn
          obtain ⟨hn, ao, cap, bb, off, rfl, hao, hcell⟩ := hr.open
          clear hr
          go_enter Try.func8, Try.ntmps8
          have b0 : Below w.heap.size w w := Below.refl _ _
          have z0 : w.heap.size ≤ w.heap.size := Nat.le_refl _
          go_wp2_with fail
          refine (HOK.out _ _ (by simp; try omega) (by simp [go_sem]) (by simp [go_sem]) (by go_grown)).mono ?_
          rintro _ w1 ⟨rfl, d1⟩
          have r1 := Dr.below d1; clear d1
          have s1 : Below w.heap.size w w1 := Below.trans (by go_grown) (r1.mono (by simp; try omega))
          have b1 := b0.trans (s1.mono z0)
          have z1 := b1.size
          have y1 := s1.size
          have v1 : w.heap.size + 2 ≤ w1.heap.size := by have := r1.size; simp only [World.size_alloc] at this; omega
          have c0_0_1 := below_cell r1 (p := ⟨w.heap.size, 0, none⟩) (v := .string nm) (by simp [go_sem])
          have c0_1_1 := below_cell r1 (p := ⟨w.heap.size, 1, none⟩) (v := .slice ao n cap) (by simp [go_sem])
          have c1_0_1 := below_cell r1 (p := ⟨w.heap.size + 1, 0, none⟩) (v := .string ⟨#[]⟩) (by simp [go_sem])
          have c1_1_1 := below_cell r1 (p := ⟨w.heap.size + 1, 1, none⟩) (v := .slice none 0 0) (by simp [go_sem])
          have f0_1 : ∀ j, w1.frozen? ⟨w.heap.size, j, none⟩ = false := fun j => (r1.frozen (p := ⟨w.heap.size, j, none⟩) (by simp [go_sem])).trans (by simp [go_sem])
          have f1_1 : ∀ j, w1.frozen? ⟨w.heap.size + 1, j, none⟩ = false := fun j => (r1.frozen (p := ⟨w.heap.size + 1, j, none⟩) (by simp [go_sem])).trans (by simp [go_sem])
          clear r1
          go_wp2_with fail
          refine (HAT.out _ _ c0_1_1 b1).mono ?_
          rintro _ _ ⟨rfl, rfl⟩
          have hlt_p : k < ps.length := by rw [HN.out]; omega
          have hix_p := ix (P := Try.prog) (T := 26) (cap := cap) Try.underlying26 cells_Ring has_Ring hao (k := k) (by omega) _ (rfl)
          have hp0 : w1.cell? ⟨bb, off + k * 3, none⟩ = some (.int .i64 (rg ps k).1) := by rw [rg_eq hlt_p]; exact hcell _ b1 _ _ (by omega) (trips_at hlt_p).1
          have hp1 : w1.cell? ⟨bb, off + k * 3 + 1, none⟩ = some (.int .i64 (rg ps k).2.1) := by rw [rg_eq hlt_p]; exact hcell _ b1 _ _ (by omega) (trips_at hlt_p).2.1
          have hp2 : w1.cell? ⟨bb, off + k * 3 + 2, none⟩ = some (.int .i64 (rg ps k).2.2) := by rw [rg_eq hlt_p]; exact hcell _ b1 _ _ (by omega) (trips_at hlt_p).2.2
          clear hcell hao
          generalize hy0 : (rg ps k).1 = x0 at *
          generalize hy1 : (rg ps k).2.1 = x1 at *
          generalize hy2 : (rg ps k).2.2 = x2 at *
          have HY0 := Lib.hid hy0; clear hy0
          have HY1 := Lib.hid hy1; clear hy1
          have HY2 := Lib.hid hy2; clear hy2
          have ac0_0 := fun o => alloc_cell o c0_0_1
          have ac0_1 := fun o => alloc_cell o c0_1_1
          have af0 : ∀ o j, (w1.alloc o).frozen? ⟨w.heap.size, j, none⟩ = false := fun o j => (alloc_frozen o (show w.heap.size < _ from World.block_lt_of_cell? _ ⟨w.heap.size, 0, none⟩ c0_0_1)).trans (f0_1 j)
          have ac1_0 := fun o => alloc_cell o c1_0_1
          have ac1_1 := fun o => alloc_cell o c1_1_1
          have af1 : ∀ o j, (w1.alloc o).frozen? ⟨w.heap.size + 1, j, none⟩ = false := fun o j => (alloc_frozen o (show w.heap.size + 1 < _ from World.block_lt_of_cell? _ ⟨w.heap.size + 1, 0, none⟩ c1_0_1)).trans (f1_1 j)
          go_wp2_with fail
          refine (HWI.out _ _ (ac0_0 _ |> fun e => by first | exact e | simpa [go_sem] using e) (ac0_1 _ |> fun e => by first | exact e | simpa [go_sem] using e) (by first | exact (by go_grown) | go_grown)).mono ?_
          rintro _ w2 ⟨x2, rfl, n2, r2⟩
          have s2 : Below w1.heap.size w1 w2 := Below.trans (by go_grown) (r2.mono (by simp; try omega))
          have b2 := b1.trans (s2.mono z1)
          have z2 := b2.size
          have y2 := s2.size
          have k0_2 := c0_0_1
          have c0_0_2 := below_cell s2 c0_0_1; clear c0_0_1
          have c0_1_2 := below_cell s2 c0_1_1; clear c0_1_1
          have k1_2 := c1_0_1
          have c1_0_2 := below_cell s2 c1_0_1; clear c1_0_1
          have c1_1_2 := below_cell s2 c1_1_1; clear c1_1_1
          have f0_2 : ∀ j, w2.frozen? ⟨w.heap.size, j, none⟩ = false := fun j => (s2.frozen (p := ⟨w.heap.size, j, none⟩) (show w.heap.size < _ from World.block_lt_of_cell? _ ⟨w.heap.size, 0, none⟩ k0_2)).trans (f0_1 j); clear f0_1
          have f1_2 : ∀ j, w2.frozen? ⟨w.heap.size + 1, j, none⟩ = false := fun j => (s2.frozen (p := ⟨w.heap.size + 1, j, none⟩) (show w.heap.size + 1 < _ from World.block_lt_of_cell? _ ⟨w.heap.size + 1, 0, none⟩ k1_2)).trans (f1_1 j); clear f1_1
          clear r2
          obtain ⟨g2, cap2, hx, hg2, hg3⟩ := World.ownsRow.form n2 (by rw [HIL.out]; omega)
          rw [HIL.out] at hx
          subst hx
          simp only [World.size_alloc, World.size_setCell] at hg2
          have zz := World.block_lt_of_cell? _ ⟨w.heap.size + 1, 0, none⟩ c1_0_2
          simp only at zz
          have O2 := Lib.hid n2; clear n2
          have hI : InPl (w.heap.size + 1) w2.heap.size nm (.slice (some ⟨g2, 0, none⟩) (n + 1) cap2) qs w (w2.alloc (.cells #[.string nm, .slice (some ⟨g2, 0, none⟩) (n + 1) cap2] 28)) :=
            ⟨b2.alloc z2 _, by omega, alloc_cell _ c1_0_2, alloc_cell _ c1_1_2, fun j => (alloc_frozen _ (show w.heap.size + 1 < _ by omega)).trans (f1_2 j), by simp [go_sem], by simp [go_sem], own_base (own_later O2.out ((Below.refl _ _).alloc (Nat.le_refl _) _)) (by simp; omega), fun k hk => by simp [Value.ownBlock] at hk; omega⟩
          have HI := Lib.hid hI; clear hI
          clear c0_0_2 c0_1_2 c1_0_2 c1_1_2 f0_2 f1_2
          go_upto_region 12 with fail
          generalize w2.alloc (.cells #[.string nm, .slice (some ⟨g2, 0, none⟩) (n + 1) cap2] 28) = w5 at *
          generalize w2.heap.size = G at *
          have q0 := HI.out.q0
          have q1 := HI.out.q1
          have r0 := HI.out.r0
          have r1 := HI.out.r1
          have rf := HI.out.rf
          obtain ⟨e0, e1, e2⟩ := HI.out.cells HIL.out.symm (k := k + 1) (by omega)
          rw [HIA.out, HY2.out] at e2
          have fz := HI.out.frozen HIL.out.symm
          have hput := HI.out.put HIL.out.symm ((k + 1) * 3 + 2) (.int .i64 (x2 - o)) (qs' := qs2) (by rw [HSL.out, HIL.out]) (by rw [HSP.out])
          have HP := Lib.hid hput; clear hput
          have hwk : IntKind.i64.wrap ((k : Int) + 1) = (k : Int) + 1 := IntWalk.i64_in _ (by omega)
          have hix := ix (P := Try.prog) (T := 26) (cap := cap2) Try.underlying26 cells_Ring has_Ring (ao := some ⟨g2, 0, none⟩) (b := g2) (off := 0) (n := n + 1) (fun _ => rfl) (k := k + 1) (by omega) ((k : Int) + 1) (by simp)
          rw [Nat.zero_add] at hix
          go_upto_region 13 with fail
          clear q0 q1 r0 r1 rf e0 e1 e2 fz HI
          generalize w5.setCell ⟨g2, (k + 1) * 3 + 2, none⟩ (.int .i64 (x2 - o)) = w6 at *
          have q0 := HP.out.q0
          have q1 := HP.out.q1
          have r0 := HP.out.r0
          have r1 := HP.out.r1
          have rf := HP.out.rf
          have b6 := HP.out.below
          have o6 := HP.out.own
          have lo6 := own_lo o6
          have O6 := Lib.hid o6; clear o6
          have HP2 := Lib.hid HP; clear HP
          go_wp2
          refine bodyPost_ret (v := .tuple #[.agg #[.string nm, .slice (some ⟨g2, 0, none⟩) (n + 1) cap2], .int .i64 0]) (by simp [results, Try.results8, go_sem, r0, r1]) rfl ?_
          have o11 := own_set O6.out (a := ⟨w.heap.size + 1, 0, none⟩) (fun k hk => by have h8 := lo6 k hk; show w.heap.size + 1 ≠ k; omega) (.string nm)
          have o12 := own_set o11 (a := ⟨w.heap.size + 1, 1, none⟩) (fun k hk => by have h8 := lo6 k hk; show w.heap.size + 1 ≠ k; omega) (.slice (some ⟨g2, 0, none⟩) (n + 1) cap2)
          exact ⟨_, rfl, own_base o12 (by omega), (b6.setCell (show w.heap.size ≤ w.heap.size + 1 by omega) _).setCell (show w.heap.size ≤ w.heap.size + 1 by omega) _⟩

end Go.Proofs.Ytjlenafdpoknhaa
