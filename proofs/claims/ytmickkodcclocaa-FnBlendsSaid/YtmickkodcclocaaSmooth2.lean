/- A profile, smoothed: the program. -/
import Derived.Test.YtmickkodcclocaaSmooth
import Derived.BigRegion
namespace Go.Proofs.Ytmickkodcclocaa
set_option linter.unusedVariables false
open Go.RowKit Go.Proofs.Bell Go.BigFrame

theorem two2 {p q r : Prop} (h1 : p) (h2 : q) (h : p → q → r) : r := h h1 h2

set_option maxRecDepth 100000 in
set_option maxHeartbeats 6400000 in
theorem Smooth1_c (k : Nat) (nm : ByteArray) (sv : Value) (ps : List (Int × Int × Int)) (a : Nat) (w : World) (c1 : w.cell? ⟨a, 1, none⟩ = some sv) (hr : Rd w sv ps.length (trips ps)) (hal : ps.all ringT = true) (hk : k < ps.length) :
    Calls Try.prog 161 #[.int .i64 k, ringV (rg ps k), .pointer (some ⟨a, 0, none⟩)] w (RetB (ringV (smT ps k (rg ps k))) w) := by
  have ha := World.block_lt_of_cell? w _ c1
  simp only at ha
  have ac := fun o => alloc_cell o c1
  have ac2 := fun o o' => alloc_cell o' (alloc_cell o c1)
  have HAL := Lib.hid hal; clear hal
  generalize hn : ps.length = n at hr
  have HN := Lib.hid hn; clear hn
  obtain ⟨hn2, ao, cap, bb, off, rfl, hao, hcell⟩ := hr.open
  clear hr
  by_cases t0 : k = 0
  · subst t0
    have hT : smT ps 0 (rg ps 0) = rg ps 0 := by simp [smT]
    rw [hT]
    generalize rg ps 0 = p at *
    obtain ⟨p0, p1, p2⟩ := p
    simp only [ringV] at *
    clear hcell
    go_enter Try.func161, Try.ntmps161
    go_wp2
    go_returns
    exact RetB.mk rfl (by go_grown)
  · have hni : (n : Int) = ps.length := by rw [HN.out]
    have g1 : ((k : Int) == 0) = false := by simp; omega
    by_cases t1 : k + 1 = ps.length
    · have hT : smT ps k (rg ps k) = rg ps k := by simp [smT, t1]
      rw [hT]
      have g2 : ((k : Int) == (n : Int) - 1) = true := by simp; omega
      generalize rg ps k = p at *
      obtain ⟨p0, p1, p2⟩ := p
      simp only [ringV] at *
      clear hcell
      go_enter Try.func161, Try.ntmps161
      go_wp2
      go_returns
      exact RetB.mk rfl (by go_grown)
    · have g2 : ((k : Int) == (n : Int) - 1) = false := by simp; omega
      have hlt : k + 1 < ps.length := by omega
      have hltm : k - 1 < ps.length := by omega
      have hx : ∀ j, j < ps.length → 0 ≤ (rg ps j).1 ∧ (rg ps j).1 ≤ 1000000 ∧ 0 ≤ (rg ps j).2.1 ∧ (rg ps j).2.1 ≤ 1000000 := fun j hj => by have := ringT_t (all_at HAL.out hj); omega
      obtain ⟨m1, m2, m3, m4⟩ := hx (k - 1) hltm
      obtain ⟨m5, m6, m7, m8⟩ := hx k hk
      obtain ⟨m9, m10, m11, m12⟩ := hx (k + 1) hlt
      have hix_a := ix (P := Try.prog) (T := 26) (cap := cap) Try.underlying26 cells_Ring has_Ring hao (k := k - 1) (by omega) ((k : Int) - 1) (by omega)
      have hix_c := ix (P := Try.prog) (T := 26) (cap := cap) Try.underlying26 cells_Ring has_Ring hao (k := k + 1) (by omega) ((k : Int) + 1) (by omega)
      have b0' : ∀ j (hj : j < ps.length), w.cell? ⟨bb, off + j * 3, none⟩ = some (.int .i64 (rg ps j).1) ∧ w.cell? ⟨bb, off + j * 3 + 1, none⟩ = some (.int .i64 (rg ps j).2.1) ∧ w.cell? ⟨bb, off + j * 3 + 2, none⟩ = some (.int .i64 (rg ps j).2.2) := fun j hj => by
        rw [rg_eq hj]
        exact ⟨hcell _ (Below.refl _ _) _ _ (by omega) (trips_at hj).1, hcell _ (Below.refl _ _) _ _ (by omega) (trips_at hj).2.1, hcell _ (Below.refl _ _) _ _ (by omega) (trips_at hj).2.2⟩
      obtain ⟨a0, a1, a2⟩ := b0' (k - 1) hltm
      obtain ⟨d0, d1, d2⟩ := b0' (k + 1) hlt
      have hbb : bb < w.heap.size := World.block_lt_of_cell? w _ a0
      have hT : smT ps k (rg ps k) = (rnd ((rg ps (k - 1)).1 + 2 * (rg ps k).1 + (rg ps (k + 1)).1) 4, rnd ((rg ps (k - 1)).2.1 + 2 * (rg ps k).2.1 + (rg ps (k + 1)).2.1) 4, (rg ps k).2.2) := by
        unfold smT
        rw [if_neg (by omega)]
      rw [hT]
      have hm0 := fun w' => nearest_c ((rg ps (k - 1)).1 + 2 * (rg ps k).1 + (rg ps (k + 1)).1) 4 w' (by omega) (by omega) (by omega) (by omega)
      have hm1 := fun w' => nearest_c ((rg ps (k - 1)).2.1 + 2 * (rg ps k).2.1 + (rg ps (k + 1)).2.1) 4 w' (by omega) (by omega) (by omega) (by omega)
      clear hT b0' hcell hx
      generalize rnd ((rg ps (k - 1)).1 + 2 * (rg ps k).1 + (rg ps (k + 1)).1) 4 = y0 at *
      generalize rnd ((rg ps (k - 1)).2.1 + 2 * (rg ps k).2.1 + (rg ps (k + 1)).2.1) 4 = y1 at *
      generalize (rg ps (k - 1)).1 = xa0 at *
      generalize (rg ps (k - 1)).2.1 = xa1 at *
      generalize (rg ps (k - 1)).2.2 = xa2 at *
      generalize (rg ps (k + 1)).1 = xc0 at *
      generalize (rg ps (k + 1)).2.1 = xc1 at *
      generalize (rg ps (k + 1)).2.2 = xc2 at *
      generalize rg ps k = p at *
      obtain ⟨p0, p1, p2⟩ := p
      simp only [ringV] at *
      have HM0 := Lib.hid hm0; clear hm0
      have HM1 := Lib.hid hm1; clear hm1
      go_enter Try.func161, Try.ntmps161
      go_wp2_with fail
      obtain ⟨W, hW⟩ : ∃ x, x = (w.alloc (.cells #[.int .i64 p0, .int .i64 p1, .int .i64 p2] 80)).alloc (.cells #[.int .i64 0, .int .i64 0, .int .i64 0] 80) := ⟨_, rfl⟩
      rw [← hW]
      have kb : Below w.heap.size w W := by rw [hW]; go_grown
      have kz : W.heap.size = w.heap.size + 1 + 1 := by rw [hW]; simp
      have e1 := below_cell kb c1
      have a0' := below_cell kb a0
      have a1' := below_cell kb a1
      have a2' := below_cell kb a2
      have d0' := below_cell kb d0
      have d1' := below_cell kb d1
      have d2' := below_cell kb d2
      have q0 : W.cell? ⟨w.heap.size, 0, none⟩ = some (.int .i64 p0) := by rw [hW]; simp [go_sem]
      have q1 : W.cell? ⟨w.heap.size, 1, none⟩ = some (.int .i64 p1) := by rw [hW]; simp [go_sem]
      have q2 : W.cell? ⟨w.heap.size, 2, none⟩ = some (.int .i64 p2) := by rw [hW]; simp [go_sem]
      have v0 : W.cell? ⟨w.heap.size + 1, 0, none⟩ = some (.int .i64 0) := by rw [hW]; simp [go_sem]
      have v1 : W.cell? ⟨w.heap.size + 1, 1, none⟩ = some (.int .i64 0) := by rw [hW]; simp [go_sem]
      have v2 : W.cell? ⟨w.heap.size + 1, 2, none⟩ = some (.int .i64 0) := by rw [hW]; simp [go_sem]
      have qf : ∀ j, W.frozen? ⟨w.heap.size, j, none⟩ = false := fun j => by rw [hW]; simp [go_sem]
      have vf : ∀ j, W.frozen? ⟨w.heap.size + 1, j, none⟩ = false := fun j => by rw [hW]; simp [go_sem]
      have ha2 : a < W.heap.size := by omega
      have hbb2 : bb < W.heap.size := by omega
      have hq2 : w.heap.size < W.heap.size := by omega
      have hv2 : w.heap.size + 1 < W.heap.size := by omega
      clear ac ac2 c1 a0 a1 a2 d0 d1 d2 hW kz ha hbb
      go_region <;>
      · go_wp2_with fail
        refine (HM0.out _).mono ?_
        rintro _ w5 ⟨rfl, d5⟩
        have r5 := Dr.below d5
        clear d5
        have b5 : Below W.heap.size W w5 := Below.trans (by go_grown) (r5.mono (by simp; try omega))
        have s0 := below_cell b5 q0
        have s1 := below_cell b5 q1
        have s2 := below_cell b5 q2
        have u0 := below_cell b5 v0
        have u1 := below_cell b5 v1
        have u2 := below_cell b5 v2
        have sf := fun j => (b5.frozen (p := ⟨w.heap.size, j, none⟩) hq2).trans (qf j)
        have uf := fun j => (b5.frozen (p := ⟨w.heap.size + 1, j, none⟩) hv2).trans (vf j)
        clear e1 a0' a1' a2' d0' d1' d2' q0 q1 q2 v0 v1 v2 qf vf hix_a hix_c g1 g2 hao ha2 hbb2
        first
          | (refine two2 (p := w5.cell? ⟨W.heap.size, 1, none⟩ = some (.int .i64 xa1)) (q := w5.cell? ⟨W.heap.size + 1, 1, none⟩ = some (.int .i64 xc1)) (below_cell r5 ?_) (below_cell r5 ?_) ?_
             · (simp [go_sem]; done)
             · (simp [go_sem]; done))
          | (refine two2 (p := w5.cell? ⟨W.heap.size, 1, none⟩ = some (.int .i64 xc1)) (q := w5.cell? ⟨W.heap.size + 1, 1, none⟩ = some (.int .i64 xa1)) (below_cell r5 ?_) (below_cell r5 ?_) ?_
             · (simp [go_sem]; done)
             · (simp [go_sem]; done))
        intro n1 n2
        clear r5
        go_wp2_with fail
        obtain ⟨W6, hW6⟩ : ∃ x, x = w5.setCell ⟨w.heap.size, 0, none⟩ (.int .i64 y0) := ⟨_, rfl⟩
        rw [← hW6]
        have hk : ∀ b j u, ⟨b, j, none⟩ ≠ (⟨w.heap.size, 0, none⟩ : Addr) → w5.cell? ⟨b, j, none⟩ = some u → W6.cell? ⟨b, j, none⟩ = some u := fun b j u hne hc => by rw [hW6, World.cell?_setCell_other _ _ _ _ (Ne.symm hne)]; exact hc
        have b6 : Below w.heap.size w W6 := by rw [hW6]; exact (kb.trans (b5.mono kb.size)).setCell (Nat.le_refl _) _
        have z0 : W6.cell? ⟨w.heap.size, 0, none⟩ = some (.int .i64 y0) := by rw [hW6]; exact World.cell?_setCell_same _ _ _ s0
        have z1 := hk _ _ _ (by simp) s1
        have z2 := hk _ _ _ (by simp) s2
        have z3 := hk _ _ _ (by simp) u0
        have z4 := hk _ _ _ (by simp) u1
        have z5 := hk _ _ _ (by simp) u2
        have z6 := hk _ _ _ (by simp; try omega) n1
        have z7 := hk _ _ _ (by simp; try omega) n2
        have zf : ∀ j, W6.frozen? ⟨w.heap.size, j, none⟩ = false := fun j => by rw [hW6, World.frozen?_setCell]; exact sf j
        have zg : ∀ j, W6.frozen? ⟨w.heap.size + 1, j, none⟩ = false := fun j => by rw [hW6, World.frozen?_setCell]; exact uf j
        clear hk hW6 s0 s1 s2 u0 u1 u2 sf uf n1 n2 b5
        refine (HM1.out _).mono ?_
        rintro _ w7 ⟨rfl, d7⟩
        have r7 := Dr.below d7
        clear d7
        have hs6 := b6.size
        have b7 : Below w.heap.size w w7 := b6.trans (r7.mono hs6)
        have s0 := below_cell r7 z0
        have s1 := below_cell r7 z1
        have s2 := below_cell r7 z2
        have u0 := below_cell r7 z3
        have u1 := below_cell r7 z4
        have u2 := below_cell r7 z5
        have sf := fun j => (r7.frozen (p := ⟨w.heap.size, j, none⟩) (World.block_lt_of_cell? _ ⟨w.heap.size, 0, none⟩ z0)).trans (zf j)
        have uf := fun j => (r7.frozen (p := ⟨w.heap.size + 1, j, none⟩) (World.block_lt_of_cell? _ ⟨w.heap.size + 1, 0, none⟩ z3)).trans (zg j)
        clear r7 z0 z1 z2 z3 z4 z5 z6 z7 zf zg
        go_wp2_with fail
        obtain ⟨W8, hW8⟩ : ∃ x, x = w7.setCell ⟨w.heap.size, 1, none⟩ (.int .i64 y1) := ⟨_, rfl⟩
        rw [← hW8]
        have b8 : Below w.heap.size w W8 := by rw [hW8]; exact b7.setCell (Nat.le_refl _) _
        have z0 : W8.cell? ⟨w.heap.size, 0, none⟩ = some (.int .i64 y0) := by rw [hW8, World.cell?_setCell_other _ _ _ _ (by simp)]; exact s0
        have z1 : W8.cell? ⟨w.heap.size, 1, none⟩ = some (.int .i64 y1) := by rw [hW8]; exact World.cell?_setCell_same _ _ _ s1
        have z2 : W8.cell? ⟨w.heap.size, 2, none⟩ = some (.int .i64 p2) := by rw [hW8, World.cell?_setCell_other _ _ _ _ (by simp)]; exact s2
        have z3 : W8.cell? ⟨w.heap.size + 1, 0, none⟩ = some (.int .i64 0) := by rw [hW8, World.cell?_setCell_other _ _ _ _ (by simp)]; exact u0
        have z4 : W8.cell? ⟨w.heap.size + 1, 1, none⟩ = some (.int .i64 0) := by rw [hW8, World.cell?_setCell_other _ _ _ _ (by simp)]; exact u1
        have z5 : W8.cell? ⟨w.heap.size + 1, 2, none⟩ = some (.int .i64 0) := by rw [hW8, World.cell?_setCell_other _ _ _ _ (by simp)]; exact u2
        have zg : ∀ j, W8.frozen? ⟨w.heap.size + 1, j, none⟩ = false := fun j => by rw [hW8, World.frozen?_setCell]; exact uf j
        clear hW8 s0 s1 s2 u0 u1 u2 sf uf b7
        go_wp2
        refine bodyPost_ret (v := .agg #[.int .i64 y0, .int .i64 y1, .int .i64 p2]) (by simp [results, Try.results161, go_sem, z3, z4, z5]) rfl ?_
        exact RetB.mk rfl (((b8.setCell (by simp) _).setCell (by simp) _).setCell (by simp) _)

end Go.Proofs.Ytmickkodcclocaa
