/- Cuts made: the program. -/
import Derived.Test.YtmeeibcbhjifbaaGreatApply
import Derived.Test.YtmeeibcbhjifbaaGreatGF
namespace Go.Proofs.YtmeeibcbhjifbaaGreat
set_option linter.unusedVariables false
open Go.RowKit Go.Proofs.Bell Go.BigFrame

set_option maxHeartbeats 800000 in
theorem ApplyCuts1_c (c : Int × Int) (v : Value) (zs : List Int) (a : Nat) (w : World) (hc : w.cell? ⟨a, 0, none⟩ = some v) (h : Rd w v zs.length (ints zs)) :
    Calls Tryz.prog 70 #[.agg #[.int .i64 c.1, .int .i64 c.2], .pointer (some ⟨a, 0, none⟩)] w (RetB (.bool (decide ((zs.length : Int) ≤ c.1))) w) := by
  have ha := World.block_lt_of_cell? w _ hc
  simp only at ha
  have hs := fun w' (hb : Below w.heap.size w w') => size64_c v zs.length (ints zs) w' (h.later hb)
  obtain ⟨hnq, aoq, capq, bq, offq, rfl, haoq, hcellq⟩ := h.open
  clear hcellq haoq h
  obtain ⟨c0, c1⟩ := c
  generalize zs.length = n at *
  have ac := fun o => alloc_cell o hc
  have HS := Lib.hid hs; clear hs
  go_enter Tryz.func70, Tryz.ntmps70
  go_wp2_with fail
  go_quiet ((go_at_call 71; exact quietS (HS.out _ (below_drewN (by go_grown) _))))
  go_wp2
  go_returns
  exact RetB.mk (bool_eq (by simp)) (below_drewN (by go_grown) _)

set_option maxRecDepth 100000 in
set_option maxHeartbeats 1600000 in
theorem implApplyCuts_c (nm : ByteArray) (sv : Value) (ps : List (Int × Int × Int)) (v : Value) (zs : List Int) (u : Value) (cs : List (Int × Int)) (w : World) (hnm : nm.size ≤ maxLen) (hr : Rd w sv ps.length (trips ps)) (h : Rd w v zs.length (ints zs)) (h2 : Rd w u cs.length (pairs cs)) :
    Calls Tryz.prog 44 #[.agg #[.string nm, sv], v, u] w (RetP2 (applyI nm ps zs cs).1 (applyI nm ps zs cs).2.1 (.int .i64 (applyI nm ps zs cs).2.2) w) := by
  have hv : ∃ ao n cap, v = .slice ao n cap := by obtain ⟨hnq, aoq, capq, bq, offq, hv, haoq, hcellq⟩ := h.open; exact ⟨_, _, _, hv⟩
  have hvz := fun w' (hb : Below w.heap.size w w') => ValidZones_c nm sv ps v zs w' hnm (hr.later hb) (h.later hb)
  have hcu := fun w' (hb : Below w.heap.size w w') => ValidCuts_c u cs w' (h2.later hb)
  cases t1 : vzB nm ps zs <;> rw [t1] at hvz
  · have he : applyI nm ps zs cs = (⟨#[]⟩, [], 1) := by simp [applyI, cutAsk, t1]
    rw [he]
    have HVZ := Lib.hid hvz; clear hvz
    clear he hr h h2 hcu
    obtain ⟨aoq, nq, capq, rfl⟩ := hv
    go_enter Tryz.func44, Tryz.ntmps44
    have b0 : Below w.heap.size w w := Below.refl _ _
    have z0 : w.heap.size ≤ w.heap.size := Nat.le_refl _
    go_wp2_with fail
    refine (HVZ.out _ (by go_grown)).mono ?_
    rintro _ w1 ⟨rfl, r1⟩
    have s1 : Below w.heap.size w w1 := Below.trans (by go_grown) (r1.mono (by simp; try omega))
    have b1 := b0.trans (s1.mono z0)
    have z1 := b1.size
    have y1 := s1.size
    have v1 : w.heap.size + 3 ≤ w1.heap.size := by have := r1.size; simp only [World.size_alloc] at this; omega
    have c0_0_1 := below_cell r1 (p := ⟨w.heap.size, 0, none⟩) (v := .string nm) (by simp [go_sem])
    have c0_1_1 := below_cell r1 (p := ⟨w.heap.size, 1, none⟩) (v := sv) (by simp [go_sem])
    have c1_0_1 := below_cell r1 (p := ⟨w.heap.size + 1, 0, none⟩) (v := .slice aoq nq capq) (by simp [go_sem])
    have c2_0_1 := below_cell r1 (p := ⟨w.heap.size + 1 + 1, 0, none⟩) (v := .string ⟨#[]⟩) (by simp [go_sem])
    have c2_1_1 := below_cell r1 (p := ⟨w.heap.size + 1 + 1, 1, none⟩) (v := .slice none 0 0) (by simp [go_sem])
    have f0_1 : ∀ j, w1.frozen? ⟨w.heap.size, j, none⟩ = false := fun j => (r1.frozen (p := ⟨w.heap.size, j, none⟩) (by simp [go_sem])).trans (by simp [go_sem])
    have f1_1 : ∀ j, w1.frozen? ⟨w.heap.size + 1, j, none⟩ = false := fun j => (r1.frozen (p := ⟨w.heap.size + 1, j, none⟩) (by simp [go_sem])).trans (by simp [go_sem])
    have f2_1 : ∀ j, w1.frozen? ⟨w.heap.size + 1 + 1, j, none⟩ = false := fun j => (r1.frozen (p := ⟨w.heap.size + 1 + 1, j, none⟩) (by simp [go_sem])).trans (by simp [go_sem])
    clear r1
    go_wp2
    refine bodyPost_ret (v := .tuple #[.agg #[.string ⟨#[]⟩, .slice none 0 0], .int .i64 1]) (by simp [results, Tryz.results44, go_sem, c2_0_1, c2_1_1]) rfl ?_
    exact RetP2.nil (Below.setCell (Below.setCell b1 (show w.heap.size ≤ w.heap.size + 1 + 1 by omega) _) (show w.heap.size ≤ w.heap.size + 1 + 1 by omega) _)
  · cases t2 : cutsB cs <;> rw [t2] at hcu
    · have he : applyI nm ps zs cs = (⟨#[]⟩, [], 1) := by simp [applyI, cutAsk, t1, t2]
      rw [he]
      have HVZ := Lib.hid hvz; clear hvz
      have HCU := Lib.hid hcu; clear hcu
      clear he hr h h2
      obtain ⟨aoq, nq, capq, rfl⟩ := hv
      go_enter Tryz.func44, Tryz.ntmps44
      have b0 : Below w.heap.size w w := Below.refl _ _
      have z0 : w.heap.size ≤ w.heap.size := Nat.le_refl _
      go_wp2_with fail
      refine (HVZ.out _ (by go_grown)).mono ?_
      rintro _ w1 ⟨rfl, r1⟩
      have s1 : Below w.heap.size w w1 := Below.trans (by go_grown) (r1.mono (by simp; try omega))
      have b1 := b0.trans (s1.mono z0)
      have z1 := b1.size
      have y1 := s1.size
      have v1 : w.heap.size + 3 ≤ w1.heap.size := by have := r1.size; simp only [World.size_alloc] at this; omega
      have c0_0_1 := below_cell r1 (p := ⟨w.heap.size, 0, none⟩) (v := .string nm) (by simp [go_sem])
      have c0_1_1 := below_cell r1 (p := ⟨w.heap.size, 1, none⟩) (v := sv) (by simp [go_sem])
      have c1_0_1 := below_cell r1 (p := ⟨w.heap.size + 1, 0, none⟩) (v := .slice aoq nq capq) (by simp [go_sem])
      have c2_0_1 := below_cell r1 (p := ⟨w.heap.size + 1 + 1, 0, none⟩) (v := .string ⟨#[]⟩) (by simp [go_sem])
      have c2_1_1 := below_cell r1 (p := ⟨w.heap.size + 1 + 1, 1, none⟩) (v := .slice none 0 0) (by simp [go_sem])
      have f0_1 : ∀ j, w1.frozen? ⟨w.heap.size, j, none⟩ = false := fun j => (r1.frozen (p := ⟨w.heap.size, j, none⟩) (by simp [go_sem])).trans (by simp [go_sem])
      have f1_1 : ∀ j, w1.frozen? ⟨w.heap.size + 1, j, none⟩ = false := fun j => (r1.frozen (p := ⟨w.heap.size + 1, j, none⟩) (by simp [go_sem])).trans (by simp [go_sem])
      have f2_1 : ∀ j, w1.frozen? ⟨w.heap.size + 1 + 1, j, none⟩ = false := fun j => (r1.frozen (p := ⟨w.heap.size + 1 + 1, j, none⟩) (by simp [go_sem])).trans (by simp [go_sem])
      clear r1
      go_wp2_with fail
      refine (HCU.out _ b1).mono ?_
      rintro _ w2 ⟨rfl, r2⟩
      have s2 := r2
      have b2 := b1.trans (s2.mono z1)
      have z2 := b2.size
      have y2 := s2.size
      have k0_2 := c0_0_1
      have c0_0_2 := below_cell s2 c0_0_1; clear c0_0_1
      have c0_1_2 := below_cell s2 c0_1_1; clear c0_1_1
      have k1_2 := c1_0_1
      have c1_0_2 := below_cell s2 c1_0_1; clear c1_0_1
      have k2_2 := c2_0_1
      have c2_0_2 := below_cell s2 c2_0_1; clear c2_0_1
      have c2_1_2 := below_cell s2 c2_1_1; clear c2_1_1
      have f0_2 : ∀ j, w2.frozen? ⟨w.heap.size, j, none⟩ = false := fun j => (s2.frozen (p := ⟨w.heap.size, j, none⟩) (show w.heap.size < _ from World.block_lt_of_cell? _ ⟨w.heap.size, 0, none⟩ k0_2)).trans (f0_1 j); clear f0_1
      have f1_2 : ∀ j, w2.frozen? ⟨w.heap.size + 1, j, none⟩ = false := fun j => (s2.frozen (p := ⟨w.heap.size + 1, j, none⟩) (show w.heap.size + 1 < _ from World.block_lt_of_cell? _ ⟨w.heap.size + 1, 0, none⟩ k1_2)).trans (f1_1 j); clear f1_1
      have f2_2 : ∀ j, w2.frozen? ⟨w.heap.size + 1 + 1, j, none⟩ = false := fun j => (s2.frozen (p := ⟨w.heap.size + 1 + 1, j, none⟩) (show w.heap.size + 1 + 1 < _ from World.block_lt_of_cell? _ ⟨w.heap.size + 1 + 1, 0, none⟩ k2_2)).trans (f2_1 j); clear f2_1
      clear r2
      go_wp2
      refine bodyPost_ret (v := .tuple #[.agg #[.string ⟨#[]⟩, .slice none 0 0], .int .i64 1]) (by simp [results, Tryz.results44, go_sem, c2_0_2, c2_1_2]) rfl ?_
      exact RetP2.nil (Below.setCell (Below.setCell b2 (show w.heap.size ≤ w.heap.size + 1 + 1 by omega) _) (show w.heap.size ≤ w.heap.size + 1 + 1 by omega) _)
    · have hsum := fun w' (hb : Below w.heap.size w w') => stepsOf_c u cs w' (h2.later hb) t2
      have hov := fun w' a (hb : Below w.heap.size w w') (hc : w'.cell? ⟨a, 0, none⟩ = some v) => ContainsFuncCut_c 70 #[.pointer (some ⟨a, 0, none⟩)] (fun c => decide ((zs.length : Int) ≤ c.1)) u cs w' (h2.later hb) (enters Tryz.func70 (by kernel_rfl) rfl) (fun x _ w'' hb'' => ApplyCuts1_c x v zs a w'' (below_cell hb'' hc) ((h.later hb).later hb''))
      have hov' : ∀ w' a (hb : Below w.heap.size w w') (hc : w'.cell? ⟨a, 0, none⟩ = some v), Calls Tryz.prog 64 #[u, .func (.func 70) #[] #[.pointer (some ⟨a, 0, none⟩)]] w' (RetB (.bool (overB zs cs)) w') := hov
      clear hov
      cases t3 : overB zs cs <;> rw [t3] at hov'
      · have hmax := fun w' x (hx : Rd w' x (sumsOf cs).length (ints (sumsOf cs))) => Max_c x (sumsOf cs) w' hx (by rw [sumsOf_len]; decide)
        have hmle := maxI_le (zs := sumsOf cs) (c := 20) (by rw [sumsOf_len]; decide)
        cases t4 : (sumsOf cs).all (fun z => decide (z ≤ 20)) <;> rw [t4] at hmle
        · have he : applyI nm ps zs cs = (⟨#[]⟩, [], 5) := by simp [applyI, cutAsk, t1, t2, t3, t4]
          rw [he]
          have t5 : 20 < maxI (sumsOf cs) := by have := of_decide_eq_false hmle; omega
          have HVZ := Lib.hid hvz; clear hvz
          have HCU := Lib.hid hcu; clear hcu
          have HSUM := Lib.hid hsum; clear hsum
          have HOV := Lib.hid hov'; clear hov'
          have HMAX := Lib.hid hmax; clear hmax
          clear he hr h h2 hmle t1 t2 t3 t4
          generalize maxI (sumsOf cs) = mx at *
          generalize sumsOf cs = sums at *
          obtain ⟨aoq, nq, capq, rfl⟩ := hv
          go_enter Tryz.func44, Tryz.ntmps44
          have b0 : Below w.heap.size w w := Below.refl _ _
          have z0 : w.heap.size ≤ w.heap.size := Nat.le_refl _
          go_wp2_with fail
          refine (HVZ.out _ (by go_grown)).mono ?_
          rintro _ w1 ⟨rfl, r1⟩
          have s1 : Below w.heap.size w w1 := Below.trans (by go_grown) (r1.mono (by simp; try omega))
          have b1 := b0.trans (s1.mono z0)
          have z1 := b1.size
          have y1 := s1.size
          have v1 : w.heap.size + 3 ≤ w1.heap.size := by have := r1.size; simp only [World.size_alloc] at this; omega
          have c0_0_1 := below_cell r1 (p := ⟨w.heap.size, 0, none⟩) (v := .string nm) (by simp [go_sem])
          have c0_1_1 := below_cell r1 (p := ⟨w.heap.size, 1, none⟩) (v := sv) (by simp [go_sem])
          have c1_0_1 := below_cell r1 (p := ⟨w.heap.size + 1, 0, none⟩) (v := .slice aoq nq capq) (by simp [go_sem])
          have c2_0_1 := below_cell r1 (p := ⟨w.heap.size + 1 + 1, 0, none⟩) (v := .string ⟨#[]⟩) (by simp [go_sem])
          have c2_1_1 := below_cell r1 (p := ⟨w.heap.size + 1 + 1, 1, none⟩) (v := .slice none 0 0) (by simp [go_sem])
          have f0_1 : ∀ j, w1.frozen? ⟨w.heap.size, j, none⟩ = false := fun j => (r1.frozen (p := ⟨w.heap.size, j, none⟩) (by simp [go_sem])).trans (by simp [go_sem])
          have f1_1 : ∀ j, w1.frozen? ⟨w.heap.size + 1, j, none⟩ = false := fun j => (r1.frozen (p := ⟨w.heap.size + 1, j, none⟩) (by simp [go_sem])).trans (by simp [go_sem])
          have f2_1 : ∀ j, w1.frozen? ⟨w.heap.size + 1 + 1, j, none⟩ = false := fun j => (r1.frozen (p := ⟨w.heap.size + 1 + 1, j, none⟩) (by simp [go_sem])).trans (by simp [go_sem])
          clear r1
          go_wp2_with fail
          refine (HCU.out _ b1).mono ?_
          rintro _ w2 ⟨rfl, r2⟩
          have s2 := r2
          have b2 := b1.trans (s2.mono z1)
          have z2 := b2.size
          have y2 := s2.size
          have k0_2 := c0_0_1
          have c0_0_2 := below_cell s2 c0_0_1; clear c0_0_1
          have c0_1_2 := below_cell s2 c0_1_1; clear c0_1_1
          have k1_2 := c1_0_1
          have c1_0_2 := below_cell s2 c1_0_1; clear c1_0_1
          have k2_2 := c2_0_1
          have c2_0_2 := below_cell s2 c2_0_1; clear c2_0_1
          have c2_1_2 := below_cell s2 c2_1_1; clear c2_1_1
          have f0_2 : ∀ j, w2.frozen? ⟨w.heap.size, j, none⟩ = false := fun j => (s2.frozen (p := ⟨w.heap.size, j, none⟩) (show w.heap.size < _ from World.block_lt_of_cell? _ ⟨w.heap.size, 0, none⟩ k0_2)).trans (f0_1 j); clear f0_1
          have f1_2 : ∀ j, w2.frozen? ⟨w.heap.size + 1, j, none⟩ = false := fun j => (s2.frozen (p := ⟨w.heap.size + 1, j, none⟩) (show w.heap.size + 1 < _ from World.block_lt_of_cell? _ ⟨w.heap.size + 1, 0, none⟩ k1_2)).trans (f1_1 j); clear f1_1
          have f2_2 : ∀ j, w2.frozen? ⟨w.heap.size + 1 + 1, j, none⟩ = false := fun j => (s2.frozen (p := ⟨w.heap.size + 1 + 1, j, none⟩) (show w.heap.size + 1 + 1 < _ from World.block_lt_of_cell? _ ⟨w.heap.size + 1 + 1, 0, none⟩ k2_2)).trans (f2_1 j); clear f2_1
          clear r2
          go_wp2_with fail
          refine (HSUM.out _ b2).mono ?_
          rintro _ w3 ⟨x3, rfl, n3, r3⟩
          have s3 := r3
          have b3 := b2.trans (s3.mono z2)
          have z3 := b3.size
          have y3 := s3.size
          have k0_3 := c0_0_2
          have c0_0_3 := below_cell s3 c0_0_2; clear c0_0_2
          have c0_1_3 := below_cell s3 c0_1_2; clear c0_1_2
          have k1_3 := c1_0_2
          have c1_0_3 := below_cell s3 c1_0_2; clear c1_0_2
          have k2_3 := c2_0_2
          have c2_0_3 := below_cell s3 c2_0_2; clear c2_0_2
          have c2_1_3 := below_cell s3 c2_1_2; clear c2_1_2
          have f0_3 : ∀ j, w3.frozen? ⟨w.heap.size, j, none⟩ = false := fun j => (s3.frozen (p := ⟨w.heap.size, j, none⟩) (show w.heap.size < _ from World.block_lt_of_cell? _ ⟨w.heap.size, 0, none⟩ k0_3)).trans (f0_2 j); clear f0_2
          have f1_3 : ∀ j, w3.frozen? ⟨w.heap.size + 1, j, none⟩ = false := fun j => (s3.frozen (p := ⟨w.heap.size + 1, j, none⟩) (show w.heap.size + 1 < _ from World.block_lt_of_cell? _ ⟨w.heap.size + 1, 0, none⟩ k1_3)).trans (f1_2 j); clear f1_2
          have f2_3 : ∀ j, w3.frozen? ⟨w.heap.size + 1 + 1, j, none⟩ = false := fun j => (s3.frozen (p := ⟨w.heap.size + 1 + 1, j, none⟩) (show w.heap.size + 1 + 1 < _ from World.block_lt_of_cell? _ ⟨w.heap.size + 1 + 1, 0, none⟩ k2_3)).trans (f2_2 j); clear f2_2
          clear r3
          have N3 := Lib.hid n3; clear n3
          go_wp2_with fail
          refine (HOV.out _ _ b3 c1_0_3).mono ?_
          rintro _ w4 ⟨rfl, r4⟩
          have s4 := r4
          have b4 := b3.trans (s4.mono z3)
          have z4 := b4.size
          have y4 := s4.size
          have k0_4 := c0_0_3
          have c0_0_4 := below_cell s4 c0_0_3; clear c0_0_3
          have c0_1_4 := below_cell s4 c0_1_3; clear c0_1_3
          have k1_4 := c1_0_3
          have c1_0_4 := below_cell s4 c1_0_3; clear c1_0_3
          have k2_4 := c2_0_3
          have c2_0_4 := below_cell s4 c2_0_3; clear c2_0_3
          have c2_1_4 := below_cell s4 c2_1_3; clear c2_1_3
          have f0_4 : ∀ j, w4.frozen? ⟨w.heap.size, j, none⟩ = false := fun j => (s4.frozen (p := ⟨w.heap.size, j, none⟩) (show w.heap.size < _ from World.block_lt_of_cell? _ ⟨w.heap.size, 0, none⟩ k0_4)).trans (f0_3 j); clear f0_3
          have f1_4 : ∀ j, w4.frozen? ⟨w.heap.size + 1, j, none⟩ = false := fun j => (s4.frozen (p := ⟨w.heap.size + 1, j, none⟩) (show w.heap.size + 1 < _ from World.block_lt_of_cell? _ ⟨w.heap.size + 1, 0, none⟩ k1_4)).trans (f1_3 j); clear f1_3
          have f2_4 : ∀ j, w4.frozen? ⟨w.heap.size + 1 + 1, j, none⟩ = false := fun j => (s4.frozen (p := ⟨w.heap.size + 1 + 1, j, none⟩) (show w.heap.size + 1 + 1 < _ from World.block_lt_of_cell? _ ⟨w.heap.size + 1 + 1, 0, none⟩ k2_4)).trans (f2_3 j); clear f2_3
          clear r4
          have rd3 := Rd.of_own (own_later N3.out s4)
          have RD3 := Lib.hid rd3; clear rd3
          go_wp2_with fail
          refine (HMAX.out _ _ RD3.out).mono ?_
          rintro _ _ ⟨rfl, rfl⟩
          go_wp2
          refine bodyPost_ret (v := .tuple #[.agg #[.string ⟨#[]⟩, .slice none 0 0], .int .i64 5]) (by simp [results, Tryz.results44, go_sem, c2_0_4, c2_1_4]) rfl ?_
          exact RetP2.nil (Below.setCell (Below.setCell b4 (show w.heap.size ≤ w.heap.size + 1 + 1 by omega) _) (show w.heap.size ≤ w.heap.size + 1 + 1 by omega) _)
        · have t0 : cutAsk nm ps zs cs = 0 := by simp [cutAsk, t1, t2, t3, t4]
          have he : applyI nm ps zs cs = doneR nm (mapK (turnT zs (sumsOf cs)) ps ps.length) := by simp [applyI, t0]
          rw [he]
          have t5 : maxI (sumsOf cs) ≤ 20 := of_decide_eq_true hmle
          have hpz : profB nm ps = true ∧ zonesB zs ((ps.length : Int) - 1) = true := by simpa only [vzB, Bool.and_eq_true] using t1
          obtain ⟨hl1, hl2, hal, hht⟩ := profB_t hpz.1
          obtain ⟨hz1, hz8⟩ := zones_len hpz.2
          have hturn := fun w' x (hb : Below w.heap.size w w') (hx : Rd w' x (sumsOf cs).length (ints (sumsOf cs))) => turned_c nm sv ps v zs x (sumsOf cs) w' (hr.later hb) (h.later hb) hx hl1 hl2 hal hpz.2 (by rw [sumsOf_len]; exact hz8) (sums_bd t2) (zs_zero hpz.2) (fun a m h1 h2 h3 => zoneI_at hpz.2 h1 h2 h3)
          have hdone := fun base w' x (ho : OwnR base w' x (mapK (turnT zs (sumsOf cs)) ps ps.length)) => orState_c base nm x _ w' hnm ho
          generalize doneR nm (mapK (turnT zs (sumsOf cs)) ps ps.length) = RES at *
          generalize mapK (turnT zs (sumsOf cs)) ps ps.length = qs at *
          have HVZ := Lib.hid hvz; clear hvz
          have HCU := Lib.hid hcu; clear hcu
          have HSUM := Lib.hid hsum; clear hsum
          have HOV := Lib.hid hov'; clear hov'
          have HMAX := Lib.hid hmax; clear hmax
          have HTURN := Lib.hid hturn; clear hturn
          have HDONE := Lib.hid hdone; clear hdone
          clear he hr h h2 hmle t0 t1 t2 t3 t4 hpz hal hht
          generalize maxI (sumsOf cs) = mx at *
          generalize sumsOf cs = sums at *
          obtain ⟨aoq, nq, capq, rfl⟩ := hv
          go_enter Tryz.func44, Tryz.ntmps44
          have b0 : Below w.heap.size w w := Below.refl _ _
          have z0 : w.heap.size ≤ w.heap.size := Nat.le_refl _
          go_wp2_with fail
          refine (HVZ.out _ (by go_grown)).mono ?_
          rintro _ w1 ⟨rfl, r1⟩
          have s1 : Below w.heap.size w w1 := Below.trans (by go_grown) (r1.mono (by simp; try omega))
          have b1 := b0.trans (s1.mono z0)
          have z1 := b1.size
          have y1 := s1.size
          have v1 : w.heap.size + 3 ≤ w1.heap.size := by have := r1.size; simp only [World.size_alloc] at this; omega
          have c0_0_1 := below_cell r1 (p := ⟨w.heap.size, 0, none⟩) (v := .string nm) (by simp [go_sem])
          have c0_1_1 := below_cell r1 (p := ⟨w.heap.size, 1, none⟩) (v := sv) (by simp [go_sem])
          have c1_0_1 := below_cell r1 (p := ⟨w.heap.size + 1, 0, none⟩) (v := .slice aoq nq capq) (by simp [go_sem])
          have c2_0_1 := below_cell r1 (p := ⟨w.heap.size + 1 + 1, 0, none⟩) (v := .string ⟨#[]⟩) (by simp [go_sem])
          have c2_1_1 := below_cell r1 (p := ⟨w.heap.size + 1 + 1, 1, none⟩) (v := .slice none 0 0) (by simp [go_sem])
          have f0_1 : ∀ j, w1.frozen? ⟨w.heap.size, j, none⟩ = false := fun j => (r1.frozen (p := ⟨w.heap.size, j, none⟩) (by simp [go_sem])).trans (by simp [go_sem])
          have f1_1 : ∀ j, w1.frozen? ⟨w.heap.size + 1, j, none⟩ = false := fun j => (r1.frozen (p := ⟨w.heap.size + 1, j, none⟩) (by simp [go_sem])).trans (by simp [go_sem])
          have f2_1 : ∀ j, w1.frozen? ⟨w.heap.size + 1 + 1, j, none⟩ = false := fun j => (r1.frozen (p := ⟨w.heap.size + 1 + 1, j, none⟩) (by simp [go_sem])).trans (by simp [go_sem])
          clear r1
          go_wp2_with fail
          refine (HCU.out _ b1).mono ?_
          rintro _ w2 ⟨rfl, r2⟩
          have s2 := r2
          have b2 := b1.trans (s2.mono z1)
          have z2 := b2.size
          have y2 := s2.size
          have k0_2 := c0_0_1
          have c0_0_2 := below_cell s2 c0_0_1; clear c0_0_1
          have c0_1_2 := below_cell s2 c0_1_1; clear c0_1_1
          have k1_2 := c1_0_1
          have c1_0_2 := below_cell s2 c1_0_1; clear c1_0_1
          have k2_2 := c2_0_1
          have c2_0_2 := below_cell s2 c2_0_1; clear c2_0_1
          have c2_1_2 := below_cell s2 c2_1_1; clear c2_1_1
          have f0_2 : ∀ j, w2.frozen? ⟨w.heap.size, j, none⟩ = false := fun j => (s2.frozen (p := ⟨w.heap.size, j, none⟩) (show w.heap.size < _ from World.block_lt_of_cell? _ ⟨w.heap.size, 0, none⟩ k0_2)).trans (f0_1 j); clear f0_1
          have f1_2 : ∀ j, w2.frozen? ⟨w.heap.size + 1, j, none⟩ = false := fun j => (s2.frozen (p := ⟨w.heap.size + 1, j, none⟩) (show w.heap.size + 1 < _ from World.block_lt_of_cell? _ ⟨w.heap.size + 1, 0, none⟩ k1_2)).trans (f1_1 j); clear f1_1
          have f2_2 : ∀ j, w2.frozen? ⟨w.heap.size + 1 + 1, j, none⟩ = false := fun j => (s2.frozen (p := ⟨w.heap.size + 1 + 1, j, none⟩) (show w.heap.size + 1 + 1 < _ from World.block_lt_of_cell? _ ⟨w.heap.size + 1 + 1, 0, none⟩ k2_2)).trans (f2_1 j); clear f2_1
          clear r2
          go_wp2_with fail
          refine (HSUM.out _ b2).mono ?_
          rintro _ w3 ⟨x3, rfl, n3, r3⟩
          have s3 := r3
          have b3 := b2.trans (s3.mono z2)
          have z3 := b3.size
          have y3 := s3.size
          have k0_3 := c0_0_2
          have c0_0_3 := below_cell s3 c0_0_2; clear c0_0_2
          have c0_1_3 := below_cell s3 c0_1_2; clear c0_1_2
          have k1_3 := c1_0_2
          have c1_0_3 := below_cell s3 c1_0_2; clear c1_0_2
          have k2_3 := c2_0_2
          have c2_0_3 := below_cell s3 c2_0_2; clear c2_0_2
          have c2_1_3 := below_cell s3 c2_1_2; clear c2_1_2
          have f0_3 : ∀ j, w3.frozen? ⟨w.heap.size, j, none⟩ = false := fun j => (s3.frozen (p := ⟨w.heap.size, j, none⟩) (show w.heap.size < _ from World.block_lt_of_cell? _ ⟨w.heap.size, 0, none⟩ k0_3)).trans (f0_2 j); clear f0_2
          have f1_3 : ∀ j, w3.frozen? ⟨w.heap.size + 1, j, none⟩ = false := fun j => (s3.frozen (p := ⟨w.heap.size + 1, j, none⟩) (show w.heap.size + 1 < _ from World.block_lt_of_cell? _ ⟨w.heap.size + 1, 0, none⟩ k1_3)).trans (f1_2 j); clear f1_2
          have f2_3 : ∀ j, w3.frozen? ⟨w.heap.size + 1 + 1, j, none⟩ = false := fun j => (s3.frozen (p := ⟨w.heap.size + 1 + 1, j, none⟩) (show w.heap.size + 1 + 1 < _ from World.block_lt_of_cell? _ ⟨w.heap.size + 1 + 1, 0, none⟩ k2_3)).trans (f2_2 j); clear f2_2
          clear r3
          have N3 := Lib.hid n3; clear n3
          go_wp2_with fail
          refine (HOV.out _ _ b3 c1_0_3).mono ?_
          rintro _ w4 ⟨rfl, r4⟩
          have s4 := r4
          have b4 := b3.trans (s4.mono z3)
          have z4 := b4.size
          have y4 := s4.size
          have k0_4 := c0_0_3
          have c0_0_4 := below_cell s4 c0_0_3; clear c0_0_3
          have c0_1_4 := below_cell s4 c0_1_3; clear c0_1_3
          have k1_4 := c1_0_3
          have c1_0_4 := below_cell s4 c1_0_3; clear c1_0_3
          have k2_4 := c2_0_3
          have c2_0_4 := below_cell s4 c2_0_3; clear c2_0_3
          have c2_1_4 := below_cell s4 c2_1_3; clear c2_1_3
          have f0_4 : ∀ j, w4.frozen? ⟨w.heap.size, j, none⟩ = false := fun j => (s4.frozen (p := ⟨w.heap.size, j, none⟩) (show w.heap.size < _ from World.block_lt_of_cell? _ ⟨w.heap.size, 0, none⟩ k0_4)).trans (f0_3 j); clear f0_3
          have f1_4 : ∀ j, w4.frozen? ⟨w.heap.size + 1, j, none⟩ = false := fun j => (s4.frozen (p := ⟨w.heap.size + 1, j, none⟩) (show w.heap.size + 1 < _ from World.block_lt_of_cell? _ ⟨w.heap.size + 1, 0, none⟩ k1_4)).trans (f1_3 j); clear f1_3
          have f2_4 : ∀ j, w4.frozen? ⟨w.heap.size + 1 + 1, j, none⟩ = false := fun j => (s4.frozen (p := ⟨w.heap.size + 1 + 1, j, none⟩) (show w.heap.size + 1 + 1 < _ from World.block_lt_of_cell? _ ⟨w.heap.size + 1 + 1, 0, none⟩ k2_4)).trans (f2_3 j); clear f2_3
          clear r4
          have rd3 := Rd.of_own (own_later N3.out s4)
          have RD3 := Lib.hid rd3; clear rd3
          go_wp2_with fail
          refine (HMAX.out _ _ RD3.out).mono ?_
          rintro _ _ ⟨rfl, rfl⟩
          go_wp2_with fail
          refine (HTURN.out _ _ b4 RD3.out).mono ?_
          rintro _ w5 ⟨x5, rfl, n5, r5⟩
          have s5 := r5
          have b5 := b4.trans (s5.mono z4)
          have z5 := b5.size
          have y5 := s5.size
          have k0_5 := c0_0_4
          have c0_0_5 := below_cell s5 c0_0_4; clear c0_0_4
          have c0_1_5 := below_cell s5 c0_1_4; clear c0_1_4
          have k1_5 := c1_0_4
          have c1_0_5 := below_cell s5 c1_0_4; clear c1_0_4
          have k2_5 := c2_0_4
          have c2_0_5 := below_cell s5 c2_0_4; clear c2_0_4
          have c2_1_5 := below_cell s5 c2_1_4; clear c2_1_4
          have f0_5 : ∀ j, w5.frozen? ⟨w.heap.size, j, none⟩ = false := fun j => (s5.frozen (p := ⟨w.heap.size, j, none⟩) (show w.heap.size < _ from World.block_lt_of_cell? _ ⟨w.heap.size, 0, none⟩ k0_5)).trans (f0_4 j); clear f0_4
          have f1_5 : ∀ j, w5.frozen? ⟨w.heap.size + 1, j, none⟩ = false := fun j => (s5.frozen (p := ⟨w.heap.size + 1, j, none⟩) (show w.heap.size + 1 < _ from World.block_lt_of_cell? _ ⟨w.heap.size + 1, 0, none⟩ k1_5)).trans (f1_4 j); clear f1_4
          have f2_5 : ∀ j, w5.frozen? ⟨w.heap.size + 1 + 1, j, none⟩ = false := fun j => (s5.frozen (p := ⟨w.heap.size + 1 + 1, j, none⟩) (show w.heap.size + 1 + 1 < _ from World.block_lt_of_cell? _ ⟨w.heap.size + 1 + 1, 0, none⟩ k2_5)).trans (f2_4 j); clear f2_4
          clear r5
          have N5 := Lib.hid n5; clear n5
          go_wp2_with fail
          refine (HDONE.out _ _ _ N5.out).mono ?_
          rintro _ w6 ⟨x6, rfl, n6, r6⟩
          have s6 := r6
          have b6 := b5.trans (s6.mono z5)
          have z6 := b6.size
          have y6 := s6.size
          have k0_6 := c0_0_5
          have c0_0_6 := below_cell s6 c0_0_5; clear c0_0_5
          have c0_1_6 := below_cell s6 c0_1_5; clear c0_1_5
          have k1_6 := c1_0_5
          have c1_0_6 := below_cell s6 c1_0_5; clear c1_0_5
          have k2_6 := c2_0_5
          have c2_0_6 := below_cell s6 c2_0_5; clear c2_0_5
          have c2_1_6 := below_cell s6 c2_1_5; clear c2_1_5
          have f0_6 : ∀ j, w6.frozen? ⟨w.heap.size, j, none⟩ = false := fun j => (s6.frozen (p := ⟨w.heap.size, j, none⟩) (show w.heap.size < _ from World.block_lt_of_cell? _ ⟨w.heap.size, 0, none⟩ k0_6)).trans (f0_5 j); clear f0_5
          have f1_6 : ∀ j, w6.frozen? ⟨w.heap.size + 1, j, none⟩ = false := fun j => (s6.frozen (p := ⟨w.heap.size + 1, j, none⟩) (show w.heap.size + 1 < _ from World.block_lt_of_cell? _ ⟨w.heap.size + 1, 0, none⟩ k1_6)).trans (f1_5 j); clear f1_5
          have f2_6 : ∀ j, w6.frozen? ⟨w.heap.size + 1 + 1, j, none⟩ = false := fun j => (s6.frozen (p := ⟨w.heap.size + 1 + 1, j, none⟩) (show w.heap.size + 1 + 1 < _ from World.block_lt_of_cell? _ ⟨w.heap.size + 1 + 1, 0, none⟩ k2_6)).trans (f2_5 j); clear f2_5
          clear r6
          obtain ⟨a4, p4, rfl⟩ := own_shape n6
          have lo4 := own_lo n6
          go_wp2
          refine bodyPost_ret (v := .tuple #[.agg #[.string RES.1, .slice a4 RES.2.1.length p4], .int .i64 RES.2.2]) (by simp [results, Tryz.results44, go_sem, *]) rfl ?_
          have o11 := own_set n6 (a := ⟨w.heap.size + 1 + 1, 0, none⟩) (fun k hk => by have := lo4 k hk; simp; omega) (.string RES.1)
          have o12 := own_set o11 (a := ⟨w.heap.size + 1 + 1, 1, none⟩) (fun k hk => by have := lo4 k hk; simp; omega) (.slice a4 RES.2.1.length p4)
          exact ⟨_, rfl, own_base o12 (by omega), (b6.setCell (show w.heap.size ≤ w.heap.size + 1 + 1 by omega) _).setCell (show w.heap.size ≤ w.heap.size + 1 + 1 by omega) _⟩
      · have he : applyI nm ps zs cs = (⟨#[]⟩, [], 2) := by simp [applyI, cutAsk, t1, t2, t3]
        rw [he]
        have HVZ := Lib.hid hvz; clear hvz
        have HCU := Lib.hid hcu; clear hcu
        have HSUM := Lib.hid hsum; clear hsum
        have HOV := Lib.hid hov'; clear hov'
        clear he hr h h2 t1 t2 t3
        obtain ⟨aoq, nq, capq, rfl⟩ := hv
        go_enter Tryz.func44, Tryz.ntmps44
        have b0 : Below w.heap.size w w := Below.refl _ _
        have z0 : w.heap.size ≤ w.heap.size := Nat.le_refl _
        go_wp2_with fail
        refine (HVZ.out _ (by go_grown)).mono ?_
        rintro _ w1 ⟨rfl, r1⟩
        have s1 : Below w.heap.size w w1 := Below.trans (by go_grown) (r1.mono (by simp; try omega))
        have b1 := b0.trans (s1.mono z0)
        have z1 := b1.size
        have y1 := s1.size
        have v1 : w.heap.size + 3 ≤ w1.heap.size := by have := r1.size; simp only [World.size_alloc] at this; omega
        have c0_0_1 := below_cell r1 (p := ⟨w.heap.size, 0, none⟩) (v := .string nm) (by simp [go_sem])
        have c0_1_1 := below_cell r1 (p := ⟨w.heap.size, 1, none⟩) (v := sv) (by simp [go_sem])
        have c1_0_1 := below_cell r1 (p := ⟨w.heap.size + 1, 0, none⟩) (v := .slice aoq nq capq) (by simp [go_sem])
        have c2_0_1 := below_cell r1 (p := ⟨w.heap.size + 1 + 1, 0, none⟩) (v := .string ⟨#[]⟩) (by simp [go_sem])
        have c2_1_1 := below_cell r1 (p := ⟨w.heap.size + 1 + 1, 1, none⟩) (v := .slice none 0 0) (by simp [go_sem])
        have f0_1 : ∀ j, w1.frozen? ⟨w.heap.size, j, none⟩ = false := fun j => (r1.frozen (p := ⟨w.heap.size, j, none⟩) (by simp [go_sem])).trans (by simp [go_sem])
        have f1_1 : ∀ j, w1.frozen? ⟨w.heap.size + 1, j, none⟩ = false := fun j => (r1.frozen (p := ⟨w.heap.size + 1, j, none⟩) (by simp [go_sem])).trans (by simp [go_sem])
        have f2_1 : ∀ j, w1.frozen? ⟨w.heap.size + 1 + 1, j, none⟩ = false := fun j => (r1.frozen (p := ⟨w.heap.size + 1 + 1, j, none⟩) (by simp [go_sem])).trans (by simp [go_sem])
        clear r1
        go_wp2_with fail
        refine (HCU.out _ b1).mono ?_
        rintro _ w2 ⟨rfl, r2⟩
        have s2 := r2
        have b2 := b1.trans (s2.mono z1)
        have z2 := b2.size
        have y2 := s2.size
        have k0_2 := c0_0_1
        have c0_0_2 := below_cell s2 c0_0_1; clear c0_0_1
        have c0_1_2 := below_cell s2 c0_1_1; clear c0_1_1
        have k1_2 := c1_0_1
        have c1_0_2 := below_cell s2 c1_0_1; clear c1_0_1
        have k2_2 := c2_0_1
        have c2_0_2 := below_cell s2 c2_0_1; clear c2_0_1
        have c2_1_2 := below_cell s2 c2_1_1; clear c2_1_1
        have f0_2 : ∀ j, w2.frozen? ⟨w.heap.size, j, none⟩ = false := fun j => (s2.frozen (p := ⟨w.heap.size, j, none⟩) (show w.heap.size < _ from World.block_lt_of_cell? _ ⟨w.heap.size, 0, none⟩ k0_2)).trans (f0_1 j); clear f0_1
        have f1_2 : ∀ j, w2.frozen? ⟨w.heap.size + 1, j, none⟩ = false := fun j => (s2.frozen (p := ⟨w.heap.size + 1, j, none⟩) (show w.heap.size + 1 < _ from World.block_lt_of_cell? _ ⟨w.heap.size + 1, 0, none⟩ k1_2)).trans (f1_1 j); clear f1_1
        have f2_2 : ∀ j, w2.frozen? ⟨w.heap.size + 1 + 1, j, none⟩ = false := fun j => (s2.frozen (p := ⟨w.heap.size + 1 + 1, j, none⟩) (show w.heap.size + 1 + 1 < _ from World.block_lt_of_cell? _ ⟨w.heap.size + 1 + 1, 0, none⟩ k2_2)).trans (f2_1 j); clear f2_1
        clear r2
        go_wp2_with fail
        refine (HSUM.out _ b2).mono ?_
        rintro _ w3 ⟨x3, rfl, n3, r3⟩
        have s3 := r3
        have b3 := b2.trans (s3.mono z2)
        have z3 := b3.size
        have y3 := s3.size
        have k0_3 := c0_0_2
        have c0_0_3 := below_cell s3 c0_0_2; clear c0_0_2
        have c0_1_3 := below_cell s3 c0_1_2; clear c0_1_2
        have k1_3 := c1_0_2
        have c1_0_3 := below_cell s3 c1_0_2; clear c1_0_2
        have k2_3 := c2_0_2
        have c2_0_3 := below_cell s3 c2_0_2; clear c2_0_2
        have c2_1_3 := below_cell s3 c2_1_2; clear c2_1_2
        have f0_3 : ∀ j, w3.frozen? ⟨w.heap.size, j, none⟩ = false := fun j => (s3.frozen (p := ⟨w.heap.size, j, none⟩) (show w.heap.size < _ from World.block_lt_of_cell? _ ⟨w.heap.size, 0, none⟩ k0_3)).trans (f0_2 j); clear f0_2
        have f1_3 : ∀ j, w3.frozen? ⟨w.heap.size + 1, j, none⟩ = false := fun j => (s3.frozen (p := ⟨w.heap.size + 1, j, none⟩) (show w.heap.size + 1 < _ from World.block_lt_of_cell? _ ⟨w.heap.size + 1, 0, none⟩ k1_3)).trans (f1_2 j); clear f1_2
        have f2_3 : ∀ j, w3.frozen? ⟨w.heap.size + 1 + 1, j, none⟩ = false := fun j => (s3.frozen (p := ⟨w.heap.size + 1 + 1, j, none⟩) (show w.heap.size + 1 + 1 < _ from World.block_lt_of_cell? _ ⟨w.heap.size + 1 + 1, 0, none⟩ k2_3)).trans (f2_2 j); clear f2_2
        clear r3
        clear n3
        go_wp2_with fail
        refine (HOV.out _ _ b3 c1_0_3).mono ?_
        rintro _ w4 ⟨rfl, r4⟩
        have s4 := r4
        have b4 := b3.trans (s4.mono z3)
        have z4 := b4.size
        have y4 := s4.size
        have k0_4 := c0_0_3
        have c0_0_4 := below_cell s4 c0_0_3; clear c0_0_3
        have c0_1_4 := below_cell s4 c0_1_3; clear c0_1_3
        have k1_4 := c1_0_3
        have c1_0_4 := below_cell s4 c1_0_3; clear c1_0_3
        have k2_4 := c2_0_3
        have c2_0_4 := below_cell s4 c2_0_3; clear c2_0_3
        have c2_1_4 := below_cell s4 c2_1_3; clear c2_1_3
        have f0_4 : ∀ j, w4.frozen? ⟨w.heap.size, j, none⟩ = false := fun j => (s4.frozen (p := ⟨w.heap.size, j, none⟩) (show w.heap.size < _ from World.block_lt_of_cell? _ ⟨w.heap.size, 0, none⟩ k0_4)).trans (f0_3 j); clear f0_3
        have f1_4 : ∀ j, w4.frozen? ⟨w.heap.size + 1, j, none⟩ = false := fun j => (s4.frozen (p := ⟨w.heap.size + 1, j, none⟩) (show w.heap.size + 1 < _ from World.block_lt_of_cell? _ ⟨w.heap.size + 1, 0, none⟩ k1_4)).trans (f1_3 j); clear f1_3
        have f2_4 : ∀ j, w4.frozen? ⟨w.heap.size + 1 + 1, j, none⟩ = false := fun j => (s4.frozen (p := ⟨w.heap.size + 1 + 1, j, none⟩) (show w.heap.size + 1 + 1 < _ from World.block_lt_of_cell? _ ⟨w.heap.size + 1 + 1, 0, none⟩ k2_4)).trans (f2_3 j); clear f2_3
        clear r4
        go_wp2
        refine bodyPost_ret (v := .tuple #[.agg #[.string ⟨#[]⟩, .slice none 0 0], .int .i64 2]) (by simp [results, Tryz.results44, go_sem, c2_0_4, c2_1_4]) rfl ?_
        exact RetP2.nil (Below.setCell (Below.setCell b4 (show w.heap.size ≤ w.heap.size + 1 + 1 by omega) _) (show w.heap.size ≤ w.heap.size + 1 + 1 by omega) _)

end Go.Proofs.YtmeeibcbhjifbaaGreat
