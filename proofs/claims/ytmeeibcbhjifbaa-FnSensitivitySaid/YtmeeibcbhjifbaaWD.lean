/- Several texts of the proofs in one: Apply2, Chips, Sens, Chips2, Room, LatheL, SensL, Sens2, Sens3. -/
import Derived.Test.YtmeeibcbhjifbaaApply
import Derived.Test.YtmeeibcbhjifbaaCentL
import Derived.Test.YtmeeibcbhjifbaaDens
import Derived.Test.YtmeeibcbhjifbaaFitL
import Derived.Test.YtmeeibcbhjifbaaGC
import Derived.Test.YtmeeibcbhjifbaaGF
import Derived.Test.YtmeeibcbhjifbaaGG
import Derived.Test.YtmeeibcbhjifbaaGoals
import Derived.Test.YtmeeibcbhjifbaaMom
import Derived.Test.YtmeeibcbhjifbaaRgL
import Derived.Test.YtmeeibcbhjifbaaVA
import Derived.Test.YtmeeibcbhjifbaaVD
import Derived.Deep.RegionHeld3
/- Cuts made: the program. -/
namespace Go.Proofs.Ytmeeibcbhjifbaa
set_option linter.unusedVariables false
open Go.RowKit Go.Proofs.Bell Go.BigFrame

set_option maxHeartbeats 800000 in
theorem ApplyCuts1_c (c : Int × Int) (v : Value) (zs : List Int) (a : Nat) (w : World) (hc : w.cell? ⟨a, 0, none⟩ = some v) (h : Rd w v zs.length (ints zs)) :
    Calls Try.prog 129 #[.agg #[.int .i64 c.1, .int .i64 c.2], .pointer (some ⟨a, 0, none⟩)] w (RetB (.bool (decide ((zs.length : Int) ≤ c.1))) w) := by
  have ha := World.block_lt_of_cell? w _ hc
  simp only at ha
  have hs := fun w' (hb : Below w.heap.size w w') => size64_c v zs.length (ints zs) w' (h.later hb)
  obtain ⟨hnq, aoq, capq, bq, offq, rfl, haoq, hcellq⟩ := h.open
  clear hcellq haoq h
  obtain ⟨c0, c1⟩ := c
  generalize zs.length = n at *
  have ac := fun o => alloc_cell o hc
  have HS := Lib.hid hs; clear hs
  go_enter Try.func129, Try.ntmps129
  go_wp2_with fail
  go_quiet ((go_at_call 75; exact quietS (HS.out _ (below_drewN (by go_grown) _))))
  go_wp2
  go_returns
  exact RetB.mk (bool_eq (by simp)) (below_drewN (by go_grown) _)

set_option maxRecDepth 100000 in
set_option maxHeartbeats 1600000 in
theorem implApplyCuts_c (nm : ByteArray) (sv : Value) (ps : List (Int × Int × Int)) (v : Value) (zs : List Int) (u : Value) (cs : List (Int × Int)) (w : World) (hnm : nm.size ≤ maxLen) (hr : Rd w sv ps.length (trips ps)) (h : Rd w v zs.length (ints zs)) (h2 : Rd w u cs.length (pairs cs)) :
    Calls Try.prog 74 #[.agg #[.string nm, sv], v, u] w (RetP2 (applyI nm ps zs cs).1 (applyI nm ps zs cs).2.1 (.int .i64 (applyI nm ps zs cs).2.2) w) := by
  have hv : ∃ ao n cap, v = .slice ao n cap := by obtain ⟨hnq, aoq, capq, bq, offq, hv, haoq, hcellq⟩ := h.open; exact ⟨_, _, _, hv⟩
  have hvz := fun w' (hb : Below w.heap.size w w') => ValidZones_c nm sv ps v zs w' hnm (hr.later hb) (h.later hb)
  have hcu := fun w' (hb : Below w.heap.size w w') => ValidCuts_c u cs w' (h2.later hb)
  cases t1 : vzB nm ps zs <;> rw [t1] at hvz
  · have he : applyI nm ps zs cs = (⟨#[]⟩, [], 1) := by simp [applyI, cutAsk, t1]
    rw [he]
    have HVZ := Lib.hid hvz; clear hvz
    clear he hr h h2 hcu
    obtain ⟨aoq, nq, capq, rfl⟩ := hv
    go_enter Try.func74, Try.ntmps74
    have b0 : Below w.heap.size w w := Below.refl _ _
    have z0 : w.heap.size ≤ w.heap.size := Nat.le_refl _
    go_wp2_with fail
    refine (HVZ.out _ (by go_grown)).mono ?_
    rintro _ w1 ⟨rfl, r1⟩
    have s1 : Below w.heap.size w w1 := Below.trans (by go_grown) (r1.mono (by simp; try omega))
    have b1 := b0.trans (s1.mono z0)
    have z1 := b1.size
    have y1 := s1.size
    have v1 : w.heap.size + 3 ≤ w1.heap.size := by have := r1.size; simp only [World.size_alloc] at this; omega
    have c0_0_1 := below_cell r1 (p := ⟨w.heap.size, 0, none⟩) (v := .string nm) (by simp [go_sem])
    have c0_1_1 := below_cell r1 (p := ⟨w.heap.size, 1, none⟩) (v := sv) (by simp [go_sem])
    have c1_0_1 := below_cell r1 (p := ⟨w.heap.size + 1, 0, none⟩) (v := .slice aoq nq capq) (by simp [go_sem])
    have c2_0_1 := below_cell r1 (p := ⟨w.heap.size + 1 + 1, 0, none⟩) (v := .string ⟨#[]⟩) (by simp [go_sem])
    have c2_1_1 := below_cell r1 (p := ⟨w.heap.size + 1 + 1, 1, none⟩) (v := .slice none 0 0) (by simp [go_sem])
    have f0_1 : ∀ j, w1.frozen? ⟨w.heap.size, j, none⟩ = false := fun j => (r1.frozen (p := ⟨w.heap.size, j, none⟩) (by simp [go_sem])).trans (by simp [go_sem])
    have f1_1 : ∀ j, w1.frozen? ⟨w.heap.size + 1, j, none⟩ = false := fun j => (r1.frozen (p := ⟨w.heap.size + 1, j, none⟩) (by simp [go_sem])).trans (by simp [go_sem])
    have f2_1 : ∀ j, w1.frozen? ⟨w.heap.size + 1 + 1, j, none⟩ = false := fun j => (r1.frozen (p := ⟨w.heap.size + 1 + 1, j, none⟩) (by simp [go_sem])).trans (by simp [go_sem])
    clear r1
    go_wp2
    refine bodyPost_ret (v := .tuple #[.agg #[.string ⟨#[]⟩, .slice none 0 0], .int .i64 1]) (by simp [results, Try.results74, go_sem, c2_0_1, c2_1_1]) rfl ?_
    exact RetP2.nil (Below.setCell (Below.setCell b1 (show w.heap.size ≤ w.heap.size + 1 + 1 by omega) _) (show w.heap.size ≤ w.heap.size + 1 + 1 by omega) _)
  · cases t2 : cutsB cs <;> rw [t2] at hcu
    · have he : applyI nm ps zs cs = (⟨#[]⟩, [], 1) := by simp [applyI, cutAsk, t1, t2]
      rw [he]
      have HVZ := Lib.hid hvz; clear hvz
      have HCU := Lib.hid hcu; clear hcu
      clear he hr h h2
      obtain ⟨aoq, nq, capq, rfl⟩ := hv
      go_enter Try.func74, Try.ntmps74
      have b0 : Below w.heap.size w w := Below.refl _ _
      have z0 : w.heap.size ≤ w.heap.size := Nat.le_refl _
      go_wp2_with fail
      refine (HVZ.out _ (by go_grown)).mono ?_
      rintro _ w1 ⟨rfl, r1⟩
      have s1 : Below w.heap.size w w1 := Below.trans (by go_grown) (r1.mono (by simp; try omega))
      have b1 := b0.trans (s1.mono z0)
      have z1 := b1.size
      have y1 := s1.size
      have v1 : w.heap.size + 3 ≤ w1.heap.size := by have := r1.size; simp only [World.size_alloc] at this; omega
      have c0_0_1 := below_cell r1 (p := ⟨w.heap.size, 0, none⟩) (v := .string nm) (by simp [go_sem])
      have c0_1_1 := below_cell r1 (p := ⟨w.heap.size, 1, none⟩) (v := sv) (by simp [go_sem])
      have c1_0_1 := below_cell r1 (p := ⟨w.heap.size + 1, 0, none⟩) (v := .slice aoq nq capq) (by simp [go_sem])
      have c2_0_1 := below_cell r1 (p := ⟨w.heap.size + 1 + 1, 0, none⟩) (v := .string ⟨#[]⟩) (by simp [go_sem])
      have c2_1_1 := below_cell r1 (p := ⟨w.heap.size + 1 + 1, 1, none⟩) (v := .slice none 0 0) (by simp [go_sem])
      have f0_1 : ∀ j, w1.frozen? ⟨w.heap.size, j, none⟩ = false := fun j => (r1.frozen (p := ⟨w.heap.size, j, none⟩) (by simp [go_sem])).trans (by simp [go_sem])
      have f1_1 : ∀ j, w1.frozen? ⟨w.heap.size + 1, j, none⟩ = false := fun j => (r1.frozen (p := ⟨w.heap.size + 1, j, none⟩) (by simp [go_sem])).trans (by simp [go_sem])
      have f2_1 : ∀ j, w1.frozen? ⟨w.heap.size + 1 + 1, j, none⟩ = false := fun j => (r1.frozen (p := ⟨w.heap.size + 1 + 1, j, none⟩) (by simp [go_sem])).trans (by simp [go_sem])
      clear r1
      go_wp2_with fail
      refine (HCU.out _ b1).mono ?_
      rintro _ w2 ⟨rfl, r2⟩
      have s2 := r2
      have b2 := b1.trans (s2.mono z1)
      have z2 := b2.size
      have y2 := s2.size
      have k0_2 := c0_0_1
      have c0_0_2 := below_cell s2 c0_0_1; clear c0_0_1
      have c0_1_2 := below_cell s2 c0_1_1; clear c0_1_1
      have k1_2 := c1_0_1
      have c1_0_2 := below_cell s2 c1_0_1; clear c1_0_1
      have k2_2 := c2_0_1
      have c2_0_2 := below_cell s2 c2_0_1; clear c2_0_1
      have c2_1_2 := below_cell s2 c2_1_1; clear c2_1_1
      have f0_2 : ∀ j, w2.frozen? ⟨w.heap.size, j, none⟩ = false := fun j => (s2.frozen (p := ⟨w.heap.size, j, none⟩) (show w.heap.size < _ from World.block_lt_of_cell? _ ⟨w.heap.size, 0, none⟩ k0_2)).trans (f0_1 j); clear f0_1
      have f1_2 : ∀ j, w2.frozen? ⟨w.heap.size + 1, j, none⟩ = false := fun j => (s2.frozen (p := ⟨w.heap.size + 1, j, none⟩) (show w.heap.size + 1 < _ from World.block_lt_of_cell? _ ⟨w.heap.size + 1, 0, none⟩ k1_2)).trans (f1_1 j); clear f1_1
      have f2_2 : ∀ j, w2.frozen? ⟨w.heap.size + 1 + 1, j, none⟩ = false := fun j => (s2.frozen (p := ⟨w.heap.size + 1 + 1, j, none⟩) (show w.heap.size + 1 + 1 < _ from World.block_lt_of_cell? _ ⟨w.heap.size + 1 + 1, 0, none⟩ k2_2)).trans (f2_1 j); clear f2_1
      clear r2
      go_wp2
      refine bodyPost_ret (v := .tuple #[.agg #[.string ⟨#[]⟩, .slice none 0 0], .int .i64 1]) (by simp [results, Try.results74, go_sem, c2_0_2, c2_1_2]) rfl ?_
      exact RetP2.nil (Below.setCell (Below.setCell b2 (show w.heap.size ≤ w.heap.size + 1 + 1 by omega) _) (show w.heap.size ≤ w.heap.size + 1 + 1 by omega) _)
    · have hsum := fun w' (hb : Below w.heap.size w w') => stepsOf_c u cs w' (h2.later hb) t2
      have hov := fun w' a (hb : Below w.heap.size w w') (hc : w'.cell? ⟨a, 0, none⟩ = some v) => ContainsFuncCut_c 129 #[.pointer (some ⟨a, 0, none⟩)] (fun c => decide ((zs.length : Int) ≤ c.1)) u cs w' (h2.later hb) (enters Try.func129 (by kernel_rfl) rfl) (fun x _ w'' hb'' => ApplyCuts1_c x v zs a w'' (below_cell hb'' hc) ((h.later hb).later hb''))
      have hov' : ∀ w' a (hb : Below w.heap.size w w') (hc : w'.cell? ⟨a, 0, none⟩ = some v), Calls Try.prog 128 #[u, .func (.func 129) #[] #[.pointer (some ⟨a, 0, none⟩)]] w' (RetB (.bool (overB zs cs)) w') := hov
      clear hov
      cases t3 : overB zs cs <;> rw [t3] at hov'
      · have hmax := fun w' x (hx : Rd w' x (sumsOf cs).length (ints (sumsOf cs))) => Max_c x (sumsOf cs) w' hx (by rw [sumsOf_len]; decide)
        have hmle := maxI_le (zs := sumsOf cs) (c := 20) (by rw [sumsOf_len]; decide)
        cases t4 : (sumsOf cs).all (fun z => decide (z ≤ 20)) <;> rw [t4] at hmle
        · have he : applyI nm ps zs cs = (⟨#[]⟩, [], 5) := by simp [applyI, cutAsk, t1, t2, t3, t4]
          rw [he]
          have t5 : 20 < maxI (sumsOf cs) := by have := of_decide_eq_false hmle; omega
          have HVZ := Lib.hid hvz; clear hvz
          have HCU := Lib.hid hcu; clear hcu
          have HSUM := Lib.hid hsum; clear hsum
          have HOV := Lib.hid hov'; clear hov'
          have HMAX := Lib.hid hmax; clear hmax
          clear he hr h h2 hmle t1 t2 t3 t4
          generalize maxI (sumsOf cs) = mx at *
          generalize sumsOf cs = sums at *
          obtain ⟨aoq, nq, capq, rfl⟩ := hv
          go_enter Try.func74, Try.ntmps74
          have b0 : Below w.heap.size w w := Below.refl _ _
          have z0 : w.heap.size ≤ w.heap.size := Nat.le_refl _
          go_wp2_with fail
          refine (HVZ.out _ (by go_grown)).mono ?_
          rintro _ w1 ⟨rfl, r1⟩
          have s1 : Below w.heap.size w w1 := Below.trans (by go_grown) (r1.mono (by simp; try omega))
          have b1 := b0.trans (s1.mono z0)
          have z1 := b1.size
          have y1 := s1.size
          have v1 : w.heap.size + 3 ≤ w1.heap.size := by have := r1.size; simp only [World.size_alloc] at this; omega
          have c0_0_1 := below_cell r1 (p := ⟨w.heap.size, 0, none⟩) (v := .string nm) (by simp [go_sem])
          have c0_1_1 := below_cell r1 (p := ⟨w.heap.size, 1, none⟩) (v := sv) (by simp [go_sem])
          have c1_0_1 := below_cell r1 (p := ⟨w.heap.size + 1, 0, none⟩) (v := .slice aoq nq capq) (by simp [go_sem])
          have c2_0_1 := below_cell r1 (p := ⟨w.heap.size + 1 + 1, 0, none⟩) (v := .string ⟨#[]⟩) (by simp [go_sem])
          have c2_1_1 := below_cell r1 (p := ⟨w.heap.size + 1 + 1, 1, none⟩) (v := .slice none 0 0) (by simp [go_sem])
          have f0_1 : ∀ j, w1.frozen? ⟨w.heap.size, j, none⟩ = false := fun j => (r1.frozen (p := ⟨w.heap.size, j, none⟩) (by simp [go_sem])).trans (by simp [go_sem])
          have f1_1 : ∀ j, w1.frozen? ⟨w.heap.size + 1, j, none⟩ = false := fun j => (r1.frozen (p := ⟨w.heap.size + 1, j, none⟩) (by simp [go_sem])).trans (by simp [go_sem])
          have f2_1 : ∀ j, w1.frozen? ⟨w.heap.size + 1 + 1, j, none⟩ = false := fun j => (r1.frozen (p := ⟨w.heap.size + 1 + 1, j, none⟩) (by simp [go_sem])).trans (by simp [go_sem])
          clear r1
          go_wp2_with fail
          refine (HCU.out _ b1).mono ?_
          rintro _ w2 ⟨rfl, r2⟩
          have s2 := r2
          have b2 := b1.trans (s2.mono z1)
          have z2 := b2.size
          have y2 := s2.size
          have k0_2 := c0_0_1
          have c0_0_2 := below_cell s2 c0_0_1; clear c0_0_1
          have c0_1_2 := below_cell s2 c0_1_1; clear c0_1_1
          have k1_2 := c1_0_1
          have c1_0_2 := below_cell s2 c1_0_1; clear c1_0_1
          have k2_2 := c2_0_1
          have c2_0_2 := below_cell s2 c2_0_1; clear c2_0_1
          have c2_1_2 := below_cell s2 c2_1_1; clear c2_1_1
          have f0_2 : ∀ j, w2.frozen? ⟨w.heap.size, j, none⟩ = false := fun j => (s2.frozen (p := ⟨w.heap.size, j, none⟩) (show w.heap.size < _ from World.block_lt_of_cell? _ ⟨w.heap.size, 0, none⟩ k0_2)).trans (f0_1 j); clear f0_1
          have f1_2 : ∀ j, w2.frozen? ⟨w.heap.size + 1, j, none⟩ = false := fun j => (s2.frozen (p := ⟨w.heap.size + 1, j, none⟩) (show w.heap.size + 1 < _ from World.block_lt_of_cell? _ ⟨w.heap.size + 1, 0, none⟩ k1_2)).trans (f1_1 j); clear f1_1
          have f2_2 : ∀ j, w2.frozen? ⟨w.heap.size + 1 + 1, j, none⟩ = false := fun j => (s2.frozen (p := ⟨w.heap.size + 1 + 1, j, none⟩) (show w.heap.size + 1 + 1 < _ from World.block_lt_of_cell? _ ⟨w.heap.size + 1 + 1, 0, none⟩ k2_2)).trans (f2_1 j); clear f2_1
          clear r2
          go_wp2_with fail
          refine (HSUM.out _ b2).mono ?_
          rintro _ w3 ⟨x3, rfl, n3, r3⟩
          have s3 := r3
          have b3 := b2.trans (s3.mono z2)
          have z3 := b3.size
          have y3 := s3.size
          have k0_3 := c0_0_2
          have c0_0_3 := below_cell s3 c0_0_2; clear c0_0_2
          have c0_1_3 := below_cell s3 c0_1_2; clear c0_1_2
          have k1_3 := c1_0_2
          have c1_0_3 := below_cell s3 c1_0_2; clear c1_0_2
          have k2_3 := c2_0_2
          have c2_0_3 := below_cell s3 c2_0_2; clear c2_0_2
          have c2_1_3 := below_cell s3 c2_1_2; clear c2_1_2
          have f0_3 : ∀ j, w3.frozen? ⟨w.heap.size, j, none⟩ = false := fun j => (s3.frozen (p := ⟨w.heap.size, j, none⟩) (show w.heap.size < _ from World.block_lt_of_cell? _ ⟨w.heap.size, 0, none⟩ k0_3)).trans (f0_2 j); clear f0_2
          have f1_3 : ∀ j, w3.frozen? ⟨w.heap.size + 1, j, none⟩ = false := fun j => (s3.frozen (p := ⟨w.heap.size + 1, j, none⟩) (show w.heap.size + 1 < _ from World.block_lt_of_cell? _ ⟨w.heap.size + 1, 0, none⟩ k1_3)).trans (f1_2 j); clear f1_2
          have f2_3 : ∀ j, w3.frozen? ⟨w.heap.size + 1 + 1, j, none⟩ = false := fun j => (s3.frozen (p := ⟨w.heap.size + 1 + 1, j, none⟩) (show w.heap.size + 1 + 1 < _ from World.block_lt_of_cell? _ ⟨w.heap.size + 1 + 1, 0, none⟩ k2_3)).trans (f2_2 j); clear f2_2
          clear r3
          have N3 := Lib.hid n3; clear n3
          go_wp2_with fail
          refine (HOV.out _ _ b3 c1_0_3).mono ?_
          rintro _ w4 ⟨rfl, r4⟩
          have s4 := r4
          have b4 := b3.trans (s4.mono z3)
          have z4 := b4.size
          have y4 := s4.size
          have k0_4 := c0_0_3
          have c0_0_4 := below_cell s4 c0_0_3; clear c0_0_3
          have c0_1_4 := below_cell s4 c0_1_3; clear c0_1_3
          have k1_4 := c1_0_3
          have c1_0_4 := below_cell s4 c1_0_3; clear c1_0_3
          have k2_4 := c2_0_3
          have c2_0_4 := below_cell s4 c2_0_3; clear c2_0_3
          have c2_1_4 := below_cell s4 c2_1_3; clear c2_1_3
          have f0_4 : ∀ j, w4.frozen? ⟨w.heap.size, j, none⟩ = false := fun j => (s4.frozen (p := ⟨w.heap.size, j, none⟩) (show w.heap.size < _ from World.block_lt_of_cell? _ ⟨w.heap.size, 0, none⟩ k0_4)).trans (f0_3 j); clear f0_3
          have f1_4 : ∀ j, w4.frozen? ⟨w.heap.size + 1, j, none⟩ = false := fun j => (s4.frozen (p := ⟨w.heap.size + 1, j, none⟩) (show w.heap.size + 1 < _ from World.block_lt_of_cell? _ ⟨w.heap.size + 1, 0, none⟩ k1_4)).trans (f1_3 j); clear f1_3
          have f2_4 : ∀ j, w4.frozen? ⟨w.heap.size + 1 + 1, j, none⟩ = false := fun j => (s4.frozen (p := ⟨w.heap.size + 1 + 1, j, none⟩) (show w.heap.size + 1 + 1 < _ from World.block_lt_of_cell? _ ⟨w.heap.size + 1 + 1, 0, none⟩ k2_4)).trans (f2_3 j); clear f2_3
          clear r4
          have rd3 := Rd.of_own (own_later N3.out s4)
          have RD3 := Lib.hid rd3; clear rd3
          go_wp2_with fail
          refine (HMAX.out _ _ RD3.out).mono ?_
          rintro _ _ ⟨rfl, rfl⟩
          go_wp2
          refine bodyPost_ret (v := .tuple #[.agg #[.string ⟨#[]⟩, .slice none 0 0], .int .i64 5]) (by simp [results, Try.results74, go_sem, c2_0_4, c2_1_4]) rfl ?_
          exact RetP2.nil (Below.setCell (Below.setCell b4 (show w.heap.size ≤ w.heap.size + 1 + 1 by omega) _) (show w.heap.size ≤ w.heap.size + 1 + 1 by omega) _)
        · have t0 : cutAsk nm ps zs cs = 0 := by simp [cutAsk, t1, t2, t3, t4]
          have he : applyI nm ps zs cs = doneR nm (mapK (turnT zs (sumsOf cs)) ps ps.length) := by simp [applyI, t0]
          rw [he]
          have t5 : maxI (sumsOf cs) ≤ 20 := of_decide_eq_true hmle
          have hpz : profB nm ps = true ∧ zonesB zs ((ps.length : Int) - 1) = true := by simpa only [vzB, Bool.and_eq_true] using t1
          obtain ⟨hl1, hl2, hal, hht⟩ := profB_t hpz.1
          obtain ⟨hz1, hz8⟩ := zones_len hpz.2
          have hturn := fun w' x (hb : Below w.heap.size w w') (hx : Rd w' x (sumsOf cs).length (ints (sumsOf cs))) => turned_c nm sv ps v zs x (sumsOf cs) w' (hr.later hb) (h.later hb) hx hl1 hl2 hal hpz.2 (by rw [sumsOf_len]; exact hz8) (sums_bd t2) (zs_zero hpz.2) (fun a m h1 h2 h3 => zoneI_at hpz.2 h1 h2 h3)
          have hdone := fun base w' x (ho : OwnR base w' x (mapK (turnT zs (sumsOf cs)) ps ps.length)) => orState_c base nm x _ w' hnm ho
          generalize doneR nm (mapK (turnT zs (sumsOf cs)) ps ps.length) = RES at *
          generalize mapK (turnT zs (sumsOf cs)) ps ps.length = qs at *
          have HVZ := Lib.hid hvz; clear hvz
          have HCU := Lib.hid hcu; clear hcu
          have HSUM := Lib.hid hsum; clear hsum
          have HOV := Lib.hid hov'; clear hov'
          have HMAX := Lib.hid hmax; clear hmax
          have HTURN := Lib.hid hturn; clear hturn
          have HDONE := Lib.hid hdone; clear hdone
          clear he hr h h2 hmle t0 t1 t2 t3 t4 hpz hal hht
          generalize maxI (sumsOf cs) = mx at *
          generalize sumsOf cs = sums at *
          obtain ⟨aoq, nq, capq, rfl⟩ := hv
          go_enter Try.func74, Try.ntmps74
          have b0 : Below w.heap.size w w := Below.refl _ _
          have z0 : w.heap.size ≤ w.heap.size := Nat.le_refl _
          go_wp2_with fail
          refine (HVZ.out _ (by go_grown)).mono ?_
          rintro _ w1 ⟨rfl, r1⟩
          have s1 : Below w.heap.size w w1 := Below.trans (by go_grown) (r1.mono (by simp; try omega))
          have b1 := b0.trans (s1.mono z0)
          have z1 := b1.size
          have y1 := s1.size
          have v1 : w.heap.size + 3 ≤ w1.heap.size := by have := r1.size; simp only [World.size_alloc] at this; omega
          have c0_0_1 := below_cell r1 (p := ⟨w.heap.size, 0, none⟩) (v := .string nm) (by simp [go_sem])
          have c0_1_1 := below_cell r1 (p := ⟨w.heap.size, 1, none⟩) (v := sv) (by simp [go_sem])
          have c1_0_1 := below_cell r1 (p := ⟨w.heap.size + 1, 0, none⟩) (v := .slice aoq nq capq) (by simp [go_sem])
          have c2_0_1 := below_cell r1 (p := ⟨w.heap.size + 1 + 1, 0, none⟩) (v := .string ⟨#[]⟩) (by simp [go_sem])
          have c2_1_1 := below_cell r1 (p := ⟨w.heap.size + 1 + 1, 1, none⟩) (v := .slice none 0 0) (by simp [go_sem])
          have f0_1 : ∀ j, w1.frozen? ⟨w.heap.size, j, none⟩ = false := fun j => (r1.frozen (p := ⟨w.heap.size, j, none⟩) (by simp [go_sem])).trans (by simp [go_sem])
          have f1_1 : ∀ j, w1.frozen? ⟨w.heap.size + 1, j, none⟩ = false := fun j => (r1.frozen (p := ⟨w.heap.size + 1, j, none⟩) (by simp [go_sem])).trans (by simp [go_sem])
          have f2_1 : ∀ j, w1.frozen? ⟨w.heap.size + 1 + 1, j, none⟩ = false := fun j => (r1.frozen (p := ⟨w.heap.size + 1 + 1, j, none⟩) (by simp [go_sem])).trans (by simp [go_sem])
          clear r1
          go_wp2_with fail
          refine (HCU.out _ b1).mono ?_
          rintro _ w2 ⟨rfl, r2⟩
          have s2 := r2
          have b2 := b1.trans (s2.mono z1)
          have z2 := b2.size
          have y2 := s2.size
          have k0_2 := c0_0_1
          have c0_0_2 := below_cell s2 c0_0_1; clear c0_0_1
          have c0_1_2 := below_cell s2 c0_1_1; clear c0_1_1
          have k1_2 := c1_0_1
          have c1_0_2 := below_cell s2 c1_0_1; clear c1_0_1
          have k2_2 := c2_0_1
          have c2_0_2 := below_cell s2 c2_0_1; clear c2_0_1
          have c2_1_2 := below_cell s2 c2_1_1; clear c2_1_1
          have f0_2 : ∀ j, w2.frozen? ⟨w.heap.size, j, none⟩ = false := fun j => (s2.frozen (p := ⟨w.heap.size, j, none⟩) (show w.heap.size < _ from World.block_lt_of_cell? _ ⟨w.heap.size, 0, none⟩ k0_2)).trans (f0_1 j); clear f0_1
          have f1_2 : ∀ j, w2.frozen? ⟨w.heap.size + 1, j, none⟩ = false := fun j => (s2.frozen (p := ⟨w.heap.size + 1, j, none⟩) (show w.heap.size + 1 < _ from World.block_lt_of_cell? _ ⟨w.heap.size + 1, 0, none⟩ k1_2)).trans (f1_1 j); clear f1_1
          have f2_2 : ∀ j, w2.frozen? ⟨w.heap.size + 1 + 1, j, none⟩ = false := fun j => (s2.frozen (p := ⟨w.heap.size + 1 + 1, j, none⟩) (show w.heap.size + 1 + 1 < _ from World.block_lt_of_cell? _ ⟨w.heap.size + 1 + 1, 0, none⟩ k2_2)).trans (f2_1 j); clear f2_1
          clear r2
          go_wp2_with fail
          refine (HSUM.out _ b2).mono ?_
          rintro _ w3 ⟨x3, rfl, n3, r3⟩
          have s3 := r3
          have b3 := b2.trans (s3.mono z2)
          have z3 := b3.size
          have y3 := s3.size
          have k0_3 := c0_0_2
          have c0_0_3 := below_cell s3 c0_0_2; clear c0_0_2
          have c0_1_3 := below_cell s3 c0_1_2; clear c0_1_2
          have k1_3 := c1_0_2
          have c1_0_3 := below_cell s3 c1_0_2; clear c1_0_2
          have k2_3 := c2_0_2
          have c2_0_3 := below_cell s3 c2_0_2; clear c2_0_2
          have c2_1_3 := below_cell s3 c2_1_2; clear c2_1_2
          have f0_3 : ∀ j, w3.frozen? ⟨w.heap.size, j, none⟩ = false := fun j => (s3.frozen (p := ⟨w.heap.size, j, none⟩) (show w.heap.size < _ from World.block_lt_of_cell? _ ⟨w.heap.size, 0, none⟩ k0_3)).trans (f0_2 j); clear f0_2
          have f1_3 : ∀ j, w3.frozen? ⟨w.heap.size + 1, j, none⟩ = false := fun j => (s3.frozen (p := ⟨w.heap.size + 1, j, none⟩) (show w.heap.size + 1 < _ from World.block_lt_of_cell? _ ⟨w.heap.size + 1, 0, none⟩ k1_3)).trans (f1_2 j); clear f1_2
          have f2_3 : ∀ j, w3.frozen? ⟨w.heap.size + 1 + 1, j, none⟩ = false := fun j => (s3.frozen (p := ⟨w.heap.size + 1 + 1, j, none⟩) (show w.heap.size + 1 + 1 < _ from World.block_lt_of_cell? _ ⟨w.heap.size + 1 + 1, 0, none⟩ k2_3)).trans (f2_2 j); clear f2_2
          clear r3
          have N3 := Lib.hid n3; clear n3
          go_wp2_with fail
          refine (HOV.out _ _ b3 c1_0_3).mono ?_
          rintro _ w4 ⟨rfl, r4⟩
          have s4 := r4
          have b4 := b3.trans (s4.mono z3)
          have z4 := b4.size
          have y4 := s4.size
          have k0_4 := c0_0_3
          have c0_0_4 := below_cell s4 c0_0_3; clear c0_0_3
          have c0_1_4 := below_cell s4 c0_1_3; clear c0_1_3
          have k1_4 := c1_0_3
          have c1_0_4 := below_cell s4 c1_0_3; clear c1_0_3
          have k2_4 := c2_0_3
          have c2_0_4 := below_cell s4 c2_0_3; clear c2_0_3
          have c2_1_4 := below_cell s4 c2_1_3; clear c2_1_3
          have f0_4 : ∀ j, w4.frozen? ⟨w.heap.size, j, none⟩ = false := fun j => (s4.frozen (p := ⟨w.heap.size, j, none⟩) (show w.heap.size < _ from World.block_lt_of_cell? _ ⟨w.heap.size, 0, none⟩ k0_4)).trans (f0_3 j); clear f0_3
          have f1_4 : ∀ j, w4.frozen? ⟨w.heap.size + 1, j, none⟩ = false := fun j => (s4.frozen (p := ⟨w.heap.size + 1, j, none⟩) (show w.heap.size + 1 < _ from World.block_lt_of_cell? _ ⟨w.heap.size + 1, 0, none⟩ k1_4)).trans (f1_3 j); clear f1_3
          have f2_4 : ∀ j, w4.frozen? ⟨w.heap.size + 1 + 1, j, none⟩ = false := fun j => (s4.frozen (p := ⟨w.heap.size + 1 + 1, j, none⟩) (show w.heap.size + 1 + 1 < _ from World.block_lt_of_cell? _ ⟨w.heap.size + 1 + 1, 0, none⟩ k2_4)).trans (f2_3 j); clear f2_3
          clear r4
          have rd3 := Rd.of_own (own_later N3.out s4)
          have RD3 := Lib.hid rd3; clear rd3
          go_wp2_with fail
          refine (HMAX.out _ _ RD3.out).mono ?_
          rintro _ _ ⟨rfl, rfl⟩
          go_wp2_with fail
          refine (HTURN.out _ _ b4 RD3.out).mono ?_
          rintro _ w5 ⟨x5, rfl, n5, r5⟩
          have s5 := r5
          have b5 := b4.trans (s5.mono z4)
          have z5 := b5.size
          have y5 := s5.size
          have k0_5 := c0_0_4
          have c0_0_5 := below_cell s5 c0_0_4; clear c0_0_4
          have c0_1_5 := below_cell s5 c0_1_4; clear c0_1_4
          have k1_5 := c1_0_4
          have c1_0_5 := below_cell s5 c1_0_4; clear c1_0_4
          have k2_5 := c2_0_4
          have c2_0_5 := below_cell s5 c2_0_4; clear c2_0_4
          have c2_1_5 := below_cell s5 c2_1_4; clear c2_1_4
          have f0_5 : ∀ j, w5.frozen? ⟨w.heap.size, j, none⟩ = false := fun j => (s5.frozen (p := ⟨w.heap.size, j, none⟩) (show w.heap.size < _ from World.block_lt_of_cell? _ ⟨w.heap.size, 0, none⟩ k0_5)).trans (f0_4 j); clear f0_4
          have f1_5 : ∀ j, w5.frozen? ⟨w.heap.size + 1, j, none⟩ = false := fun j => (s5.frozen (p := ⟨w.heap.size + 1, j, none⟩) (show w.heap.size + 1 < _ from World.block_lt_of_cell? _ ⟨w.heap.size + 1, 0, none⟩ k1_5)).trans (f1_4 j); clear f1_4
          have f2_5 : ∀ j, w5.frozen? ⟨w.heap.size + 1 + 1, j, none⟩ = false := fun j => (s5.frozen (p := ⟨w.heap.size + 1 + 1, j, none⟩) (show w.heap.size + 1 + 1 < _ from World.block_lt_of_cell? _ ⟨w.heap.size + 1 + 1, 0, none⟩ k2_5)).trans (f2_4 j); clear f2_4
          clear r5
          have N5 := Lib.hid n5; clear n5
          go_wp2_with fail
          refine (HDONE.out _ _ _ N5.out).mono ?_
          rintro _ w6 ⟨x6, rfl, n6, r6⟩
          have s6 := r6
          have b6 := b5.trans (s6.mono z5)
          have z6 := b6.size
          have y6 := s6.size
          have k0_6 := c0_0_5
          have c0_0_6 := below_cell s6 c0_0_5; clear c0_0_5
          have c0_1_6 := below_cell s6 c0_1_5; clear c0_1_5
          have k1_6 := c1_0_5
          have c1_0_6 := below_cell s6 c1_0_5; clear c1_0_5
          have k2_6 := c2_0_5
          have c2_0_6 := below_cell s6 c2_0_5; clear c2_0_5
          have c2_1_6 := below_cell s6 c2_1_5; clear c2_1_5
          have f0_6 : ∀ j, w6.frozen? ⟨w.heap.size, j, none⟩ = false := fun j => (s6.frozen (p := ⟨w.heap.size, j, none⟩) (show w.heap.size < _ from World.block_lt_of_cell? _ ⟨w.heap.size, 0, none⟩ k0_6)).trans (f0_5 j); clear f0_5
          have f1_6 : ∀ j, w6.frozen? ⟨w.heap.size + 1, j, none⟩ = false := fun j => (s6.frozen (p := ⟨w.heap.size + 1, j, none⟩) (show w.heap.size + 1 < _ from World.block_lt_of_cell? _ ⟨w.heap.size + 1, 0, none⟩ k1_6)).trans (f1_5 j); clear f1_5
          have f2_6 : ∀ j, w6.frozen? ⟨w.heap.size + 1 + 1, j, none⟩ = false := fun j => (s6.frozen (p := ⟨w.heap.size + 1 + 1, j, none⟩) (show w.heap.size + 1 + 1 < _ from World.block_lt_of_cell? _ ⟨w.heap.size + 1 + 1, 0, none⟩ k2_6)).trans (f2_5 j); clear f2_5
          clear r6
          obtain ⟨a4, p4, rfl⟩ := own_shape n6
          have lo4 := own_lo n6
          go_wp2
          refine bodyPost_ret (v := .tuple #[.agg #[.string RES.1, .slice a4 RES.2.1.length p4], .int .i64 RES.2.2]) (by simp [results, Try.results74, go_sem, *]) rfl ?_
          have o11 := own_set n6 (a := ⟨w.heap.size + 1 + 1, 0, none⟩) (fun k hk => by have := lo4 k hk; simp; omega) (.string RES.1)
          have o12 := own_set o11 (a := ⟨w.heap.size + 1 + 1, 1, none⟩) (fun k hk => by have := lo4 k hk; simp; omega) (.slice a4 RES.2.1.length p4)
          exact ⟨_, rfl, own_base o12 (by omega), (b6.setCell (show w.heap.size ≤ w.heap.size + 1 + 1 by omega) _).setCell (show w.heap.size ≤ w.heap.size + 1 + 1 by omega) _⟩
      · have he : applyI nm ps zs cs = (⟨#[]⟩, [], 2) := by simp [applyI, cutAsk, t1, t2, t3]
        rw [he]
        have HVZ := Lib.hid hvz; clear hvz
        have HCU := Lib.hid hcu; clear hcu
        have HSUM := Lib.hid hsum; clear hsum
        have HOV := Lib.hid hov'; clear hov'
        clear he hr h h2 t1 t2 t3
        obtain ⟨aoq, nq, capq, rfl⟩ := hv
        go_enter Try.func74, Try.ntmps74
        have b0 : Below w.heap.size w w := Below.refl _ _
        have z0 : w.heap.size ≤ w.heap.size := Nat.le_refl _
        go_wp2_with fail
        refine (HVZ.out _ (by go_grown)).mono ?_
        rintro _ w1 ⟨rfl, r1⟩
        have s1 : Below w.heap.size w w1 := Below.trans (by go_grown) (r1.mono (by simp; try omega))
        have b1 := b0.trans (s1.mono z0)
        have z1 := b1.size
        have y1 := s1.size
        have v1 : w.heap.size + 3 ≤ w1.heap.size := by have := r1.size; simp only [World.size_alloc] at this; omega
        have c0_0_1 := below_cell r1 (p := ⟨w.heap.size, 0, none⟩) (v := .string nm) (by simp [go_sem])
        have c0_1_1 := below_cell r1 (p := ⟨w.heap.size, 1, none⟩) (v := sv) (by simp [go_sem])
        have c1_0_1 := below_cell r1 (p := ⟨w.heap.size + 1, 0, none⟩) (v := .slice aoq nq capq) (by simp [go_sem])
        have c2_0_1 := below_cell r1 (p := ⟨w.heap.size + 1 + 1, 0, none⟩) (v := .string ⟨#[]⟩) (by simp [go_sem])
        have c2_1_1 := below_cell r1 (p := ⟨w.heap.size + 1 + 1, 1, none⟩) (v := .slice none 0 0) (by simp [go_sem])
        have f0_1 : ∀ j, w1.frozen? ⟨w.heap.size, j, none⟩ = false := fun j => (r1.frozen (p := ⟨w.heap.size, j, none⟩) (by simp [go_sem])).trans (by simp [go_sem])
        have f1_1 : ∀ j, w1.frozen? ⟨w.heap.size + 1, j, none⟩ = false := fun j => (r1.frozen (p := ⟨w.heap.size + 1, j, none⟩) (by simp [go_sem])).trans (by simp [go_sem])
        have f2_1 : ∀ j, w1.frozen? ⟨w.heap.size + 1 + 1, j, none⟩ = false := fun j => (r1.frozen (p := ⟨w.heap.size + 1 + 1, j, none⟩) (by simp [go_sem])).trans (by simp [go_sem])
        clear r1
        go_wp2_with fail
        refine (HCU.out _ b1).mono ?_
        rintro _ w2 ⟨rfl, r2⟩
        have s2 := r2
        have b2 := b1.trans (s2.mono z1)
        have z2 := b2.size
        have y2 := s2.size
        have k0_2 := c0_0_1
        have c0_0_2 := below_cell s2 c0_0_1; clear c0_0_1
        have c0_1_2 := below_cell s2 c0_1_1; clear c0_1_1
        have k1_2 := c1_0_1
        have c1_0_2 := below_cell s2 c1_0_1; clear c1_0_1
        have k2_2 := c2_0_1
        have c2_0_2 := below_cell s2 c2_0_1; clear c2_0_1
        have c2_1_2 := below_cell s2 c2_1_1; clear c2_1_1
        have f0_2 : ∀ j, w2.frozen? ⟨w.heap.size, j, none⟩ = false := fun j => (s2.frozen (p := ⟨w.heap.size, j, none⟩) (show w.heap.size < _ from World.block_lt_of_cell? _ ⟨w.heap.size, 0, none⟩ k0_2)).trans (f0_1 j); clear f0_1
        have f1_2 : ∀ j, w2.frozen? ⟨w.heap.size + 1, j, none⟩ = false := fun j => (s2.frozen (p := ⟨w.heap.size + 1, j, none⟩) (show w.heap.size + 1 < _ from World.block_lt_of_cell? _ ⟨w.heap.size + 1, 0, none⟩ k1_2)).trans (f1_1 j); clear f1_1
        have f2_2 : ∀ j, w2.frozen? ⟨w.heap.size + 1 + 1, j, none⟩ = false := fun j => (s2.frozen (p := ⟨w.heap.size + 1 + 1, j, none⟩) (show w.heap.size + 1 + 1 < _ from World.block_lt_of_cell? _ ⟨w.heap.size + 1 + 1, 0, none⟩ k2_2)).trans (f2_1 j); clear f2_1
        clear r2
        go_wp2_with fail
        refine (HSUM.out _ b2).mono ?_
        rintro _ w3 ⟨x3, rfl, n3, r3⟩
        have s3 := r3
        have b3 := b2.trans (s3.mono z2)
        have z3 := b3.size
        have y3 := s3.size
        have k0_3 := c0_0_2
        have c0_0_3 := below_cell s3 c0_0_2; clear c0_0_2
        have c0_1_3 := below_cell s3 c0_1_2; clear c0_1_2
        have k1_3 := c1_0_2
        have c1_0_3 := below_cell s3 c1_0_2; clear c1_0_2
        have k2_3 := c2_0_2
        have c2_0_3 := below_cell s3 c2_0_2; clear c2_0_2
        have c2_1_3 := below_cell s3 c2_1_2; clear c2_1_2
        have f0_3 : ∀ j, w3.frozen? ⟨w.heap.size, j, none⟩ = false := fun j => (s3.frozen (p := ⟨w.heap.size, j, none⟩) (show w.heap.size < _ from World.block_lt_of_cell? _ ⟨w.heap.size, 0, none⟩ k0_3)).trans (f0_2 j); clear f0_2
        have f1_3 : ∀ j, w3.frozen? ⟨w.heap.size + 1, j, none⟩ = false := fun j => (s3.frozen (p := ⟨w.heap.size + 1, j, none⟩) (show w.heap.size + 1 < _ from World.block_lt_of_cell? _ ⟨w.heap.size + 1, 0, none⟩ k1_3)).trans (f1_2 j); clear f1_2
        have f2_3 : ∀ j, w3.frozen? ⟨w.heap.size + 1 + 1, j, none⟩ = false := fun j => (s3.frozen (p := ⟨w.heap.size + 1 + 1, j, none⟩) (show w.heap.size + 1 + 1 < _ from World.block_lt_of_cell? _ ⟨w.heap.size + 1 + 1, 0, none⟩ k2_3)).trans (f2_2 j); clear f2_2
        clear r3
        clear n3
        go_wp2_with fail
        refine (HOV.out _ _ b3 c1_0_3).mono ?_
        rintro _ w4 ⟨rfl, r4⟩
        have s4 := r4
        have b4 := b3.trans (s4.mono z3)
        have z4 := b4.size
        have y4 := s4.size
        have k0_4 := c0_0_3
        have c0_0_4 := below_cell s4 c0_0_3; clear c0_0_3
        have c0_1_4 := below_cell s4 c0_1_3; clear c0_1_3
        have k1_4 := c1_0_3
        have c1_0_4 := below_cell s4 c1_0_3; clear c1_0_3
        have k2_4 := c2_0_3
        have c2_0_4 := below_cell s4 c2_0_3; clear c2_0_3
        have c2_1_4 := below_cell s4 c2_1_3; clear c2_1_3
        have f0_4 : ∀ j, w4.frozen? ⟨w.heap.size, j, none⟩ = false := fun j => (s4.frozen (p := ⟨w.heap.size, j, none⟩) (show w.heap.size < _ from World.block_lt_of_cell? _ ⟨w.heap.size, 0, none⟩ k0_4)).trans (f0_3 j); clear f0_3
        have f1_4 : ∀ j, w4.frozen? ⟨w.heap.size + 1, j, none⟩ = false := fun j => (s4.frozen (p := ⟨w.heap.size + 1, j, none⟩) (show w.heap.size + 1 < _ from World.block_lt_of_cell? _ ⟨w.heap.size + 1, 0, none⟩ k1_4)).trans (f1_3 j); clear f1_3
        have f2_4 : ∀ j, w4.frozen? ⟨w.heap.size + 1 + 1, j, none⟩ = false := fun j => (s4.frozen (p := ⟨w.heap.size + 1 + 1, j, none⟩) (show w.heap.size + 1 + 1 < _ from World.block_lt_of_cell? _ ⟨w.heap.size + 1 + 1, 0, none⟩ k2_4)).trans (f2_3 j); clear f2_3
        clear r4
        go_wp2
        refine bodyPost_ret (v := .tuple #[.agg #[.string ⟨#[]⟩, .slice none 0 0], .int .i64 2]) (by simp [results, Try.results74, go_sem, c2_0_4, c2_1_4]) rfl ?_
        exact RetP2.nil (Below.setCell (Below.setCell b4 (show w.heap.size ≤ w.heap.size + 1 + 1 by omega) _) (show w.heap.size ≤ w.heap.size + 1 + 1 by omega) _)

end Go.Proofs.Ytmeeibcbhjifbaa

/- What cuts take away. -/
namespace Go.Proofs.Ytmeeibcbhjifbaa
set_option linter.unusedVariables false
open Go.RowKit Go.Proofs.Bell Go.BigFrame

def chipK (ps qs : List (Int × Int × Int)) : Nat → Int
  | 0 => 0
  | k + 1 => chipK ps qs k + ((rg qs k).2.1 - (rg ps k).2.1) * (rg ps k).2.2
def chipsI (nm : ByteArray) (ps : List (Int × Int × Int)) (zs : List Int) (cs : List (Int × Int)) : Int × Int := if (applyI nm ps zs cs).2.2 = 0 then (chipK ps (applyI nm ps zs cs).2.1 ps.length, 0) else (0, (applyI nm ps zs cs).2.2)
theorem prod_bd {x y : Int} (h1 : -150000 ≤ x) (h2 : x ≤ 150000) (h3 : 0 ≤ y) (h4 : y ≤ 300000) : -45000000000 ≤ x * y ∧ x * y ≤ 45000000000 := by
  have a := Int.mul_le_mul_of_nonneg_right h2 h3
  have b := Int.mul_le_mul_of_nonneg_right h1 h3
  omega
theorem chipK_bd {ps qs : List (Int × Int × Int)} (h : ps.all ringT = true) (h' : qs.all ringT = true) : ∀ k, k ≤ ps.length → k ≤ qs.length → -45000000000 * (k : Int) ≤ chipK ps qs k ∧ chipK ps qs k ≤ 45000000000 * k
  | 0, _, _ => by simp [chipK]
  | k + 1, h1, h2 => by
    have ih := chipK_bd h h' k (by omega) (by omega)
    have a := ringT_t (all_at h (show k < ps.length by omega))
    have b := ringT_t (all_at h' (show k < qs.length by omega))
    have := prod_bd (x := (rg qs k).2.1 - (rg ps k).2.1) (y := (rg ps k).2.2) (by omega) (by omega) (by omega) (by omega)
    simp only [chipK]
    omega
theorem doneR_ok {nm : ByteArray} {qs : List (Int × Int × Int)} (h : (doneR nm qs).2.2 = 0) : profB nm qs = true ∧ (doneR nm qs).1 = nm ∧ (doneR nm qs).2.1 = qs := by
  unfold doneR at h ⊢
  cases t : profB nm qs
  · simp [t] at h
  · simp
theorem applyI_ok {nm : ByteArray} {ps : List (Int × Int × Int)} {zs : List Int} {cs : List (Int × Int)} (h : (applyI nm ps zs cs).2.2 = 0) :
    profB nm ps = true ∧ (applyI nm ps zs cs).2.1.length = ps.length ∧ (applyI nm ps zs cs).2.1.all ringT = true := by
  by_cases t0 : cutAsk nm ps zs cs = 0
  · have he : applyI nm ps zs cs = doneR nm (mapK (turnT zs (sumsOf cs)) ps ps.length) := by simp [applyI, t0]
    rw [he] at h ⊢
    obtain ⟨h1, h2, h3⟩ := doneR_ok h
    rw [h3]
    obtain ⟨t1, _⟩ := cutAsk_ok t0
    have hpz : profB nm ps = true ∧ zonesB zs ((ps.length : Int) - 1) = true := by simpa only [vzB, Bool.and_eq_true] using t1
    exact ⟨hpz.1, mapK_len _ _ _, (profB_t h1).2.2.1⟩
  · have he : applyI nm ps zs cs = (⟨#[]⟩, [], cutAsk nm ps zs cs) := by simp [applyI, t0]
    rw [he] at h
    exact absurd h t0

end Go.Proofs.Ytmeeibcbhjifbaa

/- By how much partials become less: plain. -/
namespace Go.Proofs.Ytmeeibcbhjifbaa
set_option linter.unusedVariables false
open Go.RowKit Go.Proofs.Bell Go.BigFrame

def diffK (a b : List Int) : Nat → List Int
  | 0 => []
  | k + 1 => diffK a b k ++ [a.getD k 0 - b.getD k 0]
theorem diffK_len (a b : List Int) : ∀ k, (diffK a b k).length = k
  | 0 => rfl
  | k + 1 => by rw [diffK, List.length_append, diffK_len a b k]; rfl
def senI (zs : List Int) (ws : List (List Int)) (bs : List Int) (nm : ByteArray) (ps : List (Int × Int × Int)) (zone : Int) : List Int × Int :=
  if modAsk zs ws bs nm ps = 0 then
    if inB zone 0 ((zs.length : Int) - 1) then
      if (applyI nm ps zs [(zone, 1)]).2.2 = 0 then (diffK (rawL ps zs ws bs) (rawL (applyI nm ps zs [(zone, 1)]).2.1 zs ws bs) 5, 0) else ([], 6)
    else ([], 2)
  else ([], modAsk zs ws bs nm ps)
theorem senI_len (zs : List Int) (ws : List (List Int)) (bs : List Int) (nm : ByteArray) (ps : List (Int × Int × Int)) (zone : Int) : (senI zs ws bs nm ps zone).1.length ≤ 5 := by
  unfold senI
  split
  · split
    · split
      · simp [diffK_len]
      · simp
    · simp
  · simp
theorem rawK_at (walls : List Int) (ws : List (List Int)) (bs : List Int) (d : Int) : ∀ n k, k < n → (rawK walls ws bs d n).getD k 0 = rnd (bs.getD k 0 * momK walls (ws.getD k []) walls.length) d
  | 0, _, h => absurd h (Nat.not_lt_zero _)
  | n + 1, k, h => by
    have hl := rawK_len walls ws bs d n
    rw [rawK]
    rcases Nat.lt_or_ge k n with h1 | h1
    · rw [← rawK_at walls ws bs d n k h1]
      simp only [List.getD]
      rw [List.getElem?_append_left (by omega)]
    · obtain rfl : k = n := by omega
      simp only [List.getD]
      rw [List.getElem?_append_right (by omega), hl]
      simp
theorem raw_bd {ps : List (Int × Int × Int)} {zs : List Int} {ws : List (List Int)} {bs : List Int} (hmb : modelB zs ws bs = true) (hl : 1 ≤ ps.length) (hal : ps.all ringT = true) (hzb : zonesB zs ((ps.length : Int) - 1) = true) (k : Nat) (hk : k < 5) :
    0 ≤ (rawL ps zs ws bs).getD k 0 ∧ (rawL ps zs ws bs).getD k 0 ≤ 1200000000000000000 := by
  obtain ⟨_, hz8, _, _, _⟩ := modelB_t hmb
  obtain ⟨_, hrb, hb1, hb2⟩ := row_bd hmb k hk
  have hm := momK_bd (walls := zwK ps zs zs.length) (row := ws.getD k []) (zw_bd hal hzb) hrb (zwK ps zs zs.length).length
  have hwl := zwK_len ps zs zs.length
  have hp := base_bd hb1 hb2 hm.1 (by omega)
  have hlb := lipI_bd hl hal
  unfold rawL
  rw [rawK_at _ _ _ _ _ _ hk]
  refine ⟨rnd_nonneg hp.1 hlb.1, ?_⟩
  have := rnd_mb (a := bs.getD k 0 * momK (zwK ps zs zs.length) (ws.getD k []) (zwK ps zs zs.length).length) (b := lipI ps) (m := 1200000000000000000) hp.1 (by have := Int.mul_le_mul_of_nonneg_left hlb.1 (show (0 : Int) ≤ 1200000000000000000 by omega); omega) hlb.1 (by omega)
  exact this.2
theorem applyI_zones {nm : ByteArray} {ps : List (Int × Int × Int)} {zs : List Int} {cs : List (Int × Int)} (h : (applyI nm ps zs cs).2.2 = 0) : profB nm (applyI nm ps zs cs).2.1 = true ∧ (applyI nm ps zs cs).1 = nm := by
  by_cases t0 : cutAsk nm ps zs cs = 0
  · have he : applyI nm ps zs cs = doneR nm (mapK (turnT zs (sumsOf cs)) ps ps.length) := by simp [applyI, t0]
    rw [he] at h ⊢
    obtain ⟨h1, h2, h3⟩ := doneR_ok h
    rw [h3]
    exact ⟨h1, h2⟩
  · have he : applyI nm ps zs cs = (⟨#[]⟩, [], cutAsk nm ps zs cs) := by simp [applyI, t0]
    rw [he] at h
    exact absurd h t0

end Go.Proofs.Ytmeeibcbhjifbaa

/- What cuts take away: the program. -/
namespace Go.Proofs.Ytmeeibcbhjifbaa
set_option linter.unusedVariables false
open Go.RowKit Go.Proofs.Bell Go.BigFrame

end Go.Proofs.Ytmeeibcbhjifbaa

/- The room of all zones. -/
namespace Go.Proofs.Ytmeeibcbhjifbaa
set_option linter.unusedVariables false
open Go.RowKit Go.Proofs.Bell Go.BigFrame

def roomK (nm : ByteArray) (ps : List (Int × Int × Int)) (zs : List Int) : Nat → List Int
  | 0 => []
  | k + 1 => roomK nm ps zs k ++ [((mostI nm ps zs k : Nat) : Int)]
theorem roomK_len (nm : ByteArray) (ps : List (Int × Int × Int)) (zs : List Int) : ∀ k, (roomK nm ps zs k).length = k
  | 0 => rfl
  | k + 1 => by rw [roomK, List.length_append, roomK_len nm ps zs k]; rfl
def roomI (nm : ByteArray) (ps : List (Int × Int × Int)) (zs : List Int) : List Int × Int := if vzB nm ps zs then (roomK nm ps zs zs.length, 0) else ([], 1)
theorem roomI_len (nm : ByteArray) (ps : List (Int × Int × Int)) (zs : List Int) : (roomI nm ps zs).1.length ≤ 8 := by
  unfold roomI
  split
  · rename_i h
    simp only [vzB, Bool.and_eq_true] at h
    rw [roomK_len]; exact (zones_len h.2).2
  · simp

set_option maxRecDepth 100000 in
set_option maxHeartbeats 1600000 in
theorem roomOf_c (nm : ByteArray) (sv : Value) (ps : List (Int × Int × Int)) (v : Value) (zs : List Int) (w : World) (hnm : nm.size ≤ maxLen) (hr : Rd w sv ps.length (trips ps)) (h : Rd w v zs.length (ints zs))
    (hl1 : 1 ≤ ps.length) (hl2 : ps.length ≤ 32) (hal : ps.all ringT = true) (hzb : zonesB zs ((ps.length : Int) - 1) = true) :
    Calls Try.prog 143 #[.agg #[.string nm, sv], v] w (RetOwnI (roomK nm ps zs zs.length) w) := by
  obtain ⟨hz1, hz8⟩ := zones_len hzb
  have hms := fun w' k (hk : k < zs.length) (hb : Below w.heap.size w w') => mostSteps_c nm sv ps v zs k w' hnm (hr.later hb) (h.later hb) hl1 hl2 hal hzb hk
  have hst := fun k => (show roomK nm ps zs k ++ [((mostI nm ps zs k : Nat) : Int)] = roomK nm ps zs (k + 1) from rfl)
  have hrl := roomK_len nm ps zs
  have HMS := Lib.hid hms; clear hms
  have HST := Lib.hid hst; clear hst
  have HRL := Lib.hid hrl; clear hrl
  obtain ⟨hn0, ao0, cap0, b0', off0, rfl, hao0, hcell0⟩ := hr.open
  clear hcell0 hao0 hr hal hzb
  obtain ⟨hnq, aoq, capq, bq, offq, rfl, haoq, hcellq⟩ := h.open
  clear hcellq haoq h
  generalize zs.length = nz at *
  go_enter Try.func143, Try.ntmps143
  have b0 : Below w.heap.size w w := Below.refl _ _
  have z0 : w.heap.size ≤ w.heap.size := Nat.le_refl _
  go_wp2_with fail
  go_loopw [9, 5] (fun i u wr => ∃ (k : Nat), k ≤ nz ∧ i = .int .i64 k ∧ OwnI (w.heap.size + 1) wr u (roomK nm ps zs k) ∧ Below w.heap.size w wr ∧ wr.cell? ⟨w.heap.size, 0, none⟩ = some (.string nm) ∧ wr.cell? ⟨w.heap.size, 1, none⟩ = some (.slice ao0 ps.length cap0)) (fun i u _ => nz - (intOf i).toNat)
  case atStart => exact ⟨0, Nat.zero_le _, rfl, World.ownsRow_nil _ _ _ _, (by go_grown), (by simp [go_sem]), (by simp [go_sem])⟩
  case round =>
    obtain ⟨k, hk, rfl, ho, br0, c0_0_r0, c0_1_r0⟩ := hrel
    have zr0 := br0.size
    have hlen := HRL.out k
    have hlo := own_lo ho
    have HO := Lib.hid ho; clear ho
    have LO := Lib.hid hlo; clear hlo
    by_cases hlt : k < nz
    · skip
      have hs := HST.out k
      have hek := fun w' hb => HMS.out w' k hlt hb
      have HS := Lib.hid hs; clear hs
      have HEK := Lib.hid hek; clear hek
      generalize mostI nm ps zs k = x at *
      go_wp2_with fail
      refine (HEK.out _ br0).mono ?_
      rintro _ wr1 ⟨rfl, rr1⟩
      have sr1 := rr1
      have br1 := br0.trans (sr1.mono zr0)
      have zr1 := br1.size
      have yr1 := sr1.size
      have c0_0_r1 := below_cell sr1 c0_0_r0; clear c0_0_r0
      have c0_1_r1 := below_cell sr1 c0_1_r0; clear c0_1_r0
      have o1_r1 := own_later HO.out sr1; have O1_r1 := Lib.hid o1_r1; clear o1_r1
      clear rr1
      have zz3 : w.heap.size + 1 ≤ wr1.heap.size := World.block_lt_of_cell? _ ⟨w.heap.size, 0, none⟩ c0_0_r1
      go_wp2_with (at_builtin; refine app_I (.tmp 12) (.tmp 17) _ _ _ _ _ (by rfl) (by rfl) (by rfl) (by rfl) O1_r1.out (by omega) zz3 ?_; intro v2 w9 o9 q9)
      have d0 := cell_only q9 c0_0_r1 (fun h => by have := LO.out _ h; simp at this; omega)
      have d1 := cell_only q9 c0_1_r1 (fun h => by have := LO.out _ h; simp at this; omega)
      have hb2 := Only.below br1 q9 zr1 (fun k h => by have := LO.out k h; omega)
      go_wp2
      go_roundw
      case rel => exact ⟨k + 1, by omega, by go_num, by rw [← HS.out]; exact o9, hb2, d0, d1⟩
      case measure => simp [intOf]; omega
    · obtain rfl : k = nz := by omega
      go_wp2
      go_returns
      exact ⟨_, rfl, own_base HO.out (by omega), br0⟩

end Go.Proofs.Ytmeeibcbhjifbaa

/- The lathe: the plain laws. -/
namespace Go.Proofs.Ytmeeibcbhjifbaa
set_option linter.unusedVariables false
open Go.RowKit Go.Proofs.Bell Go.BigFrame

theorem applyI_form {nm : ByteArray} {ps : List (Int × Int × Int)} {zs : List Int} {cs : List (Int × Int)} (h : (applyI nm ps zs cs).2.2 = 0) :
    (∃ qs, applyI nm ps zs cs = (nm, qs, 0) ∧ qs.length = ps.length ∧ profB nm qs = true ∧ ∀ k, k < ps.length → (rg qs k).1 = (rg ps k).1 ∧ (rg qs k).2.2 = (rg ps k).2.2 ∧ (rg ps k).2.1 ≤ (rg qs k).2.1) := by
  by_cases t0 : cutAsk nm ps zs cs = 0
  · have he : applyI nm ps zs cs = doneR nm (mapK (turnT zs (sumsOf cs)) ps ps.length) := by simp [applyI, t0]
    rw [he] at h ⊢
    obtain ⟨h1, h2, h3⟩ := doneR_ok h
    obtain ⟨_, t2, _⟩ := cutAsk_ok t0
    refine ⟨_, doneR_t h1, mapK_len _ _ _, h1, fun k hk => ?_⟩
    rw [mapK_rg _ _ _ _ hk]
    have := (sums_bd t2 (zoneI zs k)).1
    exact ⟨rfl, rfl, by simp only [turnT]; omega⟩
  · have he : applyI nm ps zs cs = (⟨#[]⟩, [], cutAsk nm ps zs cs) := by simp [applyI, t0]
    rw [he] at h
    exact absurd h t0
theorem mostF_spec (ok : Nat → Bool) : ∀ f n, (∀ s, n < s → s ≤ mostF ok f n → ok s = true) ∧ (mostF ok f n < n + f → ok (mostF ok f n + 1) = false) ∧ n ≤ mostF ok f n
  | 0, n => ⟨fun s h1 h2 => by simp [mostF] at h2; omega, fun h => by simp [mostF] at h, Nat.le_refl _⟩
  | f + 1, n => by
    obtain ⟨h1, h2, h3⟩ := mostF_spec ok f (n + 1)
    unfold mostF
    by_cases e : ok (n + 1) = true
    · rw [if_pos e]
      refine ⟨fun s q1 q2 => ?_, fun q => h2 (by omega), by omega⟩
      rcases Nat.lt_or_ge (n + 1) s with q | q
      · exact h1 s q q2
      · obtain rfl : s = n + 1 := by omega
        exact e
    · rw [if_neg e]
      exact ⟨fun s q1 q2 => by omega, fun _ => by simpa using e, Nat.le_refl _⟩
theorem mostI_spec (nm : ByteArray) (ps : List (Int × Int × Int)) (zs : List Int) (z : Nat) : mostI nm ps zs z ≤ 20 ∧ (0 < mostI nm ps zs z → okSteps nm ps zs z (mostI nm ps zs z) = true) ∧ (mostI nm ps zs z < 20 → okSteps nm ps zs z (mostI nm ps zs z + 1) = false) := by
  obtain ⟨h1, h2, h3⟩ := mostF_spec (okSteps nm ps zs z) 20 0
  have h4 := mostF_le (okSteps nm ps zs z) 20 0
  exact ⟨by unfold mostI; omega, fun h => h1 _ h (Nat.le_refl _), fun h => h2 (by unfold mostI at h; omega)⟩
theorem sums_one (z : Nat) (s : Int) (hz : z < 8) : sumsOf [((z : Int), s)] = oneAt 8 z s := by
  have hl1 := sumsOf_len [((z : Int), s)]
  have hl2 : (oneAt 8 z s).length = 8 := by simp [oneAt]
  refine List.ext_getElem (by rw [hl1, hl2]) fun j h1 h2 => ?_
  have e1 := sumsOf_at [((z : Int), s)] (z := j) (by omega)
  rw [List.getElem?_eq_getElem h1] at e1
  have e2 := oneAt_getD 8 z s hz j
  rw [List.getD_eq_getElem?_getD, List.getElem?_eq_getElem h2] at e2
  simp only [Option.getD_some] at e2
  rw [e2]
  injection e1 with e1
  rw [e1]
  unfold zoneSum
  by_cases e : j = z
  · subst e; simp
  · rw [if_neg e]
    have : ((z : Int) == (j : Int)) = false := by simp; omega
    simp [this]
theorem apply_one {nm : ByteArray} {ps : List (Int × Int × Int)} {zs : List Int} {z s : Nat} (hv : vzB nm ps zs = true) (hz : z < zs.length) (hz8 : zs.length ≤ 8) (h1 : 1 ≤ s) (h2 : s ≤ 20) :
    (applyI nm ps zs [((z : Int), (s : Int))]).2.2 = if okSteps nm ps zs z s then 0 else 6 := by
  have hc : cutAsk nm ps zs [((z : Int), (s : Int))] = 0 := by
    have a1 : cutsB [((z : Int), (s : Int))] = true := by
      simp only [cutsB, List.all_cons, List.all_nil, cutB, Bool.and_true, Bool.and_eq_true]
      exact ⟨⟨inB_mk (by omega), inB_mk (by omega)⟩, by simp⟩
    have a2 : overB zs [((z : Int), (s : Int))] = false := by simp [overB]; omega
    have a3 : (sumsOf [((z : Int), (s : Int))]).all (fun z => decide (z ≤ 20)) = true := by
      rw [sums_one z s (by omega), List.all_eq_true]
      intro x hx
      unfold oneAt at hx
      rcases List.mem_or_eq_of_mem_set hx with e | e
      · have := List.eq_of_mem_replicate e; subst this; rfl
      · subst e; exact decide_eq_true (by omega)
    simp [cutAsk, hv, a1, a2, a3]
  have he : applyI nm ps zs [((z : Int), (s : Int))] = doneR nm (mapK (turn1 zs z s) ps ps.length) := by
    simp only [applyI, hc, if_true]
    rw [sums_one z s (by omega), turnT_one zs 8 z s (by omega)]
  rw [he]
  unfold okSteps
  cases h : profB nm (mapK (turn1 zs z s) ps ps.length)
  · rw [doneR_f h]; rfl
  · rw [doneR_t h]; rfl
theorem roomK_at (nm : ByteArray) (ps : List (Int × Int × Int)) (zs : List Int) : ∀ n k, k < n → (roomK nm ps zs n).getD k 0 = ((mostI nm ps zs k : Nat) : Int)
  | 0, k, h => by omega
  | n + 1, k, h => by
    have hl := roomK_len nm ps zs n
    unfold roomK
    rcases Nat.lt_or_ge k n with e | e
    · have := roomK_at nm ps zs n k e
      rw [← this]
      simp [List.getD, List.getElem?_append_left (show k < (roomK nm ps zs n).length by omega)]
    · obtain rfl : k = n := by omega
      simp [List.getD, List.getElem?_append_right (show (roomK nm ps zs k).length ≤ k by omega), hl]

end Go.Proofs.Ytmeeibcbhjifbaa

/- A cut of one step: partials never rise, one zone's mean wall becomes less by one step: plain. -/
namespace Go.Proofs.Ytmeeibcbhjifbaa
set_option linter.unusedVariables false
open Go.RowKit Go.Proofs.Bell Go.BigFrame

theorem wsK_step {ps qs : List (Int × Int × Int)} {a : Nat} {t : Int} : ∀ j, (∀ i, i < j → wallT (rg qs (a + i)) = wallT (rg ps (a + i)) - t) → wsK qs a j = wsK ps a j - t * (j : Int)
  | 0, _ => by simp [wsK]
  | j + 1, h => by
    have h1 := wsK_step j (fun i hi => h i (by omega))
    have h2 := h j (by omega)
    rw [wsK, wsK, h1, h2]
    push_cast
    rw [Int.mul_add]
    omega
theorem rnd_shift {S d t : Int} (hd : 1 ≤ d) (h : 0 ≤ S - t * d) (ht : 0 ≤ t) : rnd (S - t * d) d = rnd S d - t := by
  have h0 : 0 ≤ t * d := Int.mul_nonneg ht (by omega)
  unfold rnd
  rw [if_neg (by omega), if_neg (by omega)]
  have e : 2 * S + d = 2 * (S - t * d) + d + t * (2 * d) := by
    have : t * (2 * d) = 2 * (t * d) := by rw [Int.mul_left_comm]
    omega
  rw [e, Int.add_mul_ediv_right _ _ (by omega)]
  omega
theorem momK_mono {A B row : List Int} : ∀ k : Nat, (∀ z, z < k → A.getD z 0 ≤ B.getD z 0) → (∀ z, 0 ≤ row.getD z 0) → momK A row k ≤ momK B row k
  | 0, _, _ => by simp [momK]
  | k + 1, h, hr => by
    have h1 := momK_mono k (fun z hz => h z (by omega)) hr
    have h2 : row.getD k 0 * A.getD k 0 ≤ row.getD k 0 * B.getD k 0 := Int.mul_le_mul_of_nonneg_left (h k (by omega)) (hr k)
    rw [momK, momK]
    omega
theorem diffK_at (a b : List Int) : ∀ n k, k < n → (diffK a b n).getD k 0 = a.getD k 0 - b.getD k 0
  | 0, _, h => absurd h (Nat.not_lt_zero _)
  | n + 1, k, h => by
    have hl := diffK_len a b n
    rw [diffK]
    rcases Nat.lt_or_ge k n with h1 | h1
    · rw [← diffK_at a b n k h1]
      simp [List.getD, List.getElem?_append_left (show k < (diffK a b n).length by omega)]
    · obtain rfl : k = n := by omega
      simp [List.getD, List.getElem?_append_right (show (diffK a b k).length ≤ k by omega), hl]

/-- the shape of a profile with one step taken from one zone -/
theorem one_step {nm : ByteArray} {ps : List (Int × Int × Int)} {zs : List Int} {zone : Nat} (hz : zone < zs.length) (h8 : zs.length ≤ 8) (h : (applyI nm ps zs [((zone : Int), 1)]).2.2 = 0) :
    ∃ qs, applyI nm ps zs [((zone : Int), 1)] = (nm, qs, 0) ∧ qs.length = ps.length ∧ profB nm qs = true ∧ ∀ k, k < ps.length → (rg qs k).1 = (rg ps k).1 ∧ wallT (rg qs k) = wallT (rg ps k) - (if zoneI zs k = zone then 10 else 0) := by
  by_cases t0 : cutAsk nm ps zs [((zone : Int), 1)] = 0
  · have he : applyI nm ps zs [((zone : Int), 1)] = doneR nm (mapK (turn1 zs zone 1) ps ps.length) := by
      have : (sumsOf [((zone : Int), 1)]) = oneAt 8 zone 1 := sums_one zone 1 (by omega)
      simp only [applyI, t0, if_true]
      rw [this, turnT_one zs 8 zone 1 (by omega)]
    rw [he] at h ⊢
    obtain ⟨h1, _, _⟩ := doneR_ok h
    refine ⟨_, doneR_t h1, mapK_len _ _ _, h1, fun k hk => ?_⟩
    rw [mapK_rg _ _ _ _ hk]
    refine ⟨rfl, ?_⟩
    simp only [turn1, wallT]
    split <;> omega
  · have he : applyI nm ps zs [((zone : Int), 1)] = (⟨#[]⟩, [], cutAsk nm ps zs [((zone : Int), 1)]) := by simp [applyI, t0]
    rw [he] at h
    exact absurd h t0

theorem sens_law {zs : List Int} {ws : List (List Int)} {bs : List Int} {nm : ByteArray} {ps : List (Int × Int × Int)} {zone : Int} (h : (senI zs ws bs nm ps zone).2 = 0) :
    ∃ (qs : List (Int × Int × Int)) (z0 : Nat), zone = (z0 : Int) ∧ z0 < zs.length ∧ zs.length ≤ 8 ∧ applyI nm ps zs [(zone, 1)] = (nm, qs, 0) ∧ profB nm ps = true ∧ profB nm qs = true ∧ rawI zs ws bs nm ps = (rawL ps zs ws bs, 0) ∧ rawI zs ws bs nm qs = (rawL qs zs ws bs, 0)
      ∧ zoneWallsI nm ps zs = (zwK ps zs zs.length, 0) ∧ zoneWallsI nm qs zs = (zwK qs zs zs.length, 0) ∧ (senI zs ws bs nm ps zone).1 = diffK (rawL ps zs ws bs) (rawL qs zs ws bs) 5
      ∧ (∀ k, k < 5 → 0 ≤ (diffK (rawL ps zs ws bs) (rawL qs zs ws bs) 5).getD k 0 ∧ (rawL ps zs ws bs).getD k 0 - (rawL qs zs ws bs).getD k 0 = (diffK (rawL ps zs ws bs) (rawL qs zs ws bs) 5).getD k 0)
      ∧ (∀ z, z < zs.length → (zwK ps zs zs.length).getD z 0 - (zwK qs zs zs.length).getD z 0 = if z = z0 then 10 else 0) := by
  unfold senI at h ⊢
  by_cases t0 : modAsk zs ws bs nm ps = 0
  case neg => rw [if_neg t0] at h; exact absurd h t0
  rw [if_pos t0] at h ⊢
  cases t1 : inB zone 0 ((zs.length : Int) - 1)
  · rw [t1] at h; simp at h
  rw [t1] at h
  simp only [if_true] at h ⊢
  by_cases t2 : (applyI nm ps zs [(zone, 1)]).2.2 = 0
  case neg => rw [if_neg t2] at h; simp at h
  rw [if_pos t2]
  obtain ⟨m1, m2, m3⟩ := modAsk_ok t0
  obtain ⟨z1, z2⟩ := inB_t t1
  obtain ⟨z0, rfl⟩ : ∃ z0 : Nat, zone = (z0 : Int) := ⟨zone.toNat, by omega⟩
  have hz0 : z0 < zs.length := by omega
  have h8 := (zones_len m3).2
  obtain ⟨qs, e1, e2, e3, e4⟩ := one_step hz0 h8 t2
  have hv1 : vzB nm ps zs = true := by simp [vzB, m2, m3]
  have hv2 : vzB nm qs zs = true := by simp [vzB, e3, e2, m3]
  have hm2 : modAsk zs ws bs nm qs = 0 := by simp [modAsk, m1, e3, hv2]
  obtain ⟨hl1, hl2, hal, hht⟩ := profB_t m2
  obtain ⟨ql1, ql2, qal, qht⟩ := profB_t e3
  have hzq : zonesB zs ((qs.length : Int) - 1) = true := by rw [e2]; exact m3
  have hw : ∀ z, z < zs.length → (zwK ps zs zs.length).getD z 0 - (zwK qs zs zs.length).getD z 0 = if z = z0 then 10 else 0 := fun z hz => by
    rw [zw_at ps zs _ _ hz, zw_at qs zs _ _ hz, e2]
    obtain ⟨a1, a2, a3⟩ := zones_at m3 hz
    have hb := wsK_bd qal (zs.getD z 0).toNat (zEnd zs ps.length z - zs.getD z 0).toNat (by omega)
    have hst := wsK_step (ps := ps) (qs := qs) (a := (zs.getD z 0).toNat) (t := if z = z0 then 10 else 0) (zEnd zs ps.length z - zs.getD z 0).toNat (fun i hi => by
      rw [(e4 _ (by omega)).2, zoneI_at m3 hz (show zs.getD z 0 ≤ (((zs.getD z 0).toNat + i : Nat) : Int) by omega) (by omega)])
    have hd : (((zEnd zs ps.length z - zs.getD z 0).toNat : Nat) : Int) = zEnd zs ps.length z - zs.getD z 0 := by omega
    rw [hd] at hst
    rw [hst]
    rw [hst] at hb
    rw [rnd_shift (by omega) hb.1 (by split <;> omega)]
    omega
  have hlip : lipI qs = lipI ps := by unfold lipI; rw [(e4 0 (by omega)).1]
  have hlb := lipI_bd hl1 hal
  have hd : ∀ k, k < 5 → 0 ≤ (rawL ps zs ws bs).getD k 0 - (rawL qs zs ws bs).getD k 0 := fun k hk => by
    unfold rawL
    rw [rawK_at _ _ _ _ _ _ hk, rawK_at _ _ _ _ _ _ hk, hlip, zwK_len, zwK_len]
    obtain ⟨r1, r2, r3, r4⟩ := row_bd m1 k hk
    have hmm := momK_mono (A := zwK qs zs zs.length) (B := zwK ps zs zs.length) (row := ws.getD k []) zs.length (fun z hz => by have := hw z hz; split at this <;> omega) (fun z => (r2 z).1)
    have hq0 := (momK_bd (walls := zwK qs zs zs.length) (row := ws.getD k []) (zw_bd qal hzq) r2 zs.length).1
    have := rnd_mono (a := bs.getD k 0 * momK (zwK qs zs zs.length) (ws.getD k []) zs.length) (b := bs.getD k 0 * momK (zwK ps zs zs.length) (ws.getD k []) zs.length) (m := lipI ps) (Int.mul_nonneg (by omega) hq0) (Int.mul_le_mul_of_nonneg_left hmm (by omega)) hlb.1
    omega
  refine ⟨qs, z0, rfl, hz0, h8, e1, m2, e3, by simp [rawI, t0], by simp [rawI, hm2], by simp [zoneWallsI, m2, hv1], by simp [zoneWallsI, e3, hv2], by rw [e1], fun k hk => ?_, hw⟩
  rw [diffK_at _ _ _ _ hk]
  exact ⟨hd k hk, rfl⟩

end Go.Proofs.Ytmeeibcbhjifbaa

/- By how much partials become less: the reference. -/
namespace Go.Proofs.Ytmeeibcbhjifbaa
set_option linter.unusedVariables false
open Go.RowKit Go.Proofs.Bell Go.BigFrame

theorem rd_cut1 {w : World} {b : Nat} {a0 a1 : Int} (hb : b < w.heap.size) (h0 : w.cell? ⟨b, 0, none⟩ = some (.int .i64 a0)) (h1 : w.cell? ⟨b, 1, none⟩ = some (.int .i64 a1)) : Rd w (.slice (some ⟨b, 0, none⟩) 1 1) 1 (pairs [(a0, a1)]) := by
  refine ⟨by decide, .inr ⟨by decide, b, 0, 1, rfl, by decide, by decide, hb, fun j u hj => ?_⟩⟩
  match j, hj with
  | 0, hj => simp [pairs] at hj; subst hj; simpa using h0
  | 1, hj => simp [pairs] at hj; subst hj; simpa using h1
  | n + 2, hj => simp [pairs] at hj

end Go.Proofs.Ytmeeibcbhjifbaa

/- By how much partials become less: the program. -/
namespace Go.Proofs.Ytmeeibcbhjifbaa
set_option linter.unusedVariables false
open Go.RowKit Go.Proofs.Bell Go.BigFrame

set_option maxRecDepth 100000 in
set_option maxHeartbeats 6400000 in
theorem implSensitivity_c (zv wv bv : Value) (zs : List Int) (ws : List (List Int)) (bs : List Int) (nm : ByteArray) (sv : Value) (ps : List (Int × Int × Int)) (zone : Int) (w : World) (hz : Rd w zv zs.length (ints zs)) (hw : RdSS w wv ws) (hb : Rd w bv bs.length (ints bs)) (hnm : nm.size ≤ maxLen) (hr : Rd w sv ps.length (trips ps)) :
    Calls Try.prog 26 #[.agg #[zv, wv, bv], .agg #[.string nm, sv], .int .i64 zone] w (RetI2 (senI zs ws bs nm ps zone).1 (.int .i64 (senI zs ws bs nm ps zone).2) w) := by
  have hask := fun w' (hx : Below w.heap.size w w') => modelled_c zv wv bv zs ws bs nm sv ps w' (hz.later hx) (hw.later hx) (hb.later hx) hnm (hr.later hx)
  by_cases t0 : ¬ modAsk zs ws bs nm ps = 0
  · have he : senI zs ws bs nm ps zone = ([], modAsk zs ws bs nm ps) := by simp [senI, t0]
    rw [he]
    have t1 : (modAsk zs ws bs nm ps == 0) = false := by simp [t0]
    generalize modAsk zs ws bs nm ps = code at *
    have HASK := Lib.hid hask; clear hask
    clear he hz hw hb hr
    go_enter Try.func26, Try.ntmps26
    have b0 : Below w.heap.size w w := Below.refl _ _
    have z0 : w.heap.size ≤ w.heap.size := Nat.le_refl _
    go_wp2_with fail
    refine (HASK.out _ (by go_grown)).mono ?_
    rintro _ w1 ⟨rfl, r1⟩
    have s1 : Below w.heap.size w w1 := Below.trans (by go_grown) (r1.mono (by simp; try omega))
    have b1 := b0.trans (s1.mono z0)
    have z1 := b1.size
    have y1 := s1.size
    have c0_0_1 := below_cell r1 (p := ⟨w.heap.size, 0, none⟩) (v := zv) (by simp [go_sem])
    have c0_1_1 := below_cell r1 (p := ⟨w.heap.size, 1, none⟩) (v := wv) (by simp [go_sem])
    have c0_2_1 := below_cell r1 (p := ⟨w.heap.size, 2, none⟩) (v := bv) (by simp [go_sem])
    have c1_0_1 := below_cell r1 (p := ⟨w.heap.size + 1, 0, none⟩) (v := .string nm) (by simp [go_sem])
    have c1_1_1 := below_cell r1 (p := ⟨w.heap.size + 1, 1, none⟩) (v := sv) (by simp [go_sem])
    clear r1
    go_wp2
    go_returns
    exact ⟨_, rfl, World.ownsRow_nil _ _ _ _, b1⟩
  · have t0 : modAsk zs ws bs nm ps = 0 := Classical.not_not.1 t0
    rw [t0] at hask
    have hin := fun w' => within_c zone 0 ((zs.length : Int) - 1) w'
    have hsz := fun w' (hx : Below w.heap.size w w') => size64_c zv zs.length (ints zs) w' (hz.later hx)
    have hap := fun w' u (hx : Below w.heap.size w w') (hu : Rd w' u 1 (pairs [(zone, 1)])) => implApplyCuts_c nm sv ps zv zs u [(zone, 1)] w' hnm (hr.later hx) (hz.later hx) hu
    have HSZ := Lib.hid hsz; clear hsz
    have hzl := hz.1
    have HASK := Lib.hid hask; clear hask
    have HIN := Lib.hid hin; clear hin
    cases t1 : inB zone 0 ((zs.length : Int) - 1) <;> rw [t1] at HIN
    · have he : senI zs ws bs nm ps zone = ([], 2) := by simp [senI, t0, t1]
      rw [he]
      obtain ⟨hnq, aoq, capq, bq, offq, rfl, haoq, hcellq⟩ := hz.open
      generalize applyI nm ps zs [(zone, 1)] = RES at *
      have HAP := Lib.hid hap; clear hap
      clear he hz hw hb hr hcellq haoq
      generalize zs.length = n at *
      go_enter Try.func26, Try.ntmps26
      have b0 : Below w.heap.size w w := Below.refl _ _
      have z0 : w.heap.size ≤ w.heap.size := Nat.le_refl _
      go_wp2_with fail
      refine (HASK.out _ (by go_grown)).mono ?_
      rintro _ w1 ⟨rfl, r1⟩
      have s1 : Below w.heap.size w w1 := Below.trans (by go_grown) (r1.mono (by simp; try omega))
      have b1 := b0.trans (s1.mono z0)
      have z1 := b1.size
      have y1 := s1.size
      have c0_0_1 := below_cell r1 (p := ⟨w.heap.size, 0, none⟩) (v := .slice aoq n capq) (by simp [go_sem])
      have c0_1_1 := below_cell r1 (p := ⟨w.heap.size, 1, none⟩) (v := wv) (by simp [go_sem])
      have c0_2_1 := below_cell r1 (p := ⟨w.heap.size, 2, none⟩) (v := bv) (by simp [go_sem])
      have c1_0_1 := below_cell r1 (p := ⟨w.heap.size + 1, 0, none⟩) (v := .string nm) (by simp [go_sem])
      have c1_1_1 := below_cell r1 (p := ⟨w.heap.size + 1, 1, none⟩) (v := sv) (by simp [go_sem])
      clear r1
      have e0 := fun o => alloc_cell o c0_0_1
      have e1 := fun o => alloc_cell o c1_0_1
      have e2 := fun o => alloc_cell o c1_1_1
      go_wp2_with fail
      have k1 : Below w1.heap.size w1 (w1.alloc (.cells #[.int .i64 zone, .int .i64 1] 63)) := (Below.refl _ _).alloc (Nat.le_refl _) _
      have hu : Rd (w1.alloc (.cells #[.int .i64 zone, .int .i64 1] 63)) (.slice (some ⟨w1.heap.size, 0, none⟩) 1 1) 1 (pairs [(zone, 1)]) := rd_cut1 (by simp) (by simp [go_sem]) (by simp [go_sem])
      clear e0 e1 e2
      generalize w1.alloc (.cells #[.int .i64 zone, .int .i64 1] 63) = wa at *
      have s2 := k1
      have b2 := b1.trans (s2.mono z1)
      have z2 := b2.size
      have y2 := s2.size
      have c0_0_2 := below_cell s2 c0_0_1; clear c0_0_1
      have c0_1_2 := below_cell s2 c0_1_1; clear c0_1_1
      have c0_2_2 := below_cell s2 c0_2_1; clear c0_2_1
      have c1_0_2 := below_cell s2 c1_0_1; clear c1_0_1
      have c1_1_2 := below_cell s2 c1_1_1; clear c1_1_1
      have HU := Lib.hid hu; clear hu
      go_wp2_with fail
      refine (HAP.out _ _ b2 HU.out).mono ?_
      rintro _ w3 ⟨x3, rfl, n3, r3⟩
      have s3 := r3
      have b3 := b2.trans (s3.mono z2)
      have z3 := b3.size
      have y3 := s3.size
      have c0_0_3 := below_cell s3 c0_0_2; clear c0_0_2
      have c0_1_3 := below_cell s3 c0_1_2; clear c0_1_2
      have c0_2_3 := below_cell s3 c0_2_2; clear c0_2_2
      have c1_0_3 := below_cell s3 c1_0_2; clear c1_0_2
      have c1_1_3 := below_cell s3 c1_1_2; clear c1_1_2
      clear r3
      obtain ⟨a4, p4, rfl⟩ := own_shape n3
      have e0 := fun o => alloc_cell o c0_0_3
      clear n3
      go_wp2_with fail
      refine (HSZ.out _ (by go_grown)).mono ?_
      rintro _ _ ⟨rfl, rfl⟩
      go_wp2_with fail
      refine (HIN.out _).mono ?_
      rintro _ _ ⟨rfl, rfl⟩
      go_wp2
      go_returns
      exact ⟨_, rfl, World.ownsRow_nil _ _ _ _, by go_grown⟩
    · skip
      by_cases t2 : ¬ (applyI nm ps zs [(zone, 1)]).2.2 = 0
      · have he : senI zs ws bs nm ps zone = ([], 6) := by simp [senI, t0, t1, t2]
        rw [he]
        generalize applyI nm ps zs [(zone, 1)] = RES at *
        obtain ⟨hnq, aoq, capq, bq, offq, rfl, haoq, hcellq⟩ := hz.open
        have HAP := Lib.hid hap; clear hap
        clear he hz hw hb hr hcellq haoq t0 t1
        generalize zs.length = n at *
        go_enter Try.func26, Try.ntmps26
        have b0 : Below w.heap.size w w := Below.refl _ _
        have z0 : w.heap.size ≤ w.heap.size := Nat.le_refl _
        go_wp2_with fail
        refine (HASK.out _ (by go_grown)).mono ?_
        rintro _ w1 ⟨rfl, r1⟩
        have s1 : Below w.heap.size w w1 := Below.trans (by go_grown) (r1.mono (by simp; try omega))
        have b1 := b0.trans (s1.mono z0)
        have z1 := b1.size
        have y1 := s1.size
        have c0_0_1 := below_cell r1 (p := ⟨w.heap.size, 0, none⟩) (v := .slice aoq n capq) (by simp [go_sem])
        have c0_1_1 := below_cell r1 (p := ⟨w.heap.size, 1, none⟩) (v := wv) (by simp [go_sem])
        have c0_2_1 := below_cell r1 (p := ⟨w.heap.size, 2, none⟩) (v := bv) (by simp [go_sem])
        have c1_0_1 := below_cell r1 (p := ⟨w.heap.size + 1, 0, none⟩) (v := .string nm) (by simp [go_sem])
        have c1_1_1 := below_cell r1 (p := ⟨w.heap.size + 1, 1, none⟩) (v := sv) (by simp [go_sem])
        clear r1
        have e0 := fun o => alloc_cell o c0_0_1
        have e1 := fun o => alloc_cell o c1_0_1
        have e2 := fun o => alloc_cell o c1_1_1
        go_wp2_with fail
        have k1 : Below w1.heap.size w1 (w1.alloc (.cells #[.int .i64 zone, .int .i64 1] 63)) := (Below.refl _ _).alloc (Nat.le_refl _) _
        have hu : Rd (w1.alloc (.cells #[.int .i64 zone, .int .i64 1] 63)) (.slice (some ⟨w1.heap.size, 0, none⟩) 1 1) 1 (pairs [(zone, 1)]) := rd_cut1 (by simp) (by simp [go_sem]) (by simp [go_sem])
        clear e0 e1 e2
        generalize w1.alloc (.cells #[.int .i64 zone, .int .i64 1] 63) = wa at *
        have s2 := k1
        have b2 := b1.trans (s2.mono z1)
        have z2 := b2.size
        have y2 := s2.size
        have c0_0_2 := below_cell s2 c0_0_1; clear c0_0_1
        have c0_1_2 := below_cell s2 c0_1_1; clear c0_1_1
        have c0_2_2 := below_cell s2 c0_2_1; clear c0_2_1
        have c1_0_2 := below_cell s2 c1_0_1; clear c1_0_1
        have c1_1_2 := below_cell s2 c1_1_1; clear c1_1_1
        have HU := Lib.hid hu; clear hu
        go_wp2_with fail
        refine (HAP.out _ _ b2 HU.out).mono ?_
        rintro _ w3 ⟨x3, rfl, n3, r3⟩
        have s3 := r3
        have b3 := b2.trans (s3.mono z2)
        have z3 := b3.size
        have y3 := s3.size
        have c0_0_3 := below_cell s3 c0_0_2; clear c0_0_2
        have c0_1_3 := below_cell s3 c0_1_2; clear c0_1_2
        have c0_2_3 := below_cell s3 c0_2_2; clear c0_2_2
        have c1_0_3 := below_cell s3 c1_0_2; clear c1_0_2
        have c1_1_3 := below_cell s3 c1_1_2; clear c1_1_2
        clear r3
        obtain ⟨a4, p4, rfl⟩ := own_shape n3
        have e0 := fun o => alloc_cell o c0_0_3
        clear n3
        go_wp2_with fail
        refine (HSZ.out _ (by go_grown)).mono ?_
        rintro _ _ ⟨rfl, rfl⟩
        go_wp2_with fail
        refine (HIN.out _).mono ?_
        rintro _ _ ⟨rfl, rfl⟩
        go_wp2
        go_returns
        exact ⟨_, rfl, World.ownsRow_nil _ _ _ _, by go_grown⟩
      · have t2 : (applyI nm ps zs [(zone, 1)]).2.2 = 0 := Classical.not_not.1 t2
        obtain ⟨m1, m2, m3⟩ := modAsk_ok t0
        obtain ⟨hl1, hl2, hal, hht⟩ := profB_t m2
        obtain ⟨hp2, hq2⟩ := applyI_zones t2
        obtain ⟨_, hql, hqa⟩ := applyI_ok t2
        have he : senI zs ws bs nm ps zone = (diffK (rawL ps zs ws bs) (rawL (applyI nm ps zs [(zone, 1)]).2.1 zs ws bs) 5, 0) := by simp [senI, t0, t1, t2]
        rw [he]
        generalize hRES : applyI nm ps zs [(zone, 1)] = RES at *
        clear hRES
        obtain ⟨rn, qs, rc⟩ := RES
        simp only at *
        subst t2 hq2
        have hzq : zonesB zs ((qs.length : Int) - 1) = true := by rw [hql]; exact m3
        have hraw := fun w' (hx : Below w.heap.size w w') => rawPartials_c zv wv bv zs ws bs rn sv ps w' (hz.later hx) (hw.later hx) (hb.later hx) (hr.later hx) m1 hl1 hl2 hal m3
        have hraw2 := fun w' u (hx : Below w.heap.size w w') (hu : Rd w' u qs.length (trips qs)) => rawPartials_c zv wv bv zs ws bs rn u qs w' (hz.later hx) (hw.later hx) (hb.later hx) hu m1 (by omega) (by omega) hqa hzq
        have hsv : ∃ ao n cap, sv = .slice ao n cap := by obtain ⟨_, ao, cap, _, _, h, _⟩ := hr.open; exact ⟨_, _, _, h⟩
        have hwv : ∃ ao n cap, wv = .slice ao n cap := by obtain ⟨us, _, hru, _⟩ := hw; obtain ⟨_, ao, cap, _, _, h, _⟩ := hru.open; exact ⟨_, _, _, h⟩
        have hbv : ∃ ao n cap, bv = .slice ao n cap := by obtain ⟨_, ao, cap, _, _, h, _⟩ := hb.open; exact ⟨_, _, _, h⟩
        obtain ⟨aos, ns, caps, rfl⟩ := hsv
        obtain ⟨aow, nw, capw, rfl⟩ := hwv
        obtain ⟨aob, nb, capb, rfl⟩ := hbv
        have hbd1 := fun k hk => raw_bd m1 hl1 hal m3 (k := k) hk
        have hbd2 := fun k hk => raw_bd (ps := qs) m1 (by omega) hqa hzq (k := k) hk
        have hln1 : (rawL ps zs ws bs).length = 5 := rawK_len _ _ _ _ _
        have hln2 : (rawL qs zs ws bs).length = 5 := rawK_len _ _ _ _ _
        generalize rawL ps zs ws bs = r1 at *
        generalize rawL qs zs ws bs = r2 at *
        have hst := fun k => (show diffK r1 r2 k ++ [r1.getD k 0 - r2.getD k 0] = diffK r1 r2 (k + 1) from rfl)
        have hdl := diffK_len r1 r2
        obtain ⟨hnq, aoq, capq, bq, offq, rfl, haoq, hcellq⟩ := hz.open
        have HAP := Lib.hid hap; clear hap
        have HRAW := Lib.hid hraw; clear hraw
        have HRAW2 := Lib.hid hraw2; clear hraw2
        have HBD1 := Lib.hid hbd1; clear hbd1
        have HBD2 := Lib.hid hbd2; clear hbd2
        have HST := Lib.hid hst; clear hst
        have HDL := Lib.hid hdl; clear hdl
        clear he hz hw hb hr hcellq haoq t0 t1 m1 m2 m3 hht hal hp2 hqa hzq
        generalize zs.length = n at *
        go_enter Try.func26, Try.ntmps26
        have b0 : Below w.heap.size w w := Below.refl _ _
        have z0 : w.heap.size ≤ w.heap.size := Nat.le_refl _
        go_wp2_with fail
        refine (HASK.out _ (by go_grown)).mono ?_
        rintro _ w1 ⟨rfl, r1⟩
        have s1 : Below w.heap.size w w1 := Below.trans (by go_grown) (r1.mono (by simp; try omega))
        have b1 := b0.trans (s1.mono z0)
        have z1 := b1.size
        have y1 := s1.size
        have c0_0_1 := below_cell r1 (p := ⟨w.heap.size, 0, none⟩) (v := .slice aoq n capq) (by simp [go_sem])
        have c0_1_1 := below_cell r1 (p := ⟨w.heap.size, 1, none⟩) (v := .slice aow nw capw) (by simp [go_sem])
        have c0_2_1 := below_cell r1 (p := ⟨w.heap.size, 2, none⟩) (v := .slice aob nb capb) (by simp [go_sem])
        have c1_0_1 := below_cell r1 (p := ⟨w.heap.size + 1, 0, none⟩) (v := .string rn) (by simp [go_sem])
        have c1_1_1 := below_cell r1 (p := ⟨w.heap.size + 1, 1, none⟩) (v := .slice aos ns caps) (by simp [go_sem])
        clear r1
        have e0 := fun o => alloc_cell o c0_0_1
        have e1 := fun o => alloc_cell o c1_0_1
        have e2 := fun o => alloc_cell o c1_1_1
        go_wp2_with fail
        have k1 : Below w1.heap.size w1 (w1.alloc (.cells #[.int .i64 zone, .int .i64 1] 63)) := (Below.refl _ _).alloc (Nat.le_refl _) _
        have hu : Rd (w1.alloc (.cells #[.int .i64 zone, .int .i64 1] 63)) (.slice (some ⟨w1.heap.size, 0, none⟩) 1 1) 1 (pairs [(zone, 1)]) := rd_cut1 (by simp) (by simp [go_sem]) (by simp [go_sem])
        clear e0 e1 e2
        generalize w1.alloc (.cells #[.int .i64 zone, .int .i64 1] 63) = wa at *
        have s2 := k1
        have b2 := b1.trans (s2.mono z1)
        have z2 := b2.size
        have y2 := s2.size
        have c0_0_2 := below_cell s2 c0_0_1; clear c0_0_1
        have c0_1_2 := below_cell s2 c0_1_1; clear c0_1_1
        have c0_2_2 := below_cell s2 c0_2_1; clear c0_2_1
        have c1_0_2 := below_cell s2 c1_0_1; clear c1_0_1
        have c1_1_2 := below_cell s2 c1_1_1; clear c1_1_1
        have HU := Lib.hid hu; clear hu
        go_wp2_with fail
        refine (HAP.out _ _ b2 HU.out).mono ?_
        rintro _ w3 ⟨x3, rfl, n3, r3⟩
        have s3 := r3
        have b3 := b2.trans (s3.mono z2)
        have z3 := b3.size
        have y3 := s3.size
        have c0_0_3 := below_cell s3 c0_0_2; clear c0_0_2
        have c0_1_3 := below_cell s3 c0_1_2; clear c0_1_2
        have c0_2_3 := below_cell s3 c0_2_2; clear c0_2_2
        have c1_0_3 := below_cell s3 c1_0_2; clear c1_0_2
        have c1_1_3 := below_cell s3 c1_1_2; clear c1_1_2
        clear r3
        obtain ⟨a4, p4, rfl⟩ := own_shape n3
        have rq := Rd.of_own n3
        rw [hql] at rq
        rw [hql]
        have HQL := Lib.hid hql; clear hql
        have RQ := Lib.hid rq; clear rq
        clear n3
        have e0 := fun o => alloc_cell o c0_0_3
        have kb3 : ∀ o, Below w3.heap.size w3 (w3.alloc o) := fun o => (Below.refl _ _).alloc (Nat.le_refl _) o
        have e4 : ∀ t, (w3.alloc (.cells #[.string rn, .slice a4 ps.length p4] t)).cell? ⟨w3.heap.size, 1, none⟩ = some (.slice a4 ps.length p4) := fun t => by simp [go_sem]
        have e5 : ∀ t, (w3.alloc (.cells #[.string rn, .slice a4 ps.length p4] t)).cell? ⟨w3.heap.size, 0, none⟩ = some (.string rn) := fun t => by simp [go_sem]
        go_wp2_with fail
        generalize hW4 : w3.alloc (.cells #[.string rn, .slice a4 ps.length p4] 31) = w4 at *
        have k4 : Below w3.heap.size w3 w4 := by rw [← hW4]; exact kb3 _
        have c9 : w4.cell? ⟨w3.heap.size, 1, none⟩ = some (.slice a4 ps.length p4) := by rw [← hW4]; exact e4 _
        have c8 : w4.cell? ⟨w3.heap.size, 0, none⟩ = some (.string rn) := by rw [← hW4]; exact e5 _
        have rq4 := RQ.out.later k4
        have RQ4 := Lib.hid rq4; clear rq4
        clear hW4 e0 e4 e5 kb3
        have s4 := k4
        have b4 := b3.trans (s4.mono z3)
        have z4 := b4.size
        have y4 := s4.size
        have c0_0_4 := below_cell s4 c0_0_3; clear c0_0_3
        have c0_1_4 := below_cell s4 c0_1_3; clear c0_1_3
        have c0_2_4 := below_cell s4 c0_2_3; clear c0_2_3
        have c1_0_4 := below_cell s4 c1_0_3; clear c1_0_3
        have c1_1_4 := below_cell s4 c1_1_3; clear c1_1_3
        go_wp2_with fail
        refine (HSZ.out _ b4).mono ?_
        rintro _ _ ⟨rfl, rfl⟩
        go_wp2_with fail
        refine (HIN.out _).mono ?_
        rintro _ _ ⟨rfl, rfl⟩
        have hb4 := b4
        have hz4 := z4
        have ht1 : ∀ w', Below w4.heap.size w4 w' → Calls Try.prog 76 #[.agg #[.slice aoq n capq, .slice aow nw capw, .slice aob nb capb], .agg #[.string rn, .slice aos ns caps]] w' (fun e w'' => ∃ u, e = .returned u ∧ Rd w'' u r1.length (ints r1) ∧ Below w'.heap.size w' w'' ∧ Below w4.heap.size w4 w'') := fun w' hx => (HRAW.out w' (hb4.trans (hx.mono hz4))).mono fun _ _ ⟨v, e, o, b⟩ => ⟨v, e, Rd.of_own o, b, hx.trans (b.mono hx.size)⟩
        have ht2 : ∀ w', Below w4.heap.size w4 w' → Calls Try.prog 76 #[.agg #[.slice aoq n capq, .slice aow nw capw, .slice aob nb capb], .agg #[.string rn, .slice a4 ps.length p4]] w' (fun e w'' => ∃ u, e = .returned u ∧ Rd w'' u r2.length (ints r2) ∧ Below w'.heap.size w' w'' ∧ Below w4.heap.size w4 w'') := fun w' hx => (HRAW2.out w' _ (hb4.trans (hx.mono hz4)) (by rw [HQL.out]; exact RQ4.out.later hx)).mono fun _ _ ⟨v, e, o, b⟩ => ⟨v, e, Rd.of_own o, b, hx.trans (b.mono hx.size)⟩
        have HT1 := Lib.hid ht1; clear ht1
        have HT2 := Lib.hid ht2; clear ht2
        go_wp2_with fail
        go_region_held3 (fun w' => w'.cell? ⟨w.heap.size, 0, none⟩ = some (.slice aoq n capq) ∧ w'.cell? ⟨w.heap.size, 1, none⟩ = some (.slice aow nw capw) ∧ w'.cell? ⟨w.heap.size, 2, none⟩ = some (.slice aob nb capb) ∧ w'.cell? ⟨w.heap.size + 1, 0, none⟩ = some (.string rn) ∧ w'.cell? ⟨w.heap.size + 1, 1, none⟩ = some (.slice aos ns caps) ∧ w'.cell? ⟨w3.heap.size, 0, none⟩ = some (.string rn) ∧ w'.cell? ⟨w3.heap.size, 1, none⟩ = some (.slice a4 ps.length p4)) (first | exact ⟨c0_0_4, c0_1_4, c0_2_4, c1_0_4, c1_1_4, c8, c9⟩ | exact ⟨below_cell BD2.out c0_0_4, below_cell BD2.out c0_1_4, below_cell BD2.out c0_2_4, below_cell BD2.out c1_0_4, below_cell BD2.out c1_1_4, below_cell BD2.out c8, below_cell BD2.out c9⟩ | exact ⟨below_cell BD1.out c0_0_4, below_cell BD1.out c0_1_4, below_cell BD1.out c0_2_4, below_cell BD1.out c1_0_4, below_cell BD1.out c1_1_4, below_cell BD1.out c8, below_cell BD1.out c9⟩ | go_keep) (first | (have _gd := BD1; go_at_call 76; refine (HT2.out _ (by first | exact BD1.out | go_grown)).mono ?_; rintro _ w6 ⟨x6, rfl, od2, qd2, bd2⟩; have BD2 := Lib.hid bd2; clear bd2; have od1 := OD1.out.later qd2; have OD1' := Lib.hid od1; clear od1; have OD2 := Lib.hid od2; clear od2; clear qd2) | (go_at_call 76; refine (HT1.out _ (by go_grown)).mono ?_; rintro _ w5 ⟨x5, rfl, od1, qd1, bd1⟩; have OD1 := Lib.hid od1; clear od1; have BD1 := Lib.hid bd1; clear bd1; clear qd1))
        have rd5 := OD1'.out
        have rd6 := OD2.out
        have b6 := hb4.trans (BD2.out.mono hz4)
        have z6 := b6.size
        rw [hln1] at rd5
        rw [hln2] at rd6
        obtain ⟨_, ao5, c5, bb5, off5, rfl, hao5, hcell5⟩ := rd5.open
        obtain ⟨_, ao6, c6, bb6, off6, rfl, hao6, hcell6⟩ := rd6.open
        obtain rfl : ao5 = some ⟨bb5, off5, none⟩ := hao5 (by omega)
        obtain rfl : ao6 = some ⟨bb6, off6, none⟩ := hao6 (by omega)
        have HLN1 := Lib.hid hln1; clear hln1
        have HLN2 := Lib.hid hln2; clear hln2
        have HC5 := Lib.hid hcell5; clear hcell5
        have HC6 := Lib.hid hcell6; clear hcell6
        have b6' := b6
        have z6' := z6
        clear rd5 rd6 c8 c9 HT1 HT2
        go_wp2_with fail
        go_loopw [50, 13] (fun i u wr => ∃ (k : Nat), k ≤ 5 ∧ i = .int .i64 k ∧ OwnI w6.heap.size wr u (diffK r1 r2 k) ∧ Below w6.heap.size w6 wr) (fun i _ _ => 5 - (intOf i).toNat)
        case atStart => exact ⟨0, Nat.zero_le _, rfl, World.ownsRow_nil _ _ _ _, Below.refl _ _⟩
        case round =>
          obtain ⟨k, hk, rfl, ho, hb⟩ := hrel
          have hlk := HDL.out k
          have HO := Lib.hid ho; clear ho
          by_cases hlt : k < 5
          · have hlt5 : decide ((k : Int) < 5) = true := by simp; omega
            have q1 : (0 : Int) ≤ (k : Int) := by omega
            have q2 : (k : Int) < 5 := by omega
            have hix5 := ix (P := Try.prog) (T := 38) (n := 5) (cap := c5) Try.underlying38 cells_int64 has_int64 (ao := some ⟨bb5, off5, none⟩) (b := bb5) (off := off5) (fun _ => rfl) (k := k) hlt _ rfl
            rw [Nat.mul_one] at hix5
            have hix6 := ix (P := Try.prog) (T := 38) (n := 5) (cap := c6) Try.underlying38 cells_int64 has_int64 (ao := some ⟨bb6, off6, none⟩) (b := bb6) (off := off6) (fun _ => rfl) (k := k) hlt _ rfl
            rw [Nat.mul_one] at hix6
            have hl1' : k < r1.length := by rw [HLN1.out]; exact hlt
            have hl2' : k < r2.length := by rw [HLN2.out]; exact hlt
            have d5 : wr.cell? ⟨bb5, off5 + k, none⟩ = some (.int .i64 (r1.getD k 0)) := by rw [getD_eq hl1']; exact HC5.out _ hb _ _ (by omega) (intsAt hl1')
            have d6 : wr.cell? ⟨bb6, off6 + k, none⟩ = some (.int .i64 (r2.getD k 0)) := by rw [getD_eq hl2']; exact HC6.out _ hb _ _ (by omega) (intsAt hl2')
            have hb1 := HBD1.out k hlt
            have hb2 := HBD2.out k hlt
            have hs := HST.out k
            have HS := Lib.hid hs; clear hs
            generalize r1.getD k 0 = y1 at *
            generalize r2.getD k 0 = y2 at *
            generalize diffK r1 r2 k = ds at *
            have g1 : IntKind.i64.wrap (y1 - y2) = y1 - y2 := IntWalk.i64_in _ (by omega)
            go_wp2_with fail
            refine wp_region_any (by kernel_rfl) ?_
            refine wpAny_take (i := 0) (v := _) rfl (by kernel_rfl) (by kernel_rfl) (by kernel_rfl) (fun _ _ _ h => h) (.inl ⟨rfl, fun _ => rfl⟩) ?_
            refine wpAny_pick (C := fun w' => ∃ m, w' = wr.drewN m) 10 [0] [1, 2, 3, 4, 5, 6, 7, 8, 9] [10, 11, 12] (by kernel_rfl) (by kernel_rfl) (by kernel_rfl) ⟨1, rfl⟩ ?_
            simp only [List.filterMap_cons, List.filterMap_nil, List.getElem?_cons_zero, List.getElem?_cons_succ]
            repeat (quiet_step (fail))
            refine wpQuiet_nil ?_
            rintro _ ⟨nq, rfl⟩
            have o5 := own_later HO.out (below_drewN (Below.refl _ _) nq)
            have b5' := below_drewN hb nq
            have lo5 := own_lo o5
            generalize wr.drewN nq = W9 at *
            have O5 := Lib.hid o5; clear o5
            have LO5 := Lib.hid lo5; clear lo5
            clear g1
            refine wpList_step ?_
            intro K hK
            go_simp
            refine hK _ _ ?_
            refine app_I (.tmp 53) (.tmp 63) _ _ _ _ _ (by rfl) (by rfl) (by rfl) (by rfl) O5.out (by omega) b5'.size ?_
            intro v2 w9 o9 q9
            have b9 := Only.below b5' q9 b5'.size (fun k h => by have := LO5.out k h; omega)
            go_wp2
            go_roundw
            case rel => exact ⟨k + 1, by omega, by go_num, by rw [← HS.out]; exact o9, b9⟩
            case measure => simp [intOf]; omega
          · obtain rfl : k = 5 := by omega
            go_wp2
            go_returns
            exact ⟨_, rfl, own_base HO.out z6', b6'.trans (hb.mono z6')⟩

end Go.Proofs.Ytmeeibcbhjifbaa

