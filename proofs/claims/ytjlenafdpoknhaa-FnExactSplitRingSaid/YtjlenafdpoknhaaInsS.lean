/- A ring is inserted: the reference's side. -/
import Derived.Test.YtjlenafdpoknhaaInsW
namespace Go.Proofs.Ytjlenafdpoknhaa
set_option linter.unusedVariables false
open Go.RowKit Go.Proofs.Bell Go.BigFrame

set_option maxRecDepth 100000 in
set_option maxHeartbeats 3200000 in
theorem specInsertRing_c (nm : ByteArray) (sv : Value) (ps : List (Int × Int × Int)) (k a b c : Int) (w : World) (hnm : nm.size ≤ maxLen) (hr : Rd w sv ps.length (trips ps)) :
    Calls Try.prog 14 #[.agg #[.string nm, sv], .int .i64 k, .agg #[.int .i64 a, .int .i64 b, .int .i64 c]] w (RetP2 (insI nm ps k a b c).1 (insI nm ps k a b c).2.1 (.int .i64 (insI nm ps k a b c).2.2) w) := by
  have hok := fun w' g hg c0 c1 (hb : Below w.heap.size w w') => l05Ok_c g nm sv ps w' hg hnm c0 c1 (hr.later hb)
  have hvr := fun w' g (x0 : w'.cell? ⟨g, 0, none⟩ = some (.int .i64 a)) (x1 : w'.cell? ⟨g, 1, none⟩ = some (.int .i64 b)) (x2 : w'.cell? ⟨g, 2, none⟩ = some (.int .i64 c)) => l05Ring_c a b c g 0 w' x0 x1 x2
  cases t0 : profB nm ps <;> rw [t0] at hok
  · have he : insI nm ps k a b c = (⟨#[]⟩, [], 1) := by simp [insI, t0]
    rw [he]
    have HOK := Lib.hid hok; clear hok
    clear he hr
    go_enter Try.func14, Try.ntmps14
    have b0 : Below w.heap.size w w := Below.refl _ _
    have z0 : w.heap.size ≤ w.heap.size := Nat.le_refl _
    go_wp2_with fail
    refine (HOK.out _ _ (by simp; try omega) (by simp [go_sem]) (by simp [go_sem]) (by go_grown)).mono ?_
    rintro _ w1 ⟨rfl, d1⟩
    have r1 := Dr.below d1; clear d1
    have s1 : Below w.heap.size w w1 := Below.trans (by go_grown) (r1.mono (by simp; try omega))
    have b1 := b0.trans (s1.mono z0)
    have z1 := b1.size
    have y1 := s1.size
    have v1 : w.heap.size + 3 ≤ w1.heap.size := by have := r1.size; simp only [World.size_alloc] at this; omega
    have c0_0_1 := below_cell r1 (p := ⟨w.heap.size, 0, none⟩) (v := .string nm) (by simp [go_sem])
    have c0_1_1 := below_cell r1 (p := ⟨w.heap.size, 1, none⟩) (v := sv) (by simp [go_sem])
    have c1_0_1 := below_cell r1 (p := ⟨w.heap.size + 1, 0, none⟩) (v := .int .i64 a) (by simp [go_sem])
    have c1_1_1 := below_cell r1 (p := ⟨w.heap.size + 1, 1, none⟩) (v := .int .i64 b) (by simp [go_sem])
    have c1_2_1 := below_cell r1 (p := ⟨w.heap.size + 1, 2, none⟩) (v := .int .i64 c) (by simp [go_sem])
    have c2_0_1 := below_cell r1 (p := ⟨w.heap.size + 1 + 1, 0, none⟩) (v := .string ⟨#[]⟩) (by simp [go_sem])
    have c2_1_1 := below_cell r1 (p := ⟨w.heap.size + 1 + 1, 1, none⟩) (v := .slice none 0 0) (by simp [go_sem])
    have f0_1 : ∀ j, w1.frozen? ⟨w.heap.size, j, none⟩ = false := fun j => (r1.frozen (p := ⟨w.heap.size, j, none⟩) (by simp [go_sem])).trans (by simp [go_sem])
    have f1_1 : ∀ j, w1.frozen? ⟨w.heap.size + 1, j, none⟩ = false := fun j => (r1.frozen (p := ⟨w.heap.size + 1, j, none⟩) (by simp [go_sem])).trans (by simp [go_sem])
    have f2_1 : ∀ j, w1.frozen? ⟨w.heap.size + 1 + 1, j, none⟩ = false := fun j => (r1.frozen (p := ⟨w.heap.size + 1 + 1, j, none⟩) (by simp [go_sem])).trans (by simp [go_sem])
    clear r1
    go_wp2
    refine bodyPost_ret (v := .tuple #[.agg #[.string ⟨#[]⟩, .slice none 0 0], .int .i64 1]) (by simp [results, Try.results14, go_sem, c2_0_1, c2_1_1]) rfl ?_
    exact RetP2.nil (Below.setCell (Below.setCell b1 (show w.heap.size ≤ w.heap.size + 1 + 1 by omega) _) (show w.heap.size ≤ w.heap.size + 1 + 1 by omega) _)
  · have HOK := Lib.hid hok; clear hok
    obtain ⟨hl1, hl2, hal, hht⟩ := profB_t t0
    cases tr : ringB a b c <;> rw [tr] at hvr
    · have he : insI nm ps k a b c = (⟨#[]⟩, [], 1) := by simp [insI, t0, tr]
      rw [he]
      have HVR := Lib.hid hvr; clear hvr
      clear he hr
      go_enter Try.func14, Try.ntmps14
      have b0 : Below w.heap.size w w := Below.refl _ _
      have z0 : w.heap.size ≤ w.heap.size := Nat.le_refl _
      go_wp2_with fail
      refine (HOK.out _ _ (by simp; try omega) (by simp [go_sem]) (by simp [go_sem]) (by go_grown)).mono ?_
      rintro _ w1 ⟨rfl, d1⟩
      have r1 := Dr.below d1; clear d1
      have s1 : Below w.heap.size w w1 := Below.trans (by go_grown) (r1.mono (by simp; try omega))
      have b1 := b0.trans (s1.mono z0)
      have z1 := b1.size
      have y1 := s1.size
      have v1 : w.heap.size + 3 ≤ w1.heap.size := by have := r1.size; simp only [World.size_alloc] at this; omega
      have c0_0_1 := below_cell r1 (p := ⟨w.heap.size, 0, none⟩) (v := .string nm) (by simp [go_sem])
      have c0_1_1 := below_cell r1 (p := ⟨w.heap.size, 1, none⟩) (v := sv) (by simp [go_sem])
      have c1_0_1 := below_cell r1 (p := ⟨w.heap.size + 1, 0, none⟩) (v := .int .i64 a) (by simp [go_sem])
      have c1_1_1 := below_cell r1 (p := ⟨w.heap.size + 1, 1, none⟩) (v := .int .i64 b) (by simp [go_sem])
      have c1_2_1 := below_cell r1 (p := ⟨w.heap.size + 1, 2, none⟩) (v := .int .i64 c) (by simp [go_sem])
      have c2_0_1 := below_cell r1 (p := ⟨w.heap.size + 1 + 1, 0, none⟩) (v := .string ⟨#[]⟩) (by simp [go_sem])
      have c2_1_1 := below_cell r1 (p := ⟨w.heap.size + 1 + 1, 1, none⟩) (v := .slice none 0 0) (by simp [go_sem])
      have f0_1 : ∀ j, w1.frozen? ⟨w.heap.size, j, none⟩ = false := fun j => (r1.frozen (p := ⟨w.heap.size, j, none⟩) (by simp [go_sem])).trans (by simp [go_sem])
      have f1_1 : ∀ j, w1.frozen? ⟨w.heap.size + 1, j, none⟩ = false := fun j => (r1.frozen (p := ⟨w.heap.size + 1, j, none⟩) (by simp [go_sem])).trans (by simp [go_sem])
      have f2_1 : ∀ j, w1.frozen? ⟨w.heap.size + 1 + 1, j, none⟩ = false := fun j => (r1.frozen (p := ⟨w.heap.size + 1 + 1, j, none⟩) (by simp [go_sem])).trans (by simp [go_sem])
      clear r1
      go_wp2_with fail
      refine (HVR.out _ _ c1_0_1 c1_1_1 c1_2_1).mono ?_
      rintro _ w2 ⟨rfl, d2⟩
      have r2 := Dr.below d2; clear d2
      have s2 := r2
      have b2 := b1.trans (s2.mono z1)
      have z2 := b2.size
      have y2 := s2.size
      have k0_2 := c0_0_1
      have c0_0_2 := below_cell s2 c0_0_1; clear c0_0_1
      have c0_1_2 := below_cell s2 c0_1_1; clear c0_1_1
      have k1_2 := c1_0_1
      have c1_0_2 := below_cell s2 c1_0_1; clear c1_0_1
      have c1_1_2 := below_cell s2 c1_1_1; clear c1_1_1
      have c1_2_2 := below_cell s2 c1_2_1; clear c1_2_1
      have k2_2 := c2_0_1
      have c2_0_2 := below_cell s2 c2_0_1; clear c2_0_1
      have c2_1_2 := below_cell s2 c2_1_1; clear c2_1_1
      have f0_2 : ∀ j, w2.frozen? ⟨w.heap.size, j, none⟩ = false := fun j => (s2.frozen (p := ⟨w.heap.size, j, none⟩) (show w.heap.size < _ from World.block_lt_of_cell? _ ⟨w.heap.size, 0, none⟩ k0_2)).trans (f0_1 j); clear f0_1
      have f1_2 : ∀ j, w2.frozen? ⟨w.heap.size + 1, j, none⟩ = false := fun j => (s2.frozen (p := ⟨w.heap.size + 1, j, none⟩) (show w.heap.size + 1 < _ from World.block_lt_of_cell? _ ⟨w.heap.size + 1, 0, none⟩ k1_2)).trans (f1_1 j); clear f1_1
      have f2_2 : ∀ j, w2.frozen? ⟨w.heap.size + 1 + 1, j, none⟩ = false := fun j => (s2.frozen (p := ⟨w.heap.size + 1 + 1, j, none⟩) (show w.heap.size + 1 + 1 < _ from World.block_lt_of_cell? _ ⟨w.heap.size + 1 + 1, 0, none⟩ k2_2)).trans (f2_1 j); clear f2_1
      clear r2
      go_wp2
      refine bodyPost_ret (v := .tuple #[.agg #[.string ⟨#[]⟩, .slice none 0 0], .int .i64 1]) (by simp [results, Try.results14, go_sem, c2_0_2, c2_1_2]) rfl ?_
      exact RetP2.nil (Below.setCell (Below.setCell b2 (show w.heap.size ≤ w.heap.size + 1 + 1 by omega) _) (show w.heap.size ≤ w.heap.size + 1 + 1 by omega) _)
    · have HVR := Lib.hid hvr; clear hvr
      have hin := fun w' => l00In_c k 0 (ps.length : Int) w'
      cases t1 : inB k 0 (ps.length : Int) <;> rw [t1] at hin
      · have he : insI nm ps k a b c = (⟨#[]⟩, [], 2) := by simp [insI, t0, tr, t1]
        rw [he]
        have HIN := Lib.hid hin; clear hin
        obtain ⟨_, ao, cap, _, _, rfl, _, _⟩ := hr.open
        clear he hr
        go_enter Try.func14, Try.ntmps14
        have b0 : Below w.heap.size w w := Below.refl _ _
        have z0 : w.heap.size ≤ w.heap.size := Nat.le_refl _
        go_wp2_with fail
        refine (HOK.out _ _ (by simp; try omega) (by simp [go_sem]) (by simp [go_sem]) (by go_grown)).mono ?_
        rintro _ w1 ⟨rfl, d1⟩
        have r1 := Dr.below d1; clear d1
        have s1 : Below w.heap.size w w1 := Below.trans (by go_grown) (r1.mono (by simp; try omega))
        have b1 := b0.trans (s1.mono z0)
        have z1 := b1.size
        have y1 := s1.size
        have v1 : w.heap.size + 3 ≤ w1.heap.size := by have := r1.size; simp only [World.size_alloc] at this; omega
        have c0_0_1 := below_cell r1 (p := ⟨w.heap.size, 0, none⟩) (v := .string nm) (by simp [go_sem])
        have c0_1_1 := below_cell r1 (p := ⟨w.heap.size, 1, none⟩) (v := .slice ao ps.length cap) (by simp [go_sem])
        have c1_0_1 := below_cell r1 (p := ⟨w.heap.size + 1, 0, none⟩) (v := .int .i64 a) (by simp [go_sem])
        have c1_1_1 := below_cell r1 (p := ⟨w.heap.size + 1, 1, none⟩) (v := .int .i64 b) (by simp [go_sem])
        have c1_2_1 := below_cell r1 (p := ⟨w.heap.size + 1, 2, none⟩) (v := .int .i64 c) (by simp [go_sem])
        have c2_0_1 := below_cell r1 (p := ⟨w.heap.size + 1 + 1, 0, none⟩) (v := .string ⟨#[]⟩) (by simp [go_sem])
        have c2_1_1 := below_cell r1 (p := ⟨w.heap.size + 1 + 1, 1, none⟩) (v := .slice none 0 0) (by simp [go_sem])
        have f0_1 : ∀ j, w1.frozen? ⟨w.heap.size, j, none⟩ = false := fun j => (r1.frozen (p := ⟨w.heap.size, j, none⟩) (by simp [go_sem])).trans (by simp [go_sem])
        have f1_1 : ∀ j, w1.frozen? ⟨w.heap.size + 1, j, none⟩ = false := fun j => (r1.frozen (p := ⟨w.heap.size + 1, j, none⟩) (by simp [go_sem])).trans (by simp [go_sem])
        have f2_1 : ∀ j, w1.frozen? ⟨w.heap.size + 1 + 1, j, none⟩ = false := fun j => (r1.frozen (p := ⟨w.heap.size + 1 + 1, j, none⟩) (by simp [go_sem])).trans (by simp [go_sem])
        clear r1
        go_wp2_with fail
        refine (HVR.out _ _ c1_0_1 c1_1_1 c1_2_1).mono ?_
        rintro _ w2 ⟨rfl, d2⟩
        have r2 := Dr.below d2; clear d2
        have s2 := r2
        have b2 := b1.trans (s2.mono z1)
        have z2 := b2.size
        have y2 := s2.size
        have k0_2 := c0_0_1
        have c0_0_2 := below_cell s2 c0_0_1; clear c0_0_1
        have c0_1_2 := below_cell s2 c0_1_1; clear c0_1_1
        have k1_2 := c1_0_1
        have c1_0_2 := below_cell s2 c1_0_1; clear c1_0_1
        have c1_1_2 := below_cell s2 c1_1_1; clear c1_1_1
        have c1_2_2 := below_cell s2 c1_2_1; clear c1_2_1
        have k2_2 := c2_0_1
        have c2_0_2 := below_cell s2 c2_0_1; clear c2_0_1
        have c2_1_2 := below_cell s2 c2_1_1; clear c2_1_1
        have f0_2 : ∀ j, w2.frozen? ⟨w.heap.size, j, none⟩ = false := fun j => (s2.frozen (p := ⟨w.heap.size, j, none⟩) (show w.heap.size < _ from World.block_lt_of_cell? _ ⟨w.heap.size, 0, none⟩ k0_2)).trans (f0_1 j); clear f0_1
        have f1_2 : ∀ j, w2.frozen? ⟨w.heap.size + 1, j, none⟩ = false := fun j => (s2.frozen (p := ⟨w.heap.size + 1, j, none⟩) (show w.heap.size + 1 < _ from World.block_lt_of_cell? _ ⟨w.heap.size + 1, 0, none⟩ k1_2)).trans (f1_1 j); clear f1_1
        have f2_2 : ∀ j, w2.frozen? ⟨w.heap.size + 1 + 1, j, none⟩ = false := fun j => (s2.frozen (p := ⟨w.heap.size + 1 + 1, j, none⟩) (show w.heap.size + 1 + 1 < _ from World.block_lt_of_cell? _ ⟨w.heap.size + 1 + 1, 0, none⟩ k2_2)).trans (f2_1 j); clear f2_1
        clear r2
        go_wp2_with fail
        refine (HIN.out _).mono ?_
        rintro _ _ ⟨rfl, rfl⟩
        go_wp2
        refine bodyPost_ret (v := .tuple #[.agg #[.string ⟨#[]⟩, .slice none 0 0], .int .i64 2]) (by simp [results, Try.results14, go_sem, c2_0_2, c2_1_2]) rfl ?_
        exact RetP2.nil (Below.setCell (Below.setCell b2 (show w.heap.size ≤ w.heap.size + 1 + 1 by omega) _) (show w.heap.size ≤ w.heap.size + 1 + 1 by omega) _)
      · have HIN := Lib.hid hin; clear hin
        by_cases t2 : ps.length = 32
        · have he : insI nm ps k a b c = (⟨#[]⟩, [], 5) := by unfold insI; rw [if_pos (by simp [t0, tr]), if_pos t1, if_pos t2]
          rw [he]
          have t3 : ((ps.length : Int) == 32) = true := by simp; omega
          obtain ⟨_, ao, cap, _, _, rfl, _, _⟩ := hr.open
          clear he hr t2
          go_enter Try.func14, Try.ntmps14
          have b0 : Below w.heap.size w w := Below.refl _ _
          have z0 : w.heap.size ≤ w.heap.size := Nat.le_refl _
          go_wp2_with fail
          refine (HOK.out _ _ (by simp; try omega) (by simp [go_sem]) (by simp [go_sem]) (by go_grown)).mono ?_
          rintro _ w1 ⟨rfl, d1⟩
          have r1 := Dr.below d1; clear d1
          have s1 : Below w.heap.size w w1 := Below.trans (by go_grown) (r1.mono (by simp; try omega))
          have b1 := b0.trans (s1.mono z0)
          have z1 := b1.size
          have y1 := s1.size
          have v1 : w.heap.size + 3 ≤ w1.heap.size := by have := r1.size; simp only [World.size_alloc] at this; omega
          have c0_0_1 := below_cell r1 (p := ⟨w.heap.size, 0, none⟩) (v := .string nm) (by simp [go_sem])
          have c0_1_1 := below_cell r1 (p := ⟨w.heap.size, 1, none⟩) (v := .slice ao ps.length cap) (by simp [go_sem])
          have c1_0_1 := below_cell r1 (p := ⟨w.heap.size + 1, 0, none⟩) (v := .int .i64 a) (by simp [go_sem])
          have c1_1_1 := below_cell r1 (p := ⟨w.heap.size + 1, 1, none⟩) (v := .int .i64 b) (by simp [go_sem])
          have c1_2_1 := below_cell r1 (p := ⟨w.heap.size + 1, 2, none⟩) (v := .int .i64 c) (by simp [go_sem])
          have c2_0_1 := below_cell r1 (p := ⟨w.heap.size + 1 + 1, 0, none⟩) (v := .string ⟨#[]⟩) (by simp [go_sem])
          have c2_1_1 := below_cell r1 (p := ⟨w.heap.size + 1 + 1, 1, none⟩) (v := .slice none 0 0) (by simp [go_sem])
          have f0_1 : ∀ j, w1.frozen? ⟨w.heap.size, j, none⟩ = false := fun j => (r1.frozen (p := ⟨w.heap.size, j, none⟩) (by simp [go_sem])).trans (by simp [go_sem])
          have f1_1 : ∀ j, w1.frozen? ⟨w.heap.size + 1, j, none⟩ = false := fun j => (r1.frozen (p := ⟨w.heap.size + 1, j, none⟩) (by simp [go_sem])).trans (by simp [go_sem])
          have f2_1 : ∀ j, w1.frozen? ⟨w.heap.size + 1 + 1, j, none⟩ = false := fun j => (r1.frozen (p := ⟨w.heap.size + 1 + 1, j, none⟩) (by simp [go_sem])).trans (by simp [go_sem])
          clear r1
          go_wp2_with fail
          refine (HVR.out _ _ c1_0_1 c1_1_1 c1_2_1).mono ?_
          rintro _ w2 ⟨rfl, d2⟩
          have r2 := Dr.below d2; clear d2
          have s2 := r2
          have b2 := b1.trans (s2.mono z1)
          have z2 := b2.size
          have y2 := s2.size
          have k0_2 := c0_0_1
          have c0_0_2 := below_cell s2 c0_0_1; clear c0_0_1
          have c0_1_2 := below_cell s2 c0_1_1; clear c0_1_1
          have k1_2 := c1_0_1
          have c1_0_2 := below_cell s2 c1_0_1; clear c1_0_1
          have c1_1_2 := below_cell s2 c1_1_1; clear c1_1_1
          have c1_2_2 := below_cell s2 c1_2_1; clear c1_2_1
          have k2_2 := c2_0_1
          have c2_0_2 := below_cell s2 c2_0_1; clear c2_0_1
          have c2_1_2 := below_cell s2 c2_1_1; clear c2_1_1
          have f0_2 : ∀ j, w2.frozen? ⟨w.heap.size, j, none⟩ = false := fun j => (s2.frozen (p := ⟨w.heap.size, j, none⟩) (show w.heap.size < _ from World.block_lt_of_cell? _ ⟨w.heap.size, 0, none⟩ k0_2)).trans (f0_1 j); clear f0_1
          have f1_2 : ∀ j, w2.frozen? ⟨w.heap.size + 1, j, none⟩ = false := fun j => (s2.frozen (p := ⟨w.heap.size + 1, j, none⟩) (show w.heap.size + 1 < _ from World.block_lt_of_cell? _ ⟨w.heap.size + 1, 0, none⟩ k1_2)).trans (f1_1 j); clear f1_1
          have f2_2 : ∀ j, w2.frozen? ⟨w.heap.size + 1 + 1, j, none⟩ = false := fun j => (s2.frozen (p := ⟨w.heap.size + 1 + 1, j, none⟩) (show w.heap.size + 1 + 1 < _ from World.block_lt_of_cell? _ ⟨w.heap.size + 1 + 1, 0, none⟩ k2_2)).trans (f2_1 j); clear f2_1
          clear r2
          go_wp2_with fail
          refine (HIN.out _).mono ?_
          rintro _ _ ⟨rfl, rfl⟩
          go_wp2
          refine bodyPost_ret (v := .tuple #[.agg #[.string ⟨#[]⟩, .slice none 0 0], .int .i64 5]) (by simp [results, Try.results14, go_sem, c2_0_2, c2_1_2]) rfl ?_
          exact RetP2.nil (Below.setCell (Below.setCell b2 (show w.heap.size ≤ w.heap.size + 1 + 1 by omega) _) (show w.heap.size ≤ w.heap.size + 1 + 1 by omega) _)
        · have he : insI nm ps k a b c = doneR nm (insL ps k (a, b, c)) := by simp [insI, t0, tr, t1, t2]
          rw [he]
          have t3 : ((ps.length : Int) == 32) = false := by simp; omega
          have hk2 : 0 ≤ k ∧ k ≤ (ps.length : Int) := by simpa [inB] using t1
          obtain ⟨i, rfl⟩ : ∃ i : Nat, k = (i : Int) := ⟨k.toNat, by omega⟩
          have hi : i ≤ ps.length := by omega
          have hwi := fun w' g c0 c1 (hb : Below w.heap.size w w') => l05With_c g i nm sv ps a b c w' c0 c1 (hr.later hb) hl1 (by omega) hi
          have hres : ∀ x, profB nm (insL ps i (a, b, c)) = x → doneR nm (insL ps i (a, b, c)) = if x then (nm, insL ps i (a, b, c), 0) else (⟨#[]⟩, [], 6) := fun x hx => by unfold doneR; rw [hx]
          have hok2 := fun w' g v hg c0 c1 (hb : Rd w' v (insL ps i (a, b, c)).length (trips (insL ps i (a, b, c)))) => l05Ok_c g nm v (insL ps i (a, b, c)) w' hg hnm c0 c1 hb
          generalize doneR nm (insL ps i (a, b, c)) = RES at *
          generalize insL ps i (a, b, c) = qs at *
          have HRES := Lib.hid hres; clear hres
          have HWI := Lib.hid hwi; clear hwi
          obtain ⟨_, ao, cap, _, _, rfl, _, _⟩ := hr.open
          clear he hr hal t2
          cases t4 : profB nm qs <;> rw [t4] at hok2
          · obtain rfl := HRES.out _ t4
            have HOK2 := Lib.hid hok2; clear hok2
            go_enter Try.func14, Try.ntmps14
            have b0 : Below w.heap.size w w := Below.refl _ _
            have z0 : w.heap.size ≤ w.heap.size := Nat.le_refl _
            go_wp2_with fail
            refine (HOK.out _ _ (by simp; try omega) (by simp [go_sem]) (by simp [go_sem]) (by go_grown)).mono ?_
            rintro _ w1 ⟨rfl, d1⟩
            have r1 := Dr.below d1; clear d1
            have s1 : Below w.heap.size w w1 := Below.trans (by go_grown) (r1.mono (by simp; try omega))
            have b1 := b0.trans (s1.mono z0)
            have z1 := b1.size
            have y1 := s1.size
            have v1 : w.heap.size + 3 ≤ w1.heap.size := by have := r1.size; simp only [World.size_alloc] at this; omega
            have c0_0_1 := below_cell r1 (p := ⟨w.heap.size, 0, none⟩) (v := .string nm) (by simp [go_sem])
            have c0_1_1 := below_cell r1 (p := ⟨w.heap.size, 1, none⟩) (v := .slice ao ps.length cap) (by simp [go_sem])
            have c1_0_1 := below_cell r1 (p := ⟨w.heap.size + 1, 0, none⟩) (v := .int .i64 a) (by simp [go_sem])
            have c1_1_1 := below_cell r1 (p := ⟨w.heap.size + 1, 1, none⟩) (v := .int .i64 b) (by simp [go_sem])
            have c1_2_1 := below_cell r1 (p := ⟨w.heap.size + 1, 2, none⟩) (v := .int .i64 c) (by simp [go_sem])
            have c2_0_1 := below_cell r1 (p := ⟨w.heap.size + 1 + 1, 0, none⟩) (v := .string ⟨#[]⟩) (by simp [go_sem])
            have c2_1_1 := below_cell r1 (p := ⟨w.heap.size + 1 + 1, 1, none⟩) (v := .slice none 0 0) (by simp [go_sem])
            have f0_1 : ∀ j, w1.frozen? ⟨w.heap.size, j, none⟩ = false := fun j => (r1.frozen (p := ⟨w.heap.size, j, none⟩) (by simp [go_sem])).trans (by simp [go_sem])
            have f1_1 : ∀ j, w1.frozen? ⟨w.heap.size + 1, j, none⟩ = false := fun j => (r1.frozen (p := ⟨w.heap.size + 1, j, none⟩) (by simp [go_sem])).trans (by simp [go_sem])
            have f2_1 : ∀ j, w1.frozen? ⟨w.heap.size + 1 + 1, j, none⟩ = false := fun j => (r1.frozen (p := ⟨w.heap.size + 1 + 1, j, none⟩) (by simp [go_sem])).trans (by simp [go_sem])
            clear r1
            go_wp2_with fail
            refine (HVR.out _ _ c1_0_1 c1_1_1 c1_2_1).mono ?_
            rintro _ w2 ⟨rfl, d2⟩
            have r2 := Dr.below d2; clear d2
            have s2 := r2
            have b2 := b1.trans (s2.mono z1)
            have z2 := b2.size
            have y2 := s2.size
            have k0_2 := c0_0_1
            have c0_0_2 := below_cell s2 c0_0_1; clear c0_0_1
            have c0_1_2 := below_cell s2 c0_1_1; clear c0_1_1
            have k1_2 := c1_0_1
            have c1_0_2 := below_cell s2 c1_0_1; clear c1_0_1
            have c1_1_2 := below_cell s2 c1_1_1; clear c1_1_1
            have c1_2_2 := below_cell s2 c1_2_1; clear c1_2_1
            have k2_2 := c2_0_1
            have c2_0_2 := below_cell s2 c2_0_1; clear c2_0_1
            have c2_1_2 := below_cell s2 c2_1_1; clear c2_1_1
            have f0_2 : ∀ j, w2.frozen? ⟨w.heap.size, j, none⟩ = false := fun j => (s2.frozen (p := ⟨w.heap.size, j, none⟩) (show w.heap.size < _ from World.block_lt_of_cell? _ ⟨w.heap.size, 0, none⟩ k0_2)).trans (f0_1 j); clear f0_1
            have f1_2 : ∀ j, w2.frozen? ⟨w.heap.size + 1, j, none⟩ = false := fun j => (s2.frozen (p := ⟨w.heap.size + 1, j, none⟩) (show w.heap.size + 1 < _ from World.block_lt_of_cell? _ ⟨w.heap.size + 1, 0, none⟩ k1_2)).trans (f1_1 j); clear f1_1
            have f2_2 : ∀ j, w2.frozen? ⟨w.heap.size + 1 + 1, j, none⟩ = false := fun j => (s2.frozen (p := ⟨w.heap.size + 1 + 1, j, none⟩) (show w.heap.size + 1 + 1 < _ from World.block_lt_of_cell? _ ⟨w.heap.size + 1 + 1, 0, none⟩ k2_2)).trans (f2_1 j); clear f2_1
            clear r2
            go_wp2_with fail
            refine (HIN.out _).mono ?_
            rintro _ _ ⟨rfl, rfl⟩
            go_wp2_with fail
            refine (HWI.out _ _ c0_0_2 c0_1_2 b2).mono ?_
            rintro _ w3 ⟨x3, rfl, n3, r3⟩
            have s3 := r3
            have b3 := b2.trans (s3.mono z2)
            have z3 := b3.size
            have y3 := s3.size
            have k0_3 := c0_0_2
            have c0_0_3 := below_cell s3 c0_0_2; clear c0_0_2
            have c0_1_3 := below_cell s3 c0_1_2; clear c0_1_2
            have k1_3 := c1_0_2
            have c1_0_3 := below_cell s3 c1_0_2; clear c1_0_2
            have c1_1_3 := below_cell s3 c1_1_2; clear c1_1_2
            have c1_2_3 := below_cell s3 c1_2_2; clear c1_2_2
            have k2_3 := c2_0_2
            have c2_0_3 := below_cell s3 c2_0_2; clear c2_0_2
            have c2_1_3 := below_cell s3 c2_1_2; clear c2_1_2
            have f0_3 : ∀ j, w3.frozen? ⟨w.heap.size, j, none⟩ = false := fun j => (s3.frozen (p := ⟨w.heap.size, j, none⟩) (show w.heap.size < _ from World.block_lt_of_cell? _ ⟨w.heap.size, 0, none⟩ k0_3)).trans (f0_2 j); clear f0_2
            have f1_3 : ∀ j, w3.frozen? ⟨w.heap.size + 1, j, none⟩ = false := fun j => (s3.frozen (p := ⟨w.heap.size + 1, j, none⟩) (show w.heap.size + 1 < _ from World.block_lt_of_cell? _ ⟨w.heap.size + 1, 0, none⟩ k1_3)).trans (f1_2 j); clear f1_2
            have f2_3 : ∀ j, w3.frozen? ⟨w.heap.size + 1 + 1, j, none⟩ = false := fun j => (s3.frozen (p := ⟨w.heap.size + 1 + 1, j, none⟩) (show w.heap.size + 1 + 1 < _ from World.block_lt_of_cell? _ ⟨w.heap.size + 1 + 1, 0, none⟩ k2_3)).trans (f2_2 j); clear f2_2
            clear r3
            obtain ⟨a4, c4, rfl⟩ := own_shape n3
            have O4 := Lib.hid n3; clear n3
            go_wp2_with fail
            refine (HOK2.out _ _ _ (by simp) (by simp [go_sem]) (by simp [go_sem]) ((Rd.of_own O4.out).later (by go_grown))).mono ?_
            rintro _ w4 ⟨rfl, d4⟩
            have r4 := Dr.below d4; clear d4
            have s4 : Below w3.heap.size w3 w4 := Below.trans (by go_grown) (r4.mono (by simp; try omega))
            have b4 := b3.trans (s4.mono z3)
            have z4 := b4.size
            have y4 := s4.size
            have v4 : w3.heap.size + 1 ≤ w4.heap.size := by have := r4.size; simp only [World.size_alloc] at this; omega
            have k0_4 := c0_0_3
            have c0_0_4 := below_cell s4 c0_0_3; clear c0_0_3
            have c0_1_4 := below_cell s4 c0_1_3; clear c0_1_3
            have k1_4 := c1_0_3
            have c1_0_4 := below_cell s4 c1_0_3; clear c1_0_3
            have c1_1_4 := below_cell s4 c1_1_3; clear c1_1_3
            have c1_2_4 := below_cell s4 c1_2_3; clear c1_2_3
            have k2_4 := c2_0_3
            have c2_0_4 := below_cell s4 c2_0_3; clear c2_0_3
            have c2_1_4 := below_cell s4 c2_1_3; clear c2_1_3
            have c3_0_4 := below_cell r4 (p := ⟨w3.heap.size, 0, none⟩) (v := .string nm) (by simp [go_sem])
            have c3_1_4 := below_cell r4 (p := ⟨w3.heap.size, 1, none⟩) (v := .slice a4 qs.length c4) (by simp [go_sem])
            have f0_4 : ∀ j, w4.frozen? ⟨w.heap.size, j, none⟩ = false := fun j => (s4.frozen (p := ⟨w.heap.size, j, none⟩) (show w.heap.size < _ from World.block_lt_of_cell? _ ⟨w.heap.size, 0, none⟩ k0_4)).trans (f0_3 j); clear f0_3
            have f1_4 : ∀ j, w4.frozen? ⟨w.heap.size + 1, j, none⟩ = false := fun j => (s4.frozen (p := ⟨w.heap.size + 1, j, none⟩) (show w.heap.size + 1 < _ from World.block_lt_of_cell? _ ⟨w.heap.size + 1, 0, none⟩ k1_4)).trans (f1_3 j); clear f1_3
            have f2_4 : ∀ j, w4.frozen? ⟨w.heap.size + 1 + 1, j, none⟩ = false := fun j => (s4.frozen (p := ⟨w.heap.size + 1 + 1, j, none⟩) (show w.heap.size + 1 + 1 < _ from World.block_lt_of_cell? _ ⟨w.heap.size + 1 + 1, 0, none⟩ k2_4)).trans (f2_3 j); clear f2_3
            have f3_4 : ∀ j, w4.frozen? ⟨w3.heap.size, j, none⟩ = false := fun j => (r4.frozen (p := ⟨w3.heap.size, j, none⟩) (by simp [go_sem])).trans (by simp [go_sem])
            have o4_4 := own_later O4.out s4; have O4_4 := Lib.hid o4_4; clear o4_4
            clear r4
            go_wp2
            refine bodyPost_ret (v := .tuple #[.agg #[.string ⟨#[]⟩, .slice none 0 0], .int .i64 6]) (by simp [results, Try.results14, go_sem, c2_0_4, c2_1_4]) rfl ?_
            exact RetP2.nil (Below.setCell (Below.setCell b4 (show w.heap.size ≤ w.heap.size + 1 + 1 by omega) _) (show w.heap.size ≤ w.heap.size + 1 + 1 by omega) _)
          · obtain rfl := HRES.out _ t4
            have HOK2 := Lib.hid hok2; clear hok2
            go_enter Try.func14, Try.ntmps14
            have b0 : Below w.heap.size w w := Below.refl _ _
            have z0 : w.heap.size ≤ w.heap.size := Nat.le_refl _
            go_wp2_with fail
            refine (HOK.out _ _ (by simp; try omega) (by simp [go_sem]) (by simp [go_sem]) (by go_grown)).mono ?_
            rintro _ w1 ⟨rfl, d1⟩
            have r1 := Dr.below d1; clear d1
            have s1 : Below w.heap.size w w1 := Below.trans (by go_grown) (r1.mono (by simp; try omega))
            have b1 := b0.trans (s1.mono z0)
            have z1 := b1.size
            have y1 := s1.size
            have v1 : w.heap.size + 3 ≤ w1.heap.size := by have := r1.size; simp only [World.size_alloc] at this; omega
            have c0_0_1 := below_cell r1 (p := ⟨w.heap.size, 0, none⟩) (v := .string nm) (by simp [go_sem])
            have c0_1_1 := below_cell r1 (p := ⟨w.heap.size, 1, none⟩) (v := .slice ao ps.length cap) (by simp [go_sem])
            have c1_0_1 := below_cell r1 (p := ⟨w.heap.size + 1, 0, none⟩) (v := .int .i64 a) (by simp [go_sem])
            have c1_1_1 := below_cell r1 (p := ⟨w.heap.size + 1, 1, none⟩) (v := .int .i64 b) (by simp [go_sem])
            have c1_2_1 := below_cell r1 (p := ⟨w.heap.size + 1, 2, none⟩) (v := .int .i64 c) (by simp [go_sem])
            have c2_0_1 := below_cell r1 (p := ⟨w.heap.size + 1 + 1, 0, none⟩) (v := .string ⟨#[]⟩) (by simp [go_sem])
            have c2_1_1 := below_cell r1 (p := ⟨w.heap.size + 1 + 1, 1, none⟩) (v := .slice none 0 0) (by simp [go_sem])
            have f0_1 : ∀ j, w1.frozen? ⟨w.heap.size, j, none⟩ = false := fun j => (r1.frozen (p := ⟨w.heap.size, j, none⟩) (by simp [go_sem])).trans (by simp [go_sem])
            have f1_1 : ∀ j, w1.frozen? ⟨w.heap.size + 1, j, none⟩ = false := fun j => (r1.frozen (p := ⟨w.heap.size + 1, j, none⟩) (by simp [go_sem])).trans (by simp [go_sem])
            have f2_1 : ∀ j, w1.frozen? ⟨w.heap.size + 1 + 1, j, none⟩ = false := fun j => (r1.frozen (p := ⟨w.heap.size + 1 + 1, j, none⟩) (by simp [go_sem])).trans (by simp [go_sem])
            clear r1
            go_wp2_with fail
            refine (HVR.out _ _ c1_0_1 c1_1_1 c1_2_1).mono ?_
            rintro _ w2 ⟨rfl, d2⟩
            have r2 := Dr.below d2; clear d2
            have s2 := r2
            have b2 := b1.trans (s2.mono z1)
            have z2 := b2.size
            have y2 := s2.size
            have k0_2 := c0_0_1
            have c0_0_2 := below_cell s2 c0_0_1; clear c0_0_1
            have c0_1_2 := below_cell s2 c0_1_1; clear c0_1_1
            have k1_2 := c1_0_1
            have c1_0_2 := below_cell s2 c1_0_1; clear c1_0_1
            have c1_1_2 := below_cell s2 c1_1_1; clear c1_1_1
            have c1_2_2 := below_cell s2 c1_2_1; clear c1_2_1
            have k2_2 := c2_0_1
            have c2_0_2 := below_cell s2 c2_0_1; clear c2_0_1
            have c2_1_2 := below_cell s2 c2_1_1; clear c2_1_1
            have f0_2 : ∀ j, w2.frozen? ⟨w.heap.size, j, none⟩ = false := fun j => (s2.frozen (p := ⟨w.heap.size, j, none⟩) (show w.heap.size < _ from World.block_lt_of_cell? _ ⟨w.heap.size, 0, none⟩ k0_2)).trans (f0_1 j); clear f0_1
            have f1_2 : ∀ j, w2.frozen? ⟨w.heap.size + 1, j, none⟩ = false := fun j => (s2.frozen (p := ⟨w.heap.size + 1, j, none⟩) (show w.heap.size + 1 < _ from World.block_lt_of_cell? _ ⟨w.heap.size + 1, 0, none⟩ k1_2)).trans (f1_1 j); clear f1_1
            have f2_2 : ∀ j, w2.frozen? ⟨w.heap.size + 1 + 1, j, none⟩ = false := fun j => (s2.frozen (p := ⟨w.heap.size + 1 + 1, j, none⟩) (show w.heap.size + 1 + 1 < _ from World.block_lt_of_cell? _ ⟨w.heap.size + 1 + 1, 0, none⟩ k2_2)).trans (f2_1 j); clear f2_1
            clear r2
            go_wp2_with fail
            refine (HIN.out _).mono ?_
            rintro _ _ ⟨rfl, rfl⟩
            go_wp2_with fail
            refine (HWI.out _ _ c0_0_2 c0_1_2 b2).mono ?_
            rintro _ w3 ⟨x3, rfl, n3, r3⟩
            have s3 := r3
            have b3 := b2.trans (s3.mono z2)
            have z3 := b3.size
            have y3 := s3.size
            have k0_3 := c0_0_2
            have c0_0_3 := below_cell s3 c0_0_2; clear c0_0_2
            have c0_1_3 := below_cell s3 c0_1_2; clear c0_1_2
            have k1_3 := c1_0_2
            have c1_0_3 := below_cell s3 c1_0_2; clear c1_0_2
            have c1_1_3 := below_cell s3 c1_1_2; clear c1_1_2
            have c1_2_3 := below_cell s3 c1_2_2; clear c1_2_2
            have k2_3 := c2_0_2
            have c2_0_3 := below_cell s3 c2_0_2; clear c2_0_2
            have c2_1_3 := below_cell s3 c2_1_2; clear c2_1_2
            have f0_3 : ∀ j, w3.frozen? ⟨w.heap.size, j, none⟩ = false := fun j => (s3.frozen (p := ⟨w.heap.size, j, none⟩) (show w.heap.size < _ from World.block_lt_of_cell? _ ⟨w.heap.size, 0, none⟩ k0_3)).trans (f0_2 j); clear f0_2
            have f1_3 : ∀ j, w3.frozen? ⟨w.heap.size + 1, j, none⟩ = false := fun j => (s3.frozen (p := ⟨w.heap.size + 1, j, none⟩) (show w.heap.size + 1 < _ from World.block_lt_of_cell? _ ⟨w.heap.size + 1, 0, none⟩ k1_3)).trans (f1_2 j); clear f1_2
            have f2_3 : ∀ j, w3.frozen? ⟨w.heap.size + 1 + 1, j, none⟩ = false := fun j => (s3.frozen (p := ⟨w.heap.size + 1 + 1, j, none⟩) (show w.heap.size + 1 + 1 < _ from World.block_lt_of_cell? _ ⟨w.heap.size + 1 + 1, 0, none⟩ k2_3)).trans (f2_2 j); clear f2_2
            clear r3
            obtain ⟨a4, c4, rfl⟩ := own_shape n3
            have O4 := Lib.hid n3; clear n3
            go_wp2_with fail
            refine (HOK2.out _ _ _ (by simp) (by simp [go_sem]) (by simp [go_sem]) ((Rd.of_own O4.out).later (by go_grown))).mono ?_
            rintro _ w4 ⟨rfl, d4⟩
            have r4 := Dr.below d4; clear d4
            have s4 : Below w3.heap.size w3 w4 := Below.trans (by go_grown) (r4.mono (by simp; try omega))
            have b4 := b3.trans (s4.mono z3)
            have z4 := b4.size
            have y4 := s4.size
            have v4 : w3.heap.size + 1 ≤ w4.heap.size := by have := r4.size; simp only [World.size_alloc] at this; omega
            have k0_4 := c0_0_3
            have c0_0_4 := below_cell s4 c0_0_3; clear c0_0_3
            have c0_1_4 := below_cell s4 c0_1_3; clear c0_1_3
            have k1_4 := c1_0_3
            have c1_0_4 := below_cell s4 c1_0_3; clear c1_0_3
            have c1_1_4 := below_cell s4 c1_1_3; clear c1_1_3
            have c1_2_4 := below_cell s4 c1_2_3; clear c1_2_3
            have k2_4 := c2_0_3
            have c2_0_4 := below_cell s4 c2_0_3; clear c2_0_3
            have c2_1_4 := below_cell s4 c2_1_3; clear c2_1_3
            have c3_0_4 := below_cell r4 (p := ⟨w3.heap.size, 0, none⟩) (v := .string nm) (by simp [go_sem])
            have c3_1_4 := below_cell r4 (p := ⟨w3.heap.size, 1, none⟩) (v := .slice a4 qs.length c4) (by simp [go_sem])
            have f0_4 : ∀ j, w4.frozen? ⟨w.heap.size, j, none⟩ = false := fun j => (s4.frozen (p := ⟨w.heap.size, j, none⟩) (show w.heap.size < _ from World.block_lt_of_cell? _ ⟨w.heap.size, 0, none⟩ k0_4)).trans (f0_3 j); clear f0_3
            have f1_4 : ∀ j, w4.frozen? ⟨w.heap.size + 1, j, none⟩ = false := fun j => (s4.frozen (p := ⟨w.heap.size + 1, j, none⟩) (show w.heap.size + 1 < _ from World.block_lt_of_cell? _ ⟨w.heap.size + 1, 0, none⟩ k1_4)).trans (f1_3 j); clear f1_3
            have f2_4 : ∀ j, w4.frozen? ⟨w.heap.size + 1 + 1, j, none⟩ = false := fun j => (s4.frozen (p := ⟨w.heap.size + 1 + 1, j, none⟩) (show w.heap.size + 1 + 1 < _ from World.block_lt_of_cell? _ ⟨w.heap.size + 1 + 1, 0, none⟩ k2_4)).trans (f2_3 j); clear f2_3
            have f3_4 : ∀ j, w4.frozen? ⟨w3.heap.size, j, none⟩ = false := fun j => (r4.frozen (p := ⟨w3.heap.size, j, none⟩) (by simp [go_sem])).trans (by simp [go_sem])
            have o4_4 := own_later O4.out s4; have O4_4 := Lib.hid o4_4; clear o4_4
            clear r4
            have lo5 := own_lo O4_4.out
            go_wp2
            refine bodyPost_ret (v := .tuple #[.agg #[.string nm, .slice a4 qs.length c4], .int .i64 0]) (by simp [results, Try.results14, go_sem, c2_0_4, c2_1_4]) rfl ?_
            have o11 := own_set O4_4.out (a := ⟨w.heap.size + 1 + 1, 0, none⟩) (fun k hk => by have h8 := lo5 k hk; show w.heap.size + 1 + 1 ≠ k; omega) (.string nm)
            have o12 := own_set o11 (a := ⟨w.heap.size + 1 + 1, 1, none⟩) (fun k hk => by have h8 := lo5 k hk; show w.heap.size + 1 + 1 ≠ k; omega) (.slice a4 qs.length c4)
            exact ⟨_, rfl, own_base o12 z2, (b4.setCell (show w.heap.size ≤ w.heap.size + 1 + 1 by omega) _).setCell (show w.heap.size ≤ w.heap.size + 1 + 1 by omega) _⟩

end Go.Proofs.Ytjlenafdpoknhaa
