/- A ring is inserted: the program's side. -/
import Derived.Test.YtjlenafdpoknhaaInsR3
import Derived.Test.YtjlenafdpoknhaaRem3
namespace Go.Proofs.Ytjlenafdpoknhaa
set_option linter.unusedVariables false
open Go.RowKit Go.Proofs.Bell Go.BigFrame

def insL (ps : List (Int × Int × Int)) (k : Int) (r : Int × Int × Int) : List (Int × Int × Int) := ps.take k.toNat ++ r :: ps.drop k.toNat
def insI (nm : ByteArray) (ps : List (Int × Int × Int)) (k a b c : Int) : ByteArray × List (Int × Int × Int) × Int :=
  if profB nm ps && ringB a b c then (if inB k 0 (ps.length : Int) then (if ps.length = 32 then (⟨#[]⟩, [], 5) else doneR nm (insL ps k (a, b, c))) else (⟨#[]⟩, [], 2)) else (⟨#[]⟩, [], 1)
theorem insI_len (nm : ByteArray) (ps : List (Int × Int × Int)) (k a b c : Int) : (insI nm ps k a b c).2.1.length ≤ 32 := by
  unfold insI
  split
  · split
    · split
      · simp
      · exact doneR_len _ _
    · simp
  · simp

theorem two_keep {w : World} {b o R : Nat} {v x0 x1 : Value} (h : w.cell? ⟨b, o, none⟩ = some v) (hne : b ≠ R) : ((w.setCell ⟨R, 0, none⟩ x0).setCell ⟨R, 1, none⟩ x1).cell? ⟨b, o, none⟩ = some v := by
  have hn : ∀ j, (⟨R, j, none⟩ : Addr) ≠ ⟨b, o, none⟩ := fun j e => hne (by injection e with e1; exact e1.symm)
  rw [World.cell?_setCell_other _ _ _ _ (by first | exact hn 1 | exact (hn 1).symm), World.cell?_setCell_other _ _ _ _ (by first | exact hn 0 | exact (hn 0).symm)]; exact h
set_option maxRecDepth 100000 in
set_option maxHeartbeats 3200000 in
theorem implInsertRing_c (nm : ByteArray) (sv : Value) (ps : List (Int × Int × Int)) (k a b c : Int) (w : World) (hnm : nm.size ≤ maxLen) (hr : Rd w sv ps.length (trips ps)) :
    Calls Try.prog 16 #[.agg #[.string nm, sv], .int .i64 k, .agg #[.int .i64 a, .int .i64 b, .int .i64 c]] w (RetP2 (insI nm ps k a b c).1 (insI nm ps k a b c).2.1 (.int .i64 (insI nm ps k a b c).2.2) w) := by
  have hok := fun w' (hb : Below w.heap.size w w') => ValidProfile_c nm sv ps w' hnm (hr.later hb)
  have hvr := fun w' => ValidRing_c a b c w'
  cases t0 : profB nm ps <;> rw [t0] at hok
  · have he : insI nm ps k a b c = (⟨#[]⟩, [], 1) := by simp [insI, t0]
    rw [he]
    have HOK := Lib.hid hok; clear hok
    clear he hr
    go_enter Try.func16, Try.ntmps16
    have b0 : Below w.heap.size w w := Below.refl _ _
    have z0 : w.heap.size ≤ w.heap.size := Nat.le_refl _
    go_wp2_with fail
    refine (HOK.out _ (by go_grown)).mono ?_
    rintro _ w1 ⟨rfl, r1⟩
    have s1 : Below w.heap.size w w1 := Below.trans (by go_grown) (r1.mono (by simp; try omega))
    have b1 := b0.trans (s1.mono z0)
    have z1 := b1.size
    have y1 := s1.size
    have v1 : w.heap.size + 3 ≤ w1.heap.size := by have := r1.size; simp only [World.size_alloc] at this; omega
    have c0_0_1 := below_cell r1 (p := ⟨w.heap.size, 0, none⟩) (v := .string nm) (by simp [go_sem])
    have c0_1_1 := below_cell r1 (p := ⟨w.heap.size, 1, none⟩) (v := sv) (by simp [go_sem])
    have c1_0_1 := below_cell r1 (p := ⟨w.heap.size + 1, 0, none⟩) (v := .int .i64 a) (by simp [go_sem])
    have c1_1_1 := below_cell r1 (p := ⟨w.heap.size + 1, 1, none⟩) (v := .int .i64 b) (by simp [go_sem])
    have c1_2_1 := below_cell r1 (p := ⟨w.heap.size + 1, 2, none⟩) (v := .int .i64 c) (by simp [go_sem])
    have c2_0_1 := below_cell r1 (p := ⟨w.heap.size + 1 + 1, 0, none⟩) (v := .string ⟨#[]⟩) (by simp [go_sem])
    have c2_1_1 := below_cell r1 (p := ⟨w.heap.size + 1 + 1, 1, none⟩) (v := .slice none 0 0) (by simp [go_sem])
    have f0_1 : ∀ j, w1.frozen? ⟨w.heap.size, j, none⟩ = false := fun j => (r1.frozen (p := ⟨w.heap.size, j, none⟩) (by simp [go_sem])).trans (by simp [go_sem])
    have f1_1 : ∀ j, w1.frozen? ⟨w.heap.size + 1, j, none⟩ = false := fun j => (r1.frozen (p := ⟨w.heap.size + 1, j, none⟩) (by simp [go_sem])).trans (by simp [go_sem])
    have f2_1 : ∀ j, w1.frozen? ⟨w.heap.size + 1 + 1, j, none⟩ = false := fun j => (r1.frozen (p := ⟨w.heap.size + 1 + 1, j, none⟩) (by simp [go_sem])).trans (by simp [go_sem])
    clear r1
    go_wp2
    refine bodyPost_ret (v := .tuple #[.agg #[.string ⟨#[]⟩, .slice none 0 0], .int .i64 1]) (by simp [results, Try.results16, go_sem, c2_0_1, c2_1_1]) rfl ?_
    exact RetP2.nil (Below.setCell (Below.setCell b1 (show w.heap.size ≤ w.heap.size + 1 + 1 by omega) _) (show w.heap.size ≤ w.heap.size + 1 + 1 by omega) _)
  · have HOK := Lib.hid hok; clear hok
    obtain ⟨hl1, hl2, hal, hht⟩ := profB_t t0
    cases tr : ringB a b c <;> rw [tr] at hvr
    · have he : insI nm ps k a b c = (⟨#[]⟩, [], 1) := by simp [insI, t0, tr]
      rw [he]
      have HVR := Lib.hid hvr; clear hvr
      clear he hr
      go_enter Try.func16, Try.ntmps16
      have b0 : Below w.heap.size w w := Below.refl _ _
      have z0 : w.heap.size ≤ w.heap.size := Nat.le_refl _
      go_wp2_with fail
      refine (HOK.out _ (by go_grown)).mono ?_
      rintro _ w1 ⟨rfl, r1⟩
      have s1 : Below w.heap.size w w1 := Below.trans (by go_grown) (r1.mono (by simp; try omega))
      have b1 := b0.trans (s1.mono z0)
      have z1 := b1.size
      have y1 := s1.size
      have v1 : w.heap.size + 3 ≤ w1.heap.size := by have := r1.size; simp only [World.size_alloc] at this; omega
      have c0_0_1 := below_cell r1 (p := ⟨w.heap.size, 0, none⟩) (v := .string nm) (by simp [go_sem])
      have c0_1_1 := below_cell r1 (p := ⟨w.heap.size, 1, none⟩) (v := sv) (by simp [go_sem])
      have c1_0_1 := below_cell r1 (p := ⟨w.heap.size + 1, 0, none⟩) (v := .int .i64 a) (by simp [go_sem])
      have c1_1_1 := below_cell r1 (p := ⟨w.heap.size + 1, 1, none⟩) (v := .int .i64 b) (by simp [go_sem])
      have c1_2_1 := below_cell r1 (p := ⟨w.heap.size + 1, 2, none⟩) (v := .int .i64 c) (by simp [go_sem])
      have c2_0_1 := below_cell r1 (p := ⟨w.heap.size + 1 + 1, 0, none⟩) (v := .string ⟨#[]⟩) (by simp [go_sem])
      have c2_1_1 := below_cell r1 (p := ⟨w.heap.size + 1 + 1, 1, none⟩) (v := .slice none 0 0) (by simp [go_sem])
      have f0_1 : ∀ j, w1.frozen? ⟨w.heap.size, j, none⟩ = false := fun j => (r1.frozen (p := ⟨w.heap.size, j, none⟩) (by simp [go_sem])).trans (by simp [go_sem])
      have f1_1 : ∀ j, w1.frozen? ⟨w.heap.size + 1, j, none⟩ = false := fun j => (r1.frozen (p := ⟨w.heap.size + 1, j, none⟩) (by simp [go_sem])).trans (by simp [go_sem])
      have f2_1 : ∀ j, w1.frozen? ⟨w.heap.size + 1 + 1, j, none⟩ = false := fun j => (r1.frozen (p := ⟨w.heap.size + 1 + 1, j, none⟩) (by simp [go_sem])).trans (by simp [go_sem])
      clear r1
      go_wp2_with fail
      refine (HVR.out _).mono ?_
      rintro _ w2 ⟨rfl, r2⟩
      have s2 := r2
      have b2 := b1.trans (s2.mono z1)
      have z2 := b2.size
      have y2 := s2.size
      have k0_2 := c0_0_1
      have c0_0_2 := below_cell s2 c0_0_1; clear c0_0_1
      have c0_1_2 := below_cell s2 c0_1_1; clear c0_1_1
      have k1_2 := c1_0_1
      have c1_0_2 := below_cell s2 c1_0_1; clear c1_0_1
      have c1_1_2 := below_cell s2 c1_1_1; clear c1_1_1
      have c1_2_2 := below_cell s2 c1_2_1; clear c1_2_1
      have k2_2 := c2_0_1
      have c2_0_2 := below_cell s2 c2_0_1; clear c2_0_1
      have c2_1_2 := below_cell s2 c2_1_1; clear c2_1_1
      have f0_2 : ∀ j, w2.frozen? ⟨w.heap.size, j, none⟩ = false := fun j => (s2.frozen (p := ⟨w.heap.size, j, none⟩) (show w.heap.size < _ from World.block_lt_of_cell? _ ⟨w.heap.size, 0, none⟩ k0_2)).trans (f0_1 j); clear f0_1
      have f1_2 : ∀ j, w2.frozen? ⟨w.heap.size + 1, j, none⟩ = false := fun j => (s2.frozen (p := ⟨w.heap.size + 1, j, none⟩) (show w.heap.size + 1 < _ from World.block_lt_of_cell? _ ⟨w.heap.size + 1, 0, none⟩ k1_2)).trans (f1_1 j); clear f1_1
      have f2_2 : ∀ j, w2.frozen? ⟨w.heap.size + 1 + 1, j, none⟩ = false := fun j => (s2.frozen (p := ⟨w.heap.size + 1 + 1, j, none⟩) (show w.heap.size + 1 + 1 < _ from World.block_lt_of_cell? _ ⟨w.heap.size + 1 + 1, 0, none⟩ k2_2)).trans (f2_1 j); clear f2_1
      clear r2
      go_wp2
      refine bodyPost_ret (v := .tuple #[.agg #[.string ⟨#[]⟩, .slice none 0 0], .int .i64 1]) (by simp [results, Try.results16, go_sem, c2_0_2, c2_1_2]) rfl ?_
      exact RetP2.nil (Below.setCell (Below.setCell b2 (show w.heap.size ≤ w.heap.size + 1 + 1 by omega) _) (show w.heap.size ≤ w.heap.size + 1 + 1 by omega) _)
    · have HVR := Lib.hid hvr; clear hvr
      have hin := fun w' => within_c k 0 (ps.length : Int) w'
      have hsz := fun w' (hb : Below w.heap.size w w') => sizeR_c sv ps.length (trips ps) w' (hr.later hb)
      cases t1 : inB k 0 (ps.length : Int) <;> rw [t1] at hin
      · have he : insI nm ps k a b c = (⟨#[]⟩, [], 2) := by simp [insI, t0, tr, t1]
        rw [he]
        have HIN := Lib.hid hin; clear hin
        have HSZ := Lib.hid hsz; clear hsz
        clear he hr
        go_enter Try.func16, Try.ntmps16
        have b0 : Below w.heap.size w w := Below.refl _ _
        have z0 : w.heap.size ≤ w.heap.size := Nat.le_refl _
        go_wp2_with fail
        refine (HOK.out _ (by go_grown)).mono ?_
        rintro _ w1 ⟨rfl, r1⟩
        have s1 : Below w.heap.size w w1 := Below.trans (by go_grown) (r1.mono (by simp; try omega))
        have b1 := b0.trans (s1.mono z0)
        have z1 := b1.size
        have y1 := s1.size
        have v1 : w.heap.size + 3 ≤ w1.heap.size := by have := r1.size; simp only [World.size_alloc] at this; omega
        have c0_0_1 := below_cell r1 (p := ⟨w.heap.size, 0, none⟩) (v := .string nm) (by simp [go_sem])
        have c0_1_1 := below_cell r1 (p := ⟨w.heap.size, 1, none⟩) (v := sv) (by simp [go_sem])
        have c1_0_1 := below_cell r1 (p := ⟨w.heap.size + 1, 0, none⟩) (v := .int .i64 a) (by simp [go_sem])
        have c1_1_1 := below_cell r1 (p := ⟨w.heap.size + 1, 1, none⟩) (v := .int .i64 b) (by simp [go_sem])
        have c1_2_1 := below_cell r1 (p := ⟨w.heap.size + 1, 2, none⟩) (v := .int .i64 c) (by simp [go_sem])
        have c2_0_1 := below_cell r1 (p := ⟨w.heap.size + 1 + 1, 0, none⟩) (v := .string ⟨#[]⟩) (by simp [go_sem])
        have c2_1_1 := below_cell r1 (p := ⟨w.heap.size + 1 + 1, 1, none⟩) (v := .slice none 0 0) (by simp [go_sem])
        have f0_1 : ∀ j, w1.frozen? ⟨w.heap.size, j, none⟩ = false := fun j => (r1.frozen (p := ⟨w.heap.size, j, none⟩) (by simp [go_sem])).trans (by simp [go_sem])
        have f1_1 : ∀ j, w1.frozen? ⟨w.heap.size + 1, j, none⟩ = false := fun j => (r1.frozen (p := ⟨w.heap.size + 1, j, none⟩) (by simp [go_sem])).trans (by simp [go_sem])
        have f2_1 : ∀ j, w1.frozen? ⟨w.heap.size + 1 + 1, j, none⟩ = false := fun j => (r1.frozen (p := ⟨w.heap.size + 1 + 1, j, none⟩) (by simp [go_sem])).trans (by simp [go_sem])
        clear r1
        go_wp2_with fail
        refine (HVR.out _).mono ?_
        rintro _ w2 ⟨rfl, r2⟩
        have s2 := r2
        have b2 := b1.trans (s2.mono z1)
        have z2 := b2.size
        have y2 := s2.size
        have k0_2 := c0_0_1
        have c0_0_2 := below_cell s2 c0_0_1; clear c0_0_1
        have c0_1_2 := below_cell s2 c0_1_1; clear c0_1_1
        have k1_2 := c1_0_1
        have c1_0_2 := below_cell s2 c1_0_1; clear c1_0_1
        have c1_1_2 := below_cell s2 c1_1_1; clear c1_1_1
        have c1_2_2 := below_cell s2 c1_2_1; clear c1_2_1
        have k2_2 := c2_0_1
        have c2_0_2 := below_cell s2 c2_0_1; clear c2_0_1
        have c2_1_2 := below_cell s2 c2_1_1; clear c2_1_1
        have f0_2 : ∀ j, w2.frozen? ⟨w.heap.size, j, none⟩ = false := fun j => (s2.frozen (p := ⟨w.heap.size, j, none⟩) (show w.heap.size < _ from World.block_lt_of_cell? _ ⟨w.heap.size, 0, none⟩ k0_2)).trans (f0_1 j); clear f0_1
        have f1_2 : ∀ j, w2.frozen? ⟨w.heap.size + 1, j, none⟩ = false := fun j => (s2.frozen (p := ⟨w.heap.size + 1, j, none⟩) (show w.heap.size + 1 < _ from World.block_lt_of_cell? _ ⟨w.heap.size + 1, 0, none⟩ k1_2)).trans (f1_1 j); clear f1_1
        have f2_2 : ∀ j, w2.frozen? ⟨w.heap.size + 1 + 1, j, none⟩ = false := fun j => (s2.frozen (p := ⟨w.heap.size + 1 + 1, j, none⟩) (show w.heap.size + 1 + 1 < _ from World.block_lt_of_cell? _ ⟨w.heap.size + 1 + 1, 0, none⟩ k2_2)).trans (f2_1 j); clear f2_1
        clear r2
        go_wp2_with fail
        refine (HSZ.out _ b2).mono ?_
        rintro _ _ ⟨rfl, rfl⟩
        go_wp2_with fail
        refine (HIN.out _).mono ?_
        rintro _ _ ⟨rfl, rfl⟩
        go_wp2
        refine bodyPost_ret (v := .tuple #[.agg #[.string ⟨#[]⟩, .slice none 0 0], .int .i64 2]) (by simp [results, Try.results16, go_sem, c2_0_2, c2_1_2]) rfl ?_
        exact RetP2.nil (Below.setCell (Below.setCell b2 (show w.heap.size ≤ w.heap.size + 1 + 1 by omega) _) (show w.heap.size ≤ w.heap.size + 1 + 1 by omega) _)
      · have HIN := Lib.hid hin; clear hin
        have HSZ := Lib.hid hsz; clear hsz
        by_cases t2 : ps.length = 32
        · have he : insI nm ps k a b c = (⟨#[]⟩, [], 5) := by unfold insI; rw [if_pos (by simp [t0, tr]), if_pos t1, if_pos t2]
          rw [he]
          have t3 : decide ((32 : Int) ≤ (ps.length : Int)) = true := decide_eq_true (by omega)
          obtain ⟨_, ao, cap, _, _, rfl, _, _⟩ := hr.open
          clear he hr t2
          go_enter Try.func16, Try.ntmps16
          have b0 : Below w.heap.size w w := Below.refl _ _
          have z0 : w.heap.size ≤ w.heap.size := Nat.le_refl _
          go_wp2_with fail
          refine (HOK.out _ (by go_grown)).mono ?_
          rintro _ w1 ⟨rfl, r1⟩
          have s1 : Below w.heap.size w w1 := Below.trans (by go_grown) (r1.mono (by simp; try omega))
          have b1 := b0.trans (s1.mono z0)
          have z1 := b1.size
          have y1 := s1.size
          have v1 : w.heap.size + 3 ≤ w1.heap.size := by have := r1.size; simp only [World.size_alloc] at this; omega
          have c0_0_1 := below_cell r1 (p := ⟨w.heap.size, 0, none⟩) (v := .string nm) (by simp [go_sem])
          have c0_1_1 := below_cell r1 (p := ⟨w.heap.size, 1, none⟩) (v := .slice ao ps.length cap) (by simp [go_sem])
          have c1_0_1 := below_cell r1 (p := ⟨w.heap.size + 1, 0, none⟩) (v := .int .i64 a) (by simp [go_sem])
          have c1_1_1 := below_cell r1 (p := ⟨w.heap.size + 1, 1, none⟩) (v := .int .i64 b) (by simp [go_sem])
          have c1_2_1 := below_cell r1 (p := ⟨w.heap.size + 1, 2, none⟩) (v := .int .i64 c) (by simp [go_sem])
          have c2_0_1 := below_cell r1 (p := ⟨w.heap.size + 1 + 1, 0, none⟩) (v := .string ⟨#[]⟩) (by simp [go_sem])
          have c2_1_1 := below_cell r1 (p := ⟨w.heap.size + 1 + 1, 1, none⟩) (v := .slice none 0 0) (by simp [go_sem])
          have f0_1 : ∀ j, w1.frozen? ⟨w.heap.size, j, none⟩ = false := fun j => (r1.frozen (p := ⟨w.heap.size, j, none⟩) (by simp [go_sem])).trans (by simp [go_sem])
          have f1_1 : ∀ j, w1.frozen? ⟨w.heap.size + 1, j, none⟩ = false := fun j => (r1.frozen (p := ⟨w.heap.size + 1, j, none⟩) (by simp [go_sem])).trans (by simp [go_sem])
          have f2_1 : ∀ j, w1.frozen? ⟨w.heap.size + 1 + 1, j, none⟩ = false := fun j => (r1.frozen (p := ⟨w.heap.size + 1 + 1, j, none⟩) (by simp [go_sem])).trans (by simp [go_sem])
          clear r1
          go_wp2_with fail
          refine (HVR.out _).mono ?_
          rintro _ w2 ⟨rfl, r2⟩
          have s2 := r2
          have b2 := b1.trans (s2.mono z1)
          have z2 := b2.size
          have y2 := s2.size
          have k0_2 := c0_0_1
          have c0_0_2 := below_cell s2 c0_0_1; clear c0_0_1
          have c0_1_2 := below_cell s2 c0_1_1; clear c0_1_1
          have k1_2 := c1_0_1
          have c1_0_2 := below_cell s2 c1_0_1; clear c1_0_1
          have c1_1_2 := below_cell s2 c1_1_1; clear c1_1_1
          have c1_2_2 := below_cell s2 c1_2_1; clear c1_2_1
          have k2_2 := c2_0_1
          have c2_0_2 := below_cell s2 c2_0_1; clear c2_0_1
          have c2_1_2 := below_cell s2 c2_1_1; clear c2_1_1
          have f0_2 : ∀ j, w2.frozen? ⟨w.heap.size, j, none⟩ = false := fun j => (s2.frozen (p := ⟨w.heap.size, j, none⟩) (show w.heap.size < _ from World.block_lt_of_cell? _ ⟨w.heap.size, 0, none⟩ k0_2)).trans (f0_1 j); clear f0_1
          have f1_2 : ∀ j, w2.frozen? ⟨w.heap.size + 1, j, none⟩ = false := fun j => (s2.frozen (p := ⟨w.heap.size + 1, j, none⟩) (show w.heap.size + 1 < _ from World.block_lt_of_cell? _ ⟨w.heap.size + 1, 0, none⟩ k1_2)).trans (f1_1 j); clear f1_1
          have f2_2 : ∀ j, w2.frozen? ⟨w.heap.size + 1 + 1, j, none⟩ = false := fun j => (s2.frozen (p := ⟨w.heap.size + 1 + 1, j, none⟩) (show w.heap.size + 1 + 1 < _ from World.block_lt_of_cell? _ ⟨w.heap.size + 1 + 1, 0, none⟩ k2_2)).trans (f2_1 j); clear f2_1
          clear r2
          go_wp2_with fail
          refine (HSZ.out _ b2).mono ?_
          rintro _ _ ⟨rfl, rfl⟩
          go_wp2_with fail
          refine (HIN.out _).mono ?_
          rintro _ _ ⟨rfl, rfl⟩
          go_wp2
          refine bodyPost_ret (v := .tuple #[.agg #[.string ⟨#[]⟩, .slice none 0 0], .int .i64 5]) (by simp [results, Try.results16, go_sem, c2_0_2, c2_1_2]) rfl ?_
          exact RetP2.nil (Below.setCell (Below.setCell b2 (show w.heap.size ≤ w.heap.size + 1 + 1 by omega) _) (show w.heap.size ≤ w.heap.size + 1 + 1 by omega) _)
        · have he : insI nm ps k a b c = doneR nm (insL ps k (a, b, c)) := by simp [insI, t0, tr, t1, t2]
          rw [he]
          have t3 : decide ((32 : Int) ≤ (ps.length : Int)) = false := decide_eq_false (by omega)
          have hk2 : 0 ≤ k ∧ k ≤ (ps.length : Int) := by simpa [inB] using t1
          obtain ⟨i, rfl⟩ : ∃ i : Nat, k = (i : Int) := ⟨k.toNat, by omega⟩
          have hi : i ≤ ps.length := by omega
          have hcl := fun w' (hb : Below w.heap.size w w') => CloneR_c sv ps w' (hr.later hb) hl1 (by omega)
          have hins := fun base g cap vb w' (ho : OwnR base w' (.slice (some ⟨g, 0, none⟩) ps.length cap) ps) hb hv hne => InsertR_c base g cap i vb ps (a, b, c) w' ho hb hv hne hi (by omega)
          have hdone := fun base w' v (ho : OwnR base w' v (insL ps i (a, b, c))) => orState_c base nm v _ w' hnm ho
          have hrl : ps.take i ++ (a, b, c) :: ps.drop i = insL ps i (a, b, c) := rfl
          rw [hrl] at hins
          have hll : (insL ps i (a, b, c)).length = ps.length + 1 := by simp [insL]; omega
          have HLL := Lib.hid hll; clear hll
          generalize doneR nm (insL ps i (a, b, c)) = RES at *
          generalize insL ps i (a, b, c) = qs at *
          have HCL := Lib.hid hcl; clear hcl
          have HINS := Lib.hid hins; clear hins
          have HDONE := Lib.hid hdone; clear hdone
          have HL1 := Lib.hid hl1; clear hl1
          obtain ⟨_, ao, cap, _, _, rfl, _, _⟩ := hr.open
          clear he hr hal hrl t2
          go_enter Try.func16, Try.ntmps16
          have b0 : Below w.heap.size w w := Below.refl _ _
          have z0 : w.heap.size ≤ w.heap.size := Nat.le_refl _
          go_wp2_with fail
          refine (HOK.out _ (by go_grown)).mono ?_
          rintro _ w1 ⟨rfl, r1⟩
          have s1 : Below w.heap.size w w1 := Below.trans (by go_grown) (r1.mono (by simp; try omega))
          have b1 := b0.trans (s1.mono z0)
          have z1 := b1.size
          have y1 := s1.size
          have v1 : w.heap.size + 3 ≤ w1.heap.size := by have := r1.size; simp only [World.size_alloc] at this; omega
          have c0_0_1 := below_cell r1 (p := ⟨w.heap.size, 0, none⟩) (v := .string nm) (by simp [go_sem])
          have c0_1_1 := below_cell r1 (p := ⟨w.heap.size, 1, none⟩) (v := .slice ao ps.length cap) (by simp [go_sem])
          have c1_0_1 := below_cell r1 (p := ⟨w.heap.size + 1, 0, none⟩) (v := .int .i64 a) (by simp [go_sem])
          have c1_1_1 := below_cell r1 (p := ⟨w.heap.size + 1, 1, none⟩) (v := .int .i64 b) (by simp [go_sem])
          have c1_2_1 := below_cell r1 (p := ⟨w.heap.size + 1, 2, none⟩) (v := .int .i64 c) (by simp [go_sem])
          have c2_0_1 := below_cell r1 (p := ⟨w.heap.size + 1 + 1, 0, none⟩) (v := .string ⟨#[]⟩) (by simp [go_sem])
          have c2_1_1 := below_cell r1 (p := ⟨w.heap.size + 1 + 1, 1, none⟩) (v := .slice none 0 0) (by simp [go_sem])
          have f0_1 : ∀ j, w1.frozen? ⟨w.heap.size, j, none⟩ = false := fun j => (r1.frozen (p := ⟨w.heap.size, j, none⟩) (by simp [go_sem])).trans (by simp [go_sem])
          have f1_1 : ∀ j, w1.frozen? ⟨w.heap.size + 1, j, none⟩ = false := fun j => (r1.frozen (p := ⟨w.heap.size + 1, j, none⟩) (by simp [go_sem])).trans (by simp [go_sem])
          have f2_1 : ∀ j, w1.frozen? ⟨w.heap.size + 1 + 1, j, none⟩ = false := fun j => (r1.frozen (p := ⟨w.heap.size + 1 + 1, j, none⟩) (by simp [go_sem])).trans (by simp [go_sem])
          clear r1
          go_wp2_with fail
          refine (HVR.out _).mono ?_
          rintro _ w2 ⟨rfl, r2⟩
          have s2 := r2
          have b2 := b1.trans (s2.mono z1)
          have z2 := b2.size
          have y2 := s2.size
          have k0_2 := c0_0_1
          have c0_0_2 := below_cell s2 c0_0_1; clear c0_0_1
          have c0_1_2 := below_cell s2 c0_1_1; clear c0_1_1
          have k1_2 := c1_0_1
          have c1_0_2 := below_cell s2 c1_0_1; clear c1_0_1
          have c1_1_2 := below_cell s2 c1_1_1; clear c1_1_1
          have c1_2_2 := below_cell s2 c1_2_1; clear c1_2_1
          have k2_2 := c2_0_1
          have c2_0_2 := below_cell s2 c2_0_1; clear c2_0_1
          have c2_1_2 := below_cell s2 c2_1_1; clear c2_1_1
          have f0_2 : ∀ j, w2.frozen? ⟨w.heap.size, j, none⟩ = false := fun j => (s2.frozen (p := ⟨w.heap.size, j, none⟩) (show w.heap.size < _ from World.block_lt_of_cell? _ ⟨w.heap.size, 0, none⟩ k0_2)).trans (f0_1 j); clear f0_1
          have f1_2 : ∀ j, w2.frozen? ⟨w.heap.size + 1, j, none⟩ = false := fun j => (s2.frozen (p := ⟨w.heap.size + 1, j, none⟩) (show w.heap.size + 1 < _ from World.block_lt_of_cell? _ ⟨w.heap.size + 1, 0, none⟩ k1_2)).trans (f1_1 j); clear f1_1
          have f2_2 : ∀ j, w2.frozen? ⟨w.heap.size + 1 + 1, j, none⟩ = false := fun j => (s2.frozen (p := ⟨w.heap.size + 1 + 1, j, none⟩) (show w.heap.size + 1 + 1 < _ from World.block_lt_of_cell? _ ⟨w.heap.size + 1 + 1, 0, none⟩ k2_2)).trans (f2_1 j); clear f2_1
          clear r2
          go_wp2_with fail
          refine (HSZ.out _ b2).mono ?_
          rintro _ _ ⟨rfl, rfl⟩
          go_wp2_with fail
          refine (HIN.out _).mono ?_
          rintro _ _ ⟨rfl, rfl⟩
          go_wp2_with fail
          have e0 := c0_0_2
          have e1 := c0_1_2
          have g0 := c1_0_2
          have g1 := c1_1_2
          have g2 := c1_2_2
          have r0 := c2_0_2
          have r1 := c2_1_2
          have rf := f2_2
          have hvN : ∀ w' : World, (w'.alloc (.cells #[.int .i64 a, .int .i64 b, .int .i64 c] 38)).heap[w'.heap.size]? = some (ringO (a, b, c)) := fun w' => heap_alloc_new w' _
          have hvn : ∀ (w' : World) (x : Nat), x < w'.heap.size → w'.heap.size ≠ x := fun w' x h e => by omega
          have hsl : ∀ o, w2.heap.size < (w2.alloc o).heap.size := fun o => by simp
          have hR0 : w.heap.size ≠ w.heap.size + 1 + 1 := by omega
          have hR1 : w.heap.size + 1 ≠ w.heap.size + 1 + 1 := by omega
          have v12 : w.heap.size + 3 ≤ w2.heap.size := by omega
          clear c0_0_2 c0_1_2 c1_0_2 c1_1_2 c1_2_2 c2_0_2 c2_1_2 f0_2 f1_2 f2_2
          go_region_held3 (fun w' => w'.cell? ⟨w.heap.size, 0, none⟩ = some (.string nm) ∧ w'.cell? ⟨w.heap.size, 1, none⟩ = some (.slice ao ps.length cap) ∧ w'.cell? ⟨w.heap.size + 1, 0, none⟩ = some (.int .i64 a) ∧ w'.cell? ⟨w.heap.size + 1, 1, none⟩ = some (.int .i64 b) ∧ w'.cell? ⟨w.heap.size + 1, 2, none⟩ = some (.int .i64 c)) (first | with_reducible exact ⟨e0, e1, g0, g1, g2⟩ | with_reducible exact ⟨two_keep e0 hR0, two_keep e1 hR0, two_keep g0 hR1, two_keep g1 hR1, two_keep g2 hR1⟩ | exact ⟨below_cell (by go_grown) e0, below_cell (by go_grown) e1, below_cell (by go_grown) g0, below_cell (by go_grown) g1, below_cell (by go_grown) g2⟩) ((first | (go_at_call 49; refine (HCL.out w2.drew (b2.trans (Below.mono (by go_grown) z2))).mono ?_; rintro _ w3 ⟨v3, rfl, o3, q3'⟩; have q3 : Below w2.heap.size w2 w3 := Below.trans (by go_grown) (q3'.mono (by simp; try omega)); have e0 := below_cell q3 e0; have e1 := below_cell q3 e1; have g0 := below_cell q3 g0; have g1 := below_cell q3 g1; have g2 := below_cell q3 g2; have r0 := below_cell q3 r0; have r1 := below_cell q3 r1; have rf : ∀ j, w3.frozen? ⟨w.heap.size + 1 + 1, j, none⟩ = false := fun j => (q3.frozen (p := ⟨w.heap.size + 1 + 1, j, none⟩) (show w.heap.size + 1 + 1 < _ by omega)).trans (rf j); have o3 : OwnR w2.heap.size w3 v3 ps := own_base o3 (by simp); obtain ⟨gg, cap3, rfl, hg3, hg4⟩ := World.ownsRow.form o3 HL1.out; have hg4' := own_lt o3 gg rfl; have b3 := b2.trans (q3.mono z2); have y3 := q3.size; have O3 := Lib.hid o3; clear o3; clear q3' q3; have hBB : True := trivial) | (go_at_call 49; refine (HCL.out (w2.alloc (.cells #[.int .i64 a, .int .i64 b, .int .i64 c] 38)).drew (b2.trans (Below.mono (by go_grown) z2))).mono ?_; rintro _ w3 ⟨v3, rfl, o3, q3'⟩; refine (fun (hvb : w3.heap[w2.heap.size]? = some (ringO (a, b, c))) => ?_) ((q3'.block w2.heap.size (hsl _)).trans (hvN w2)); have lo3 := own_lo o3; have q3 : Below w2.heap.size w2 w3 := Below.trans (by go_grown) (q3'.mono (by simp; try omega)); have e0 := below_cell q3 e0; have e1 := below_cell q3 e1; have g0 := below_cell q3 g0; have g1 := below_cell q3 g1; have g2 := below_cell q3 g2; have r0 := below_cell q3 r0; have r1 := below_cell q3 r1; have rf : ∀ j, w3.frozen? ⟨w.heap.size + 1 + 1, j, none⟩ = false := fun j => (q3.frozen (p := ⟨w.heap.size + 1 + 1, j, none⟩) (show w.heap.size + 1 + 1 < _ by omega)).trans (rf j); have o3 : OwnR w2.heap.size w3 v3 ps := own_base o3 (by simp); obtain ⟨gg, cap3, rfl, hg3, hg4⟩ := World.ownsRow.form o3 HL1.out; have hg4' := own_lt o3 gg rfl; have hnv : w2.heap.size ≠ gg := (fun e => by have h8 := lo3 gg rfl; simp only [World.size_drew, World.size_alloc] at h8; omega); have b3 := b2.trans (q3.mono z2); have y3 := q3.size; have O3 := Lib.hid o3; clear o3; clear q3' q3) | (go_at_call 48; have hq := hvb; refine (HINS.out w2.heap.size gg cap3 w2.heap.size _ (by first | exact O3.out | exact own_later O3.out (by go_grown)) (by omega) hvb hnv).mono ?_; rintro _ w4 ⟨v4, rfl, o4, q4'⟩; have q4 := (Only.of_below (S := fun b => b = gg) (show Below w3.heap.size w3 _ by go_grown)).trans q4'; clear q4'; have e0 := cell_only q4 e0 (by show ¬ w.heap.size = gg; omega); have e1 := cell_only q4 e1 (by show ¬ w.heap.size = gg; omega); have g0 := cell_only q4 g0 (by show ¬ w.heap.size + 1 = gg; omega); have g1 := cell_only q4 g1 (by show ¬ w.heap.size + 1 = gg; omega); have g2 := cell_only q4 g2 (by show ¬ w.heap.size + 1 = gg; omega); have r0 := cell_only q4 r0 (by show ¬ w.heap.size + 1 + 1 = gg; omega); have r1 := cell_only q4 r1 (by show ¬ w.heap.size + 1 + 1 = gg; omega); have rf : ∀ j, w4.frozen? ⟨w.heap.size + 1 + 1, j, none⟩ = false := fun j => (frozen_only q4 (p := ⟨w.heap.size + 1 + 1, j, none⟩) (show w.heap.size + 1 + 1 < _ by omega) (show ¬ w.heap.size + 1 + 1 = gg by omega)).trans (rf j); have b4 := Only.below b3 q4 (by omega) (fun b e => by omega); have y4 := q4.size; have O4 := Lib.hid o4; clear o4; obtain ⟨a4, c4, rfl⟩ := own_shape O4.out; clear q4) | (go_at_call 48; have hq := hBB; refine (HINS.out w2.heap.size gg cap3 w3.heap.size (w3.alloc (.cells #[.int .i64 a, .int .i64 b, .int .i64 c] 38)) (by first | exact O3.out | exact own_later O3.out (by go_grown)) (by simp; try omega) (hvN w3) (hvn w3 gg hg4')).mono ?_; rintro _ w4 ⟨v4, rfl, o4, q4'⟩; have q4 := (Only.of_below (S := fun b => b = gg) (show Below w3.heap.size w3 _ by go_grown)).trans q4'; clear q4'; have e0 := cell_only q4 e0 (by show ¬ w.heap.size = gg; omega); have e1 := cell_only q4 e1 (by show ¬ w.heap.size = gg; omega); have g0 := cell_only q4 g0 (by show ¬ w.heap.size + 1 = gg; omega); have g1 := cell_only q4 g1 (by show ¬ w.heap.size + 1 = gg; omega); have g2 := cell_only q4 g2 (by show ¬ w.heap.size + 1 = gg; omega); have r0 := cell_only q4 r0 (by show ¬ w.heap.size + 1 + 1 = gg; omega); have r1 := cell_only q4 r1 (by show ¬ w.heap.size + 1 + 1 = gg; omega); have rf : ∀ j, w4.frozen? ⟨w.heap.size + 1 + 1, j, none⟩ = false := fun j => (frozen_only q4 (p := ⟨w.heap.size + 1 + 1, j, none⟩) (show w.heap.size + 1 + 1 < _ by omega) (show ¬ w.heap.size + 1 + 1 = gg by omega)).trans (rf j); have b4 := Only.below b3 q4 (by omega) (fun b e => by omega); have y4 := q4.size; have O4 := Lib.hid o4; clear o4; obtain ⟨a4, c4, rfl⟩ := own_shape O4.out; clear q4) | (go_at_call 47; refine (HDONE.out w2.heap.size _ _ (by first | exact O4.out | exact own_later O4.out (by go_grown))).mono ?_; rintro _ w5 ⟨v5, rfl, o5, q6⟩; have q3 : Below w4.heap.size w4 w5 := Below.trans (by go_grown) (q6.mono (by simp; try omega)); have e0 := below_cell q3 e0; have e1 := below_cell q3 e1; have g0 := below_cell q3 g0; have g1 := below_cell q3 g1; have g2 := below_cell q3 g2; have r0 := below_cell q3 r0; have r1 := below_cell q3 r1; have rf : ∀ j, w5.frozen? ⟨w.heap.size + 1 + 1, j, none⟩ = false := fun j => (q3.frozen (p := ⟨w.heap.size + 1 + 1, j, none⟩) (show w.heap.size + 1 + 1 < _ by omega)).trans (rf j); have b5 := b4.trans (q3.mono (by omega)); obtain ⟨a5, p5, rfl⟩ := own_shape o5; have O5 := Lib.hid o5; clear o5; clear q6 q3)))
          all_goals (
            have lo5 := own_lo O5.out
            go_wp2
            refine bodyPost_ret (v := .tuple #[.agg #[.string RES.1, .slice a5 RES.2.1.length p5], .int .i64 RES.2.2]) (by simp [results, Try.results16, go_sem, r0, r1]) rfl ?_
            have o11 := own_set O5.out (a := ⟨w.heap.size + 1 + 1, 0, none⟩) (fun k hk => by have h8 := lo5 k hk; show w.heap.size + 1 + 1 ≠ k; omega) (.string RES.1)
            have o12 := own_set o11 (a := ⟨w.heap.size + 1 + 1, 1, none⟩) (fun k hk => by have h8 := lo5 k hk; show w.heap.size + 1 + 1 ≠ k; omega) (.slice a5 RES.2.1.length p5)
            exact ⟨_, rfl, own_base o12 z2, (b5.setCell (show w.heap.size ≤ w.heap.size + 1 + 1 by omega) _).setCell (show w.heap.size ≤ w.heap.size + 1 + 1 by omega) _⟩)

end Go.Proofs.Ytjlenafdpoknhaa
