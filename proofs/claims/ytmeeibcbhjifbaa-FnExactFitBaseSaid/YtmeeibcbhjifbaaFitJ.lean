/- A model fitted to a sound: the program. -/
import Derived.Test.YtmeeibcbhjifbaaFitI
namespace Go.Proofs.Ytmeeibcbhjifbaa
set_option linter.unusedVariables false
open Go.RowKit Go.Proofs.Bell Go.BigFrame

set_option maxRecDepth 100000 in
set_option maxHeartbeats 6400000 in
theorem implFitBase_c (zv wv bv : Value) (zs : List Int) (ws : List (List Int)) (bs : List Int) (nm : ByteArray) (sv : Value) (ps : List (Int × Int × Int)) (a b c d f : Int) (w : World) (hz : Rd w zv zs.length (ints zs)) (hw : RdSS w wv ws) (hb : Rd w bv bs.length (ints bs)) (hnm : nm.size ≤ maxLen) (hr : Rd w sv ps.length (trips ps)) :
    Calls Try.prog 20 #[.agg #[zv, wv, bv], .agg #[.string nm, sv], .agg #[.int .i64 a, .int .i64 b, .int .i64 c, .int .i64 d, .int .i64 f]] w (RetM2 (fitM zs ws bs nm ps a b c d f).1.1 (fitM zs ws bs nm ps a b c d f).1.2.1 (fitM zs ws bs nm ps a b c d f).1.2.2 (.int .i64 (fitM zs ws bs nm ps a b c d f).2) w) := by
  have hso := fun w' => ValidSound_c a b c d f w'
  have hmo := fun w' (hx : Below w.heap.size w w') => implValidModel_c zv wv bv zs ws bs w' (hz.later hx) (hw.later hx) (hb.later hx)
  have hok := fun w' (hx : Below w.heap.size w w') => ValidProfile_c nm sv ps w' hnm (hr.later hx)
  have hvz := fun w' (hx : Below w.heap.size w w') => ValidZones_c nm sv ps zv zs w' hnm (hr.later hx) (hz.later hx)
  have HMO := Lib.hid hmo; clear hmo
  have HOK := Lib.hid hok; clear hok
  have HVZ := Lib.hid hvz; clear hvz
  have HSO := Lib.hid hso; clear hso
  cases t1 : modelB zs ws bs <;> rw [t1] at HMO
  · have he : fitM zs ws bs nm ps a b c d f = (([], [], []), 1) := by cases h : soundB a b c d f <;> simp [fitM, modAsk, t1, h]
    rw [he]
    clear he hz hw hb hr t1
    go_enter Try.func20, Try.ntmps20
    have b0 : Below w.heap.size w w := Below.refl _ _
    have z0 : w.heap.size ≤ w.heap.size := Nat.le_refl _
    go_wp2_with fail
    refine (HMO.out _ (by go_grown)).mono ?_
    rintro _ w1 ⟨rfl, r1⟩
    have s1 : Below w.heap.size w w1 := Below.trans (by go_grown) (r1.mono (by simp; try omega))
    have b1 := b0.trans (s1.mono z0)
    have z1 := b1.size
    have y1 := s1.size
    have c0_0_1 := below_cell r1 (p := ⟨w.heap.size, 0, none⟩) (v := zv) (by simp [go_sem])
    have c0_1_1 := below_cell r1 (p := ⟨w.heap.size, 1, none⟩) (v := wv) (by simp [go_sem])
    have c0_2_1 := below_cell r1 (p := ⟨w.heap.size, 2, none⟩) (v := bv) (by simp [go_sem])
    have c1_0_1 := below_cell r1 (p := ⟨w.heap.size + 1, 0, none⟩) (v := .string nm) (by simp [go_sem])
    have c1_1_1 := below_cell r1 (p := ⟨w.heap.size + 1, 1, none⟩) (v := sv) (by simp [go_sem])
    have c2_0_1 := below_cell r1 (p := ⟨w.heap.size + 1 + 1, 0, none⟩) (v := .int .i64 a) (by simp [go_sem])
    have c2_1_1 := below_cell r1 (p := ⟨w.heap.size + 1 + 1, 1, none⟩) (v := .int .i64 b) (by simp [go_sem])
    have c2_2_1 := below_cell r1 (p := ⟨w.heap.size + 1 + 1, 2, none⟩) (v := .int .i64 c) (by simp [go_sem])
    have c2_3_1 := below_cell r1 (p := ⟨w.heap.size + 1 + 1, 3, none⟩) (v := .int .i64 d) (by simp [go_sem])
    have c2_4_1 := below_cell r1 (p := ⟨w.heap.size + 1 + 1, 4, none⟩) (v := .int .i64 f) (by simp [go_sem])
    have c3_0_1 := below_cell r1 (p := ⟨w.heap.size + 1 + 1 + 1, 0, none⟩) (v := .slice none 0 0) (by simp [go_sem])
    have c3_1_1 := below_cell r1 (p := ⟨w.heap.size + 1 + 1 + 1, 1, none⟩) (v := .slice none 0 0) (by simp [go_sem])
    have c3_2_1 := below_cell r1 (p := ⟨w.heap.size + 1 + 1 + 1, 2, none⟩) (v := .slice none 0 0) (by simp [go_sem])
    have f3_1 : ∀ j, w1.frozen? ⟨w.heap.size + 1 + 1 + 1, j, none⟩ = false := fun j => (r1.frozen (p := ⟨w.heap.size + 1 + 1 + 1, j, none⟩) (by simp [go_sem])).trans (by simp [go_sem])
    clear r1
    go_wp2
    refine bodyPost_ret (v := .tuple #[.agg #[.slice none 0 0, .slice none 0 0, .slice none 0 0], .int .i64 1]) (by simp [results, Try.results20, go_sem, c3_0_1, c3_1_1, c3_2_1]) rfl ?_
    exact RetM2.nil (below3 b1 (show w.heap.size ≤ w.heap.size + 1 + 1 + 1 by omega) _ _ _)
  · cases t2 : profB nm ps <;> rw [t2] at HOK
    · have he : fitM zs ws bs nm ps a b c d f = (([], [], []), 1) := by cases h : soundB a b c d f <;> simp [fitM, modAsk, t1, t2, h]
      rw [he]
      clear he hz hw hb hr t1 t2
      go_enter Try.func20, Try.ntmps20
      have b0 : Below w.heap.size w w := Below.refl _ _
      have z0 : w.heap.size ≤ w.heap.size := Nat.le_refl _
      go_wp2_with fail
      refine (HMO.out _ (by go_grown)).mono ?_
      rintro _ w1 ⟨rfl, r1⟩
      have s1 : Below w.heap.size w w1 := Below.trans (by go_grown) (r1.mono (by simp; try omega))
      have b1 := b0.trans (s1.mono z0)
      have z1 := b1.size
      have y1 := s1.size
      have c0_0_1 := below_cell r1 (p := ⟨w.heap.size, 0, none⟩) (v := zv) (by simp [go_sem])
      have c0_1_1 := below_cell r1 (p := ⟨w.heap.size, 1, none⟩) (v := wv) (by simp [go_sem])
      have c0_2_1 := below_cell r1 (p := ⟨w.heap.size, 2, none⟩) (v := bv) (by simp [go_sem])
      have c1_0_1 := below_cell r1 (p := ⟨w.heap.size + 1, 0, none⟩) (v := .string nm) (by simp [go_sem])
      have c1_1_1 := below_cell r1 (p := ⟨w.heap.size + 1, 1, none⟩) (v := sv) (by simp [go_sem])
      have c2_0_1 := below_cell r1 (p := ⟨w.heap.size + 1 + 1, 0, none⟩) (v := .int .i64 a) (by simp [go_sem])
      have c2_1_1 := below_cell r1 (p := ⟨w.heap.size + 1 + 1, 1, none⟩) (v := .int .i64 b) (by simp [go_sem])
      have c2_2_1 := below_cell r1 (p := ⟨w.heap.size + 1 + 1, 2, none⟩) (v := .int .i64 c) (by simp [go_sem])
      have c2_3_1 := below_cell r1 (p := ⟨w.heap.size + 1 + 1, 3, none⟩) (v := .int .i64 d) (by simp [go_sem])
      have c2_4_1 := below_cell r1 (p := ⟨w.heap.size + 1 + 1, 4, none⟩) (v := .int .i64 f) (by simp [go_sem])
      have c3_0_1 := below_cell r1 (p := ⟨w.heap.size + 1 + 1 + 1, 0, none⟩) (v := .slice none 0 0) (by simp [go_sem])
      have c3_1_1 := below_cell r1 (p := ⟨w.heap.size + 1 + 1 + 1, 1, none⟩) (v := .slice none 0 0) (by simp [go_sem])
      have c3_2_1 := below_cell r1 (p := ⟨w.heap.size + 1 + 1 + 1, 2, none⟩) (v := .slice none 0 0) (by simp [go_sem])
      have f3_1 : ∀ j, w1.frozen? ⟨w.heap.size + 1 + 1 + 1, j, none⟩ = false := fun j => (r1.frozen (p := ⟨w.heap.size + 1 + 1 + 1, j, none⟩) (by simp [go_sem])).trans (by simp [go_sem])
      clear r1
      go_wp2_with fail
      refine (HOK.out _ b1).mono ?_
      rintro _ w2 ⟨rfl, r2⟩
      have s2 := r2
      have b2 := b1.trans (s2.mono z1)
      have z2 := b2.size
      have y2 := s2.size
      have c0_0_2 := below_cell s2 c0_0_1; clear c0_0_1
      have c0_1_2 := below_cell s2 c0_1_1; clear c0_1_1
      have c0_2_2 := below_cell s2 c0_2_1; clear c0_2_1
      have c1_0_2 := below_cell s2 c1_0_1; clear c1_0_1
      have c1_1_2 := below_cell s2 c1_1_1; clear c1_1_1
      have c2_0_2 := below_cell s2 c2_0_1; clear c2_0_1
      have c2_1_2 := below_cell s2 c2_1_1; clear c2_1_1
      have c2_2_2 := below_cell s2 c2_2_1; clear c2_2_1
      have c2_3_2 := below_cell s2 c2_3_1; clear c2_3_1
      have c2_4_2 := below_cell s2 c2_4_1; clear c2_4_1
      have k3_2 := c3_0_1
      have c3_0_2 := below_cell s2 c3_0_1; clear c3_0_1
      have c3_1_2 := below_cell s2 c3_1_1; clear c3_1_1
      have c3_2_2 := below_cell s2 c3_2_1; clear c3_2_1
      have f3_2 : ∀ j, w2.frozen? ⟨w.heap.size + 1 + 1 + 1, j, none⟩ = false := fun j => (s2.frozen (p := ⟨w.heap.size + 1 + 1 + 1, j, none⟩) (show w.heap.size + 1 + 1 + 1 < _ from World.block_lt_of_cell? _ ⟨w.heap.size + 1 + 1 + 1, 0, none⟩ k3_2)).trans (f3_1 j); clear f3_1
      clear r2
      go_wp2
      refine bodyPost_ret (v := .tuple #[.agg #[.slice none 0 0, .slice none 0 0, .slice none 0 0], .int .i64 1]) (by simp [results, Try.results20, go_sem, c3_0_2, c3_1_2, c3_2_2]) rfl ?_
      exact RetM2.nil (below3 b2 (show w.heap.size ≤ w.heap.size + 1 + 1 + 1 by omega) _ _ _)
    · cases t0 : soundB a b c d f <;> rw [t0] at HSO
      · have he : fitM zs ws bs nm ps a b c d f = (([], [], []), 1) := by simp [fitM, t0]
        rw [he]
        clear he hz hw hb hr t1 t2 t0
        go_enter Try.func20, Try.ntmps20
        have b0 : Below w.heap.size w w := Below.refl _ _
        have z0 : w.heap.size ≤ w.heap.size := Nat.le_refl _
        go_wp2_with fail
        refine (HMO.out _ (by go_grown)).mono ?_
        rintro _ w1 ⟨rfl, r1⟩
        have s1 : Below w.heap.size w w1 := Below.trans (by go_grown) (r1.mono (by simp; try omega))
        have b1 := b0.trans (s1.mono z0)
        have z1 := b1.size
        have y1 := s1.size
        have c0_0_1 := below_cell r1 (p := ⟨w.heap.size, 0, none⟩) (v := zv) (by simp [go_sem])
        have c0_1_1 := below_cell r1 (p := ⟨w.heap.size, 1, none⟩) (v := wv) (by simp [go_sem])
        have c0_2_1 := below_cell r1 (p := ⟨w.heap.size, 2, none⟩) (v := bv) (by simp [go_sem])
        have c1_0_1 := below_cell r1 (p := ⟨w.heap.size + 1, 0, none⟩) (v := .string nm) (by simp [go_sem])
        have c1_1_1 := below_cell r1 (p := ⟨w.heap.size + 1, 1, none⟩) (v := sv) (by simp [go_sem])
        have c2_0_1 := below_cell r1 (p := ⟨w.heap.size + 1 + 1, 0, none⟩) (v := .int .i64 a) (by simp [go_sem])
        have c2_1_1 := below_cell r1 (p := ⟨w.heap.size + 1 + 1, 1, none⟩) (v := .int .i64 b) (by simp [go_sem])
        have c2_2_1 := below_cell r1 (p := ⟨w.heap.size + 1 + 1, 2, none⟩) (v := .int .i64 c) (by simp [go_sem])
        have c2_3_1 := below_cell r1 (p := ⟨w.heap.size + 1 + 1, 3, none⟩) (v := .int .i64 d) (by simp [go_sem])
        have c2_4_1 := below_cell r1 (p := ⟨w.heap.size + 1 + 1, 4, none⟩) (v := .int .i64 f) (by simp [go_sem])
        have c3_0_1 := below_cell r1 (p := ⟨w.heap.size + 1 + 1 + 1, 0, none⟩) (v := .slice none 0 0) (by simp [go_sem])
        have c3_1_1 := below_cell r1 (p := ⟨w.heap.size + 1 + 1 + 1, 1, none⟩) (v := .slice none 0 0) (by simp [go_sem])
        have c3_2_1 := below_cell r1 (p := ⟨w.heap.size + 1 + 1 + 1, 2, none⟩) (v := .slice none 0 0) (by simp [go_sem])
        have f3_1 : ∀ j, w1.frozen? ⟨w.heap.size + 1 + 1 + 1, j, none⟩ = false := fun j => (r1.frozen (p := ⟨w.heap.size + 1 + 1 + 1, j, none⟩) (by simp [go_sem])).trans (by simp [go_sem])
        clear r1
        go_wp2_with fail
        refine (HOK.out _ b1).mono ?_
        rintro _ w2 ⟨rfl, r2⟩
        have s2 := r2
        have b2 := b1.trans (s2.mono z1)
        have z2 := b2.size
        have y2 := s2.size
        have c0_0_2 := below_cell s2 c0_0_1; clear c0_0_1
        have c0_1_2 := below_cell s2 c0_1_1; clear c0_1_1
        have c0_2_2 := below_cell s2 c0_2_1; clear c0_2_1
        have c1_0_2 := below_cell s2 c1_0_1; clear c1_0_1
        have c1_1_2 := below_cell s2 c1_1_1; clear c1_1_1
        have c2_0_2 := below_cell s2 c2_0_1; clear c2_0_1
        have c2_1_2 := below_cell s2 c2_1_1; clear c2_1_1
        have c2_2_2 := below_cell s2 c2_2_1; clear c2_2_1
        have c2_3_2 := below_cell s2 c2_3_1; clear c2_3_1
        have c2_4_2 := below_cell s2 c2_4_1; clear c2_4_1
        have k3_2 := c3_0_1
        have c3_0_2 := below_cell s2 c3_0_1; clear c3_0_1
        have c3_1_2 := below_cell s2 c3_1_1; clear c3_1_1
        have c3_2_2 := below_cell s2 c3_2_1; clear c3_2_1
        have f3_2 : ∀ j, w2.frozen? ⟨w.heap.size + 1 + 1 + 1, j, none⟩ = false := fun j => (s2.frozen (p := ⟨w.heap.size + 1 + 1 + 1, j, none⟩) (show w.heap.size + 1 + 1 + 1 < _ from World.block_lt_of_cell? _ ⟨w.heap.size + 1 + 1 + 1, 0, none⟩ k3_2)).trans (f3_1 j); clear f3_1
        clear r2
        go_wp2_with fail
        refine (HSO.out _).mono ?_
        rintro _ w3 ⟨rfl, r3⟩
        have s3 := r3
        have b3 := b2.trans (s3.mono z2)
        have z3 := b3.size
        have y3 := s3.size
        have c0_0_3 := below_cell s3 c0_0_2; clear c0_0_2
        have c0_1_3 := below_cell s3 c0_1_2; clear c0_1_2
        have c0_2_3 := below_cell s3 c0_2_2; clear c0_2_2
        have c1_0_3 := below_cell s3 c1_0_2; clear c1_0_2
        have c1_1_3 := below_cell s3 c1_1_2; clear c1_1_2
        have c2_0_3 := below_cell s3 c2_0_2; clear c2_0_2
        have c2_1_3 := below_cell s3 c2_1_2; clear c2_1_2
        have c2_2_3 := below_cell s3 c2_2_2; clear c2_2_2
        have c2_3_3 := below_cell s3 c2_3_2; clear c2_3_2
        have c2_4_3 := below_cell s3 c2_4_2; clear c2_4_2
        have k3_3 := c3_0_2
        have c3_0_3 := below_cell s3 c3_0_2; clear c3_0_2
        have c3_1_3 := below_cell s3 c3_1_2; clear c3_1_2
        have c3_2_3 := below_cell s3 c3_2_2; clear c3_2_2
        have f3_3 : ∀ j, w3.frozen? ⟨w.heap.size + 1 + 1 + 1, j, none⟩ = false := fun j => (s3.frozen (p := ⟨w.heap.size + 1 + 1 + 1, j, none⟩) (show w.heap.size + 1 + 1 + 1 < _ from World.block_lt_of_cell? _ ⟨w.heap.size + 1 + 1 + 1, 0, none⟩ k3_3)).trans (f3_2 j); clear f3_2
        clear r3
        go_wp2
        refine bodyPost_ret (v := .tuple #[.agg #[.slice none 0 0, .slice none 0 0, .slice none 0 0], .int .i64 1]) (by simp [results, Try.results20, go_sem, c3_0_3, c3_1_3, c3_2_3]) rfl ?_
        exact RetM2.nil (below3 b3 (show w.heap.size ≤ w.heap.size + 1 + 1 + 1 by omega) _ _ _)
      · cases t3 : vzB nm ps zs <;> rw [t3] at HVZ
        · have he : fitM zs ws bs nm ps a b c d f = (([], [], []), 2) := by simp [fitM, modAsk, t0, t1, t2, t3]
          rw [he]
          obtain ⟨_, aoz, capz, _, _, rfl, _, _⟩ := hz.open
          clear he hz hw hb hr t1 t2 t0 t3
          go_enter Try.func20, Try.ntmps20
          have b0 : Below w.heap.size w w := Below.refl _ _
          have z0 : w.heap.size ≤ w.heap.size := Nat.le_refl _
          go_wp2_with fail
          refine (HMO.out _ (by go_grown)).mono ?_
          rintro _ w1 ⟨rfl, r1⟩
          have s1 : Below w.heap.size w w1 := Below.trans (by go_grown) (r1.mono (by simp; try omega))
          have b1 := b0.trans (s1.mono z0)
          have z1 := b1.size
          have y1 := s1.size
          have c0_0_1 := below_cell r1 (p := ⟨w.heap.size, 0, none⟩) (v := .slice aoz zs.length capz) (by simp [go_sem])
          have c0_1_1 := below_cell r1 (p := ⟨w.heap.size, 1, none⟩) (v := wv) (by simp [go_sem])
          have c0_2_1 := below_cell r1 (p := ⟨w.heap.size, 2, none⟩) (v := bv) (by simp [go_sem])
          have c1_0_1 := below_cell r1 (p := ⟨w.heap.size + 1, 0, none⟩) (v := .string nm) (by simp [go_sem])
          have c1_1_1 := below_cell r1 (p := ⟨w.heap.size + 1, 1, none⟩) (v := sv) (by simp [go_sem])
          have c2_0_1 := below_cell r1 (p := ⟨w.heap.size + 1 + 1, 0, none⟩) (v := .int .i64 a) (by simp [go_sem])
          have c2_1_1 := below_cell r1 (p := ⟨w.heap.size + 1 + 1, 1, none⟩) (v := .int .i64 b) (by simp [go_sem])
          have c2_2_1 := below_cell r1 (p := ⟨w.heap.size + 1 + 1, 2, none⟩) (v := .int .i64 c) (by simp [go_sem])
          have c2_3_1 := below_cell r1 (p := ⟨w.heap.size + 1 + 1, 3, none⟩) (v := .int .i64 d) (by simp [go_sem])
          have c2_4_1 := below_cell r1 (p := ⟨w.heap.size + 1 + 1, 4, none⟩) (v := .int .i64 f) (by simp [go_sem])
          have c3_0_1 := below_cell r1 (p := ⟨w.heap.size + 1 + 1 + 1, 0, none⟩) (v := .slice none 0 0) (by simp [go_sem])
          have c3_1_1 := below_cell r1 (p := ⟨w.heap.size + 1 + 1 + 1, 1, none⟩) (v := .slice none 0 0) (by simp [go_sem])
          have c3_2_1 := below_cell r1 (p := ⟨w.heap.size + 1 + 1 + 1, 2, none⟩) (v := .slice none 0 0) (by simp [go_sem])
          have f3_1 : ∀ j, w1.frozen? ⟨w.heap.size + 1 + 1 + 1, j, none⟩ = false := fun j => (r1.frozen (p := ⟨w.heap.size + 1 + 1 + 1, j, none⟩) (by simp [go_sem])).trans (by simp [go_sem])
          clear r1
          go_wp2_with fail
          refine (HOK.out _ b1).mono ?_
          rintro _ w2 ⟨rfl, r2⟩
          have s2 := r2
          have b2 := b1.trans (s2.mono z1)
          have z2 := b2.size
          have y2 := s2.size
          have c0_0_2 := below_cell s2 c0_0_1; clear c0_0_1
          have c0_1_2 := below_cell s2 c0_1_1; clear c0_1_1
          have c0_2_2 := below_cell s2 c0_2_1; clear c0_2_1
          have c1_0_2 := below_cell s2 c1_0_1; clear c1_0_1
          have c1_1_2 := below_cell s2 c1_1_1; clear c1_1_1
          have c2_0_2 := below_cell s2 c2_0_1; clear c2_0_1
          have c2_1_2 := below_cell s2 c2_1_1; clear c2_1_1
          have c2_2_2 := below_cell s2 c2_2_1; clear c2_2_1
          have c2_3_2 := below_cell s2 c2_3_1; clear c2_3_1
          have c2_4_2 := below_cell s2 c2_4_1; clear c2_4_1
          have k3_2 := c3_0_1
          have c3_0_2 := below_cell s2 c3_0_1; clear c3_0_1
          have c3_1_2 := below_cell s2 c3_1_1; clear c3_1_1
          have c3_2_2 := below_cell s2 c3_2_1; clear c3_2_1
          have f3_2 : ∀ j, w2.frozen? ⟨w.heap.size + 1 + 1 + 1, j, none⟩ = false := fun j => (s2.frozen (p := ⟨w.heap.size + 1 + 1 + 1, j, none⟩) (show w.heap.size + 1 + 1 + 1 < _ from World.block_lt_of_cell? _ ⟨w.heap.size + 1 + 1 + 1, 0, none⟩ k3_2)).trans (f3_1 j); clear f3_1
          clear r2
          go_wp2_with fail
          refine (HSO.out _).mono ?_
          rintro _ w3 ⟨rfl, r3⟩
          have s3 := r3
          have b3 := b2.trans (s3.mono z2)
          have z3 := b3.size
          have y3 := s3.size
          have c0_0_3 := below_cell s3 c0_0_2; clear c0_0_2
          have c0_1_3 := below_cell s3 c0_1_2; clear c0_1_2
          have c0_2_3 := below_cell s3 c0_2_2; clear c0_2_2
          have c1_0_3 := below_cell s3 c1_0_2; clear c1_0_2
          have c1_1_3 := below_cell s3 c1_1_2; clear c1_1_2
          have c2_0_3 := below_cell s3 c2_0_2; clear c2_0_2
          have c2_1_3 := below_cell s3 c2_1_2; clear c2_1_2
          have c2_2_3 := below_cell s3 c2_2_2; clear c2_2_2
          have c2_3_3 := below_cell s3 c2_3_2; clear c2_3_2
          have c2_4_3 := below_cell s3 c2_4_2; clear c2_4_2
          have k3_3 := c3_0_2
          have c3_0_3 := below_cell s3 c3_0_2; clear c3_0_2
          have c3_1_3 := below_cell s3 c3_1_2; clear c3_1_2
          have c3_2_3 := below_cell s3 c3_2_2; clear c3_2_2
          have f3_3 : ∀ j, w3.frozen? ⟨w.heap.size + 1 + 1 + 1, j, none⟩ = false := fun j => (s3.frozen (p := ⟨w.heap.size + 1 + 1 + 1, j, none⟩) (show w.heap.size + 1 + 1 + 1 < _ from World.block_lt_of_cell? _ ⟨w.heap.size + 1 + 1 + 1, 0, none⟩ k3_3)).trans (f3_2 j); clear f3_2
          clear r3
          go_wp2_with fail
          refine (HVZ.out _ b3).mono ?_
          rintro _ w4 ⟨rfl, r4⟩
          have s4 := r4
          have b4 := b3.trans (s4.mono z3)
          have z4 := b4.size
          have y4 := s4.size
          have c0_0_4 := below_cell s4 c0_0_3; clear c0_0_3
          have c0_1_4 := below_cell s4 c0_1_3; clear c0_1_3
          have c0_2_4 := below_cell s4 c0_2_3; clear c0_2_3
          have c1_0_4 := below_cell s4 c1_0_3; clear c1_0_3
          have c1_1_4 := below_cell s4 c1_1_3; clear c1_1_3
          have c2_0_4 := below_cell s4 c2_0_3; clear c2_0_3
          have c2_1_4 := below_cell s4 c2_1_3; clear c2_1_3
          have c2_2_4 := below_cell s4 c2_2_3; clear c2_2_3
          have c2_3_4 := below_cell s4 c2_3_3; clear c2_3_3
          have c2_4_4 := below_cell s4 c2_4_3; clear c2_4_3
          have k3_4 := c3_0_3
          have c3_0_4 := below_cell s4 c3_0_3; clear c3_0_3
          have c3_1_4 := below_cell s4 c3_1_3; clear c3_1_3
          have c3_2_4 := below_cell s4 c3_2_3; clear c3_2_3
          have f3_4 : ∀ j, w4.frozen? ⟨w.heap.size + 1 + 1 + 1, j, none⟩ = false := fun j => (s4.frozen (p := ⟨w.heap.size + 1 + 1 + 1, j, none⟩) (show w.heap.size + 1 + 1 + 1 < _ from World.block_lt_of_cell? _ ⟨w.heap.size + 1 + 1 + 1, 0, none⟩ k3_4)).trans (f3_3 j); clear f3_3
          clear r4
          go_wp2
          refine bodyPost_ret (v := .tuple #[.agg #[.slice none 0 0, .slice none 0 0, .slice none 0 0], .int .i64 2]) (by simp [results, Try.results20, go_sem, c3_0_4, c3_1_4, c3_2_4]) rfl ?_
          exact RetM2.nil (below3 b4 (show w.heap.size ≤ w.heap.size + 1 + 1 + 1 by omega) _ _ _)
        · have t4 : modAsk zs ws bs nm ps = 0 := by simp [modAsk, t1, t2, t3]
          obtain ⟨_, _, hzb⟩ := modAsk_ok t4
          obtain ⟨hz1, hz8, hw5, hb5, _⟩ := modelB_t t1
          obtain ⟨hl1, hl2, hal, hht⟩ := profB_t t2
          have hls := soundB_bd t0
          have hwe := fun w' (hx : Below w.heap.size w w') => weighted_c zv wv bv zs ws bs nm sv ps w' (hz.later hx) (hw.later hx) (hr.later hx) t1 hl1 hl2 hal hzb
          have hcp := fun w' (hx : Below w.heap.size w w') => copyModel_c zv wv bv zs ws bs w' (hz.later hx) (hw.later hx) (hb.later hx) hz1 (by omega) (by omega) (by omega) (by omega) (by omega) (fun k hk => by have := (row_bd t1 k (by omega)).1; omega)
          have hli := fun w' => listOfO_c a b c d f w'
          have hlb := lipI_bd hl1 hal
          have hmp : ∀ k, k < 5 → 1 ≤ (sumsK (zwK ps zs zs.length) ws 5).getD k 0 := fun k hk => by rw [sumsK_at _ _ 5 k hk, zwK_len]; exact mom_pos hal hzb t1 hk
          have hmbd : ∀ k, k < 5 → (sumsK (zwK ps zs zs.length) ws 5).getD k 0 ≤ 150000000 * (zs.length : Int) := fun k hk => by
            rw [sumsK_at _ _ 5 k hk]
            have := (momK_bd (walls := zwK ps zs zs.length) (row := ws.getD k []) (zw_bd hal hzb) (row_bd t1 k hk).2.1 (zwK ps zs zs.length).length).2
            rw [zwK_len] at this ⊢
            exact this
          have hsl := sumsK_len (zwK ps zs zs.length) ws 5
          have hbad : ∀ k, k < 5 → inB (fitV [a, b, c, d, f] (sumsK (zwK ps zs zs.length) ws 5) (lipI ps) k) 1 1000000000 = false → fitM zs ws bs nm ps a b c d f = (([], [], []), 6) := fun k (hk : k < 5) h => by
            have := fitI_f (zs := zs) (ws := ws) (bs := bs) (ps := ps) (ls := [a, b, c, d, f]) hk h
            simp [fitM, t0, t4, this]
          have hgood : fitOkK [a, b, c, d, f] (sumsK (zwK ps zs zs.length) ws 5) (lipI ps) 5 = true → fitM zs ws bs nm ps a b c d f = ((zs, ws, fitK [a, b, c, d, f] (sumsK (zwK ps zs zs.length) ws 5) (lipI ps) bs 5), 0) := fun h => by simp [fitM, t0, t4, fitI, h]
          have hl5 : [a, b, c, d, f].length = 5 := rfl
          generalize fitM zs ws bs nm ps a b c d f = RES at *
          generalize sumsK (zwK ps zs zs.length) ws 5 = sums at *
          generalize [a, b, c, d, f] = ls at *
          have hkl := fun k => fitK_len ls sums (lipI ps) bs k
          have hks := fun k => (show (fitK ls sums (lipI ps) bs k).set k (fitV ls sums (lipI ps) k) = fitK ls sums (lipI ps) bs (k + 1) from rfl)
          have hko := fun k => (show (fitOkK ls sums (lipI ps) k && inB (fitV ls sums (lipI ps) k) 1 1000000000) = fitOkK ls sums (lipI ps) (k + 1) from rfl)
          have hkv := fun k => (show fitV ls sums (lipI ps) k = rnd (ls.getD k 0 * lipI ps) (sums.getD k 0) from rfl)
          have hk0 : fitK ls sums (lipI ps) bs 0 = bs := rfl
          have hk1 : fitOkK ls sums (lipI ps) 0 = true := rfl
          obtain ⟨_, aoz, capz, _, _, rfl, _, _⟩ := hz.open
          clear hz hw hr hb hal hzb t0 t1 t2 t3 t4
          generalize lipI ps = area at *
          have HWE := Lib.hid hwe; clear hwe
          have HCP := Lib.hid hcp; clear hcp
          have HLI := Lib.hid hli; clear hli
          have HMP := Lib.hid hmp; clear hmp
          have HMBD := Lib.hid hmbd; clear hmbd
          have HSL := Lib.hid hsl; clear hsl
          have HBAD := Lib.hid hbad; clear hbad
          have HGOOD := Lib.hid hgood; clear hgood
          have HKL := Lib.hid hkl; clear hkl
          have HKS := Lib.hid hks; clear hks
          have HKO := Lib.hid hko; clear hko
          have HKV := Lib.hid hkv; clear hkv
          have HK0 := Lib.hid hk0; clear hk0
          have HK1 := Lib.hid hk1; clear hk1
          have HLS := Lib.hid hls; clear hls
          have HL5 := Lib.hid hl5; clear hl5
          have HW5 := Lib.hid hw5; clear hw5
          have HB5 := Lib.hid hb5; clear hb5
          go_enter Try.func20, Try.ntmps20
          have b0 : Below w.heap.size w w := Below.refl _ _
          have z0 : w.heap.size ≤ w.heap.size := Nat.le_refl _
          go_wp2_with fail
          refine (HMO.out _ (by go_grown)).mono ?_
          rintro _ w1 ⟨rfl, r1⟩
          have s1 : Below w.heap.size w w1 := Below.trans (by go_grown) (r1.mono (by simp; try omega))
          have b1 := b0.trans (s1.mono z0)
          have z1 := b1.size
          have y1 := s1.size
          have c0_0_1 := below_cell r1 (p := ⟨w.heap.size, 0, none⟩) (v := .slice aoz zs.length capz) (by simp [go_sem])
          have c0_1_1 := below_cell r1 (p := ⟨w.heap.size, 1, none⟩) (v := wv) (by simp [go_sem])
          have c0_2_1 := below_cell r1 (p := ⟨w.heap.size, 2, none⟩) (v := bv) (by simp [go_sem])
          have c1_0_1 := below_cell r1 (p := ⟨w.heap.size + 1, 0, none⟩) (v := .string nm) (by simp [go_sem])
          have c1_1_1 := below_cell r1 (p := ⟨w.heap.size + 1, 1, none⟩) (v := sv) (by simp [go_sem])
          have c2_0_1 := below_cell r1 (p := ⟨w.heap.size + 1 + 1, 0, none⟩) (v := .int .i64 a) (by simp [go_sem])
          have c2_1_1 := below_cell r1 (p := ⟨w.heap.size + 1 + 1, 1, none⟩) (v := .int .i64 b) (by simp [go_sem])
          have c2_2_1 := below_cell r1 (p := ⟨w.heap.size + 1 + 1, 2, none⟩) (v := .int .i64 c) (by simp [go_sem])
          have c2_3_1 := below_cell r1 (p := ⟨w.heap.size + 1 + 1, 3, none⟩) (v := .int .i64 d) (by simp [go_sem])
          have c2_4_1 := below_cell r1 (p := ⟨w.heap.size + 1 + 1, 4, none⟩) (v := .int .i64 f) (by simp [go_sem])
          have c3_0_1 := below_cell r1 (p := ⟨w.heap.size + 1 + 1 + 1, 0, none⟩) (v := .slice none 0 0) (by simp [go_sem])
          have c3_1_1 := below_cell r1 (p := ⟨w.heap.size + 1 + 1 + 1, 1, none⟩) (v := .slice none 0 0) (by simp [go_sem])
          have c3_2_1 := below_cell r1 (p := ⟨w.heap.size + 1 + 1 + 1, 2, none⟩) (v := .slice none 0 0) (by simp [go_sem])
          have f3_1 : ∀ j, w1.frozen? ⟨w.heap.size + 1 + 1 + 1, j, none⟩ = false := fun j => (r1.frozen (p := ⟨w.heap.size + 1 + 1 + 1, j, none⟩) (by simp [go_sem])).trans (by simp [go_sem])
          clear r1
          go_wp2_with fail
          refine (HOK.out _ b1).mono ?_
          rintro _ w2 ⟨rfl, r2⟩
          have s2 := r2
          have b2 := b1.trans (s2.mono z1)
          have z2 := b2.size
          have y2 := s2.size
          have c0_0_2 := below_cell s2 c0_0_1; clear c0_0_1
          have c0_1_2 := below_cell s2 c0_1_1; clear c0_1_1
          have c0_2_2 := below_cell s2 c0_2_1; clear c0_2_1
          have c1_0_2 := below_cell s2 c1_0_1; clear c1_0_1
          have c1_1_2 := below_cell s2 c1_1_1; clear c1_1_1
          have c2_0_2 := below_cell s2 c2_0_1; clear c2_0_1
          have c2_1_2 := below_cell s2 c2_1_1; clear c2_1_1
          have c2_2_2 := below_cell s2 c2_2_1; clear c2_2_1
          have c2_3_2 := below_cell s2 c2_3_1; clear c2_3_1
          have c2_4_2 := below_cell s2 c2_4_1; clear c2_4_1
          have k3_2 := c3_0_1
          have c3_0_2 := below_cell s2 c3_0_1; clear c3_0_1
          have c3_1_2 := below_cell s2 c3_1_1; clear c3_1_1
          have c3_2_2 := below_cell s2 c3_2_1; clear c3_2_1
          have f3_2 : ∀ j, w2.frozen? ⟨w.heap.size + 1 + 1 + 1, j, none⟩ = false := fun j => (s2.frozen (p := ⟨w.heap.size + 1 + 1 + 1, j, none⟩) (show w.heap.size + 1 + 1 + 1 < _ from World.block_lt_of_cell? _ ⟨w.heap.size + 1 + 1 + 1, 0, none⟩ k3_2)).trans (f3_1 j); clear f3_1
          clear r2
          go_wp2_with fail
          refine (HSO.out _).mono ?_
          rintro _ w3 ⟨rfl, r3⟩
          have s3 := r3
          have b3 := b2.trans (s3.mono z2)
          have z3 := b3.size
          have y3 := s3.size
          have c0_0_3 := below_cell s3 c0_0_2; clear c0_0_2
          have c0_1_3 := below_cell s3 c0_1_2; clear c0_1_2
          have c0_2_3 := below_cell s3 c0_2_2; clear c0_2_2
          have c1_0_3 := below_cell s3 c1_0_2; clear c1_0_2
          have c1_1_3 := below_cell s3 c1_1_2; clear c1_1_2
          have c2_0_3 := below_cell s3 c2_0_2; clear c2_0_2
          have c2_1_3 := below_cell s3 c2_1_2; clear c2_1_2
          have c2_2_3 := below_cell s3 c2_2_2; clear c2_2_2
          have c2_3_3 := below_cell s3 c2_3_2; clear c2_3_2
          have c2_4_3 := below_cell s3 c2_4_2; clear c2_4_2
          have k3_3 := c3_0_2
          have c3_0_3 := below_cell s3 c3_0_2; clear c3_0_2
          have c3_1_3 := below_cell s3 c3_1_2; clear c3_1_2
          have c3_2_3 := below_cell s3 c3_2_2; clear c3_2_2
          have f3_3 : ∀ j, w3.frozen? ⟨w.heap.size + 1 + 1 + 1, j, none⟩ = false := fun j => (s3.frozen (p := ⟨w.heap.size + 1 + 1 + 1, j, none⟩) (show w.heap.size + 1 + 1 + 1 < _ from World.block_lt_of_cell? _ ⟨w.heap.size + 1 + 1 + 1, 0, none⟩ k3_3)).trans (f3_2 j); clear f3_2
          clear r3
          go_wp2_with fail
          refine (HVZ.out _ b3).mono ?_
          rintro _ w4 ⟨rfl, r4⟩
          have s4 := r4
          have b4 := b3.trans (s4.mono z3)
          have z4 := b4.size
          have y4 := s4.size
          have c0_0_4 := below_cell s4 c0_0_3; clear c0_0_3
          have c0_1_4 := below_cell s4 c0_1_3; clear c0_1_3
          have c0_2_4 := below_cell s4 c0_2_3; clear c0_2_3
          have c1_0_4 := below_cell s4 c1_0_3; clear c1_0_3
          have c1_1_4 := below_cell s4 c1_1_3; clear c1_1_3
          have c2_0_4 := below_cell s4 c2_0_3; clear c2_0_3
          have c2_1_4 := below_cell s4 c2_1_3; clear c2_1_3
          have c2_2_4 := below_cell s4 c2_2_3; clear c2_2_3
          have c2_3_4 := below_cell s4 c2_3_3; clear c2_3_3
          have c2_4_4 := below_cell s4 c2_4_3; clear c2_4_3
          have k3_4 := c3_0_3
          have c3_0_4 := below_cell s4 c3_0_3; clear c3_0_3
          have c3_1_4 := below_cell s4 c3_1_3; clear c3_1_3
          have c3_2_4 := below_cell s4 c3_2_3; clear c3_2_3
          have f3_4 : ∀ j, w4.frozen? ⟨w.heap.size + 1 + 1 + 1, j, none⟩ = false := fun j => (s4.frozen (p := ⟨w.heap.size + 1 + 1 + 1, j, none⟩) (show w.heap.size + 1 + 1 + 1 < _ from World.block_lt_of_cell? _ ⟨w.heap.size + 1 + 1 + 1, 0, none⟩ k3_4)).trans (f3_3 j); clear f3_3
          clear r4
          go_wp2_with fail
          refine (HWE.out _ b4).mono ?_
          rintro _ w5 ⟨x5, rfl, n5, r5⟩
          have s5 := r5
          have b5 := b4.trans (s5.mono z4)
          have z5 := b5.size
          have y5 := s5.size
          have c0_0_5 := below_cell s5 c0_0_4; clear c0_0_4
          have c0_1_5 := below_cell s5 c0_1_4; clear c0_1_4
          have c0_2_5 := below_cell s5 c0_2_4; clear c0_2_4
          have c1_0_5 := below_cell s5 c1_0_4; clear c1_0_4
          have c1_1_5 := below_cell s5 c1_1_4; clear c1_1_4
          have c2_0_5 := below_cell s5 c2_0_4; clear c2_0_4
          have c2_1_5 := below_cell s5 c2_1_4; clear c2_1_4
          have c2_2_5 := below_cell s5 c2_2_4; clear c2_2_4
          have c2_3_5 := below_cell s5 c2_3_4; clear c2_3_4
          have c2_4_5 := below_cell s5 c2_4_4; clear c2_4_4
          have k3_5 := c3_0_4
          have c3_0_5 := below_cell s5 c3_0_4; clear c3_0_4
          have c3_1_5 := below_cell s5 c3_1_4; clear c3_1_4
          have c3_2_5 := below_cell s5 c3_2_4; clear c3_2_4
          have f3_5 : ∀ j, w5.frozen? ⟨w.heap.size + 1 + 1 + 1, j, none⟩ = false := fun j => (s5.frozen (p := ⟨w.heap.size + 1 + 1 + 1, j, none⟩) (show w.heap.size + 1 + 1 + 1 < _ from World.block_lt_of_cell? _ ⟨w.heap.size + 1 + 1 + 1, 0, none⟩ k3_5)).trans (f3_4 j); clear f3_4
          have hr5 := World.block_lt_of_cell? _ ⟨w.heap.size + 1 + 1 + 1, 0, none⟩ c3_0_5
          simp only at hr5
          obtain ⟨asu, csu, rfl⟩ := own_shape n5
          have lo5 := own_lo n5
          have N5 := Lib.hid n5; clear n5
          have LO5 := Lib.hid lo5; clear lo5
          go_wp2_with fail
          refine (HCP.out _ b5).mono ?_
          rintro _ w6 ⟨zv1, wv1, bv1, us, rfl, om, r6⟩
          obtain ⟨az, cz, rfl⟩ := own_shape om.z
          obtain ⟨aw, cw, rfl⟩ := own_shape om.s.row
          obtain ⟨gb, cb, rfl, hgb1, hgb2⟩ := World.ownsRow.form om.b (by rw [HB5.out]; decide)
          have n6 := own_later N5.out r6
          have OM := Lib.hid om; clear om
          have N6 := Lib.hid n6; clear n6
          have s6 := r6
          have b6 := b5.trans (s6.mono z5)
          have z6 := b6.size
          have y6 := s6.size
          have c0_0_6 := below_cell s6 c0_0_5; clear c0_0_5
          have c0_1_6 := below_cell s6 c0_1_5; clear c0_1_5
          have c0_2_6 := below_cell s6 c0_2_5; clear c0_2_5
          have c1_0_6 := below_cell s6 c1_0_5; clear c1_0_5
          have c1_1_6 := below_cell s6 c1_1_5; clear c1_1_5
          have c2_0_6 := below_cell s6 c2_0_5; clear c2_0_5
          have c2_1_6 := below_cell s6 c2_1_5; clear c2_1_5
          have c2_2_6 := below_cell s6 c2_2_5; clear c2_2_5
          have c2_3_6 := below_cell s6 c2_3_5; clear c2_3_5
          have c2_4_6 := below_cell s6 c2_4_5; clear c2_4_5
          have k3_6 := c3_0_5
          have c3_0_6 := below_cell s6 c3_0_5; clear c3_0_5
          have c3_1_6 := below_cell s6 c3_1_5; clear c3_1_5
          have c3_2_6 := below_cell s6 c3_2_5; clear c3_2_5
          have f3_6 : ∀ j, w6.frozen? ⟨w.heap.size + 1 + 1 + 1, j, none⟩ = false := fun j => (s6.frozen (p := ⟨w.heap.size + 1 + 1 + 1, j, none⟩) (show w.heap.size + 1 + 1 + 1 < _ from World.block_lt_of_cell? _ ⟨w.heap.size + 1 + 1 + 1, 0, none⟩ k3_6)).trans (f3_5 j); clear f3_5
          have ac0_0 := fun o => alloc_cell o c0_0_6
          have ac0_1 := fun o => alloc_cell o c0_1_6
          have ac0_2 := fun o => alloc_cell o c0_2_6
          have ac1_0 := fun o => alloc_cell o c1_0_6
          have ac1_1 := fun o => alloc_cell o c1_1_6
          have ac2_0 := fun o => alloc_cell o c2_0_6
          have ac2_1 := fun o => alloc_cell o c2_1_6
          have ac2_2 := fun o => alloc_cell o c2_2_6
          have ac2_3 := fun o => alloc_cell o c2_3_6
          have ac2_4 := fun o => alloc_cell o c2_4_6
          have ac3_0 := fun o => alloc_cell o c3_0_6
          have ac3_1 := fun o => alloc_cell o c3_1_6
          have ac3_2 := fun o => alloc_cell o c3_2_6
          have af3 : ∀ o j, (w6.alloc o).frozen? ⟨w.heap.size + 1 + 1 + 1, j, none⟩ = false := fun o j => (alloc_frozen o (show w.heap.size + 1 + 1 + 1 < _ from World.block_lt_of_cell? _ ⟨w.heap.size + 1 + 1 + 1, 0, none⟩ c3_0_6)).trans (f3_6 j)
          go_wp2_with fail
          refine (HLI.out _).mono ?_
          rintro _ w7 ⟨x7, rfl, n7, r7⟩
          have s7 : Below w6.heap.size w6 w7 := Below.trans (by go_grown) (r7.mono (by simp; try omega))
          have b7 := b6.trans (s7.mono z6)
          have z7 := b7.size
          have y7 := s7.size
          have v7 : w6.heap.size + 1 ≤ w7.heap.size := by have := r7.size; simp only [World.size_alloc] at this; omega
          have c0_0_7 := below_cell s7 c0_0_6; clear c0_0_6
          have c0_1_7 := below_cell s7 c0_1_6; clear c0_1_6
          have c0_2_7 := below_cell s7 c0_2_6; clear c0_2_6
          have c1_0_7 := below_cell s7 c1_0_6; clear c1_0_6
          have c1_1_7 := below_cell s7 c1_1_6; clear c1_1_6
          have c2_0_7 := below_cell s7 c2_0_6; clear c2_0_6
          have c2_1_7 := below_cell s7 c2_1_6; clear c2_1_6
          have c2_2_7 := below_cell s7 c2_2_6; clear c2_2_6
          have c2_3_7 := below_cell s7 c2_3_6; clear c2_3_6
          have c2_4_7 := below_cell s7 c2_4_6; clear c2_4_6
          have k3_7 := c3_0_6
          have c3_0_7 := below_cell s7 c3_0_6; clear c3_0_6
          have c3_1_7 := below_cell s7 c3_1_6; clear c3_1_6
          have c3_2_7 := below_cell s7 c3_2_6; clear c3_2_6
          have c4_0_7 := below_cell r7 (p := ⟨w6.heap.size, 0, none⟩) (v := .slice az zs.length cz) (by simp [go_sem])
          have c4_1_7 := below_cell r7 (p := ⟨w6.heap.size, 1, none⟩) (v := .slice aw ws.length cw) (by simp [go_sem])
          have c4_2_7 := below_cell r7 (p := ⟨w6.heap.size, 2, none⟩) (v := .slice (some ⟨gb, 0, none⟩) bs.length cb) (by simp [go_sem])
          have f3_7 : ∀ j, w7.frozen? ⟨w.heap.size + 1 + 1 + 1, j, none⟩ = false := fun j => (s7.frozen (p := ⟨w.heap.size + 1 + 1 + 1, j, none⟩) (show w.heap.size + 1 + 1 + 1 < _ from World.block_lt_of_cell? _ ⟨w.heap.size + 1 + 1 + 1, 0, none⟩ k3_7)).trans (f3_6 j); clear f3_6
          have f4_7 : ∀ j, w7.frozen? ⟨w6.heap.size, j, none⟩ = false := fun j => (r7.frozen (p := ⟨w6.heap.size, j, none⟩) (by simp [go_sem])).trans (by simp [go_sem])
          clear r7
          have lo7 := own_lo n7
          obtain ⟨gl, cl, rfl, hgl1, hgl2⟩ := World.ownsRow.form n7 (by rw [HL5.out]; decide)
          have lo7 : w6.heap.size ≤ gl := by have := lo7 gl rfl; simp only [World.size_alloc] at this; omega
          have om3 := OM.out.later s7
          have n6 := own_later N6.out s7
          have hgbl : w5.heap.size ≤ gb := own_lo om3.b gb rfl
          have hgbh : gb < w6.heap.size := om3.bh gb rfl
          have hlo6 : ∀ x, (Value.slice asu sums.length csu).ownBlock = some x → x < w5.heap.size := own_lt N5.out
          have OM3 := Lib.hid om3; clear om3
          have N6' := Lib.hid n6; clear n6
          have N7 := Lib.hid n7; clear n7
          have LO6 := Lib.hid hlo6; clear hlo6
          clear OM N6 N5
          go_wp2_with fail
          go_loopw [44] (fun i wr => ∃ (k : Nat), k ≤ 5 ∧ i = .int .i64 k ∧ Only (fun x => x = gb) w7 wr ∧ OwnI w5.heap.size wr (.slice (some ⟨gb, 0, none⟩) bs.length cb) (fitK ls sums area bs k) ∧ fitOkK ls sums area k = true) (fun i _ => 5 - (intOf i).toNat)
          case atStart => exact ⟨0, Nat.zero_le _, rfl, Only.refl _ _, by rw [HK0.out]; exact OM3.out.b, HK1.out⟩
          case round =>
            obtain ⟨k, hk, rfl, hq, hbk, hok⟩ := hrel
            have bw : Below w.heap.size w wr := Only.below b7 hq z7 (fun x e => by omega)
            have hsb := hq.size
            have g2 := cell_only hq c4_2_7 (show ¬ w6.heap.size = gb by omega)
            have r0 := cell_only hq c3_0_7 (show ¬ w.heap.size + 1 + 1 + 1 = gb by omega)
            have r1 := cell_only hq c3_1_7 (show ¬ w.heap.size + 1 + 1 + 1 = gb by omega)
            have r2 := cell_only hq c3_2_7 (show ¬ w.heap.size + 1 + 1 + 1 = gb by omega)
            have rf : ∀ j, wr.frozen? ⟨w.heap.size + 1 + 1 + 1, j, none⟩ = false := fun j => (frozen_only hq (p := ⟨w.heap.size + 1 + 1 + 1, j, none⟩) (show w.heap.size + 1 + 1 + 1 < _ by omega) (show ¬ w.heap.size + 1 + 1 + 1 = gb by omega)).trans (f3_7 j)
            by_cases hlt : k < 5
            · have hlt5 : decide (k < ls.length) = true := by rw [HL5.out]; simp; omega
              have hl := HLS.out k hlt
              have hmp := HMP.out k hlt
              have hmb := HMBD.out k hlt
              have hko := HKO.out k
              rw [hok, Bool.true_and] at hko
              have hbad := HBAD.out k hlt
              have n7 := own_only N7.out hq (fun x e e' => by have : x = gl := by simp [Value.ownBlock] at e; exact e.symm
                                                              omega)
              have hlc : wr.cell? ⟨gl, k, none⟩ = some (.int .i64 (ls.getD k 0)) := by
                rw [getD_eq (show k < ls.length by rw [HL5.out]; exact hlt)]
                exact (World.ownsRow.cellAt n7 k (by rw [HL5.out]; omega)).trans (intsAt (by rw [HL5.out]; exact hlt))
              have n6 := own_only N6'.out hq (fun x e e' => by have := LO6.out x e; omega)
              obtain ⟨gs, cs', hsv, hgs1, hgs2⟩ := World.ownsRow.form n6 (by rw [HSL.out]; decide)
              simp only [Value.slice.injEq] at hsv
              obtain ⟨rfl, _, rfl⟩ := hsv
              have hsc : wr.cell? ⟨gs, k, none⟩ = some (.int .i64 (sums.getD k 0)) := by
                rw [getD_eq (show k < sums.length by rw [HSL.out]; exact hlt)]
                exact (World.ownsRow.cellAt n6 k (by rw [HSL.out]; omega)).trans (intsAt (by rw [HSL.out]; exact hlt))
              have hbk : wr.ownsRow w5.heap.size 2 1 (.slice (some ⟨gb, 0, none⟩) bs.length cb) bs.length (ints (fitK ls sums area bs k)) := by unfold OwnI at hbk; rwa [HKL.out] at hbk
              have hfr := World.ownsRow.frozenAt hbk k
              have hix := ix (P := Try.prog) (T := 38) (n := bs.length) (cap := cb) Try.underlying38 cells_int64 has_int64 (ao := some ⟨gb, 0, none⟩) (b := gb) (off := 0) (fun _ => rfl) (k := k) (by rw [HB5.out]; exact hlt) _ rfl
              have hixl := ix (P := Try.prog) (T := 38) (n := ls.length) (cap := cl) Try.underlying38 cells_int64 has_int64 (ao := some ⟨gl, 0, none⟩) (b := gl) (off := 0) (fun _ => rfl) (k := k) (by rw [HL5.out]; exact hlt) _ rfl
              have hixs := ix (P := Try.prog) (T := 38) (n := sums.length) (cap := csu) Try.underlying38 cells_int64 has_int64 (ao := some ⟨gs, 0, none⟩) (b := gs) (off := 0) (fun _ => rfl) (k := k) (by rw [HSL.out]; exact hlt) _ rfl
              rw [Nat.mul_one, Nat.zero_add] at hix hixl hixs
              have hkb : k < (fitK ls sums area bs k).length := by rw [HKL.out, HB5.out]; exact hlt
              have hbc : wr.cell? ⟨gb, k, none⟩ = some (.int .i64 ((fitK ls sums area bs k).getD k 0)) := by
                rw [getD_eq hkb]
                exact (World.ownsRow.cellAt hbk k (by rw [HB5.out]; omega)).trans (intsAt hkb)
              have hnew : ∀ m, OwnI w5.heap.size ((wr.drewN m).setCell ⟨gb, k, none⟩ (.int .i64 (fitV ls sums area k))) (.slice (some ⟨gb, 0, none⟩) bs.length cb) (fitK ls sums area bs (k + 1)) := fun m => by
                have hst := (World.ownsRow.stored (own_later hbk (below_drewN (Below.refl _ _) m)) k (.int .i64 (fitV ls sums area k))).1
                rw [← HKS.out]
                unfold OwnI
                rw [List.length_set, HKL.out, show ints ((fitK ls sums area bs k).set k (fitV ls sums area k)) = (ints (fitK ls sums area bs k)).set k (.int .i64 (fitV ls sums area k)) by unfold ints; rw [List.map_set]]
                exact hst
              have hon : ∀ m, Only (fun x => x = gb) w7 ((wr.drewN m).setCell ⟨gb, k, none⟩ (.int .i64 (fitV ls sums area k))) := fun m => (hq.trans (Only.of_below (below_drewN (Below.refl _ _) m))).setCell (p := ⟨gb, k, none⟩) rfl _
              have hpr : 0 ≤ ls.getD k 0 * area ∧ ls.getD k 0 * area ≤ 20000000 * 90000 := by
                have := mul_le_of (a := ls.getD k 0) (b := area) (A := 20000000) (B := 90000) (by omega) (by omega) (by omega) (by omega)
                omega
              have hdv := fun w' => nearest_c (ls.getD k 0 * area) (sums.getD k 0) w' (by omega) (by omega) (by omega) (by omega)
              rw [← HKV.out] at hdv
              have HDV := Lib.hid hdv; clear hdv
              have HNEW := Lib.hid hnew; clear hnew
              have HON := Lib.hid hon; clear hon
              have HKO2 := Lib.hid hko; clear hko
              have HBAD2 := Lib.hid hbad; clear hbad
              clear hbk n6 n7 hkb hq bw hok
              generalize (fitK ls sums area bs k).getD k 0 = old at *
              generalize ls.getD k 0 = x at *
              generalize sums.getD k 0 = y at *
              have g1 : IntKind.i64.wrap (x * area) = x * area := IntWalk.i64_in _ (by omega)
              go_wp2_with fail
              refine wp_region_drew_tail 12 (by kernel_rfl) (by kernel_rfl) ?_
              simp only [List.take_succ_cons, List.take_zero, List.drop_succ_cons, List.drop_zero]
              repeat (quiet_step (first | (go_at_call 63; exact quietD (HDV.out _))))
              refine wpQuiet_nil ?_
              rintro _ ⟨nq, rfl⟩
              have hnew := HNEW.out nq
              have hon := HON.out nq
              have hbc2 := below_cell (below_drewN (Below.refl _ _) nq) hbc
              have hst2 := World.cell?_setCell_same (wr.drewN nq) ⟨gb, k, none⟩ (.int .i64 (fitV ls sums area k)) hbc2
              clear HNEW HON hbc2
              have HNEW := Lib.hid hnew; clear hnew
              have HON := Lib.hid hon; clear hon
              go_wp2_with fail
              obtain ⟨W4, hW4⟩ : ∃ x, x = (wr.drewN nq).setCell ⟨gb, k, none⟩ (.int .i64 (fitV ls sums area k)) := ⟨_, rfl⟩
              rw [← hW4]
              have hnew := HNEW.out
              have hon := HON.out
              rw [← hW4] at hnew hon hst2
              clear HNEW HON hW4 g2 hlc hbc hfr hsc r0 r1 r2 rf
              have g2 := cell_only hon c4_2_7 (show ¬ w6.heap.size = gb by omega)
              have r0 := cell_only hon c3_0_7 (show ¬ w.heap.size + 1 + 1 + 1 = gb by omega)
              have r1 := cell_only hon c3_1_7 (show ¬ w.heap.size + 1 + 1 + 1 = gb by omega)
              have r2 := cell_only hon c3_2_7 (show ¬ w.heap.size + 1 + 1 + 1 = gb by omega)
              have rf : ∀ j, W4.frozen? ⟨w.heap.size + 1 + 1 + 1, j, none⟩ = false := fun j => (frozen_only hon (p := ⟨w.heap.size + 1 + 1 + 1, j, none⟩) (show w.heap.size + 1 + 1 + 1 < _ by omega) (show ¬ w.heap.size + 1 + 1 + 1 = gb by omega)).trans (f3_7 j)
              have b4 : Below w.heap.size w W4 := Only.below b7 hon z7 (fun x e => by omega)
              have HNEW := Lib.hid hnew; clear hnew
              have HON := Lib.hid hon; clear hon
              have hin := fun w' => within_c (fitV ls sums area k) 1 1000000000 w'
              cases t1 : inB (fitV ls sums area k) 1 1000000000
              · have he := HBAD2.out t1
                rw [t1] at hin
                have HIN := Lib.hid hin; clear hin
                have HE := Lib.hid he; clear he
                have T1 := Lib.hid t1; clear t1
                clear HKO2 HBAD2
                generalize fitV ls sums area k = v at *
                refine (HIN.out _).mono ?_
                rintro _ _ ⟨rfl, rfl⟩
                go_wp2
                refine bodyPost_ret (v := .tuple #[.agg #[.slice none 0 0, .slice none 0 0, .slice none 0 0], .int .i64 6]) (by simp [results, Try.results20, go_sem, r0, r1, r2]) rfl ?_
                rw [HE.out]
                exact RetM2.nil (below3 b4 (show w.heap.size ≤ w.heap.size + 1 + 1 + 1 by omega) _ _ _)
              · rw [t1] at hin
                have hok := HKO2.out.symm.trans t1
                have HIN := Lib.hid hin; clear hin
                have HOK2 := Lib.hid hok; clear hok
                have T1 := Lib.hid t1; clear t1
                clear HKO2 HBAD2
                generalize fitV ls sums area k = v at *
                refine (HIN.out _).mono ?_
                rintro _ _ ⟨rfl, rfl⟩
                go_wp2
                go_roundw
                case rel => exact ⟨k + 1, by omega, by go_num, HON.out, HNEW.out, HOK2.out⟩
                case measure => simp [intOf]; omega
            · obtain rfl : k = 5 := by omega
              have hlt5 : decide (5 < ls.length) = false := by rw [HL5.out]; rfl
              have hlt6 : decide ((5 : Int) < (ls.length : Int)) = false := by rw [HL5.out]; rfl
              have he := HGOOD.out hok
              have hkl := HKL.out 5
              have g0 := cell_only hq c4_0_7 (show ¬ w6.heap.size = gb by omega)
              have g1 := cell_only hq c4_1_7 (show ¬ w6.heap.size = gb by omega)
              have om9 := (OM3.out.base (hq.mono fun x e => by rw [e]; rfl) hbk).wide (Nat.le_refl _) (show w6.heap.size ≤ wr.heap.size by omega)
              have fin := fun u0 u1 u2 => om9.set33 (R := w.heap.size + 1 + 1 + 1) hr5 u0 u1 u2
              have FIN := Lib.hid fin; clear fin
              have HE := Lib.hid he; clear he
              have HKL5 := Lib.hid hkl; clear hkl
              clear om9 hbk hok hq
              go_wp2
              refine bodyPost_ret (v := .tuple #[.agg #[.slice az zs.length cz, .slice aw ws.length cw, .slice (some ⟨gb, 0, none⟩) bs.length cb], .int .i64 0]) (by simp [results, Try.results20, go_sem, r0, r1, r2]) rfl ?_
              rw [HE.out]
              exact ⟨_, _, _, us, rfl, (FIN.out _ _ _).wide (lo' := w.heap.size) (by omega) (by simp), below3 bw (show w.heap.size ≤ w.heap.size + 1 + 1 + 1 by omega) _ _ _⟩
theorem fitM_bd (zs : List Int) (ws : List (List Int)) (bs : List Int) (nm : ByteArray) (ps : List (Int × Int × Int)) (a b c d f : Int) : (fitM zs ws bs nm ps a b c d f).1.1.length ≤ 100000 ∧ SzSS (fitM zs ws bs nm ps a b c d f).1.2.1 ≤ 100000 ∧ (fitM zs ws bs nm ps a b c d f).1.2.2.length ≤ 100000 := by
  have h0 : ([] : List Int).length ≤ 100000 ∧ SzSS [] ≤ 100000 ∧ ([] : List Int).length ≤ 100000 := by simp [SzSS, lensK]
  unfold fitM
  split
  · split
    · rename_i t1
      split
      · obtain ⟨m1, m2, m3⟩ := modAsk_ok t1
        obtain ⟨hz1, hz8, hw5, hb5, _⟩ := modelB_t m1
        have hr := fun k hk => (row_bd m1 k hk).1
        unfold fitI
        split
        · refine ⟨by simp; omega, ?_, by simp [fitK_len]; omega⟩
          have r0 := hr 0 (by omega)
          have r1 := hr 1 (by omega)
          have r2 := hr 2 (by omega)
          have r3 := hr 3 (by omega)
          have r4 := hr 4 (by omega)
          show ws.length + lensK ws ws.length ≤ 100000
          rw [hw5]
          simp only [lensK, r0, r1, r2, r3, r4]
          omega
        · exact h0
      · exact h0
    · exact h0
  · exact h0

end Go.Proofs.Ytmeeibcbhjifbaa
