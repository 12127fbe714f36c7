/- A profile of another size: both sides of ScaleForPitch. -/
import Derived.Test.YtmickkodcclocaaGoals
import Derived.Test.YtmickkodcclocaaScaled
namespace Go.Proofs.Ytmickkodcclocaa
set_option linter.unusedVariables false
open Go.RowKit Go.Proofs.Bell Go.BigFrame

def pitchPI (nm : ByteArray) (ps : List (Int × Int × Int)) (num den : Int) : ByteArray × List (Int × Int × Int) × Int := if profB nm ps then (if freqB num && freqB den then doneR nm (mapK (scT num den) ps ps.length) else (⟨#[]⟩, [], 2)) else (⟨#[]⟩, [], 1)
theorem pitchPI_len (nm : ByteArray) (ps : List (Int × Int × Int)) (num den : Int) : (pitchPI nm ps num den).2.1.length ≤ 32 := by
  unfold pitchPI
  split
  · split
    · exact doneR_len _ _
    · simp
  · simp
theorem rd_two {w : World} {b : Nat} {a0 a1 : Int} (hb : b < w.heap.size) (h0 : w.cell? ⟨b, 0, none⟩ = some (.int .i64 a0)) (h1 : w.cell? ⟨b, 1, none⟩ = some (.int .i64 a1)) : Rd w (.slice (some ⟨b, 0, none⟩) 2 2) 2 (ints [a0, a1]) := by
  refine ⟨by decide, .inr ⟨by decide, b, 0, 2, rfl, by decide, by decide, hb, fun j u hj => ?_⟩⟩
  match j, hj with
  | 0, hj => simp [ints] at hj; subst hj; simpa using h0
  | 1, hj => simp [ints] at hj; subst hj; simpa using h1
  | n + 2, hj => simp [ints] at hj

set_option maxRecDepth 100000 in
set_option maxHeartbeats 1600000 in
theorem specScaleForPitch_c (nm : ByteArray) (sv : Value) (ps : List (Int × Int × Int)) (num den : Int) (w : World) (hnm : nm.size ≤ maxLen) (hr : Rd w sv ps.length (trips ps)) :
    Calls Try.prog 22 #[.agg #[.string nm, sv], .int .i64 num, .int .i64 den] w (RetP2 (pitchPI nm ps num den).1 (pitchPI nm ps num den).2.1 (.int .i64 (pitchPI nm ps num den).2.2) w) := by
  have hok := fun w' g hg c0 c1 (hb : Below w.heap.size w w') => l05Ok_c g nm sv ps w' hg hnm c0 c1 (hr.later hb)
  have HOK := Lib.hid hok; clear hok
  cases t0 : profB nm ps <;> rw [t0] at HOK
  · have he : pitchPI nm ps num den = (⟨#[]⟩, [], 1) := by simp [pitchPI, t0]
    rw [he]
    clear he hr
    go_enter Try.func22, Try.ntmps22
    have b0 : Below w.heap.size w w := Below.refl _ _
    have z0 : w.heap.size ≤ w.heap.size := Nat.le_refl _
    go_wp2_with fail
    refine (HOK.out _ _ (by simp; try omega) (by simp [go_sem]) (by simp [go_sem]) (by go_grown)).mono ?_
    rintro _ w1 ⟨rfl, d1⟩
    have r1 := Dr.below d1; clear d1
    have s1 : Below w.heap.size w w1 := Below.trans (by go_grown) (r1.mono (by simp; try omega))
    have b1 := b0.trans (s1.mono z0)
    have z1 := b1.size
    have y1 := s1.size
    have v1 : w.heap.size + 2 ≤ w1.heap.size := by have := r1.size; simp only [World.size_alloc] at this; omega
    have c0_0_1 := below_cell r1 (p := ⟨w.heap.size, 0, none⟩) (v := .string nm) (by simp [go_sem])
    have c0_1_1 := below_cell r1 (p := ⟨w.heap.size, 1, none⟩) (v := sv) (by simp [go_sem])
    have c1_0_1 := below_cell r1 (p := ⟨w.heap.size + 1, 0, none⟩) (v := .string ⟨#[]⟩) (by simp [go_sem])
    have c1_1_1 := below_cell r1 (p := ⟨w.heap.size + 1, 1, none⟩) (v := .slice none 0 0) (by simp [go_sem])
    have f0_1 : ∀ j, w1.frozen? ⟨w.heap.size, j, none⟩ = false := fun j => (r1.frozen (p := ⟨w.heap.size, j, none⟩) (by simp [go_sem])).trans (by simp [go_sem])
    have f1_1 : ∀ j, w1.frozen? ⟨w.heap.size + 1, j, none⟩ = false := fun j => (r1.frozen (p := ⟨w.heap.size + 1, j, none⟩) (by simp [go_sem])).trans (by simp [go_sem])
    clear r1
    go_wp2
    refine bodyPost_ret (v := .tuple #[.agg #[.string ⟨#[]⟩, .slice none 0 0], .int .i64 1]) (by simp [results, Try.results22, go_sem, c1_0_1, c1_1_1]) rfl ?_
    exact RetP2.nil (Below.setCell (Below.setCell b1 (show w.heap.size ≤ w.heap.size + 1 by omega) _) (show w.heap.size ≤ w.heap.size + 1 by omega) _)
  · obtain ⟨hl1, hl2, hal, hht⟩ := profB_t t0
    have hq1 := fun w' => l02Ok_c num w'
    have hq2 := fun w' => l02Ok_c den w'
    have HQ1 := Lib.hid hq1; clear hq1
    have HQ2 := Lib.hid hq2; clear hq2
    cases t1 : freqB num <;> rw [t1] at HQ1
    · have he : pitchPI nm ps num den = (⟨#[]⟩, [], 2) := by simp [pitchPI, scl2B, t0, t1]
      rw [he]
      clear he hr
      go_enter Try.func22, Try.ntmps22
      have b0 : Below w.heap.size w w := Below.refl _ _
      have z0 : w.heap.size ≤ w.heap.size := Nat.le_refl _
      go_wp2_with fail
      refine (HOK.out _ _ (by simp; try omega) (by simp [go_sem]) (by simp [go_sem]) (by go_grown)).mono ?_
      rintro _ w1 ⟨rfl, d1⟩
      have r1 := Dr.below d1; clear d1
      have s1 : Below w.heap.size w w1 := Below.trans (by go_grown) (r1.mono (by simp; try omega))
      have b1 := b0.trans (s1.mono z0)
      have z1 := b1.size
      have y1 := s1.size
      have v1 : w.heap.size + 2 ≤ w1.heap.size := by have := r1.size; simp only [World.size_alloc] at this; omega
      have c0_0_1 := below_cell r1 (p := ⟨w.heap.size, 0, none⟩) (v := .string nm) (by simp [go_sem])
      have c0_1_1 := below_cell r1 (p := ⟨w.heap.size, 1, none⟩) (v := sv) (by simp [go_sem])
      have c1_0_1 := below_cell r1 (p := ⟨w.heap.size + 1, 0, none⟩) (v := .string ⟨#[]⟩) (by simp [go_sem])
      have c1_1_1 := below_cell r1 (p := ⟨w.heap.size + 1, 1, none⟩) (v := .slice none 0 0) (by simp [go_sem])
      have f0_1 : ∀ j, w1.frozen? ⟨w.heap.size, j, none⟩ = false := fun j => (r1.frozen (p := ⟨w.heap.size, j, none⟩) (by simp [go_sem])).trans (by simp [go_sem])
      have f1_1 : ∀ j, w1.frozen? ⟨w.heap.size + 1, j, none⟩ = false := fun j => (r1.frozen (p := ⟨w.heap.size + 1, j, none⟩) (by simp [go_sem])).trans (by simp [go_sem])
      clear r1
      go_wp2_with fail
      refine (HQ1.out _).mono ?_
      rintro _ _ ⟨rfl, rfl⟩
      go_wp2
      refine bodyPost_ret (v := .tuple #[.agg #[.string ⟨#[]⟩, .slice none 0 0], .int .i64 2]) (by simp [results, Try.results22, go_sem, c1_0_1, c1_1_1]) rfl ?_
      exact RetP2.nil (Below.setCell (Below.setCell b1 (show w.heap.size ≤ w.heap.size + 1 by omega) _) (show w.heap.size ≤ w.heap.size + 1 by omega) _)
    · cases t2 : freqB den <;> rw [t2] at HQ2
      · have he : pitchPI nm ps num den = (⟨#[]⟩, [], 2) := by simp [pitchPI, scl2B, t0, t1, t2]
        rw [he]
        clear he hr
        go_enter Try.func22, Try.ntmps22
        have b0 : Below w.heap.size w w := Below.refl _ _
        have z0 : w.heap.size ≤ w.heap.size := Nat.le_refl _
        go_wp2_with fail
        refine (HOK.out _ _ (by simp; try omega) (by simp [go_sem]) (by simp [go_sem]) (by go_grown)).mono ?_
        rintro _ w1 ⟨rfl, d1⟩
        have r1 := Dr.below d1; clear d1
        have s1 : Below w.heap.size w w1 := Below.trans (by go_grown) (r1.mono (by simp; try omega))
        have b1 := b0.trans (s1.mono z0)
        have z1 := b1.size
        have y1 := s1.size
        have v1 : w.heap.size + 2 ≤ w1.heap.size := by have := r1.size; simp only [World.size_alloc] at this; omega
        have c0_0_1 := below_cell r1 (p := ⟨w.heap.size, 0, none⟩) (v := .string nm) (by simp [go_sem])
        have c0_1_1 := below_cell r1 (p := ⟨w.heap.size, 1, none⟩) (v := sv) (by simp [go_sem])
        have c1_0_1 := below_cell r1 (p := ⟨w.heap.size + 1, 0, none⟩) (v := .string ⟨#[]⟩) (by simp [go_sem])
        have c1_1_1 := below_cell r1 (p := ⟨w.heap.size + 1, 1, none⟩) (v := .slice none 0 0) (by simp [go_sem])
        have f0_1 : ∀ j, w1.frozen? ⟨w.heap.size, j, none⟩ = false := fun j => (r1.frozen (p := ⟨w.heap.size, j, none⟩) (by simp [go_sem])).trans (by simp [go_sem])
        have f1_1 : ∀ j, w1.frozen? ⟨w.heap.size + 1, j, none⟩ = false := fun j => (r1.frozen (p := ⟨w.heap.size + 1, j, none⟩) (by simp [go_sem])).trans (by simp [go_sem])
        clear r1
        go_wp2_with fail
        refine (HQ1.out _).mono ?_
        rintro _ _ ⟨rfl, rfl⟩
        go_wp2_with fail
        refine (HQ2.out _).mono ?_
        rintro _ _ ⟨rfl, rfl⟩
        go_wp2
        refine bodyPost_ret (v := .tuple #[.agg #[.string ⟨#[]⟩, .slice none 0 0], .int .i64 2]) (by simp [results, Try.results22, go_sem, c1_0_1, c1_1_1]) rfl ?_
        exact RetP2.nil (Below.setCell (Below.setCell b1 (show w.heap.size ≤ w.heap.size + 1 by omega) _) (show w.heap.size ≤ w.heap.size + 1 by omega) _)
      · have he : pitchPI nm ps num den = doneR nm (mapK (scT num den) ps ps.length) := by simp [pitchPI, scl2B, t0, t1, t2]
        rw [he]
        have b1 := freqB_t t1
        have b2 := freqB_t t2
        have hsz := fun w' g hg c0 c1 (hb : Below w.heap.size w w') => l07Sized_c g nm sv ps num den w' hg c0 c1 (hr.later hb) hal hl2 (by omega) (by omega) (by omega) (by omega)
        have hdone := fun base w' v (ho : OwnR base w' v (mapK (scT num den) ps ps.length)) => l07Done_c base nm v _ w' hnm ho
        generalize doneR nm (mapK (scT num den) ps ps.length) = RES at *
        have HSZ := Lib.hid hsz; clear hsz
        have HDONE := Lib.hid hdone; clear hdone
        clear he hr hal hht t0
        go_enter Try.func22, Try.ntmps22
        have b0 : Below w.heap.size w w := Below.refl _ _
        have z0 : w.heap.size ≤ w.heap.size := Nat.le_refl _
        go_wp2_with fail
        refine (HOK.out _ _ (by simp; try omega) (by simp [go_sem]) (by simp [go_sem]) (by go_grown)).mono ?_
        rintro _ w1 ⟨rfl, d1⟩
        have r1 := Dr.below d1; clear d1
        have s1 : Below w.heap.size w w1 := Below.trans (by go_grown) (r1.mono (by simp; try omega))
        have b1 := b0.trans (s1.mono z0)
        have z1 := b1.size
        have y1 := s1.size
        have v1 : w.heap.size + 2 ≤ w1.heap.size := by have := r1.size; simp only [World.size_alloc] at this; omega
        have c0_0_1 := below_cell r1 (p := ⟨w.heap.size, 0, none⟩) (v := .string nm) (by simp [go_sem])
        have c0_1_1 := below_cell r1 (p := ⟨w.heap.size, 1, none⟩) (v := sv) (by simp [go_sem])
        have c1_0_1 := below_cell r1 (p := ⟨w.heap.size + 1, 0, none⟩) (v := .string ⟨#[]⟩) (by simp [go_sem])
        have c1_1_1 := below_cell r1 (p := ⟨w.heap.size + 1, 1, none⟩) (v := .slice none 0 0) (by simp [go_sem])
        have f0_1 : ∀ j, w1.frozen? ⟨w.heap.size, j, none⟩ = false := fun j => (r1.frozen (p := ⟨w.heap.size, j, none⟩) (by simp [go_sem])).trans (by simp [go_sem])
        have f1_1 : ∀ j, w1.frozen? ⟨w.heap.size + 1, j, none⟩ = false := fun j => (r1.frozen (p := ⟨w.heap.size + 1, j, none⟩) (by simp [go_sem])).trans (by simp [go_sem])
        clear r1
        go_wp2_with fail
        refine (HQ1.out _).mono ?_
        rintro _ _ ⟨rfl, rfl⟩
        go_wp2_with fail
        refine (HQ2.out _).mono ?_
        rintro _ _ ⟨rfl, rfl⟩
        have zz2 := World.block_lt_of_cell? _ ⟨w.heap.size, 0, none⟩ c0_0_1
        go_wp2_with fail
        refine (HSZ.out _ _ (by simpa using zz2) c0_0_1 c0_1_1 b1).mono ?_
        rintro _ w2 ⟨x2, rfl, n2, r2⟩
        have s2 := r2
        have b2 := b1.trans (s2.mono z1)
        have z2 := b2.size
        have y2 := s2.size
        have k0_2 := c0_0_1
        have c0_0_2 := below_cell s2 c0_0_1; clear c0_0_1
        have c0_1_2 := below_cell s2 c0_1_1; clear c0_1_1
        have k1_2 := c1_0_1
        have c1_0_2 := below_cell s2 c1_0_1; clear c1_0_1
        have c1_1_2 := below_cell s2 c1_1_1; clear c1_1_1
        have f0_2 : ∀ j, w2.frozen? ⟨w.heap.size, j, none⟩ = false := fun j => (s2.frozen (p := ⟨w.heap.size, j, none⟩) (show w.heap.size < _ from World.block_lt_of_cell? _ ⟨w.heap.size, 0, none⟩ k0_2)).trans (f0_1 j); clear f0_1
        have f1_2 : ∀ j, w2.frozen? ⟨w.heap.size + 1, j, none⟩ = false := fun j => (s2.frozen (p := ⟨w.heap.size + 1, j, none⟩) (show w.heap.size + 1 < _ from World.block_lt_of_cell? _ ⟨w.heap.size + 1, 0, none⟩ k1_2)).trans (f1_1 j); clear f1_1
        clear r2
        have N2 := Lib.hid n2; clear n2
        go_wp2_with fail
        refine (HDONE.out _ _ _ N2.out).mono ?_
        rintro _ w3 ⟨x3, rfl, n3, r3⟩
        have s3 := r3
        have b3 := b2.trans (s3.mono z2)
        have z3 := b3.size
        have y3 := s3.size
        have k0_3 := c0_0_2
        have c0_0_3 := below_cell s3 c0_0_2; clear c0_0_2
        have c0_1_3 := below_cell s3 c0_1_2; clear c0_1_2
        have k1_3 := c1_0_2
        have c1_0_3 := below_cell s3 c1_0_2; clear c1_0_2
        have c1_1_3 := below_cell s3 c1_1_2; clear c1_1_2
        have f0_3 : ∀ j, w3.frozen? ⟨w.heap.size, j, none⟩ = false := fun j => (s3.frozen (p := ⟨w.heap.size, j, none⟩) (show w.heap.size < _ from World.block_lt_of_cell? _ ⟨w.heap.size, 0, none⟩ k0_3)).trans (f0_2 j); clear f0_2
        have f1_3 : ∀ j, w3.frozen? ⟨w.heap.size + 1, j, none⟩ = false := fun j => (s3.frozen (p := ⟨w.heap.size + 1, j, none⟩) (show w.heap.size + 1 < _ from World.block_lt_of_cell? _ ⟨w.heap.size + 1, 0, none⟩ k1_3)).trans (f1_2 j); clear f1_2
        clear r3
        obtain ⟨a4, p4, rfl⟩ := own_shape n3
        have lo4 := own_lo n3
        go_wp2
        refine bodyPost_ret (v := .tuple #[.agg #[.string RES.1, .slice a4 RES.2.1.length p4], .int .i64 RES.2.2]) (by simp [results, Try.results22, go_sem, *]) rfl ?_
        have o11 := own_set n3 (a := ⟨w.heap.size + 1, 0, none⟩) (fun k hk => by have := lo4 k hk; simp; omega) (.string RES.1)
        have o12 := own_set o11 (a := ⟨w.heap.size + 1, 1, none⟩) (fun k hk => by have := lo4 k hk; simp; omega) (.slice a4 RES.2.1.length p4)
        exact ⟨_, rfl, own_base o12 (by omega), (b3.setCell (show w.heap.size ≤ w.heap.size + 1 by omega) _).setCell (show w.heap.size ≤ w.heap.size + 1 by omega) _⟩

set_option maxRecDepth 100000 in
set_option maxHeartbeats 1600000 in
theorem implScaleForPitch_c (nm : ByteArray) (sv : Value) (ps : List (Int × Int × Int)) (num den : Int) (w : World) (hnm : nm.size ≤ maxLen) (hr : Rd w sv ps.length (trips ps)) :
    Calls Try.prog 23 #[.agg #[.string nm, sv], .int .i64 num, .int .i64 den] w (RetP2 (pitchPI nm ps num den).1 (pitchPI nm ps num den).2.1 (.int .i64 (pitchPI nm ps num den).2.2) w) := by
  have hok := fun w' (hb : Below w.heap.size w w') => ValidProfile_c nm sv ps w' hnm (hr.later hb)
  have HOK := Lib.hid hok; clear hok
  cases t0 : profB nm ps <;> rw [t0] at HOK
  · have he : pitchPI nm ps num den = (⟨#[]⟩, [], 1) := by simp [pitchPI, t0]
    rw [he]
    clear he hr
    go_enter Try.func23, Try.ntmps23
    have b0 : Below w.heap.size w w := Below.refl _ _
    have z0 : w.heap.size ≤ w.heap.size := Nat.le_refl _
    go_wp2_with fail
    refine (HOK.out _ (by go_grown)).mono ?_
    rintro _ w1 ⟨rfl, r1⟩
    have s1 : Below w.heap.size w w1 := Below.trans (by go_grown) (r1.mono (by simp; try omega))
    have b1 := b0.trans (s1.mono z0)
    have z1 := b1.size
    have y1 := s1.size
    have v1 : w.heap.size + 2 ≤ w1.heap.size := by have := r1.size; simp only [World.size_alloc] at this; omega
    have c0_0_1 := below_cell r1 (p := ⟨w.heap.size, 0, none⟩) (v := .string nm) (by simp [go_sem])
    have c0_1_1 := below_cell r1 (p := ⟨w.heap.size, 1, none⟩) (v := sv) (by simp [go_sem])
    have c1_0_1 := below_cell r1 (p := ⟨w.heap.size + 1, 0, none⟩) (v := .string ⟨#[]⟩) (by simp [go_sem])
    have c1_1_1 := below_cell r1 (p := ⟨w.heap.size + 1, 1, none⟩) (v := .slice none 0 0) (by simp [go_sem])
    have f0_1 : ∀ j, w1.frozen? ⟨w.heap.size, j, none⟩ = false := fun j => (r1.frozen (p := ⟨w.heap.size, j, none⟩) (by simp [go_sem])).trans (by simp [go_sem])
    have f1_1 : ∀ j, w1.frozen? ⟨w.heap.size + 1, j, none⟩ = false := fun j => (r1.frozen (p := ⟨w.heap.size + 1, j, none⟩) (by simp [go_sem])).trans (by simp [go_sem])
    clear r1
    go_wp2
    refine bodyPost_ret (v := .tuple #[.agg #[.string ⟨#[]⟩, .slice none 0 0], .int .i64 1]) (by simp [results, Try.results23, go_sem, c1_0_1, c1_1_1]) rfl ?_
    exact RetP2.nil (Below.setCell (Below.setCell b1 (show w.heap.size ≤ w.heap.size + 1 by omega) _) (show w.heap.size ≤ w.heap.size + 1 by omega) _)
  · obtain ⟨hl1, hl2, hal, hht⟩ := profB_t t0
    have haf := fun w' v (h : Rd w' v [num, den].length (ints [num, den])) => areFrequencies_c v [num, den] w' h
    have hall : allF [num, den] = (freqB num && freqB den) := by simp [allF]
    rw [hall] at haf
    have HAF := Lib.hid haf; clear haf
    have hrd2 : ∀ (W : World) t, Rd (W.alloc (.cells #[.int .i64 num, .int .i64 den] t)) (.slice (some ⟨W.heap.size, 0, none⟩) 2 2) 2 (ints [num, den]) := fun W t => rd_two (by simp) (by simp [go_sem]) (by simp [go_sem])
    have HRD2 := Lib.hid hrd2; clear hrd2
    cases t1 : (freqB num && freqB den) <;> rw [t1] at HAF
    · have he : pitchPI nm ps num den = (⟨#[]⟩, [], 2) := by simp only [pitchPI, t0, t1, if_true, Bool.false_eq_true, if_false]
      rw [he]
      clear he hr
      go_enter Try.func23, Try.ntmps23
      have b0 : Below w.heap.size w w := Below.refl _ _
      have z0 : w.heap.size ≤ w.heap.size := Nat.le_refl _
      go_wp2_with fail
      refine (HOK.out _ (by go_grown)).mono ?_
      rintro _ w1 ⟨rfl, r1⟩
      have s1 : Below w.heap.size w w1 := Below.trans (by go_grown) (r1.mono (by simp; try omega))
      have b1 := b0.trans (s1.mono z0)
      have z1 := b1.size
      have y1 := s1.size
      have v1 : w.heap.size + 2 ≤ w1.heap.size := by have := r1.size; simp only [World.size_alloc] at this; omega
      have c0_0_1 := below_cell r1 (p := ⟨w.heap.size, 0, none⟩) (v := .string nm) (by simp [go_sem])
      have c0_1_1 := below_cell r1 (p := ⟨w.heap.size, 1, none⟩) (v := sv) (by simp [go_sem])
      have c1_0_1 := below_cell r1 (p := ⟨w.heap.size + 1, 0, none⟩) (v := .string ⟨#[]⟩) (by simp [go_sem])
      have c1_1_1 := below_cell r1 (p := ⟨w.heap.size + 1, 1, none⟩) (v := .slice none 0 0) (by simp [go_sem])
      have f0_1 : ∀ j, w1.frozen? ⟨w.heap.size, j, none⟩ = false := fun j => (r1.frozen (p := ⟨w.heap.size, j, none⟩) (by simp [go_sem])).trans (by simp [go_sem])
      have f1_1 : ∀ j, w1.frozen? ⟨w.heap.size + 1, j, none⟩ = false := fun j => (r1.frozen (p := ⟨w.heap.size + 1, j, none⟩) (by simp [go_sem])).trans (by simp [go_sem])
      clear r1
      go_wp2_with fail
      refine (HAF.out _ _ (HRD2.out _ _)).mono ?_
      rintro _ _ ⟨rfl, rfl⟩
      have k1 : Below w1.heap.size w1 (w1.alloc (.cells #[.int .i64 num, .int .i64 den] 2)) := (Below.refl _ _).alloc (Nat.le_refl _) _
      generalize w1.alloc (.cells #[.int .i64 num, .int .i64 den] 2) = wa at *
      have s2 := k1
      have b2 := b1.trans (s2.mono z1)
      have z2 := b2.size
      have y2 := s2.size
      have k0_2 := c0_0_1
      have c0_0_2 := below_cell s2 c0_0_1; clear c0_0_1
      have c0_1_2 := below_cell s2 c0_1_1; clear c0_1_1
      have k1_2 := c1_0_1
      have c1_0_2 := below_cell s2 c1_0_1; clear c1_0_1
      have c1_1_2 := below_cell s2 c1_1_1; clear c1_1_1
      have f0_2 : ∀ j, wa.frozen? ⟨w.heap.size, j, none⟩ = false := fun j => (s2.frozen (p := ⟨w.heap.size, j, none⟩) (show w.heap.size < _ from World.block_lt_of_cell? _ ⟨w.heap.size, 0, none⟩ k0_2)).trans (f0_1 j); clear f0_1
      have f1_2 : ∀ j, wa.frozen? ⟨w.heap.size + 1, j, none⟩ = false := fun j => (s2.frozen (p := ⟨w.heap.size + 1, j, none⟩) (show w.heap.size + 1 < _ from World.block_lt_of_cell? _ ⟨w.heap.size + 1, 0, none⟩ k1_2)).trans (f1_1 j); clear f1_1
      go_wp2
      refine bodyPost_ret (v := .tuple #[.agg #[.string ⟨#[]⟩, .slice none 0 0], .int .i64 2]) (by simp [results, Try.results23, go_sem, c1_0_2, c1_1_2]) rfl ?_
      exact RetP2.nil (Below.setCell (Below.setCell b2 (show w.heap.size ≤ w.heap.size + 1 by omega) _) (show w.heap.size ≤ w.heap.size + 1 by omega) _)
    · have he : pitchPI nm ps num den = doneR nm (mapK (scT num den) ps ps.length) := by simp only [pitchPI, t0, t1, if_true]
      rw [he]
      simp only [Bool.and_eq_true] at t1
      have b1 := freqB_t t1.1
      have b2 := freqB_t t1.2
      have hsc := fun w' (hb : Below w.heap.size w w') => scaled_c nm sv ps num den w' hnm (hr.later hb) hal hl2 (by omega) (by omega) (by omega) (by omega)
      generalize doneR nm (mapK (scT num den) ps ps.length) = RES at *
      have HSC := Lib.hid hsc; clear hsc
      clear he hr hal hht t0
      go_enter Try.func23, Try.ntmps23
      have b0 : Below w.heap.size w w := Below.refl _ _
      have z0 : w.heap.size ≤ w.heap.size := Nat.le_refl _
      go_wp2_with fail
      refine (HOK.out _ (by go_grown)).mono ?_
      rintro _ w1 ⟨rfl, r1⟩
      have s1 : Below w.heap.size w w1 := Below.trans (by go_grown) (r1.mono (by simp; try omega))
      have b1 := b0.trans (s1.mono z0)
      have z1 := b1.size
      have y1 := s1.size
      have v1 : w.heap.size + 2 ≤ w1.heap.size := by have := r1.size; simp only [World.size_alloc] at this; omega
      have c0_0_1 := below_cell r1 (p := ⟨w.heap.size, 0, none⟩) (v := .string nm) (by simp [go_sem])
      have c0_1_1 := below_cell r1 (p := ⟨w.heap.size, 1, none⟩) (v := sv) (by simp [go_sem])
      have c1_0_1 := below_cell r1 (p := ⟨w.heap.size + 1, 0, none⟩) (v := .string ⟨#[]⟩) (by simp [go_sem])
      have c1_1_1 := below_cell r1 (p := ⟨w.heap.size + 1, 1, none⟩) (v := .slice none 0 0) (by simp [go_sem])
      have f0_1 : ∀ j, w1.frozen? ⟨w.heap.size, j, none⟩ = false := fun j => (r1.frozen (p := ⟨w.heap.size, j, none⟩) (by simp [go_sem])).trans (by simp [go_sem])
      have f1_1 : ∀ j, w1.frozen? ⟨w.heap.size + 1, j, none⟩ = false := fun j => (r1.frozen (p := ⟨w.heap.size + 1, j, none⟩) (by simp [go_sem])).trans (by simp [go_sem])
      clear r1
      go_wp2_with fail
      refine (HAF.out _ _ (HRD2.out _ _)).mono ?_
      rintro _ _ ⟨rfl, rfl⟩
      have k1 : Below w1.heap.size w1 (w1.alloc (.cells #[.int .i64 num, .int .i64 den] 2)) := (Below.refl _ _).alloc (Nat.le_refl _) _
      generalize w1.alloc (.cells #[.int .i64 num, .int .i64 den] 2) = wa at *
      have s2 := k1
      have b2 := b1.trans (s2.mono z1)
      have z2 := b2.size
      have y2 := s2.size
      have k0_2 := c0_0_1
      have c0_0_2 := below_cell s2 c0_0_1; clear c0_0_1
      have c0_1_2 := below_cell s2 c0_1_1; clear c0_1_1
      have k1_2 := c1_0_1
      have c1_0_2 := below_cell s2 c1_0_1; clear c1_0_1
      have c1_1_2 := below_cell s2 c1_1_1; clear c1_1_1
      have f0_2 : ∀ j, wa.frozen? ⟨w.heap.size, j, none⟩ = false := fun j => (s2.frozen (p := ⟨w.heap.size, j, none⟩) (show w.heap.size < _ from World.block_lt_of_cell? _ ⟨w.heap.size, 0, none⟩ k0_2)).trans (f0_1 j); clear f0_1
      have f1_2 : ∀ j, wa.frozen? ⟨w.heap.size + 1, j, none⟩ = false := fun j => (s2.frozen (p := ⟨w.heap.size + 1, j, none⟩) (show w.heap.size + 1 < _ from World.block_lt_of_cell? _ ⟨w.heap.size + 1, 0, none⟩ k1_2)).trans (f1_1 j); clear f1_1
      go_wp2_with fail
      refine (HSC.out _ b2).mono ?_
      rintro _ w3 ⟨x3, rfl, n3, r3⟩
      have s3 := r3
      have b3 := b2.trans (s3.mono z2)
      have z3 := b3.size
      have y3 := s3.size
      have k0_3 := c0_0_2
      have c0_0_3 := below_cell s3 c0_0_2; clear c0_0_2
      have c0_1_3 := below_cell s3 c0_1_2; clear c0_1_2
      have k1_3 := c1_0_2
      have c1_0_3 := below_cell s3 c1_0_2; clear c1_0_2
      have c1_1_3 := below_cell s3 c1_1_2; clear c1_1_2
      have f0_3 : ∀ j, w3.frozen? ⟨w.heap.size, j, none⟩ = false := fun j => (s3.frozen (p := ⟨w.heap.size, j, none⟩) (show w.heap.size < _ from World.block_lt_of_cell? _ ⟨w.heap.size, 0, none⟩ k0_3)).trans (f0_2 j); clear f0_2
      have f1_3 : ∀ j, w3.frozen? ⟨w.heap.size + 1, j, none⟩ = false := fun j => (s3.frozen (p := ⟨w.heap.size + 1, j, none⟩) (show w.heap.size + 1 < _ from World.block_lt_of_cell? _ ⟨w.heap.size + 1, 0, none⟩ k1_3)).trans (f1_2 j); clear f1_2
      clear r3
      obtain ⟨a4, p4, rfl⟩ := own_shape n3
      have lo4 := own_lo n3
      go_wp2
      refine bodyPost_ret (v := .tuple #[.agg #[.string RES.1, .slice a4 RES.2.1.length p4], .int .i64 RES.2.2]) (by simp [results, Try.results23, go_sem, *]) rfl ?_
      have o11 := own_set n3 (a := ⟨w.heap.size + 1, 0, none⟩) (fun k hk => by have := lo4 k hk; simp at this ⊢; omega) (.string RES.1)
      have o12 := own_set o11 (a := ⟨w.heap.size + 1, 1, none⟩) (fun k hk => by have := lo4 k hk; simp at this ⊢; omega) (.slice a4 RES.2.1.length p4)
      exact ⟨_, rfl, own_base o12 (by simp at *; omega), (b3.setCell (show w.heap.size ≤ w.heap.size + 1 by omega) _).setCell (show w.heap.size ≤ w.heap.size + 1 by omega) _⟩

end Go.Proofs.Ytmickkodcclocaa
