/- The sound of a model and a profile: both. -/
import Derived.Test.YtmeeibcbhjifbaaGreatGE
import Derived.Test.YtmeeibcbhjifbaaGreatSnd
import Derived.Test.YtmeeibcbhjifbaaGreatVD
namespace Go.Proofs.YtmeeibcbhjifbaaGreat
set_option linter.unusedVariables false
open Go.RowKit Go.Proofs.Bell Go.BigFrame

def sndOk (r : List Int) : Bool := soundB (r.getD 0 0) (r.getD 1 0) (r.getD 2 0) (r.getD 3 0) (r.getD 4 0)
def sndI (zs : List Int) (ws : List (List Int)) (bs : List Int) (nm : ByteArray) (ps : List (Int × Int × Int)) : List Int × Int :=
  if modAsk zs ws bs nm ps = 0 then (if sndOk (rawL ps zs ws bs) then (rawL ps zs ws bs, 0) else ([], 6)) else ([], modAsk zs ws bs nm ps)
theorem sndV_nil : sndV [] = .agg #[.int .i64 0, .int .i64 0, .int .i64 0, .int .i64 0, .int .i64 0] := rfl

set_option maxRecDepth 100000 in
set_option maxHeartbeats 3200000 in
theorem implSoundOf_c (zv wv bv : Value) (zs : List Int) (ws : List (List Int)) (bs : List Int) (nm : ByteArray) (sv : Value) (ps : List (Int × Int × Int)) (w : World) (hz : Rd w zv zs.length (ints zs)) (hw : RdSS w wv ws) (hb : Rd w bv bs.length (ints bs)) (hnm : nm.size ≤ maxLen) (hr : Rd w sv ps.length (trips ps)) :
    Calls Tryz.prog 45 #[.agg #[zv, wv, bv], .agg #[.string nm, sv]] w (RetB (.tuple #[sndV (sndI zs ws bs nm ps).1, .int .i64 (sndI zs ws bs nm ps).2]) w) := by
  have hask := fun w' (hx : Below w.heap.size w w') => modelled_c zv wv bv zs ws bs nm sv ps w' (hz.later hx) (hw.later hx) (hb.later hx) hnm (hr.later hx)
  by_cases t0 : ¬ modAsk zs ws bs nm ps = 0
  · have he : sndI zs ws bs nm ps = ([], modAsk zs ws bs nm ps) := by simp [sndI, t0]
    rw [he]
    simp only [sndV_nil]
    generalize modAsk zs ws bs nm ps = code at *
    have HASK := Lib.hid hask; clear hask
    clear he hz hw hb hr
    go_enter Tryz.func45, Tryz.ntmps45
    have b0 : Below w.heap.size w w := Below.refl _ _
    have z0 : w.heap.size ≤ w.heap.size := Nat.le_refl _
    go_wp2_with fail
    refine (HASK.out _ (by go_grown)).mono ?_
    rintro _ w1 ⟨rfl, r1⟩
    have s1 : Below w.heap.size w w1 := Below.trans (by go_grown) (r1.mono (by simp; try omega))
    have b1 := b0.trans (s1.mono z0)
    have z1 := b1.size
    have y1 := s1.size
    have c0_0_1 := below_cell r1 (p := ⟨w.heap.size, 0, none⟩) (v := zv) (by simp [go_sem])
    have c0_1_1 := below_cell r1 (p := ⟨w.heap.size, 1, none⟩) (v := wv) (by simp [go_sem])
    have c0_2_1 := below_cell r1 (p := ⟨w.heap.size, 2, none⟩) (v := bv) (by simp [go_sem])
    have c1_0_1 := below_cell r1 (p := ⟨w.heap.size + 1, 0, none⟩) (v := .string nm) (by simp [go_sem])
    have c1_1_1 := below_cell r1 (p := ⟨w.heap.size + 1, 1, none⟩) (v := sv) (by simp [go_sem])
    have c2_0_1 := below_cell r1 (p := ⟨w.heap.size + 1 + 1, 0, none⟩) (v := .int .i64 0) (by simp [go_sem])
    have c2_1_1 := below_cell r1 (p := ⟨w.heap.size + 1 + 1, 1, none⟩) (v := .int .i64 0) (by simp [go_sem])
    have c2_2_1 := below_cell r1 (p := ⟨w.heap.size + 1 + 1, 2, none⟩) (v := .int .i64 0) (by simp [go_sem])
    have c2_3_1 := below_cell r1 (p := ⟨w.heap.size + 1 + 1, 3, none⟩) (v := .int .i64 0) (by simp [go_sem])
    have c2_4_1 := below_cell r1 (p := ⟨w.heap.size + 1 + 1, 4, none⟩) (v := .int .i64 0) (by simp [go_sem])
    have f2_1 : ∀ j, w1.frozen? ⟨w.heap.size + 1 + 1, j, none⟩ = false := fun j => (r1.frozen (p := ⟨w.heap.size + 1 + 1, j, none⟩) (by simp [go_sem])).trans (by simp [go_sem])
    clear r1
    go_wp2
    refine bodyPost_ret (v := .tuple #[.agg #[.int .i64 0, .int .i64 0, .int .i64 0, .int .i64 0, .int .i64 0], .int .i64 code]) (by simp [results, Tryz.results45, go_sem, cell_setCell, c2_0_1, c2_1_1, c2_2_1, c2_3_1, c2_4_1]) rfl ?_
    exact RetB.mk rfl (((((b1.setCell (show w.heap.size ≤ w.heap.size + 1 + 1 by omega) _).setCell (show w.heap.size ≤ w.heap.size + 1 + 1 by omega) _).setCell (show w.heap.size ≤ w.heap.size + 1 + 1 by omega) _).setCell (show w.heap.size ≤ w.heap.size + 1 + 1 by omega) _).setCell (show w.heap.size ≤ w.heap.size + 1 + 1 by omega) _)
  · have t0 : modAsk zs ws bs nm ps = 0 := Classical.not_not.1 t0
    rw [t0] at hask
    obtain ⟨t1, t2, t3⟩ := modAsk_ok t0
    obtain ⟨hl1, hl2, hal, hht⟩ := profB_t t2
    have hrw := fun w' (hx : Below w.heap.size w w') => rawPartials_c zv wv bv zs ws bs nm sv ps w' (hz.later hx) (hw.later hx) (hb.later hx) (hr.later hx) t1 hl1 hl2 hal t3
    have hln : (rawL ps zs ws bs).length = 5 := rawK_len _ _ _ _ _
    have he : sndI zs ws bs nm ps = if sndOk (rawL ps zs ws bs) then (rawL ps zs ws bs, 0) else ([], 6) := by simp [sndI, t0]
    rw [he]
    have HASK := Lib.hid hask; clear hask
    have HRW := Lib.hid hrw; clear hrw
    clear he hz hw hb hr t0 t1 t2 t3 hal hht
    generalize rawL ps zs ws bs = RES at *
    have hsn := fun w' v (hx : Rd w' v 5 (ints RES)) => soundOf_c v RES hln w' hx
    have hok := fun w' => ValidSound_c (RES.getD 0 0) (RES.getD 1 0) (RES.getD 2 0) (RES.getD 3 0) (RES.getD 4 0) w'
    rw [show soundB (RES.getD 0 0) (RES.getD 1 0) (RES.getD 2 0) (RES.getD 3 0) (RES.getD 4 0) = sndOk RES from rfl] at hok
    unfold sndV at hsn ⊢
    have HSN := Lib.hid hsn; clear hsn
    have HLN := Lib.hid hln; clear hln
    cases t4 : sndOk RES <;> rw [t4] at hok
    · simp only [Bool.false_eq_true, if_false]
      simp only [List.getD_nil]
      have HOK := Lib.hid hok; clear hok
      clear t4
      go_enter Tryz.func45, Tryz.ntmps45
      have b0 : Below w.heap.size w w := Below.refl _ _
      have z0 : w.heap.size ≤ w.heap.size := Nat.le_refl _
      go_wp2_with fail
      refine (HASK.out _ (by go_grown)).mono ?_
      rintro _ w1 ⟨rfl, r1⟩
      have s1 : Below w.heap.size w w1 := Below.trans (by go_grown) (r1.mono (by simp; try omega))
      have b1 := b0.trans (s1.mono z0)
      have z1 := b1.size
      have y1 := s1.size
      have c0_0_1 := below_cell r1 (p := ⟨w.heap.size, 0, none⟩) (v := zv) (by simp [go_sem])
      have c0_1_1 := below_cell r1 (p := ⟨w.heap.size, 1, none⟩) (v := wv) (by simp [go_sem])
      have c0_2_1 := below_cell r1 (p := ⟨w.heap.size, 2, none⟩) (v := bv) (by simp [go_sem])
      have c1_0_1 := below_cell r1 (p := ⟨w.heap.size + 1, 0, none⟩) (v := .string nm) (by simp [go_sem])
      have c1_1_1 := below_cell r1 (p := ⟨w.heap.size + 1, 1, none⟩) (v := sv) (by simp [go_sem])
      have c2_0_1 := below_cell r1 (p := ⟨w.heap.size + 1 + 1, 0, none⟩) (v := .int .i64 0) (by simp [go_sem])
      have c2_1_1 := below_cell r1 (p := ⟨w.heap.size + 1 + 1, 1, none⟩) (v := .int .i64 0) (by simp [go_sem])
      have c2_2_1 := below_cell r1 (p := ⟨w.heap.size + 1 + 1, 2, none⟩) (v := .int .i64 0) (by simp [go_sem])
      have c2_3_1 := below_cell r1 (p := ⟨w.heap.size + 1 + 1, 3, none⟩) (v := .int .i64 0) (by simp [go_sem])
      have c2_4_1 := below_cell r1 (p := ⟨w.heap.size + 1 + 1, 4, none⟩) (v := .int .i64 0) (by simp [go_sem])
      have f2_1 : ∀ j, w1.frozen? ⟨w.heap.size + 1 + 1, j, none⟩ = false := fun j => (r1.frozen (p := ⟨w.heap.size + 1 + 1, j, none⟩) (by simp [go_sem])).trans (by simp [go_sem])
      clear r1
      go_wp2_with fail
      refine (HRW.out _ b1).mono ?_
      rintro _ w2 ⟨x2, rfl, n2, r2⟩
      have s2 := r2
      have b2 := b1.trans (s2.mono z1)
      have z2 := b2.size
      have y2 := s2.size
      have c0_0_2 := below_cell s2 c0_0_1; clear c0_0_1
      have c0_1_2 := below_cell s2 c0_1_1; clear c0_1_1
      have c0_2_2 := below_cell s2 c0_2_1; clear c0_2_1
      have c1_0_2 := below_cell s2 c1_0_1; clear c1_0_1
      have c1_1_2 := below_cell s2 c1_1_1; clear c1_1_1
      have k2_2 := c2_0_1
      have c2_0_2 := below_cell s2 c2_0_1; clear c2_0_1
      have c2_1_2 := below_cell s2 c2_1_1; clear c2_1_1
      have c2_2_2 := below_cell s2 c2_2_1; clear c2_2_1
      have c2_3_2 := below_cell s2 c2_3_1; clear c2_3_1
      have c2_4_2 := below_cell s2 c2_4_1; clear c2_4_1
      have f2_2 : ∀ j, w2.frozen? ⟨w.heap.size + 1 + 1, j, none⟩ = false := fun j => (s2.frozen (p := ⟨w.heap.size + 1 + 1, j, none⟩) (show w.heap.size + 1 + 1 < _ from World.block_lt_of_cell? _ ⟨w.heap.size + 1 + 1, 0, none⟩ k2_2)).trans (f2_1 j); clear f2_1
      clear r2
      have rd5 : Rd w2 x2 5 (ints RES) := by have := Rd.of_own n2; rwa [HLN.out] at this
      clear n2
      have RD5 := Lib.hid rd5; clear rd5
      go_wp2_with fail
      refine (HSN.out _ _ RD5.out).mono ?_
      rintro _ w3 ⟨rfl, r3⟩
      have s3 := r3
      have b3 := b2.trans (s3.mono z2)
      have z3 := b3.size
      have y3 := s3.size
      have c0_0_3 := below_cell s3 c0_0_2; clear c0_0_2
      have c0_1_3 := below_cell s3 c0_1_2; clear c0_1_2
      have c0_2_3 := below_cell s3 c0_2_2; clear c0_2_2
      have c1_0_3 := below_cell s3 c1_0_2; clear c1_0_2
      have c1_1_3 := below_cell s3 c1_1_2; clear c1_1_2
      have k2_3 := c2_0_2
      have c2_0_3 := below_cell s3 c2_0_2; clear c2_0_2
      have c2_1_3 := below_cell s3 c2_1_2; clear c2_1_2
      have c2_2_3 := below_cell s3 c2_2_2; clear c2_2_2
      have c2_3_3 := below_cell s3 c2_3_2; clear c2_3_2
      have c2_4_3 := below_cell s3 c2_4_2; clear c2_4_2
      have f2_3 : ∀ j, w3.frozen? ⟨w.heap.size + 1 + 1, j, none⟩ = false := fun j => (s3.frozen (p := ⟨w.heap.size + 1 + 1, j, none⟩) (show w.heap.size + 1 + 1 < _ from World.block_lt_of_cell? _ ⟨w.heap.size + 1 + 1, 0, none⟩ k2_3)).trans (f2_2 j); clear f2_2
      clear r3
      generalize RES.getD 0 0 = aa0 at *
      generalize RES.getD 1 0 = aa1 at *
      generalize RES.getD 2 0 = aa2 at *
      generalize RES.getD 3 0 = aa3 at *
      generalize RES.getD 4 0 = aa4 at *
      go_wp2_with fail
      refine (HOK.out _).mono ?_
      rintro _ w4 ⟨rfl, r4⟩
      have s4 : Below w3.heap.size w3 w4 := Below.trans (by go_grown) (r4.mono (by simp; try omega))
      have b4 := b3.trans (s4.mono z3)
      have z4 := b4.size
      have y4 := s4.size
      have v4 : w3.heap.size + 1 ≤ w4.heap.size := by have := r4.size; simp only [World.size_alloc] at this; omega
      have c0_0_4 := below_cell s4 c0_0_3; clear c0_0_3
      have c0_1_4 := below_cell s4 c0_1_3; clear c0_1_3
      have c0_2_4 := below_cell s4 c0_2_3; clear c0_2_3
      have c1_0_4 := below_cell s4 c1_0_3; clear c1_0_3
      have c1_1_4 := below_cell s4 c1_1_3; clear c1_1_3
      have k2_4 := c2_0_3
      have c2_0_4 := below_cell s4 c2_0_3; clear c2_0_3
      have c2_1_4 := below_cell s4 c2_1_3; clear c2_1_3
      have c2_2_4 := below_cell s4 c2_2_3; clear c2_2_3
      have c2_3_4 := below_cell s4 c2_3_3; clear c2_3_3
      have c2_4_4 := below_cell s4 c2_4_3; clear c2_4_3
      have c3_0_4 := below_cell r4 (p := ⟨w3.heap.size, 0, none⟩) (v := .int .i64 aa0) (by simp [go_sem])
      have c3_1_4 := below_cell r4 (p := ⟨w3.heap.size, 1, none⟩) (v := .int .i64 aa1) (by simp [go_sem])
      have c3_2_4 := below_cell r4 (p := ⟨w3.heap.size, 2, none⟩) (v := .int .i64 aa2) (by simp [go_sem])
      have c3_3_4 := below_cell r4 (p := ⟨w3.heap.size, 3, none⟩) (v := .int .i64 aa3) (by simp [go_sem])
      have c3_4_4 := below_cell r4 (p := ⟨w3.heap.size, 4, none⟩) (v := .int .i64 aa4) (by simp [go_sem])
      have f2_4 : ∀ j, w4.frozen? ⟨w.heap.size + 1 + 1, j, none⟩ = false := fun j => (s4.frozen (p := ⟨w.heap.size + 1 + 1, j, none⟩) (show w.heap.size + 1 + 1 < _ from World.block_lt_of_cell? _ ⟨w.heap.size + 1 + 1, 0, none⟩ k2_4)).trans (f2_3 j); clear f2_3
      have f3_4 : ∀ j, w4.frozen? ⟨w3.heap.size, j, none⟩ = false := fun j => (r4.frozen (p := ⟨w3.heap.size, j, none⟩) (by simp [go_sem])).trans (by simp [go_sem])
      clear r4
      go_wp2
      refine bodyPost_ret (v := .tuple #[.agg #[.int .i64 0, .int .i64 0, .int .i64 0, .int .i64 0, .int .i64 0], .int .i64 6]) (by simp [results, Tryz.results45, go_sem, cell_setCell, c2_0_4, c2_1_4, c2_2_4, c2_3_4, c2_4_4]) rfl ?_
      exact RetB.mk rfl (((((b4.setCell (show w.heap.size ≤ w.heap.size + 1 + 1 by omega) _).setCell (show w.heap.size ≤ w.heap.size + 1 + 1 by omega) _).setCell (show w.heap.size ≤ w.heap.size + 1 + 1 by omega) _).setCell (show w.heap.size ≤ w.heap.size + 1 + 1 by omega) _).setCell (show w.heap.size ≤ w.heap.size + 1 + 1 by omega) _)
    · simp only [if_true]
      have HOK := Lib.hid hok; clear hok
      clear t4
      go_enter Tryz.func45, Tryz.ntmps45
      have b0 : Below w.heap.size w w := Below.refl _ _
      have z0 : w.heap.size ≤ w.heap.size := Nat.le_refl _
      go_wp2_with fail
      refine (HASK.out _ (by go_grown)).mono ?_
      rintro _ w1 ⟨rfl, r1⟩
      have s1 : Below w.heap.size w w1 := Below.trans (by go_grown) (r1.mono (by simp; try omega))
      have b1 := b0.trans (s1.mono z0)
      have z1 := b1.size
      have y1 := s1.size
      have c0_0_1 := below_cell r1 (p := ⟨w.heap.size, 0, none⟩) (v := zv) (by simp [go_sem])
      have c0_1_1 := below_cell r1 (p := ⟨w.heap.size, 1, none⟩) (v := wv) (by simp [go_sem])
      have c0_2_1 := below_cell r1 (p := ⟨w.heap.size, 2, none⟩) (v := bv) (by simp [go_sem])
      have c1_0_1 := below_cell r1 (p := ⟨w.heap.size + 1, 0, none⟩) (v := .string nm) (by simp [go_sem])
      have c1_1_1 := below_cell r1 (p := ⟨w.heap.size + 1, 1, none⟩) (v := sv) (by simp [go_sem])
      have c2_0_1 := below_cell r1 (p := ⟨w.heap.size + 1 + 1, 0, none⟩) (v := .int .i64 0) (by simp [go_sem])
      have c2_1_1 := below_cell r1 (p := ⟨w.heap.size + 1 + 1, 1, none⟩) (v := .int .i64 0) (by simp [go_sem])
      have c2_2_1 := below_cell r1 (p := ⟨w.heap.size + 1 + 1, 2, none⟩) (v := .int .i64 0) (by simp [go_sem])
      have c2_3_1 := below_cell r1 (p := ⟨w.heap.size + 1 + 1, 3, none⟩) (v := .int .i64 0) (by simp [go_sem])
      have c2_4_1 := below_cell r1 (p := ⟨w.heap.size + 1 + 1, 4, none⟩) (v := .int .i64 0) (by simp [go_sem])
      have f2_1 : ∀ j, w1.frozen? ⟨w.heap.size + 1 + 1, j, none⟩ = false := fun j => (r1.frozen (p := ⟨w.heap.size + 1 + 1, j, none⟩) (by simp [go_sem])).trans (by simp [go_sem])
      clear r1
      go_wp2_with fail
      refine (HRW.out _ b1).mono ?_
      rintro _ w2 ⟨x2, rfl, n2, r2⟩
      have s2 := r2
      have b2 := b1.trans (s2.mono z1)
      have z2 := b2.size
      have y2 := s2.size
      have c0_0_2 := below_cell s2 c0_0_1; clear c0_0_1
      have c0_1_2 := below_cell s2 c0_1_1; clear c0_1_1
      have c0_2_2 := below_cell s2 c0_2_1; clear c0_2_1
      have c1_0_2 := below_cell s2 c1_0_1; clear c1_0_1
      have c1_1_2 := below_cell s2 c1_1_1; clear c1_1_1
      have k2_2 := c2_0_1
      have c2_0_2 := below_cell s2 c2_0_1; clear c2_0_1
      have c2_1_2 := below_cell s2 c2_1_1; clear c2_1_1
      have c2_2_2 := below_cell s2 c2_2_1; clear c2_2_1
      have c2_3_2 := below_cell s2 c2_3_1; clear c2_3_1
      have c2_4_2 := below_cell s2 c2_4_1; clear c2_4_1
      have f2_2 : ∀ j, w2.frozen? ⟨w.heap.size + 1 + 1, j, none⟩ = false := fun j => (s2.frozen (p := ⟨w.heap.size + 1 + 1, j, none⟩) (show w.heap.size + 1 + 1 < _ from World.block_lt_of_cell? _ ⟨w.heap.size + 1 + 1, 0, none⟩ k2_2)).trans (f2_1 j); clear f2_1
      clear r2
      have rd5 : Rd w2 x2 5 (ints RES) := by have := Rd.of_own n2; rwa [HLN.out] at this
      clear n2
      have RD5 := Lib.hid rd5; clear rd5
      go_wp2_with fail
      refine (HSN.out _ _ RD5.out).mono ?_
      rintro _ w3 ⟨rfl, r3⟩
      have s3 := r3
      have b3 := b2.trans (s3.mono z2)
      have z3 := b3.size
      have y3 := s3.size
      have c0_0_3 := below_cell s3 c0_0_2; clear c0_0_2
      have c0_1_3 := below_cell s3 c0_1_2; clear c0_1_2
      have c0_2_3 := below_cell s3 c0_2_2; clear c0_2_2
      have c1_0_3 := below_cell s3 c1_0_2; clear c1_0_2
      have c1_1_3 := below_cell s3 c1_1_2; clear c1_1_2
      have k2_3 := c2_0_2
      have c2_0_3 := below_cell s3 c2_0_2; clear c2_0_2
      have c2_1_3 := below_cell s3 c2_1_2; clear c2_1_2
      have c2_2_3 := below_cell s3 c2_2_2; clear c2_2_2
      have c2_3_3 := below_cell s3 c2_3_2; clear c2_3_2
      have c2_4_3 := below_cell s3 c2_4_2; clear c2_4_2
      have f2_3 : ∀ j, w3.frozen? ⟨w.heap.size + 1 + 1, j, none⟩ = false := fun j => (s3.frozen (p := ⟨w.heap.size + 1 + 1, j, none⟩) (show w.heap.size + 1 + 1 < _ from World.block_lt_of_cell? _ ⟨w.heap.size + 1 + 1, 0, none⟩ k2_3)).trans (f2_2 j); clear f2_2
      clear r3
      generalize RES.getD 0 0 = aa0 at *
      generalize RES.getD 1 0 = aa1 at *
      generalize RES.getD 2 0 = aa2 at *
      generalize RES.getD 3 0 = aa3 at *
      generalize RES.getD 4 0 = aa4 at *
      go_wp2_with fail
      refine (HOK.out _).mono ?_
      rintro _ w4 ⟨rfl, r4⟩
      have s4 : Below w3.heap.size w3 w4 := Below.trans (by go_grown) (r4.mono (by simp; try omega))
      have b4 := b3.trans (s4.mono z3)
      have z4 := b4.size
      have y4 := s4.size
      have v4 : w3.heap.size + 1 ≤ w4.heap.size := by have := r4.size; simp only [World.size_alloc] at this; omega
      have c0_0_4 := below_cell s4 c0_0_3; clear c0_0_3
      have c0_1_4 := below_cell s4 c0_1_3; clear c0_1_3
      have c0_2_4 := below_cell s4 c0_2_3; clear c0_2_3
      have c1_0_4 := below_cell s4 c1_0_3; clear c1_0_3
      have c1_1_4 := below_cell s4 c1_1_3; clear c1_1_3
      have k2_4 := c2_0_3
      have c2_0_4 := below_cell s4 c2_0_3; clear c2_0_3
      have c2_1_4 := below_cell s4 c2_1_3; clear c2_1_3
      have c2_2_4 := below_cell s4 c2_2_3; clear c2_2_3
      have c2_3_4 := below_cell s4 c2_3_3; clear c2_3_3
      have c2_4_4 := below_cell s4 c2_4_3; clear c2_4_3
      have c3_0_4 := below_cell r4 (p := ⟨w3.heap.size, 0, none⟩) (v := .int .i64 aa0) (by simp [go_sem])
      have c3_1_4 := below_cell r4 (p := ⟨w3.heap.size, 1, none⟩) (v := .int .i64 aa1) (by simp [go_sem])
      have c3_2_4 := below_cell r4 (p := ⟨w3.heap.size, 2, none⟩) (v := .int .i64 aa2) (by simp [go_sem])
      have c3_3_4 := below_cell r4 (p := ⟨w3.heap.size, 3, none⟩) (v := .int .i64 aa3) (by simp [go_sem])
      have c3_4_4 := below_cell r4 (p := ⟨w3.heap.size, 4, none⟩) (v := .int .i64 aa4) (by simp [go_sem])
      have f2_4 : ∀ j, w4.frozen? ⟨w.heap.size + 1 + 1, j, none⟩ = false := fun j => (s4.frozen (p := ⟨w.heap.size + 1 + 1, j, none⟩) (show w.heap.size + 1 + 1 < _ from World.block_lt_of_cell? _ ⟨w.heap.size + 1 + 1, 0, none⟩ k2_4)).trans (f2_3 j); clear f2_3
      have f3_4 : ∀ j, w4.frozen? ⟨w3.heap.size, j, none⟩ = false := fun j => (r4.frozen (p := ⟨w3.heap.size, j, none⟩) (by simp [go_sem])).trans (by simp [go_sem])
      clear r4
      go_wp2
      refine bodyPost_ret (v := .tuple #[.agg #[.int .i64 aa0, .int .i64 aa1, .int .i64 aa2, .int .i64 aa3, .int .i64 aa4], .int .i64 0]) (by simp [results, Tryz.results45, go_sem, cell_setCell, c2_0_4, c2_1_4, c2_2_4, c2_3_4, c2_4_4]) rfl ?_
      exact RetB.mk rfl (((((b4.setCell (show w.heap.size ≤ w.heap.size + 1 + 1 by omega) _).setCell (show w.heap.size ≤ w.heap.size + 1 + 1 by omega) _).setCell (show w.heap.size ≤ w.heap.size + 1 + 1 by omega) _).setCell (show w.heap.size ≤ w.heap.size + 1 + 1 by omega) _).setCell (show w.heap.size ≤ w.heap.size + 1 + 1 by omega) _)

end Go.Proofs.YtmeeibcbhjifbaaGreat
