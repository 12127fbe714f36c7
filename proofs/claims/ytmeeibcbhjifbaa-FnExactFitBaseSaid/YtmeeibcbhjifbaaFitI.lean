/- A model fitted to a sound: both functions. -/
import Derived.Test.YtmeeibcbhjifbaaFitS
namespace Go.Proofs.Ytmeeibcbhjifbaa
set_option linter.unusedVariables false
open Go.RowKit Go.Proofs.Bell Go.BigFrame

def fitM (zs : List Int) (ws : List (List Int)) (bs : List Int) (nm : ByteArray) (ps : List (Int × Int × Int)) (a b c d f : Int) : (List Int × List (List Int) × List Int) × Int :=
  if soundB a b c d f then (if modAsk zs ws bs nm ps = 0 then (if (fitI zs ws bs ps [a, b, c, d, f]).2 then ((fitI zs ws bs ps [a, b, c, d, f]).1, 0) else (([], [], []), 6)) else (([], [], []), modAsk zs ws bs nm ps)) else (([], [], []), 1)
theorem soundB_bd {a b c d f : Int} (h : soundB a b c d f = true) (k : Nat) (hk : k < 5) : 0 ≤ [a, b, c, d, f].getD k 0 ∧ [a, b, c, d, f].getD k 0 ≤ 20000000 := by
  rw [soundB_eq] at h
  simp only [Bool.and_eq_true, allF, List.all_cons, List.all_nil] at h
  obtain ⟨⟨⟨⟨⟨h0, h1, h2, h3, h4, _⟩, _⟩, _⟩, _⟩, _⟩ := h
  have e0 := inB_t h0
  have e1 := inB_t h1
  have e2 := inB_t h2
  have e3 := inB_t h3
  have e4 := inB_t h4
  match k, hk with
  | 0, _ => simp; omega
  | 1, _ => simp; omega
  | 2, _ => simp; omega
  | 3, _ => simp; omega
  | 4, _ => simp; omega

theorem below3 {w W : World} {R : Nat} (h : Below w.heap.size w W) (hR : w.heap.size ≤ R) (u0 u1 u2 : Value) : Below w.heap.size w (((W.setCell ⟨R, 0, none⟩ u0).setCell ⟨R, 1, none⟩ u1).setCell ⟨R, 2, none⟩ u2) := ((h.setCell hR _).setCell hR _).setCell hR _
theorem OwnM.set33 {lo hi R : Nat} {w : World} {zv wv bv : Value} {us : List Value} {zs : List Int} {ws : List (List Int)} {bs : List Int} (h : OwnM lo hi w zv wv bv us zs ws bs) (hR : R < lo) (u0 u1 u2 : Value) : OwnM lo hi (((w.setCell ⟨R, 0, none⟩ u0).setCell ⟨R, 1, none⟩ u1).setCell ⟨R, 2, none⟩ u2) zv wv bv us zs ws bs :=
  ((h.set (a := ⟨R, 0, none⟩) hR u0).set (a := ⟨R, 1, none⟩) hR u1).set (a := ⟨R, 2, none⟩) hR u2
set_option maxRecDepth 100000 in
set_option maxHeartbeats 3200000 in
theorem specFitBase_c (zv wv bv : Value) (zs : List Int) (ws : List (List Int)) (bs : List Int) (nm : ByteArray) (sv : Value) (ps : List (Int × Int × Int)) (a b c d f : Int) (w : World) (hz : Rd w zv zs.length (ints zs)) (hw : RdSS w wv ws) (hb : Rd w bv bs.length (ints bs)) (hnm : nm.size ≤ maxLen) (hr : Rd w sv ps.length (trips ps)) :
    Calls Try.prog 17 #[.agg #[zv, wv, bv], .agg #[.string nm, sv], .agg #[.int .i64 a, .int .i64 b, .int .i64 c, .int .i64 d, .int .i64 f]] w (RetM2 (fitM zs ws bs nm ps a b c d f).1.1 (fitM zs ws bs nm ps a b c d f).1.2.1 (fitM zs ws bs nm ps a b c d f).1.2.2 (.int .i64 (fitM zs ws bs nm ps a b c d f).2) w) := by
  have hso := fun w' g h0 h1 h2 h3 h4 => l04Ok_c a b c d f g w' h0 h1 h2 h3 h4
  have hask := fun w' g g' c0 c1 c2 d0 d1 (hx : Below w.heap.size w w') => l08Ask_c g g' zv wv bv zs ws bs nm sv ps w' c0 c1 c2 d0 d1 (hz.later hx) (hw.later hx) (hb.later hx) hnm (hr.later hx)
  cases t0 : soundB a b c d f <;> rw [t0] at hso
  · have he : fitM zs ws bs nm ps a b c d f = (([], [], []), 1) := by simp [fitM, t0]
    rw [he]
    have HSO := Lib.hid hso; clear hso
    clear he hask hz hw hb hr t0
    go_enter Try.func17, Try.ntmps17
    have b0 : Below w.heap.size w w := Below.refl _ _
    have z0 : w.heap.size ≤ w.heap.size := Nat.le_refl _
    go_wp2_with fail
    refine (HSO.out _ (w.heap.size + 1 + 1) (by simp [go_sem]) (by simp [go_sem]) (by simp [go_sem]) (by simp [go_sem]) (by simp [go_sem])).mono ?_
    rintro _ w1 ⟨rfl, r1⟩
    have s1 : Below w.heap.size w w1 := Below.trans (by go_grown) (r1.mono (by simp; try omega))
    have b1 := b0.trans (s1.mono z0)
    have z1 := b1.size
    have y1 := s1.size
    have c0_0_1 := below_cell r1 (p := ⟨w.heap.size, 0, none⟩) (v := zv) (by simp [go_sem])
    have c0_1_1 := below_cell r1 (p := ⟨w.heap.size, 1, none⟩) (v := wv) (by simp [go_sem])
    have c0_2_1 := below_cell r1 (p := ⟨w.heap.size, 2, none⟩) (v := bv) (by simp [go_sem])
    have c1_0_1 := below_cell r1 (p := ⟨w.heap.size + 1, 0, none⟩) (v := .string nm) (by simp [go_sem])
    have c1_1_1 := below_cell r1 (p := ⟨w.heap.size + 1, 1, none⟩) (v := sv) (by simp [go_sem])
    have c2_0_1 := below_cell r1 (p := ⟨w.heap.size + 1 + 1, 0, none⟩) (v := .int .i64 a) (by simp [go_sem])
    have c2_1_1 := below_cell r1 (p := ⟨w.heap.size + 1 + 1, 1, none⟩) (v := .int .i64 b) (by simp [go_sem])
    have c2_2_1 := below_cell r1 (p := ⟨w.heap.size + 1 + 1, 2, none⟩) (v := .int .i64 c) (by simp [go_sem])
    have c2_3_1 := below_cell r1 (p := ⟨w.heap.size + 1 + 1, 3, none⟩) (v := .int .i64 d) (by simp [go_sem])
    have c2_4_1 := below_cell r1 (p := ⟨w.heap.size + 1 + 1, 4, none⟩) (v := .int .i64 f) (by simp [go_sem])
    have c3_0_1 := below_cell r1 (p := ⟨w.heap.size + 1 + 1 + 1, 0, none⟩) (v := .slice none 0 0) (by simp [go_sem])
    have c3_1_1 := below_cell r1 (p := ⟨w.heap.size + 1 + 1 + 1, 1, none⟩) (v := .slice none 0 0) (by simp [go_sem])
    have c3_2_1 := below_cell r1 (p := ⟨w.heap.size + 1 + 1 + 1, 2, none⟩) (v := .slice none 0 0) (by simp [go_sem])
    have f3_1 : ∀ j, w1.frozen? ⟨w.heap.size + 1 + 1 + 1, j, none⟩ = false := fun j => (r1.frozen (p := ⟨w.heap.size + 1 + 1 + 1, j, none⟩) (by simp [go_sem])).trans (by simp [go_sem])
    clear r1
    go_wp2
    refine bodyPost_ret (v := .tuple #[.agg #[.slice none 0 0, .slice none 0 0, .slice none 0 0], .int .i64 1]) (by simp [results, Try.results17, go_sem, c3_0_1, c3_1_1, c3_2_1]) rfl ?_
    exact RetM2.nil (below3 b1 (show w.heap.size ≤ w.heap.size + 1 + 1 + 1 by omega) _ _ _)
  · by_cases t1 : ¬ modAsk zs ws bs nm ps = 0
    · have he : fitM zs ws bs nm ps a b c d f = (([], [], []), modAsk zs ws bs nm ps) := by simp [fitM, t0, t1]
      rw [he]
      generalize modAsk zs ws bs nm ps = code at *
      have t2 : (code != 0) = true := bne_iff_ne.2 t1
      have HSO := Lib.hid hso; clear hso
      have HASK := Lib.hid hask; clear hask
      clear he hz hw hb hr t0
      go_enter Try.func17, Try.ntmps17
      have b0 : Below w.heap.size w w := Below.refl _ _
      have z0 : w.heap.size ≤ w.heap.size := Nat.le_refl _
      go_wp2_with fail
      refine (HSO.out _ (w.heap.size + 1 + 1) (by simp [go_sem]) (by simp [go_sem]) (by simp [go_sem]) (by simp [go_sem]) (by simp [go_sem])).mono ?_
      rintro _ w1 ⟨rfl, r1⟩
      have s1 : Below w.heap.size w w1 := Below.trans (by go_grown) (r1.mono (by simp; try omega))
      have b1 := b0.trans (s1.mono z0)
      have z1 := b1.size
      have y1 := s1.size
      have c0_0_1 := below_cell r1 (p := ⟨w.heap.size, 0, none⟩) (v := zv) (by simp [go_sem])
      have c0_1_1 := below_cell r1 (p := ⟨w.heap.size, 1, none⟩) (v := wv) (by simp [go_sem])
      have c0_2_1 := below_cell r1 (p := ⟨w.heap.size, 2, none⟩) (v := bv) (by simp [go_sem])
      have c1_0_1 := below_cell r1 (p := ⟨w.heap.size + 1, 0, none⟩) (v := .string nm) (by simp [go_sem])
      have c1_1_1 := below_cell r1 (p := ⟨w.heap.size + 1, 1, none⟩) (v := sv) (by simp [go_sem])
      have c2_0_1 := below_cell r1 (p := ⟨w.heap.size + 1 + 1, 0, none⟩) (v := .int .i64 a) (by simp [go_sem])
      have c2_1_1 := below_cell r1 (p := ⟨w.heap.size + 1 + 1, 1, none⟩) (v := .int .i64 b) (by simp [go_sem])
      have c2_2_1 := below_cell r1 (p := ⟨w.heap.size + 1 + 1, 2, none⟩) (v := .int .i64 c) (by simp [go_sem])
      have c2_3_1 := below_cell r1 (p := ⟨w.heap.size + 1 + 1, 3, none⟩) (v := .int .i64 d) (by simp [go_sem])
      have c2_4_1 := below_cell r1 (p := ⟨w.heap.size + 1 + 1, 4, none⟩) (v := .int .i64 f) (by simp [go_sem])
      have c3_0_1 := below_cell r1 (p := ⟨w.heap.size + 1 + 1 + 1, 0, none⟩) (v := .slice none 0 0) (by simp [go_sem])
      have c3_1_1 := below_cell r1 (p := ⟨w.heap.size + 1 + 1 + 1, 1, none⟩) (v := .slice none 0 0) (by simp [go_sem])
      have c3_2_1 := below_cell r1 (p := ⟨w.heap.size + 1 + 1 + 1, 2, none⟩) (v := .slice none 0 0) (by simp [go_sem])
      have f3_1 : ∀ j, w1.frozen? ⟨w.heap.size + 1 + 1 + 1, j, none⟩ = false := fun j => (r1.frozen (p := ⟨w.heap.size + 1 + 1 + 1, j, none⟩) (by simp [go_sem])).trans (by simp [go_sem])
      clear r1
      go_wp2_with fail
      refine (HASK.out _ w.heap.size (w.heap.size + 1) c0_0_1 c0_1_1 c0_2_1 c1_0_1 c1_1_1 b1).mono ?_
      rintro _ w2 ⟨rfl, r2⟩
      have s2 := r2
      have b2 := b1.trans (s2.mono z1)
      have z2 := b2.size
      have y2 := s2.size
      have c0_0_2 := below_cell s2 c0_0_1; clear c0_0_1
      have c0_1_2 := below_cell s2 c0_1_1; clear c0_1_1
      have c0_2_2 := below_cell s2 c0_2_1; clear c0_2_1
      have c1_0_2 := below_cell s2 c1_0_1; clear c1_0_1
      have c1_1_2 := below_cell s2 c1_1_1; clear c1_1_1
      have c2_0_2 := below_cell s2 c2_0_1; clear c2_0_1
      have c2_1_2 := below_cell s2 c2_1_1; clear c2_1_1
      have c2_2_2 := below_cell s2 c2_2_1; clear c2_2_1
      have c2_3_2 := below_cell s2 c2_3_1; clear c2_3_1
      have c2_4_2 := below_cell s2 c2_4_1; clear c2_4_1
      have k3_2 := c3_0_1
      have c3_0_2 := below_cell s2 c3_0_1; clear c3_0_1
      have c3_1_2 := below_cell s2 c3_1_1; clear c3_1_1
      have c3_2_2 := below_cell s2 c3_2_1; clear c3_2_1
      have f3_2 : ∀ j, w2.frozen? ⟨w.heap.size + 1 + 1 + 1, j, none⟩ = false := fun j => (s2.frozen (p := ⟨w.heap.size + 1 + 1 + 1, j, none⟩) (show w.heap.size + 1 + 1 + 1 < _ from World.block_lt_of_cell? _ ⟨w.heap.size + 1 + 1 + 1, 0, none⟩ k3_2)).trans (f3_1 j); clear f3_1
      clear r2
      go_wp2
      refine bodyPost_ret (v := .tuple #[.agg #[.slice none 0 0, .slice none 0 0, .slice none 0 0], .int .i64 code]) (by simp [results, Try.results17, go_sem, c3_0_2, c3_1_2, c3_2_2]) rfl ?_
      exact RetM2.nil (below3 b2 (show w.heap.size ≤ w.heap.size + 1 + 1 + 1 by omega) _ _ _)
    · have t1 : modAsk zs ws bs nm ps = 0 := Classical.not_not.1 t1
      rw [t1] at hask
      obtain ⟨m1, m2, m3⟩ := modAsk_ok t1
      obtain ⟨hl1, hl2, hal, hht⟩ := profB_t m2
      have hfit := fun w' g g' g'' c0 c1 c2 d1 e0 e1 e2 e3 e4 (hx : Below w.heap.size w w') => l08Fit_c g g' g'' zv wv bv zs ws bs nm sv ps a b c d f w' c0 c1 c2 d1 e0 e1 e2 e3 e4 (hz.later hx) (hw.later hx) (hb.later hx) (hr.later hx) m1 hl1 hl2 hal m3 (soundB_bd t0)
      have hnil : (fitI zs ws bs ps [a, b, c, d, f]).2 = false → (fitI zs ws bs ps [a, b, c, d, f]).1 = ([], [], []) := fun h => by
        unfold fitI at h ⊢
        split
        · rename_i h1; rw [if_pos h1] at h; cases h
        · rfl
      cases t2 : (fitI zs ws bs ps [a, b, c, d, f]).2
      · have he : fitM zs ws bs nm ps a b c d f = (([], [], []), 6) := by simp [fitM, t0, t1, t2]
        rw [he]
        rw [hnil t2, t2] at hfit
        have HSO := Lib.hid hso; clear hso
        have HASK := Lib.hid hask; clear hask
        have HFIT := Lib.hid hfit; clear hfit
        clear he hz hw hb hr t0 t1 t2 m1 m2 m3 hal hht hnil
        go_enter Try.func17, Try.ntmps17
        have b0 : Below w.heap.size w w := Below.refl _ _
        have z0 : w.heap.size ≤ w.heap.size := Nat.le_refl _
        go_wp2_with fail
        refine (HSO.out _ (w.heap.size + 1 + 1) (by simp [go_sem]) (by simp [go_sem]) (by simp [go_sem]) (by simp [go_sem]) (by simp [go_sem])).mono ?_
        rintro _ w1 ⟨rfl, r1⟩
        have s1 : Below w.heap.size w w1 := Below.trans (by go_grown) (r1.mono (by simp; try omega))
        have b1 := b0.trans (s1.mono z0)
        have z1 := b1.size
        have y1 := s1.size
        have c0_0_1 := below_cell r1 (p := ⟨w.heap.size, 0, none⟩) (v := zv) (by simp [go_sem])
        have c0_1_1 := below_cell r1 (p := ⟨w.heap.size, 1, none⟩) (v := wv) (by simp [go_sem])
        have c0_2_1 := below_cell r1 (p := ⟨w.heap.size, 2, none⟩) (v := bv) (by simp [go_sem])
        have c1_0_1 := below_cell r1 (p := ⟨w.heap.size + 1, 0, none⟩) (v := .string nm) (by simp [go_sem])
        have c1_1_1 := below_cell r1 (p := ⟨w.heap.size + 1, 1, none⟩) (v := sv) (by simp [go_sem])
        have c2_0_1 := below_cell r1 (p := ⟨w.heap.size + 1 + 1, 0, none⟩) (v := .int .i64 a) (by simp [go_sem])
        have c2_1_1 := below_cell r1 (p := ⟨w.heap.size + 1 + 1, 1, none⟩) (v := .int .i64 b) (by simp [go_sem])
        have c2_2_1 := below_cell r1 (p := ⟨w.heap.size + 1 + 1, 2, none⟩) (v := .int .i64 c) (by simp [go_sem])
        have c2_3_1 := below_cell r1 (p := ⟨w.heap.size + 1 + 1, 3, none⟩) (v := .int .i64 d) (by simp [go_sem])
        have c2_4_1 := below_cell r1 (p := ⟨w.heap.size + 1 + 1, 4, none⟩) (v := .int .i64 f) (by simp [go_sem])
        have c3_0_1 := below_cell r1 (p := ⟨w.heap.size + 1 + 1 + 1, 0, none⟩) (v := .slice none 0 0) (by simp [go_sem])
        have c3_1_1 := below_cell r1 (p := ⟨w.heap.size + 1 + 1 + 1, 1, none⟩) (v := .slice none 0 0) (by simp [go_sem])
        have c3_2_1 := below_cell r1 (p := ⟨w.heap.size + 1 + 1 + 1, 2, none⟩) (v := .slice none 0 0) (by simp [go_sem])
        have f3_1 : ∀ j, w1.frozen? ⟨w.heap.size + 1 + 1 + 1, j, none⟩ = false := fun j => (r1.frozen (p := ⟨w.heap.size + 1 + 1 + 1, j, none⟩) (by simp [go_sem])).trans (by simp [go_sem])
        clear r1
        go_wp2_with fail
        refine (HASK.out _ w.heap.size (w.heap.size + 1) c0_0_1 c0_1_1 c0_2_1 c1_0_1 c1_1_1 b1).mono ?_
        rintro _ w2 ⟨rfl, r2⟩
        have s2 := r2
        have b2 := b1.trans (s2.mono z1)
        have z2 := b2.size
        have y2 := s2.size
        have c0_0_2 := below_cell s2 c0_0_1; clear c0_0_1
        have c0_1_2 := below_cell s2 c0_1_1; clear c0_1_1
        have c0_2_2 := below_cell s2 c0_2_1; clear c0_2_1
        have c1_0_2 := below_cell s2 c1_0_1; clear c1_0_1
        have c1_1_2 := below_cell s2 c1_1_1; clear c1_1_1
        have c2_0_2 := below_cell s2 c2_0_1; clear c2_0_1
        have c2_1_2 := below_cell s2 c2_1_1; clear c2_1_1
        have c2_2_2 := below_cell s2 c2_2_1; clear c2_2_1
        have c2_3_2 := below_cell s2 c2_3_1; clear c2_3_1
        have c2_4_2 := below_cell s2 c2_4_1; clear c2_4_1
        have k3_2 := c3_0_1
        have c3_0_2 := below_cell s2 c3_0_1; clear c3_0_1
        have c3_1_2 := below_cell s2 c3_1_1; clear c3_1_1
        have c3_2_2 := below_cell s2 c3_2_1; clear c3_2_1
        have f3_2 : ∀ j, w2.frozen? ⟨w.heap.size + 1 + 1 + 1, j, none⟩ = false := fun j => (s2.frozen (p := ⟨w.heap.size + 1 + 1 + 1, j, none⟩) (show w.heap.size + 1 + 1 + 1 < _ from World.block_lt_of_cell? _ ⟨w.heap.size + 1 + 1 + 1, 0, none⟩ k3_2)).trans (f3_1 j); clear f3_1
        clear r2
        go_wp2_with fail
        refine (HFIT.out _ w.heap.size (w.heap.size + 1) (w.heap.size + 1 + 1) c0_0_2 c0_1_2 c0_2_2 c1_1_2 c2_0_2 c2_1_2 c2_2_2 c2_3_2 c2_4_2 b2).mono ?_
        rintro _ w3 ⟨zv3, wv3, bv3, us, rfl, om, r3⟩
        obtain ⟨az, cz, rfl⟩ := own_shape om.z
        obtain ⟨aw, cw, rfl⟩ := own_shape om.s.row
        obtain ⟨ab, cb, rfl⟩ := own_shape om.b
        clear om
        have s3 := r3
        have b3 := b2.trans (s3.mono z2)
        have z3 := b3.size
        have y3 := s3.size
        have c0_0_3 := below_cell s3 c0_0_2; clear c0_0_2
        have c0_1_3 := below_cell s3 c0_1_2; clear c0_1_2
        have c0_2_3 := below_cell s3 c0_2_2; clear c0_2_2
        have c1_0_3 := below_cell s3 c1_0_2; clear c1_0_2
        have c1_1_3 := below_cell s3 c1_1_2; clear c1_1_2
        have c2_0_3 := below_cell s3 c2_0_2; clear c2_0_2
        have c2_1_3 := below_cell s3 c2_1_2; clear c2_1_2
        have c2_2_3 := below_cell s3 c2_2_2; clear c2_2_2
        have c2_3_3 := below_cell s3 c2_3_2; clear c2_3_2
        have c2_4_3 := below_cell s3 c2_4_2; clear c2_4_2
        have k3_3 := c3_0_2
        have c3_0_3 := below_cell s3 c3_0_2; clear c3_0_2
        have c3_1_3 := below_cell s3 c3_1_2; clear c3_1_2
        have c3_2_3 := below_cell s3 c3_2_2; clear c3_2_2
        have f3_3 : ∀ j, w3.frozen? ⟨w.heap.size + 1 + 1 + 1, j, none⟩ = false := fun j => (s3.frozen (p := ⟨w.heap.size + 1 + 1 + 1, j, none⟩) (show w.heap.size + 1 + 1 + 1 < _ from World.block_lt_of_cell? _ ⟨w.heap.size + 1 + 1 + 1, 0, none⟩ k3_3)).trans (f3_2 j); clear f3_2
        have ac0_0 := fun o => alloc_cell o c0_0_3
        have ac0_1 := fun o => alloc_cell o c0_1_3
        have ac0_2 := fun o => alloc_cell o c0_2_3
        have ac1_0 := fun o => alloc_cell o c1_0_3
        have ac1_1 := fun o => alloc_cell o c1_1_3
        have ac2_0 := fun o => alloc_cell o c2_0_3
        have ac2_1 := fun o => alloc_cell o c2_1_3
        have ac2_2 := fun o => alloc_cell o c2_2_3
        have ac2_3 := fun o => alloc_cell o c2_3_3
        have ac2_4 := fun o => alloc_cell o c2_4_3
        have ac3_0 := fun o => alloc_cell o c3_0_3
        have ac3_1 := fun o => alloc_cell o c3_1_3
        have ac3_2 := fun o => alloc_cell o c3_2_3
        have af3 : ∀ o j, (w3.alloc o).frozen? ⟨w.heap.size + 1 + 1 + 1, j, none⟩ = false := fun o j => (alloc_frozen o (show w.heap.size + 1 + 1 + 1 < _ from World.block_lt_of_cell? _ ⟨w.heap.size + 1 + 1 + 1, 0, none⟩ c3_0_3)).trans (f3_3 j)
        go_wp2
        refine bodyPost_ret (v := .tuple #[.agg #[.slice none 0 0, .slice none 0 0, .slice none 0 0], .int .i64 6]) (by simp [results, Try.results17, go_sem, cell_setCell, ac3_0, ac3_1, ac3_2]) rfl ?_
        exact RetM2.nil (below3 (b3.alloc z3 _) (show w.heap.size ≤ w.heap.size + 1 + 1 + 1 by omega) _ _ _)
      · have he : fitM zs ws bs nm ps a b c d f = ((fitI zs ws bs ps [a, b, c, d, f]).1, 0) := by simp [fitM, t0, t1, t2]
        rw [he]
        rw [t2] at hfit
        generalize (fitI zs ws bs ps [a, b, c, d, f]).1 = RES at *
        have HSO := Lib.hid hso; clear hso
        have HASK := Lib.hid hask; clear hask
        have HFIT := Lib.hid hfit; clear hfit
        clear he hz hw hb hr t0 t1 t2 m1 m2 m3 hal hht hnil
        go_enter Try.func17, Try.ntmps17
        have b0 : Below w.heap.size w w := Below.refl _ _
        have z0 : w.heap.size ≤ w.heap.size := Nat.le_refl _
        go_wp2_with fail
        refine (HSO.out _ (w.heap.size + 1 + 1) (by simp [go_sem]) (by simp [go_sem]) (by simp [go_sem]) (by simp [go_sem]) (by simp [go_sem])).mono ?_
        rintro _ w1 ⟨rfl, r1⟩
        have s1 : Below w.heap.size w w1 := Below.trans (by go_grown) (r1.mono (by simp; try omega))
        have b1 := b0.trans (s1.mono z0)
        have z1 := b1.size
        have y1 := s1.size
        have c0_0_1 := below_cell r1 (p := ⟨w.heap.size, 0, none⟩) (v := zv) (by simp [go_sem])
        have c0_1_1 := below_cell r1 (p := ⟨w.heap.size, 1, none⟩) (v := wv) (by simp [go_sem])
        have c0_2_1 := below_cell r1 (p := ⟨w.heap.size, 2, none⟩) (v := bv) (by simp [go_sem])
        have c1_0_1 := below_cell r1 (p := ⟨w.heap.size + 1, 0, none⟩) (v := .string nm) (by simp [go_sem])
        have c1_1_1 := below_cell r1 (p := ⟨w.heap.size + 1, 1, none⟩) (v := sv) (by simp [go_sem])
        have c2_0_1 := below_cell r1 (p := ⟨w.heap.size + 1 + 1, 0, none⟩) (v := .int .i64 a) (by simp [go_sem])
        have c2_1_1 := below_cell r1 (p := ⟨w.heap.size + 1 + 1, 1, none⟩) (v := .int .i64 b) (by simp [go_sem])
        have c2_2_1 := below_cell r1 (p := ⟨w.heap.size + 1 + 1, 2, none⟩) (v := .int .i64 c) (by simp [go_sem])
        have c2_3_1 := below_cell r1 (p := ⟨w.heap.size + 1 + 1, 3, none⟩) (v := .int .i64 d) (by simp [go_sem])
        have c2_4_1 := below_cell r1 (p := ⟨w.heap.size + 1 + 1, 4, none⟩) (v := .int .i64 f) (by simp [go_sem])
        have c3_0_1 := below_cell r1 (p := ⟨w.heap.size + 1 + 1 + 1, 0, none⟩) (v := .slice none 0 0) (by simp [go_sem])
        have c3_1_1 := below_cell r1 (p := ⟨w.heap.size + 1 + 1 + 1, 1, none⟩) (v := .slice none 0 0) (by simp [go_sem])
        have c3_2_1 := below_cell r1 (p := ⟨w.heap.size + 1 + 1 + 1, 2, none⟩) (v := .slice none 0 0) (by simp [go_sem])
        have f3_1 : ∀ j, w1.frozen? ⟨w.heap.size + 1 + 1 + 1, j, none⟩ = false := fun j => (r1.frozen (p := ⟨w.heap.size + 1 + 1 + 1, j, none⟩) (by simp [go_sem])).trans (by simp [go_sem])
        clear r1
        go_wp2_with fail
        refine (HASK.out _ w.heap.size (w.heap.size + 1) c0_0_1 c0_1_1 c0_2_1 c1_0_1 c1_1_1 b1).mono ?_
        rintro _ w2 ⟨rfl, r2⟩
        have s2 := r2
        have b2 := b1.trans (s2.mono z1)
        have z2 := b2.size
        have y2 := s2.size
        have c0_0_2 := below_cell s2 c0_0_1; clear c0_0_1
        have c0_1_2 := below_cell s2 c0_1_1; clear c0_1_1
        have c0_2_2 := below_cell s2 c0_2_1; clear c0_2_1
        have c1_0_2 := below_cell s2 c1_0_1; clear c1_0_1
        have c1_1_2 := below_cell s2 c1_1_1; clear c1_1_1
        have c2_0_2 := below_cell s2 c2_0_1; clear c2_0_1
        have c2_1_2 := below_cell s2 c2_1_1; clear c2_1_1
        have c2_2_2 := below_cell s2 c2_2_1; clear c2_2_1
        have c2_3_2 := below_cell s2 c2_3_1; clear c2_3_1
        have c2_4_2 := below_cell s2 c2_4_1; clear c2_4_1
        have k3_2 := c3_0_1
        have c3_0_2 := below_cell s2 c3_0_1; clear c3_0_1
        have c3_1_2 := below_cell s2 c3_1_1; clear c3_1_1
        have c3_2_2 := below_cell s2 c3_2_1; clear c3_2_1
        have f3_2 : ∀ j, w2.frozen? ⟨w.heap.size + 1 + 1 + 1, j, none⟩ = false := fun j => (s2.frozen (p := ⟨w.heap.size + 1 + 1 + 1, j, none⟩) (show w.heap.size + 1 + 1 + 1 < _ from World.block_lt_of_cell? _ ⟨w.heap.size + 1 + 1 + 1, 0, none⟩ k3_2)).trans (f3_1 j); clear f3_1
        clear r2
        go_wp2_with fail
        refine (HFIT.out _ w.heap.size (w.heap.size + 1) (w.heap.size + 1 + 1) c0_0_2 c0_1_2 c0_2_2 c1_1_2 c2_0_2 c2_1_2 c2_2_2 c2_3_2 c2_4_2 b2).mono ?_
        rintro _ w3 ⟨zv3, wv3, bv3, us, rfl, om, r3⟩
        obtain ⟨az, cz, rfl⟩ := own_shape om.z
        obtain ⟨aw, cw, rfl⟩ := own_shape om.s.row
        obtain ⟨ab, cb, rfl⟩ := own_shape om.b
        have OM := Lib.hid om; clear om
        have zr := World.block_lt_of_cell? _ ⟨w.heap.size + 1 + 1 + 1, 0, none⟩ c3_0_2
        simp only at zr
        have s3 := r3
        have b3 := b2.trans (s3.mono z2)
        have z3 := b3.size
        have y3 := s3.size
        have c0_0_3 := below_cell s3 c0_0_2; clear c0_0_2
        have c0_1_3 := below_cell s3 c0_1_2; clear c0_1_2
        have c0_2_3 := below_cell s3 c0_2_2; clear c0_2_2
        have c1_0_3 := below_cell s3 c1_0_2; clear c1_0_2
        have c1_1_3 := below_cell s3 c1_1_2; clear c1_1_2
        have c2_0_3 := below_cell s3 c2_0_2; clear c2_0_2
        have c2_1_3 := below_cell s3 c2_1_2; clear c2_1_2
        have c2_2_3 := below_cell s3 c2_2_2; clear c2_2_2
        have c2_3_3 := below_cell s3 c2_3_2; clear c2_3_2
        have c2_4_3 := below_cell s3 c2_4_2; clear c2_4_2
        have k3_3 := c3_0_2
        have c3_0_3 := below_cell s3 c3_0_2; clear c3_0_2
        have c3_1_3 := below_cell s3 c3_1_2; clear c3_1_2
        have c3_2_3 := below_cell s3 c3_2_2; clear c3_2_2
        have f3_3 : ∀ j, w3.frozen? ⟨w.heap.size + 1 + 1 + 1, j, none⟩ = false := fun j => (s3.frozen (p := ⟨w.heap.size + 1 + 1 + 1, j, none⟩) (show w.heap.size + 1 + 1 + 1 < _ from World.block_lt_of_cell? _ ⟨w.heap.size + 1 + 1 + 1, 0, none⟩ k3_3)).trans (f3_2 j); clear f3_2
        have ac0_0 := fun o => alloc_cell o c0_0_3
        have ac0_1 := fun o => alloc_cell o c0_1_3
        have ac0_2 := fun o => alloc_cell o c0_2_3
        have ac1_0 := fun o => alloc_cell o c1_0_3
        have ac1_1 := fun o => alloc_cell o c1_1_3
        have ac2_0 := fun o => alloc_cell o c2_0_3
        have ac2_1 := fun o => alloc_cell o c2_1_3
        have ac2_2 := fun o => alloc_cell o c2_2_3
        have ac2_3 := fun o => alloc_cell o c2_3_3
        have ac2_4 := fun o => alloc_cell o c2_4_3
        have ac3_0 := fun o => alloc_cell o c3_0_3
        have ac3_1 := fun o => alloc_cell o c3_1_3
        have ac3_2 := fun o => alloc_cell o c3_2_3
        have af3 : ∀ o j, (w3.alloc o).frozen? ⟨w.heap.size + 1 + 1 + 1, j, none⟩ = false := fun o j => (alloc_frozen o (show w.heap.size + 1 + 1 + 1 < _ from World.block_lt_of_cell? _ ⟨w.heap.size + 1 + 1 + 1, 0, none⟩ c3_0_3)).trans (f3_3 j)
        go_wp2
        refine bodyPost_ret (v := .tuple #[.agg #[.slice az RES.1.length cz, .slice aw RES.2.1.length cw, .slice ab RES.2.2.length cb], .int .i64 0]) (by simp [results, Try.results17, go_sem, cell_setCell, ac3_0, ac3_1, ac3_2]) rfl ?_
        have ka := fun o => OM.out.later ((Below.refl w3.heap.size w3).alloc (Nat.le_refl _) o)
        exact ⟨_, _, _, us, rfl, ((ka _).set33 (show w.heap.size + 1 + 1 + 1 < w2.heap.size by omega) _ _ _).wide (lo' := w.heap.size) (by omega) (by simp), below3 (b3.alloc z3 _) (show w.heap.size ≤ w.heap.size + 1 + 1 + 1 by omega) _ _ _⟩

end Go.Proofs.Ytmeeibcbhjifbaa
