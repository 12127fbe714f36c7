/- Several texts of the proofs in one: Pln5, Pln6, Pln7, Pln8. -/
import Derived.Test.YtmeeibcbhjifbaaGreatSens
import Derived.Test.YtmeeibcbhjifbaaGreatVI
/- The deviations after cuts: the program. -/
namespace Go.Proofs.YtmeeibcbhjifbaaGreat
set_option linter.unusedVariables false
open Go.RowKit Go.Proofs.Bell Go.BigFrame

theorem dev_f1 {zs : List Int} {ws : List (List Int)} {bs : List Int} {nm : ByteArray} {ps : List (Int × Int × Int)} {a b c d f t m : Int} {cs : List (Int × Int)} (h : cutsB cs = false) : devI zs ws bs nm ps a b c d f t m cs = ([], 1) := by simp [devI, h]
theorem dev_f2 {zs : List Int} {ws : List (List Int)} {bs : List Int} {nm : ByteArray} {ps : List (Int × Int × Int)} {a b c d f t m : Int} {cs : List (Int × Int)} (h : cutsB cs = true) (h2 : ¬ goalAsk zs ws bs nm ps a b c d f t m = 0) : devI zs ws bs nm ps a b c d f t m cs = ([], goalAsk zs ws bs nm ps a b c d f t m) := by simp [devI, h, h2]
theorem dev_f3 {zs : List Int} {ws : List (List Int)} {bs : List Int} {nm : ByteArray} {ps : List (Int × Int × Int)} {a b c d f t m : Int} {cs : List (Int × Int)} (h : cutsB cs = true) (h2 : goalAsk zs ws bs nm ps a b c d f t m = 0) (h3 : ¬ (applyI nm ps zs cs).2.2 = 0) : devI zs ws bs nm ps a b c d f t m cs = ([], (applyI nm ps zs cs).2.2) := by simp [devI, h, h2, h3]
theorem dev_ok {zs : List Int} {ws : List (List Int)} {bs : List Int} {nm : ByteArray} {ps : List (Int × Int × Int)} {a b c d f t m : Int} {cs : List (Int × Int)} (h : cutsB cs = true) (h2 : goalAsk zs ws bs nm ps a b c d f t m = 0) (h3 : (applyI nm ps zs cs).2.2 = 0) :
    devI zs ws bs nm ps a b c d f t m cs = (devR [a, b, c, d, f] (rawL (applyI nm ps zs cs).2.1 zs ws bs), if sndOk (rawL (applyI nm ps zs cs).2.1 zs ws bs) then 0 else 6) := by
  simp only [devI, h, h2, h3, if_true, devR]
  split <;> rfl
/-- the profile behind the cuts -/
theorem dev_after {zs : List Int} {ws : List (List Int)} {bs : List Int} {nm : ByteArray} {ps : List (Int × Int × Int)} {cs : List (Int × Int)} (hma : modAsk zs ws bs nm ps = 0) (h3 : (applyI nm ps zs cs).2.2 = 0) :
    ∃ qs, applyI nm ps zs cs = (nm, qs, 0) ∧ modAsk zs ws bs nm qs = 0 := by
  obtain ⟨m1, m2, m3⟩ := modAsk_ok hma
  obtain ⟨hp2, hq2⟩ := applyI_zones h3
  obtain ⟨_, hql, hqa⟩ := applyI_ok h3
  refine ⟨(applyI nm ps zs cs).2.1, ?_, ?_⟩
  · generalize applyI nm ps zs cs = R at *
    obtain ⟨r1, r2, r3⟩ := R
    dsimp only at h3 hq2
    subst h3 hq2
    rfl
  · have hv : vzB nm (applyI nm ps zs cs).2.1 zs = true := by simp [vzB, hp2, hql, m3]
    simp [modAsk, m1, hp2, hv]

set_option maxRecDepth 100000 in
set_option maxHeartbeats 6400000 in
theorem implDeviationsAfter_c (zv wv bv : Value) (zs : List Int) (ws : List (List Int)) (bs : List Int) (nm : ByteArray) (sv : Value) (ps : List (Int × Int × Int)) (a b c d f t m : Int) (cv : Value) (cs : List (Int × Int)) (w : World) (hz : Rd w zv zs.length (ints zs)) (hw : RdSS w wv ws) (hb : Rd w bv bs.length (ints bs)) (hnm : nm.size ≤ maxLen) (hr : Rd w sv ps.length (trips ps)) (hcv : Rd w cv cs.length (pairs cs)) :
    Calls Tryz.prog 27 #[.agg #[zv, wv, bv], .agg #[.string nm, sv], .agg #[.int .i64 a, .int .i64 b, .int .i64 c, .int .i64 d, .int .i64 f, .int .i64 t, .int .i64 m], cv] w
      (RetI2 (devI zs ws bs nm ps a b c d f t m cs).1 (.int .i64 (devI zs ws bs nm ps a b c d f t m cs).2) w) := by
  have hcu := fun w' (hx : Below w.heap.size w w') => ValidCuts_c cv cs w' (hcv.later hx)
  have hai := fun w' (hx : Below w.heap.size w w') => aimed_c zv wv bv zs ws bs nm sv ps a b c d f t m w' (hz.later hx) (hw.later hx) (hb.later hx) hnm (hr.later hx)
  cases t1 : cutsB cs <;> rw [t1] at hcu
  · rw [dev_f1 t1]
    have HCU := Lib.hid hcu; clear hcu
    clear hz hw hb hr hcv hai
    go_enter Tryz.func27, Tryz.ntmps27
    have b0 : Below w.heap.size w w := Below.refl _ _
    have z0 : w.heap.size ≤ w.heap.size := Nat.le_refl _
    go_wp2_with fail
    refine (HCU.out _ (by go_grown)).mono ?_
    rintro _ w1 ⟨rfl, r1⟩
    have s1 : Below w.heap.size w w1 := Below.trans (by go_grown) (r1.mono (by simp; try omega))
    have b1 := b0.trans (s1.mono z0)
    have z1 := b1.size
    have y1 := s1.size
    have c0_0_1 := below_cell r1 (p := ⟨w.heap.size, 0, none⟩) (v := zv) (by simp [go_sem])
    have c0_1_1 := below_cell r1 (p := ⟨w.heap.size, 1, none⟩) (v := wv) (by simp [go_sem])
    have c0_2_1 := below_cell r1 (p := ⟨w.heap.size, 2, none⟩) (v := bv) (by simp [go_sem])
    have c1_0_1 := below_cell r1 (p := ⟨w.heap.size + 1, 0, none⟩) (v := .string nm) (by simp [go_sem])
    have c1_1_1 := below_cell r1 (p := ⟨w.heap.size + 1, 1, none⟩) (v := sv) (by simp [go_sem])
    have c2_0_1 := below_cell r1 (p := ⟨w.heap.size + 1 + 1, 0, none⟩) (v := .int .i64 a) (by simp [go_sem])
    have c2_1_1 := below_cell r1 (p := ⟨w.heap.size + 1 + 1, 1, none⟩) (v := .int .i64 b) (by simp [go_sem])
    have c2_2_1 := below_cell r1 (p := ⟨w.heap.size + 1 + 1, 2, none⟩) (v := .int .i64 c) (by simp [go_sem])
    have c2_3_1 := below_cell r1 (p := ⟨w.heap.size + 1 + 1, 3, none⟩) (v := .int .i64 d) (by simp [go_sem])
    have c2_4_1 := below_cell r1 (p := ⟨w.heap.size + 1 + 1, 4, none⟩) (v := .int .i64 f) (by simp [go_sem])
    have c2_5_1 := below_cell r1 (p := ⟨w.heap.size + 1 + 1, 5, none⟩) (v := .int .i64 t) (by simp [go_sem])
    have c2_6_1 := below_cell r1 (p := ⟨w.heap.size + 1 + 1, 6, none⟩) (v := .int .i64 m) (by simp [go_sem])
    clear r1
    go_wp2
    go_returns
    exact ⟨_, rfl, World.ownsRow_nil _ _ _ _, b1⟩
  · have HCU := Lib.hid hcu; clear hcu
    by_cases t0 : ¬ goalAsk zs ws bs nm ps a b c d f t m = 0
    · rw [dev_f2 t1 t0]
      generalize goalAsk zs ws bs nm ps a b c d f t m = code at *
      have HAI := Lib.hid hai; clear hai
      clear hz hw hb hr hcv
      go_enter Tryz.func27, Tryz.ntmps27
      have b0 : Below w.heap.size w w := Below.refl _ _
      have z0 : w.heap.size ≤ w.heap.size := Nat.le_refl _
      go_wp2_with fail
      refine (HCU.out _ (by go_grown)).mono ?_
      rintro _ w1 ⟨rfl, r1⟩
      have s1 : Below w.heap.size w w1 := Below.trans (by go_grown) (r1.mono (by simp; try omega))
      have b1 := b0.trans (s1.mono z0)
      have z1 := b1.size
      have y1 := s1.size
      have c0_0_1 := below_cell r1 (p := ⟨w.heap.size, 0, none⟩) (v := zv) (by simp [go_sem])
      have c0_1_1 := below_cell r1 (p := ⟨w.heap.size, 1, none⟩) (v := wv) (by simp [go_sem])
      have c0_2_1 := below_cell r1 (p := ⟨w.heap.size, 2, none⟩) (v := bv) (by simp [go_sem])
      have c1_0_1 := below_cell r1 (p := ⟨w.heap.size + 1, 0, none⟩) (v := .string nm) (by simp [go_sem])
      have c1_1_1 := below_cell r1 (p := ⟨w.heap.size + 1, 1, none⟩) (v := sv) (by simp [go_sem])
      have c2_0_1 := below_cell r1 (p := ⟨w.heap.size + 1 + 1, 0, none⟩) (v := .int .i64 a) (by simp [go_sem])
      have c2_1_1 := below_cell r1 (p := ⟨w.heap.size + 1 + 1, 1, none⟩) (v := .int .i64 b) (by simp [go_sem])
      have c2_2_1 := below_cell r1 (p := ⟨w.heap.size + 1 + 1, 2, none⟩) (v := .int .i64 c) (by simp [go_sem])
      have c2_3_1 := below_cell r1 (p := ⟨w.heap.size + 1 + 1, 3, none⟩) (v := .int .i64 d) (by simp [go_sem])
      have c2_4_1 := below_cell r1 (p := ⟨w.heap.size + 1 + 1, 4, none⟩) (v := .int .i64 f) (by simp [go_sem])
      have c2_5_1 := below_cell r1 (p := ⟨w.heap.size + 1 + 1, 5, none⟩) (v := .int .i64 t) (by simp [go_sem])
      have c2_6_1 := below_cell r1 (p := ⟨w.heap.size + 1 + 1, 6, none⟩) (v := .int .i64 m) (by simp [go_sem])
      clear r1
      go_wp2_with fail
      refine (HAI.out _ b1).mono ?_
      rintro _ w2 ⟨rfl, r2⟩
      have s2 := r2
      have b2 := b1.trans (s2.mono z1)
      have z2 := b2.size
      have y2 := s2.size
      have c0_0_2 := below_cell s2 c0_0_1; clear c0_0_1
      have c0_1_2 := below_cell s2 c0_1_1; clear c0_1_1
      have c0_2_2 := below_cell s2 c0_2_1; clear c0_2_1
      have c1_0_2 := below_cell s2 c1_0_1; clear c1_0_1
      have c1_1_2 := below_cell s2 c1_1_1; clear c1_1_1
      have c2_0_2 := below_cell s2 c2_0_1; clear c2_0_1
      have c2_1_2 := below_cell s2 c2_1_1; clear c2_1_1
      have c2_2_2 := below_cell s2 c2_2_1; clear c2_2_1
      have c2_3_2 := below_cell s2 c2_3_1; clear c2_3_1
      have c2_4_2 := below_cell s2 c2_4_1; clear c2_4_1
      have c2_5_2 := below_cell s2 c2_5_1; clear c2_5_1
      have c2_6_2 := below_cell s2 c2_6_1; clear c2_6_1
      clear r2
      go_wp2
      go_returns
      exact ⟨_, rfl, World.ownsRow_nil _ _ _ _, b2⟩
    · have t0 : goalAsk zs ws bs nm ps a b c d f t m = 0 := Classical.not_not.1 t0
      rw [t0] at hai
      have HAI := Lib.hid hai; clear hai
      have hap := fun w' (hx : Below w.heap.size w w') => implApplyCuts_c nm sv ps zv zs cv cs w' hnm (hr.later hx) (hz.later hx) (hcv.later hx)
      obtain ⟨hgb, hma⟩ := goalAsk_ok t0
      obtain ⟨hsb, ht0, ht1, hm0⟩ := goalB_t hgb
      by_cases t2 : ¬ (applyI nm ps zs cs).2.2 = 0
      · rw [dev_f3 t1 t0 t2]
        generalize applyI nm ps zs cs = RES at *
        have HAP := Lib.hid hap; clear hap
        clear hz hw hb hr hcv hgb hma hsb
        go_enter Tryz.func27, Tryz.ntmps27
        have b0 : Below w.heap.size w w := Below.refl _ _
        have z0 : w.heap.size ≤ w.heap.size := Nat.le_refl _
        go_wp2_with fail
        refine (HCU.out _ (by go_grown)).mono ?_
        rintro _ w1 ⟨rfl, r1⟩
        have s1 : Below w.heap.size w w1 := Below.trans (by go_grown) (r1.mono (by simp; try omega))
        have b1 := b0.trans (s1.mono z0)
        have z1 := b1.size
        have y1 := s1.size
        have c0_0_1 := below_cell r1 (p := ⟨w.heap.size, 0, none⟩) (v := zv) (by simp [go_sem])
        have c0_1_1 := below_cell r1 (p := ⟨w.heap.size, 1, none⟩) (v := wv) (by simp [go_sem])
        have c0_2_1 := below_cell r1 (p := ⟨w.heap.size, 2, none⟩) (v := bv) (by simp [go_sem])
        have c1_0_1 := below_cell r1 (p := ⟨w.heap.size + 1, 0, none⟩) (v := .string nm) (by simp [go_sem])
        have c1_1_1 := below_cell r1 (p := ⟨w.heap.size + 1, 1, none⟩) (v := sv) (by simp [go_sem])
        have c2_0_1 := below_cell r1 (p := ⟨w.heap.size + 1 + 1, 0, none⟩) (v := .int .i64 a) (by simp [go_sem])
        have c2_1_1 := below_cell r1 (p := ⟨w.heap.size + 1 + 1, 1, none⟩) (v := .int .i64 b) (by simp [go_sem])
        have c2_2_1 := below_cell r1 (p := ⟨w.heap.size + 1 + 1, 2, none⟩) (v := .int .i64 c) (by simp [go_sem])
        have c2_3_1 := below_cell r1 (p := ⟨w.heap.size + 1 + 1, 3, none⟩) (v := .int .i64 d) (by simp [go_sem])
        have c2_4_1 := below_cell r1 (p := ⟨w.heap.size + 1 + 1, 4, none⟩) (v := .int .i64 f) (by simp [go_sem])
        have c2_5_1 := below_cell r1 (p := ⟨w.heap.size + 1 + 1, 5, none⟩) (v := .int .i64 t) (by simp [go_sem])
        have c2_6_1 := below_cell r1 (p := ⟨w.heap.size + 1 + 1, 6, none⟩) (v := .int .i64 m) (by simp [go_sem])
        clear r1
        go_wp2_with fail
        refine (HAI.out _ b1).mono ?_
        rintro _ w2 ⟨rfl, r2⟩
        have s2 := r2
        have b2 := b1.trans (s2.mono z1)
        have z2 := b2.size
        have y2 := s2.size
        have c0_0_2 := below_cell s2 c0_0_1; clear c0_0_1
        have c0_1_2 := below_cell s2 c0_1_1; clear c0_1_1
        have c0_2_2 := below_cell s2 c0_2_1; clear c0_2_1
        have c1_0_2 := below_cell s2 c1_0_1; clear c1_0_1
        have c1_1_2 := below_cell s2 c1_1_1; clear c1_1_1
        have c2_0_2 := below_cell s2 c2_0_1; clear c2_0_1
        have c2_1_2 := below_cell s2 c2_1_1; clear c2_1_1
        have c2_2_2 := below_cell s2 c2_2_1; clear c2_2_1
        have c2_3_2 := below_cell s2 c2_3_1; clear c2_3_1
        have c2_4_2 := below_cell s2 c2_4_1; clear c2_4_1
        have c2_5_2 := below_cell s2 c2_5_1; clear c2_5_1
        have c2_6_2 := below_cell s2 c2_6_1; clear c2_6_1
        clear r2
        go_wp2_with fail
        refine (HAP.out _ b2).mono ?_
        rintro _ w3 ⟨x3, rfl, n3, r3⟩
        have s3 := r3
        have b3 := b2.trans (s3.mono z2)
        have z3 := b3.size
        have y3 := s3.size
        have c0_0_3 := below_cell s3 c0_0_2; clear c0_0_2
        have c0_1_3 := below_cell s3 c0_1_2; clear c0_1_2
        have c0_2_3 := below_cell s3 c0_2_2; clear c0_2_2
        have c1_0_3 := below_cell s3 c1_0_2; clear c1_0_2
        have c1_1_3 := below_cell s3 c1_1_2; clear c1_1_2
        have c2_0_3 := below_cell s3 c2_0_2; clear c2_0_2
        have c2_1_3 := below_cell s3 c2_1_2; clear c2_1_2
        have c2_2_3 := below_cell s3 c2_2_2; clear c2_2_2
        have c2_3_3 := below_cell s3 c2_3_2; clear c2_3_2
        have c2_4_3 := below_cell s3 c2_4_2; clear c2_4_2
        have c2_5_3 := below_cell s3 c2_5_2; clear c2_5_2
        have c2_6_3 := below_cell s3 c2_6_2; clear c2_6_2
        clear r3
        obtain ⟨a4, p4, rfl⟩ := own_shape n3
        clear n3
        go_wp2
        go_returns
        exact ⟨_, rfl, World.ownsRow_nil _ _ _ _, (by go_grown)⟩
      · have t2 : (applyI nm ps zs cs).2.2 = 0 := Classical.not_not.1 t2
        rw [dev_ok t1 t0 t2]
        obtain ⟨qs, hq, hmq⟩ := dev_after hma t2
        rw [hq] at hap ⊢
        dsimp only at hap ⊢
        have hso := fun w' u (hx : Below w.heap.size w w') (hu : Rd w' u qs.length (trips qs)) => implSoundOf_c zv wv bv zs ws bs nm u qs w' (hz.later hx) (hw.later hx) (hb.later hx) hnm hu
        rw [show sndI zs ws bs nm qs = if sndOk (rawL qs zs ws bs) then (rawL qs zs ws bs, 0) else ([], 6) by simp [sndI, hmq]] at hso
        have hr5 := rawL_len qs zs ws bs
        have hls := sound_at hsb
        generalize rawL qs zs ws bs = r at *
        have HAP := Lib.hid hap; clear hap
        clear hz hw hb hr hcv hgb hma hsb hq hmq t2
        unfold devR
        cases t3 : sndOk r <;> rw [t3] at hso
        · simp only [Bool.false_eq_true, if_false] at hso ⊢
          rw [sndV_nil] at hso
          have HSO := Lib.hid hso; clear hso
          clear hr5 hls t3
          go_enter Tryz.func27, Tryz.ntmps27
          have b0 : Below w.heap.size w w := Below.refl _ _
          have z0 : w.heap.size ≤ w.heap.size := Nat.le_refl _
          go_wp2_with fail
          refine (HCU.out _ (by go_grown)).mono ?_
          rintro _ w1 ⟨rfl, r1⟩
          have s1 : Below w.heap.size w w1 := Below.trans (by go_grown) (r1.mono (by simp; try omega))
          have b1 := b0.trans (s1.mono z0)
          have z1 := b1.size
          have y1 := s1.size
          have c0_0_1 := below_cell r1 (p := ⟨w.heap.size, 0, none⟩) (v := zv) (by simp [go_sem])
          have c0_1_1 := below_cell r1 (p := ⟨w.heap.size, 1, none⟩) (v := wv) (by simp [go_sem])
          have c0_2_1 := below_cell r1 (p := ⟨w.heap.size, 2, none⟩) (v := bv) (by simp [go_sem])
          have c1_0_1 := below_cell r1 (p := ⟨w.heap.size + 1, 0, none⟩) (v := .string nm) (by simp [go_sem])
          have c1_1_1 := below_cell r1 (p := ⟨w.heap.size + 1, 1, none⟩) (v := sv) (by simp [go_sem])
          have c2_0_1 := below_cell r1 (p := ⟨w.heap.size + 1 + 1, 0, none⟩) (v := .int .i64 a) (by simp [go_sem])
          have c2_1_1 := below_cell r1 (p := ⟨w.heap.size + 1 + 1, 1, none⟩) (v := .int .i64 b) (by simp [go_sem])
          have c2_2_1 := below_cell r1 (p := ⟨w.heap.size + 1 + 1, 2, none⟩) (v := .int .i64 c) (by simp [go_sem])
          have c2_3_1 := below_cell r1 (p := ⟨w.heap.size + 1 + 1, 3, none⟩) (v := .int .i64 d) (by simp [go_sem])
          have c2_4_1 := below_cell r1 (p := ⟨w.heap.size + 1 + 1, 4, none⟩) (v := .int .i64 f) (by simp [go_sem])
          have c2_5_1 := below_cell r1 (p := ⟨w.heap.size + 1 + 1, 5, none⟩) (v := .int .i64 t) (by simp [go_sem])
          have c2_6_1 := below_cell r1 (p := ⟨w.heap.size + 1 + 1, 6, none⟩) (v := .int .i64 m) (by simp [go_sem])
          clear r1
          go_wp2_with fail
          refine (HAI.out _ b1).mono ?_
          rintro _ w2 ⟨rfl, r2⟩
          have s2 := r2
          have b2 := b1.trans (s2.mono z1)
          have z2 := b2.size
          have y2 := s2.size
          have c0_0_2 := below_cell s2 c0_0_1; clear c0_0_1
          have c0_1_2 := below_cell s2 c0_1_1; clear c0_1_1
          have c0_2_2 := below_cell s2 c0_2_1; clear c0_2_1
          have c1_0_2 := below_cell s2 c1_0_1; clear c1_0_1
          have c1_1_2 := below_cell s2 c1_1_1; clear c1_1_1
          have c2_0_2 := below_cell s2 c2_0_1; clear c2_0_1
          have c2_1_2 := below_cell s2 c2_1_1; clear c2_1_1
          have c2_2_2 := below_cell s2 c2_2_1; clear c2_2_1
          have c2_3_2 := below_cell s2 c2_3_1; clear c2_3_1
          have c2_4_2 := below_cell s2 c2_4_1; clear c2_4_1
          have c2_5_2 := below_cell s2 c2_5_1; clear c2_5_1
          have c2_6_2 := below_cell s2 c2_6_1; clear c2_6_1
          clear r2
          go_wp2_with fail
          refine (HAP.out _ b2).mono ?_
          rintro _ w3 ⟨x3, rfl, n3, r3⟩
          have s3 := r3
          have b3 := b2.trans (s3.mono z2)
          have z3 := b3.size
          have y3 := s3.size
          have c0_0_3 := below_cell s3 c0_0_2; clear c0_0_2
          have c0_1_3 := below_cell s3 c0_1_2; clear c0_1_2
          have c0_2_3 := below_cell s3 c0_2_2; clear c0_2_2
          have c1_0_3 := below_cell s3 c1_0_2; clear c1_0_2
          have c1_1_3 := below_cell s3 c1_1_2; clear c1_1_2
          have c2_0_3 := below_cell s3 c2_0_2; clear c2_0_2
          have c2_1_3 := below_cell s3 c2_1_2; clear c2_1_2
          have c2_2_3 := below_cell s3 c2_2_2; clear c2_2_2
          have c2_3_3 := below_cell s3 c2_3_2; clear c2_3_2
          have c2_4_3 := below_cell s3 c2_4_2; clear c2_4_2
          have c2_5_3 := below_cell s3 c2_5_2; clear c2_5_2
          have c2_6_3 := below_cell s3 c2_6_2; clear c2_6_2
          clear r3
          obtain ⟨a4, p4, rfl⟩ := own_shape n3
          have N3 := Lib.hid n3; clear n3
          have e0' := fun o => alloc_cell o c0_0_3
          have e1' := fun o => alloc_cell o c0_1_3
          have e2' := fun o => alloc_cell o c0_2_3
          go_wp2_with fail
          refine (HSO.out (w3.alloc (.cells #[.string nm, .slice a4 qs.length p4] 42)) _ (by go_grown) ((Rd.of_own N3.out).later (by go_grown))).mono ?_
          rintro _ w4 ⟨rfl, r4⟩
          have s4 : Below w3.heap.size w3 w4 := Below.trans (by go_grown) (r4.mono (by simp; try omega))
          have b4 := b3.trans (s4.mono z3)
          have z4 := b4.size
          have y4 := s4.size
          have c0_0_4 := below_cell s4 c0_0_3; clear c0_0_3
          have c0_1_4 := below_cell s4 c0_1_3; clear c0_1_3
          have c0_2_4 := below_cell s4 c0_2_3; clear c0_2_3
          have c1_0_4 := below_cell s4 c1_0_3; clear c1_0_3
          have c1_1_4 := below_cell s4 c1_1_3; clear c1_1_3
          have c2_0_4 := below_cell s4 c2_0_3; clear c2_0_3
          have c2_1_4 := below_cell s4 c2_1_3; clear c2_1_3
          have c2_2_4 := below_cell s4 c2_2_3; clear c2_2_3
          have c2_3_4 := below_cell s4 c2_3_3; clear c2_3_3
          have c2_4_4 := below_cell s4 c2_4_3; clear c2_4_3
          have c2_5_4 := below_cell s4 c2_5_3; clear c2_5_3
          have c2_6_4 := below_cell s4 c2_6_3; clear c2_6_3
          have c3_0_4 := below_cell r4 (p := ⟨w3.heap.size, 0, none⟩) (v := .string nm) (by simp [go_sem])
          have c3_1_4 := below_cell r4 (p := ⟨w3.heap.size, 1, none⟩) (v := .slice a4 qs.length p4) (by simp [go_sem])
          have o0_4 := own_later N3.out s4; have O0_4 := Lib.hid o0_4; clear o0_4
          clear r4
          go_wp2
          go_returns
          exact ⟨_, rfl, World.ownsRow_nil _ _ _ _, (by go_grown)⟩
        · simp only [if_true] at hso ⊢
          have hra := snd_at hr5 t3
          have hpa := fun w' => apart_c a b c d f r w' hls hr5 hra
          unfold sndV at hso hpa
          have HSO := Lib.hid hso; clear hso
          have HPA := Lib.hid hpa; clear hpa
          clear hls t3 hra
          generalize devK [a, b, c, d, f] r 5 = OUT at *
          generalize r.getD 0 0 = aa0 at *
          generalize r.getD 1 0 = aa1 at *
          generalize r.getD 2 0 = aa2 at *
          generalize r.getD 3 0 = aa3 at *
          generalize r.getD 4 0 = aa4 at *
          clear hr5
          go_enter Tryz.func27, Tryz.ntmps27
          have b0 : Below w.heap.size w w := Below.refl _ _
          have z0 : w.heap.size ≤ w.heap.size := Nat.le_refl _
          go_wp2_with fail
          refine (HCU.out _ (by go_grown)).mono ?_
          rintro _ w1 ⟨rfl, r1⟩
          have s1 : Below w.heap.size w w1 := Below.trans (by go_grown) (r1.mono (by simp; try omega))
          have b1 := b0.trans (s1.mono z0)
          have z1 := b1.size
          have y1 := s1.size
          have c0_0_1 := below_cell r1 (p := ⟨w.heap.size, 0, none⟩) (v := zv) (by simp [go_sem])
          have c0_1_1 := below_cell r1 (p := ⟨w.heap.size, 1, none⟩) (v := wv) (by simp [go_sem])
          have c0_2_1 := below_cell r1 (p := ⟨w.heap.size, 2, none⟩) (v := bv) (by simp [go_sem])
          have c1_0_1 := below_cell r1 (p := ⟨w.heap.size + 1, 0, none⟩) (v := .string nm) (by simp [go_sem])
          have c1_1_1 := below_cell r1 (p := ⟨w.heap.size + 1, 1, none⟩) (v := sv) (by simp [go_sem])
          have c2_0_1 := below_cell r1 (p := ⟨w.heap.size + 1 + 1, 0, none⟩) (v := .int .i64 a) (by simp [go_sem])
          have c2_1_1 := below_cell r1 (p := ⟨w.heap.size + 1 + 1, 1, none⟩) (v := .int .i64 b) (by simp [go_sem])
          have c2_2_1 := below_cell r1 (p := ⟨w.heap.size + 1 + 1, 2, none⟩) (v := .int .i64 c) (by simp [go_sem])
          have c2_3_1 := below_cell r1 (p := ⟨w.heap.size + 1 + 1, 3, none⟩) (v := .int .i64 d) (by simp [go_sem])
          have c2_4_1 := below_cell r1 (p := ⟨w.heap.size + 1 + 1, 4, none⟩) (v := .int .i64 f) (by simp [go_sem])
          have c2_5_1 := below_cell r1 (p := ⟨w.heap.size + 1 + 1, 5, none⟩) (v := .int .i64 t) (by simp [go_sem])
          have c2_6_1 := below_cell r1 (p := ⟨w.heap.size + 1 + 1, 6, none⟩) (v := .int .i64 m) (by simp [go_sem])
          clear r1
          go_wp2_with fail
          refine (HAI.out _ b1).mono ?_
          rintro _ w2 ⟨rfl, r2⟩
          have s2 := r2
          have b2 := b1.trans (s2.mono z1)
          have z2 := b2.size
          have y2 := s2.size
          have c0_0_2 := below_cell s2 c0_0_1; clear c0_0_1
          have c0_1_2 := below_cell s2 c0_1_1; clear c0_1_1
          have c0_2_2 := below_cell s2 c0_2_1; clear c0_2_1
          have c1_0_2 := below_cell s2 c1_0_1; clear c1_0_1
          have c1_1_2 := below_cell s2 c1_1_1; clear c1_1_1
          have c2_0_2 := below_cell s2 c2_0_1; clear c2_0_1
          have c2_1_2 := below_cell s2 c2_1_1; clear c2_1_1
          have c2_2_2 := below_cell s2 c2_2_1; clear c2_2_1
          have c2_3_2 := below_cell s2 c2_3_1; clear c2_3_1
          have c2_4_2 := below_cell s2 c2_4_1; clear c2_4_1
          have c2_5_2 := below_cell s2 c2_5_1; clear c2_5_1
          have c2_6_2 := below_cell s2 c2_6_1; clear c2_6_1
          clear r2
          go_wp2_with fail
          refine (HAP.out _ b2).mono ?_
          rintro _ w3 ⟨x3, rfl, n3, r3⟩
          have s3 := r3
          have b3 := b2.trans (s3.mono z2)
          have z3 := b3.size
          have y3 := s3.size
          have c0_0_3 := below_cell s3 c0_0_2; clear c0_0_2
          have c0_1_3 := below_cell s3 c0_1_2; clear c0_1_2
          have c0_2_3 := below_cell s3 c0_2_2; clear c0_2_2
          have c1_0_3 := below_cell s3 c1_0_2; clear c1_0_2
          have c1_1_3 := below_cell s3 c1_1_2; clear c1_1_2
          have c2_0_3 := below_cell s3 c2_0_2; clear c2_0_2
          have c2_1_3 := below_cell s3 c2_1_2; clear c2_1_2
          have c2_2_3 := below_cell s3 c2_2_2; clear c2_2_2
          have c2_3_3 := below_cell s3 c2_3_2; clear c2_3_2
          have c2_4_3 := below_cell s3 c2_4_2; clear c2_4_2
          have c2_5_3 := below_cell s3 c2_5_2; clear c2_5_2
          have c2_6_3 := below_cell s3 c2_6_2; clear c2_6_2
          clear r3
          obtain ⟨a4, p4, rfl⟩ := own_shape n3
          have N3 := Lib.hid n3; clear n3
          have e0' := fun o => alloc_cell o c0_0_3
          have e1' := fun o => alloc_cell o c0_1_3
          have e2' := fun o => alloc_cell o c0_2_3
          go_wp2_with fail
          refine (HSO.out (w3.alloc (.cells #[.string nm, .slice a4 qs.length p4] 42)) _ (by go_grown) ((Rd.of_own N3.out).later (by go_grown))).mono ?_
          rintro _ w4 ⟨rfl, r4⟩
          have s4 : Below w3.heap.size w3 w4 := Below.trans (by go_grown) (r4.mono (by simp; try omega))
          have b4 := b3.trans (s4.mono z3)
          have z4 := b4.size
          have y4 := s4.size
          have c0_0_4 := below_cell s4 c0_0_3; clear c0_0_3
          have c0_1_4 := below_cell s4 c0_1_3; clear c0_1_3
          have c0_2_4 := below_cell s4 c0_2_3; clear c0_2_3
          have c1_0_4 := below_cell s4 c1_0_3; clear c1_0_3
          have c1_1_4 := below_cell s4 c1_1_3; clear c1_1_3
          have c2_0_4 := below_cell s4 c2_0_3; clear c2_0_3
          have c2_1_4 := below_cell s4 c2_1_3; clear c2_1_3
          have c2_2_4 := below_cell s4 c2_2_3; clear c2_2_3
          have c2_3_4 := below_cell s4 c2_3_3; clear c2_3_3
          have c2_4_4 := below_cell s4 c2_4_3; clear c2_4_3
          have c2_5_4 := below_cell s4 c2_5_3; clear c2_5_3
          have c2_6_4 := below_cell s4 c2_6_3; clear c2_6_3
          have c3_0_4 := below_cell r4 (p := ⟨w3.heap.size, 0, none⟩) (v := .string nm) (by simp [go_sem])
          have c3_1_4 := below_cell r4 (p := ⟨w3.heap.size, 1, none⟩) (v := .slice a4 qs.length p4) (by simp [go_sem])
          have o0_4 := own_later N3.out s4; have O0_4 := Lib.hid o0_4; clear o0_4
          clear r4
          have e0 := fun o => alloc_cell o c2_0_4
          have e1 := fun o => alloc_cell o c2_1_4
          have e2 := fun o => alloc_cell o c2_2_4
          have e3 := fun o => alloc_cell o c2_3_4
          have e4 := fun o => alloc_cell o c2_4_4
          go_wp2_with fail
          refine (HPA.out _).mono ?_
          rintro _ w5 ⟨x5, rfl, n5, r5⟩
          have s5 : Below w4.heap.size w4 w5 := Below.trans (by go_grown) (r5.mono (by simp; try omega))
          have b5 := b4.trans (s5.mono z4)
          have z5 := b5.size
          have y5 := s5.size
          have v5 : w4.heap.size + 1 ≤ w5.heap.size := by have := r5.size; simp only [World.size_alloc] at this; omega
          have c0_0_5 := below_cell s5 c0_0_4; clear c0_0_4
          have c0_1_5 := below_cell s5 c0_1_4; clear c0_1_4
          have c0_2_5 := below_cell s5 c0_2_4; clear c0_2_4
          have c1_0_5 := below_cell s5 c1_0_4; clear c1_0_4
          have c1_1_5 := below_cell s5 c1_1_4; clear c1_1_4
          have c2_0_5 := below_cell s5 c2_0_4; clear c2_0_4
          have c2_1_5 := below_cell s5 c2_1_4; clear c2_1_4
          have c2_2_5 := below_cell s5 c2_2_4; clear c2_2_4
          have c2_3_5 := below_cell s5 c2_3_4; clear c2_3_4
          have c2_4_5 := below_cell s5 c2_4_4; clear c2_4_4
          have c2_5_5 := below_cell s5 c2_5_4; clear c2_5_4
          have c2_6_5 := below_cell s5 c2_6_4; clear c2_6_4
          have c3_0_5 := below_cell s5 c3_0_4; clear c3_0_4
          have c3_1_5 := below_cell s5 c3_1_4; clear c3_1_4
          have c4_0_5 := below_cell r5 (p := ⟨w4.heap.size, 0, none⟩) (v := .int .i64 aa0) (by simp [go_sem])
          have c4_1_5 := below_cell r5 (p := ⟨w4.heap.size, 1, none⟩) (v := .int .i64 aa1) (by simp [go_sem])
          have c4_2_5 := below_cell r5 (p := ⟨w4.heap.size, 2, none⟩) (v := .int .i64 aa2) (by simp [go_sem])
          have c4_3_5 := below_cell r5 (p := ⟨w4.heap.size, 3, none⟩) (v := .int .i64 aa3) (by simp [go_sem])
          have c4_4_5 := below_cell r5 (p := ⟨w4.heap.size, 4, none⟩) (v := .int .i64 aa4) (by simp [go_sem])
          have f4_5 : ∀ j, w5.frozen? ⟨w4.heap.size, j, none⟩ = false := fun j => (r5.frozen (p := ⟨w4.heap.size, j, none⟩) (by simp [go_sem])).trans (by simp [go_sem])
          have o0_5 := own_later O0_4.out s5; have O0_5 := Lib.hid o0_5; clear o0_5
          clear r5
          go_wp2
          go_returns
          exact ⟨_, rfl, own_base n5 (by first | exact b4.size | (simp; omega)), b5⟩

end Go.Proofs.YtmeeibcbhjifbaaGreat

/- The deviations after cuts: the reference. -/
namespace Go.Proofs.YtmeeibcbhjifbaaGreat
set_option linter.unusedVariables false
open Go.RowKit Go.Proofs.Bell Go.BigFrame

set_option maxRecDepth 100000 in
set_option maxHeartbeats 6400000 in
theorem specDeviationsAfter_c (zv wv bv : Value) (zs : List Int) (ws : List (List Int)) (bs : List Int) (nm : ByteArray) (sv : Value) (ps : List (Int × Int × Int)) (a b c d f t m : Int) (cv : Value) (cs : List (Int × Int)) (w : World) (hz : Rd w zv zs.length (ints zs)) (hw : RdSS w wv ws) (hb : Rd w bv bs.length (ints bs)) (hnm : nm.size ≤ maxLen) (hr : Rd w sv ps.length (trips ps)) (hcv : Rd w cv cs.length (pairs cs)) :
    Calls Tryz.prog 19 #[.agg #[zv, wv, bv], .agg #[.string nm, sv], .agg #[.int .i64 a, .int .i64 b, .int .i64 c, .int .i64 d, .int .i64 f, .int .i64 t, .int .i64 m], cv] w
      (RetI2 (devI zs ws bs nm ps a b c d f t m cs).1 (.int .i64 (devI zs ws bs nm ps a b c d f t m cs).2) w) := by
  have hcu := fun w' (hx : Below w.heap.size w w') => l09Cuts_c cv cs w' (hcv.later hx)
  have hai := fun w' g g' g'' c0 c1 c2 d0 d1 hG h6 (hx : Below w.heap.size w w') => l10Ask_c g g' g'' zv wv bv zs ws bs nm sv ps a b c d f t m w' c0 c1 c2 d0 d1 hG h6 (hz.later hx) (hw.later hx) (hb.later hx) hnm (hr.later hx)
  cases t1 : cutsB cs <;> rw [t1] at hcu
  · rw [dev_f1 t1]
    have HCU := Lib.hid hcu; clear hcu
    generalize goalAsk zs ws bs nm ps a b c d f t m = code at *
    have HAI := Lib.hid hai; clear hai
    clear hz hw hb hr hcv
    go_enter Tryz.func19, Tryz.ntmps19
    have b0 : Below w.heap.size w w := Below.refl _ _
    have z0 : w.heap.size ≤ w.heap.size := Nat.le_refl _
    go_wp2_with fail
    refine (HAI.out _ w.heap.size (w.heap.size + 1) (w.heap.size + 1 + 1) (by simp [go_sem]) (by simp [go_sem]) (by simp [go_sem]) (by simp [go_sem]) (by simp [go_sem]) (by constructor <;> simp [go_sem]) (by simp [go_sem]) (by go_grown)).mono ?_
    rintro _ w1 ⟨rfl, r1⟩
    have s1 : Below w.heap.size w w1 := Below.trans (by go_grown) (r1.mono (by simp; try omega))
    have b1 := b0.trans (s1.mono z0)
    have z1 := b1.size
    have y1 := s1.size
    have c0_0_1 := below_cell r1 (p := ⟨w.heap.size, 0, none⟩) (v := zv) (by simp [go_sem])
    have c0_1_1 := below_cell r1 (p := ⟨w.heap.size, 1, none⟩) (v := wv) (by simp [go_sem])
    have c0_2_1 := below_cell r1 (p := ⟨w.heap.size, 2, none⟩) (v := bv) (by simp [go_sem])
    have c1_0_1 := below_cell r1 (p := ⟨w.heap.size + 1, 0, none⟩) (v := .string nm) (by simp [go_sem])
    have c1_1_1 := below_cell r1 (p := ⟨w.heap.size + 1, 1, none⟩) (v := sv) (by simp [go_sem])
    have c2_0_1 := below_cell r1 (p := ⟨w.heap.size + 1 + 1, 0, none⟩) (v := .int .i64 a) (by simp [go_sem])
    have c2_1_1 := below_cell r1 (p := ⟨w.heap.size + 1 + 1, 1, none⟩) (v := .int .i64 b) (by simp [go_sem])
    have c2_2_1 := below_cell r1 (p := ⟨w.heap.size + 1 + 1, 2, none⟩) (v := .int .i64 c) (by simp [go_sem])
    have c2_3_1 := below_cell r1 (p := ⟨w.heap.size + 1 + 1, 3, none⟩) (v := .int .i64 d) (by simp [go_sem])
    have c2_4_1 := below_cell r1 (p := ⟨w.heap.size + 1 + 1, 4, none⟩) (v := .int .i64 f) (by simp [go_sem])
    have c2_5_1 := below_cell r1 (p := ⟨w.heap.size + 1 + 1, 5, none⟩) (v := .int .i64 t) (by simp [go_sem])
    have c2_6_1 := below_cell r1 (p := ⟨w.heap.size + 1 + 1, 6, none⟩) (v := .int .i64 m) (by simp [go_sem])
    clear r1
    go_wp2_with fail
    refine (HCU.out _ b1).mono ?_
    rintro _ _ ⟨rfl, rfl⟩
    go_wp2
    go_returns
    exact ⟨_, rfl, World.ownsRow_nil _ _ _ _, b1⟩
  · have HCU := Lib.hid hcu; clear hcu
    by_cases t0 : ¬ goalAsk zs ws bs nm ps a b c d f t m = 0
    · rw [dev_f2 t1 t0]
      have t9 : (goalAsk zs ws bs nm ps a b c d f t m == 0) = false := beq_eq_false_iff_ne.2 t0
      generalize goalAsk zs ws bs nm ps a b c d f t m = code at *
      have HAI := Lib.hid hai; clear hai
      clear hz hw hb hr hcv
      go_enter Tryz.func19, Tryz.ntmps19
      have b0 : Below w.heap.size w w := Below.refl _ _
      have z0 : w.heap.size ≤ w.heap.size := Nat.le_refl _
      go_wp2_with fail
      refine (HAI.out _ w.heap.size (w.heap.size + 1) (w.heap.size + 1 + 1) (by simp [go_sem]) (by simp [go_sem]) (by simp [go_sem]) (by simp [go_sem]) (by simp [go_sem]) (by constructor <;> simp [go_sem]) (by simp [go_sem]) (by go_grown)).mono ?_
      rintro _ w1 ⟨rfl, r1⟩
      have s1 : Below w.heap.size w w1 := Below.trans (by go_grown) (r1.mono (by simp; try omega))
      have b1 := b0.trans (s1.mono z0)
      have z1 := b1.size
      have y1 := s1.size
      have c0_0_1 := below_cell r1 (p := ⟨w.heap.size, 0, none⟩) (v := zv) (by simp [go_sem])
      have c0_1_1 := below_cell r1 (p := ⟨w.heap.size, 1, none⟩) (v := wv) (by simp [go_sem])
      have c0_2_1 := below_cell r1 (p := ⟨w.heap.size, 2, none⟩) (v := bv) (by simp [go_sem])
      have c1_0_1 := below_cell r1 (p := ⟨w.heap.size + 1, 0, none⟩) (v := .string nm) (by simp [go_sem])
      have c1_1_1 := below_cell r1 (p := ⟨w.heap.size + 1, 1, none⟩) (v := sv) (by simp [go_sem])
      have c2_0_1 := below_cell r1 (p := ⟨w.heap.size + 1 + 1, 0, none⟩) (v := .int .i64 a) (by simp [go_sem])
      have c2_1_1 := below_cell r1 (p := ⟨w.heap.size + 1 + 1, 1, none⟩) (v := .int .i64 b) (by simp [go_sem])
      have c2_2_1 := below_cell r1 (p := ⟨w.heap.size + 1 + 1, 2, none⟩) (v := .int .i64 c) (by simp [go_sem])
      have c2_3_1 := below_cell r1 (p := ⟨w.heap.size + 1 + 1, 3, none⟩) (v := .int .i64 d) (by simp [go_sem])
      have c2_4_1 := below_cell r1 (p := ⟨w.heap.size + 1 + 1, 4, none⟩) (v := .int .i64 f) (by simp [go_sem])
      have c2_5_1 := below_cell r1 (p := ⟨w.heap.size + 1 + 1, 5, none⟩) (v := .int .i64 t) (by simp [go_sem])
      have c2_6_1 := below_cell r1 (p := ⟨w.heap.size + 1 + 1, 6, none⟩) (v := .int .i64 m) (by simp [go_sem])
      clear r1
      go_wp2_with fail
      refine (HCU.out _ b1).mono ?_
      rintro _ _ ⟨rfl, rfl⟩
      go_wp2
      go_returns
      exact ⟨_, rfl, World.ownsRow_nil _ _ _ _, b1⟩
    · have t0 : goalAsk zs ws bs nm ps a b c d f t m = 0 := Classical.not_not.1 t0
      rw [t0] at hai
      have HAI := Lib.hid hai; clear hai
      have hap := fun w' g (hg : g < w'.heap.size) c0 c1 (hx : Below w.heap.size w w') => l09Apply_c g nm sv ps zv zs cv cs w' hg hnm c0 c1 (hr.later hx) (hz.later hx) (hcv.later hx)
      obtain ⟨hgb, hma⟩ := goalAsk_ok t0
      obtain ⟨hsb, ht0, ht1, hm0⟩ := goalB_t hgb
      by_cases t2 : ¬ (applyI nm ps zs cs).2.2 = 0
      · rw [dev_f3 t1 t0 t2]
        have t9 : ((applyI nm ps zs cs).2.2 == 0) = false := beq_eq_false_iff_ne.2 t2
        generalize applyI nm ps zs cs = RES at *
        have HAP := Lib.hid hap; clear hap
        clear hz hw hb hr hcv hgb hma hsb
        go_enter Tryz.func19, Tryz.ntmps19
        have b0 : Below w.heap.size w w := Below.refl _ _
        have z0 : w.heap.size ≤ w.heap.size := Nat.le_refl _
        go_wp2_with fail
        refine (HAI.out _ w.heap.size (w.heap.size + 1) (w.heap.size + 1 + 1) (by simp [go_sem]) (by simp [go_sem]) (by simp [go_sem]) (by simp [go_sem]) (by simp [go_sem]) (by constructor <;> simp [go_sem]) (by simp [go_sem]) (by go_grown)).mono ?_
        rintro _ w1 ⟨rfl, r1⟩
        have s1 : Below w.heap.size w w1 := Below.trans (by go_grown) (r1.mono (by simp; try omega))
        have b1 := b0.trans (s1.mono z0)
        have z1 := b1.size
        have y1 := s1.size
        have c0_0_1 := below_cell r1 (p := ⟨w.heap.size, 0, none⟩) (v := zv) (by simp [go_sem])
        have c0_1_1 := below_cell r1 (p := ⟨w.heap.size, 1, none⟩) (v := wv) (by simp [go_sem])
        have c0_2_1 := below_cell r1 (p := ⟨w.heap.size, 2, none⟩) (v := bv) (by simp [go_sem])
        have c1_0_1 := below_cell r1 (p := ⟨w.heap.size + 1, 0, none⟩) (v := .string nm) (by simp [go_sem])
        have c1_1_1 := below_cell r1 (p := ⟨w.heap.size + 1, 1, none⟩) (v := sv) (by simp [go_sem])
        have c2_0_1 := below_cell r1 (p := ⟨w.heap.size + 1 + 1, 0, none⟩) (v := .int .i64 a) (by simp [go_sem])
        have c2_1_1 := below_cell r1 (p := ⟨w.heap.size + 1 + 1, 1, none⟩) (v := .int .i64 b) (by simp [go_sem])
        have c2_2_1 := below_cell r1 (p := ⟨w.heap.size + 1 + 1, 2, none⟩) (v := .int .i64 c) (by simp [go_sem])
        have c2_3_1 := below_cell r1 (p := ⟨w.heap.size + 1 + 1, 3, none⟩) (v := .int .i64 d) (by simp [go_sem])
        have c2_4_1 := below_cell r1 (p := ⟨w.heap.size + 1 + 1, 4, none⟩) (v := .int .i64 f) (by simp [go_sem])
        have c2_5_1 := below_cell r1 (p := ⟨w.heap.size + 1 + 1, 5, none⟩) (v := .int .i64 t) (by simp [go_sem])
        have c2_6_1 := below_cell r1 (p := ⟨w.heap.size + 1 + 1, 6, none⟩) (v := .int .i64 m) (by simp [go_sem])
        clear r1
        go_wp2_with fail
        refine (HCU.out _ b1).mono ?_
        rintro _ _ ⟨rfl, rfl⟩
        go_wp2_with fail
        refine (HAP.out _ (w.heap.size + 1) (World.block_lt_of_cell? _ _ c1_0_1) c1_0_1 c1_1_1 b1).mono ?_
        rintro _ w2 ⟨x2, rfl, n2, r2⟩
        have s2 := r2
        have b2 := b1.trans (s2.mono z1)
        have z2 := b2.size
        have y2 := s2.size
        have c0_0_2 := below_cell s2 c0_0_1; clear c0_0_1
        have c0_1_2 := below_cell s2 c0_1_1; clear c0_1_1
        have c0_2_2 := below_cell s2 c0_2_1; clear c0_2_1
        have c1_0_2 := below_cell s2 c1_0_1; clear c1_0_1
        have c1_1_2 := below_cell s2 c1_1_1; clear c1_1_1
        have c2_0_2 := below_cell s2 c2_0_1; clear c2_0_1
        have c2_1_2 := below_cell s2 c2_1_1; clear c2_1_1
        have c2_2_2 := below_cell s2 c2_2_1; clear c2_2_1
        have c2_3_2 := below_cell s2 c2_3_1; clear c2_3_1
        have c2_4_2 := below_cell s2 c2_4_1; clear c2_4_1
        have c2_5_2 := below_cell s2 c2_5_1; clear c2_5_1
        have c2_6_2 := below_cell s2 c2_6_1; clear c2_6_1
        clear r2
        obtain ⟨a4, p4, rfl⟩ := own_shape n2
        clear n2
        go_wp2
        go_returns
        exact ⟨_, rfl, World.ownsRow_nil _ _ _ _, (by go_grown)⟩
      · have t2 : (applyI nm ps zs cs).2.2 = 0 := Classical.not_not.1 t2
        rw [dev_ok t1 t0 t2]
        obtain ⟨qs, hq, hmq⟩ := dev_after hma t2
        rw [hq] at hap ⊢
        dsimp only at hap ⊢
        obtain ⟨m1, q2, q3⟩ := modAsk_ok hmq
        obtain ⟨ql1, ql2, qal, qht⟩ := profB_t q2
        have hrw := fun w' g g' u c0 c1 c2 d1 (hx : Below w.heap.size w w') (hu : Rd w' u qs.length (trips qs)) => l08Raw_c g g' zv wv bv zs ws bs nm u qs w' c0 c1 c2 d1 (hz.later hx) (hw.later hx) (hb.later hx) hu m1 ql1 ql2 qal q3
        have hr5 := rawL_len qs zs ws bs
        have hls := sound_at hsb
        generalize rawL qs zs ws bs = r at *
        have hde := fun g u w' hG hu => l10Dev_c g a b c d f t u r w' hG hu hr5 hls
        have hdl : (devR [a, b, c, d, f] r).length ≤ 5 := by unfold devR; split <;> simp [devK_len]
        have hnil : sndOk r = false → devR [a, b, c, d, f] r = [] := fun h => by simp [devR, h]
        generalize devR [a, b, c, d, f] r = OUT at *
        have HAP := Lib.hid hap; clear hap
        have HRW := Lib.hid hrw; clear hrw
        clear hz hw hb hr hcv hgb hma hsb hq hmq t2 m1 q2 q3 qal qht hls
        cases t3 : sndOk r <;> rw [t3] at hde
        · simp only [Bool.false_eq_true, if_false, if_true]
          obtain rfl : OUT = [] := hnil t3
          have HDE := Lib.hid hde; clear hde
          clear t3 hnil
          go_enter Tryz.func19, Tryz.ntmps19
          have b0 : Below w.heap.size w w := Below.refl _ _
          have z0 : w.heap.size ≤ w.heap.size := Nat.le_refl _
          go_wp2_with fail
          refine (HAI.out _ w.heap.size (w.heap.size + 1) (w.heap.size + 1 + 1) (by simp [go_sem]) (by simp [go_sem]) (by simp [go_sem]) (by simp [go_sem]) (by simp [go_sem]) (by constructor <;> simp [go_sem]) (by simp [go_sem]) (by go_grown)).mono ?_
          rintro _ w1 ⟨rfl, r1⟩
          have s1 : Below w.heap.size w w1 := Below.trans (by go_grown) (r1.mono (by simp; try omega))
          have b1 := b0.trans (s1.mono z0)
          have z1 := b1.size
          have y1 := s1.size
          have c0_0_1 := below_cell r1 (p := ⟨w.heap.size, 0, none⟩) (v := zv) (by simp [go_sem])
          have c0_1_1 := below_cell r1 (p := ⟨w.heap.size, 1, none⟩) (v := wv) (by simp [go_sem])
          have c0_2_1 := below_cell r1 (p := ⟨w.heap.size, 2, none⟩) (v := bv) (by simp [go_sem])
          have c1_0_1 := below_cell r1 (p := ⟨w.heap.size + 1, 0, none⟩) (v := .string nm) (by simp [go_sem])
          have c1_1_1 := below_cell r1 (p := ⟨w.heap.size + 1, 1, none⟩) (v := sv) (by simp [go_sem])
          have c2_0_1 := below_cell r1 (p := ⟨w.heap.size + 1 + 1, 0, none⟩) (v := .int .i64 a) (by simp [go_sem])
          have c2_1_1 := below_cell r1 (p := ⟨w.heap.size + 1 + 1, 1, none⟩) (v := .int .i64 b) (by simp [go_sem])
          have c2_2_1 := below_cell r1 (p := ⟨w.heap.size + 1 + 1, 2, none⟩) (v := .int .i64 c) (by simp [go_sem])
          have c2_3_1 := below_cell r1 (p := ⟨w.heap.size + 1 + 1, 3, none⟩) (v := .int .i64 d) (by simp [go_sem])
          have c2_4_1 := below_cell r1 (p := ⟨w.heap.size + 1 + 1, 4, none⟩) (v := .int .i64 f) (by simp [go_sem])
          have c2_5_1 := below_cell r1 (p := ⟨w.heap.size + 1 + 1, 5, none⟩) (v := .int .i64 t) (by simp [go_sem])
          have c2_6_1 := below_cell r1 (p := ⟨w.heap.size + 1 + 1, 6, none⟩) (v := .int .i64 m) (by simp [go_sem])
          clear r1
          go_wp2_with fail
          refine (HCU.out _ b1).mono ?_
          rintro _ _ ⟨rfl, rfl⟩
          go_wp2_with fail
          refine (HAP.out _ (w.heap.size + 1) (World.block_lt_of_cell? _ _ c1_0_1) c1_0_1 c1_1_1 b1).mono ?_
          rintro _ w2 ⟨x2, rfl, n2, r2⟩
          have s2 := r2
          have b2 := b1.trans (s2.mono z1)
          have z2 := b2.size
          have y2 := s2.size
          have c0_0_2 := below_cell s2 c0_0_1; clear c0_0_1
          have c0_1_2 := below_cell s2 c0_1_1; clear c0_1_1
          have c0_2_2 := below_cell s2 c0_2_1; clear c0_2_1
          have c1_0_2 := below_cell s2 c1_0_1; clear c1_0_1
          have c1_1_2 := below_cell s2 c1_1_1; clear c1_1_1
          have c2_0_2 := below_cell s2 c2_0_1; clear c2_0_1
          have c2_1_2 := below_cell s2 c2_1_1; clear c2_1_1
          have c2_2_2 := below_cell s2 c2_2_1; clear c2_2_1
          have c2_3_2 := below_cell s2 c2_3_1; clear c2_3_1
          have c2_4_2 := below_cell s2 c2_4_1; clear c2_4_1
          have c2_5_2 := below_cell s2 c2_5_1; clear c2_5_1
          have c2_6_2 := below_cell s2 c2_6_1; clear c2_6_1
          clear r2
          obtain ⟨a4, p4, rfl⟩ := own_shape n2
          have N2 := Lib.hid n2; clear n2
          have e0 := fun o => alloc_cell o c0_0_2
          have e1 := fun o => alloc_cell o c0_1_2
          have e2 := fun o => alloc_cell o c0_2_2
          go_wp2_with fail
          refine (HRW.out (w2.alloc (.cells #[.string nm, .slice a4 qs.length p4] 42)) w.heap.size w2.heap.size _ (e0 _) (e1 _) (e2 _) (by simp [go_sem]) (by go_grown) ((Rd.of_own N2.out).later (by go_grown))).mono ?_
          rintro _ w3 ⟨x3, rfl, n3, r3⟩
          have s3 : Below w2.heap.size w2 w3 := Below.trans (by go_grown) (r3.mono (by simp; try omega))
          have b3 := b2.trans (s3.mono z2)
          have z3 := b3.size
          have y3 := s3.size
          have c0_0_3 := below_cell s3 c0_0_2; clear c0_0_2
          have c0_1_3 := below_cell s3 c0_1_2; clear c0_1_2
          have c0_2_3 := below_cell s3 c0_2_2; clear c0_2_2
          have c1_0_3 := below_cell s3 c1_0_2; clear c1_0_2
          have c1_1_3 := below_cell s3 c1_1_2; clear c1_1_2
          have c2_0_3 := below_cell s3 c2_0_2; clear c2_0_2
          have c2_1_3 := below_cell s3 c2_1_2; clear c2_1_2
          have c2_2_3 := below_cell s3 c2_2_2; clear c2_2_2
          have c2_3_3 := below_cell s3 c2_3_2; clear c2_3_2
          have c2_4_3 := below_cell s3 c2_4_2; clear c2_4_2
          have c2_5_3 := below_cell s3 c2_5_2; clear c2_5_2
          have c2_6_3 := below_cell s3 c2_6_2; clear c2_6_2
          have c3_0_3 := below_cell r3 (p := ⟨w2.heap.size, 0, none⟩) (v := .string nm) (by simp [go_sem])
          have c3_1_3 := below_cell r3 (p := ⟨w2.heap.size, 1, none⟩) (v := .slice a4 qs.length p4) (by simp [go_sem])
          have o0_3 := own_later N2.out s3; have O0_3 := Lib.hid o0_3; clear o0_3
          clear r3
          have n3 := Rd.of_own n3
          rw [hr5] at n3
          have N3 := Lib.hid n3; clear n3
          go_wp2_with fail
          refine (HDE.out _ _ _ ⟨c2_0_3, c2_1_3, c2_2_3, c2_3_3, c2_4_3, c2_5_3⟩ N3.out).mono ?_
          rintro _ w4 ⟨x4, rfl, n4, r4⟩
          have s4 := r4
          have b4 := b3.trans (s4.mono z3)
          have z4 := b4.size
          have y4 := s4.size
          have c0_0_4 := below_cell s4 c0_0_3; clear c0_0_3
          have c0_1_4 := below_cell s4 c0_1_3; clear c0_1_3
          have c0_2_4 := below_cell s4 c0_2_3; clear c0_2_3
          have c1_0_4 := below_cell s4 c1_0_3; clear c1_0_3
          have c1_1_4 := below_cell s4 c1_1_3; clear c1_1_3
          have c2_0_4 := below_cell s4 c2_0_3; clear c2_0_3
          have c2_1_4 := below_cell s4 c2_1_3; clear c2_1_3
          have c2_2_4 := below_cell s4 c2_2_3; clear c2_2_3
          have c2_3_4 := below_cell s4 c2_3_3; clear c2_3_3
          have c2_4_4 := below_cell s4 c2_4_3; clear c2_4_3
          have c2_5_4 := below_cell s4 c2_5_3; clear c2_5_3
          have c2_6_4 := below_cell s4 c2_6_3; clear c2_6_3
          have c3_0_4 := below_cell s4 c3_0_3; clear c3_0_3
          have c3_1_4 := below_cell s4 c3_1_3; clear c3_1_3
          have o0_4 := own_later O0_3.out s4; have O0_4 := Lib.hid o0_4; clear o0_4
          clear r4
          obtain ⟨a5, p5, rfl⟩ := own_shape n4
          go_wp2
          go_returns
          exact ⟨_, rfl, World.ownsRow_nil _ _ _ _, b4⟩
        · simp only [Bool.false_eq_true, if_false, if_true]
          have HDE := Lib.hid hde; clear hde
          clear t3 hnil
          go_enter Tryz.func19, Tryz.ntmps19
          have b0 : Below w.heap.size w w := Below.refl _ _
          have z0 : w.heap.size ≤ w.heap.size := Nat.le_refl _
          go_wp2_with fail
          refine (HAI.out _ w.heap.size (w.heap.size + 1) (w.heap.size + 1 + 1) (by simp [go_sem]) (by simp [go_sem]) (by simp [go_sem]) (by simp [go_sem]) (by simp [go_sem]) (by constructor <;> simp [go_sem]) (by simp [go_sem]) (by go_grown)).mono ?_
          rintro _ w1 ⟨rfl, r1⟩
          have s1 : Below w.heap.size w w1 := Below.trans (by go_grown) (r1.mono (by simp; try omega))
          have b1 := b0.trans (s1.mono z0)
          have z1 := b1.size
          have y1 := s1.size
          have c0_0_1 := below_cell r1 (p := ⟨w.heap.size, 0, none⟩) (v := zv) (by simp [go_sem])
          have c0_1_1 := below_cell r1 (p := ⟨w.heap.size, 1, none⟩) (v := wv) (by simp [go_sem])
          have c0_2_1 := below_cell r1 (p := ⟨w.heap.size, 2, none⟩) (v := bv) (by simp [go_sem])
          have c1_0_1 := below_cell r1 (p := ⟨w.heap.size + 1, 0, none⟩) (v := .string nm) (by simp [go_sem])
          have c1_1_1 := below_cell r1 (p := ⟨w.heap.size + 1, 1, none⟩) (v := sv) (by simp [go_sem])
          have c2_0_1 := below_cell r1 (p := ⟨w.heap.size + 1 + 1, 0, none⟩) (v := .int .i64 a) (by simp [go_sem])
          have c2_1_1 := below_cell r1 (p := ⟨w.heap.size + 1 + 1, 1, none⟩) (v := .int .i64 b) (by simp [go_sem])
          have c2_2_1 := below_cell r1 (p := ⟨w.heap.size + 1 + 1, 2, none⟩) (v := .int .i64 c) (by simp [go_sem])
          have c2_3_1 := below_cell r1 (p := ⟨w.heap.size + 1 + 1, 3, none⟩) (v := .int .i64 d) (by simp [go_sem])
          have c2_4_1 := below_cell r1 (p := ⟨w.heap.size + 1 + 1, 4, none⟩) (v := .int .i64 f) (by simp [go_sem])
          have c2_5_1 := below_cell r1 (p := ⟨w.heap.size + 1 + 1, 5, none⟩) (v := .int .i64 t) (by simp [go_sem])
          have c2_6_1 := below_cell r1 (p := ⟨w.heap.size + 1 + 1, 6, none⟩) (v := .int .i64 m) (by simp [go_sem])
          clear r1
          go_wp2_with fail
          refine (HCU.out _ b1).mono ?_
          rintro _ _ ⟨rfl, rfl⟩
          go_wp2_with fail
          refine (HAP.out _ (w.heap.size + 1) (World.block_lt_of_cell? _ _ c1_0_1) c1_0_1 c1_1_1 b1).mono ?_
          rintro _ w2 ⟨x2, rfl, n2, r2⟩
          have s2 := r2
          have b2 := b1.trans (s2.mono z1)
          have z2 := b2.size
          have y2 := s2.size
          have c0_0_2 := below_cell s2 c0_0_1; clear c0_0_1
          have c0_1_2 := below_cell s2 c0_1_1; clear c0_1_1
          have c0_2_2 := below_cell s2 c0_2_1; clear c0_2_1
          have c1_0_2 := below_cell s2 c1_0_1; clear c1_0_1
          have c1_1_2 := below_cell s2 c1_1_1; clear c1_1_1
          have c2_0_2 := below_cell s2 c2_0_1; clear c2_0_1
          have c2_1_2 := below_cell s2 c2_1_1; clear c2_1_1
          have c2_2_2 := below_cell s2 c2_2_1; clear c2_2_1
          have c2_3_2 := below_cell s2 c2_3_1; clear c2_3_1
          have c2_4_2 := below_cell s2 c2_4_1; clear c2_4_1
          have c2_5_2 := below_cell s2 c2_5_1; clear c2_5_1
          have c2_6_2 := below_cell s2 c2_6_1; clear c2_6_1
          clear r2
          obtain ⟨a4, p4, rfl⟩ := own_shape n2
          have N2 := Lib.hid n2; clear n2
          have e0 := fun o => alloc_cell o c0_0_2
          have e1 := fun o => alloc_cell o c0_1_2
          have e2 := fun o => alloc_cell o c0_2_2
          go_wp2_with fail
          refine (HRW.out (w2.alloc (.cells #[.string nm, .slice a4 qs.length p4] 42)) w.heap.size w2.heap.size _ (e0 _) (e1 _) (e2 _) (by simp [go_sem]) (by go_grown) ((Rd.of_own N2.out).later (by go_grown))).mono ?_
          rintro _ w3 ⟨x3, rfl, n3, r3⟩
          have s3 : Below w2.heap.size w2 w3 := Below.trans (by go_grown) (r3.mono (by simp; try omega))
          have b3 := b2.trans (s3.mono z2)
          have z3 := b3.size
          have y3 := s3.size
          have c0_0_3 := below_cell s3 c0_0_2; clear c0_0_2
          have c0_1_3 := below_cell s3 c0_1_2; clear c0_1_2
          have c0_2_3 := below_cell s3 c0_2_2; clear c0_2_2
          have c1_0_3 := below_cell s3 c1_0_2; clear c1_0_2
          have c1_1_3 := below_cell s3 c1_1_2; clear c1_1_2
          have c2_0_3 := below_cell s3 c2_0_2; clear c2_0_2
          have c2_1_3 := below_cell s3 c2_1_2; clear c2_1_2
          have c2_2_3 := below_cell s3 c2_2_2; clear c2_2_2
          have c2_3_3 := below_cell s3 c2_3_2; clear c2_3_2
          have c2_4_3 := below_cell s3 c2_4_2; clear c2_4_2
          have c2_5_3 := below_cell s3 c2_5_2; clear c2_5_2
          have c2_6_3 := below_cell s3 c2_6_2; clear c2_6_2
          have c3_0_3 := below_cell r3 (p := ⟨w2.heap.size, 0, none⟩) (v := .string nm) (by simp [go_sem])
          have c3_1_3 := below_cell r3 (p := ⟨w2.heap.size, 1, none⟩) (v := .slice a4 qs.length p4) (by simp [go_sem])
          have o0_3 := own_later N2.out s3; have O0_3 := Lib.hid o0_3; clear o0_3
          clear r3
          have n3 := Rd.of_own n3
          rw [hr5] at n3
          have N3 := Lib.hid n3; clear n3
          go_wp2_with fail
          refine (HDE.out _ _ _ ⟨c2_0_3, c2_1_3, c2_2_3, c2_3_3, c2_4_3, c2_5_3⟩ N3.out).mono ?_
          rintro _ w4 ⟨x4, rfl, n4, r4⟩
          have s4 := r4
          have b4 := b3.trans (s4.mono z3)
          have z4 := b4.size
          have y4 := s4.size
          have c0_0_4 := below_cell s4 c0_0_3; clear c0_0_3
          have c0_1_4 := below_cell s4 c0_1_3; clear c0_1_3
          have c0_2_4 := below_cell s4 c0_2_3; clear c0_2_3
          have c1_0_4 := below_cell s4 c1_0_3; clear c1_0_3
          have c1_1_4 := below_cell s4 c1_1_3; clear c1_1_3
          have c2_0_4 := below_cell s4 c2_0_3; clear c2_0_3
          have c2_1_4 := below_cell s4 c2_1_3; clear c2_1_3
          have c2_2_4 := below_cell s4 c2_2_3; clear c2_2_3
          have c2_3_4 := below_cell s4 c2_3_3; clear c2_3_3
          have c2_4_4 := below_cell s4 c2_4_3; clear c2_4_3
          have c2_5_4 := below_cell s4 c2_5_3; clear c2_5_3
          have c2_6_4 := below_cell s4 c2_6_3; clear c2_6_3
          have c3_0_4 := below_cell s4 c3_0_3; clear c3_0_3
          have c3_1_4 := below_cell s4 c3_1_3; clear c3_1_3
          have o0_4 := own_later O0_3.out s4; have O0_4 := Lib.hid o0_4; clear o0_4
          clear r4
          obtain ⟨a5, p5, rfl⟩ := own_shape n4
          go_wp2
          go_returns
          exact ⟨_, rfl, own_base n4 b3.size, b4⟩

end Go.Proofs.YtmeeibcbhjifbaaGreat

/- Whether cuts are a plan: the program. -/
namespace Go.Proofs.YtmeeibcbhjifbaaGreat
set_option linter.unusedVariables false
open Go.RowKit Go.Proofs.Bell Go.BigFrame

theorem dev_zero {zs : List Int} {ws : List (List Int)} {bs : List Int} {nm : ByteArray} {ps : List (Int × Int × Int)} {a b c d f t m : Int} {cs : List (Int × Int)} (h : (devI zs ws bs nm ps a b c d f t m cs).2 = 0) :
    cutsB cs = true ∧ (devI zs ws bs nm ps a b c d f t m cs).1.length = 5 ∧ ∀ k, -1000000 ≤ (devI zs ws bs nm ps a b c d f t m cs).1.getD k 0 ∧ (devI zs ws bs nm ps a b c d f t m cs).1.getD k 0 ≤ 1000000 := by
  cases t1 : cutsB cs
  · rw [dev_f1 t1] at h; cases h
  by_cases t0 : goalAsk zs ws bs nm ps a b c d f t m = 0
  case neg => rw [dev_f2 t1 t0] at h; exact absurd h t0
  by_cases t2 : (applyI nm ps zs cs).2.2 = 0
  case neg => rw [dev_f3 t1 t0 t2] at h; exact absurd h t2
  rw [dev_ok t1 t0 t2] at h ⊢
  obtain ⟨hgb, hma⟩ := goalAsk_ok t0
  obtain ⟨hsb, _⟩ := goalB_t hgb
  cases t3 : sndOk (rawL (applyI nm ps zs cs).2.1 zs ws bs)
  · rw [t3] at h; cases h
  · simp only [devR, t3, if_true]
    exact ⟨trivial, devK_len _ _ 5, devK_bd (sound_at hsb) (snd_at (rawL_len _ _ _ _) t3)⟩

/-- a goal's box -/
structure H7 (g : Nat) (a b c d f t m : Int) (w' : World) : Prop where
  h : H6 g a b c d f t w'
  p6 : w'.cell? ⟨g, 6, none⟩ = some (.int .i64 m)
theorem H7.later {g : Nat} {a b c d f t m : Int} {w w' : World} (h : H7 g a b c d f t m w) (hb : Below w.heap.size w w') : H7 g a b c d f t m w' := ⟨h.h.later hb, below_cell hb h.p6⟩

theorem sums8 (cs : List (Int × Int)) : (sumsOf cs).length = 8 := by first | exact sumsOf_len cs | simp [sumsOf_len]

set_option maxRecDepth 100000 in
set_option maxHeartbeats 6400000 in
theorem implIsPlan_c (zv wv bv : Value) (zs : List Int) (ws : List (List Int)) (bs : List Int) (nm : ByteArray) (sv : Value) (ps : List (Int × Int × Int)) (a b c d f t m : Int) (cv : Value) (cs : List (Int × Int)) (w : World) (hz : Rd w zv zs.length (ints zs)) (hw : RdSS w wv ws) (hb : Rd w bv bs.length (ints bs)) (hnm : nm.size ≤ maxLen) (hr : Rd w sv ps.length (trips ps)) (hcv : Rd w cv cs.length (pairs cs)) :
    Calls Tryz.prog 12 #[.agg #[zv, wv, bv], .agg #[.string nm, sv], .agg #[.int .i64 a, .int .i64 b, .int .i64 c, .int .i64 d, .int .i64 f, .int .i64 t, .int .i64 m], cv] w (RetB (.bool (planI zs ws bs nm ps a b c d f t m cs)) w) := by
  have hde := fun w' (hx : Below w.heap.size w w') => implDeviationsAfter_c zv wv bv zs ws bs nm sv ps a b c d f t m cv cs w' (hz.later hx) (hw.later hx) (hb.later hx) hnm (hr.later hx) (hcv.later hx)
  by_cases t0 : ¬ (devI zs ws bs nm ps a b c d f t m cs).2 = 0
  · have he : planI zs ws bs nm ps a b c d f t m cs = false := by simp [planI, t0]
    rw [he]
    have t9 : ((devI zs ws bs nm ps a b c d f t m cs).2 == 0) = false := beq_eq_false_iff_ne.2 t0
    generalize devI zs ws bs nm ps a b c d f t m cs = R at *
    have HDE := Lib.hid hde; clear hde
    clear he hz hw hb hr hcv
    go_enter Tryz.func12, Tryz.ntmps12
    have b0 : Below w.heap.size w w := Below.refl _ _
    have z0 : w.heap.size ≤ w.heap.size := Nat.le_refl _
    go_wp2_with fail
    refine (HDE.out _ (by go_grown)).mono ?_
    rintro _ w1 ⟨x1, rfl, n1, r1⟩
    have s1 : Below w.heap.size w w1 := Below.trans (by go_grown) (r1.mono (by simp; try omega))
    have b1 := b0.trans (s1.mono z0)
    have z1 := b1.size
    have y1 := s1.size
    have c0_0_1 := below_cell r1 (p := ⟨w.heap.size, 0, none⟩) (v := zv) (by simp [go_sem])
    have c0_1_1 := below_cell r1 (p := ⟨w.heap.size, 1, none⟩) (v := wv) (by simp [go_sem])
    have c0_2_1 := below_cell r1 (p := ⟨w.heap.size, 2, none⟩) (v := bv) (by simp [go_sem])
    have c1_0_1 := below_cell r1 (p := ⟨w.heap.size + 1, 0, none⟩) (v := .string nm) (by simp [go_sem])
    have c1_1_1 := below_cell r1 (p := ⟨w.heap.size + 1, 1, none⟩) (v := sv) (by simp [go_sem])
    have c2_0_1 := below_cell r1 (p := ⟨w.heap.size + 1 + 1, 0, none⟩) (v := .int .i64 a) (by simp [go_sem])
    have c2_1_1 := below_cell r1 (p := ⟨w.heap.size + 1 + 1, 1, none⟩) (v := .int .i64 b) (by simp [go_sem])
    have c2_2_1 := below_cell r1 (p := ⟨w.heap.size + 1 + 1, 2, none⟩) (v := .int .i64 c) (by simp [go_sem])
    have c2_3_1 := below_cell r1 (p := ⟨w.heap.size + 1 + 1, 3, none⟩) (v := .int .i64 d) (by simp [go_sem])
    have c2_4_1 := below_cell r1 (p := ⟨w.heap.size + 1 + 1, 4, none⟩) (v := .int .i64 f) (by simp [go_sem])
    have c2_5_1 := below_cell r1 (p := ⟨w.heap.size + 1 + 1, 5, none⟩) (v := .int .i64 t) (by simp [go_sem])
    have c2_6_1 := below_cell r1 (p := ⟨w.heap.size + 1 + 1, 6, none⟩) (v := .int .i64 m) (by simp [go_sem])
    clear r1
    go_wp2_with fail
    go_quiet (fail)
    go_wp2
    go_returns
    exact RetB.mk rfl (below_drewN b1 _)
  · have t0 : (devI zs ws bs nm ps a b c d f t m cs).2 = 0 := Classical.not_not.1 t0
    obtain ⟨hcb, hD5, hDb⟩ := dev_zero t0
    have he : planI zs ws bs nm ps a b c d f t m cs = (decide (maxI (sumsOf cs) ≤ m) && decide (absK (devI zs ws bs nm ps a b c d f t m cs).1 5 ≤ t)) := by simp [planI, t0]
    rw [he]
    rw [t0] at hde
    generalize (devI zs ws bs nm ps a b c d f t m cs).1 = D at *
    have hst := fun w' (hx : Below w.heap.size w w') => stepsOf_c cv cs w' (hcv.later hx) hcb
    have hs8 := sums8 cs
    have hmx := fun v w' (hx : Rd w' v (sumsOf cs).length (ints (sumsOf cs))) => Max_c v (sumsOf cs) w' hx (by omega)
    have hgr := fun v w' (hx : Rd w' v D.length (ints D)) => greatest_c v D w' hx (by omega) hDb
    rw [hD5] at hgr
    generalize maxI (sumsOf cs) = mx at *
    generalize sumsOf cs = sums at *
    generalize absK D 5 = ab at *
    have HDE := Lib.hid hde; clear hde
    have HST := Lib.hid hst; clear hst
    have HMX := Lib.hid hmx; clear hmx
    have HGR := Lib.hid hgr; clear hgr
    have HD5 := Lib.hid hD5; clear hD5
    have HS8 := Lib.hid hs8; clear hs8
    clear hDb he hz hw hb hr hcv t0
    go_enter Tryz.func12, Tryz.ntmps12
    have b0 : Below w.heap.size w w := Below.refl _ _
    have z0 : w.heap.size ≤ w.heap.size := Nat.le_refl _
    go_wp2_with fail
    refine (HDE.out _ (by go_grown)).mono ?_
    rintro _ w1 ⟨x1, rfl, n1, r1⟩
    have s1 : Below w.heap.size w w1 := Below.trans (by go_grown) (r1.mono (by simp; try omega))
    have b1 := b0.trans (s1.mono z0)
    have z1 := b1.size
    have y1 := s1.size
    have c0_0_1 := below_cell r1 (p := ⟨w.heap.size, 0, none⟩) (v := zv) (by simp [go_sem])
    have c0_1_1 := below_cell r1 (p := ⟨w.heap.size, 1, none⟩) (v := wv) (by simp [go_sem])
    have c0_2_1 := below_cell r1 (p := ⟨w.heap.size, 2, none⟩) (v := bv) (by simp [go_sem])
    have c1_0_1 := below_cell r1 (p := ⟨w.heap.size + 1, 0, none⟩) (v := .string nm) (by simp [go_sem])
    have c1_1_1 := below_cell r1 (p := ⟨w.heap.size + 1, 1, none⟩) (v := sv) (by simp [go_sem])
    have c2_0_1 := below_cell r1 (p := ⟨w.heap.size + 1 + 1, 0, none⟩) (v := .int .i64 a) (by simp [go_sem])
    have c2_1_1 := below_cell r1 (p := ⟨w.heap.size + 1 + 1, 1, none⟩) (v := .int .i64 b) (by simp [go_sem])
    have c2_2_1 := below_cell r1 (p := ⟨w.heap.size + 1 + 1, 2, none⟩) (v := .int .i64 c) (by simp [go_sem])
    have c2_3_1 := below_cell r1 (p := ⟨w.heap.size + 1 + 1, 3, none⟩) (v := .int .i64 d) (by simp [go_sem])
    have c2_4_1 := below_cell r1 (p := ⟨w.heap.size + 1 + 1, 4, none⟩) (v := .int .i64 f) (by simp [go_sem])
    have c2_5_1 := below_cell r1 (p := ⟨w.heap.size + 1 + 1, 5, none⟩) (v := .int .i64 t) (by simp [go_sem])
    have c2_6_1 := below_cell r1 (p := ⟨w.heap.size + 1 + 1, 6, none⟩) (v := .int .i64 m) (by simp [go_sem])
    clear r1
    have H0 : H7 (w.heap.size + 1 + 1) a b c d f t m w1 := ⟨⟨c2_0_1, c2_1_1, c2_2_1, c2_3_1, c2_4_1, c2_5_1⟩, c2_6_1⟩
    have HS := H0.later (bdrew w1)
    have n1 := own_later n1 (bdrew w1)
    have bd : Below w.heap.size w w1.drew := b1.drew
    obtain ⟨aD, cD, rfl⟩ := own_shape n1
    have hD5 := HD5.out
    rw [hD5]
    have rdD : Rd w1.drew (.slice aD 5 cD) 5 (ints D) := by have := Rd.of_own n1; rwa [hD5] at this
    have RDD := Lib.hid rdD; clear rdD
    clear n1 H0 hD5
    go_wp2_with fail
    refine startX (H7 (w.heap.size + 1 + 1) a b c d f t m) [] (by kernel_rfl) ?_
    generalize w1.drew = W at *
    refine takeX 0 19 (.int .i64 0) rfl rfl (by kernel_rfl) (fun _ _ _ h => h) (by rfl) (fun _ _ => rfl) HS ?_
    simp only [List.setIfInBounds_toArray, List.set_cons_zero, List.set_cons_succ]
    refine takeX 1 20 (.bool true) rfl rfl (by kernel_rfl) (fun _ _ _ h => h) (by rfl) (fun _ _ => by (go_simp; done)) HS ?_
    simp only [List.setIfInBounds_toArray, List.set_cons_zero, List.set_cons_succ]
    refine takeX 2 21 (.bool true) rfl rfl (by kernel_rfl) (fun _ _ _ h => h) (by rfl) (fun _ _ => rfl) HS ?_
    simp only [List.setIfInBounds_toArray, List.set_cons_zero, List.set_cons_succ]
    refine takeX 3 22 cv rfl rfl (by kernel_rfl) (fun _ _ _ h => h) (by rfl) (fun _ _ => rfl) HS ?_
    simp only [List.setIfInBounds_toArray, List.set_cons_zero, List.set_cons_succ]
    refine takeX 6 25 (.pointer (some ⟨w.heap.size + 1 + 1, 6, none⟩)) rfl rfl (by kernel_rfl) (fun _ _ _ h => h) (by rfl) (fun _ _ => by (go_simp; done)) HS ?_
    simp only [List.setIfInBounds_toArray, List.set_cons_zero, List.set_cons_succ]
    refine takeX 7 26 (.int .i64 m) rfl rfl (by kernel_rfl) (fun _ _ _ h => h) (by rfl) (fun w' hS => by (have q0 := hS.p6; clear hS HS; go_simp; done)) HS ?_
    simp only [List.setIfInBounds_toArray, List.set_cons_zero, List.set_cons_succ]
    refine stepX 4 (by kernel_rfl) rfl ?_
    intro K hK
    go_simp
    refine (HST.out _ bd).mono ?_
    rintro _ wa ⟨va, rfl, na, qa⟩
    have b2 := bd.trans (qa.mono bd.size)
    have HS := HS.later qa
    have rdD := RDD.out.later qa
    have rdS := Rd.of_own na
    obtain ⟨aS, cS, rfl⟩ := own_shape na
    have RDD2 := Lib.hid rdD; clear rdD
    have RDS := Lib.hid rdS; clear rdS
    clear RDD qa bd na
    refine hK _ _ (fun _ => HS) ?_
    clear hK K
    refine stepX 5 (by kernel_rfl) rfl ?_
    intro K hK
    go_simp
    refine (HMX.out _ _ RDS.out).mono ?_
    rintro _ _ ⟨rfl, rfl⟩
    refine hK _ _ (fun _ => HS) ?_
    clear hK K
    refine stepX 8 (by kernel_rfl) rfl ?_
    intro K hK
    go_simp
    refine hK _ _ (fun _ => HS) ?_
    clear hK K
    refine stepX 9 (by kernel_rfl) rfl ?_
    intro K hK
    go_simp
    refine hK _ _ (fun _ => HS) ?_
    clear hK K
    refine stepX 10 (by kernel_rfl) rfl ?_
    intro K hK
    go_simp
    refine hK _ _ (fun _ => HS) ?_
    clear hK K
    by_cases hmm : mx ≤ m
    · have d1 : decide (mx ≤ m) = true := decide_eq_true hmm
      rw [d1]
      refine takeX 11 30 (.slice aD 5 cD) rfl rfl (by kernel_rfl) (fun _ _ _ h => h) (by rfl) (fun _ _ => rfl) HS ?_
      simp only [List.setIfInBounds_toArray, List.set_cons_zero, List.set_cons_succ]
      refine takeX 13 32 (.pointer (some ⟨w.heap.size + 1 + 1, 5, none⟩)) rfl rfl (by kernel_rfl) (fun _ _ _ h => h) (by rfl) (fun _ _ => by (go_simp; done)) HS ?_
      simp only [List.setIfInBounds_toArray, List.set_cons_zero, List.set_cons_succ]
      refine takeX 14 33 (.int .i64 t) rfl rfl (by kernel_rfl) (fun _ _ _ h => h) (by rfl) (fun w' hS => by (have q0 := hS.h.p5; clear hS HS; go_simp; done)) HS ?_
      simp only [List.setIfInBounds_toArray, List.set_cons_zero, List.set_cons_succ]
      refine stepX 12 (by kernel_rfl) rfl ?_
      intro K hK
      go_simp
      refine (HGR.out _ _ RDD2.out).mono ?_
      rintro _ wb ⟨rfl, qb⟩
      have b3 := b2.trans (qb.mono b2.size)
      have HS := HS.later qb
      clear qb b2 RDD2 RDS
      refine hK _ _ (fun _ => HS) ?_
      clear hK K
      refine stepX 15 (by kernel_rfl) rfl ?_
      intro K hK
      go_simp
      refine hK _ _ (fun _ => HS) ?_
      clear hK K
      refine stepX 16 (by kernel_rfl) rfl ?_
      intro K hK
      go_simp
      refine hK _ _ (fun _ => HS) ?_
      clear hK K
      refine stepX 17 (by kernel_rfl) rfl ?_
      intro K hK
      go_simp
      refine hK _ _ (fun _ => HS) ?_
      clear hK K
      refine doneX (by kernel_rfl) ?_ _
      clear HS
      go_wp2
      go_returns
      exact RetB.mk (by simp [hmm]) b3
    · have d1 : decide (mx ≤ m) = false := decide_eq_false hmm
      rw [d1]
      refine takeXu 11 30 rfl rfl (by kernel_rfl) (fun _ _ _ h => h) (by rfl) HS ?_
      simp only [List.setIfInBounds_toArray, List.set_cons_zero, List.set_cons_succ]
      refine takeXu 13 32 rfl rfl (by kernel_rfl) (fun _ _ _ h => h) (by rfl) HS ?_
      simp only [List.setIfInBounds_toArray, List.set_cons_zero, List.set_cons_succ]
      refine takeXu 14 33 rfl rfl (by kernel_rfl) (fun _ _ _ h => h) (by rfl) HS ?_
      simp only [List.setIfInBounds_toArray, List.set_cons_zero, List.set_cons_succ]
      refine takeXu 12 31 rfl rfl (by kernel_rfl) (fun _ _ _ h => h) (by rfl) HS ?_
      simp only [List.setIfInBounds_toArray, List.set_cons_zero, List.set_cons_succ]
      refine takeXu 15 34 rfl rfl (by kernel_rfl) (fun _ _ _ h => h) (by rfl) HS ?_
      simp only [List.setIfInBounds_toArray, List.set_cons_zero, List.set_cons_succ]
      refine stepX 16 (by kernel_rfl) rfl ?_
      intro K hK
      go_simp
      refine hK _ _ (fun _ => HS) ?_
      clear hK K
      refine stepX 17 (by kernel_rfl) rfl ?_
      intro K hK
      go_simp
      refine hK _ _ (fun _ => HS) ?_
      clear hK K
      refine doneX (by kernel_rfl) ?_ _
      clear HS
      go_wp2
      go_returns
      exact RetB.mk (by simp [hmm]) b2

end Go.Proofs.YtmeeibcbhjifbaaGreat

/- Whether cuts are a plan: the reference. -/
namespace Go.Proofs.YtmeeibcbhjifbaaGreat
set_option linter.unusedVariables false
open Go.RowKit Go.Proofs.Bell Go.BigFrame

set_option maxRecDepth 100000 in
set_option maxHeartbeats 6400000 in
theorem specIsPlan_c (zv wv bv : Value) (zs : List Int) (ws : List (List Int)) (bs : List Int) (nm : ByteArray) (sv : Value) (ps : List (Int × Int × Int)) (a b c d f t m : Int) (cv : Value) (cs : List (Int × Int)) (w : World) (hz : Rd w zv zs.length (ints zs)) (hw : RdSS w wv ws) (hb : Rd w bv bs.length (ints bs)) (hnm : nm.size ≤ maxLen) (hr : Rd w sv ps.length (trips ps)) (hcv : Rd w cv cs.length (pairs cs)) :
    Calls Tryz.prog 7 #[.agg #[zv, wv, bv], .agg #[.string nm, sv], .agg #[.int .i64 a, .int .i64 b, .int .i64 c, .int .i64 d, .int .i64 f, .int .i64 t, .int .i64 m], cv] w (RetB (.bool (planI zs ws bs nm ps a b c d f t m cs)) w) := by
  have hde := fun w' (hx : Below w.heap.size w w') => specDeviationsAfter_c zv wv bv zs ws bs nm sv ps a b c d f t m cv cs w' (hz.later hx) (hw.later hx) (hb.later hx) hnm (hr.later hx) (hcv.later hx)
  by_cases t0 : ¬ (devI zs ws bs nm ps a b c d f t m cs).2 = 0
  · have he : planI zs ws bs nm ps a b c d f t m cs = false := by simp [planI, t0]
    rw [he]
    have t9 : ((devI zs ws bs nm ps a b c d f t m cs).2 == 0) = false := beq_eq_false_iff_ne.2 t0
    generalize devI zs ws bs nm ps a b c d f t m cs = R at *
    have HDE := Lib.hid hde; clear hde
    clear he hz hw hb hr hcv
    go_enter Tryz.func7, Tryz.ntmps7
    have b0 : Below w.heap.size w w := Below.refl _ _
    have z0 : w.heap.size ≤ w.heap.size := Nat.le_refl _
    go_wp2_with fail
    refine (HDE.out _ (by go_grown)).mono ?_
    rintro _ w1 ⟨x1, rfl, n1, r1⟩
    have s1 : Below w.heap.size w w1 := Below.trans (by go_grown) (r1.mono (by simp; try omega))
    have b1 := b0.trans (s1.mono z0)
    have z1 := b1.size
    have y1 := s1.size
    have c0_0_1 := below_cell r1 (p := ⟨w.heap.size, 0, none⟩) (v := zv) (by simp [go_sem])
    have c0_1_1 := below_cell r1 (p := ⟨w.heap.size, 1, none⟩) (v := wv) (by simp [go_sem])
    have c0_2_1 := below_cell r1 (p := ⟨w.heap.size, 2, none⟩) (v := bv) (by simp [go_sem])
    have c1_0_1 := below_cell r1 (p := ⟨w.heap.size + 1, 0, none⟩) (v := .string nm) (by simp [go_sem])
    have c1_1_1 := below_cell r1 (p := ⟨w.heap.size + 1, 1, none⟩) (v := sv) (by simp [go_sem])
    have c2_0_1 := below_cell r1 (p := ⟨w.heap.size + 1 + 1, 0, none⟩) (v := .int .i64 a) (by simp [go_sem])
    have c2_1_1 := below_cell r1 (p := ⟨w.heap.size + 1 + 1, 1, none⟩) (v := .int .i64 b) (by simp [go_sem])
    have c2_2_1 := below_cell r1 (p := ⟨w.heap.size + 1 + 1, 2, none⟩) (v := .int .i64 c) (by simp [go_sem])
    have c2_3_1 := below_cell r1 (p := ⟨w.heap.size + 1 + 1, 3, none⟩) (v := .int .i64 d) (by simp [go_sem])
    have c2_4_1 := below_cell r1 (p := ⟨w.heap.size + 1 + 1, 4, none⟩) (v := .int .i64 f) (by simp [go_sem])
    have c2_5_1 := below_cell r1 (p := ⟨w.heap.size + 1 + 1, 5, none⟩) (v := .int .i64 t) (by simp [go_sem])
    have c2_6_1 := below_cell r1 (p := ⟨w.heap.size + 1 + 1, 6, none⟩) (v := .int .i64 m) (by simp [go_sem])
    clear r1
    go_wp2_with fail
    go_quiet (fail)
    go_wp2
    go_returns
    exact RetB.mk rfl (below_drewN b1 _)
  · have t0 : (devI zs ws bs nm ps a b c d f t m cs).2 = 0 := Classical.not_not.1 t0
    obtain ⟨hcb, hD5, hDb⟩ := dev_zero t0
    have hs8 := sums8 cs
    have he : planI zs ws bs nm ps a b c d f t m cs = ((sumsOf cs).all (fun z => decide (z ≤ m)) && decide (absK (devI zs ws bs nm ps a b c d f t m cs).1 5 ≤ t)) := by
      rw [← maxI_le (by omega)]; simp [planI, t0]
    rw [he]
    rw [t0] at hde
    generalize (devI zs ws bs nm ps a b c d f t m cs).1 = D at *
    have hst := fun w' (hx : Below w.heap.size w w') => l09Sums_c cv cs w' (hcv.later hx) hcb
    have hgr := fun v w' (hx : Rd w' v D.length (ints D)) => l10Greatest_c v D w' hx hDb
    rw [hD5] at hgr
    generalize sumsOf cs = sums at *
    generalize absK D 5 = ab at *
    have HDE := Lib.hid hde; clear hde
    have HST := Lib.hid hst; clear hst
    have HGR := Lib.hid hgr; clear hgr
    have HD5 := Lib.hid hD5; clear hD5
    have HS8 := Lib.hid hs8; clear hs8
    clear hDb he hz hw hb hr hcv t0
    by_cases htt : ab ≤ t
    · have d1 : decide (t < ab) = false := decide_eq_false (by omega)
      have d2 : decide (ab ≤ t) = true := decide_eq_true htt
      rw [d2]
      simp only [Bool.and_true]
      generalize hRES : sums.all (fun z => decide (z ≤ m)) = RES
      have HRES := Lib.hid hRES; clear hRES
      go_enter Tryz.func7, Tryz.ntmps7
      have b0 : Below w.heap.size w w := Below.refl _ _
      have z0 : w.heap.size ≤ w.heap.size := Nat.le_refl _
      go_wp2_with fail
      refine (HDE.out _ (by go_grown)).mono ?_
      rintro _ w1 ⟨x1, rfl, n1, r1⟩
      have s1 : Below w.heap.size w w1 := Below.trans (by go_grown) (r1.mono (by simp; try omega))
      have b1 := b0.trans (s1.mono z0)
      have z1 := b1.size
      have y1 := s1.size
      have c0_0_1 := below_cell r1 (p := ⟨w.heap.size, 0, none⟩) (v := zv) (by simp [go_sem])
      have c0_1_1 := below_cell r1 (p := ⟨w.heap.size, 1, none⟩) (v := wv) (by simp [go_sem])
      have c0_2_1 := below_cell r1 (p := ⟨w.heap.size, 2, none⟩) (v := bv) (by simp [go_sem])
      have c1_0_1 := below_cell r1 (p := ⟨w.heap.size + 1, 0, none⟩) (v := .string nm) (by simp [go_sem])
      have c1_1_1 := below_cell r1 (p := ⟨w.heap.size + 1, 1, none⟩) (v := sv) (by simp [go_sem])
      have c2_0_1 := below_cell r1 (p := ⟨w.heap.size + 1 + 1, 0, none⟩) (v := .int .i64 a) (by simp [go_sem])
      have c2_1_1 := below_cell r1 (p := ⟨w.heap.size + 1 + 1, 1, none⟩) (v := .int .i64 b) (by simp [go_sem])
      have c2_2_1 := below_cell r1 (p := ⟨w.heap.size + 1 + 1, 2, none⟩) (v := .int .i64 c) (by simp [go_sem])
      have c2_3_1 := below_cell r1 (p := ⟨w.heap.size + 1 + 1, 3, none⟩) (v := .int .i64 d) (by simp [go_sem])
      have c2_4_1 := below_cell r1 (p := ⟨w.heap.size + 1 + 1, 4, none⟩) (v := .int .i64 f) (by simp [go_sem])
      have c2_5_1 := below_cell r1 (p := ⟨w.heap.size + 1 + 1, 5, none⟩) (v := .int .i64 t) (by simp [go_sem])
      have c2_6_1 := below_cell r1 (p := ⟨w.heap.size + 1 + 1, 6, none⟩) (v := .int .i64 m) (by simp [go_sem])
      clear r1
      have H0 : H7 (w.heap.size + 1 + 1) a b c d f t m w1 := ⟨⟨c2_0_1, c2_1_1, c2_2_1, c2_3_1, c2_4_1, c2_5_1⟩, c2_6_1⟩
      have HS := H0.later (bdrew w1)
      have n1 := own_later n1 (bdrew w1)
      have bd : Below w.heap.size w w1.drew := b1.drew
      obtain ⟨aD, cD, rfl⟩ := own_shape n1
      have hD5 := HD5.out
      rw [hD5]
      have rdD : Rd w1.drew (.slice aD 5 cD) 5 (ints D) := by have := Rd.of_own n1; rwa [hD5] at this
      have RDD := Lib.hid rdD; clear rdD
      clear n1 H0 hD5
      go_wp2_with fail
      refine startX (H7 (w.heap.size + 1 + 1) a b c d f t m) [] (by kernel_rfl) ?_
      generalize w1.drew = W at *
      refine takeX 0 21 (.int .i64 0) rfl rfl (by kernel_rfl) (fun _ _ _ h => h) (by rfl) (fun _ _ => rfl) HS ?_
      simp only [List.setIfInBounds_toArray, List.set_cons_zero, List.set_cons_succ]
      refine takeX 1 22 (.bool false) rfl rfl (by kernel_rfl) (fun _ _ _ h => h) (by rfl) (fun _ _ => by (go_simp; done)) HS ?_
      simp only [List.setIfInBounds_toArray, List.set_cons_zero, List.set_cons_succ]
      refine takeX 2 23 (.bool false) rfl rfl (by kernel_rfl) (fun _ _ _ h => h) (by rfl) (fun _ _ => rfl) HS ?_
      simp only [List.setIfInBounds_toArray, List.set_cons_zero, List.set_cons_succ]
      refine takeX 3 24 (.slice aD 5 cD) rfl rfl (by kernel_rfl) (fun _ _ _ h => h) (by rfl) (fun _ _ => rfl) HS ?_
      simp only [List.setIfInBounds_toArray, List.set_cons_zero, List.set_cons_succ]
      refine takeX 5 26 (.pointer (some ⟨w.heap.size + 1 + 1, 5, none⟩)) rfl rfl (by kernel_rfl) (fun _ _ _ h => h) (by rfl) (fun _ _ => by (go_simp; done)) HS ?_
      simp only [List.setIfInBounds_toArray, List.set_cons_zero, List.set_cons_succ]
      refine takeX 6 27 (.int .i64 t) rfl rfl (by kernel_rfl) (fun _ _ _ h => h) (by rfl) (fun w' hS => by (have q0 := hS.h.p5; clear hS HS; go_simp; done)) HS ?_
      simp only [List.setIfInBounds_toArray, List.set_cons_zero, List.set_cons_succ]
      refine stepX 4 (by kernel_rfl) rfl ?_
      intro K hK
      go_simp
      refine (HGR.out _ _ RDD.out).mono ?_
      rintro _ wa ⟨rfl, qa⟩
      have b2 := bd.trans (qa.mono bd.size)
      have HS := HS.later qa
      clear RDD qa bd
      refine hK _ _ (fun _ => HS) ?_
      clear hK K
      refine stepX 7 (by kernel_rfl) rfl ?_
      intro K hK
      go_simp
      refine hK _ _ (fun _ => HS) ?_
      clear hK K
      refine stepX 8 (by kernel_rfl) rfl ?_
      intro K hK
      go_simp
      refine hK _ _ (fun _ => HS) ?_
      clear hK K
      refine doneX (by kernel_rfl) ?_ _
      go_wp2_with fail
      refine (HST.out _ b2).mono ?_
      rintro _ wb ⟨vb, rfl, nb, qb⟩
      have b3 := b2.trans (qb.mono b2.size)
      have HS := HS.later qb
      obtain ⟨gs, cS, hv, hg1, hg2⟩ := World.ownsRow.form nb (by rw [HS8.out]; decide)
      subst hv
      have hcc := fun k (hk : k < 8) => (World.ownsRow.cellAt nb k (by rw [HS8.out]; omega)).trans ((intsAt (show k < sums.length by rw [HS8.out]; exact hk)).trans (congrArg (fun z => some (Value.int .i64 z)) (getD_eq (show k < sums.length by rw [HS8.out]; exact hk)).symm))
      have h8 := HS8.out
      rw [h8]
      have HCC := Lib.hid hcc; clear hcc
      have HS7 := Lib.hid HS; clear HS
      clear nb qb b2 h8
      go_wp2_with fail
      go_loopw [12] (fun i wr => ∃ (k : Nat), k ≤ 8 ∧ i = .int .i64 k ∧ Below wb.heap.size wb wr ∧ ∀ j, j < k → sums.getD j 0 ≤ m) (fun i _ => 8 - (intOf i).toNat)
      case atStart => exact ⟨0, Nat.zero_le _, rfl, Below.refl _ _, fun j hj => absurd hj (Nat.not_lt_zero _)⟩
      case round =>
        obtain ⟨k, hk, rfl, hbr, hall⟩ := hrel
        have b4 := b3.trans (hbr.mono b3.size)
        by_cases hlt : k < 8
        · have hltd : decide (k < 8) = true := decide_eq_true hlt
          have e1 := below_cell hbr (HCC.out k hlt)
          have e2 := below_cell hbr HS7.out.p6
          have hix := ix (P := Tryz.prog) (T := 22) (n := 8) (cap := cS) Tryz.underlying22 cells_int64 has_int64 (ao := some ⟨gs, 0, none⟩) (b := gs) (off := 0) (fun _ => rfl) (k := k) hlt _ rfl
          rw [Nat.mul_one, Nat.zero_add] at hix
          by_cases hxm : m < sums.getD k 0
          · have hres : sums.all (fun z => decide (z ≤ m)) = false := by
              rw [Bool.eq_false_iff]
              intro h
              have h1 := List.all_eq_true.1 h (sums.getD k 0) (by rw [getD_eq (show k < sums.length by rw [HS8.out]; exact hlt)]; exact List.getElem_mem _)
              have := of_decide_eq_true h1
              omega
            have d3 : decide (m < sums.getD k 0) = true := decide_eq_true hxm
            have hR := HRES.out
            rw [hres] at hR
            subst hR
            clear HRES
            generalize sums.getD k 0 = x at *
            clear hall hres
            go_wp2_with fail
            go_quiet (fail)
            go_wp2
            go_returns
            exact RetB.mk rfl (below_drewN b4 _)
          · have hall2 : ∀ j, j < k + 1 → sums.getD j 0 ≤ m := fun j hj => by
              rcases Nat.lt_or_ge j k with h | h
              · exact hall j h
              · obtain rfl : j = k := by omega
                omega
            have d3 : decide (m < sums.getD k 0) = false := decide_eq_false hxm
            generalize sums.getD k 0 = x at *
            have HALL := Lib.hid hall2; clear hall2
            clear hall
            go_wp2_with fail
            go_quiet (fail)
            go_wp2
            go_roundw
            case rel => exact ⟨k + 1, by omega, by go_num, below_drewN hbr _, HALL.out⟩
            case measure => simp [intOf]; omega
        · obtain rfl : k = 8 := by omega
          have hltd : decide (8 < 8) = false := rfl
          have hres : sums.all (fun z => decide (z ≤ m)) = true := by
            rw [List.all_eq_true]
            intro z hz
            obtain ⟨j, hj, rfl⟩ := List.getElem_of_mem hz
            rw [decide_eq_true_eq, ← getD_eq hj]
            exact hall j (by rw [HS8.out] at hj; exact hj)
          have hR := HRES.out
          rw [hres] at hR
          subst hR
          clear hall hres HRES
          go_wp2
          go_returns
          exact RetB.mk rfl b4
    · have d1 : decide (t < ab) = true := decide_eq_true (by omega)
      have d2 : decide (ab ≤ t) = false := decide_eq_false htt
      rw [d2]
      simp only [Bool.and_false]
      go_enter Tryz.func7, Tryz.ntmps7
      have b0 : Below w.heap.size w w := Below.refl _ _
      have z0 : w.heap.size ≤ w.heap.size := Nat.le_refl _
      go_wp2_with fail
      refine (HDE.out _ (by go_grown)).mono ?_
      rintro _ w1 ⟨x1, rfl, n1, r1⟩
      have s1 : Below w.heap.size w w1 := Below.trans (by go_grown) (r1.mono (by simp; try omega))
      have b1 := b0.trans (s1.mono z0)
      have z1 := b1.size
      have y1 := s1.size
      have c0_0_1 := below_cell r1 (p := ⟨w.heap.size, 0, none⟩) (v := zv) (by simp [go_sem])
      have c0_1_1 := below_cell r1 (p := ⟨w.heap.size, 1, none⟩) (v := wv) (by simp [go_sem])
      have c0_2_1 := below_cell r1 (p := ⟨w.heap.size, 2, none⟩) (v := bv) (by simp [go_sem])
      have c1_0_1 := below_cell r1 (p := ⟨w.heap.size + 1, 0, none⟩) (v := .string nm) (by simp [go_sem])
      have c1_1_1 := below_cell r1 (p := ⟨w.heap.size + 1, 1, none⟩) (v := sv) (by simp [go_sem])
      have c2_0_1 := below_cell r1 (p := ⟨w.heap.size + 1 + 1, 0, none⟩) (v := .int .i64 a) (by simp [go_sem])
      have c2_1_1 := below_cell r1 (p := ⟨w.heap.size + 1 + 1, 1, none⟩) (v := .int .i64 b) (by simp [go_sem])
      have c2_2_1 := below_cell r1 (p := ⟨w.heap.size + 1 + 1, 2, none⟩) (v := .int .i64 c) (by simp [go_sem])
      have c2_3_1 := below_cell r1 (p := ⟨w.heap.size + 1 + 1, 3, none⟩) (v := .int .i64 d) (by simp [go_sem])
      have c2_4_1 := below_cell r1 (p := ⟨w.heap.size + 1 + 1, 4, none⟩) (v := .int .i64 f) (by simp [go_sem])
      have c2_5_1 := below_cell r1 (p := ⟨w.heap.size + 1 + 1, 5, none⟩) (v := .int .i64 t) (by simp [go_sem])
      have c2_6_1 := below_cell r1 (p := ⟨w.heap.size + 1 + 1, 6, none⟩) (v := .int .i64 m) (by simp [go_sem])
      clear r1
      have H0 : H7 (w.heap.size + 1 + 1) a b c d f t m w1 := ⟨⟨c2_0_1, c2_1_1, c2_2_1, c2_3_1, c2_4_1, c2_5_1⟩, c2_6_1⟩
      have HS := H0.later (bdrew w1)
      have n1 := own_later n1 (bdrew w1)
      have bd : Below w.heap.size w w1.drew := b1.drew
      obtain ⟨aD, cD, rfl⟩ := own_shape n1
      have hD5 := HD5.out
      rw [hD5]
      have rdD : Rd w1.drew (.slice aD 5 cD) 5 (ints D) := by have := Rd.of_own n1; rwa [hD5] at this
      have RDD := Lib.hid rdD; clear rdD
      clear n1 H0 hD5
      go_wp2_with fail
      refine startX (H7 (w.heap.size + 1 + 1) a b c d f t m) [] (by kernel_rfl) ?_
      generalize w1.drew = W at *
      refine takeX 0 21 (.int .i64 0) rfl rfl (by kernel_rfl) (fun _ _ _ h => h) (by rfl) (fun _ _ => rfl) HS ?_
      simp only [List.setIfInBounds_toArray, List.set_cons_zero, List.set_cons_succ]
      refine takeX 1 22 (.bool false) rfl rfl (by kernel_rfl) (fun _ _ _ h => h) (by rfl) (fun _ _ => by (go_simp; done)) HS ?_
      simp only [List.setIfInBounds_toArray, List.set_cons_zero, List.set_cons_succ]
      refine takeX 2 23 (.bool false) rfl rfl (by kernel_rfl) (fun _ _ _ h => h) (by rfl) (fun _ _ => rfl) HS ?_
      simp only [List.setIfInBounds_toArray, List.set_cons_zero, List.set_cons_succ]
      refine takeX 3 24 (.slice aD 5 cD) rfl rfl (by kernel_rfl) (fun _ _ _ h => h) (by rfl) (fun _ _ => rfl) HS ?_
      simp only [List.setIfInBounds_toArray, List.set_cons_zero, List.set_cons_succ]
      refine takeX 5 26 (.pointer (some ⟨w.heap.size + 1 + 1, 5, none⟩)) rfl rfl (by kernel_rfl) (fun _ _ _ h => h) (by rfl) (fun _ _ => by (go_simp; done)) HS ?_
      simp only [List.setIfInBounds_toArray, List.set_cons_zero, List.set_cons_succ]
      refine takeX 6 27 (.int .i64 t) rfl rfl (by kernel_rfl) (fun _ _ _ h => h) (by rfl) (fun w' hS => by (have q0 := hS.h.p5; clear hS HS; go_simp; done)) HS ?_
      simp only [List.setIfInBounds_toArray, List.set_cons_zero, List.set_cons_succ]
      refine stepX 4 (by kernel_rfl) rfl ?_
      intro K hK
      go_simp
      refine (HGR.out _ _ RDD.out).mono ?_
      rintro _ wa ⟨rfl, qa⟩
      have b2 := bd.trans (qa.mono bd.size)
      have HS := HS.later qa
      clear RDD qa bd
      refine hK _ _ (fun _ => HS) ?_
      clear hK K
      refine stepX 7 (by kernel_rfl) rfl ?_
      intro K hK
      go_simp
      refine hK _ _ (fun _ => HS) ?_
      clear hK K
      refine stepX 8 (by kernel_rfl) rfl ?_
      intro K hK
      go_simp
      refine hK _ _ (fun _ => HS) ?_
      clear hK K
      refine doneX (by kernel_rfl) ?_ _
      go_wp2
      go_returns
      exact RetB.mk rfl b2

end Go.Proofs.YtmeeibcbhjifbaaGreat

