/- By how much partials become less: the program. -/
import Derived.Test.YtmickkodcclocaaSens2
import Derived.Deep.RegionHeld3
namespace Go.Proofs.Ytmickkodcclocaa
set_option linter.unusedVariables false
open Go.RowKit Go.Proofs.Bell Go.BigFrame

set_option maxRecDepth 100000 in
set_option maxHeartbeats 6400000 in
theorem implSensitivity_c (zv wv bv : Value) (zs : List Int) (ws : List (List Int)) (bs : List Int) (nm : ByteArray) (sv : Value) (ps : List (Int × Int × Int)) (zone : Int) (w : World) (hz : Rd w zv zs.length (ints zs)) (hw : RdSS w wv ws) (hb : Rd w bv bs.length (ints bs)) (hnm : nm.size ≤ maxLen) (hr : Rd w sv ps.length (trips ps)) :
    Calls Try.prog 45 #[.agg #[zv, wv, bv], .agg #[.string nm, sv], .int .i64 zone] w (RetI2 (senI zs ws bs nm ps zone).1 (.int .i64 (senI zs ws bs nm ps zone).2) w) := by
  have hask := fun w' (hx : Below w.heap.size w w') => modelled_c zv wv bv zs ws bs nm sv ps w' (hz.later hx) (hw.later hx) (hb.later hx) hnm (hr.later hx)
  by_cases t0 : ¬ modAsk zs ws bs nm ps = 0
  · have he : senI zs ws bs nm ps zone = ([], modAsk zs ws bs nm ps) := by simp [senI, t0]
    rw [he]
    have t1 : (modAsk zs ws bs nm ps == 0) = false := by simp [t0]
    generalize modAsk zs ws bs nm ps = code at *
    have HASK := Lib.hid hask; clear hask
    clear he hz hw hb hr
    go_enter Try.func45, Try.ntmps45
    have b0 : Below w.heap.size w w := Below.refl _ _
    have z0 : w.heap.size ≤ w.heap.size := Nat.le_refl _
    go_wp2_with fail
    refine (HASK.out _ (by go_grown)).mono ?_
    rintro _ w1 ⟨rfl, r1⟩
    have s1 : Below w.heap.size w w1 := Below.trans (by go_grown) (r1.mono (by simp; try omega))
    have b1 := b0.trans (s1.mono z0)
    have z1 := b1.size
    have y1 := s1.size
    have c0_0_1 := below_cell r1 (p := ⟨w.heap.size, 0, none⟩) (v := zv) (by simp [go_sem])
    have c0_1_1 := below_cell r1 (p := ⟨w.heap.size, 1, none⟩) (v := wv) (by simp [go_sem])
    have c0_2_1 := below_cell r1 (p := ⟨w.heap.size, 2, none⟩) (v := bv) (by simp [go_sem])
    have c1_0_1 := below_cell r1 (p := ⟨w.heap.size + 1, 0, none⟩) (v := .string nm) (by simp [go_sem])
    have c1_1_1 := below_cell r1 (p := ⟨w.heap.size + 1, 1, none⟩) (v := sv) (by simp [go_sem])
    clear r1
    go_wp2
    go_returns
    exact ⟨_, rfl, World.ownsRow_nil _ _ _ _, b1⟩
  · have t0 : modAsk zs ws bs nm ps = 0 := Classical.not_not.1 t0
    rw [t0] at hask
    have hin := fun w' => within_c zone 0 ((zs.length : Int) - 1) w'
    have hsz := fun w' (hx : Below w.heap.size w w') => size64_c zv zs.length (ints zs) w' (hz.later hx)
    have hap := fun w' u (hx : Below w.heap.size w w') (hu : Rd w' u 1 (pairs [(zone, 1)])) => implApplyCuts_c nm sv ps zv zs u [(zone, 1)] w' hnm (hr.later hx) (hz.later hx) hu
    have HSZ := Lib.hid hsz; clear hsz
    have hzl := hz.1
    have HASK := Lib.hid hask; clear hask
    have HIN := Lib.hid hin; clear hin
    cases t1 : inB zone 0 ((zs.length : Int) - 1) <;> rw [t1] at HIN
    · have he : senI zs ws bs nm ps zone = ([], 2) := by simp [senI, t0, t1]
      rw [he]
      obtain ⟨hnq, aoq, capq, bq, offq, rfl, haoq, hcellq⟩ := hz.open
      generalize applyI nm ps zs [(zone, 1)] = RES at *
      have HAP := Lib.hid hap; clear hap
      clear he hz hw hb hr hcellq haoq
      generalize zs.length = n at *
      go_enter Try.func45, Try.ntmps45
      have b0 : Below w.heap.size w w := Below.refl _ _
      have z0 : w.heap.size ≤ w.heap.size := Nat.le_refl _
      go_wp2_with fail
      refine (HASK.out _ (by go_grown)).mono ?_
      rintro _ w1 ⟨rfl, r1⟩
      have s1 : Below w.heap.size w w1 := Below.trans (by go_grown) (r1.mono (by simp; try omega))
      have b1 := b0.trans (s1.mono z0)
      have z1 := b1.size
      have y1 := s1.size
      have c0_0_1 := below_cell r1 (p := ⟨w.heap.size, 0, none⟩) (v := .slice aoq n capq) (by simp [go_sem])
      have c0_1_1 := below_cell r1 (p := ⟨w.heap.size, 1, none⟩) (v := wv) (by simp [go_sem])
      have c0_2_1 := below_cell r1 (p := ⟨w.heap.size, 2, none⟩) (v := bv) (by simp [go_sem])
      have c1_0_1 := below_cell r1 (p := ⟨w.heap.size + 1, 0, none⟩) (v := .string nm) (by simp [go_sem])
      have c1_1_1 := below_cell r1 (p := ⟨w.heap.size + 1, 1, none⟩) (v := sv) (by simp [go_sem])
      clear r1
      have e0 := fun o => alloc_cell o c0_0_1
      have e1 := fun o => alloc_cell o c1_0_1
      have e2 := fun o => alloc_cell o c1_1_1
      go_wp2_with fail
      have k1 : Below w1.heap.size w1 (w1.alloc (.cells #[.int .i64 zone, .int .i64 1] 94)) := (Below.refl _ _).alloc (Nat.le_refl _) _
      have hu : Rd (w1.alloc (.cells #[.int .i64 zone, .int .i64 1] 94)) (.slice (some ⟨w1.heap.size, 0, none⟩) 1 1) 1 (pairs [(zone, 1)]) := rd_cut1 (by simp) (by simp [go_sem]) (by simp [go_sem])
      clear e0 e1 e2
      generalize w1.alloc (.cells #[.int .i64 zone, .int .i64 1] 94) = wa at *
      have s2 := k1
      have b2 := b1.trans (s2.mono z1)
      have z2 := b2.size
      have y2 := s2.size
      have c0_0_2 := below_cell s2 c0_0_1; clear c0_0_1
      have c0_1_2 := below_cell s2 c0_1_1; clear c0_1_1
      have c0_2_2 := below_cell s2 c0_2_1; clear c0_2_1
      have c1_0_2 := below_cell s2 c1_0_1; clear c1_0_1
      have c1_1_2 := below_cell s2 c1_1_1; clear c1_1_1
      have HU := Lib.hid hu; clear hu
      go_wp2_with fail
      refine (HAP.out _ _ b2 HU.out).mono ?_
      rintro _ w3 ⟨x3, rfl, n3, r3⟩
      have s3 := r3
      have b3 := b2.trans (s3.mono z2)
      have z3 := b3.size
      have y3 := s3.size
      have c0_0_3 := below_cell s3 c0_0_2; clear c0_0_2
      have c0_1_3 := below_cell s3 c0_1_2; clear c0_1_2
      have c0_2_3 := below_cell s3 c0_2_2; clear c0_2_2
      have c1_0_3 := below_cell s3 c1_0_2; clear c1_0_2
      have c1_1_3 := below_cell s3 c1_1_2; clear c1_1_2
      clear r3
      obtain ⟨a4, p4, rfl⟩ := own_shape n3
      have e0 := fun o => alloc_cell o c0_0_3
      clear n3
      go_wp2_with fail
      refine (HSZ.out _ (by go_grown)).mono ?_
      rintro _ _ ⟨rfl, rfl⟩
      go_wp2_with fail
      refine (HIN.out _).mono ?_
      rintro _ _ ⟨rfl, rfl⟩
      go_wp2
      go_returns
      exact ⟨_, rfl, World.ownsRow_nil _ _ _ _, by go_grown⟩
    · skip
      by_cases t2 : ¬ (applyI nm ps zs [(zone, 1)]).2.2 = 0
      · have he : senI zs ws bs nm ps zone = ([], 6) := by simp [senI, t0, t1, t2]
        rw [he]
        generalize applyI nm ps zs [(zone, 1)] = RES at *
        obtain ⟨hnq, aoq, capq, bq, offq, rfl, haoq, hcellq⟩ := hz.open
        have HAP := Lib.hid hap; clear hap
        clear he hz hw hb hr hcellq haoq t0 t1
        generalize zs.length = n at *
        go_enter Try.func45, Try.ntmps45
        have b0 : Below w.heap.size w w := Below.refl _ _
        have z0 : w.heap.size ≤ w.heap.size := Nat.le_refl _
        go_wp2_with fail
        refine (HASK.out _ (by go_grown)).mono ?_
        rintro _ w1 ⟨rfl, r1⟩
        have s1 : Below w.heap.size w w1 := Below.trans (by go_grown) (r1.mono (by simp; try omega))
        have b1 := b0.trans (s1.mono z0)
        have z1 := b1.size
        have y1 := s1.size
        have c0_0_1 := below_cell r1 (p := ⟨w.heap.size, 0, none⟩) (v := .slice aoq n capq) (by simp [go_sem])
        have c0_1_1 := below_cell r1 (p := ⟨w.heap.size, 1, none⟩) (v := wv) (by simp [go_sem])
        have c0_2_1 := below_cell r1 (p := ⟨w.heap.size, 2, none⟩) (v := bv) (by simp [go_sem])
        have c1_0_1 := below_cell r1 (p := ⟨w.heap.size + 1, 0, none⟩) (v := .string nm) (by simp [go_sem])
        have c1_1_1 := below_cell r1 (p := ⟨w.heap.size + 1, 1, none⟩) (v := sv) (by simp [go_sem])
        clear r1
        have e0 := fun o => alloc_cell o c0_0_1
        have e1 := fun o => alloc_cell o c1_0_1
        have e2 := fun o => alloc_cell o c1_1_1
        go_wp2_with fail
        have k1 : Below w1.heap.size w1 (w1.alloc (.cells #[.int .i64 zone, .int .i64 1] 94)) := (Below.refl _ _).alloc (Nat.le_refl _) _
        have hu : Rd (w1.alloc (.cells #[.int .i64 zone, .int .i64 1] 94)) (.slice (some ⟨w1.heap.size, 0, none⟩) 1 1) 1 (pairs [(zone, 1)]) := rd_cut1 (by simp) (by simp [go_sem]) (by simp [go_sem])
        clear e0 e1 e2
        generalize w1.alloc (.cells #[.int .i64 zone, .int .i64 1] 94) = wa at *
        have s2 := k1
        have b2 := b1.trans (s2.mono z1)
        have z2 := b2.size
        have y2 := s2.size
        have c0_0_2 := below_cell s2 c0_0_1; clear c0_0_1
        have c0_1_2 := below_cell s2 c0_1_1; clear c0_1_1
        have c0_2_2 := below_cell s2 c0_2_1; clear c0_2_1
        have c1_0_2 := below_cell s2 c1_0_1; clear c1_0_1
        have c1_1_2 := below_cell s2 c1_1_1; clear c1_1_1
        have HU := Lib.hid hu; clear hu
        go_wp2_with fail
        refine (HAP.out _ _ b2 HU.out).mono ?_
        rintro _ w3 ⟨x3, rfl, n3, r3⟩
        have s3 := r3
        have b3 := b2.trans (s3.mono z2)
        have z3 := b3.size
        have y3 := s3.size
        have c0_0_3 := below_cell s3 c0_0_2; clear c0_0_2
        have c0_1_3 := below_cell s3 c0_1_2; clear c0_1_2
        have c0_2_3 := below_cell s3 c0_2_2; clear c0_2_2
        have c1_0_3 := below_cell s3 c1_0_2; clear c1_0_2
        have c1_1_3 := below_cell s3 c1_1_2; clear c1_1_2
        clear r3
        obtain ⟨a4, p4, rfl⟩ := own_shape n3
        have e0 := fun o => alloc_cell o c0_0_3
        clear n3
        go_wp2_with fail
        refine (HSZ.out _ (by go_grown)).mono ?_
        rintro _ _ ⟨rfl, rfl⟩
        go_wp2_with fail
        refine (HIN.out _).mono ?_
        rintro _ _ ⟨rfl, rfl⟩
        go_wp2
        go_returns
        exact ⟨_, rfl, World.ownsRow_nil _ _ _ _, by go_grown⟩
      · have t2 : (applyI nm ps zs [(zone, 1)]).2.2 = 0 := Classical.not_not.1 t2
        obtain ⟨m1, m2, m3⟩ := modAsk_ok t0
        obtain ⟨hl1, hl2, hal, hht⟩ := profB_t m2
        obtain ⟨hp2, hq2⟩ := applyI_zones t2
        obtain ⟨_, hql, hqa⟩ := applyI_ok t2
        have he : senI zs ws bs nm ps zone = (diffK (rawL ps zs ws bs) (rawL (applyI nm ps zs [(zone, 1)]).2.1 zs ws bs) 5, 0) := by simp [senI, t0, t1, t2]
        rw [he]
        generalize hRES : applyI nm ps zs [(zone, 1)] = RES at *
        clear hRES
        obtain ⟨rn, qs, rc⟩ := RES
        simp only at *
        subst t2 hq2
        have hzq : zonesB zs ((qs.length : Int) - 1) = true := by rw [hql]; exact m3
        have hraw := fun w' (hx : Below w.heap.size w w') => rawPartials_c zv wv bv zs ws bs rn sv ps w' (hz.later hx) (hw.later hx) (hb.later hx) (hr.later hx) m1 hl1 hl2 hal m3
        have hraw2 := fun w' u (hx : Below w.heap.size w w') (hu : Rd w' u qs.length (trips qs)) => rawPartials_c zv wv bv zs ws bs rn u qs w' (hz.later hx) (hw.later hx) (hb.later hx) hu m1 (by omega) (by omega) hqa hzq
        have hsv : ∃ ao n cap, sv = .slice ao n cap := by obtain ⟨_, ao, cap, _, _, h, _⟩ := hr.open; exact ⟨_, _, _, h⟩
        have hwv : ∃ ao n cap, wv = .slice ao n cap := by obtain ⟨us, _, hru, _⟩ := hw; obtain ⟨_, ao, cap, _, _, h, _⟩ := hru.open; exact ⟨_, _, _, h⟩
        have hbv : ∃ ao n cap, bv = .slice ao n cap := by obtain ⟨_, ao, cap, _, _, h, _⟩ := hb.open; exact ⟨_, _, _, h⟩
        obtain ⟨aos, ns, caps, rfl⟩ := hsv
        obtain ⟨aow, nw, capw, rfl⟩ := hwv
        obtain ⟨aob, nb, capb, rfl⟩ := hbv
        have hbd1 := fun k hk => raw_bd m1 hl1 hal m3 (k := k) hk
        have hbd2 := fun k hk => raw_bd (ps := qs) m1 (by omega) hqa hzq (k := k) hk
        have hln1 : (rawL ps zs ws bs).length = 5 := rawK_len _ _ _ _ _
        have hln2 : (rawL qs zs ws bs).length = 5 := rawK_len _ _ _ _ _
        generalize rawL ps zs ws bs = r1 at *
        generalize rawL qs zs ws bs = r2 at *
        have hst := fun k => (show diffK r1 r2 k ++ [r1.getD k 0 - r2.getD k 0] = diffK r1 r2 (k + 1) from rfl)
        have hdl := diffK_len r1 r2
        obtain ⟨hnq, aoq, capq, bq, offq, rfl, haoq, hcellq⟩ := hz.open
        have HAP := Lib.hid hap; clear hap
        have HRAW := Lib.hid hraw; clear hraw
        have HRAW2 := Lib.hid hraw2; clear hraw2
        have HBD1 := Lib.hid hbd1; clear hbd1
        have HBD2 := Lib.hid hbd2; clear hbd2
        have HST := Lib.hid hst; clear hst
        have HDL := Lib.hid hdl; clear hdl
        clear he hz hw hb hr hcellq haoq t0 t1 m1 m2 m3 hht hal hp2 hqa hzq
        generalize zs.length = n at *
        go_enter Try.func45, Try.ntmps45
        have b0 : Below w.heap.size w w := Below.refl _ _
        have z0 : w.heap.size ≤ w.heap.size := Nat.le_refl _
        go_wp2_with fail
        refine (HASK.out _ (by go_grown)).mono ?_
        rintro _ w1 ⟨rfl, r1⟩
        have s1 : Below w.heap.size w w1 := Below.trans (by go_grown) (r1.mono (by simp; try omega))
        have b1 := b0.trans (s1.mono z0)
        have z1 := b1.size
        have y1 := s1.size
        have c0_0_1 := below_cell r1 (p := ⟨w.heap.size, 0, none⟩) (v := .slice aoq n capq) (by simp [go_sem])
        have c0_1_1 := below_cell r1 (p := ⟨w.heap.size, 1, none⟩) (v := .slice aow nw capw) (by simp [go_sem])
        have c0_2_1 := below_cell r1 (p := ⟨w.heap.size, 2, none⟩) (v := .slice aob nb capb) (by simp [go_sem])
        have c1_0_1 := below_cell r1 (p := ⟨w.heap.size + 1, 0, none⟩) (v := .string rn) (by simp [go_sem])
        have c1_1_1 := below_cell r1 (p := ⟨w.heap.size + 1, 1, none⟩) (v := .slice aos ns caps) (by simp [go_sem])
        clear r1
        have e0 := fun o => alloc_cell o c0_0_1
        have e1 := fun o => alloc_cell o c1_0_1
        have e2 := fun o => alloc_cell o c1_1_1
        go_wp2_with fail
        have k1 : Below w1.heap.size w1 (w1.alloc (.cells #[.int .i64 zone, .int .i64 1] 94)) := (Below.refl _ _).alloc (Nat.le_refl _) _
        have hu : Rd (w1.alloc (.cells #[.int .i64 zone, .int .i64 1] 94)) (.slice (some ⟨w1.heap.size, 0, none⟩) 1 1) 1 (pairs [(zone, 1)]) := rd_cut1 (by simp) (by simp [go_sem]) (by simp [go_sem])
        clear e0 e1 e2
        generalize w1.alloc (.cells #[.int .i64 zone, .int .i64 1] 94) = wa at *
        have s2 := k1
        have b2 := b1.trans (s2.mono z1)
        have z2 := b2.size
        have y2 := s2.size
        have c0_0_2 := below_cell s2 c0_0_1; clear c0_0_1
        have c0_1_2 := below_cell s2 c0_1_1; clear c0_1_1
        have c0_2_2 := below_cell s2 c0_2_1; clear c0_2_1
        have c1_0_2 := below_cell s2 c1_0_1; clear c1_0_1
        have c1_1_2 := below_cell s2 c1_1_1; clear c1_1_1
        have HU := Lib.hid hu; clear hu
        go_wp2_with fail
        refine (HAP.out _ _ b2 HU.out).mono ?_
        rintro _ w3 ⟨x3, rfl, n3, r3⟩
        have s3 := r3
        have b3 := b2.trans (s3.mono z2)
        have z3 := b3.size
        have y3 := s3.size
        have c0_0_3 := below_cell s3 c0_0_2; clear c0_0_2
        have c0_1_3 := below_cell s3 c0_1_2; clear c0_1_2
        have c0_2_3 := below_cell s3 c0_2_2; clear c0_2_2
        have c1_0_3 := below_cell s3 c1_0_2; clear c1_0_2
        have c1_1_3 := below_cell s3 c1_1_2; clear c1_1_2
        clear r3
        obtain ⟨a4, p4, rfl⟩ := own_shape n3
        have rq := Rd.of_own n3
        rw [hql] at rq
        rw [hql]
        have HQL := Lib.hid hql; clear hql
        have RQ := Lib.hid rq; clear rq
        clear n3
        have e0 := fun o => alloc_cell o c0_0_3
        have kb3 : ∀ o, Below w3.heap.size w3 (w3.alloc o) := fun o => (Below.refl _ _).alloc (Nat.le_refl _) o
        have e4 : ∀ t, (w3.alloc (.cells #[.string rn, .slice a4 ps.length p4] t)).cell? ⟨w3.heap.size, 1, none⟩ = some (.slice a4 ps.length p4) := fun t => by simp [go_sem]
        have e5 : ∀ t, (w3.alloc (.cells #[.string rn, .slice a4 ps.length p4] t)).cell? ⟨w3.heap.size, 0, none⟩ = some (.string rn) := fun t => by simp [go_sem]
        go_wp2_with fail
        generalize hW4 : w3.alloc (.cells #[.string rn, .slice a4 ps.length p4] 28) = w4 at *
        have k4 : Below w3.heap.size w3 w4 := by rw [← hW4]; exact kb3 _
        have c9 : w4.cell? ⟨w3.heap.size, 1, none⟩ = some (.slice a4 ps.length p4) := by rw [← hW4]; exact e4 _
        have c8 : w4.cell? ⟨w3.heap.size, 0, none⟩ = some (.string rn) := by rw [← hW4]; exact e5 _
        have rq4 := RQ.out.later k4
        have RQ4 := Lib.hid rq4; clear rq4
        clear hW4 e0 e4 e5 kb3
        have s4 := k4
        have b4 := b3.trans (s4.mono z3)
        have z4 := b4.size
        have y4 := s4.size
        have c0_0_4 := below_cell s4 c0_0_3; clear c0_0_3
        have c0_1_4 := below_cell s4 c0_1_3; clear c0_1_3
        have c0_2_4 := below_cell s4 c0_2_3; clear c0_2_3
        have c1_0_4 := below_cell s4 c1_0_3; clear c1_0_3
        have c1_1_4 := below_cell s4 c1_1_3; clear c1_1_3
        go_wp2_with fail
        refine (HSZ.out _ b4).mono ?_
        rintro _ _ ⟨rfl, rfl⟩
        go_wp2_with fail
        refine (HIN.out _).mono ?_
        rintro _ _ ⟨rfl, rfl⟩
        have hb4 := b4
        have hz4 := z4
        have ht1 : ∀ w', Below w4.heap.size w4 w' → Calls Try.prog 130 #[.agg #[.slice aoq n capq, .slice aow nw capw, .slice aob nb capb], .agg #[.string rn, .slice aos ns caps]] w' (fun e w'' => ∃ u, e = .returned u ∧ Rd w'' u r1.length (ints r1) ∧ Below w'.heap.size w' w'' ∧ Below w4.heap.size w4 w'') := fun w' hx => (HRAW.out w' (hb4.trans (hx.mono hz4))).mono fun _ _ ⟨v, e, o, b⟩ => ⟨v, e, Rd.of_own o, b, hx.trans (b.mono hx.size)⟩
        have ht2 : ∀ w', Below w4.heap.size w4 w' → Calls Try.prog 130 #[.agg #[.slice aoq n capq, .slice aow nw capw, .slice aob nb capb], .agg #[.string rn, .slice a4 ps.length p4]] w' (fun e w'' => ∃ u, e = .returned u ∧ Rd w'' u r2.length (ints r2) ∧ Below w'.heap.size w' w'' ∧ Below w4.heap.size w4 w'') := fun w' hx => (HRAW2.out w' _ (hb4.trans (hx.mono hz4)) (by rw [HQL.out]; exact RQ4.out.later hx)).mono fun _ _ ⟨v, e, o, b⟩ => ⟨v, e, Rd.of_own o, b, hx.trans (b.mono hx.size)⟩
        have HT1 := Lib.hid ht1; clear ht1
        have HT2 := Lib.hid ht2; clear ht2
        go_wp2_with fail
        go_region_held3 (fun w' => w'.cell? ⟨w.heap.size, 0, none⟩ = some (.slice aoq n capq) ∧ w'.cell? ⟨w.heap.size, 1, none⟩ = some (.slice aow nw capw) ∧ w'.cell? ⟨w.heap.size, 2, none⟩ = some (.slice aob nb capb) ∧ w'.cell? ⟨w.heap.size + 1, 0, none⟩ = some (.string rn) ∧ w'.cell? ⟨w.heap.size + 1, 1, none⟩ = some (.slice aos ns caps) ∧ w'.cell? ⟨w3.heap.size, 0, none⟩ = some (.string rn) ∧ w'.cell? ⟨w3.heap.size, 1, none⟩ = some (.slice a4 ps.length p4)) (first | exact ⟨c0_0_4, c0_1_4, c0_2_4, c1_0_4, c1_1_4, c8, c9⟩ | exact ⟨below_cell BD2.out c0_0_4, below_cell BD2.out c0_1_4, below_cell BD2.out c0_2_4, below_cell BD2.out c1_0_4, below_cell BD2.out c1_1_4, below_cell BD2.out c8, below_cell BD2.out c9⟩ | exact ⟨below_cell BD1.out c0_0_4, below_cell BD1.out c0_1_4, below_cell BD1.out c0_2_4, below_cell BD1.out c1_0_4, below_cell BD1.out c1_1_4, below_cell BD1.out c8, below_cell BD1.out c9⟩ | go_keep) (first | (have _gd := BD1; go_at_call 130; refine (HT2.out _ (by first | exact BD1.out | go_grown)).mono ?_; rintro _ w6 ⟨x6, rfl, od2, qd2, bd2⟩; have BD2 := Lib.hid bd2; clear bd2; have od1 := OD1.out.later qd2; have OD1' := Lib.hid od1; clear od1; have OD2 := Lib.hid od2; clear od2; clear qd2) | (go_at_call 130; refine (HT1.out _ (by go_grown)).mono ?_; rintro _ w5 ⟨x5, rfl, od1, qd1, bd1⟩; have OD1 := Lib.hid od1; clear od1; have BD1 := Lib.hid bd1; clear bd1; clear qd1))
        have rd5 := OD1'.out
        have rd6 := OD2.out
        have b6 := hb4.trans (BD2.out.mono hz4)
        have z6 := b6.size
        rw [hln1] at rd5
        rw [hln2] at rd6
        obtain ⟨_, ao5, c5, bb5, off5, rfl, hao5, hcell5⟩ := rd5.open
        obtain ⟨_, ao6, c6, bb6, off6, rfl, hao6, hcell6⟩ := rd6.open
        obtain rfl : ao5 = some ⟨bb5, off5, none⟩ := hao5 (by omega)
        obtain rfl : ao6 = some ⟨bb6, off6, none⟩ := hao6 (by omega)
        have HLN1 := Lib.hid hln1; clear hln1
        have HLN2 := Lib.hid hln2; clear hln2
        have HC5 := Lib.hid hcell5; clear hcell5
        have HC6 := Lib.hid hcell6; clear hcell6
        have b6' := b6
        have z6' := z6
        clear rd5 rd6 c8 c9 HT1 HT2
        go_wp2_with fail
        go_loopw [50, 13] (fun i u wr => ∃ (k : Nat), k ≤ 5 ∧ i = .int .i64 k ∧ OwnI w6.heap.size wr u (diffK r1 r2 k) ∧ Below w6.heap.size w6 wr) (fun i _ _ => 5 - (intOf i).toNat)
        case atStart => exact ⟨0, Nat.zero_le _, rfl, World.ownsRow_nil _ _ _ _, Below.refl _ _⟩
        case round =>
          obtain ⟨k, hk, rfl, ho, hb⟩ := hrel
          have hlk := HDL.out k
          have HO := Lib.hid ho; clear ho
          by_cases hlt : k < 5
          · have hlt5 : decide ((k : Int) < 5) = true := by simp; omega
            have q1 : (0 : Int) ≤ (k : Int) := by omega
            have q2 : (k : Int) < 5 := by omega
            have hix5 := ix (P := Try.prog) (T := 41) (n := 5) (cap := c5) Try.underlying41 cells_int64 has_int64 (ao := some ⟨bb5, off5, none⟩) (b := bb5) (off := off5) (fun _ => rfl) (k := k) hlt _ rfl
            rw [Nat.mul_one] at hix5
            have hix6 := ix (P := Try.prog) (T := 41) (n := 5) (cap := c6) Try.underlying41 cells_int64 has_int64 (ao := some ⟨bb6, off6, none⟩) (b := bb6) (off := off6) (fun _ => rfl) (k := k) hlt _ rfl
            rw [Nat.mul_one] at hix6
            have hl1' : k < r1.length := by rw [HLN1.out]; exact hlt
            have hl2' : k < r2.length := by rw [HLN2.out]; exact hlt
            have d5 : wr.cell? ⟨bb5, off5 + k, none⟩ = some (.int .i64 (r1.getD k 0)) := by rw [getD_eq hl1']; exact HC5.out _ hb _ _ (by omega) (intsAt hl1')
            have d6 : wr.cell? ⟨bb6, off6 + k, none⟩ = some (.int .i64 (r2.getD k 0)) := by rw [getD_eq hl2']; exact HC6.out _ hb _ _ (by omega) (intsAt hl2')
            have hb1 := HBD1.out k hlt
            have hb2 := HBD2.out k hlt
            have hs := HST.out k
            have HS := Lib.hid hs; clear hs
            generalize r1.getD k 0 = y1 at *
            generalize r2.getD k 0 = y2 at *
            generalize diffK r1 r2 k = ds at *
            have g1 : IntKind.i64.wrap (y1 - y2) = y1 - y2 := IntWalk.i64_in _ (by omega)
            go_wp2_with fail
            refine wp_region_any (by kernel_rfl) ?_
            refine wpAny_take (i := 0) (v := _) rfl (by kernel_rfl) (by kernel_rfl) (by kernel_rfl) (fun _ _ _ h => h) (.inl ⟨rfl, fun _ => rfl⟩) ?_
            refine wpAny_pick (C := fun w' => ∃ m, w' = wr.drewN m) 10 [0] [1, 2, 3, 4, 5, 6, 7, 8, 9] [10, 11, 12] (by kernel_rfl) (by kernel_rfl) (by kernel_rfl) ⟨1, rfl⟩ ?_
            simp only [List.filterMap_cons, List.filterMap_nil, List.getElem?_cons_zero, List.getElem?_cons_succ]
            repeat (quiet_step (fail))
            refine wpQuiet_nil ?_
            rintro _ ⟨nq, rfl⟩
            have o5 := own_later HO.out (below_drewN (Below.refl _ _) nq)
            have b5' := below_drewN hb nq
            have lo5 := own_lo o5
            generalize wr.drewN nq = W9 at *
            have O5 := Lib.hid o5; clear o5
            have LO5 := Lib.hid lo5; clear lo5
            clear g1
            refine wpList_step ?_
            intro K hK
            go_simp
            refine hK _ _ ?_
            refine app_I (.tmp 53) (.tmp 63) _ _ _ _ _ (by rfl) (by rfl) (by rfl) (by rfl) O5.out (by omega) b5'.size ?_
            intro v2 w9 o9 q9
            have b9 := Only.below b5' q9 b5'.size (fun k h => by have := LO5.out k h; omega)
            go_wp2
            go_roundw
            case rel => exact ⟨k + 1, by omega, by go_num, by rw [← HS.out]; exact o9, b9⟩
            case measure => simp [intOf]; omega
          · obtain rfl : k = 5 := by omega
            go_wp2
            go_returns
            exact ⟨_, rfl, own_base HO.out z6', b6'.trans (hb.mono z6')⟩

end Go.Proofs.Ytmickkodcclocaa
