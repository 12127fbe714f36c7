/- The law FnSensitivity, walked. -/
import Derived.Test.YtmeeibcbhjifbaaApply
import Derived.Test.YtmeeibcbhjifbaaCentW
import Derived.Test.YtmeeibcbhjifbaaOpenU
import Derived.Test.YtmeeibcbhjifbaaWA
import Derived.Test.YtmeeibcbhjifbaaWD
import Derived.Test.YtmeeibcbhjifbaaZW3
namespace Go.Proofs.Ytmeeibcbhjifbaa
set_option linter.unusedVariables false
open Go.RowKit Go.Proofs.Bell Go.BigFrame

theorem sen_nil {zs : List Int} {ws : List (List Int)} {bs : List Int} {nm : ByteArray} {ps : List (Int × Int × Int)} {zone : Int} (h : ¬ (senI zs ws bs nm ps zone).2 = 0) : (senI zs ws bs nm ps zone).1 = [] := by
  unfold senI at h ⊢
  split <;> rename_i h1
  · split <;> rename_i h2
    · split <;> rename_i h3
      · simp [h1, h2, h3] at h
      · rfl
    · rfl
  · rfl
/-- what holds of both profiles' partials -/
theorem sen_bd {zs : List Int} {ws : List (List Int)} {bs : List Int} {nm : ByteArray} {ps qs : List (Int × Int × Int)} {zone : Int} (h : (senI zs ws bs nm ps zone).2 = 0) (hq : applyI nm ps zs [(zone, 1)] = (nm, qs, 0)) (k : Nat) (hk : k < 5) :
    (0 ≤ (rawL ps zs ws bs).getD k 0 ∧ (rawL ps zs ws bs).getD k 0 ≤ 2000000000000000000) ∧ 0 ≤ (rawL qs zs ws bs).getD k 0 ∧ (rawL qs zs ws bs).getD k 0 ≤ 2000000000000000000 := by
  have hma : modAsk zs ws bs nm ps = 0 := by
    unfold senI at h
    split at h
    · assumption
    · rename_i h1; exact absurd h h1
  obtain ⟨m1, m2, m3⟩ := modAsk_ok hma
  obtain ⟨hl1, hl2, hal, _⟩ := profB_t m2
  have h3 : (applyI nm ps zs [(zone, 1)]).2.2 = 0 := by rw [hq]
  obtain ⟨_, hql, hqa⟩ := applyI_ok h3
  rw [hq] at hql hqa
  have a := raw_bd m1 hl1 hal m3 k hk
  have b := raw_bd (ps := qs) m1 (by dsimp only at hql; omega) hqa (by dsimp only at hql; rw [hql]; exact m3) k hk
  omega

set_option maxRecDepth 100000 in
set_option maxHeartbeats 6400000 in
theorem lawFnSensitivity_c (w : World) (v0 : Value) (z0s : List Int) (h0 : Rd w v0 z0s.length (bytesV z0s)) (hb0 : ∀ z ∈ z0s, Byte z) : Calls Try.prog 5 #[v0] w (RetB (.bool true) w) := by
  have hl0 := b10Long_c v0 z0s w h0
  cases l0 : decide (1048576 < z0s.length) <;> rw [l0] at hl0
  · have k0 : z0s.length ≤ 1048576 := by have := of_decide_eq_false l0; omega
    have hds := DrawSensitivity_c v0 z0s w h0 hb0 k0
    have HL0 := Lib.hid hl0; clear hl0
    have HDS := Lib.hid hds; clear hds
    obtain ⟨_, aoA, capA, _, _, rfl, _, _⟩ := h0.open
    clear h0 hb0 l0 k0
    generalize z0s.length = na at *
    go_enter Try.func5, Try.ntmps5
    go_wp2_with fail
    refine HL0.out.mono ?_
    rintro _ _ ⟨rfl, rfl⟩
    go_wp2_with fail
    refine HDS.out.mono ?_
    rintro _ wa ⟨zv, wv, bv, u, zs, ws, bs, nm, ps, zone, rfl, hz, hw, hb, hr, hnm, hz8, ba⟩
    have hse := fun w' (hx : Below wa.heap.size wa w') => implSensitivity_c zv wv bv zs ws bs nm u ps zone w' (hz.later hx) (hw.later hx) (hb.later hx) hnm (hr.later hx)
    by_cases t0 : ¬ (senI zs ws bs nm ps zone).2 = 0
    · have hn := sen_nil t0
      have t9 : ((senI zs ws bs nm ps zone).2 == 0) = false := beq_eq_false_iff_ne.2 t0
      rw [hn] at hse
      generalize (senI zs ws bs nm ps zone).2 = code at *
      have HSE := Lib.hid hse; clear hse
      obtain ⟨_, a1, c1, _, _, rfl, _, _⟩ := hz.open
      obtain ⟨us', _, hru, _⟩ := hw
      obtain ⟨_, a2, c2, _, _, rfl, _, _⟩ := hru.open
      obtain ⟨_, a3, c3, _, _, rfl, _, _⟩ := hb.open
      obtain ⟨_, a4, c4, _, _, rfl, _, _⟩ := hr.open
      clear hz hru hb hr hn
      have b0 : Below wa.heap.size wa wa := Below.refl _ _
      have z0 : wa.heap.size ≤ wa.heap.size := Nat.le_refl _
      go_wp2_with fail
      refine (HSE.out _ (by go_grown)).mono ?_
      rintro _ w1 ⟨x1, rfl, n1, r1⟩
      have s1 : Below wa.heap.size wa w1 := Below.trans (by go_grown) (r1.mono (by simp; try omega))
      have b1 := b0.trans (s1.mono z0)
      have z1 := b1.size
      have y1 := s1.size
      have c0_0_1 := below_cell r1 (p := ⟨wa.heap.size, 0, none⟩) (v := .slice a1 zs.length c1) (by simp [go_sem])
      have c0_1_1 := below_cell r1 (p := ⟨wa.heap.size, 1, none⟩) (v := .slice a2 ws.length c2) (by simp [go_sem])
      have c0_2_1 := below_cell r1 (p := ⟨wa.heap.size, 2, none⟩) (v := .slice a3 bs.length c3) (by simp [go_sem])
      have c1_0_1 := below_cell r1 (p := ⟨wa.heap.size + 1, 0, none⟩) (v := .string nm) (by simp [go_sem])
      have c1_1_1 := below_cell r1 (p := ⟨wa.heap.size + 1, 1, none⟩) (v := .slice a4 ps.length c4) (by simp [go_sem])
      clear r1
      obtain ⟨a5, c5, rfl⟩ := own_shape n1
      have bw := ba.trans (b1.mono ba.size)
      go_wp2
      go_returns
      exact RetB.mk rfl bw
    · have t0 : (senI zs ws bs nm ps zone).2 = 0 := Classical.not_not.1 t0
      rw [t0] at hse
      obtain ⟨qs, iz, rfl, hz0, _, hap, hp1, hp2, hr1, hr2, hw1, hw2, hd, hdk, hwk⟩ := sens_law t0
      have hbd := sen_bd t0 hap
      have hac := fun w' cu (hx : Below wa.heap.size wa w') (hc : Rd w' cu 1 (pairs [((iz : Int), 1)])) => specApplyCuts_c nm u ps zv zs cu [((iz : Int), 1)] w' hnm (hr.later hx) (hz.later hx) hc
      rw [hap] at hac
      have hra := fun w' (hx : Below wa.heap.size wa w') => implRawPartials_c zv wv bv zs ws bs nm u ps w' (hz.later hx) (hw.later hx) (hb.later hx) hnm (hr.later hx)
      have hrb := fun w' u2 (hx : Below wa.heap.size wa w') (hu : Rd w' u2 qs.length (trips qs)) => implRawPartials_c zv wv bv zs ws bs nm u2 qs w' (hz.later hx) (hw.later hx) (hb.later hx) hnm hu
      have hza := fun w' (hx : Below wa.heap.size wa w') => implZoneWalls_c nm u ps zv zs w' hnm (hr.later hx) (hz.later hx)
      have hzb := fun w' u2 (hx : Below wa.heap.size wa w') (hu : Rd w' u2 qs.length (trips qs)) => implZoneWalls_c nm u2 qs zv zs w' hnm hu (hz.later hx)
      rw [hr1] at hra
      rw [hr2] at hrb
      rw [hw1] at hza
      rw [hw2] at hzb
      rw [hd] at hse
      have hl1 : (rawL ps zs ws bs).length = 5 := rawK_len _ _ _ _ 5
      have hl2 : (rawL qs zs ws bs).length = 5 := rawK_len _ _ _ _ 5
      have hl3 := diffK_len (rawL ps zs ws bs) (rawL qs zs ws bs) 5
      have hl4 := zwK_len ps zs zs.length
      have hl5 := zwK_len qs zs zs.length
      have hbdA : ∀ z, z < zs.length → 0 ≤ (zwK qs zs zs.length).getD z 0 ∧ (zwK qs zs zs.length).getD z 0 ≤ 150000 := fun z _ => by
        obtain ⟨_, _, hqa, _⟩ := profB_t hp2
        have hzq : zonesB zs ((qs.length : Int) - 1) = true := by
          unfold zoneWallsI at hw2
          cases hv : vzB nm qs zs
          · simp [hp2, hv] at hw2
          · simp only [vzB, Bool.and_eq_true] at hv; exact hv.2
        exact zw_bd hqa hzq z
      generalize diffK (rawL ps zs ws bs) (rawL qs zs ws bs) 5 = D at *
      generalize rawL ps zs ws bs = R at *
      generalize rawL qs zs ws bs = Q at *
      generalize zwK ps zs zs.length = WA at *
      generalize zwK qs zs zs.length = WB at *
      dsimp only at hac hra hrb hza hzb hse
      obtain ⟨_, a1, c1, _, _, rfl, _, _⟩ := hz.open
      obtain ⟨us', _, hru, _⟩ := hw
      obtain ⟨_, a2, c2, _, _, rfl, _, _⟩ := hru.open
      obtain ⟨_, a3, c3, _, _, rfl, _, _⟩ := hb.open
      obtain ⟨_, a4, c4, _, _, rfl, _, _⟩ := hr.open
      have HSE := Lib.hid hse; clear hse
      have HAC := Lib.hid hac; clear hac
      have HRA := Lib.hid hra; clear hra
      have HRB := Lib.hid hrb; clear hrb
      have HZA := Lib.hid hza; clear hza
      have HZB := Lib.hid hzb; clear hzb
      have HDK := Lib.hid hdk; clear hdk
      have HWK := Lib.hid hwk; clear hwk
      have HBD := Lib.hid hbd; clear hbd
      have HBA := Lib.hid hbdA; clear hbdA
      have HL1 := Lib.hid hl1; clear hl1
      have HL2 := Lib.hid hl2; clear hl2
      have HL3 := Lib.hid hl3; clear hl3
      have HL4 := Lib.hid hl4; clear hl4
      have HL5 := Lib.hid hl5; clear hl5
      clear hz hru hb hr hd hw1 hw2 hr1 hr2 hp1 hp2 hap t0
      generalize hnz : zs.length = nz at *
      clear hnz
      have b0 : Below wa.heap.size wa wa := Below.refl _ _
      have z0 : wa.heap.size ≤ wa.heap.size := Nat.le_refl _
      go_wp2_with fail
      refine (HSE.out _ (by go_grown)).mono ?_
      rintro _ w1 ⟨x1, rfl, n1, r1⟩
      have s1 : Below wa.heap.size wa w1 := Below.trans (by go_grown) (r1.mono (by simp; try omega))
      have b1 := b0.trans (s1.mono z0)
      have z1 := b1.size
      have y1 := s1.size
      have c0_0_1 := below_cell r1 (p := ⟨wa.heap.size, 0, none⟩) (v := .slice a1 nz c1) (by simp [go_sem])
      have c0_1_1 := below_cell r1 (p := ⟨wa.heap.size, 1, none⟩) (v := .slice a2 ws.length c2) (by simp [go_sem])
      have c0_2_1 := below_cell r1 (p := ⟨wa.heap.size, 2, none⟩) (v := .slice a3 bs.length c3) (by simp [go_sem])
      have c1_0_1 := below_cell r1 (p := ⟨wa.heap.size + 1, 0, none⟩) (v := .string nm) (by simp [go_sem])
      have c1_1_1 := below_cell r1 (p := ⟨wa.heap.size + 1, 1, none⟩) (v := .slice a4 ps.length c4) (by simp [go_sem])
      clear r1
      obtain ⟨aD, cD, hvD⟩ := own_shape n1
      rw [HL3.out] at hvD
      subst hvD
      have OD := Lib.hid n1; clear n1
      have e0 := fun o => alloc_cell o c0_0_1
      have e1 := fun o => alloc_cell o c1_0_1
      have e2 := fun o => alloc_cell o c1_1_1
      go_wp2_with fail
      have k1 : Below w1.heap.size w1 (w1.alloc (.cells #[.int .i64 (iz : Int), .int .i64 1] 63)) := (Below.refl _ _).alloc (Nat.le_refl _) _
      have hu : Rd (w1.alloc (.cells #[.int .i64 (iz : Int), .int .i64 1] 63)) (.slice (some ⟨w1.heap.size, 0, none⟩) 1 1) 1 (pairs [((iz : Int), 1)]) := rd_cut1 (by simp) (by simp [go_sem]) (by simp [go_sem])
      clear e0 e1 e2
      generalize w1.alloc (.cells #[.int .i64 (iz : Int), .int .i64 1] 63) = wk at *
      have s2 := k1
      have b2 := b1.trans (s2.mono z1)
      have z2 := b2.size
      have y2 := s2.size
      have c0_0_2 := below_cell s2 c0_0_1; clear c0_0_1
      have c0_1_2 := below_cell s2 c0_1_1; clear c0_1_1
      have c0_2_2 := below_cell s2 c0_2_1; clear c0_2_1
      have c1_0_2 := below_cell s2 c1_0_1; clear c1_0_1
      have c1_1_2 := below_cell s2 c1_1_1; clear c1_1_1
      have o0_2 := own_later OD.out s2; have O0_2 := Lib.hid o0_2; clear o0_2
      have HU := Lib.hid hu; clear hu
      go_wp2_with fail
      refine (HAC.out _ _ b2 HU.out).mono ?_
      rintro _ w3 ⟨x3, rfl, n3, r3⟩
      have s3 := r3
      have b3 := b2.trans (s3.mono z2)
      have z3 := b3.size
      have y3 := s3.size
      have c0_0_3 := below_cell s3 c0_0_2; clear c0_0_2
      have c0_1_3 := below_cell s3 c0_1_2; clear c0_1_2
      have c0_2_3 := below_cell s3 c0_2_2; clear c0_2_2
      have c1_0_3 := below_cell s3 c1_0_2; clear c1_0_2
      have c1_1_3 := below_cell s3 c1_1_2; clear c1_1_2
      have o0_3 := own_later O0_2.out s3; have O0_3 := Lib.hid o0_3; clear o0_3
      clear r3
      obtain ⟨aq, cq, hvq⟩ := own_shape n3
      subst hvq
      have OM := Lib.hid n3; clear n3
      have ac0_0 := fun o => alloc_cell o c0_0_3
      have ac0_1 := fun o => alloc_cell o c0_1_3
      have ac0_2 := fun o => alloc_cell o c0_2_3
      have ac1_0 := fun o => alloc_cell o c1_0_3
      have ac1_1 := fun o => alloc_cell o c1_1_3
      go_wp2_with fail
      refine (HRA.out _ (by go_grown)).mono ?_
      rintro _ w4 ⟨x4, rfl, n4, r4⟩
      have s4 : Below w3.heap.size w3 w4 := Below.trans (by go_grown) (r4.mono (by simp; try omega))
      have b4 := b3.trans (s4.mono z3)
      have z4 := b4.size
      have y4 := s4.size
      have c0_0_4 := below_cell s4 c0_0_3; clear c0_0_3
      have c0_1_4 := below_cell s4 c0_1_3; clear c0_1_3
      have c0_2_4 := below_cell s4 c0_2_3; clear c0_2_3
      have c1_0_4 := below_cell s4 c1_0_3; clear c1_0_3
      have c1_1_4 := below_cell s4 c1_1_3; clear c1_1_3
      have c2_0_4 := below_cell r4 (p := ⟨w3.heap.size, 0, none⟩) (v := .string nm) (by simp [go_sem])
      have c2_1_4 := below_cell r4 (p := ⟨w3.heap.size, 1, none⟩) (v := .slice aq qs.length cq) (by simp [go_sem])
      have o0_4 := own_later O0_3.out s4; have O0_4 := Lib.hid o0_4; clear o0_4
      have o1_4 := own_later OM.out s4; have O1_4 := Lib.hid o1_4; clear o1_4
      clear r4
      obtain ⟨aR, cR, hvR⟩ := own_shape n4
      rw [HL1.out] at hvR
      subst hvR
      have OR4 := Lib.hid n4; clear n4
      go_wp2_with fail
      refine (HRB.out _ _ b4 (Rd.of_own O1_4.out)).mono ?_
      rintro _ w5 ⟨x5, rfl, n5, r5⟩
      have s5 := r5
      have b5 := b4.trans (s5.mono z4)
      have z5 := b5.size
      have y5 := s5.size
      have c0_0_5 := below_cell s5 c0_0_4; clear c0_0_4
      have c0_1_5 := below_cell s5 c0_1_4; clear c0_1_4
      have c0_2_5 := below_cell s5 c0_2_4; clear c0_2_4
      have c1_0_5 := below_cell s5 c1_0_4; clear c1_0_4
      have c1_1_5 := below_cell s5 c1_1_4; clear c1_1_4
      have c2_0_5 := below_cell s5 c2_0_4; clear c2_0_4
      have c2_1_5 := below_cell s5 c2_1_4; clear c2_1_4
      have o0_5 := own_later O0_4.out s5; have O0_5 := Lib.hid o0_5; clear o0_5
      have o1_5 := own_later O1_4.out s5; have O1_5 := Lib.hid o1_5; clear o1_5
      have o2_5 := own_later OR4.out s5; have O2_5 := Lib.hid o2_5; clear o2_5
      clear r5
      obtain ⟨aQ, cQ, hvQ⟩ := own_shape n5
      rw [HL2.out] at hvQ
      subst hvQ
      have OQ5 := Lib.hid n5; clear n5
      go_wp2_with fail
      refine (HZA.out _ b5).mono ?_
      rintro _ w6 ⟨x6, rfl, n6, r6⟩
      have s6 := r6
      have b6 := b5.trans (s6.mono z5)
      have z6 := b6.size
      have y6 := s6.size
      have c0_0_6 := below_cell s6 c0_0_5; clear c0_0_5
      have c0_1_6 := below_cell s6 c0_1_5; clear c0_1_5
      have c0_2_6 := below_cell s6 c0_2_5; clear c0_2_5
      have c1_0_6 := below_cell s6 c1_0_5; clear c1_0_5
      have c1_1_6 := below_cell s6 c1_1_5; clear c1_1_5
      have c2_0_6 := below_cell s6 c2_0_5; clear c2_0_5
      have c2_1_6 := below_cell s6 c2_1_5; clear c2_1_5
      have o0_6 := own_later O0_5.out s6; have O0_6 := Lib.hid o0_6; clear o0_6
      have o1_6 := own_later O1_5.out s6; have O1_6 := Lib.hid o1_6; clear o1_6
      have o2_6 := own_later O2_5.out s6; have O2_6 := Lib.hid o2_6; clear o2_6
      have o3_6 := own_later OQ5.out s6; have O3_6 := Lib.hid o3_6; clear o3_6
      clear r6
      obtain ⟨aA, cA, hvA⟩ := own_shape n6
      rw [HL4.out] at hvA
      subst hvA
      have OA6 := Lib.hid n6; clear n6
      go_wp2_with fail
      refine (HZB.out _ _ b6 (Rd.of_own O1_6.out)).mono ?_
      rintro _ w7 ⟨x7, rfl, n7, r7⟩
      have s7 := r7
      have b7 := b6.trans (s7.mono z6)
      have z7 := b7.size
      have y7 := s7.size
      have c0_0_7 := below_cell s7 c0_0_6; clear c0_0_6
      have c0_1_7 := below_cell s7 c0_1_6; clear c0_1_6
      have c0_2_7 := below_cell s7 c0_2_6; clear c0_2_6
      have c1_0_7 := below_cell s7 c1_0_6; clear c1_0_6
      have c1_1_7 := below_cell s7 c1_1_6; clear c1_1_6
      have c2_0_7 := below_cell s7 c2_0_6; clear c2_0_6
      have c2_1_7 := below_cell s7 c2_1_6; clear c2_1_6
      have o0_7 := own_later O0_6.out s7; have O0_7 := Lib.hid o0_7; clear o0_7
      have o1_7 := own_later O1_6.out s7; have O1_7 := Lib.hid o1_7; clear o1_7
      have o2_7 := own_later O2_6.out s7; have O2_7 := Lib.hid o2_7; clear o2_7
      have o3_7 := own_later O3_6.out s7; have O3_7 := Lib.hid o3_7; clear o3_7
      have o4_7 := own_later OA6.out s7; have O4_7 := Lib.hid o4_7; clear o4_7
      clear r7
      obtain ⟨aB, cB, hvB⟩ := own_shape n7
      rw [HL5.out] at hvB
      subst hvB
      have OB7 := Lib.hid n7; clear n7
      have rdD := Rd.of_own O0_7.out
      have rdR := Rd.of_own O2_7.out
      have rdQ := Rd.of_own O3_7.out
      have rdA := Rd.of_own O4_7.out
      have rdB := Rd.of_own OB7.out
      have lD := HL3.out
      have lR := HL1.out
      have lQ := HL2.out
      have lA := HL4.out
      have lB := HL5.out
      rw [lD] at rdD
      rw [lR] at rdR
      rw [lQ] at rdQ
      rw [lA] at rdA
      rw [lB] at rdB
      obtain ⟨_, aoD, capD, bD, offD, hvD, haoD, hcellD⟩ := rdD.open
      obtain ⟨_, aoR, capR, bR, offR, hvR, haoR, hcellR⟩ := rdR.open
      obtain ⟨_, aoQ, capQ, bQ, offQ, hvQ, haoQ, hcellQ⟩ := rdQ.open
      obtain ⟨_, aoA, capA', bA, offA, hvA, haoA, hcellA⟩ := rdA.open
      obtain ⟨_, aoB, capB, bB, offB, hvB, haoB, hcellB⟩ := rdB.open
      cases hvD
      cases hvR
      cases hvQ
      cases hvA
      cases hvB
      have xD := haoD (by omega)
      have xR := haoR (by omega)
      have xQ := haoQ (by omega)
      have xA := haoA (by omega)
      have xB := haoB (by omega)
      subst xD xR xQ xA xB
      have HCD := Lib.hid hcellD; clear hcellD
      have HCR := Lib.hid hcellR; clear hcellR
      have HCQ := Lib.hid hcellQ; clear hcellQ
      have HCA := Lib.hid hcellA; clear hcellA
      have HCB := Lib.hid hcellB; clear hcellB
      clear haoD haoR haoQ haoA haoB rdD rdR rdQ rdA rdB
      have bfin := fun wr (hb : Below w7.heap.size w7 wr) => ba.trans ((b7.trans (hb.mono z7)).mono ba.size)
      have BFIN := Lib.hid bfin; clear bfin
      go_wp2_with fail
      go_loopw [18] (fun i wr => ∃ (k : Nat), k ≤ 5 ∧ i = .int .i64 k ∧ Below w7.heap.size w7 wr) (fun i _ => 5 - (intOf i).toNat)
      case atStart => exact ⟨0, Nat.zero_le _, rfl, Below.refl _ _⟩
      case round =>
        obtain ⟨k, hk, rfl, hb⟩ := hrel
        by_cases hlt : k < 5
        · have hlt5 : decide ((k : Int) < 5) = true := by simp; omega
          have ixD := ix (P := Try.prog) (T := 38) (n := 5) (cap := cD) Try.underlying38 cells_int64 has_int64 (ao := some ⟨bD, offD, none⟩) (b := bD) (off := offD) (fun _ => rfl) (k := k) hlt _ rfl
          have ixR := ix (P := Try.prog) (T := 38) (n := 5) (cap := cR) Try.underlying38 cells_int64 has_int64 (ao := some ⟨bR, offR, none⟩) (b := bR) (off := offR) (fun _ => rfl) (k := k) hlt _ rfl
          have ixQ := ix (P := Try.prog) (T := 38) (n := 5) (cap := cQ) Try.underlying38 cells_int64 has_int64 (ao := some ⟨bQ, offQ, none⟩) (b := bQ) (off := offQ) (fun _ => rfl) (k := k) hlt _ rfl
          rw [Nat.mul_one] at ixD ixR ixQ
          have d1 : wr.cell? ⟨bD, offD + k, none⟩ = some (.int .i64 (D.getD k 0)) := by rw [getD_eq (show k < D.length by omega)]; exact HCD.out _ hb _ _ (by omega) (intsAt (show k < D.length by omega))
          have d2 : wr.cell? ⟨bR, offR + k, none⟩ = some (.int .i64 (R.getD k 0)) := by rw [getD_eq (show k < R.length by omega)]; exact HCR.out _ hb _ _ (by omega) (intsAt (show k < R.length by omega))
          have d3 : wr.cell? ⟨bQ, offQ + k, none⟩ = some (.int .i64 (Q.getD k 0)) := by rw [getD_eq (show k < Q.length by omega)]; exact HCQ.out _ hb _ _ (by omega) (intsAt (show k < Q.length by omega))
          have hd := HDK.out k hlt
          have hx := HBD.out k hlt
          generalize D.getD k 0 = y1 at *
          generalize R.getD k 0 = y2 at *
          generalize Q.getD k 0 = y3 at *
          have g1 : IntKind.i64.wrap (y2 - y3) = y1 := by rw [IntWalk.i64_in _ (by omega)]; omega
          have g2 : decide (y1 < 0) = false := decide_eq_false (by omega)
          go_wp2_with fail
          go_quiet (fail)
          go_wp2
          go_roundw
          case rel => exact ⟨k + 1, by omega, by go_num, below_drewN hb _⟩
          case measure => simp [intOf]; omega
        · obtain rfl : k = 5 := by omega
          go_wp2_with fail
          go_loopw [19] (fun i wr => ∃ (z : Nat), z ≤ nz ∧ i = .int .i64 z ∧ Below w7.heap.size w7 wr) (fun i _ => nz - (intOf i).toNat)
          case atStart => exact ⟨0, Nat.zero_le _, rfl, hb⟩
          case round =>
            clear hb
            obtain ⟨z, hk, rfl, hb⟩ := hrel
            by_cases hlt : z < nz
            · have hltz : decide ((z : Int) < (nz : Int)) = true := decide_eq_true (by omega)
              have ixA := ix (P := Try.prog) (T := 38) (n := nz) (cap := cA) Try.underlying38 cells_int64 has_int64 (ao := some ⟨bA, offA, none⟩) (b := bA) (off := offA) (fun _ => rfl) (k := z) hlt _ rfl
              have ixB := ix (P := Try.prog) (T := 38) (n := nz) (cap := cB) Try.underlying38 cells_int64 has_int64 (ao := some ⟨bB, offB, none⟩) (b := bB) (off := offB) (fun _ => rfl) (k := z) hlt _ rfl
              rw [Nat.mul_one] at ixA ixB
              have d2 : wr.cell? ⟨bA, offA + z, none⟩ = some (.int .i64 (WA.getD z 0)) := by rw [getD_eq (show z < WA.length by omega)]; exact HCA.out _ hb _ _ (by omega) (intsAt (show z < WA.length by omega))
              have d3 : wr.cell? ⟨bB, offB + z, none⟩ = some (.int .i64 (WB.getD z 0)) := by rw [getD_eq (show z < WB.length by omega)]; exact HCB.out _ hb _ _ (by omega) (intsAt (show z < WB.length by omega))
              have hd := HWK.out z hlt
              have hx := HBA.out z hlt
              generalize WA.getD z 0 = y2 at *
              generalize WB.getD z 0 = y3 at *
              by_cases hzz : z = iz
              · subst hzz
                rw [if_pos rfl] at hd
                have g1 : IntKind.i64.wrap (y2 - y3) = 10 := by rw [IntWalk.i64_in _ (by omega)]; omega
                go_wp2_with fail
                go_quiet (fail)
                go_wp2
                go_roundw
                case rel => exact ⟨z + 1, by omega, by go_num, below_drewN hb _⟩
                case measure => simp [intOf]; omega
              · rw [if_neg hzz] at hd
                obtain rfl : y2 = y3 := by omega
                have g1 : decide ((z : Int) = (iz : Int)) = false := decide_eq_false (by omega)
                have g2 : ((z : Int) == (iz : Int)) = false := beq_eq_false_iff_ne.2 (by omega)
                have g3 : (z == iz) = false := beq_eq_false_iff_ne.2 hzz
                have g4 : ((z : Int) != (iz : Int)) = true := by rw [bne, g2]; rfl
                have g5 : decide (z = iz) = false := decide_eq_false hzz
                go_wp2_with fail
                go_quiet (fail)
                go_wp2
                go_roundw
                case rel => exact ⟨z + 1, by omega, by go_num, below_drewN hb _⟩
                case measure => simp [intOf]; omega
            · obtain rfl : z = nz := by omega
              go_wp2
              go_returns
              exact RetB.mk rfl (BFIN.out _ hb)
  · have HL0 := Lib.hid hl0; clear hl0
    obtain ⟨_, aoA, capA, _, _, rfl, _, _⟩ := h0.open
    clear h0 hb0
    go_enter Try.func5, Try.ntmps5
    go_wp2_with fail
    refine HL0.out.mono ?_
    rintro _ _ ⟨rfl, rfl⟩
    go_wp2
    go_returns
    exact RetB.mk rfl (Below.refl _ _)

end Go.Proofs.Ytmeeibcbhjifbaa
