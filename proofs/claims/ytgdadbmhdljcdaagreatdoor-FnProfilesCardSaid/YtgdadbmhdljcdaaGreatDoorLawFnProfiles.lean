/- The law FnProfiles, walked. -/
import Derived.Test.YtgdadbmhdljcdaaGreatDoorGD
import Derived.Test.YtgdadbmhdljcdaaGreatDoorGF
import Derived.Test.YtgdadbmhdljcdaaGreatDoorGI
import Derived.Test.YtgdadbmhdljcdaaGreatDoorOpenU
import Derived.Test.YtgdadbmhdljcdaaGreatDoorProfL
import Derived.Test.YtgdadbmhdljcdaaGreatDoorTG
import Derived.Test.YtgdadbmhdljcdaaGreatDoorUA
import Derived.Test.YtgdadbmhdljcdaaGreatDoorUC
import Derived.Test.YtgdadbmhdljcdaaGreatDoorUD
import Derived.Test.YtgdadbmhdljcdaaGreatDoorUF
namespace Go.Proofs.YtgdadbmhdljcdaaGreatDoor
set_option linter.unusedVariables false
open Go.RowKit Go.Proofs.Bell Go.BigFrame

set_option maxHeartbeats 800000 in
theorem implHeightOf_c (nm : ByteArray) (v : Value) (ps : List (Int × Int × Int)) (w : World) (hnm : nm.size ≤ maxLen) (h : Rd w v ps.length (trips ps)) (hp : profB nm ps = true) : Calls Tryz.prog 10 #[.agg #[.string nm, v]] w (RetB (.tuple #[.int .i64 (heightI ps), .int .i64 0]) w) := by
  have hok := fun w' (hb : Below w.heap.size w w') => ValidProfile_c nm v ps w' hnm (h.later hb)
  have hh := fun w' (hb : Below w.heap.size w w') => height_c nm v ps w' (h.later hb) (profB_t hp).2.2.1 (profB_t hp).2.1
  rw [hp] at hok
  obtain ⟨_, ao, cap, _, _, rfl, _, _⟩ := h.open
  have HOK := Lib.hid hok; clear hok
  have HH := Lib.hid hh; clear hh
  clear h
  go_enter Tryz.func10, Tryz.ntmps10
  have b0 : Below w.heap.size w w := Below.refl _ _
  have z0 : w.heap.size ≤ w.heap.size := Nat.le_refl _
  go_wp2_with fail
  refine (HOK.out _ (by go_grown)).mono ?_
  rintro _ w1 ⟨rfl, r1⟩
  have s1 : Below w.heap.size w w1 := Below.trans (by go_grown) (r1.mono (by simp; try omega))
  have b1 := b0.trans (s1.mono z0)
  have z1 := b1.size
  have y1 := s1.size
  have c0_0_1 := below_cell r1 (p := ⟨w.heap.size, 0, none⟩) (v := .string nm) (by simp [go_sem])
  have c0_1_1 := below_cell r1 (p := ⟨w.heap.size, 1, none⟩) (v := .slice ao ps.length cap) (by simp [go_sem])
  clear r1
  go_wp2_with fail
  refine (HH.out _ b1).mono ?_
  rintro _ w2 ⟨rfl, r2⟩
  have s2 := r2
  have b2 := b1.trans (s2.mono z1)
  have z2 := b2.size
  have y2 := s2.size
  have c0_0_2 := below_cell s2 c0_0_1; clear c0_0_1
  have c0_1_2 := below_cell s2 c0_1_1; clear c0_1_1
  clear r2
  go_wp2
  go_returns
  exact RetB.mk rfl b2

set_option maxRecDepth 100000 in
set_option maxHeartbeats 12800000 in
theorem lawFnProfiles_c (w : World) (htab : RTab w) (v0 v1 : Value) (z0s z1s : List Int) (h0 : Rd w v0 z0s.length (bytesV z0s)) (h1 : Rd w v1 z1s.length (bytesV z1s)) (hb0 : ∀ z ∈ z0s, Byte z) (hb1 : ∀ z ∈ z1s, Byte z) : Calls Tryz.prog 3 #[v0, v1] w (RetB (.bool true) w) := by
  by_cases l0 : z0s.length ≤ 1048576
  · have hlo := r8Long_c v0 v1 z0s z1s w h0 h1 l0
    cases l1 : decide (1048576 < z1s.length) <;> rw [l1] at hlo
    · have l1' : z1s.length ≤ 1048576 := by have := of_decide_eq_false l1; omega
      have hr8 := fun w' (hx : Below w.heap.size w w') => R8Profile_c v0 z0s w' (h0.later hx) hb0 l0
      have hwi0 := fun n w' (hx : Below w.heap.size w w') (q1 : n ≤ 1000000) (q2 : 1 ≤ n) => r8Wide_c v1 z1s 0 n w' (h1.later hx) hb1 (by omega) q1 q2
      have hat0 := fun n w' (hx : Below w.heap.size w w') (q1 : n ≤ 1000000) (q2 : -10 ≤ n) => r8At_c v1 z1s 2 n w' (h1.later hx) hb1 (by omega) q1 q2
      rw [show ((0 : Nat) : Int) = 0 from rfl] at hwi0
      rw [show ((2 : Nat) : Int) = 2 from rfl] at hat0
      obtain ⟨_, aoA, capA, _, _, rfl, _, _⟩ := h0.open
      obtain ⟨_, aoB, capB, _, _, rfl, _, _⟩ := h1.open
      have HLO := Lib.hid hlo; clear hlo
      have HR8 := Lib.hid hr8; clear hr8
      have HWI0 := Lib.hid hwi0; clear hwi0
      have HAT0 := Lib.hid hat0; clear hat0
      have HTAB := Lib.hid htab; clear htab
      clear h0 h1 hb0 hb1 l0 l1 l1'
      generalize z0s.length = na at *
      generalize z1s.length = nb at *
      go_enter Tryz.func3, Tryz.ntmps3
      have b0 : Below w.heap.size w w := Below.refl _ _
      have z0 : w.heap.size ≤ w.heap.size := Nat.le_refl _
      go_wp2_with fail
      refine HLO.out.mono ?_
      rintro _ _ ⟨rfl, rfl⟩
      go_wp2_with fail
      refine (HR8.out _ b0).mono ?_
      rintro _ w1 ⟨nm, ps, u, rfl, ou, hp, hnm, h2, h9, r1⟩
      have s1 := r1
      have b1 := b0.trans (s1.mono z0)
      have z1 := b1.size
      have y1 := s1.size
      obtain ⟨au, cu, rfl⟩ := own_shape ou
      have oa := own_base ou (Nat.le_refl _)
      have OA := Lib.hid oa; clear oa
      clear ou
      obtain ⟨h9, h25⟩ := h9
      obtain ⟨hl1, hl32, hal, hh3⟩ := profB_t hp
      have hrp : readP (byteL (profTI nm ps)) = some (nm, ps) := by unfold profTI; rw [if_pos hp, byteL_str]; exact readP_text (p := (nm, ps)) hp
      have hsz : (profTI nm ps).size ≤ 2000000 := by
        obtain ⟨k1, k2, k3⟩ := profB_I hp
        unfold profTI
        rw [if_pos hp, str_size]
        have := outP_len k3 k1 ps.length (Nat.le_refl _)
        omega
      have htx := fun w' u (hx : Below w.heap.size w w') (hr : Rd w' u ps.length (trips ps)) => implProfileText_c nm u ps w' hnm hr (HTAB.out.later hx).1
      have hre : ∀ w', Below w.heap.size w w' → Calls Tryz.prog 8 #[.string (profTI nm ps)] w' (RetP2 nm ps (.bool true) w') := fun w' hx => by
        have := implReadProfile_c (profTI nm ps) w' hsz (HTAB.out.later hx)
        rw [hrp] at this
        exact this
      have hhe := fun w' u (hr : Rd w' u ps.length (trips ps)) => implHeightOf_c nm u ps w' hnm hr hp
      have hsame := fun w' u u' (hr : Rd w' u ps.length (trips ps)) (hr' : Rd w' u' ps.length (trips ps)) => specSame_c nm u u' ps w' hr hr'
      have hpos : 1 ≤ heightI ps := by have := hI_ge hal hl1; omega
      have hwi := fun w' (hx : Below w.heap.size w w') => HWI0.out (heightI ps) w' hx (by omega) hpos
      have hat := fun w' (hx : Below w.heap.size w w') => HAT0.out ((ps.length : Int) + 1) w' hx (by omega) (by omega)
      have hwa := fun w' u h (hr : Rd w' u ps.length (trips ps)) => implWallAt_c nm u ps h w' hnm hr
      have hra := fun w' u h (hr : Rd w' u ps.length (trips ps)) => implRingAt_c nm u ps h w' hnm hr
      have hth := fun w' u (hr : Rd w' u ps.length (trips ps)) => implThinnestRing_c nm u ps w' hnm hr
      rw [show thinI nm ps = ((bestK thinB ps ps.length : Int), 0) by simp [thinI, hp]] at hth
      have hsp := fun w' u h (hr : Rd w' u ps.length (trips ps)) => implSplitRing_c nm u ps h w' hnm hr
      have hins := fun (i : Nat) (hi : i ≤ ps.length) (m : Nat) (hm : m = min i (ps.length - 1)) => ins_ok hp h9 h25 hi m hm
      have hTl : bestK thinB ps ps.length < ps.length := bestK_lt hl1 _ (Nat.le_refl _)
      have hTm := fun k hk => thin_ok ps ps.length k hk
      generalize hPT : profTI nm ps = PT at *
      have HTX := Lib.hid htx; clear htx
      have HRE := Lib.hid hre; clear hre
      have HHE := Lib.hid hhe; clear hhe
      have HSAME := Lib.hid hsame; clear hsame
      have HWI := Lib.hid hwi; clear hwi
      have HAT := Lib.hid hat; clear hat
      have HWA := Lib.hid hwa; clear hwa
      have HRA := Lib.hid hra; clear hra
      have HTH := Lib.hid hth; clear hth
      have HSP := Lib.hid hsp; clear hsp
      have HINS := Lib.hid hins; clear hins
      have HTM := Lib.hid hTm; clear hTm
      clear HR8 HLO HWI0 HAT0 hrp hsz hPT HTAB
      go_wp2_with fail
      refine (HTX.out _ _ (by go_grown) ((Rd.of_own OA.out).later (by go_grown))).mono ?_
      rintro _ w2 ⟨rfl, r2⟩
      have s2 : Below w1.heap.size w1 w2 := Below.trans (by go_grown) (r2.mono (by simp; try omega))
      have b2 := b1.trans (s2.mono z1)
      have z2 := b2.size
      have y2 := s2.size
      have c0_0_2 := below_cell r2 (p := ⟨w1.heap.size, 0, none⟩) (v := .string nm) (by simp [go_sem])
      have c0_1_2 := below_cell r2 (p := ⟨w1.heap.size, 1, none⟩) (v := .slice au ps.length cu) (by simp [go_sem])
      have o0_2 := own_later OA.out s2; have O0_2 := Lib.hid o0_2; clear o0_2
      clear r2
      go_wp2_with fail
      refine (HRE.out _ b2).mono ?_
      rintro _ w3 ⟨x3, rfl, n3, r3⟩
      have s3 := r3
      have b3 := b2.trans (s3.mono z2)
      have z3 := b3.size
      have y3 := s3.size
      have c0_0_3 := below_cell s3 c0_0_2; clear c0_0_2
      have c0_1_3 := below_cell s3 c0_1_2; clear c0_1_2
      have o0_3 := own_later O0_2.out s3; have O0_3 := Lib.hid o0_3; clear o0_3
      clear r3
      obtain ⟨a3, c3, hv3⟩ := own_shape n3
      subst hv3
      have o3 := n3
      have OB3 := Lib.hid o3; clear o3
      clear n3
      have ac0_0 := fun o => alloc_cell o c0_0_3
      have ac0_1 := fun o => alloc_cell o c0_1_3
      go_wp2_with fail
      refine (HHE.out _ _ ((Rd.of_own O0_3.out).later (by go_grown))).mono ?_
      rintro _ w4 ⟨rfl, r4⟩
      have s4 : Below w3.heap.size w3 w4 := Below.trans (by go_grown) (r4.mono (by simp; try omega))
      have b4 := b3.trans (s4.mono z3)
      have z4 := b4.size
      have y4 := s4.size
      have c0_0_4 := below_cell s4 c0_0_3; clear c0_0_3
      have c0_1_4 := below_cell s4 c0_1_3; clear c0_1_3
      have c1_0_4 := below_cell r4 (p := ⟨w3.heap.size, 0, none⟩) (v := .string nm) (by simp [go_sem])
      have c1_1_4 := below_cell r4 (p := ⟨w3.heap.size, 1, none⟩) (v := .slice a3 ps.length c3) (by simp [go_sem])
      have o0_4 := own_later O0_3.out s4; have O0_4 := Lib.hid o0_4; clear o0_4
      have o1_4 := own_later OB3.out s4; have O1_4 := Lib.hid o1_4; clear o1_4
      clear r4
      have t1 : decide (heightI ps < 1) = false := decide_eq_false (by omega)
      go_wp2_with fail
      refine (HSAME.out _ _ _ (Rd.of_own O1_4.out) (Rd.of_own O0_4.out)).mono ?_
      rintro _ w5 ⟨rfl, r5⟩
      have s5 := r5
      have b5 := b4.trans (s5.mono z4)
      have z5 := b5.size
      have y5 := s5.size
      have c0_0_5 := below_cell s5 c0_0_4; clear c0_0_4
      have c0_1_5 := below_cell s5 c0_1_4; clear c0_1_4
      have c1_0_5 := below_cell s5 c1_0_4; clear c1_0_4
      have c1_1_5 := below_cell s5 c1_1_4; clear c1_1_4
      have o0_5 := own_later O0_4.out s5; have O0_5 := Lib.hid o0_5; clear o0_5
      have o1_5 := own_later O1_4.out s5; have O1_5 := Lib.hid o1_5; clear o1_5
      clear r5
      go_wp2_with fail
      refine (HWI.out _ b5).mono ?_
      rintro _ _ ⟨at', rfl, q0, q1, rfl⟩
      have q1 : at' < heightI ps := by omega
      have hask : askI nm ps at' = 0 := by unfold askI; rw [if_pos hp, if_pos (inB_mk (by omega))]
      obtain ⟨hKl, hK1, hK2⟩ := atK_spec (rs := ps) (h := at') hl1 q1
      have hwa := fun w' u hr => HWA.out w' u at' hr
      have hra := fun w' u hr => HRA.out w' u at' hr
      have hsp := fun w' u hr => HSP.out w' u at' hr
      rw [show wallAtI nm ps at' = (wallT (rg ps (atK ps at')), 0) by simp [wallAtI, hask]] at hwa
      rw [show ringAtI nm ps at' = ((atK ps at' : Int), 0) by simp [ringAtI, hask]] at hra
      have hso := fun h10 => split_ok hp h9 q0 q1 h10
      have hspi : splI nm ps at' = if at' - heightI (ps.take (atK ps at')) < 10 ∨ (rg ps (atK ps at')).2.2 - (at' - heightI (ps.take (atK ps at'))) < 10 then (⟨#[]⟩, [], 6) else (nm, sprL ps (atK ps at') (at' - heightI (ps.take (atK ps at'))), 0) := by
        unfold splI
        rw [if_pos hask, if_neg (by omega)]
      have hsl := fun o => sprL_len hKl o
      have htm := HTM.out _ hKl
      generalize hKe : atK ps at' = K at *
      generalize hTe : bestK thinB ps ps.length = T at *
      obtain ⟨o, ho⟩ : ∃ o, o = at' - heightI (ps.take K) := ⟨_, rfl⟩
      rw [← ho] at hso hspi
      have hwx : wallT (rg ps K) = (rg ps K).1 - (rg ps K).2.1 := rfl
      have hwt : wallT (rg ps T) = (rg ps T).1 - (rg ps T).2.1 := rfl
      rw [hwx, hwt] at htm
      rw [hwx] at hwa
      have HWA1 := Lib.hid hwa; clear hwa
      have HRA1 := Lib.hid hra; clear hra
      have HSP1 := Lib.hid hsp; clear hsp
      have HSO := Lib.hid hso; clear hso
      have HSPI := Lib.hid hspi; clear hspi
      have HSL := Lib.hid hsl; clear hsl
      have HO := Lib.hid ho; clear ho
      clear hK1 hK2 hKe hTe hwx hwt HTM HSP
      go_wp2_with fail
      refine (HWA1.out _ _ (Rd.of_own O0_5.out)).mono ?_
      rintro _ w6 ⟨rfl, r6⟩
      have s6 := r6
      have b6 := b5.trans (s6.mono z5)
      have z6 := b6.size
      have y6 := s6.size
      have c0_0_6 := below_cell s6 c0_0_5; clear c0_0_5
      have c0_1_6 := below_cell s6 c0_1_5; clear c0_1_5
      have c1_0_6 := below_cell s6 c1_0_5; clear c1_0_5
      have c1_1_6 := below_cell s6 c1_1_5; clear c1_1_5
      have o0_6 := own_later O0_5.out s6; have O0_6 := Lib.hid o0_6; clear o0_6
      have o1_6 := own_later O1_5.out s6; have O1_6 := Lib.hid o1_6; clear o1_6
      clear r6
      go_wp2_with fail
      refine (HRA1.out _ _ (Rd.of_own O0_6.out)).mono ?_
      rintro _ w7 ⟨rfl, r7⟩
      have s7 := r7
      have b7 := b6.trans (s7.mono z6)
      have z7 := b7.size
      have y7 := s7.size
      have c0_0_7 := below_cell s7 c0_0_6; clear c0_0_6
      have c0_1_7 := below_cell s7 c0_1_6; clear c0_1_6
      have c1_0_7 := below_cell s7 c1_0_6; clear c1_0_6
      have c1_1_7 := below_cell s7 c1_1_6; clear c1_1_6
      have o0_7 := own_later O0_6.out s7; have O0_7 := Lib.hid o0_7; clear o0_7
      have o1_7 := own_later O1_6.out s7; have O1_7 := Lib.hid o1_7; clear o1_7
      clear r7
      go_wp2_with fail
      refine (HTH.out _ _ (Rd.of_own O0_7.out)).mono ?_
      rintro _ w8 ⟨rfl, r8⟩
      have s8 := r8
      have b8 := b7.trans (s8.mono z7)
      have z8 := b8.size
      have y8 := s8.size
      have c0_0_8 := below_cell s8 c0_0_7; clear c0_0_7
      have c0_1_8 := below_cell s8 c0_1_7; clear c0_1_7
      have c1_0_8 := below_cell s8 c1_0_7; clear c1_0_7
      have c1_1_8 := below_cell s8 c1_1_7; clear c1_1_7
      have o0_8 := own_later O0_7.out s8; have O0_8 := Lib.hid o0_8; clear o0_8
      have o1_8 := own_later O1_7.out s8; have O1_8 := Lib.hid o1_8; clear o1_8
      clear r8
      have rdp := Rd.of_own O0_8.out
      obtain ⟨_, aoP, capP, bP, offP, hvP, haoP, hcellP⟩ := rdp.open
      cases hvP
      obtain rfl : au = some ⟨bP, offP, none⟩ := haoP (by omega)
      have ck0 := hcellP _ (Below.refl _ _) (K * 3) _ (by omega) (trips_at hKl).1
      have ck1 := hcellP _ (Below.refl _ _) (K * 3 + 1) _ (by omega) (trips_at hKl).2.1
      have cq0 := hcellP _ (Below.refl _ _) (T * 3) _ (by omega) (trips_at hTl).1
      have cq1 := hcellP _ (Below.refl _ _) (T * 3 + 1) _ (by omega) (trips_at hTl).2.1
      rw [← Nat.add_assoc] at ck1 cq1
      rw [← rg_eq hKl] at ck0 ck1
      rw [← rg_eq hTl] at cq0 cq1
      have ixK := ix (P := Tryz.prog) (T := 24) (n := ps.length) (cap := cu) Tryz.underlying24 cells_Ring has_Ring (ao := some ⟨bP, offP, none⟩) (b := bP) (off := offP) (fun _ => rfl) (k := K) hKl _ rfl
      have ixT := ix (P := Tryz.prog) (T := 24) (n := ps.length) (cap := cu) Tryz.underlying24 cells_Ring has_Ring (ao := some ⟨bP, offP, none⟩) (b := bP) (off := offP) (fun _ => rfl) (k := T) hTl _ rfl
      have rk := ringT_t (List.all_eq_true.1 hal _ (List.getElem_mem hKl))
      have rt := ringT_t (List.all_eq_true.1 hal _ (List.getElem_mem hTl))
      rw [← rg_eq hKl] at rk
      rw [← rg_eq hTl] at rt
      have e1 : decide ((K : Int) < 0) = false := by simp
      have e2 : decide ((T : Int) < 0) = false := by simp
      have e3 : decide ((ps.length : Int) ≤ (K : Int)) = false := by simp; omega
      have e4 : decide ((ps.length : Int) ≤ (T : Int)) = false := by simp; omega
      have e5 : decide ((rg ps K).1 - (rg ps K).2.1 < (rg ps T).1 - (rg ps T).2.1) = false := decide_eq_false (by omega)
      have HCP := Lib.hid hcellP; clear hcellP
      clear rdp haoP htm
      generalize hy0 : (rg ps K).1 = y0 at *
      generalize hy1 : (rg ps K).2.1 = y1 at *
      generalize (rg ps T).1 = u0 at *
      generalize (rg ps T).2.1 = u1 at *
      have HY0 := Lib.hid hy0; clear hy0
      have HY1 := Lib.hid hy1; clear hy1
      have g1 : IntKind.i64.wrap (y0 - y1) = y0 - y1 := IntWalk.i64_in _ (by omega)
      have g2 : IntKind.i64.wrap (u0 - u1) = u0 - u1 := IntWalk.i64_in _ (by omega)
      have g3 : ((y0 - y1 : Int) == (y0 - y1)) = true := beq_self_eq_true _
      have g4 : ((y0 - y1 : Int) != (y0 - y1)) = false := by simp
      go_wp2_with fail
      simp only [List.append_eq, List.cons_append, List.nil_append]
      go_quiet (fail)
      generalize hwd : World.drewN w8 _ = wd
      have rd9 : Below w8.heap.size w8 wd := by rw [← hwd]; exact below_drewN (Below.refl _ _) _
      clear hwd
      have s9 := rd9
      have b9 := b8.trans (s9.mono z8)
      have z9 := b9.size
      have y9 := s9.size
      have c0_0_9 := below_cell s9 c0_0_8; clear c0_0_8
      have c0_1_9 := below_cell s9 c0_1_8; clear c0_1_8
      have c1_0_9 := below_cell s9 c1_0_8; clear c1_0_8
      have c1_1_9 := below_cell s9 c1_1_8; clear c1_1_8
      have o0_9 := own_later O0_8.out s9; have O0_9 := Lib.hid o0_9; clear o0_9
      have o1_9 := own_later O1_8.out s9; have O1_9 := Lib.hid o1_9; clear o1_9
      clear ck0 ck1 cq0 cq1 ixK ixT rd9
      by_cases h10 : o < 10 ∨ (rg ps K).2.2 - o < 10
      · have hs := HSPI.out
        rw [if_pos h10] at hs
        have hsp := fun w' u hr => HSP1.out w' u hr
        rw [hs] at hsp
        have HSP2 := Lib.hid hsp; clear hsp
        clear hs h10 HSPI HSP1 HSO
        go_wp2_with fail
        refine (HSP2.out _ _ (Rd.of_own O0_9.out)).mono ?_
        rintro _ w10 ⟨x10, rfl, n10, r10⟩
        have s10 := r10
        have b10 := b9.trans (s10.mono z9)
        have z10 := b10.size
        have y10 := s10.size
        have c0_0_10 := below_cell s10 c0_0_9; clear c0_0_9
        have c0_1_10 := below_cell s10 c0_1_9; clear c0_1_9
        have c1_0_10 := below_cell s10 c1_0_9; clear c1_0_9
        have c1_1_10 := below_cell s10 c1_1_9; clear c1_1_9
        have o0_10 := own_later O0_9.out s10; have O0_10 := Lib.hid o0_10; clear o0_10
        have o1_10 := own_later O1_9.out s10; have O1_10 := Lib.hid o1_10; clear o1_10
        clear r10
        obtain ⟨ax, cx, hvx⟩ := own_shape n10
        simp only [List.length_nil] at hvx
        subst hvx
        clear n10
        have ac0_0 := fun o => alloc_cell o c0_0_10
        have ac0_1 := fun o => alloc_cell o c0_1_10
        have ac1_0 := fun o => alloc_cell o c1_0_10
        have ac1_1 := fun o => alloc_cell o c1_1_10
        go_wp2_with fail
        refine (HAT.out _ (by go_grown)).mono ?_
        rintro _ _ ⟨iv, rfl, i0, i1, rfl⟩
        obtain ⟨I, rfl⟩ : ∃ I : Nat, iv = (I : Int) := ⟨iv.toNat, by omega⟩
        have hI : I ≤ ps.length := by omega
        have hM : min I (ps.length - 1) < ps.length := by omega
        have hmin : min (I : Int) ((ps.length : Int) - 1) = ((min I (ps.length - 1) : Nat) : Int) := by omega
        obtain ⟨g1, g2, g3⟩ := HINS.out I hI _ rfl
        generalize min I (ps.length - 1) = M at *
        have rdt := Rd.of_own O0_10.out
        obtain ⟨_, aoT, capT, bT, offT, hvT, haoT, hcellT⟩ := rdt.open
        cases hvT
        obtain ⟨rfl, rfl⟩ : bP = bT ∧ offP = offT := by
          have := haoT (by omega)
          injection this with this
          injection this with e1 e2
          exact ⟨e1, e2⟩
        have ct0 := hcellT _ (Below.refl _ _) (M * 3) _ (by omega) (trips_at hM).1
        have ct1 := hcellT _ (Below.refl _ _) (M * 3 + 1) _ (by omega) (trips_at hM).2.1
        have ct2 := hcellT _ (Below.refl _ _) (M * 3 + 2) _ (by omega) (trips_at hM).2.2
        rw [← Nat.add_assoc] at ct1 ct2
        rw [← rg_eq hM] at ct0 ct1 ct2
        have ixT := ix (P := Tryz.prog) (T := 24) (n := ps.length) (cap := cu) Tryz.underlying24 cells_Ring has_Ring (ao := some ⟨bP, offP, none⟩) (b := bP) (off := offP) (fun _ => rfl) (k := M) hM _ rfl
        have hinr := fun w' u (hr : Rd w' u ps.length (trips ps)) => implInsertRing_c nm u ps (I : Int) (rg ps M).1 (rg ps M).2.1 (rg ps M).2.2 w' hnm hr
        rw [g1] at hinr
        have hrmr := fun w' u (hr : Rd w' u (insL ps (I : Int) (rg ps M)).length (trips (insL ps (I : Int) (rg ps M)))) => implRemoveRing_c nm u (insL ps (I : Int) (rg ps M)) (I : Int) w' hnm hr
        rw [g3] at hrmr
        generalize insL ps (I : Int) (rg ps M) = QI at *
        generalize (rg ps M).1 = x0 at *
        generalize (rg ps M).2.1 = x1 at *
        generalize (rg ps M).2.2 = x2 at *
        have aa0 := fun o o' => alloc_cell o' (alloc_cell o c0_0_10)
        have aa1 := fun o o' => alloc_cell o' (alloc_cell o c0_1_10)
        have at0 := fun o => alloc_cell o ct0
        have at1 := fun o => alloc_cell o ct1
        have at2 := fun o => alloc_cell o ct2
        have HINR := Lib.hid hinr; clear hinr
        have HRMR := Lib.hid hrmr; clear hrmr
        have HCT := Lib.hid hcellT; clear hcellT
        clear rdt g1 g2 g3 haoT
        have ac0_0 := fun o => alloc_cell o c0_0_10
        have ac0_1 := fun o => alloc_cell o c0_1_10
        have ac1_0 := fun o => alloc_cell o c1_0_10
        have ac1_1 := fun o => alloc_cell o c1_1_10
        go_wp2_with fail
        refine (HINR.out _ _ ((Rd.of_own O0_10.out).later (by go_grown))).mono ?_
        rintro _ w11 ⟨x11, rfl, n11, r11⟩
        have s11 : Below w10.heap.size w10 w11 := Below.trans (by go_grown) (r11.mono (by simp; try omega))
        have b11 := b10.trans (s11.mono z10)
        have z11 := b11.size
        have y11 := s11.size
        have c0_0_11 := below_cell s11 c0_0_10; clear c0_0_10
        have c0_1_11 := below_cell s11 c0_1_10; clear c0_1_10
        have c1_0_11 := below_cell s11 c1_0_10; clear c1_0_10
        have c1_1_11 := below_cell s11 c1_1_10; clear c1_1_10
        have c2_0_11 := below_cell r11 (p := ⟨w10.heap.size, 0, none⟩) (v := .string ⟨#[]⟩) (by simp [go_sem])
        have c2_1_11 := below_cell r11 (p := ⟨w10.heap.size, 1, none⟩) (v := .slice ax 0 cx) (by simp [go_sem])
        have c3_0_11 := below_cell r11 (p := ⟨w10.heap.size + 1, 0, none⟩) (v := .int .i64 x0) (by simp [go_sem])
        have c3_1_11 := below_cell r11 (p := ⟨w10.heap.size + 1, 1, none⟩) (v := .int .i64 x1) (by simp [go_sem])
        have c3_2_11 := below_cell r11 (p := ⟨w10.heap.size + 1, 2, none⟩) (v := .int .i64 x2) (by simp [go_sem])
        have o0_11 := own_later O0_10.out s11; have O0_11 := Lib.hid o0_11; clear o0_11
        have o1_11 := own_later O1_10.out s11; have O1_11 := Lib.hid o1_11; clear o1_11
        clear r11
        obtain ⟨aib, cib, hvib⟩ := own_shape n11
        subst hvib
        have oib := n11
        have OIb := Lib.hid oib; clear oib
        clear n11 ct0 ct1 ct2 at0 at1 at2 aa0 aa1 ixT
        have ac0_0 := fun o => alloc_cell o c0_0_11
        have ac0_1 := fun o => alloc_cell o c0_1_11
        have ac1_0 := fun o => alloc_cell o c1_0_11
        have ac1_1 := fun o => alloc_cell o c1_1_11
        have ac2_0 := fun o => alloc_cell o c2_0_11
        have ac2_1 := fun o => alloc_cell o c2_1_11
        have ac3_0 := fun o => alloc_cell o c3_0_11
        have ac3_1 := fun o => alloc_cell o c3_1_11
        have ac3_2 := fun o => alloc_cell o c3_2_11
        go_wp2_with fail
        refine (HRMR.out _ _ ((Rd.of_own OIb.out).later (by go_grown))).mono ?_
        rintro _ w12 ⟨x12, rfl, n12, r12⟩
        have s12 : Below w11.heap.size w11 w12 := Below.trans (by go_grown) (r12.mono (by simp; try omega))
        have b12 := b11.trans (s12.mono z11)
        have z12 := b12.size
        have y12 := s12.size
        have c0_0_12 := below_cell s12 c0_0_11; clear c0_0_11
        have c0_1_12 := below_cell s12 c0_1_11; clear c0_1_11
        have c1_0_12 := below_cell s12 c1_0_11; clear c1_0_11
        have c1_1_12 := below_cell s12 c1_1_11; clear c1_1_11
        have c2_0_12 := below_cell s12 c2_0_11; clear c2_0_11
        have c2_1_12 := below_cell s12 c2_1_11; clear c2_1_11
        have c3_0_12 := below_cell s12 c3_0_11; clear c3_0_11
        have c3_1_12 := below_cell s12 c3_1_11; clear c3_1_11
        have c3_2_12 := below_cell s12 c3_2_11; clear c3_2_11
        have c4_0_12 := below_cell r12 (p := ⟨w11.heap.size, 0, none⟩) (v := .string nm) (by simp [go_sem])
        have c4_1_12 := below_cell r12 (p := ⟨w11.heap.size, 1, none⟩) (v := .slice aib QI.length cib) (by simp [go_sem])
        have o0_12 := own_later O0_11.out s12; have O0_12 := Lib.hid o0_12; clear o0_12
        have o1_12 := own_later O1_11.out s12; have O1_12 := Lib.hid o1_12; clear o1_12
        have o5_12 := own_later OIb.out s12; have O5_12 := Lib.hid o5_12; clear o5_12
        clear r12
        obtain ⟨arb, crb, hvrb⟩ := own_shape n12
        subst hvrb
        have orb := n12
        have ORb := Lib.hid orb; clear orb
        clear n12
        have ac0_0 := fun o => alloc_cell o c0_0_12
        have ac0_1 := fun o => alloc_cell o c0_1_12
        have ac1_0 := fun o => alloc_cell o c1_0_12
        have ac1_1 := fun o => alloc_cell o c1_1_12
        have ac2_0 := fun o => alloc_cell o c2_0_12
        have ac2_1 := fun o => alloc_cell o c2_1_12
        have ac3_0 := fun o => alloc_cell o c3_0_12
        have ac3_1 := fun o => alloc_cell o c3_1_12
        have ac3_2 := fun o => alloc_cell o c3_2_12
        have ac4_0 := fun o => alloc_cell o c4_0_12
        have ac4_1 := fun o => alloc_cell o c4_1_12
        go_wp2_with fail
        refine (HSAME.out _ _ _ ((Rd.of_own ORb.out).later (by go_grown)) ((Rd.of_own O0_12.out).later (by go_grown))).mono ?_
        rintro _ w13 ⟨rfl, r13⟩
        have s13 : Below w12.heap.size w12 w13 := Below.trans (by go_grown) (r13.mono (by simp; try omega))
        have b13 := b12.trans (s13.mono z12)
        have z13 := b13.size
        have y13 := s13.size
        have c0_0_13 := below_cell s13 c0_0_12; clear c0_0_12
        have c0_1_13 := below_cell s13 c0_1_12; clear c0_1_12
        have c1_0_13 := below_cell s13 c1_0_12; clear c1_0_12
        have c1_1_13 := below_cell s13 c1_1_12; clear c1_1_12
        have c2_0_13 := below_cell s13 c2_0_12; clear c2_0_12
        have c2_1_13 := below_cell s13 c2_1_12; clear c2_1_12
        have c3_0_13 := below_cell s13 c3_0_12; clear c3_0_12
        have c3_1_13 := below_cell s13 c3_1_12; clear c3_1_12
        have c3_2_13 := below_cell s13 c3_2_12; clear c3_2_12
        have c4_0_13 := below_cell s13 c4_0_12; clear c4_0_12
        have c4_1_13 := below_cell s13 c4_1_12; clear c4_1_12
        have c5_0_13 := below_cell r13 (p := ⟨w12.heap.size, 0, none⟩) (v := .string nm) (by simp [go_sem])
        have c5_1_13 := below_cell r13 (p := ⟨w12.heap.size, 1, none⟩) (v := .slice arb ps.length crb) (by simp [go_sem])
        have o0_13 := own_later O0_12.out s13; have O0_13 := Lib.hid o0_13; clear o0_13
        have o1_13 := own_later O1_12.out s13; have O1_13 := Lib.hid o1_13; clear o1_13
        have o5_13 := own_later O5_12.out s13; have O5_13 := Lib.hid o5_13; clear o5_13
        have o6_13 := own_later ORb.out s13; have O6_13 := Lib.hid o6_13; clear o6_13
        clear r13
        go_wp2
        go_returns
        exact RetB.mk rfl b13
      · have hs := HSPI.out
        rw [if_neg h10] at hs
        have hsp := fun w' u hr => HSP1.out w' u hr
        rw [hs] at hsp
        obtain ⟨s1, s2, s3, s4⟩ := HSO.out h10
        have hll := HSL.out o
        have hhc := fun w' u hr => implHeightOf_c nm u (sprL ps K o) w' hnm hr s1
        rw [s2] at hhc
        have hask2 : askI nm (sprL ps K o) at' = 0 := by unfold askI; rw [if_pos s1, s2, if_pos (inB_mk (by omega))]
        have hwc := fun w' u hr => implWallAt_c nm u (sprL ps K o) at' w' hnm hr
        have hrc := fun w' u hr => implRingAt_c nm u (sprL ps K o) at' w' hnm hr
        rw [show wallAtI nm (sprL ps K o) at' = (y0 - y1, 0) by unfold wallAtI; rw [if_pos hask2, s3, s4]; rfl] at hwc
        rw [show ringAtI nm (sprL ps K o) at' = (((K + 1 : Nat) : Int), 0) by unfold ringAtI; rw [if_pos hask2, s3]] at hrc
        rw [show ((K + 1 : Nat) : Int) = (K : Int) + 1 from rfl] at hrc
        generalize sprL ps K o = CU at *
        have HSP2 := Lib.hid hsp; clear hsp
        have HHC := Lib.hid hhc; clear hhc
        have HWC := Lib.hid hwc; clear hwc
        have HRC := Lib.hid hrc; clear hrc
        have HLL := Lib.hid hll; clear hll
        clear hs h10 HSPI HSP1 HSO s1 s2 s3 s4 hask2
        go_wp2_with fail
        refine (HSP2.out _ _ (Rd.of_own O0_9.out)).mono ?_
        rintro _ w10 ⟨x10, rfl, n10, r10⟩
        have s10 := r10
        have b10 := b9.trans (s10.mono z9)
        have z10 := b10.size
        have y10 := s10.size
        have c0_0_10 := below_cell s10 c0_0_9; clear c0_0_9
        have c0_1_10 := below_cell s10 c0_1_9; clear c0_1_9
        have c1_0_10 := below_cell s10 c1_0_9; clear c1_0_9
        have c1_1_10 := below_cell s10 c1_1_9; clear c1_1_9
        have o0_10 := own_later O0_9.out s10; have O0_10 := Lib.hid o0_10; clear o0_10
        have o1_10 := own_later O1_9.out s10; have O1_10 := Lib.hid o1_10; clear o1_10
        clear r10
        obtain ⟨ax, cx, hvx⟩ := own_shape n10
        subst hvx
        have ox := n10
        have OX := Lib.hid ox; clear ox
        clear n10
        have ac0_0 := fun o => alloc_cell o c0_0_10
        have ac0_1 := fun o => alloc_cell o c0_1_10
        have ac1_0 := fun o => alloc_cell o c1_0_10
        have ac1_1 := fun o => alloc_cell o c1_1_10
        go_wp2_with fail
        refine (HHC.out _ _ ((Rd.of_own OX.out).later (by go_grown))).mono ?_
        rintro _ w11 ⟨rfl, r11⟩
        have s11 : Below w10.heap.size w10 w11 := Below.trans (by go_grown) (r11.mono (by simp; try omega))
        have b11 := b10.trans (s11.mono z10)
        have z11 := b11.size
        have y11 := s11.size
        have c0_0_11 := below_cell s11 c0_0_10; clear c0_0_10
        have c0_1_11 := below_cell s11 c0_1_10; clear c0_1_10
        have c1_0_11 := below_cell s11 c1_0_10; clear c1_0_10
        have c1_1_11 := below_cell s11 c1_1_10; clear c1_1_10
        have c2_0_11 := below_cell r11 (p := ⟨w10.heap.size, 0, none⟩) (v := .string nm) (by simp [go_sem])
        have c2_1_11 := below_cell r11 (p := ⟨w10.heap.size, 1, none⟩) (v := .slice ax CU.length cx) (by simp [go_sem])
        have o0_11 := own_later O0_10.out s11; have O0_11 := Lib.hid o0_11; clear o0_11
        have o1_11 := own_later O1_10.out s11; have O1_11 := Lib.hid o1_11; clear o1_11
        have o4_11 := own_later OX.out s11; have O4_11 := Lib.hid o4_11; clear o4_11
        clear r11
        go_wp2_with fail
        refine (HWC.out _ _ (Rd.of_own O4_11.out)).mono ?_
        rintro _ w12 ⟨rfl, r12⟩
        have s12 := r12
        have b12 := b11.trans (s12.mono z11)
        have z12 := b12.size
        have y12 := s12.size
        have c0_0_12 := below_cell s12 c0_0_11; clear c0_0_11
        have c0_1_12 := below_cell s12 c0_1_11; clear c0_1_11
        have c1_0_12 := below_cell s12 c1_0_11; clear c1_0_11
        have c1_1_12 := below_cell s12 c1_1_11; clear c1_1_11
        have c2_0_12 := below_cell s12 c2_0_11; clear c2_0_11
        have c2_1_12 := below_cell s12 c2_1_11; clear c2_1_11
        have o0_12 := own_later O0_11.out s12; have O0_12 := Lib.hid o0_12; clear o0_12
        have o1_12 := own_later O1_11.out s12; have O1_12 := Lib.hid o1_12; clear o1_12
        have o4_12 := own_later O4_11.out s12; have O4_12 := Lib.hid o4_12; clear o4_12
        clear r12
        go_wp2_with fail
        refine (HRC.out _ _ (Rd.of_own O4_12.out)).mono ?_
        rintro _ w13 ⟨rfl, r13⟩
        have s13 := r13
        have b13 := b12.trans (s13.mono z12)
        have z13 := b13.size
        have y13 := s13.size
        have c0_0_13 := below_cell s13 c0_0_12; clear c0_0_12
        have c0_1_13 := below_cell s13 c0_1_12; clear c0_1_12
        have c1_0_13 := below_cell s13 c1_0_12; clear c1_0_12
        have c1_1_13 := below_cell s13 c1_1_12; clear c1_1_12
        have c2_0_13 := below_cell s13 c2_0_12; clear c2_0_12
        have c2_1_13 := below_cell s13 c2_1_12; clear c2_1_12
        have o0_13 := own_later O0_12.out s13; have O0_13 := Lib.hid o0_13; clear o0_13
        have o1_13 := own_later O1_12.out s13; have O1_13 := Lib.hid o1_13; clear o1_13
        have o4_13 := own_later O4_12.out s13; have O4_13 := Lib.hid o4_13; clear o4_13
        clear r13
        have hlc : ((CU.length : Nat) : Int) = (ps.length : Int) + 1 := by rw [HLL.out]; rfl
        go_wp2_with fail
        refine (HAT.out _ b13).mono ?_
        rintro _ _ ⟨iv, rfl, i0, i1, rfl⟩
        obtain ⟨I, rfl⟩ : ∃ I : Nat, iv = (I : Int) := ⟨iv.toNat, by omega⟩
        have hI : I ≤ ps.length := by omega
        have hM : min I (ps.length - 1) < ps.length := by omega
        have hmin : min (I : Int) ((ps.length : Int) - 1) = ((min I (ps.length - 1) : Nat) : Int) := by omega
        obtain ⟨g1, g2, g3⟩ := HINS.out I hI _ rfl
        generalize min I (ps.length - 1) = M at *
        have rdt := Rd.of_own O0_13.out
        obtain ⟨_, aoT, capT, bT, offT, hvT, haoT, hcellT⟩ := rdt.open
        cases hvT
        obtain ⟨rfl, rfl⟩ : bP = bT ∧ offP = offT := by
          have := haoT (by omega)
          injection this with this
          injection this with e1 e2
          exact ⟨e1, e2⟩
        have ct0 := hcellT _ (Below.refl _ _) (M * 3) _ (by omega) (trips_at hM).1
        have ct1 := hcellT _ (Below.refl _ _) (M * 3 + 1) _ (by omega) (trips_at hM).2.1
        have ct2 := hcellT _ (Below.refl _ _) (M * 3 + 2) _ (by omega) (trips_at hM).2.2
        rw [← Nat.add_assoc] at ct1 ct2
        rw [← rg_eq hM] at ct0 ct1 ct2
        have ixT := ix (P := Tryz.prog) (T := 24) (n := ps.length) (cap := cu) Tryz.underlying24 cells_Ring has_Ring (ao := some ⟨bP, offP, none⟩) (b := bP) (off := offP) (fun _ => rfl) (k := M) hM _ rfl
        have hinr := fun w' u (hr : Rd w' u ps.length (trips ps)) => implInsertRing_c nm u ps (I : Int) (rg ps M).1 (rg ps M).2.1 (rg ps M).2.2 w' hnm hr
        rw [g1] at hinr
        have hrmr := fun w' u (hr : Rd w' u (insL ps (I : Int) (rg ps M)).length (trips (insL ps (I : Int) (rg ps M)))) => implRemoveRing_c nm u (insL ps (I : Int) (rg ps M)) (I : Int) w' hnm hr
        rw [g3] at hrmr
        generalize insL ps (I : Int) (rg ps M) = QI at *
        generalize (rg ps M).1 = x0 at *
        generalize (rg ps M).2.1 = x1 at *
        generalize (rg ps M).2.2 = x2 at *
        have aa0 := fun o o' => alloc_cell o' (alloc_cell o c0_0_13)
        have aa1 := fun o o' => alloc_cell o' (alloc_cell o c0_1_13)
        have at0 := fun o => alloc_cell o ct0
        have at1 := fun o => alloc_cell o ct1
        have at2 := fun o => alloc_cell o ct2
        have HINR := Lib.hid hinr; clear hinr
        have HRMR := Lib.hid hrmr; clear hrmr
        have HCT := Lib.hid hcellT; clear hcellT
        clear rdt g1 g2 g3 haoT
        have ac0_0 := fun o => alloc_cell o c0_0_13
        have ac0_1 := fun o => alloc_cell o c0_1_13
        have ac1_0 := fun o => alloc_cell o c1_0_13
        have ac1_1 := fun o => alloc_cell o c1_1_13
        have ac2_0 := fun o => alloc_cell o c2_0_13
        have ac2_1 := fun o => alloc_cell o c2_1_13
        go_wp2_with fail
        refine (HINR.out _ _ ((Rd.of_own O0_13.out).later (by go_grown))).mono ?_
        rintro _ w14 ⟨x14, rfl, n14, r14⟩
        have s14 : Below w13.heap.size w13 w14 := Below.trans (by go_grown) (r14.mono (by simp; try omega))
        have b14 := b13.trans (s14.mono z13)
        have z14 := b14.size
        have y14 := s14.size
        have c0_0_14 := below_cell s14 c0_0_13; clear c0_0_13
        have c0_1_14 := below_cell s14 c0_1_13; clear c0_1_13
        have c1_0_14 := below_cell s14 c1_0_13; clear c1_0_13
        have c1_1_14 := below_cell s14 c1_1_13; clear c1_1_13
        have c2_0_14 := below_cell s14 c2_0_13; clear c2_0_13
        have c2_1_14 := below_cell s14 c2_1_13; clear c2_1_13
        have c3_0_14 := below_cell r14 (p := ⟨w13.heap.size, 0, none⟩) (v := .int .i64 x0) (by simp [go_sem])
        have c3_1_14 := below_cell r14 (p := ⟨w13.heap.size, 1, none⟩) (v := .int .i64 x1) (by simp [go_sem])
        have c3_2_14 := below_cell r14 (p := ⟨w13.heap.size, 2, none⟩) (v := .int .i64 x2) (by simp [go_sem])
        have o0_14 := own_later O0_13.out s14; have O0_14 := Lib.hid o0_14; clear o0_14
        have o1_14 := own_later O1_13.out s14; have O1_14 := Lib.hid o1_14; clear o1_14
        have o4_14 := own_later O4_13.out s14; have O4_14 := Lib.hid o4_14; clear o4_14
        clear r14
        obtain ⟨aia, cia, hvia⟩ := own_shape n14
        subst hvia
        have oia := n14
        have OIa := Lib.hid oia; clear oia
        clear n14 ct0 ct1 ct2 at0 at1 at2 aa0 aa1 ixT
        have ac0_0 := fun o => alloc_cell o c0_0_14
        have ac0_1 := fun o => alloc_cell o c0_1_14
        have ac1_0 := fun o => alloc_cell o c1_0_14
        have ac1_1 := fun o => alloc_cell o c1_1_14
        have ac2_0 := fun o => alloc_cell o c2_0_14
        have ac2_1 := fun o => alloc_cell o c2_1_14
        have ac3_0 := fun o => alloc_cell o c3_0_14
        have ac3_1 := fun o => alloc_cell o c3_1_14
        have ac3_2 := fun o => alloc_cell o c3_2_14
        go_wp2_with fail
        refine (HRMR.out _ _ ((Rd.of_own OIa.out).later (by go_grown))).mono ?_
        rintro _ w15 ⟨x15, rfl, n15, r15⟩
        have s15 : Below w14.heap.size w14 w15 := Below.trans (by go_grown) (r15.mono (by simp; try omega))
        have b15 := b14.trans (s15.mono z14)
        have z15 := b15.size
        have y15 := s15.size
        have c0_0_15 := below_cell s15 c0_0_14; clear c0_0_14
        have c0_1_15 := below_cell s15 c0_1_14; clear c0_1_14
        have c1_0_15 := below_cell s15 c1_0_14; clear c1_0_14
        have c1_1_15 := below_cell s15 c1_1_14; clear c1_1_14
        have c2_0_15 := below_cell s15 c2_0_14; clear c2_0_14
        have c2_1_15 := below_cell s15 c2_1_14; clear c2_1_14
        have c3_0_15 := below_cell s15 c3_0_14; clear c3_0_14
        have c3_1_15 := below_cell s15 c3_1_14; clear c3_1_14
        have c3_2_15 := below_cell s15 c3_2_14; clear c3_2_14
        have c4_0_15 := below_cell r15 (p := ⟨w14.heap.size, 0, none⟩) (v := .string nm) (by simp [go_sem])
        have c4_1_15 := below_cell r15 (p := ⟨w14.heap.size, 1, none⟩) (v := .slice aia QI.length cia) (by simp [go_sem])
        have o0_15 := own_later O0_14.out s15; have O0_15 := Lib.hid o0_15; clear o0_15
        have o1_15 := own_later O1_14.out s15; have O1_15 := Lib.hid o1_15; clear o1_15
        have o4_15 := own_later O4_14.out s15; have O4_15 := Lib.hid o4_15; clear o4_15
        have o5_15 := own_later OIa.out s15; have O5_15 := Lib.hid o5_15; clear o5_15
        clear r15
        obtain ⟨ara, cra, hvra⟩ := own_shape n15
        subst hvra
        have ora := n15
        have ORa := Lib.hid ora; clear ora
        clear n15
        have ac0_0 := fun o => alloc_cell o c0_0_15
        have ac0_1 := fun o => alloc_cell o c0_1_15
        have ac1_0 := fun o => alloc_cell o c1_0_15
        have ac1_1 := fun o => alloc_cell o c1_1_15
        have ac2_0 := fun o => alloc_cell o c2_0_15
        have ac2_1 := fun o => alloc_cell o c2_1_15
        have ac3_0 := fun o => alloc_cell o c3_0_15
        have ac3_1 := fun o => alloc_cell o c3_1_15
        have ac3_2 := fun o => alloc_cell o c3_2_15
        have ac4_0 := fun o => alloc_cell o c4_0_15
        have ac4_1 := fun o => alloc_cell o c4_1_15
        go_wp2_with fail
        refine (HSAME.out _ _ _ ((Rd.of_own ORa.out).later (by go_grown)) ((Rd.of_own O0_15.out).later (by go_grown))).mono ?_
        rintro _ w16 ⟨rfl, r16⟩
        have s16 : Below w15.heap.size w15 w16 := Below.trans (by go_grown) (r16.mono (by simp; try omega))
        have b16 := b15.trans (s16.mono z15)
        have z16 := b16.size
        have y16 := s16.size
        have c0_0_16 := below_cell s16 c0_0_15; clear c0_0_15
        have c0_1_16 := below_cell s16 c0_1_15; clear c0_1_15
        have c1_0_16 := below_cell s16 c1_0_15; clear c1_0_15
        have c1_1_16 := below_cell s16 c1_1_15; clear c1_1_15
        have c2_0_16 := below_cell s16 c2_0_15; clear c2_0_15
        have c2_1_16 := below_cell s16 c2_1_15; clear c2_1_15
        have c3_0_16 := below_cell s16 c3_0_15; clear c3_0_15
        have c3_1_16 := below_cell s16 c3_1_15; clear c3_1_15
        have c3_2_16 := below_cell s16 c3_2_15; clear c3_2_15
        have c4_0_16 := below_cell s16 c4_0_15; clear c4_0_15
        have c4_1_16 := below_cell s16 c4_1_15; clear c4_1_15
        have c5_0_16 := below_cell r16 (p := ⟨w15.heap.size, 0, none⟩) (v := .string nm) (by simp [go_sem])
        have c5_1_16 := below_cell r16 (p := ⟨w15.heap.size, 1, none⟩) (v := .slice ara ps.length cra) (by simp [go_sem])
        have o0_16 := own_later O0_15.out s16; have O0_16 := Lib.hid o0_16; clear o0_16
        have o1_16 := own_later O1_15.out s16; have O1_16 := Lib.hid o1_16; clear o1_16
        have o4_16 := own_later O4_15.out s16; have O4_16 := Lib.hid o4_16; clear o4_16
        have o5_16 := own_later O5_15.out s16; have O5_16 := Lib.hid o5_16; clear o5_16
        have o6_16 := own_later ORa.out s16; have O6_16 := Lib.hid o6_16; clear o6_16
        clear r16
        go_wp2
        go_returns
        exact RetB.mk rfl b16
    · have HLO := Lib.hid hlo; clear hlo
      obtain ⟨_, aoA, capA, _, _, rfl, _, _⟩ := h0.open
      obtain ⟨_, aoB, capB, _, _, rfl, _, _⟩ := h1.open
      clear h0 h1 hb0 hb1
      go_enter Tryz.func3, Tryz.ntmps3
      go_wp2_with fail
      refine HLO.out.mono ?_
      rintro _ _ ⟨rfl, rfl⟩
      go_wp2
      go_returns
      exact RetB.mk rfl (Below.refl _ _)
  · have hlo := r8Long_t v0 v1 z0s z1s w h0 h1 l0
    have HLO := Lib.hid hlo; clear hlo
    obtain ⟨_, aoA, capA, _, _, rfl, _, _⟩ := h0.open
    obtain ⟨_, aoB, capB, _, _, rfl, _, _⟩ := h1.open
    clear h0 h1 hb0 hb1
    go_enter Tryz.func3, Tryz.ntmps3
    go_wp2_with fail
    refine HLO.out.mono ?_
    rintro _ _ ⟨rfl, rfl⟩
    go_wp2
    go_returns
    exact RetB.mk rfl (Below.refl _ _)

end Go.Proofs.YtgdadbmhdljcdaaGreatDoor
