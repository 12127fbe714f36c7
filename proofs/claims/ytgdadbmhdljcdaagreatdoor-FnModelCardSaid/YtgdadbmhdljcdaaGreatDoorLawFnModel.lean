/- The law FnModel, walked. -/
import Derived.Test.YtgdadbmhdljcdaaGreatDoorModG
import Derived.Test.YtgdadbmhdljcdaaGreatDoorTD
import Derived.Test.YtgdadbmhdljcdaaGreatDoorTF
import Derived.Test.YtgdadbmhdljcdaaGreatDoorTxtMp
import Derived.Test.YtgdadbmhdljcdaaGreatDoorUE
import Derived.Test.YtgdadbmhdljcdaaGreatDoorVD
import Derived.Test.YtgdadbmhdljcdaaGreatDoorWA
import Derived.Test.YtgdadbmhdljcdaaGreatDoorWB
import Derived.Test.YtgdadbmhdljcdaaGreatDoorWC
import Derived.Test.YtgdadbmhdljcdaaGreatDoorWL
namespace Go.Proofs.YtgdadbmhdljcdaaGreatDoor
set_option linter.unusedVariables false
open Go.RowKit Go.Proofs.Bell Go.BigFrame

set_option maxRecDepth 100000 in
set_option maxHeartbeats 12800000 in
theorem lawFnModel_c (w : World) (htab : RTab w) (v0 v1 : Value) (z0s z1s : List Int) (h0 : Rd w v0 z0s.length (bytesV z0s)) (h1 : Rd w v1 z1s.length (bytesV z1s)) (hb0 : ∀ z ∈ z0s, Byte z) (hb1 : ∀ z ∈ z1s, Byte z) : Calls Tryz.prog 4 #[v0, v1] w (RetB (.bool true) w) := by
  have hl0 := long10_c v0 z0s w h0
  have hl1 := long10_c v1 z1s w h1
  cases l0 : decide (1048576 < z0s.length) <;> rw [l0] at hl0
  · cases l1 : decide (1048576 < z1s.length) <;> rw [l1] at hl1
    · have k0 : z0s.length ≤ 1048576 := by have := of_decide_eq_false l0; omega
      have k1 : z1s.length ≤ 1048576 := by have := of_decide_eq_false l1; omega
      have hdf := DrawFitBase_c v0 z0s w h0 hb0 k0
      have hds := fun w' (hx : Below w.heap.size w w') => DrawStandardModel_c v1 z1s w' (h1.later hx) hb1 k1
      obtain ⟨_, aoA, capA, _, _, rfl, _, _⟩ := h0.open
      obtain ⟨_, aoB, capB, _, _, rfl, _, _⟩ := h1.open
      have HL0 := Lib.hid hl0; clear hl0
      have HL1 := Lib.hid hl1; clear hl1
      have HDF := Lib.hid hdf; clear hdf
      have HDS := Lib.hid hds; clear hds
      have HTAB := Lib.hid htab; clear htab
      clear h0 h1 hb0 hb1 l0 l1 k0 k1
      generalize z0s.length = na at *
      generalize z1s.length = nb at *
      go_enter Tryz.func4, Tryz.ntmps4
      go_wp2_with fail
      refine HL0.out.mono ?_
      rintro _ _ ⟨rfl, rfl⟩
      go_wp2_with fail
      refine HL1.out.mono ?_
      rintro _ _ ⟨rfl, rfl⟩
      go_wp2_with fail
      refine HDF.out.mono ?_
      rintro _ wa ⟨zv, wv, bv, u, zs, ws, bs, nm, ps, sa, sb, sc, sd, se, rfl, hz, hw, hb, hr, hnm, hz8, ba⟩
      have hfb := fun w' (hx : Below wa.heap.size wa w') => implFitBase_c zv wv bv zs ws bs nm u ps sa sb sc sd se w' (hz.later hx) (hw.later hx) (hb.later hx) hnm (hr.later hx)
      have hds := fun w' (hx : Below wa.heap.size wa w') => HDS.out w' (ba.trans (hx.mono ba.size))
      have htb := fun w' (hx : Below wa.heap.size wa w') => HTAB.out.later (ba.trans (hx.mono ba.size))
      clear HDS HTAB HL0 HL1 HDF
      have HDS := Lib.hid hds; clear hds
      have HTAB := Lib.hid htb; clear htb
      obtain ⟨_, a1, c1, _, _, rfl, _, _⟩ := hz.open
      obtain ⟨us', _, hru, _⟩ := hw
      obtain ⟨_, a2, c2, _, _, rfl, _, _⟩ := hru.open
      obtain ⟨_, a3, c3, _, _, rfl, _, _⟩ := hb.open
      obtain ⟨_, a4, c4, _, _, rfl, _, _⟩ := hr.open
      clear hz hru hb
      by_cases t0 : ¬ (fitM zs ws bs nm ps sa sb sc sd se).2 = 0
      · have hn := fitM_nil t0
        have t9 : ((fitM zs ws bs nm ps sa sb sc sd se).2 == 0) = false := beq_eq_false_iff_ne.2 t0
        rw [hn] at hfb
        dsimp only at hfb
        generalize (fitM zs ws bs nm ps sa sb sc sd se).2 = code at *
        have HFB := Lib.hid hfb; clear hfb
        clear hr hn
        have b0 : Below wa.heap.size wa wa := Below.refl _ _
        have z0 : wa.heap.size ≤ wa.heap.size := Nat.le_refl _
        go_wp2_with fail
        refine (HFB.out _ (by go_grown)).mono ?_
        rintro _ wf ⟨xv, xw, xb, us, rfl, om, rf⟩
        have s1 : Below wa.heap.size wa wf := Below.trans (by go_grown) (rf.mono (by simp; try omega))
        have b1 := b0.trans (s1.mono z0)
        have z1 := b1.size
        have y1 := s1.size
        have c0_0_1 := below_cell rf (p := ⟨wa.heap.size, 0, none⟩) (v := .slice a1 zs.length c1) (by simp [go_sem])
        have c0_1_1 := below_cell rf (p := ⟨wa.heap.size, 1, none⟩) (v := .slice a2 ws.length c2) (by simp [go_sem])
        have c0_2_1 := below_cell rf (p := ⟨wa.heap.size, 2, none⟩) (v := .slice a3 bs.length c3) (by simp [go_sem])
        have c1_0_1 := below_cell rf (p := ⟨wa.heap.size + 1, 0, none⟩) (v := .string nm) (by simp [go_sem])
        have c1_1_1 := below_cell rf (p := ⟨wa.heap.size + 1, 1, none⟩) (v := .slice a4 ps.length c4) (by simp [go_sem])
        have c2_0_1 := below_cell rf (p := ⟨wa.heap.size + 1 + 1, 0, none⟩) (v := .int .i64 sa) (by simp [go_sem])
        have c2_1_1 := below_cell rf (p := ⟨wa.heap.size + 1 + 1, 1, none⟩) (v := .int .i64 sb) (by simp [go_sem])
        have c2_2_1 := below_cell rf (p := ⟨wa.heap.size + 1 + 1, 2, none⟩) (v := .int .i64 sc) (by simp [go_sem])
        have c2_3_1 := below_cell rf (p := ⟨wa.heap.size + 1 + 1, 3, none⟩) (v := .int .i64 sd) (by simp [go_sem])
        have c2_4_1 := below_cell rf (p := ⟨wa.heap.size + 1 + 1, 4, none⟩) (v := .int .i64 se) (by simp [go_sem])
        obtain ⟨ax, cx, rfl⟩ := own_shape om.z
        have hxw := om.s.rd
        obtain ⟨us2, _, hru, _⟩ := hxw
        obtain ⟨_, aw, cw, _, _, rfl, _, _⟩ := hru.open
        obtain ⟨ab, cb, rfl⟩ := own_shape om.b
        clear om hru
        have bw := ba.trans (b1.mono ba.size)
        go_wp2
        go_returns
        exact RetB.mk rfl (bw.alloc bw.size _)
      · have t0 : (fitM zs ws bs nm ps sa sb sc sd se).2 = 0 := Classical.not_not.1 t0
        obtain ⟨fs, hfe, hso, hfl, hmb, hraw, hall⟩ := fit_law t0
        rw [hfe, t0] at hfb
        dsimp only at hfb
        have hl5 : (rawL ps zs ws fs).length = 5 := rawK_len _ _ _ _ 5
        have hls : [sa, sb, sc, sd, se].length = 5 := rfl
        have hrd : readM (modT zs ws fs) = some (zs, ws, fs) := readM_text (m := (zs, ws, fs)) hmb
        have hms : (modT zs ws fs).length ≤ 20000 := modT_size hmb
        have hpo := fun k w' (hk : k < 5) => PartialOf_c sa sb sc sd se k w' hso hk
        have hsb := fun k hk => soundB_bd hso k hk
        generalize hSL : [sa, sb, sc, sd, se] = SL at *
        clear hSL
        have HFB := Lib.hid hfb; clear hfb
        have HR := Lib.hid hr; clear hr
        have b0 : Below wa.heap.size wa wa := Below.refl _ _
        have z0 : wa.heap.size ≤ wa.heap.size := Nat.le_refl _
        go_wp2_with fail
        refine (HFB.out _ (by go_grown)).mono ?_
        rintro _ wf ⟨xv, xw, xb, us, rfl, om, rf⟩
        have s1 : Below wa.heap.size wa wf := Below.trans (by go_grown) (rf.mono (by simp; try omega))
        have b1 := b0.trans (s1.mono z0)
        have z1 := b1.size
        have y1 := s1.size
        have c0_0_1 := below_cell rf (p := ⟨wa.heap.size, 0, none⟩) (v := .slice a1 zs.length c1) (by simp [go_sem])
        have c0_1_1 := below_cell rf (p := ⟨wa.heap.size, 1, none⟩) (v := .slice a2 ws.length c2) (by simp [go_sem])
        have c0_2_1 := below_cell rf (p := ⟨wa.heap.size, 2, none⟩) (v := .slice a3 bs.length c3) (by simp [go_sem])
        have c1_0_1 := below_cell rf (p := ⟨wa.heap.size + 1, 0, none⟩) (v := .string nm) (by simp [go_sem])
        have c1_1_1 := below_cell rf (p := ⟨wa.heap.size + 1, 1, none⟩) (v := .slice a4 ps.length c4) (by simp [go_sem])
        have c2_0_1 := below_cell rf (p := ⟨wa.heap.size + 1 + 1, 0, none⟩) (v := .int .i64 sa) (by simp [go_sem])
        have c2_1_1 := below_cell rf (p := ⟨wa.heap.size + 1 + 1, 1, none⟩) (v := .int .i64 sb) (by simp [go_sem])
        have c2_2_1 := below_cell rf (p := ⟨wa.heap.size + 1 + 1, 2, none⟩) (v := .int .i64 sc) (by simp [go_sem])
        have c2_3_1 := below_cell rf (p := ⟨wa.heap.size + 1 + 1, 3, none⟩) (v := .int .i64 sd) (by simp [go_sem])
        have c2_4_1 := below_cell rf (p := ⟨wa.heap.size + 1 + 1, 4, none⟩) (v := .int .i64 se) (by simp [go_sem])
        obtain ⟨ax, cx, hvx⟩ := own_shape om.z
        subst hvx
        obtain ⟨ab, cb, hvb⟩ := own_shape om.b
        rw [hfl] at hvb
        subst hvb
        have hxz := Rd.of_own om.z
        have hxw := om.s.rd
        have hxb := Rd.of_own om.b
        rw [hfl] at hxb
        clear om
        have hrp := fun w' (hx : Below wa.heap.size wa w') (q1 : Rd w' (.slice ax zs.length cx) zs.length (ints zs)) (q2 : RdSS w' xw ws) (q3 : Rd w' (.slice ab 5 cb) 5 (ints fs)) => implRawPartials_c (.slice ax zs.length cx) xw (.slice ab 5 cb) zs ws fs nm (.slice a4 ps.length c4) ps w' q1 q2 (by rw [hfl]; exact q3) hnm (HR.out.later hx)
        have hvm := fun w' (q1 : Rd w' (.slice ax zs.length cx) zs.length (ints zs)) (q2 : RdSS w' xw ws) (q3 : Rd w' (.slice ab 5 cb) 5 (ints fs)) => specValidModel_c (.slice ax zs.length cx) xw (.slice ab 5 cb) zs ws fs w' q1 q2 (by rw [hfl]; exact q3)
        have hmt := fun w' (hx : Below wa.heap.size wa w') (q1 : Rd w' (.slice ax zs.length cx) zs.length (ints zs)) (q2 : RdSS w' xw ws) (q3 : Rd w' (.slice ab 5 cb) 5 (ints fs)) => implModelText_c (.slice ax zs.length cx) xw (.slice ab 5 cb) zs ws fs w' q1 q2 (by rw [hfl]; exact q3) (HTAB.out w' hx).1
        have hrm := fun w' (hx : Below wa.heap.size wa w') => implReadModel_c (str (modT zs ws fs)) w' (by rw [str_size]; omega) (HTAB.out w' hx)
        have hsm := fun w' yv yw yb (p1 : Rd w' yv zs.length (ints zs)) (p2 : RdSS w' yw ws) (p3 : Rd w' yb fs.length (ints fs)) (q1 : Rd w' (.slice ax zs.length cx) zs.length (ints zs)) (q2 : RdSS w' xw ws) (q3 : Rd w' (.slice ab 5 cb) 5 (ints fs)) => implSameModel_c yv yw yb (.slice ax zs.length cx) xw (.slice ab 5 cb) zs ws fs zs ws fs w' p1 p2 p3 q1 q2 (by rw [hfl]; exact q3)
        rw [hraw] at hrp
        rw [hmb] at hvm
        rw [byteL_str, hrd] at hrm
        rw [same_self] at hsm
        unfold modTI at hmt
        rw [if_pos hmb] at hmt
        dsimp only [mdZ, mdW, mdB, Option.getD, Option.isSome] at hrm hrp
        obtain ⟨us2, _, hru, _⟩ := id hxw
        obtain ⟨_, aw, cw, _, _, rfl, _, _⟩ := hru.open
        clear hru hrd hms hmb hraw
        generalize str (modT zs ws fs) = MT at *
        generalize rawL ps zs ws fs = R at *
        have HXZ := Lib.hid hxz; clear hxz
        have HXW := Lib.hid hxw; clear hxw
        have HXB := Lib.hid hxb; clear hxb
        have HRP := Lib.hid hrp; clear hrp
        have HVM := Lib.hid hvm; clear hvm
        have HMT := Lib.hid hmt; clear hmt
        have HRM := Lib.hid hrm; clear hrm
        have HSM := Lib.hid hsm; clear hsm
        have HPO := Lib.hid hpo; clear hpo
        have HALL := Lib.hid hall; clear hall
        have HSB := Lib.hid hsb; clear hsb
        have HL5 := Lib.hid hl5; clear hl5
        have HLS := Lib.hid hls; clear hls
        have HFL := Lib.hid hfl; clear hfl
        clear t0 hso hfe HR
        have ac0_0 := fun o => alloc_cell o c0_0_1
        have ac0_1 := fun o => alloc_cell o c0_1_1
        have ac0_2 := fun o => alloc_cell o c0_2_1
        have ac1_0 := fun o => alloc_cell o c1_0_1
        have ac1_1 := fun o => alloc_cell o c1_1_1
        have ac2_0 := fun o => alloc_cell o c2_0_1
        have ac2_1 := fun o => alloc_cell o c2_1_1
        have ac2_2 := fun o => alloc_cell o c2_2_1
        have ac2_3 := fun o => alloc_cell o c2_3_1
        have ac2_4 := fun o => alloc_cell o c2_4_1
        go_wp2_with fail
        refine (HRP.out _ (by go_grown) (HXZ.out.later (by go_grown)) (HXW.out.later (by go_grown)) (HXB.out.later (by go_grown))).mono ?_
        rintro _ w2 ⟨x2, rfl, n2, r2⟩
        have s2 : Below wf.heap.size wf w2 := Below.trans (by go_grown) (r2.mono (by simp; try omega))
        have b2 := b1.trans (s2.mono z1)
        have z2 := b2.size
        have y2 := s2.size
        have c0_0_2 := below_cell s2 c0_0_1; clear c0_0_1
        have c0_1_2 := below_cell s2 c0_1_1; clear c0_1_1
        have c0_2_2 := below_cell s2 c0_2_1; clear c0_2_1
        have c1_0_2 := below_cell s2 c1_0_1; clear c1_0_1
        have c1_1_2 := below_cell s2 c1_1_1; clear c1_1_1
        have c2_0_2 := below_cell s2 c2_0_1; clear c2_0_1
        have c2_1_2 := below_cell s2 c2_1_1; clear c2_1_1
        have c2_2_2 := below_cell s2 c2_2_1; clear c2_2_1
        have c2_3_2 := below_cell s2 c2_3_1; clear c2_3_1
        have c2_4_2 := below_cell s2 c2_4_1; clear c2_4_1
        have c3_0_2 := below_cell r2 (p := ⟨wf.heap.size, 0, none⟩) (v := .slice ax zs.length cx) (by simp [go_sem])
        have c3_1_2 := below_cell r2 (p := ⟨wf.heap.size, 1, none⟩) (v := .slice aw ws.length cw) (by simp [go_sem])
        have c3_2_2 := below_cell r2 (p := ⟨wf.heap.size, 2, none⟩) (v := .slice ab 5 cb) (by simp [go_sem])
        have o0_2 := HXZ.out.later s2; have O0_2 := Lib.hid o0_2; clear o0_2
        have o1_2 := HXW.out.later s2; have O1_2 := Lib.hid o1_2; clear o1_2
        have o2_2 := HXB.out.later s2; have O2_2 := Lib.hid o2_2; clear o2_2
        clear r2
        obtain ⟨aR, cR, hvR⟩ := own_shape n2
        rw [HL5.out] at hvR
        subst hvR
        have OR2 := Lib.hid n2; clear n2
        go_wp2_with fail
        refine (HVM.out _ O0_2.out O1_2.out O2_2.out).mono ?_
        rintro _ w3 ⟨rfl, r3⟩
        have s3 := r3
        have b3 := b2.trans (s3.mono z2)
        have z3 := b3.size
        have y3 := s3.size
        have c0_0_3 := below_cell s3 c0_0_2; clear c0_0_2
        have c0_1_3 := below_cell s3 c0_1_2; clear c0_1_2
        have c0_2_3 := below_cell s3 c0_2_2; clear c0_2_2
        have c1_0_3 := below_cell s3 c1_0_2; clear c1_0_2
        have c1_1_3 := below_cell s3 c1_1_2; clear c1_1_2
        have c2_0_3 := below_cell s3 c2_0_2; clear c2_0_2
        have c2_1_3 := below_cell s3 c2_1_2; clear c2_1_2
        have c2_2_3 := below_cell s3 c2_2_2; clear c2_2_2
        have c2_3_3 := below_cell s3 c2_3_2; clear c2_3_2
        have c2_4_3 := below_cell s3 c2_4_2; clear c2_4_2
        have c3_0_3 := below_cell s3 c3_0_2; clear c3_0_2
        have c3_1_3 := below_cell s3 c3_1_2; clear c3_1_2
        have c3_2_3 := below_cell s3 c3_2_2; clear c3_2_2
        have o0_3 := O0_2.out.later s3; have O0_3 := Lib.hid o0_3; clear o0_3
        have o1_3 := O1_2.out.later s3; have O1_3 := Lib.hid o1_3; clear o1_3
        have o2_3 := O2_2.out.later s3; have O2_3 := Lib.hid o2_3; clear o2_3
        have o3_3 := own_later OR2.out s3; have O3_3 := Lib.hid o3_3; clear o3_3
        clear r3
        have rdR := Rd.of_own O3_3.out
        have rdF := O2_3.out
        have lR := HL5.out
        rw [lR] at rdR
        obtain ⟨_, aoR, capR, bR, offR, hvR, haoR, hcellR⟩ := rdR.open
        obtain ⟨_, aoF, capF, bF, offF, hvF, haoF, hcellF⟩ := rdF.open
        cases hvR
        cases hvF
        have xR := haoR (by omega)
        have xF := haoF (by omega)
        subst xR xF
        have HCR := Lib.hid hcellR; clear hcellR
        have HCF := Lib.hid hcellF; clear hcellF
        clear haoR haoF rdR rdF
        go_wp2_with fail
        go_loopw [12] (fun i wr => ∃ (k : Nat), k ≤ 5 ∧ i = .int .i64 k ∧ Below w3.heap.size w3 wr) (fun i _ => 5 - (intOf i).toNat)
        case atStart => exact ⟨0, Nat.zero_le _, rfl, Below.refl _ _⟩
        case round =>
          obtain ⟨k, hk, rfl, hb⟩ := hrel
          have s4 := hb
          have b4 := b3.trans (s4.mono z3)
          have z4 := b4.size
          have y4 := s4.size
          have c0_0_4 := below_cell s4 c0_0_3; clear c0_0_3
          have c0_1_4 := below_cell s4 c0_1_3; clear c0_1_3
          have c0_2_4 := below_cell s4 c0_2_3; clear c0_2_3
          have c1_0_4 := below_cell s4 c1_0_3; clear c1_0_3
          have c1_1_4 := below_cell s4 c1_1_3; clear c1_1_3
          have c2_0_4 := below_cell s4 c2_0_3; clear c2_0_3
          have c2_1_4 := below_cell s4 c2_1_3; clear c2_1_3
          have c2_2_4 := below_cell s4 c2_2_3; clear c2_2_3
          have c2_3_4 := below_cell s4 c2_3_3; clear c2_3_3
          have c2_4_4 := below_cell s4 c2_4_3; clear c2_4_3
          have c3_0_4 := below_cell s4 c3_0_3; clear c3_0_3
          have c3_1_4 := below_cell s4 c3_1_3; clear c3_1_3
          have c3_2_4 := below_cell s4 c3_2_3; clear c3_2_3
          have o0_4 := O0_3.out.later s4; have O0_4 := Lib.hid o0_4; clear o0_4
          have o1_4 := O1_3.out.later s4; have O1_4 := Lib.hid o1_4; clear o1_4
          have o2_4 := O2_3.out.later s4; have O2_4 := Lib.hid o2_4; clear o2_4
          have o3_4 := own_later O3_3.out s4; have O3_4 := Lib.hid o3_4; clear o3_4
          by_cases hlt : k < 5
          · have hlt5 : decide ((k : Int) < 5) = true := by simp; omega
            have g0 : IntKind.i64.wrap ((k : Int) + 1) = (k : Int) + 1 := IntWalk.i64_in _ (by omega)
            go_wp2_with fail
            refine (HPO.out k _ hlt).mono ?_
            rintro _ w5 ⟨rfl, r5⟩
            have s5 := r5
            have b5 := b4.trans (s5.mono z4)
            have z5 := b5.size
            have y5 := s5.size
            have c0_0_5 := below_cell s5 c0_0_4; clear c0_0_4
            have c0_1_5 := below_cell s5 c0_1_4; clear c0_1_4
            have c0_2_5 := below_cell s5 c0_2_4; clear c0_2_4
            have c1_0_5 := below_cell s5 c1_0_4; clear c1_0_4
            have c1_1_5 := below_cell s5 c1_1_4; clear c1_1_4
            have c2_0_5 := below_cell s5 c2_0_4; clear c2_0_4
            have c2_1_5 := below_cell s5 c2_1_4; clear c2_1_4
            have c2_2_5 := below_cell s5 c2_2_4; clear c2_2_4
            have c2_3_5 := below_cell s5 c2_3_4; clear c2_3_4
            have c2_4_5 := below_cell s5 c2_4_4; clear c2_4_4
            have c3_0_5 := below_cell s5 c3_0_4; clear c3_0_4
            have c3_1_5 := below_cell s5 c3_1_4; clear c3_1_4
            have c3_2_5 := below_cell s5 c3_2_4; clear c3_2_4
            have o0_5 := O0_4.out.later s5; have O0_5 := Lib.hid o0_5; clear o0_5
            have o1_5 := O1_4.out.later s5; have O1_5 := Lib.hid o1_5; clear o1_5
            have o2_5 := O2_4.out.later s5; have O2_5 := Lib.hid o2_5; clear o2_5
            have o3_5 := own_later O3_4.out s5; have O3_5 := Lib.hid o3_5; clear o3_5
            clear r5
            have hbb := hb.trans (s5.mono hb.size)
            have ixR := ix (P := Tryz.prog) (T := 42) (n := 5) (cap := cR) Tryz.underlying42 cells_int64 has_int64 (ao := some ⟨bR, offR, none⟩) (b := bR) (off := offR) (fun _ => rfl) (k := k) hlt _ rfl
            have ixF := ix (P := Tryz.prog) (T := 42) (n := 5) (cap := cb) Tryz.underlying42 cells_int64 has_int64 (ao := some ⟨bF, offF, none⟩) (b := bF) (off := offF) (fun _ => rfl) (k := k) hlt _ rfl
            rw [Nat.mul_one] at ixR ixF
            have d1 : w5.cell? ⟨bR, offR + k, none⟩ = some (.int .i64 (R.getD k 0)) := by have := HL5.out; rw [getD_eq (show k < R.length by omega)]; exact HCR.out _ hbb _ _ (by omega) (intsAt (show k < R.length by omega))
            have d2 : w5.cell? ⟨bF, offF + k, none⟩ = some (.int .i64 (fs.getD k 0)) := by have := HFL.out; rw [getD_eq (show k < fs.length by omega)]; exact HCF.out _ hbb _ _ (by omega) (intsAt (show k < fs.length by omega))
            obtain ⟨f1, f2, r1, r2, hin⟩ := HALL.out k hlt
            obtain ⟨p1, p2⟩ := HSB.out k hlt
            generalize R.getD k 0 = x at *
            generalize fs.getD k 0 = y at *
            generalize SL.getD k 0 = p at *
            obtain ⟨n1, n2, n3, n4, n5⟩ := near_small r1 p1 p2 f1 f2 hin
            have hab := fun w' => abs10_c (x - p) 300000000 w' (by omega) (by omega) (by omega)
            have g1 : IntKind.i64.wrap (x - p) = x - p := IntWalk.i64_in _ (by omega)
            generalize absI (x - p) = q at *
            have g2 : IntKind.i64.wrap (2 * q) = 2 * q := IntWalk.i64_in _ (by omega)
            have g3 : IntKind.i64.wrap (2 * q * y) = 2 * q * y := IntWalk.i64_in _ (by omega)
            have g4 : IntKind.i64.wrap (2 * p) = 2 * p := IntWalk.i64_in _ (by omega)
            have g5 : IntKind.i64.wrap (x + 2 * p) = x + 2 * p := IntWalk.i64_in _ (by omega)
            have g6 : IntKind.i64.wrap (4 * y) = 4 * y := IntWalk.i64_in _ (by omega)
            have g7 : IntKind.i64.wrap (x + 2 * p + 4 * y) = x + 2 * p + 4 * y := IntWalk.i64_in _ (by omega)
            have g8 : decide (x + 2 * p + 4 * y < 2 * q * y) = false := decide_eq_false (by omega)
            have g9 : decide ((5 : Int) ≤ (k : Int)) = false := decide_eq_false (by omega)
            have HAB := Lib.hid hab; clear hab
            clear hin n1 n2 n3 n4 n5 r1 r2 p1 p2 f1 f2
            go_wp2_with fail
            go_quiet ((go_at_call 26; exact quietS (HAB.out _)))
            go_wp2
            go_roundw
            case rel => exact ⟨k + 1, by omega, by go_num, below_drewN hbb _⟩
            case measure => simp [intOf]; omega
          · obtain rfl : k = 5 := by omega
            go_wp2_with fail
            refine (HMT.out _ b4 O0_4.out O1_4.out O2_4.out).mono ?_
            rintro _ w5 ⟨rfl, r5⟩
            have s5 := r5
            have b5 := b4.trans (s5.mono z4)
            have z5 := b5.size
            have y5 := s5.size
            have c0_0_5 := below_cell s5 c0_0_4; clear c0_0_4
            have c0_1_5 := below_cell s5 c0_1_4; clear c0_1_4
            have c0_2_5 := below_cell s5 c0_2_4; clear c0_2_4
            have c1_0_5 := below_cell s5 c1_0_4; clear c1_0_4
            have c1_1_5 := below_cell s5 c1_1_4; clear c1_1_4
            have c2_0_5 := below_cell s5 c2_0_4; clear c2_0_4
            have c2_1_5 := below_cell s5 c2_1_4; clear c2_1_4
            have c2_2_5 := below_cell s5 c2_2_4; clear c2_2_4
            have c2_3_5 := below_cell s5 c2_3_4; clear c2_3_4
            have c2_4_5 := below_cell s5 c2_4_4; clear c2_4_4
            have c3_0_5 := below_cell s5 c3_0_4; clear c3_0_4
            have c3_1_5 := below_cell s5 c3_1_4; clear c3_1_4
            have c3_2_5 := below_cell s5 c3_2_4; clear c3_2_4
            have o0_5 := O0_4.out.later s5; have O0_5 := Lib.hid o0_5; clear o0_5
            have o1_5 := O1_4.out.later s5; have O1_5 := Lib.hid o1_5; clear o1_5
            have o2_5 := O2_4.out.later s5; have O2_5 := Lib.hid o2_5; clear o2_5
            have o3_5 := own_later O3_4.out s5; have O3_5 := Lib.hid o3_5; clear o3_5
            clear r5
            go_wp2_with fail
            refine (HRM.out _ b5).mono ?_
            rintro _ wy ⟨yv, yw, yb, us3, rfl, om, ry⟩
            have s6 := ry
            have b6 := b5.trans (s6.mono z5)
            have z6 := b6.size
            have y6 := s6.size
            have c0_0_6 := below_cell s6 c0_0_5; clear c0_0_5
            have c0_1_6 := below_cell s6 c0_1_5; clear c0_1_5
            have c0_2_6 := below_cell s6 c0_2_5; clear c0_2_5
            have c1_0_6 := below_cell s6 c1_0_5; clear c1_0_5
            have c1_1_6 := below_cell s6 c1_1_5; clear c1_1_5
            have c2_0_6 := below_cell s6 c2_0_5; clear c2_0_5
            have c2_1_6 := below_cell s6 c2_1_5; clear c2_1_5
            have c2_2_6 := below_cell s6 c2_2_5; clear c2_2_5
            have c2_3_6 := below_cell s6 c2_3_5; clear c2_3_5
            have c2_4_6 := below_cell s6 c2_4_5; clear c2_4_5
            have c3_0_6 := below_cell s6 c3_0_5; clear c3_0_5
            have c3_1_6 := below_cell s6 c3_1_5; clear c3_1_5
            have c3_2_6 := below_cell s6 c3_2_5; clear c3_2_5
            have o0_6 := O0_5.out.later s6; have O0_6 := Lib.hid o0_6; clear o0_6
            have o1_6 := O1_5.out.later s6; have O1_6 := Lib.hid o1_6; clear o1_6
            have o2_6 := O2_5.out.later s6; have O2_6 := Lib.hid o2_6; clear o2_6
            have o3_6 := own_later O3_5.out s6; have O3_6 := Lib.hid o3_6; clear o3_6
            obtain ⟨ay, cy, hvy⟩ := own_shape om.z
            subst hvy
            obtain ⟨ayb, cyb, hvyb⟩ := own_shape om.b
            subst hvyb
            have hyz := Rd.of_own om.z
            have hyw := om.s.rd
            have hyb := Rd.of_own om.b
            clear om
            obtain ⟨us4, _, hru, _⟩ := id hyw
            obtain ⟨_, ayw, cyw, _, _, rfl, _, _⟩ := hru.open
            clear hru
            have HYZ := Lib.hid hyz; clear hyz
            have HYW := Lib.hid hyw; clear hyw
            have HYB := Lib.hid hyb; clear hyb
            have ac0_0 := fun o => alloc_cell o c0_0_6
            have ac0_1 := fun o => alloc_cell o c0_1_6
            have ac0_2 := fun o => alloc_cell o c0_2_6
            have ac1_0 := fun o => alloc_cell o c1_0_6
            have ac1_1 := fun o => alloc_cell o c1_1_6
            have ac2_0 := fun o => alloc_cell o c2_0_6
            have ac2_1 := fun o => alloc_cell o c2_1_6
            have ac2_2 := fun o => alloc_cell o c2_2_6
            have ac2_3 := fun o => alloc_cell o c2_3_6
            have ac2_4 := fun o => alloc_cell o c2_4_6
            have ac3_0 := fun o => alloc_cell o c3_0_6
            have ac3_1 := fun o => alloc_cell o c3_1_6
            have ac3_2 := fun o => alloc_cell o c3_2_6
            go_wp2_with fail
            refine (HDS.out _ (by go_grown)).mono ?_
            rintro _ wz ⟨dv, ds, rfl, hdz, hd16, rz⟩
            have s7 : Below wy.heap.size wy wz := Below.trans (by go_grown) (rz.mono (by simp; try omega))
            have b7 := b6.trans (s7.mono z6)
            have z7 := b7.size
            have y7 := s7.size
            have c0_0_7 := below_cell s7 c0_0_6; clear c0_0_6
            have c0_1_7 := below_cell s7 c0_1_6; clear c0_1_6
            have c0_2_7 := below_cell s7 c0_2_6; clear c0_2_6
            have c1_0_7 := below_cell s7 c1_0_6; clear c1_0_6
            have c1_1_7 := below_cell s7 c1_1_6; clear c1_1_6
            have c2_0_7 := below_cell s7 c2_0_6; clear c2_0_6
            have c2_1_7 := below_cell s7 c2_1_6; clear c2_1_6
            have c2_2_7 := below_cell s7 c2_2_6; clear c2_2_6
            have c2_3_7 := below_cell s7 c2_3_6; clear c2_3_6
            have c2_4_7 := below_cell s7 c2_4_6; clear c2_4_6
            have c3_0_7 := below_cell s7 c3_0_6; clear c3_0_6
            have c3_1_7 := below_cell s7 c3_1_6; clear c3_1_6
            have c3_2_7 := below_cell s7 c3_2_6; clear c3_2_6
            have c4_0_7 := below_cell rz (p := ⟨wy.heap.size, 0, none⟩) (v := .slice ay zs.length cy) (by simp [go_sem])
            have c4_1_7 := below_cell rz (p := ⟨wy.heap.size, 1, none⟩) (v := .slice ayw ws.length cyw) (by simp [go_sem])
            have c4_2_7 := below_cell rz (p := ⟨wy.heap.size, 2, none⟩) (v := .slice ayb fs.length cyb) (by simp [go_sem])
            have o0_7 := O0_6.out.later s7; have O0_7 := Lib.hid o0_7; clear o0_7
            have o1_7 := O1_6.out.later s7; have O1_7 := Lib.hid o1_7; clear o1_7
            have o2_7 := O2_6.out.later s7; have O2_7 := Lib.hid o2_7; clear o2_7
            have o3_7 := own_later O3_6.out s7; have O3_7 := Lib.hid o3_7; clear o3_7
            have o4_7 := HYZ.out.later s7; have O4_7 := Lib.hid o4_7; clear o4_7
            have o5_7 := HYW.out.later s7; have O5_7 := Lib.hid o5_7; clear o5_7
            have o6_7 := HYB.out.later s7; have O6_7 := Lib.hid o6_7; clear o6_7
            have HDZ := Lib.hid hdz; clear hdz
            have hsd := fun w' (q : Rd w' dv ds.length (ints ds)) => implStandardModel_c dv ds w' q
            cases sz : zonesB ds 31
            · skip
              have he : stdI ds = (([], [], []), 1) := by simp [stdI, sz]
              rw [he] at hsd
              dsimp only at hsd
              have HSD := Lib.hid hsd; clear hsd
              go_wp2_with fail
              refine (HSD.out _ HDZ.out).mono ?_
              rintro _ wq ⟨sv, sw, sbv, us5, rfl, om, rq⟩
              have s8 := rq
              have b8 := b7.trans (s8.mono z7)
              have z8 := b8.size
              have y8 := s8.size
              have c0_0_8 := below_cell s8 c0_0_7; clear c0_0_7
              have c0_1_8 := below_cell s8 c0_1_7; clear c0_1_7
              have c0_2_8 := below_cell s8 c0_2_7; clear c0_2_7
              have c1_0_8 := below_cell s8 c1_0_7; clear c1_0_7
              have c1_1_8 := below_cell s8 c1_1_7; clear c1_1_7
              have c2_0_8 := below_cell s8 c2_0_7; clear c2_0_7
              have c2_1_8 := below_cell s8 c2_1_7; clear c2_1_7
              have c2_2_8 := below_cell s8 c2_2_7; clear c2_2_7
              have c2_3_8 := below_cell s8 c2_3_7; clear c2_3_7
              have c2_4_8 := below_cell s8 c2_4_7; clear c2_4_7
              have c3_0_8 := below_cell s8 c3_0_7; clear c3_0_7
              have c3_1_8 := below_cell s8 c3_1_7; clear c3_1_7
              have c3_2_8 := below_cell s8 c3_2_7; clear c3_2_7
              have c4_0_8 := below_cell s8 c4_0_7; clear c4_0_7
              have c4_1_8 := below_cell s8 c4_1_7; clear c4_1_7
              have c4_2_8 := below_cell s8 c4_2_7; clear c4_2_7
              have o0_8 := O0_7.out.later s8; have O0_8 := Lib.hid o0_8; clear o0_8
              have o1_8 := O1_7.out.later s8; have O1_8 := Lib.hid o1_8; clear o1_8
              have o2_8 := O2_7.out.later s8; have O2_8 := Lib.hid o2_8; clear o2_8
              have o3_8 := own_later O3_7.out s8; have O3_8 := Lib.hid o3_8; clear o3_8
              have o4_8 := O4_7.out.later s8; have O4_8 := Lib.hid o4_8; clear o4_8
              have o5_8 := O5_7.out.later s8; have O5_8 := Lib.hid o5_8; clear o5_8
              have o6_8 := O6_7.out.later s8; have O6_8 := Lib.hid o6_8; clear o6_8
              have o7_8 := HDZ.out.later s8; have O7_8 := Lib.hid o7_8; clear o7_8
              obtain ⟨asv, csv, hvs⟩ := own_shape om.z
              subst hvs
              obtain ⟨asb, csb, hvsb⟩ := own_shape om.b
              subst hvsb
              have hsz := Rd.of_own om.z
              have hsw := om.s.rd
              have hsbb := Rd.of_own om.b
              clear om
              obtain ⟨us6, _, hru, _⟩ := id hsw
              obtain ⟨_, asw, csw, _, _, rfl, _, _⟩ := hru.open
              clear hru
              clear hsz hsw hsbb
              have ac0_0 := fun o => alloc_cell o c0_0_8
              have ac0_1 := fun o => alloc_cell o c0_1_8
              have ac0_2 := fun o => alloc_cell o c0_2_8
              have ac1_0 := fun o => alloc_cell o c1_0_8
              have ac1_1 := fun o => alloc_cell o c1_1_8
              have ac2_0 := fun o => alloc_cell o c2_0_8
              have ac2_1 := fun o => alloc_cell o c2_1_8
              have ac2_2 := fun o => alloc_cell o c2_2_8
              have ac2_3 := fun o => alloc_cell o c2_3_8
              have ac2_4 := fun o => alloc_cell o c2_4_8
              have ac3_0 := fun o => alloc_cell o c3_0_8
              have ac3_1 := fun o => alloc_cell o c3_1_8
              have ac3_2 := fun o => alloc_cell o c3_2_8
              have ac4_0 := fun o => alloc_cell o c4_0_8
              have ac4_1 := fun o => alloc_cell o c4_1_8
              have ac4_2 := fun o => alloc_cell o c4_2_8
              go_wp2_with fail
              refine (HSM.out _ _ _ _ (O4_8.out.later (by go_grown)) (O5_8.out.later (by go_grown)) (O6_8.out.later (by go_grown)) (O0_8.out.later (by go_grown)) (O1_8.out.later (by go_grown)) (O2_8.out.later (by go_grown))).mono ?_
              rintro _ w9 ⟨rfl, r9⟩
              have s9 : Below wq.heap.size wq w9 := Below.trans (by go_grown) (r9.mono (by simp; try omega))
              have b9 := b8.trans (s9.mono z8)
              have z9 := b9.size
              have y9 := s9.size
              have c0_0_9 := below_cell s9 c0_0_8; clear c0_0_8
              have c0_1_9 := below_cell s9 c0_1_8; clear c0_1_8
              have c0_2_9 := below_cell s9 c0_2_8; clear c0_2_8
              have c1_0_9 := below_cell s9 c1_0_8; clear c1_0_8
              have c1_1_9 := below_cell s9 c1_1_8; clear c1_1_8
              have c2_0_9 := below_cell s9 c2_0_8; clear c2_0_8
              have c2_1_9 := below_cell s9 c2_1_8; clear c2_1_8
              have c2_2_9 := below_cell s9 c2_2_8; clear c2_2_8
              have c2_3_9 := below_cell s9 c2_3_8; clear c2_3_8
              have c2_4_9 := below_cell s9 c2_4_8; clear c2_4_8
              have c3_0_9 := below_cell s9 c3_0_8; clear c3_0_8
              have c3_1_9 := below_cell s9 c3_1_8; clear c3_1_8
              have c3_2_9 := below_cell s9 c3_2_8; clear c3_2_8
              have c4_0_9 := below_cell s9 c4_0_8; clear c4_0_8
              have c4_1_9 := below_cell s9 c4_1_8; clear c4_1_8
              have c4_2_9 := below_cell s9 c4_2_8; clear c4_2_8
              have c5_0_9 := below_cell r9 (p := ⟨wq.heap.size, 0, none⟩) (v := .slice asv ([] : List Int).length csv) (by simp [go_sem])
              have c5_1_9 := below_cell r9 (p := ⟨wq.heap.size, 1, none⟩) (v := .slice asw ([] : List (List Int)).length csw) (by simp [go_sem])
              have c5_2_9 := below_cell r9 (p := ⟨wq.heap.size, 2, none⟩) (v := .slice asb ([] : List Int).length csb) (by simp [go_sem])
              have o0_9 := O0_8.out.later s9; have O0_9 := Lib.hid o0_9; clear o0_9
              have o1_9 := O1_8.out.later s9; have O1_9 := Lib.hid o1_9; clear o1_9
              have o2_9 := O2_8.out.later s9; have O2_9 := Lib.hid o2_9; clear o2_9
              have o3_9 := own_later O3_8.out s9; have O3_9 := Lib.hid o3_9; clear o3_9
              have o4_9 := O4_8.out.later s9; have O4_9 := Lib.hid o4_9; clear o4_9
              have o5_9 := O5_8.out.later s9; have O5_9 := Lib.hid o5_9; clear o5_9
              have o6_9 := O6_8.out.later s9; have O6_9 := Lib.hid o6_9; clear o6_9
              have o7_9 := O7_8.out.later s9; have O7_9 := Lib.hid o7_9; clear o7_9
              clear r9
              have bw := ba.trans (b9.mono ba.size)
              go_wp2
              go_returns
              exact RetB.mk rfl bw
            · skip
              have he : stdI ds = ((ds, stdK ds.length 5, base5), 0) := by simp [stdI, sz]
              rw [he] at hsd
              dsimp only at hsd
              have HSD := Lib.hid hsd; clear hsd
              go_wp2_with fail
              refine (HSD.out _ HDZ.out).mono ?_
              rintro _ wq ⟨sv, sw, sbv, us5, rfl, om, rq⟩
              have s8 := rq
              have b8 := b7.trans (s8.mono z7)
              have z8 := b8.size
              have y8 := s8.size
              have c0_0_8 := below_cell s8 c0_0_7; clear c0_0_7
              have c0_1_8 := below_cell s8 c0_1_7; clear c0_1_7
              have c0_2_8 := below_cell s8 c0_2_7; clear c0_2_7
              have c1_0_8 := below_cell s8 c1_0_7; clear c1_0_7
              have c1_1_8 := below_cell s8 c1_1_7; clear c1_1_7
              have c2_0_8 := below_cell s8 c2_0_7; clear c2_0_7
              have c2_1_8 := below_cell s8 c2_1_7; clear c2_1_7
              have c2_2_8 := below_cell s8 c2_2_7; clear c2_2_7
              have c2_3_8 := below_cell s8 c2_3_7; clear c2_3_7
              have c2_4_8 := below_cell s8 c2_4_7; clear c2_4_7
              have c3_0_8 := below_cell s8 c3_0_7; clear c3_0_7
              have c3_1_8 := below_cell s8 c3_1_7; clear c3_1_7
              have c3_2_8 := below_cell s8 c3_2_7; clear c3_2_7
              have c4_0_8 := below_cell s8 c4_0_7; clear c4_0_7
              have c4_1_8 := below_cell s8 c4_1_7; clear c4_1_7
              have c4_2_8 := below_cell s8 c4_2_7; clear c4_2_7
              have o0_8 := O0_7.out.later s8; have O0_8 := Lib.hid o0_8; clear o0_8
              have o1_8 := O1_7.out.later s8; have O1_8 := Lib.hid o1_8; clear o1_8
              have o2_8 := O2_7.out.later s8; have O2_8 := Lib.hid o2_8; clear o2_8
              have o3_8 := own_later O3_7.out s8; have O3_8 := Lib.hid o3_8; clear o3_8
              have o4_8 := O4_7.out.later s8; have O4_8 := Lib.hid o4_8; clear o4_8
              have o5_8 := O5_7.out.later s8; have O5_8 := Lib.hid o5_8; clear o5_8
              have o6_8 := O6_7.out.later s8; have O6_8 := Lib.hid o6_8; clear o6_8
              have o7_8 := HDZ.out.later s8; have O7_8 := Lib.hid o7_8; clear o7_8
              obtain ⟨asv, csv, hvs⟩ := own_shape om.z
              subst hvs
              obtain ⟨asb, csb, hvsb⟩ := own_shape om.b
              subst hvsb
              have hsz := Rd.of_own om.z
              have hsw := om.s.rd
              have hsbb := Rd.of_own om.b
              clear om
              obtain ⟨us6, _, hru, _⟩ := id hsw
              obtain ⟨_, asw, csw, _, _, rfl, _, _⟩ := hru.open
              clear hru
              have hvs := fun w' (q1 : Rd w' (.slice asv ds.length csv) ds.length (ints ds)) (q2 : RdSS w' (.slice asw (stdK ds.length 5).length csw) (stdK ds.length 5)) (q3 : Rd w' (.slice asb base5.length csb) base5.length (ints base5)) => specValidModel_c (.slice asv ds.length csv) (.slice asw (stdK ds.length 5).length csw) (.slice asb base5.length csb) ds (stdK ds.length 5) base5 w' q1 q2 q3
              rw [std_valid sz] at hvs
              have HVS := Lib.hid hvs; clear hvs
              have hnu := fun w' (q1 : Rd w' (.slice asv ds.length csv) ds.length (ints ds)) (q2 : Rd w' dv ds.length (ints ds)) => nums10_c (.slice asv ds.length csv) dv ds w' q1 q2
              have HNU := Lib.hid hnu; clear hnu
              have HSZ := Lib.hid hsz; clear hsz
              have HSW := Lib.hid hsw; clear hsw
              have HSBB := Lib.hid hsbb; clear hsbb
              have ac0_0 := fun o => alloc_cell o c0_0_8
              have ac0_1 := fun o => alloc_cell o c0_1_8
              have ac0_2 := fun o => alloc_cell o c0_2_8
              have ac1_0 := fun o => alloc_cell o c1_0_8
              have ac1_1 := fun o => alloc_cell o c1_1_8
              have ac2_0 := fun o => alloc_cell o c2_0_8
              have ac2_1 := fun o => alloc_cell o c2_1_8
              have ac2_2 := fun o => alloc_cell o c2_2_8
              have ac2_3 := fun o => alloc_cell o c2_3_8
              have ac2_4 := fun o => alloc_cell o c2_4_8
              have ac3_0 := fun o => alloc_cell o c3_0_8
              have ac3_1 := fun o => alloc_cell o c3_1_8
              have ac3_2 := fun o => alloc_cell o c3_2_8
              have ac4_0 := fun o => alloc_cell o c4_0_8
              have ac4_1 := fun o => alloc_cell o c4_1_8
              have ac4_2 := fun o => alloc_cell o c4_2_8
              go_wp2_with fail
              refine (HSM.out _ _ _ _ (O4_8.out.later (by go_grown)) (O5_8.out.later (by go_grown)) (O6_8.out.later (by go_grown)) (O0_8.out.later (by go_grown)) (O1_8.out.later (by go_grown)) (O2_8.out.later (by go_grown))).mono ?_
              rintro _ w9 ⟨rfl, r9⟩
              have s9 : Below wq.heap.size wq w9 := Below.trans (by go_grown) (r9.mono (by simp; try omega))
              have b9 := b8.trans (s9.mono z8)
              have z9 := b9.size
              have y9 := s9.size
              have c0_0_9 := below_cell s9 c0_0_8; clear c0_0_8
              have c0_1_9 := below_cell s9 c0_1_8; clear c0_1_8
              have c0_2_9 := below_cell s9 c0_2_8; clear c0_2_8
              have c1_0_9 := below_cell s9 c1_0_8; clear c1_0_8
              have c1_1_9 := below_cell s9 c1_1_8; clear c1_1_8
              have c2_0_9 := below_cell s9 c2_0_8; clear c2_0_8
              have c2_1_9 := below_cell s9 c2_1_8; clear c2_1_8
              have c2_2_9 := below_cell s9 c2_2_8; clear c2_2_8
              have c2_3_9 := below_cell s9 c2_3_8; clear c2_3_8
              have c2_4_9 := below_cell s9 c2_4_8; clear c2_4_8
              have c3_0_9 := below_cell s9 c3_0_8; clear c3_0_8
              have c3_1_9 := below_cell s9 c3_1_8; clear c3_1_8
              have c3_2_9 := below_cell s9 c3_2_8; clear c3_2_8
              have c4_0_9 := below_cell s9 c4_0_8; clear c4_0_8
              have c4_1_9 := below_cell s9 c4_1_8; clear c4_1_8
              have c4_2_9 := below_cell s9 c4_2_8; clear c4_2_8
              have c5_0_9 := below_cell r9 (p := ⟨wq.heap.size, 0, none⟩) (v := .slice asv ds.length csv) (by simp [go_sem])
              have c5_1_9 := below_cell r9 (p := ⟨wq.heap.size, 1, none⟩) (v := .slice asw (stdK ds.length 5).length csw) (by simp [go_sem])
              have c5_2_9 := below_cell r9 (p := ⟨wq.heap.size, 2, none⟩) (v := .slice asb base5.length csb) (by simp [go_sem])
              have o0_9 := O0_8.out.later s9; have O0_9 := Lib.hid o0_9; clear o0_9
              have o1_9 := O1_8.out.later s9; have O1_9 := Lib.hid o1_9; clear o1_9
              have o2_9 := O2_8.out.later s9; have O2_9 := Lib.hid o2_9; clear o2_9
              have o3_9 := own_later O3_8.out s9; have O3_9 := Lib.hid o3_9; clear o3_9
              have o4_9 := O4_8.out.later s9; have O4_9 := Lib.hid o4_9; clear o4_9
              have o5_9 := O5_8.out.later s9; have O5_9 := Lib.hid o5_9; clear o5_9
              have o6_9 := O6_8.out.later s9; have O6_9 := Lib.hid o6_9; clear o6_9
              have o7_9 := O7_8.out.later s9; have O7_9 := Lib.hid o7_9; clear o7_9
              have o8_9 := HSZ.out.later s9; have O8_9 := Lib.hid o8_9; clear o8_9
              have o9_9 := HSW.out.later s9; have O9_9 := Lib.hid o9_9; clear o9_9
              have o10_9 := HSBB.out.later s9; have O10_9 := Lib.hid o10_9; clear o10_9
              clear r9
              go_wp2_with fail
              refine (HVS.out _ O8_9.out O9_9.out O10_9.out).mono ?_
              rintro _ w10 ⟨rfl, r10⟩
              have s10 := r10
              have b10 := b9.trans (s10.mono z9)
              have z10 := b10.size
              have y10 := s10.size
              have c0_0_10 := below_cell s10 c0_0_9; clear c0_0_9
              have c0_1_10 := below_cell s10 c0_1_9; clear c0_1_9
              have c0_2_10 := below_cell s10 c0_2_9; clear c0_2_9
              have c1_0_10 := below_cell s10 c1_0_9; clear c1_0_9
              have c1_1_10 := below_cell s10 c1_1_9; clear c1_1_9
              have c2_0_10 := below_cell s10 c2_0_9; clear c2_0_9
              have c2_1_10 := below_cell s10 c2_1_9; clear c2_1_9
              have c2_2_10 := below_cell s10 c2_2_9; clear c2_2_9
              have c2_3_10 := below_cell s10 c2_3_9; clear c2_3_9
              have c2_4_10 := below_cell s10 c2_4_9; clear c2_4_9
              have c3_0_10 := below_cell s10 c3_0_9; clear c3_0_9
              have c3_1_10 := below_cell s10 c3_1_9; clear c3_1_9
              have c3_2_10 := below_cell s10 c3_2_9; clear c3_2_9
              have c4_0_10 := below_cell s10 c4_0_9; clear c4_0_9
              have c4_1_10 := below_cell s10 c4_1_9; clear c4_1_9
              have c4_2_10 := below_cell s10 c4_2_9; clear c4_2_9
              have c5_0_10 := below_cell s10 c5_0_9; clear c5_0_9
              have c5_1_10 := below_cell s10 c5_1_9; clear c5_1_9
              have c5_2_10 := below_cell s10 c5_2_9; clear c5_2_9
              have o0_10 := O0_9.out.later s10; have O0_10 := Lib.hid o0_10; clear o0_10
              have o1_10 := O1_9.out.later s10; have O1_10 := Lib.hid o1_10; clear o1_10
              have o2_10 := O2_9.out.later s10; have O2_10 := Lib.hid o2_10; clear o2_10
              have o3_10 := own_later O3_9.out s10; have O3_10 := Lib.hid o3_10; clear o3_10
              have o4_10 := O4_9.out.later s10; have O4_10 := Lib.hid o4_10; clear o4_10
              have o5_10 := O5_9.out.later s10; have O5_10 := Lib.hid o5_10; clear o5_10
              have o6_10 := O6_9.out.later s10; have O6_10 := Lib.hid o6_10; clear o6_10
              have o7_10 := O7_9.out.later s10; have O7_10 := Lib.hid o7_10; clear o7_10
              have o8_10 := O8_9.out.later s10; have O8_10 := Lib.hid o8_10; clear o8_10
              have o9_10 := O9_9.out.later s10; have O9_10 := Lib.hid o9_10; clear o9_10
              have o10_10 := O10_9.out.later s10; have O10_10 := Lib.hid o10_10; clear o10_10
              clear r10
              go_wp2_with fail
              refine (HNU.out _ O8_10.out O7_10.out).mono ?_
              rintro _ w11 ⟨rfl, d11⟩
              have r11 := Dr.below d11; clear d11
              have s11 := r11
              have b11 := b10.trans (s11.mono z10)
              have z11 := b11.size
              have y11 := s11.size
              have c0_0_11 := below_cell s11 c0_0_10; clear c0_0_10
              have c0_1_11 := below_cell s11 c0_1_10; clear c0_1_10
              have c0_2_11 := below_cell s11 c0_2_10; clear c0_2_10
              have c1_0_11 := below_cell s11 c1_0_10; clear c1_0_10
              have c1_1_11 := below_cell s11 c1_1_10; clear c1_1_10
              have c2_0_11 := below_cell s11 c2_0_10; clear c2_0_10
              have c2_1_11 := below_cell s11 c2_1_10; clear c2_1_10
              have c2_2_11 := below_cell s11 c2_2_10; clear c2_2_10
              have c2_3_11 := below_cell s11 c2_3_10; clear c2_3_10
              have c2_4_11 := below_cell s11 c2_4_10; clear c2_4_10
              have c3_0_11 := below_cell s11 c3_0_10; clear c3_0_10
              have c3_1_11 := below_cell s11 c3_1_10; clear c3_1_10
              have c3_2_11 := below_cell s11 c3_2_10; clear c3_2_10
              have c4_0_11 := below_cell s11 c4_0_10; clear c4_0_10
              have c4_1_11 := below_cell s11 c4_1_10; clear c4_1_10
              have c4_2_11 := below_cell s11 c4_2_10; clear c4_2_10
              have c5_0_11 := below_cell s11 c5_0_10; clear c5_0_10
              have c5_1_11 := below_cell s11 c5_1_10; clear c5_1_10
              have c5_2_11 := below_cell s11 c5_2_10; clear c5_2_10
              have o0_11 := O0_10.out.later s11; have O0_11 := Lib.hid o0_11; clear o0_11
              have o1_11 := O1_10.out.later s11; have O1_11 := Lib.hid o1_11; clear o1_11
              have o2_11 := O2_10.out.later s11; have O2_11 := Lib.hid o2_11; clear o2_11
              have o3_11 := own_later O3_10.out s11; have O3_11 := Lib.hid o3_11; clear o3_11
              have o4_11 := O4_10.out.later s11; have O4_11 := Lib.hid o4_11; clear o4_11
              have o5_11 := O5_10.out.later s11; have O5_11 := Lib.hid o5_11; clear o5_11
              have o6_11 := O6_10.out.later s11; have O6_11 := Lib.hid o6_11; clear o6_11
              have o7_11 := O7_10.out.later s11; have O7_11 := Lib.hid o7_11; clear o7_11
              have o8_11 := O8_10.out.later s11; have O8_11 := Lib.hid o8_11; clear o8_11
              have o9_11 := O9_10.out.later s11; have O9_11 := Lib.hid o9_11; clear o9_11
              have o10_11 := O10_10.out.later s11; have O10_11 := Lib.hid o10_11; clear o10_11
              clear r11
              have bw := ba.trans (b11.mono ba.size)
              go_wp2
              go_returns
              exact RetB.mk rfl bw
    · have HL0 := Lib.hid hl0; clear hl0
      have HL1 := Lib.hid hl1; clear hl1
      obtain ⟨_, aoA, capA, _, _, rfl, _, _⟩ := h0.open
      obtain ⟨_, aoB, capB, _, _, rfl, _, _⟩ := h1.open
      clear h0 h1 hb0 hb1 htab
      go_enter Tryz.func4, Tryz.ntmps4
      go_wp2_with fail
      refine HL0.out.mono ?_
      rintro _ _ ⟨rfl, rfl⟩
      go_wp2_with fail
      refine HL1.out.mono ?_
      rintro _ _ ⟨rfl, rfl⟩
      go_wp2
      go_returns
      exact RetB.mk rfl (Below.refl _ _)
  · have HL0 := Lib.hid hl0; clear hl0
    obtain ⟨_, aoA, capA, _, _, rfl, _, _⟩ := h0.open
    obtain ⟨_, aoB, capB, _, _, rfl, _, _⟩ := h1.open
    clear h0 h1 hb0 hb1 htab
    go_enter Tryz.func4, Tryz.ntmps4
    go_wp2_with fail
    refine HL0.out.mono ?_
    rintro _ _ ⟨rfl, rfl⟩
    go_wp2
    go_returns
    exact RetB.mk rfl (Below.refl _ _)

end Go.Proofs.YtgdadbmhdljcdaaGreatDoor
