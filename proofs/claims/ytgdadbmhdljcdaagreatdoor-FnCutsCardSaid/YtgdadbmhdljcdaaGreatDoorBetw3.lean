/- The cuts between two profiles: the program. -/
import Derived.Test.YtgdadbmhdljcdaaGreatDoorBetw
namespace Go.Proofs.YtgdadbmhdljcdaaGreatDoor
set_option linter.unusedVariables false
open Go.RowKit Go.Proofs.Bell Go.BigFrame

set_option maxRecDepth 100000 in
set_option maxHeartbeats 6400000 in
theorem implCutsBetween_c (nm : ByteArray) (sv : Value) (ps : List (Int × Int × Int)) (nm' : ByteArray) (sv' : Value) (qs : List (Int × Int × Int)) (v : Value) (zs : List Int) (w : World) (hnm : nm.size ≤ maxLen) (hnm' : nm'.size ≤ maxLen) (hr : Rd w sv ps.length (trips ps)) (hr' : Rd w sv' qs.length (trips qs)) (h : Rd w v zs.length (ints zs)) :
    Calls Tryz.prog 40 #[.agg #[.string nm, sv], .agg #[.string nm', sv'], v] w (RetC2 (betI nm ps nm' qs zs).1 (.int .i64 (betI nm ps nm' qs zs).2) w) := by
  have hvz := fun w' (hb : Below w.heap.size w w') => ValidZones_c nm sv ps v zs w' hnm (hr.later hb) (h.later hb)
  have hok := fun w' (hb : Below w.heap.size w w') => ValidProfile_c nm' sv' qs w' hnm' (hr'.later hb)
  cases t1 : vzB nm ps zs <;> rw [t1] at hvz
  · have he : betI nm ps nm' qs zs = ([], 1) := by simp [betI, t1]
    rw [he]
    have HVZ := Lib.hid hvz; clear hvz
    clear he hr hr' h hok
    go_enter Tryz.func40, Tryz.ntmps40
    have b0 : Below w.heap.size w w := Below.refl _ _
    have z0 : w.heap.size ≤ w.heap.size := Nat.le_refl _
    go_wp2_with fail
    refine (HVZ.out _ (by go_grown)).mono ?_
    rintro _ w1 ⟨rfl, r1⟩
    have s1 : Below w.heap.size w w1 := Below.trans (by go_grown) (r1.mono (by simp; try omega))
    have b1 := b0.trans (s1.mono z0)
    have z1 := b1.size
    have y1 := s1.size
    have c0_0_1 := below_cell r1 (p := ⟨w.heap.size, 0, none⟩) (v := .string nm) (by simp [go_sem])
    have c0_1_1 := below_cell r1 (p := ⟨w.heap.size, 1, none⟩) (v := sv) (by simp [go_sem])
    have c1_0_1 := below_cell r1 (p := ⟨w.heap.size + 1, 0, none⟩) (v := .string nm') (by simp [go_sem])
    have c1_1_1 := below_cell r1 (p := ⟨w.heap.size + 1, 1, none⟩) (v := sv') (by simp [go_sem])
    clear r1
    go_wp2
    go_returns
    exact RetC2.nil b1
  · cases t2 : profB nm' qs <;> rw [t2] at hok
    · have he : betI nm ps nm' qs zs = ([], 1) := by simp [betI, t1, t2]
      rw [he]
      have HVZ := Lib.hid hvz; clear hvz
      have HOK := Lib.hid hok; clear hok
      clear he hr hr' h
      go_enter Tryz.func40, Tryz.ntmps40
      have b0 : Below w.heap.size w w := Below.refl _ _
      have z0 : w.heap.size ≤ w.heap.size := Nat.le_refl _
      go_wp2_with fail
      refine (HVZ.out _ (by go_grown)).mono ?_
      rintro _ w1 ⟨rfl, r1⟩
      have s1 : Below w.heap.size w w1 := Below.trans (by go_grown) (r1.mono (by simp; try omega))
      have b1 := b0.trans (s1.mono z0)
      have z1 := b1.size
      have y1 := s1.size
      have c0_0_1 := below_cell r1 (p := ⟨w.heap.size, 0, none⟩) (v := .string nm) (by simp [go_sem])
      have c0_1_1 := below_cell r1 (p := ⟨w.heap.size, 1, none⟩) (v := sv) (by simp [go_sem])
      have c1_0_1 := below_cell r1 (p := ⟨w.heap.size + 1, 0, none⟩) (v := .string nm') (by simp [go_sem])
      have c1_1_1 := below_cell r1 (p := ⟨w.heap.size + 1, 1, none⟩) (v := sv') (by simp [go_sem])
      clear r1
      go_wp2_with fail
      refine (HOK.out _ b1).mono ?_
      rintro _ w2 ⟨rfl, r2⟩
      have s2 := r2
      have b2 := b1.trans (s2.mono z1)
      have z2 := b2.size
      have y2 := s2.size
      have c0_0_2 := below_cell s2 c0_0_1; clear c0_0_1
      have c0_1_2 := below_cell s2 c0_1_1; clear c0_1_1
      have c1_0_2 := below_cell s2 c1_0_1; clear c1_0_1
      have c1_1_2 := below_cell s2 c1_1_1; clear c1_1_1
      clear r2
      go_wp2
      go_returns
      exact RetC2.nil b2
    · by_cases t3 : (nm.toList == nm'.toList) = true ∧ ps.length = qs.length
      · obtain ⟨hnn, hlen⟩ := t3
        have hpz : profB nm ps = true ∧ zonesB zs ((ps.length : Int) - 1) = true := by simpa only [vzB, Bool.and_eq_true] using t1
        obtain ⟨hl1, hl2, hal, hht⟩ := profB_t hpz.1
        obtain ⟨_, _, hqa, _⟩ := profB_t t2
        obtain ⟨hz1, hz8⟩ := zones_len hpz.2
        have hza := fun k (hk : k < zs.length) => zones_at hpz.2 hk
        have hsl := stepsK_len ps qs zs
        have hturn := fun w' x (hb : Below w.heap.size w w') (hx : Rd w' x (stepsK ps qs zs zs.length).length (ints (stepsK ps qs zs zs.length))) (hsb : ∀ k, 0 ≤ (stepsK ps qs zs zs.length).getD k 0 ∧ (stepsK ps qs zs zs.length).getD k 0 ≤ 1000000000000) => turned_c nm sv ps v zs x (stepsK ps qs zs zs.length) w' (hr.later hb) (h.later hb) hx hl1 hl2 hal hpz.2 (by rw [hsl]; exact Nat.le_refl _) hsb (zs_zero hpz.2) (fun a m h1 h2 h3 => zoneI_at hpz.2 h1 h2 h3)
        have hsame := fun w' x (hb : Below w.heap.size w w') (hx : Rd w' x (mapK (turnT zs (stepsK ps qs zs zs.length)) ps ps.length).length (trips (mapK (turnT zs (stepsK ps qs zs zs.length)) ps ps.length))) => SameProfile_c nm nm' hnn x sv' (mapK (turnT zs (stepsK ps qs zs zs.length)) ps ps.length) qs w' hx (hr'.later hb)
        have hlist := fun w' x (hx : Rd w' x (stepsK ps qs zs zs.length).length (ints (stepsK ps qs zs zs.length))) => cutsOf_c x (stepsK ps qs zs zs.length) w' hx (by rw [hsl]; omega)
        have hml := mapK_len (turnT zs (stepsK ps qs zs zs.length)) ps ps.length
        have hin := fun (x : Int) w' => within_c x 0 20 w'
        have hres : betI nm ps nm' qs zs = if stepsB ps qs zs && eqT (mapK (turnT zs (stepsK ps qs zs zs.length)) ps ps.length) qs then (cutsL (stepsK ps qs zs zs.length), 0) else ([], 3) := by
          unfold betI
          rw [t1, t2, hnn, ← hlen]
          simp
        have hsbt := fun (h : stepsB ps qs zs = true) => stepsB_t h
        have hsbo := fun (h : ∀ j, j < zs.length → inB (stepAt ps qs zs j) 0 20 = true) => stepsB_of h
        have hsbn := fun j (hj : j < zs.length) (h : inB (stepAt ps qs zs j) 0 20 = false) => stepsB_no hj h
        have hstp := fun k => (show stepsK ps qs zs k ++ [stepAt ps qs zs k] = stepsK ps qs zs (k + 1) from rfl)
        have HVZ := Lib.hid hvz; clear hvz
        have HOK := Lib.hid hok; clear hok
        have HZA := Lib.hid hza; clear hza
        have HTURN := Lib.hid hturn; clear hturn
        have HSAME := Lib.hid hsame; clear hsame
        have HLIST := Lib.hid hlist; clear hlist
        have HML := Lib.hid hml; clear hml
        have HIN := Lib.hid hin; clear hin
        have HRES := Lib.hid hres; clear hres
        have HSBT := Lib.hid hsbt; clear hsbt
        have HSBO := Lib.hid hsbo; clear hsbo
        have HSBN := Lib.hid hsbn; clear hsbn
        have HSTP := Lib.hid hstp; clear hstp
        have HSL := Lib.hid hsl; clear hsl
        have HAL := Lib.hid hal; clear hal
        have HQA := Lib.hid hqa; clear hqa
        have HLEN := Lib.hid hlen; clear hlen
        clear hpz hht t1 t2
        generalize hnq : qs.length = m at hr'
        have HNQ := Lib.hid hnq; clear hnq
        obtain ⟨hn1, ao1, cap1, bb1, off1, rfl, hao1, hcell1⟩ := hr'.open
        clear hr'
        generalize hn : ps.length = n at *
        have HN := Lib.hid hn; clear hn
        obtain ⟨hn, ao, cap, bb, off, rfl, hao, hcell⟩ := hr.open
        clear hr
        generalize hnz : zs.length = nz at *
        have HNz := Lib.hid hnz; clear hnz
        obtain ⟨hnz, aoz, capz, bbz, offz, rfl, haoz, hcellz⟩ := h.open
        clear h
        have hmn : n = m := by have h1 := HNQ.out; have h2 := HN.out; have h3 := HLEN.out; omega
        subst hmn
        go_enter Tryz.func40, Tryz.ntmps40
        have b0 : Below w.heap.size w w := Below.refl _ _
        have z0 : w.heap.size ≤ w.heap.size := Nat.le_refl _
        go_wp2_with fail
        refine (HVZ.out _ (by go_grown)).mono ?_
        rintro _ w1 ⟨rfl, r1⟩
        have s1 : Below w.heap.size w w1 := Below.trans (by go_grown) (r1.mono (by simp; try omega))
        have b1 := b0.trans (s1.mono z0)
        have z1 := b1.size
        have y1 := s1.size
        have c0_0_1 := below_cell r1 (p := ⟨w.heap.size, 0, none⟩) (v := .string nm) (by simp [go_sem])
        have c0_1_1 := below_cell r1 (p := ⟨w.heap.size, 1, none⟩) (v := .slice ao n cap) (by simp [go_sem])
        have c1_0_1 := below_cell r1 (p := ⟨w.heap.size + 1, 0, none⟩) (v := .string nm') (by simp [go_sem])
        have c1_1_1 := below_cell r1 (p := ⟨w.heap.size + 1, 1, none⟩) (v := .slice ao1 n cap1) (by simp [go_sem])
        clear r1
        go_wp2_with fail
        refine (HOK.out _ b1).mono ?_
        rintro _ w2 ⟨rfl, r2⟩
        have s2 := r2
        have b2 := b1.trans (s2.mono z1)
        have z2 := b2.size
        have y2 := s2.size
        have c0_0_2 := below_cell s2 c0_0_1; clear c0_0_1
        have c0_1_2 := below_cell s2 c0_1_1; clear c0_1_1
        have c1_0_2 := below_cell s2 c1_0_1; clear c1_0_1
        have c1_1_2 := below_cell s2 c1_1_1; clear c1_1_1
        clear r2
        go_wp2_with fail
        go_loopw [37, 8] (fun i u wr => ∃ (k : Nat), k ≤ nz ∧ i = .int .i64 k ∧ OwnI (w.heap.size + 1 + 1) wr u (stepsK ps qs zs k) ∧ (∀ j, j < k → inB (stepAt ps qs zs j) 0 20 = true) ∧ Below w.heap.size w wr ∧ wr.cell? ⟨w.heap.size, 0, none⟩ = some (.string nm) ∧ wr.cell? ⟨w.heap.size, 1, none⟩ = some (.slice ao n cap) ∧ wr.cell? ⟨w.heap.size + 1, 0, none⟩ = some (.string nm') ∧ wr.cell? ⟨w.heap.size + 1, 1, none⟩ = some (.slice ao1 n cap1)) (fun i u _ => nz - (intOf i).toNat)
        case atStart => exact ⟨0, Nat.zero_le _, rfl, World.ownsRow_nil _ _ _ _, fun j h => absurd h (Nat.not_lt_zero _), b2, c0_0_2, c0_1_2, c1_0_2, c1_1_2⟩
        case round =>
          obtain ⟨k, hk, rfl, ho, hx, br0, c0_0_r0, c0_1_r0, c1_0_r0, c1_1_r0⟩ := hrel
          have zr0 := br0.size
          have hlk := HSL.out k
          have hlo := own_lo ho
          have HO := Lib.hid ho; clear ho
          have LO := Lib.hid hlo; clear hlo
          have HX := Lib.hid hx; clear hx
          by_cases hlt : k < nz
          · skip
            have hlt_q : k < zs.length := by rw [HNz.out]; omega
            have hix_q := ix (P := Tryz.prog) (T := 42) (cap := capz) Tryz.underlying42 cells_int64 has_int64 haoz (k := k) (by omega) _ (rfl)
            rw [Nat.mul_one] at hix_q
            have hq : wr.cell? ⟨bbz, offz + k, none⟩ = some (.int .i64 (zs.getD k 0)) := by rw [getD_eq hlt_q]; exact hcellz _ br0 _ _ (by omega) (intsAt hlt_q)
            obtain ⟨u1, u2, u3⟩ := HZA.out k hlt
            have hss := HSTP.out k
            have hsn := HSBN.out k hlt
            have hsa : stepAt ps qs zs k = ((rg qs (zs.getD k 0).toNat).2.1 - (rg ps (zs.getD k 0).toNat).2.1).tdiv 10 := rfl
            obtain ⟨A, hA⟩ : ∃ A : Nat, zs.getD k 0 = A := ⟨_, (Int.toNat_of_nonneg u1).symm⟩
            rw [hA] at u2 hq hsa
            rw [Int.toNat_natCast] at hsa
            have hAn : A < n := by
              have : zEnd zs n k ≤ n := u3
              omega
            have hlt_p : A < ps.length := by rw [HN.out]; exact hAn
            have hlt_r : A < qs.length := by rw [HNQ.out]; exact hAn
            have hix_p := ix (P := Tryz.prog) (T := 24) (cap := cap) Tryz.underlying24 cells_Ring has_Ring hao (k := A) hAn _ rfl
            have hix_r := ix (P := Tryz.prog) (T := 24) (cap := cap1) Tryz.underlying24 cells_Ring has_Ring hao1 (k := A) hAn _ rfl
            have hp1 : wr.cell? ⟨bb, off + A * 3 + 1, none⟩ = some (.int .i64 (rg ps A).2.1) := by rw [rg_eq hlt_p]; exact hcell _ br0 _ _ (by omega) (trips_at hlt_p).2.1
            have hr1 : wr.cell? ⟨bb1, off1 + A * 3 + 1, none⟩ = some (.int .i64 (rg qs A).2.1) := by rw [rg_eq hlt_r]; exact hcell1 _ br0 _ _ (by omega) (trips_at hlt_r).2.1
            have hring := ringT_t (all_at HAL.out hlt_p)
            have hring2 := ringT_t (all_at HQA.out hlt_r)
            have hin := HIN.out (stepAt ps qs zs k)
            rw [hsa] at hss hsn hin
            have hxs : ∀ j, j < k + 1 → inB (((rg qs A).2.1 - (rg ps A).2.1).tdiv 10) 0 20 = true → inB (stepAt ps qs zs j) 0 20 = true := fun j hj hi2 => by
              rcases Nat.lt_or_ge j k with h1 | h1
              · exact HX.out j h1
              · obtain rfl : j = k := by omega
                rw [hsa]; exact hi2
            have HXS := Lib.hid hxs; clear hxs
            have HSS := Lib.hid hss; clear hss
            have HSN := Lib.hid hsn; clear hsn
            have HINX := Lib.hid hin; clear hin
            have htd := tdiv_bd ((rg qs A).2.1 - (rg ps A).2.1) 10 (by omega) (by omega) (by omega)
            clear hcell hcell1 hcellz hsa
            generalize (rg ps A).2.1 = p1 at *
            generalize (rg qs A).2.1 = r1 at *
            have g1 : IntKind.i64.wrap (r1 - p1) = r1 - p1 := IntWalk.i64_in _ (by omega)
            have g2 : IntKind.i64.wrap ((r1 - p1).tdiv 10) = (r1 - p1).tdiv 10 := IntWalk.i64_in _ (by omega)
            go_wp2_with fail
            go_quiet (fail)
            clear g1 g2 hix_p hix_r hix_q hq hp1 hr1
            have sq : Below wr.heap.size wr (wr.drewN nq) := below_drewN (Below.refl _ _) nq
            have sr1 := sq
            have br1 := br0.trans (sr1.mono zr0)
            have zr1 := br1.size
            have yr1 := sr1.size
            have c0_0_r1 := below_cell sr1 c0_0_r0; clear c0_0_r0
            have c0_1_r1 := below_cell sr1 c0_1_r0; clear c0_1_r0
            have c1_0_r1 := below_cell sr1 c1_0_r0; clear c1_0_r0
            have c1_1_r1 := below_cell sr1 c1_1_r0; clear c1_1_r0
            have o1_r1 := own_later HO.out sr1; have O1_r1 := Lib.hid o1_r1; clear o1_r1
            go_wp2_with fail
            refine (HINX.out _).mono ?_
            rintro _ _ ⟨rfl, rfl⟩
            cases t : inB ((r1 - p1).tdiv 10) 0 20
            · have hb := HRES.out
              rw [HSN.out t] at hb
              rw [Bool.false_and, if_neg (by simp)] at hb
              have HBB := Lib.hid hb; clear hb
              go_wp2
              go_returns
              rw [HBB.out]
              exact RetC2.nil br1
            · have zz3 : w.heap.size + 1 + 1 ≤ (wr.drewN nq).heap.size := World.block_lt_of_cell? _ ⟨w.heap.size + 1, 0, none⟩ c1_0_r1
              go_wp2_with (at_builtin; refine app_I (.tmp 58) (.tmp 60) _ _ _ _ _ (by rfl) (by rfl) (by rfl) (by rfl) O1_r1.out (by omega) zz3 ?_; intro v2 w9 o9 q9)
              have d0 := cell_only q9 c0_0_r1 (fun h => by have := LO.out _ h; simp at this; omega)
              have d1 := cell_only q9 c0_1_r1 (fun h => by have := LO.out _ h; simp at this; omega)
              have d2 := cell_only q9 c1_0_r1 (fun h => by have := LO.out _ h; simp at this; omega)
              have d3 := cell_only q9 c1_1_r1 (fun h => by have := LO.out _ h; simp at this; omega)
              have hb2 := Only.below br1 q9 zr1 (fun k h => by have := LO.out k h; omega)
              go_wp2
              go_roundw
              case rel => exact ⟨k + 1, by omega, by go_num, by rw [← HSS.out]; exact o9, fun j hj => HXS.out j hj t, hb2, d0, d1, d2, d3⟩
              case measure => simp [intOf]; omega
          · obtain rfl : k = nz := by omega
            have hsb : stepsB ps qs zs = true := HSBO.out (fun j hj => HX.out j hj)
            have hb := HRES.out
            rw [hsb, Bool.true_and] at hb
            have hsb2 := HSBT.out hsb
            have hw0 := br0
            obtain ⟨ax, cx, rfl⟩ := own_shape HO.out
            have hrdx : Rd wr (.slice ax k cx) k (ints (stepsK ps qs zs k)) := by
              have h := Rd.of_own HO.out
              rw [hlk] at h
              exact h
            have ht5 : ∀ w', Below wr.heap.size wr w' → Calls Tryz.prog 99 #[.agg #[.string nm, .slice ao n cap], .slice aoz k capz, .slice ax k cx] w' (fun e w'' => ∃ u, e = .returned (.agg #[.string nm, u]) ∧ (OwnR w'.heap.size w'' u (mapK (turnT zs (stepsK ps qs zs k)) ps n) ∧ Below wr.heap.size wr w'')) := fun w' hb5 => (HTURN.out w' _ (hw0.trans (hb5.mono hw0.size)) (by rw [hlk]; exact hrdx.later hb5) hsb2).mono fun _ _ ⟨v, e, o, b⟩ => ⟨v, e, o, hb5.trans (b.mono hb5.size)⟩
            have he5 : ∀ B w' u, OwnR B w' u (mapK (turnT zs (stepsK ps qs zs k)) ps n) ∧ Below wr.heap.size wr w' → Calls Tryz.prog 100 #[.agg #[.string nm, u], .agg #[.string nm', .slice ao1 n cap1]] w' (fun e w'' => e = .returned (.bool (eqT (mapK (turnT zs (stepsK ps qs zs k)) ps n) qs)) ∧ Below wr.heap.size wr w'') := fun B w' u ⟨o, hb5⟩ => (HSAME.out w' u (hw0.trans (hb5.mono hw0.size)) (Rd.of_own o)).mono fun _ _ ⟨e, b⟩ => ⟨e, hb5.trans (b.mono hb5.size)⟩
            have hli := fun w' hb5 => HLIST.out w' (.slice ax k cx) (by rw [hlk]; exact hrdx.later hb5)
            have HLI := Lib.hid hli; clear hli
            have HB9 := Lib.hid hb; clear hb
            have HT5 := Lib.hid ht5; clear ht5
            have HE5 := Lib.hid he5; clear he5
            rw [hlk]
            clear hsb hsb2 hcell hcell1 hcellz hrdx hlk hao hao1 haoz hlt
            generalize mapK (turnT zs (stepsK ps qs zs k)) ps n = qz at *
            generalize cutsL (stepsK ps qs zs k) = cl at *
            go_wp2_with fail
            go_region_held3 (fun w' => w'.cell? ⟨w.heap.size, 0, none⟩ = some (.string nm) ∧ w'.cell? ⟨w.heap.size, 1, none⟩ = some (.slice ao n cap) ∧ w'.cell? ⟨w.heap.size + 1, 0, none⟩ = some (.string nm') ∧ w'.cell? ⟨w.heap.size + 1, 1, none⟩ = some (.slice ao1 n cap1)) (first | exact ⟨c0_0_r0, c0_1_r0, c1_0_r0, c1_1_r0⟩ | exact ⟨below_cell O6.out.2 c0_0_r0, below_cell O6.out.2 c0_1_r0, below_cell O6.out.2 c1_0_r0, below_cell O6.out.2 c1_1_r0⟩ | exact ⟨below_cell s8 c0_0_r0, below_cell s8 c0_1_r0, below_cell s8 c1_0_r0, below_cell s8 c1_1_r0⟩ | go_keep) (first | (go_at_call 99; refine (HT5.out _ (by go_grown)).mono ?_; rintro _ ww6 ⟨vv6, rfl, o6⟩; have O6 := Lib.hid o6; clear o6) | (go_at_call 100; refine (HE5.out _ _ _ (by assumption)).mono ?_; rintro _ w8 ⟨rfl, s8⟩))
            have hbb := HB9.out
            have b8 := hw0.trans (s8.mono hw0.size)
            have z8 := b8.size
            cases t : eqT qz qs <;> rw [t] at hbb
            · rw [if_neg (by simp)] at hbb
              have HBB := Lib.hid hbb; clear hbb
              go_wp2
              go_returns
              rw [HBB.out]
              exact RetC2.nil b8
            · rw [if_pos rfl] at hbb
              have HBB := Lib.hid hbb; clear hbb
              have hl9 := HLI.out w8 s8
              have HL9 := Lib.hid hl9; clear hl9
              go_wp2_with fail
              refine HL9.out.mono ?_
              rintro _ w9 ⟨x9, rfl, n9, r9⟩
              go_wp2
              go_returns
              rw [HBB.out]
              exact ⟨_, rfl, own_base n9 z8, b8.trans (r9.mono z8)⟩
      · have he : betI nm ps nm' qs zs = ([], 7) := by
          unfold betI
          rw [t1, t2]
          simp only [Bool.and_self, if_true]
          rw [if_neg (by simpa only [Bool.and_eq_true, decide_eq_true_eq] using t3)]
        rw [he]
        have HVZ := Lib.hid hvz; clear hvz
        have HOK := Lib.hid hok; clear hok
        obtain ⟨hn0, ao0, cap0, b0', off0, rfl, hao0, hcell0⟩ := hr.open
        obtain ⟨hn1, ao1, cap1, b1', off1, rfl, hao1, hcell1⟩ := hr'.open
        clear he hr hr' h hcell0 hcell1 hao0 hao1
        have t4 : (nm.toList == nm'.toList) = false ∨ ((nm.toList == nm'.toList) = true ∧ ¬ ps.length = qs.length) := by
          cases e2 : nm.toList == nm'.toList
          · exact Or.inl rfl
          · exact Or.inr ⟨rfl, fun e => t3 ⟨e2, e⟩⟩
        generalize ps.length = n at *
        generalize qs.length = m at *
        rcases t4 with t4 | ⟨t4, t5⟩
        · clear t3
          go_enter Tryz.func40, Tryz.ntmps40
          have b0 : Below w.heap.size w w := Below.refl _ _
          have z0 : w.heap.size ≤ w.heap.size := Nat.le_refl _
          go_wp2_with fail
          refine (HVZ.out _ (by go_grown)).mono ?_
          rintro _ w1 ⟨rfl, r1⟩
          have s1 : Below w.heap.size w w1 := Below.trans (by go_grown) (r1.mono (by simp; try omega))
          have b1 := b0.trans (s1.mono z0)
          have z1 := b1.size
          have y1 := s1.size
          have c0_0_1 := below_cell r1 (p := ⟨w.heap.size, 0, none⟩) (v := .string nm) (by simp [go_sem])
          have c0_1_1 := below_cell r1 (p := ⟨w.heap.size, 1, none⟩) (v := .slice ao0 n cap0) (by simp [go_sem])
          have c1_0_1 := below_cell r1 (p := ⟨w.heap.size + 1, 0, none⟩) (v := .string nm') (by simp [go_sem])
          have c1_1_1 := below_cell r1 (p := ⟨w.heap.size + 1, 1, none⟩) (v := .slice ao1 m cap1) (by simp [go_sem])
          clear r1
          go_wp2_with fail
          refine (HOK.out _ b1).mono ?_
          rintro _ w2 ⟨rfl, r2⟩
          have s2 := r2
          have b2 := b1.trans (s2.mono z1)
          have z2 := b2.size
          have y2 := s2.size
          have c0_0_2 := below_cell s2 c0_0_1; clear c0_0_1
          have c0_1_2 := below_cell s2 c0_1_1; clear c0_1_1
          have c1_0_2 := below_cell s2 c1_0_1; clear c1_0_1
          have c1_1_2 := below_cell s2 c1_1_1; clear c1_1_1
          clear r2
          go_wp2
          go_returns
          exact RetC2.nil b2
        · have t6 : ¬ (n : Int) = m := by omega
          clear t3
          go_enter Tryz.func40, Tryz.ntmps40
          have b0 : Below w.heap.size w w := Below.refl _ _
          have z0 : w.heap.size ≤ w.heap.size := Nat.le_refl _
          go_wp2_with fail
          refine (HVZ.out _ (by go_grown)).mono ?_
          rintro _ w1 ⟨rfl, r1⟩
          have s1 : Below w.heap.size w w1 := Below.trans (by go_grown) (r1.mono (by simp; try omega))
          have b1 := b0.trans (s1.mono z0)
          have z1 := b1.size
          have y1 := s1.size
          have c0_0_1 := below_cell r1 (p := ⟨w.heap.size, 0, none⟩) (v := .string nm) (by simp [go_sem])
          have c0_1_1 := below_cell r1 (p := ⟨w.heap.size, 1, none⟩) (v := .slice ao0 n cap0) (by simp [go_sem])
          have c1_0_1 := below_cell r1 (p := ⟨w.heap.size + 1, 0, none⟩) (v := .string nm') (by simp [go_sem])
          have c1_1_1 := below_cell r1 (p := ⟨w.heap.size + 1, 1, none⟩) (v := .slice ao1 m cap1) (by simp [go_sem])
          clear r1
          go_wp2_with fail
          refine (HOK.out _ b1).mono ?_
          rintro _ w2 ⟨rfl, r2⟩
          have s2 := r2
          have b2 := b1.trans (s2.mono z1)
          have z2 := b2.size
          have y2 := s2.size
          have c0_0_2 := below_cell s2 c0_0_1; clear c0_0_1
          have c0_1_2 := below_cell s2 c0_1_1; clear c0_1_1
          have c1_0_2 := below_cell s2 c1_0_1; clear c1_0_1
          have c1_1_2 := below_cell s2 c1_1_1; clear c1_1_1
          clear r2
          go_wp2
          go_returns
          exact RetC2.nil b2

end Go.Proofs.YtgdadbmhdljcdaaGreatDoor
