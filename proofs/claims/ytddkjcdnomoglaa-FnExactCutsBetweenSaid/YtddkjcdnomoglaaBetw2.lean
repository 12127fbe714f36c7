/- The cuts between two profiles: the reference. -/
import Derived.Test.YtddkjcdnomoglaaBetw
namespace Go.Proofs.Ytddkjcdnomoglaa
set_option linter.unusedVariables false
open Go.RowKit Go.Proofs.Bell Go.BigFrame

set_option maxRecDepth 100000 in
set_option maxHeartbeats 6400000 in
theorem specCutsBetween_c (nm : ByteArray) (sv : Value) (ps : List (Int × Int × Int)) (nm' : ByteArray) (sv' : Value) (qs : List (Int × Int × Int)) (v : Value) (zs : List Int) (w : World) (hnm : nm.size ≤ maxLen) (hnm' : nm'.size ≤ maxLen) (hr : Rd w sv ps.length (trips ps)) (hr' : Rd w sv' qs.length (trips qs)) (h : Rd w v zs.length (ints zs)) :
    Calls Try.prog 39 #[.agg #[.string nm, sv], .agg #[.string nm', sv'], v] w (RetC2 (betI nm ps nm' qs zs).1 (.int .i64 (betI nm ps nm' qs zs).2) w) := by
  have hvz := fun w' g hg c0 c1 (hb : Below w.heap.size w w') => l09Zones_c g nm sv ps v zs w' hg hnm c0 c1 (hr.later hb) (h.later hb)
  have hok := fun w' g hg c0 c1 (hb : Below w.heap.size w w') => l05Ok_c g nm' sv' qs w' hg hnm' c0 c1 (hr'.later hb)
  cases t1 : vzB nm ps zs <;> rw [t1] at hvz
  · have he : betI nm ps nm' qs zs = ([], 1) := by simp [betI, t1]
    rw [he]
    have HVZ := Lib.hid hvz; clear hvz
    clear he hr hr' h hok
    go_enter Try.func39, Try.ntmps39
    have b0 : Below w.heap.size w w := Below.refl _ _
    have z0 : w.heap.size ≤ w.heap.size := Nat.le_refl _
    go_wp2_with fail
    refine (HVZ.out _ _ (by simp; try omega) (by simp [go_sem]) (by simp [go_sem]) (by go_grown)).mono ?_
    rintro _ w1 ⟨rfl, d1⟩
    have r1 := Dr.below d1; clear d1
    have s1 : Below w.heap.size w w1 := Below.trans (by go_grown) (r1.mono (by simp; try omega))
    have b1 := b0.trans (s1.mono z0)
    have z1 := b1.size
    have y1 := s1.size
    have c0_0_1 := below_cell r1 (p := ⟨w.heap.size, 0, none⟩) (v := .string nm) (by simp [go_sem])
    have c0_1_1 := below_cell r1 (p := ⟨w.heap.size, 1, none⟩) (v := sv) (by simp [go_sem])
    have c1_0_1 := below_cell r1 (p := ⟨w.heap.size + 1, 0, none⟩) (v := .string nm') (by simp [go_sem])
    have c1_1_1 := below_cell r1 (p := ⟨w.heap.size + 1, 1, none⟩) (v := sv') (by simp [go_sem])
    clear r1
    go_wp2
    go_returns
    exact RetC2.nil b1
  · cases t2 : profB nm' qs <;> rw [t2] at hok
    · have he : betI nm ps nm' qs zs = ([], 1) := by simp [betI, t1, t2]
      rw [he]
      have HVZ := Lib.hid hvz; clear hvz
      have HOK := Lib.hid hok; clear hok
      clear he hr hr' h
      go_enter Try.func39, Try.ntmps39
      have b0 : Below w.heap.size w w := Below.refl _ _
      have z0 : w.heap.size ≤ w.heap.size := Nat.le_refl _
      go_wp2_with fail
      refine (HVZ.out _ _ (by simp; try omega) (by simp [go_sem]) (by simp [go_sem]) (by go_grown)).mono ?_
      rintro _ w1 ⟨rfl, d1⟩
      have r1 := Dr.below d1; clear d1
      have s1 : Below w.heap.size w w1 := Below.trans (by go_grown) (r1.mono (by simp; try omega))
      have b1 := b0.trans (s1.mono z0)
      have z1 := b1.size
      have y1 := s1.size
      have c0_0_1 := below_cell r1 (p := ⟨w.heap.size, 0, none⟩) (v := .string nm) (by simp [go_sem])
      have c0_1_1 := below_cell r1 (p := ⟨w.heap.size, 1, none⟩) (v := sv) (by simp [go_sem])
      have c1_0_1 := below_cell r1 (p := ⟨w.heap.size + 1, 0, none⟩) (v := .string nm') (by simp [go_sem])
      have c1_1_1 := below_cell r1 (p := ⟨w.heap.size + 1, 1, none⟩) (v := sv') (by simp [go_sem])
      clear r1
      have zz2 := World.block_lt_of_cell? _ ⟨w.heap.size + 1, 0, none⟩ c1_0_1
      go_wp2_with fail
      refine (HOK.out _ _ (by simpa using zz2) c1_0_1 c1_1_1 b1).mono ?_
      rintro _ w2 ⟨rfl, d2⟩
      have r2 := Dr.below d2; clear d2
      have s2 := r2
      have b2 := b1.trans (s2.mono z1)
      have z2 := b2.size
      have y2 := s2.size
      have c0_0_2 := below_cell s2 c0_0_1; clear c0_0_1
      have c0_1_2 := below_cell s2 c0_1_1; clear c0_1_1
      have c1_0_2 := below_cell s2 c1_0_1; clear c1_0_1
      have c1_1_2 := below_cell s2 c1_1_1; clear c1_1_1
      clear r2
      go_wp2
      go_returns
      exact RetC2.nil b2
    · by_cases t3 : (nm.toList == nm'.toList) = true ∧ ps.length = qs.length
      · obtain ⟨hnn, hlen⟩ := t3
        have hpz : profB nm ps = true ∧ zonesB zs ((ps.length : Int) - 1) = true := by simpa only [vzB, Bool.and_eq_true] using t1
        obtain ⟨hl1, hl2, hal, hht⟩ := profB_t hpz.1
        obtain ⟨_, _, hqa, _⟩ := profB_t t2
        obtain ⟨hz1, hz8⟩ := zones_len hpz.2
        have hza := fun k (hk : k < zs.length) => zones_at hpz.2 hk
        have hturn := fun w' g x c0 c1 (hb : Below w.heap.size w w') (hx : Rd w' x 8 (ints (padK ps qs zs zs.length))) (hsb : ∀ k, 0 ≤ (stepsK ps qs zs zs.length).getD k 0 ∧ (stepsK ps qs zs zs.length).getD k 0 ≤ 1000000000000) => l09Turned_c g nm sv ps v zs x (padK ps qs zs zs.length) w' c0 c1 (hr.later hb) (h.later hb) (by rw [padK_len ps qs zs hz8]; exact hx) hl1 hl2 hal (fun k hk => by have := zoneI_lt zs k hz1; rw [padK_len ps qs zs hz8]; omega) (fun k => by unfold padK; rw [pad_getD]; exact hsb k)
        have hpt : turnT zs (padK ps qs zs zs.length) = turnT zs (stepsK ps qs zs zs.length) := pad_turn _ _ _
        rw [hpt] at hturn
        have hsame := fun w' g g' x c0 c1 d0 d1 (hb : Below w.heap.size w w') (hx : Rd w' x ps.length (trips (mapK (turnT zs (stepsK ps qs zs zs.length)) ps ps.length))) => l05Same_c g g' nm nm' hnn x sv' (mapK (turnT zs (stepsK ps qs zs zs.length)) ps ps.length) qs w' c0 c1 d0 d1 (by rw [mapK_len]; exact hx) (hr'.later hb) (by rw [mapK_len]; exact hlen)
        have hlist := fun w' x (hx : Rd w' x 8 (ints (padK ps qs zs zs.length))) => l09List_c x (padK ps qs zs zs.length) w' (by rw [padK_len ps qs zs hz8]; exact hx) (by rw [padK_len ps qs zs hz8]; omega)
        have hpl : cutsL (padK ps qs zs zs.length) = cutsL (stepsK ps qs zs zs.length) := pad_cutsL _ _
        rw [hpl] at hlist
        have hml := mapK_len (turnT zs (stepsK ps qs zs zs.length)) ps ps.length
        have hin := fun (x : Int) w' => l00In_c x 0 20 w'
        have hres : betI nm ps nm' qs zs = if stepsB ps qs zs && eqT (mapK (turnT zs (stepsK ps qs zs zs.length)) ps ps.length) qs then (cutsL (stepsK ps qs zs zs.length), 0) else ([], 3) := by
          unfold betI
          rw [t1, t2, hnn, ← hlen]
          simp
        have hsbt := fun (h : stepsB ps qs zs = true) => stepsB_t h
        have hsbo := fun (h : ∀ j, j < zs.length → inB (stepAt ps qs zs j) 0 20 = true) => stepsB_of h
        have hsbn := fun j (hj : j < zs.length) (h : inB (stepAt ps qs zs j) 0 20 = false) => stepsB_no hj h
        have hpad := fun k (hk : k < 8) => padK_set ps qs zs hk
        have hpln := fun k (hk : k ≤ 8) => padK_len ps qs zs hk
        have HVZ := Lib.hid hvz; clear hvz
        have HOK := Lib.hid hok; clear hok
        have HZA := Lib.hid hza; clear hza
        have HTURN := Lib.hid hturn; clear hturn
        have HSAME := Lib.hid hsame; clear hsame
        have HLIST := Lib.hid hlist; clear hlist
        have HML := Lib.hid hml; clear hml
        have HIN := Lib.hid hin; clear hin
        have HRES := Lib.hid hres; clear hres
        have HSBT := Lib.hid hsbt; clear hsbt
        have HSBO := Lib.hid hsbo; clear hsbo
        have HSBN := Lib.hid hsbn; clear hsbn
        have HPAD := Lib.hid hpad; clear hpad
        have HPLN := Lib.hid hpln; clear hpln
        have HAL := Lib.hid hal; clear hal
        have HQA := Lib.hid hqa; clear hqa
        have HLEN := Lib.hid hlen; clear hlen
        obtain ⟨i0, hi, hy0, hy1, hy2⟩ := info_parts info_int64
        clear hpz hht t1 t2 hpt hpl
        generalize hnq : qs.length = m at hr'
        have HNQ := Lib.hid hnq; clear hnq
        obtain ⟨hn1, ao1, cap1, bb1, off1, rfl, hao1, hcell1⟩ := hr'.open
        clear hr'
        generalize hn : ps.length = n at *
        have HN := Lib.hid hn; clear hn
        obtain ⟨hn, ao, cap, bb, off, rfl, hao, hcell⟩ := hr.open
        clear hr
        generalize hnz : zs.length = nz at *
        have HNz := Lib.hid hnz; clear hnz
        obtain ⟨hnz, aoz, capz, bbz, offz, rfl, haoz, hcellz⟩ := h.open
        clear h
        have hmn : n = m := by have h1 := HNQ.out; have h2 := HN.out; have h3 := HLEN.out; omega
        subst hmn
        go_enter Try.func39, Try.ntmps39
        have b0 : Below w.heap.size w w := Below.refl _ _
        have z0 : w.heap.size ≤ w.heap.size := Nat.le_refl _
        go_wp2_with fail
        refine (HVZ.out _ _ (by simp; try omega) (by simp [go_sem]) (by simp [go_sem]) (by go_grown)).mono ?_
        rintro _ w1 ⟨rfl, d1⟩
        have r1 := Dr.below d1; clear d1
        have s1 : Below w.heap.size w w1 := Below.trans (by go_grown) (r1.mono (by simp; try omega))
        have b1 := b0.trans (s1.mono z0)
        have z1 := b1.size
        have y1 := s1.size
        have c0_0_1 := below_cell r1 (p := ⟨w.heap.size, 0, none⟩) (v := .string nm) (by simp [go_sem])
        have c0_1_1 := below_cell r1 (p := ⟨w.heap.size, 1, none⟩) (v := .slice ao n cap) (by simp [go_sem])
        have c1_0_1 := below_cell r1 (p := ⟨w.heap.size + 1, 0, none⟩) (v := .string nm') (by simp [go_sem])
        have c1_1_1 := below_cell r1 (p := ⟨w.heap.size + 1, 1, none⟩) (v := .slice ao1 n cap1) (by simp [go_sem])
        clear r1
        have zz2 := World.block_lt_of_cell? _ ⟨w.heap.size + 1, 0, none⟩ c1_0_1
        go_wp2_with fail
        refine (HOK.out _ _ (by simpa using zz2) c1_0_1 c1_1_1 b1).mono ?_
        rintro _ w2 ⟨rfl, d2⟩
        have r2 := Dr.below d2; clear d2
        have s2 := r2
        have b2 := b1.trans (s2.mono z1)
        have z2 := b2.size
        have y2 := s2.size
        have c0_0_2 := below_cell s2 c0_0_1; clear c0_0_1
        have c0_1_2 := below_cell s2 c0_1_1; clear c0_1_1
        have c1_0_2 := below_cell s2 c1_0_1; clear c1_0_1
        have c1_1_2 := below_cell s2 c1_1_1; clear c1_1_1
        clear r2
        have zz3 : w.heap.size + 1 < w2.heap.size := by have := World.block_lt_of_cell? _ ⟨w.heap.size + 1, 0, none⟩ c1_0_2; simpa using this
        go_wp2_with (at_make; refine wpList_make_full _ rfl _ _ 25 rfl w.heap.size 2 i0 (.int .i64 0) 1 Try.underlying25 hi hy0 hy1 _ _ _ _ 8 rfl rfl (by omega) (by omega) ?b2 ?b3 b2.size ?_)
        case b2 => rw [hy2]; omega
        case b3 => unfold maxLen; omega
        intro w0 hown0 hg0
        rw [toList_madeCells_one] at hown0
        have hbw : Below w2.heap.size w2 w0 := (Below.refl _ _).grown hg0 (Nat.le_refl _) (fun k h => by cases h)
        clear hg0
        have s3 := hbw
        have b3 := b2.trans (s3.mono z2)
        have z3 := b3.size
        have y3 := s3.size
        have c0_0_3 := below_cell s3 c0_0_2; clear c0_0_2
        have c0_1_3 := below_cell s3 c0_1_2; clear c0_1_2
        have c1_0_3 := below_cell s3 c1_0_2; clear c1_0_2
        have c1_1_3 := below_cell s3 c1_1_2; clear c1_1_2
        have hown1 : OwnI w.heap.size w0 (.slice (some ⟨w2.heap.size, 0, none⟩) 8 8) (padK ps qs zs 0) := by rw [padK_zero]; exact hown0
        go_wp2_with fail
        go_loopw [9] (fun i wr => ∃ (k : Nat), k ≤ nz ∧ i = .int .i64 k ∧ OwnI w.heap.size wr (.slice (some ⟨w2.heap.size, 0, none⟩) 8 8) (padK ps qs zs k) ∧ (∀ j, j < k → inB (stepAt ps qs zs j) 0 20 = true) ∧ Below w.heap.size w wr ∧ wr.cell? ⟨w.heap.size, 0, none⟩ = some (.string nm) ∧ wr.cell? ⟨w.heap.size, 1, none⟩ = some (.slice ao n cap) ∧ wr.cell? ⟨w.heap.size + 1, 0, none⟩ = some (.string nm') ∧ wr.cell? ⟨w.heap.size + 1, 1, none⟩ = some (.slice ao1 n cap1)) (fun i _ => nz - (intOf i).toNat)
        case atStart => exact ⟨0, Nat.zero_le _, rfl, hown1, fun j h => absurd h (Nat.not_lt_zero _), b3, c0_0_3, c0_1_3, c1_0_3, c1_1_3⟩
        case round =>
          obtain ⟨k, hk, rfl, ho, hx, br0, c0_0_r0, c0_1_r0, c1_0_r0, c1_1_r0⟩ := hrel
          have zr0 := br0.size
          have hpk := HPLN.out k (by omega)
          have HO := Lib.hid ho; clear ho
          have HX := Lib.hid hx; clear hx
          by_cases hlt : k < nz
          · skip
            have hlt_q : k < zs.length := by rw [HNz.out]; omega
            have hix_q := ix (P := Try.prog) (T := 25) (cap := capz) Try.underlying25 cells_int64 has_int64 haoz (k := k) (by omega) _ (rfl)
            rw [Nat.mul_one] at hix_q
            have hq : wr.cell? ⟨bbz, offz + k, none⟩ = some (.int .i64 (zs.getD k 0)) := by rw [getD_eq hlt_q]; exact hcellz _ br0 _ _ (by omega) (intsAt hlt_q)
            obtain ⟨u1, u2, u3⟩ := HZA.out k hlt
            have hpp := HPAD.out k (by omega)
            have hsn := HSBN.out k hlt
            have hsa : stepAt ps qs zs k = ((rg qs (zs.getD k 0).toNat).2.1 - (rg ps (zs.getD k 0).toNat).2.1).tdiv 10 := rfl
            obtain ⟨A, hA⟩ : ∃ A : Nat, zs.getD k 0 = A := ⟨_, (Int.toNat_of_nonneg u1).symm⟩
            rw [hA] at u2 hq hsa
            rw [Int.toNat_natCast] at hsa
            have hAn : A < n := by
              have : zEnd zs n k ≤ n := u3
              omega
            have hlt_p : A < ps.length := by rw [HN.out]; exact hAn
            have hlt_r : A < qs.length := by rw [HNQ.out]; exact hAn
            have hix_p := ix (P := Try.prog) (T := 29) (cap := cap) Try.underlying29 cells_Ring has_Ring hao (k := A) hAn _ rfl
            have hix_r := ix (P := Try.prog) (T := 29) (cap := cap1) Try.underlying29 cells_Ring has_Ring hao1 (k := A) hAn _ rfl
            have hp1 : wr.cell? ⟨bb, off + A * 3 + 1, none⟩ = some (.int .i64 (rg ps A).2.1) := by rw [rg_eq hlt_p]; exact hcell _ br0 _ _ (by omega) (trips_at hlt_p).2.1
            have hr1 : wr.cell? ⟨bb1, off1 + A * 3 + 1, none⟩ = some (.int .i64 (rg qs A).2.1) := by rw [rg_eq hlt_r]; exact hcell1 _ br0 _ _ (by omega) (trips_at hlt_r).2.1
            have hring := ringT_t (all_at HAL.out hlt_p)
            have hring2 := ringT_t (all_at HQA.out hlt_r)
            have hix_o := ix (P := Try.prog) (T := 25) (n := 8) (cap := 8) Try.underlying25 cells_int64 has_int64 (ao := some ⟨w2.heap.size, 0, none⟩) (b := w2.heap.size) (off := 0) (fun _ => rfl) (k := k) (by omega) _ rfl
            rw [Nat.mul_one, Nat.zero_add] at hix_o
            have ho : wr.ownsRow w.heap.size 2 1 (.slice (some ⟨w2.heap.size, 0, none⟩) 8 8) 8 (ints (padK ps qs zs k)) := by have := HO.out; unfold OwnI at this; rw [hpk] at this; exact this
            have hc5 := World.ownsRow.cellAt ho k (by omega)
            have hget : ∃ y, (ints (padK ps qs zs k))[k]? = some y := ⟨_, List.getElem?_eq_getElem (by simp [ints, hpk]; omega)⟩
            obtain ⟨y5, hy5⟩ := hget
            rw [hy5] at hc5
            have hf5 := fun j => World.ownsRow.frozenAt ho j
            have hst := fun m => (World.ownsRow.stored (own_later ho (below_drewN (Below.refl _ _) m)) k (.int .i64 (stepAt ps qs zs k))).1
            rw [ints_set, hpp] at hst
            have hpk1 := HPLN.out (k + 1) (by omega)
            have hin := HIN.out (stepAt ps qs zs k)
            rw [hsa] at hst hsn hin
            have e1 : w.heap.size + 1 < w2.heap.size := zz3
            have hB : w2.heap.size < wr.heap.size := own_lt ho _ rfl
            have hxs : ∀ j, j < k + 1 → inB (((rg qs A).2.1 - (rg ps A).2.1).tdiv 10) 0 20 = true → inB (stepAt ps qs zs j) 0 20 = true := fun j hj hi2 => by
              rcases Nat.lt_or_ge j k with h1 | h1
              · exact HX.out j h1
              · obtain rfl : j = k := by omega
                rw [hsa]; exact hi2
            have HXS := Lib.hid hxs; clear hxs
            have HST := Lib.hid hst; clear hst
            have HSN := Lib.hid hsn; clear hsn
            have HINX := Lib.hid hin; clear hin
            have htd := tdiv_bd ((rg qs A).2.1 - (rg ps A).2.1) 10 (by omega) (by omega) (by omega)
            clear hcell hcell1 hcellz hsa hpp hy5 ho hpk
            generalize (rg ps A).2.1 = p1 at *
            generalize (rg qs A).2.1 = r1 at *
            have g1 : IntKind.i64.wrap (r1 - p1) = r1 - p1 := IntWalk.i64_in _ (by omega)
            have g2 : IntKind.i64.wrap ((r1 - p1).tdiv 10) = (r1 - p1).tdiv 10 := IntWalk.i64_in _ (by omega)
            go_wp2_with fail
            refine wp_region_drew_tail 23 (by kernel_rfl) (by kernel_rfl) ?_
            simp only [List.take_succ_cons, List.take_zero, List.drop_succ_cons, List.drop_zero]
            repeat (quiet_step (fail))
            refine wpQuiet_nil ?_
            rintro _ ⟨nq, rfl⟩
            go_wp2_with fail
            obtain ⟨W4, hW4⟩ : ∃ x, x = (wr.drewN nq).setCell ⟨w2.heap.size, k, none⟩ (.int .i64 ((r1 - p1).tdiv 10)) := ⟨_, rfl⟩
            rw [← hW4]
            have hst4 := HST.out nq
            rw [← hW4] at hst4
            have hkeep : ∀ b j u, b ≠ w2.heap.size → wr.cell? ⟨b, j, none⟩ = some u → W4.cell? ⟨b, j, none⟩ = some u := fun b j u hne hc => by
              rw [hW4, World.cell?_setCell_other _ _ _ _ (fun e => hne (congrArg Addr.block e).symm)]
              exact below_cell (below_drewN (Below.refl _ _) nq) hc
            have b4 : Below w.heap.size w W4 := by rw [hW4]; exact (below_drewN br0 nq).setCell (show w.heap.size ≤ w2.heap.size by omega) _
            have m0 := hkeep _ _ _ (by omega) c0_0_r0
            have m1 := hkeep _ _ _ (by omega) c0_1_r0
            have m2 := hkeep _ _ _ (by omega) c1_0_r0
            have m3 := hkeep _ _ _ (by omega) c1_1_r0
            have o4 : OwnI w.heap.size W4 (.slice (some ⟨w2.heap.size, 0, none⟩) 8 8) (padK ps qs zs (k + 1)) := by unfold OwnI; rw [hpk1]; exact hst4
            have O4 := Lib.hid o4; clear o4
            clear hkeep hW4 hst4 g1 g2 hc5 hf5 hix_p hix_r hix_o hix_q hq hp1 hr1
            refine (HINX.out _).mono ?_
            rintro _ _ ⟨rfl, rfl⟩
            cases t : inB ((r1 - p1).tdiv 10) 0 20
            · have hb := HRES.out
              rw [HSN.out t] at hb
              rw [Bool.false_and, if_neg (by simp)] at hb
              have HBB := Lib.hid hb; clear hb
              go_wp2
              go_returns
              rw [HBB.out]
              exact RetC2.nil b4
            · go_wp2
              go_roundw
              case rel => exact ⟨k + 1, by omega, by go_num, O4.out, fun j hj => HXS.out j hj t, b4, m0, m1, m2, m3⟩
              case measure => simp [intOf]; omega
          · obtain rfl : k = nz := by omega
            have hsb : stepsB ps qs zs = true := HSBO.out (fun j hj => HX.out j hj)
            have ho8 : Rd wr (.slice (some ⟨w2.heap.size, 0, none⟩) 8 8) 8 (ints (padK ps qs zs k)) := by
              have := HO.out; unfold OwnI at this; rw [hpk] at this; exact Rd.of_own this
            have RD8 := Lib.hid ho8; clear ho8
            have hb := HRES.out
            rw [hsb, Bool.true_and] at hb
            have hsb2 := HSBT.out hsb
            have htu := fun w' hbb2 c0 c1 hx => HTURN.out w' w.heap.size (.slice (some ⟨w2.heap.size, 0, none⟩) 8 8) c0 c1 hbb2 hx hsb2
            have HB9 := Lib.hid hb; clear hb
            have HTU := Lib.hid htu; clear htu
            clear hsb hsb2 hcell hcell1 hcellz
            generalize hqz : mapK (turnT zs (stepsK ps qs zs k)) ps n = qz at *
            have hqzl : qz.length = n := HML.out
            clear hqz
            have hsa := HSAME.out
            have hli := HLIST.out
            have HSA := Lib.hid hsa; clear hsa
            have HLI := Lib.hid hli; clear hli
            generalize padK ps qs zs k = sums at *
            generalize cutsL (stepsK ps qs zs k) = cl at *
            go_wp2_with fail
            refine (HTU.out _ br0 c0_0_r0 c0_1_r0 RD8.out).mono ?_
            rintro _ wr1 ⟨xr1, rfl, nr1, rr1⟩
            have sr1 := rr1
            have br1 := br0.trans (sr1.mono zr0)
            have zr1 := br1.size
            have yr1 := sr1.size
            have c0_0_r1 := below_cell sr1 c0_0_r0; clear c0_0_r0
            have c0_1_r1 := below_cell sr1 c0_1_r0; clear c0_1_r0
            have c1_0_r1 := below_cell sr1 c1_0_r0; clear c1_0_r0
            have c1_1_r1 := below_cell sr1 c1_1_r0; clear c1_1_r0
            clear rr1
            obtain ⟨ax, cx, rfl⟩ := own_shape nr1
            have rdx : Rd wr1 (.slice ax qz.length cx) n (trips qz) := by
              have h := Rd.of_own nr1
              have e := hqzl
              generalize qz.length = l at h e ⊢
              subst e
              exact h
            have RDX := Lib.hid rdx; clear rdx
            clear nr1
            generalize qz.length = ql at *
            have e9 : n = ql := hqzl.symm
            subst e9
            clear hqzl
            go_wp2_with fail
            have k10 := alloc_cell (.cells #[.string nm, .slice ax n cx] 31) c1_0_r1
            have k11 := alloc_cell (.cells #[.string nm, .slice ax n cx] 31) c1_1_r1
            go_wp2_with fail
            refine (HSA.out _ wr1.heap.size (w.heap.size + 1) _ (by simp [go_sem]) (by simp [go_sem]) k10 k11 (by go_grown) (RDX.out.later (by go_grown))).mono ?_
            rintro _ wr2 ⟨rfl, dr2⟩
            have rr2 := Dr.below dr2; clear dr2
            have sr2 : Below wr1.heap.size wr1 wr2 := Below.trans (by go_grown) (rr2.mono (by simp; try omega))
            have br2 := br1.trans (sr2.mono zr1)
            have zr2 := br2.size
            have yr2 := sr2.size
            have c0_0_r2 := below_cell sr2 c0_0_r1; clear c0_0_r1
            have c0_1_r2 := below_cell sr2 c0_1_r1; clear c0_1_r1
            have c1_0_r2 := below_cell sr2 c1_0_r1; clear c1_0_r1
            have c1_1_r2 := below_cell sr2 c1_1_r1; clear c1_1_r1
            have c2_0_r2 := below_cell rr2 (p := ⟨wr1.heap.size, 0, none⟩) (v := .string nm) (by simp [go_sem])
            have c2_1_r2 := below_cell rr2 (p := ⟨wr1.heap.size, 1, none⟩) (v := .slice ax n cx) (by simp [go_sem])
            clear rr2
            have hbb := HB9.out
            cases t : eqT qz qs <;> rw [t] at hbb
            · rw [if_neg (by simp)] at hbb
              have HBB := Lib.hid hbb; clear hbb
              go_wp2
              go_returns
              rw [HBB.out]
              exact RetC2.nil br2
            · rw [if_pos rfl] at hbb
              have HBB := Lib.hid hbb; clear hbb
              have rd9 := RD8.out.later (sr1.trans (sr2.mono yr1))
              have RD9 := Lib.hid rd9; clear rd9
              go_wp2_with fail
              refine (HLI.out _ _ RD9.out).mono ?_
              rintro _ wr3 ⟨xr3, rfl, nr3, rr3⟩
              have sr3 := rr3
              have br3 := br2.trans (sr3.mono zr2)
              have zr3 := br3.size
              have yr3 := sr3.size
              have c0_0_r3 := below_cell sr3 c0_0_r2; clear c0_0_r2
              have c0_1_r3 := below_cell sr3 c0_1_r2; clear c0_1_r2
              have c1_0_r3 := below_cell sr3 c1_0_r2; clear c1_0_r2
              have c1_1_r3 := below_cell sr3 c1_1_r2; clear c1_1_r2
              have c2_0_r3 := below_cell sr3 c2_0_r2; clear c2_0_r2
              have c2_1_r3 := below_cell sr3 c2_1_r2; clear c2_1_r2
              clear rr3
              go_wp2
              go_returns
              rw [HBB.out]
              exact ⟨_, rfl, own_base nr3 zr2, br3⟩
      · have he : betI nm ps nm' qs zs = ([], 7) := by
          unfold betI
          rw [t1, t2]
          simp only [Bool.and_self, if_true]
          rw [if_neg (by simpa only [Bool.and_eq_true, decide_eq_true_eq] using t3)]
        rw [he]
        have HVZ := Lib.hid hvz; clear hvz
        have HOK := Lib.hid hok; clear hok
        obtain ⟨hn0, ao0, cap0, b0', off0, rfl, hao0, hcell0⟩ := hr.open
        obtain ⟨hn1, ao1, cap1, b1', off1, rfl, hao1, hcell1⟩ := hr'.open
        clear he hr hr' h hcell0 hcell1 hao0 hao1
        have t4 : ¬ ps.length = qs.length ∨ (ps.length = qs.length ∧ (nm.toList == nm'.toList) = false) := by
          by_cases e : ps.length = qs.length
          · refine Or.inr ⟨e, ?_⟩
            cases e2 : nm.toList == nm'.toList
            · rfl
            · exact absurd ⟨e2, e⟩ t3
          · exact Or.inl e
        generalize ps.length = n at *
        generalize qs.length = m at *
        rcases t4 with t4 | ⟨rfl, t4⟩
        · have t5 : ¬ (n : Int) = m := by omega
          clear t3
          go_enter Try.func39, Try.ntmps39
          have b0 : Below w.heap.size w w := Below.refl _ _
          have z0 : w.heap.size ≤ w.heap.size := Nat.le_refl _
          go_wp2_with fail
          refine (HVZ.out _ _ (by simp; try omega) (by simp [go_sem]) (by simp [go_sem]) (by go_grown)).mono ?_
          rintro _ w1 ⟨rfl, d1⟩
          have r1 := Dr.below d1; clear d1
          have s1 : Below w.heap.size w w1 := Below.trans (by go_grown) (r1.mono (by simp; try omega))
          have b1 := b0.trans (s1.mono z0)
          have z1 := b1.size
          have y1 := s1.size
          have c0_0_1 := below_cell r1 (p := ⟨w.heap.size, 0, none⟩) (v := .string nm) (by simp [go_sem])
          have c0_1_1 := below_cell r1 (p := ⟨w.heap.size, 1, none⟩) (v := .slice ao0 n cap0) (by simp [go_sem])
          have c1_0_1 := below_cell r1 (p := ⟨w.heap.size + 1, 0, none⟩) (v := .string nm') (by simp [go_sem])
          have c1_1_1 := below_cell r1 (p := ⟨w.heap.size + 1, 1, none⟩) (v := .slice ao1 m cap1) (by simp [go_sem])
          clear r1
          have zz2 := World.block_lt_of_cell? _ ⟨w.heap.size + 1, 0, none⟩ c1_0_1
          go_wp2_with fail
          refine (HOK.out _ _ (by simpa using zz2) c1_0_1 c1_1_1 b1).mono ?_
          rintro _ w2 ⟨rfl, d2⟩
          have r2 := Dr.below d2; clear d2
          have s2 := r2
          have b2 := b1.trans (s2.mono z1)
          have z2 := b2.size
          have y2 := s2.size
          have c0_0_2 := below_cell s2 c0_0_1; clear c0_0_1
          have c0_1_2 := below_cell s2 c0_1_1; clear c0_1_1
          have c1_0_2 := below_cell s2 c1_0_1; clear c1_0_1
          have c1_1_2 := below_cell s2 c1_1_1; clear c1_1_1
          clear r2
          go_wp2
          go_returns
          exact RetC2.nil b2
        · clear t3
          go_enter Try.func39, Try.ntmps39
          have b0 : Below w.heap.size w w := Below.refl _ _
          have z0 : w.heap.size ≤ w.heap.size := Nat.le_refl _
          go_wp2_with fail
          refine (HVZ.out _ _ (by simp; try omega) (by simp [go_sem]) (by simp [go_sem]) (by go_grown)).mono ?_
          rintro _ w1 ⟨rfl, d1⟩
          have r1 := Dr.below d1; clear d1
          have s1 : Below w.heap.size w w1 := Below.trans (by go_grown) (r1.mono (by simp; try omega))
          have b1 := b0.trans (s1.mono z0)
          have z1 := b1.size
          have y1 := s1.size
          have c0_0_1 := below_cell r1 (p := ⟨w.heap.size, 0, none⟩) (v := .string nm) (by simp [go_sem])
          have c0_1_1 := below_cell r1 (p := ⟨w.heap.size, 1, none⟩) (v := .slice ao0 n cap0) (by simp [go_sem])
          have c1_0_1 := below_cell r1 (p := ⟨w.heap.size + 1, 0, none⟩) (v := .string nm') (by simp [go_sem])
          have c1_1_1 := below_cell r1 (p := ⟨w.heap.size + 1, 1, none⟩) (v := .slice ao1 n cap1) (by simp [go_sem])
          clear r1
          have zz2 := World.block_lt_of_cell? _ ⟨w.heap.size + 1, 0, none⟩ c1_0_1
          go_wp2_with fail
          refine (HOK.out _ _ (by simpa using zz2) c1_0_1 c1_1_1 b1).mono ?_
          rintro _ w2 ⟨rfl, d2⟩
          have r2 := Dr.below d2; clear d2
          have s2 := r2
          have b2 := b1.trans (s2.mono z1)
          have z2 := b2.size
          have y2 := s2.size
          have c0_0_2 := below_cell s2 c0_0_1; clear c0_0_1
          have c0_1_2 := below_cell s2 c0_1_1; clear c0_1_1
          have c1_0_2 := below_cell s2 c1_0_1; clear c1_0_1
          have c1_1_2 := below_cell s2 c1_1_1; clear c1_1_1
          clear r2
          go_wp2
          go_returns
          exact RetC2.nil b2

end Go.Proofs.Ytddkjcdnomoglaa
