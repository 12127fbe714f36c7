/- Are two models the same? -/
import Derived.Test.YtjbbhfmojfdcaaaSS2
namespace Go.Proofs.Ytjbbhfmojfdcaaa
set_option linter.unusedVariables false
open Go.RowKit Go.Proofs.Bell Go.BigFrame

set_option maxHeartbeats 800000 in
theorem l00Same_c (v v' : Value) (ps qs : List Int) (w : World) (h : Rd w v ps.length (ints ps)) (h' : Rd w v' qs.length (ints qs)) :
    Calls Try.prog 57 #[v, v'] w (RetD (.bool (eqZs ps qs)) w) := by
  generalize hn : ps.length = n at h
  generalize hm : qs.length = m at h'
  have HN := Lib.hid hn; clear hn
  have HM := Lib.hid hm; clear hm
  obtain ⟨hn, ao, cap, b, off, rfl, hao, hcell⟩ := h.open
  obtain ⟨hn', ao', cap', b', off', rfl, hao', hcell'⟩ := h'.open
  clear h h'
  by_cases hlen : n = m
  · subst hlen
    go_enter Try.func57, Try.ntmps57
    go_wp2_with fail
    go_loopw [5] (fun i wr => ∃ (k : Nat), k ≤ n ∧ i = .int .i64 k ∧ ps.take k = qs.take k ∧ Dr w wr)
      (fun i _ => n - (intOf i).toNat)
    case atStart => exact ⟨0, Nat.zero_le _, rfl, rfl, Dr.refl _⟩
    case round =>
      obtain ⟨k, hk, rfl, hx, hd⟩ := hrel
      have hb := hd.below
      have HX := Lib.hid hx; clear hx
      by_cases hlt : k < n
      · have hltp : k < ps.length := by rw [HN.out]; exact hlt
        have hltq : k < qs.length := by rw [HM.out]; exact hlt
        have hix := ix (P := Try.prog) (T := 22) (cap := cap) Try.underlying22 cells_int64 has_int64 hao hlt k rfl
        have hix' := ix (P := Try.prog) (T := 22) (cap := cap') Try.underlying22 cells_int64 has_int64 hao' hlt k rfl
        rw [Nat.mul_one] at hix hix'
        have hc1 : wr.cell? ⟨b, off + k, none⟩ = some (.int .i64 ps[k]) := hcell _ hb _ _ (by omega) (intsAt hltp)
        have hd1 : wr.cell? ⟨b', off' + k, none⟩ = some (.int .i64 qs[k]) := hcell' _ hb _ _ (by omega) (intsAt hltq)
        have hp : ps.take k = qs.take k → ps[k] = qs[k] → ps.take (k + 1) = qs.take (k + 1) := fun h1 h2 => take_step h1 hltp hltq h2
        have hq : ps[k] ≠ qs[k] → eqZs ps qs = false := fun h => by
          refine decide_eq_false fun e => h ?_
          subst e; rfl
        have HP := Lib.hid hp; clear hp
        have HQ := Lib.hid hq; clear hq
        clear hcell hcell'
        generalize ps[k] = p at *
        generalize qs[k] = q at *
        go_wp2_with fail
        go_quiet (fail)
        clear hc1 hd1
        by_cases hpq : p = q
        · subst hpq
          go_wp2
          go_roundw
          case rel => exact ⟨k + 1, by omega, by go_num, HP.out HX.out rfl, (by first | exact Dr.refl _ | exact Dr.next (by assumption) _ | assumption | exact ⟨_, rfl⟩ | exact ⟨_, World.drewN_drewN _ _ _⟩)⟩
          case measure => simp [intOf]; omega
        · go_wp2
          go_returns
          exact RetD.mk (bool_eq (HQ.out hpq).symm) (by first | exact Dr.refl _ | exact Dr.next (by assumption) _ | assumption | exact ⟨_, rfl⟩ | exact ⟨_, World.drewN_drewN _ _ _⟩)
      · obtain rfl : k = n := by omega
        go_wp2
        go_returns
        refine RetD.mk (bool_eq ?_) (by first | exact Dr.refl _ | exact Dr.next (by assumption) _ | assumption | exact ⟨_, rfl⟩ | exact ⟨_, World.drewN_drewN _ _ _⟩)
        have e := HX.out
        rw [List.take_of_length_le (by rw [HN.out]; exact Nat.le_refl _), List.take_of_length_le (by rw [HM.out]; exact Nat.le_refl _)] at e
        exact (decide_eq_true e).symm
  · go_enter Try.func57, Try.ntmps57
    go_wp2
    go_returns
    refine RetD.mk (bool_eq (decide_eq_false ?_).symm) (Dr.refl _)
    rintro rfl
    exact hlen (HN.out.symm.trans HM.out)

set_option maxHeartbeats 800000 in
theorem Equal_c (v v' : Value) (ps qs : List Int) (w : World) (h : Rd w v ps.length (ints ps)) (h' : Rd w v' qs.length (ints qs)) :
    Calls Try.prog 59 #[v, v'] w (RetD (.bool (eqZs ps qs)) w) := by
  generalize hn : ps.length = n at h
  generalize hm : qs.length = m at h'
  have HN := Lib.hid hn; clear hn
  have HM := Lib.hid hm; clear hm
  obtain ⟨hn, ao, cap, b, off, rfl, hao, hcell⟩ := h.open
  obtain ⟨hn', ao', cap', b', off', rfl, hao', hcell'⟩ := h'.open
  clear h h'
  by_cases hlen : n = m
  · subst hlen
    go_enter Try.func59, Try.ntmps59
    go_wp2_with fail
    go_loopw [13] (fun i wr => ∃ (k : Nat), k ≤ n ∧ i = .int .i64 k ∧ ps.take k = qs.take k ∧ Dr w wr)
      (fun i _ => n - (intOf i).toNat)
    case atStart => exact ⟨0, Nat.zero_le _, rfl, rfl, Dr.refl _⟩
    case round =>
      obtain ⟨k, hk, rfl, hx, hd⟩ := hrel
      have hb := hd.below
      have HX := Lib.hid hx; clear hx
      by_cases hlt : k < n
      · have hltp : k < ps.length := by rw [HN.out]; exact hlt
        have hltq : k < qs.length := by rw [HM.out]; exact hlt
        have hix := ix (P := Try.prog) (T := 22) (cap := cap) Try.underlying22 cells_int64 has_int64 hao hlt k rfl
        have hix' := ix (P := Try.prog) (T := 22) (cap := cap') Try.underlying22 cells_int64 has_int64 hao' hlt k rfl
        rw [Nat.mul_one] at hix hix'
        have hc1 : wr.cell? ⟨b, off + k, none⟩ = some (.int .i64 ps[k]) := hcell _ hb _ _ (by omega) (intsAt hltp)
        have hd1 : wr.cell? ⟨b', off' + k, none⟩ = some (.int .i64 qs[k]) := hcell' _ hb _ _ (by omega) (intsAt hltq)
        have hp : ps.take k = qs.take k → ps[k] = qs[k] → ps.take (k + 1) = qs.take (k + 1) := fun h1 h2 => take_step h1 hltp hltq h2
        have hq : ps[k] ≠ qs[k] → eqZs ps qs = false := fun h => by
          refine decide_eq_false fun e => h ?_
          subst e; rfl
        have HP := Lib.hid hp; clear hp
        have HQ := Lib.hid hq; clear hq
        clear hcell hcell'
        generalize ps[k] = p at *
        generalize qs[k] = q at *
        go_wp2_with fail
        go_quiet (fail)
        clear hc1 hd1
        by_cases hpq : p = q
        · subst hpq
          go_wp2
          go_roundw
          case rel => exact ⟨k + 1, by omega, by go_num, HP.out HX.out rfl, (by first | exact Dr.refl _ | exact Dr.next (by assumption) _ | assumption | exact ⟨_, rfl⟩ | exact ⟨_, World.drewN_drewN _ _ _⟩)⟩
          case measure => simp [intOf]; omega
        · go_wp2
          go_returns
          exact RetD.mk (bool_eq (HQ.out hpq).symm) (by first | exact Dr.refl _ | exact Dr.next (by assumption) _ | assumption | exact ⟨_, rfl⟩ | exact ⟨_, World.drewN_drewN _ _ _⟩)
      · obtain rfl : k = n := by omega
        go_wp2
        go_returns
        refine RetD.mk (bool_eq ?_) (by first | exact Dr.refl _ | exact Dr.next (by assumption) _ | assumption | exact ⟨_, rfl⟩ | exact ⟨_, World.drewN_drewN _ _ _⟩)
        have e := HX.out
        rw [List.take_of_length_le (by rw [HN.out]; exact Nat.le_refl _), List.take_of_length_le (by rw [HM.out]; exact Nat.le_refl _)] at e
        exact (decide_eq_true e).symm
  · go_enter Try.func59, Try.ntmps59
    go_wp2
    go_returns
    refine RetD.mk (bool_eq (decide_eq_false ?_).symm) (Dr.refl _)
    rintro rfl
    exact hlen (HN.out.symm.trans HM.out)


set_option maxHeartbeats 1600000 in
theorem EqualFunc_c (v v' : Value) (ps qs : List (List Int)) (w : World) (h : RdSS w v ps) (h' : RdSS w v' qs) :
    Calls Try.prog 60 #[v, v', .func (.func 59) #[] #[]] w (RetB (.bool (eqWs ps qs)) w) := by
  have hcall := enters Try.func59 (by kernel_rfl) rfl
  obtain ⟨us, hus, hr, hrow⟩ := h
  obtain ⟨us', hus', hr', hrow'⟩ := h'
  generalize hn : ps.length = n at *
  generalize hm : qs.length = m at *
  have HN := Lib.hid hn; clear hn
  have HM := Lib.hid hm; clear hm
  obtain ⟨hn, ao, cap, b, off, rfl, hao, hcell⟩ := hr.open
  obtain ⟨hn', ao', cap', b', off', rfl, hao', hcell'⟩ := hr'.open
  clear hr hr'
  by_cases hlen : n = m
  · subst hlen
    have HROW := Lib.hid hrow; clear hrow
    have HROW' := Lib.hid hrow'; clear hrow'
    go_enter Try.func60, Try.ntmps60
    go_wp2_with fail
    go_loopw [17] (fun i wr => ∃ (k : Nat), k ≤ n ∧ i = .int .i64 k ∧ ps.take k = qs.take k ∧ Below w.heap.size w wr) (fun i _ => n - (intOf i).toNat)
    case atStart => exact ⟨0, Nat.zero_le _, rfl, rfl, Below.refl _ _⟩
    case round =>
      obtain ⟨k, hk, rfl, hx, hb⟩ := hrel
      have HX := Lib.hid hx; clear hx
      by_cases hlt : k < n
      · have hltp : k < ps.length := by rw [HN.out]; exact hlt
        have hltq : k < qs.length := by rw [HM.out]; exact hlt
        have hix := ix (P := Try.prog) (T := 23) (cap := cap) Try.underlying23 cells_SS has_SS hao hlt k rfl
        have hix' := ix (P := Try.prog) (T := 23) (cap := cap') Try.underlying23 cells_SS has_SS hao' hlt k rfl
        rw [Nat.mul_one] at hix hix'
        have hc1 : wr.cell? ⟨b, off + k, none⟩ = some (us.getD k nv) := hcell _ hb _ _ (by omega) (getDv (by omega))
        have hd1 : wr.cell? ⟨b', off' + k, none⟩ = some (us'.getD k nv) := hcell' _ hb _ _ (by omega) (getDv (by omega))
        have r1 := HROW.out k hlt
        have r2 := HROW'.out k hlt
        rw [getDw hltp] at r1
        rw [getDw hltq] at r2
        have he := Equal_c (us.getD k nv) (us'.getD k nv) ps[k] qs[k] wr (r1.later hb) (r2.later hb)
        have hp : eqZs ps[k] qs[k] = true → ps.take (k + 1) = qs.take (k + 1) := fun h2 => take_step HX.out hltp hltq (of_decide_eq_true h2)
        have hq : eqZs ps[k] qs[k] = false → eqWs ps qs = false := fun h => by
          refine decide_eq_false fun e => of_decide_eq_false h ?_
          subst e; rfl
        have HE := Lib.hid he; clear he
        have HP := Lib.hid hp; clear hp
        have HQ := Lib.hid hq; clear hq
        clear hcell hcell' r1 r2
        generalize ps[k] = p at *
        generalize qs[k] = q at *
        generalize us.getD k nv = u at *
        generalize us'.getD k nv = u' at *
        go_wp2_with fail
        refine HE.out.mono ?_
        rintro _ w1 ⟨rfl, hd⟩
        have hb2 := hb.trans ((Dr.below hd).mono hb.size)
        cases t1 : eqZs p q
        · go_wp2
          go_returns
          exact RetB.mk (bool_eq (HQ.out t1).symm) hb2
        · go_wp2
          go_roundw
          case rel => exact ⟨k + 1, by omega, by go_num, HP.out t1, hb2⟩
          case measure => simp [intOf]; omega
      · obtain rfl : k = n := by omega
        go_wp2
        go_returns
        refine RetB.mk (bool_eq ?_) hb
        have e := HX.out
        rw [List.take_of_length_le (by rw [HN.out]; exact Nat.le_refl _), List.take_of_length_le (by rw [HM.out]; exact Nat.le_refl _)] at e
        exact (decide_eq_true e).symm
  · clear hrow hrow'
    go_enter Try.func60, Try.ntmps60
    go_wp2
    go_returns
    refine RetB.mk (bool_eq (decide_eq_false ?_).symm) (Below.refl _ _)
    rintro rfl
    exact hlen (HN.out.symm.trans HM.out)

def sameMB (zs : List Int) (ws : List (List Int)) (bs zs' : List Int) (ws' : List (List Int)) (bs' : List Int) : Bool := eqZs zs zs' && eqWs ws ws' && eqZs bs bs'

set_option maxHeartbeats 1600000 in
theorem implSameModel_c (zv wv bv zv' wv' bv' : Value) (zs : List Int) (ws : List (List Int)) (bs zs' : List Int) (ws' : List (List Int)) (bs' : List Int) (w : World) (hz : Rd w zv zs.length (ints zs)) (hw : RdSS w wv ws) (hb : Rd w bv bs.length (ints bs))
    (hz' : Rd w zv' zs'.length (ints zs')) (hw' : RdSS w wv' ws') (hb' : Rd w bv' bs'.length (ints bs')) :
    Calls Try.prog 18 #[.agg #[zv, wv, bv], .agg #[zv', wv', bv']] w (RetB (.bool (sameMB zs ws bs zs' ws' bs')) w) := by
  have ez := fun w' (h : Below w.heap.size w w') => Equal_c zv zv' zs zs' w' (hz.later h) (hz'.later h)
  have ew := fun w' (h : Below w.heap.size w w') => EqualFunc_c wv wv' ws ws' w' (hw.later h) (hw'.later h)
  have eb := fun w' (h : Below w.heap.size w w') => Equal_c bv bv' bs bs' w' (hb.later h) (hb'.later h)
  clear hz hw hb hz' hw' hb'
  unfold sameMB
  generalize eqZs zs zs' = A at *
  generalize eqWs ws ws' = B at *
  generalize eqZs bs bs' = C at *
  have EZ := Lib.hid ez; clear ez
  have EW := Lib.hid ew; clear ew
  have EB := Lib.hid eb; clear eb
  cases A
  · go_enter Try.func18, Try.ntmps18
    have b0 : Below w.heap.size w w := Below.refl _ _
    have z0 : w.heap.size ≤ w.heap.size := Nat.le_refl _
    go_wp2_with fail
    refine (EZ.out _ (by go_grown)).mono ?_
    rintro _ w1 ⟨rfl, d1⟩
    have r1 := Dr.below d1; clear d1
    have s1 : Below w.heap.size w w1 := Below.trans (by go_grown) (r1.mono (by simp; try omega))
    have b1 := b0.trans (s1.mono z0)
    have z1 := b1.size
    have y1 := s1.size
    have c0_0_1 := below_cell r1 (p := ⟨w.heap.size, 0, none⟩) (v := zv) (by simp [go_sem])
    have c0_1_1 := below_cell r1 (p := ⟨w.heap.size, 1, none⟩) (v := wv) (by simp [go_sem])
    have c0_2_1 := below_cell r1 (p := ⟨w.heap.size, 2, none⟩) (v := bv) (by simp [go_sem])
    have c1_0_1 := below_cell r1 (p := ⟨w.heap.size + 1, 0, none⟩) (v := zv') (by simp [go_sem])
    have c1_1_1 := below_cell r1 (p := ⟨w.heap.size + 1, 1, none⟩) (v := wv') (by simp [go_sem])
    have c1_2_1 := below_cell r1 (p := ⟨w.heap.size + 1, 2, none⟩) (v := bv') (by simp [go_sem])
    clear r1
    go_wp2
    go_returns
    exact RetB.mk (rfl) b1
  · cases B
    · go_enter Try.func18, Try.ntmps18
      have b0 : Below w.heap.size w w := Below.refl _ _
      have z0 : w.heap.size ≤ w.heap.size := Nat.le_refl _
      go_wp2_with fail
      refine (EZ.out _ (by go_grown)).mono ?_
      rintro _ w1 ⟨rfl, d1⟩
      have r1 := Dr.below d1; clear d1
      have s1 : Below w.heap.size w w1 := Below.trans (by go_grown) (r1.mono (by simp; try omega))
      have b1 := b0.trans (s1.mono z0)
      have z1 := b1.size
      have y1 := s1.size
      have c0_0_1 := below_cell r1 (p := ⟨w.heap.size, 0, none⟩) (v := zv) (by simp [go_sem])
      have c0_1_1 := below_cell r1 (p := ⟨w.heap.size, 1, none⟩) (v := wv) (by simp [go_sem])
      have c0_2_1 := below_cell r1 (p := ⟨w.heap.size, 2, none⟩) (v := bv) (by simp [go_sem])
      have c1_0_1 := below_cell r1 (p := ⟨w.heap.size + 1, 0, none⟩) (v := zv') (by simp [go_sem])
      have c1_1_1 := below_cell r1 (p := ⟨w.heap.size + 1, 1, none⟩) (v := wv') (by simp [go_sem])
      have c1_2_1 := below_cell r1 (p := ⟨w.heap.size + 1, 2, none⟩) (v := bv') (by simp [go_sem])
      clear r1
      go_wp2_with fail
      refine (EW.out _ b1).mono ?_
      rintro _ w2 ⟨rfl, r2⟩
      have s2 := r2
      have b2 := b1.trans (s2.mono z1)
      have z2 := b2.size
      have y2 := s2.size
      have c0_0_2 := below_cell s2 c0_0_1; clear c0_0_1
      have c0_1_2 := below_cell s2 c0_1_1; clear c0_1_1
      have c0_2_2 := below_cell s2 c0_2_1; clear c0_2_1
      have c1_0_2 := below_cell s2 c1_0_1; clear c1_0_1
      have c1_1_2 := below_cell s2 c1_1_1; clear c1_1_1
      have c1_2_2 := below_cell s2 c1_2_1; clear c1_2_1
      clear r2
      go_wp2
      go_returns
      exact RetB.mk (rfl) b2
    · go_enter Try.func18, Try.ntmps18
      have b0 : Below w.heap.size w w := Below.refl _ _
      have z0 : w.heap.size ≤ w.heap.size := Nat.le_refl _
      go_wp2_with fail
      refine (EZ.out _ (by go_grown)).mono ?_
      rintro _ w1 ⟨rfl, d1⟩
      have r1 := Dr.below d1; clear d1
      have s1 : Below w.heap.size w w1 := Below.trans (by go_grown) (r1.mono (by simp; try omega))
      have b1 := b0.trans (s1.mono z0)
      have z1 := b1.size
      have y1 := s1.size
      have c0_0_1 := below_cell r1 (p := ⟨w.heap.size, 0, none⟩) (v := zv) (by simp [go_sem])
      have c0_1_1 := below_cell r1 (p := ⟨w.heap.size, 1, none⟩) (v := wv) (by simp [go_sem])
      have c0_2_1 := below_cell r1 (p := ⟨w.heap.size, 2, none⟩) (v := bv) (by simp [go_sem])
      have c1_0_1 := below_cell r1 (p := ⟨w.heap.size + 1, 0, none⟩) (v := zv') (by simp [go_sem])
      have c1_1_1 := below_cell r1 (p := ⟨w.heap.size + 1, 1, none⟩) (v := wv') (by simp [go_sem])
      have c1_2_1 := below_cell r1 (p := ⟨w.heap.size + 1, 2, none⟩) (v := bv') (by simp [go_sem])
      clear r1
      go_wp2_with fail
      refine (EW.out _ b1).mono ?_
      rintro _ w2 ⟨rfl, r2⟩
      have s2 := r2
      have b2 := b1.trans (s2.mono z1)
      have z2 := b2.size
      have y2 := s2.size
      have c0_0_2 := below_cell s2 c0_0_1; clear c0_0_1
      have c0_1_2 := below_cell s2 c0_1_1; clear c0_1_1
      have c0_2_2 := below_cell s2 c0_2_1; clear c0_2_1
      have c1_0_2 := below_cell s2 c1_0_1; clear c1_0_1
      have c1_1_2 := below_cell s2 c1_1_1; clear c1_1_1
      have c1_2_2 := below_cell s2 c1_2_1; clear c1_2_1
      clear r2
      go_wp2_with fail
      refine (EB.out _ b2).mono ?_
      rintro _ w3 ⟨rfl, d3⟩
      have r3 := Dr.below d3; clear d3
      have s3 := r3
      have b3 := b2.trans (s3.mono z2)
      have z3 := b3.size
      have y3 := s3.size
      have c0_0_3 := below_cell s3 c0_0_2; clear c0_0_2
      have c0_1_3 := below_cell s3 c0_1_2; clear c0_1_2
      have c0_2_3 := below_cell s3 c0_2_2; clear c0_2_2
      have c1_0_3 := below_cell s3 c1_0_2; clear c1_0_2
      have c1_1_3 := below_cell s3 c1_1_2; clear c1_1_2
      have c1_2_3 := below_cell s3 c1_2_2; clear c1_2_2
      clear r3
      go_wp2
      go_returns
      exact RetB.mk (rfl) b3

set_option maxHeartbeats 3200000 in
theorem specSameModel_c (zv wv bv zv' wv' bv' : Value) (zs : List Int) (ws : List (List Int)) (bs zs' : List Int) (ws' : List (List Int)) (bs' : List Int) (w : World) (hz : Rd w zv zs.length (ints zs)) (hw : RdSS w wv ws) (hb : Rd w bv bs.length (ints bs))
    (hz' : Rd w zv' zs'.length (ints zs')) (hw' : RdSS w wv' ws') (hb' : Rd w bv' bs'.length (ints bs')) :
    Calls Try.prog 16 #[.agg #[zv, wv, bv], .agg #[zv', wv', bv']] w (RetB (.bool (sameMB zs ws bs zs' ws' bs')) w) := by
  have ez := fun w' (h : Below w.heap.size w w') => l00Same_c zv zv' zs zs' w' (hz.later h) (hz'.later h)
  have eb := fun w' (h : Below w.heap.size w w') => l00Same_c bv bv' bs bs' w' (hb.later h) (hb'.later h)
  clear hz hb hz' hb'
  unfold sameMB
  generalize eqZs zs zs' = A at *
  generalize eqZs bs bs' = C at *
  have EZ := Lib.hid ez; clear ez
  have EB := Lib.hid eb; clear eb
  obtain ⟨us, hus, hr, hrow⟩ := hw
  obtain ⟨us', hus', hr', hrow'⟩ := hw'
  generalize hn : ws.length = n at *
  generalize hm : ws'.length = m at *
  have HN := Lib.hid hn; clear hn
  have HM := Lib.hid hm; clear hm
  obtain ⟨hn, ao, cap, bb, off, rfl, hao, hcell⟩ := hr.open
  obtain ⟨hn', ao', cap', bb', off', rfl, hao', hcell'⟩ := hr'.open
  clear hr hr'
  have HROW := Lib.hid hrow; clear hrow
  have HROW' := Lib.hid hrow'; clear hrow'
  cases A
  · go_enter Try.func16, Try.ntmps16
    have b0 : Below w.heap.size w w := Below.refl _ _
    have z0 : w.heap.size ≤ w.heap.size := Nat.le_refl _
    go_wp2_with fail
    refine (EZ.out _ (by go_grown)).mono ?_
    rintro _ w1 ⟨rfl, d1⟩
    have r1 := Dr.below d1; clear d1
    have s1 : Below w.heap.size w w1 := Below.trans (by go_grown) (r1.mono (by simp; try omega))
    have b1 := b0.trans (s1.mono z0)
    have z1 := b1.size
    have y1 := s1.size
    have c0_0_1 := below_cell r1 (p := ⟨w.heap.size, 0, none⟩) (v := zv) (by simp [go_sem])
    have c0_1_1 := below_cell r1 (p := ⟨w.heap.size, 1, none⟩) (v := .slice ao n cap) (by simp [go_sem])
    have c0_2_1 := below_cell r1 (p := ⟨w.heap.size, 2, none⟩) (v := bv) (by simp [go_sem])
    have c1_0_1 := below_cell r1 (p := ⟨w.heap.size + 1, 0, none⟩) (v := zv') (by simp [go_sem])
    have c1_1_1 := below_cell r1 (p := ⟨w.heap.size + 1, 1, none⟩) (v := .slice ao' m cap') (by simp [go_sem])
    have c1_2_1 := below_cell r1 (p := ⟨w.heap.size + 1, 2, none⟩) (v := bv') (by simp [go_sem])
    clear r1
    go_wp2
    go_returns
    exact RetB.mk (rfl) b1
  · cases C
    · go_enter Try.func16, Try.ntmps16
      have b0 : Below w.heap.size w w := Below.refl _ _
      have z0 : w.heap.size ≤ w.heap.size := Nat.le_refl _
      go_wp2_with fail
      refine (EZ.out _ (by go_grown)).mono ?_
      rintro _ w1 ⟨rfl, d1⟩
      have r1 := Dr.below d1; clear d1
      have s1 : Below w.heap.size w w1 := Below.trans (by go_grown) (r1.mono (by simp; try omega))
      have b1 := b0.trans (s1.mono z0)
      have z1 := b1.size
      have y1 := s1.size
      have c0_0_1 := below_cell r1 (p := ⟨w.heap.size, 0, none⟩) (v := zv) (by simp [go_sem])
      have c0_1_1 := below_cell r1 (p := ⟨w.heap.size, 1, none⟩) (v := .slice ao n cap) (by simp [go_sem])
      have c0_2_1 := below_cell r1 (p := ⟨w.heap.size, 2, none⟩) (v := bv) (by simp [go_sem])
      have c1_0_1 := below_cell r1 (p := ⟨w.heap.size + 1, 0, none⟩) (v := zv') (by simp [go_sem])
      have c1_1_1 := below_cell r1 (p := ⟨w.heap.size + 1, 1, none⟩) (v := .slice ao' m cap') (by simp [go_sem])
      have c1_2_1 := below_cell r1 (p := ⟨w.heap.size + 1, 2, none⟩) (v := bv') (by simp [go_sem])
      clear r1
      go_wp2_with fail
      refine (EB.out _ b1).mono ?_
      rintro _ w2 ⟨rfl, d2⟩
      have r2 := Dr.below d2; clear d2
      have s2 := r2
      have b2 := b1.trans (s2.mono z1)
      have z2 := b2.size
      have y2 := s2.size
      have c0_0_2 := below_cell s2 c0_0_1; clear c0_0_1
      have c0_1_2 := below_cell s2 c0_1_1; clear c0_1_1
      have c0_2_2 := below_cell s2 c0_2_1; clear c0_2_1
      have c1_0_2 := below_cell s2 c1_0_1; clear c1_0_1
      have c1_1_2 := below_cell s2 c1_1_1; clear c1_1_1
      have c1_2_2 := below_cell s2 c1_2_1; clear c1_2_1
      clear r2
      go_wp2
      go_returns
      exact RetB.mk (bool_eq (by simp)) b2
    · by_cases hlen : n = m
      · subst hlen
        go_enter Try.func16, Try.ntmps16
        have b0 : Below w.heap.size w w := Below.refl _ _
        have z0 : w.heap.size ≤ w.heap.size := Nat.le_refl _
        go_wp2_with fail
        refine (EZ.out _ (by go_grown)).mono ?_
        rintro _ w1 ⟨rfl, d1⟩
        have r1 := Dr.below d1; clear d1
        have s1 : Below w.heap.size w w1 := Below.trans (by go_grown) (r1.mono (by simp; try omega))
        have b1 := b0.trans (s1.mono z0)
        have z1 := b1.size
        have y1 := s1.size
        have c0_0_1 := below_cell r1 (p := ⟨w.heap.size, 0, none⟩) (v := zv) (by simp [go_sem])
        have c0_1_1 := below_cell r1 (p := ⟨w.heap.size, 1, none⟩) (v := .slice ao n cap) (by simp [go_sem])
        have c0_2_1 := below_cell r1 (p := ⟨w.heap.size, 2, none⟩) (v := bv) (by simp [go_sem])
        have c1_0_1 := below_cell r1 (p := ⟨w.heap.size + 1, 0, none⟩) (v := zv') (by simp [go_sem])
        have c1_1_1 := below_cell r1 (p := ⟨w.heap.size + 1, 1, none⟩) (v := .slice ao' n cap') (by simp [go_sem])
        have c1_2_1 := below_cell r1 (p := ⟨w.heap.size + 1, 2, none⟩) (v := bv') (by simp [go_sem])
        clear r1
        go_wp2_with fail
        refine (EB.out _ b1).mono ?_
        rintro _ w2 ⟨rfl, d2⟩
        have r2 := Dr.below d2; clear d2
        have s2 := r2
        have b2 := b1.trans (s2.mono z1)
        have z2 := b2.size
        have y2 := s2.size
        have c0_0_2 := below_cell s2 c0_0_1; clear c0_0_1
        have c0_1_2 := below_cell s2 c0_1_1; clear c0_1_1
        have c0_2_2 := below_cell s2 c0_2_1; clear c0_2_1
        have c1_0_2 := below_cell s2 c1_0_1; clear c1_0_1
        have c1_1_2 := below_cell s2 c1_1_1; clear c1_1_1
        have c1_2_2 := below_cell s2 c1_2_1; clear c1_2_1
        clear r2
        go_wp2_with fail
        go_loopw [5] (fun i wr => ∃ (k : Nat), k ≤ n ∧ i = .int .i64 k ∧ ws.take k = ws'.take k ∧ Below w.heap.size w wr ∧ wr.cell? ⟨w.heap.size, 0, none⟩ = some (zv) ∧ wr.cell? ⟨w.heap.size, 1, none⟩ = some (.slice ao n cap) ∧ wr.cell? ⟨w.heap.size, 2, none⟩ = some (bv) ∧ wr.cell? ⟨w.heap.size + 1, 0, none⟩ = some (zv') ∧ wr.cell? ⟨w.heap.size + 1, 1, none⟩ = some (.slice ao' n cap') ∧ wr.cell? ⟨w.heap.size + 1, 2, none⟩ = some (bv')) (fun i _ => n - (intOf i).toNat)
        case atStart => exact ⟨0, Nat.zero_le _, rfl, rfl, b2, c0_0_2, c0_1_2, c0_2_2, c1_0_2, c1_1_2, c1_2_2⟩
        case round =>
          obtain ⟨k, hk, rfl, hx, br0, c0_0_r0, c0_1_r0, c0_2_r0, c1_0_r0, c1_1_r0, c1_2_r0⟩ := hrel
          have zr0 := br0.size
          have HX := Lib.hid hx; clear hx
          by_cases hlt : k < n
          · have hltp : k < ws.length := by rw [HN.out]; exact hlt
            have hltq : k < ws'.length := by rw [HM.out]; exact hlt
            have hix := ix (P := Try.prog) (T := 23) (cap := cap) Try.underlying23 cells_SS has_SS hao hlt k rfl
            have hix' := ix (P := Try.prog) (T := 23) (cap := cap') Try.underlying23 cells_SS has_SS hao' hlt k rfl
            rw [Nat.mul_one] at hix hix'
            have hc1 : wr.cell? ⟨bb, off + k, none⟩ = some (us.getD k nv) := hcell _ br0 _ _ (by omega) (getDv (by omega))
            have hd1 : wr.cell? ⟨bb', off' + k, none⟩ = some (us'.getD k nv) := hcell' _ br0 _ _ (by omega) (getDv (by omega))
            have r1 := HROW.out k hlt
            have r2 := HROW'.out k hlt
            rw [getDw hltp] at r1
            rw [getDw hltq] at r2
            have he := fun w' (hd' : Dr wr w') => l00Same_c (us.getD k nv) (us'.getD k nv) ws[k] ws'[k] w' ((r1.later br0).later hd'.below) ((r2.later br0).later hd'.below)
            have hp : eqZs ws[k] ws'[k] = true → ws.take (k + 1) = ws'.take (k + 1) := fun h2 => take_step HX.out hltp hltq (of_decide_eq_true h2)
            have hq : eqZs ws[k] ws'[k] = false → eqWs ws ws' = false := fun h => by
              refine decide_eq_false fun e => of_decide_eq_false h ?_
              subst e; rfl
            have HE := Lib.hid he; clear he
            have HP := Lib.hid hp; clear hp
            have HQ := Lib.hid hq; clear hq
            clear hcell hcell' r1 r2
            generalize ws[k] = p at *
            generalize ws'[k] = q at *
            generalize us.getD k nv = u at *
            generalize us'.getD k nv = u' at *
            cases t1 : eqZs p q <;> rw [t1] at HE
            · go_wp2_with fail
              go_quiet ((go_at_call 57; exact quietD (HE.out _ ⟨_, rfl⟩)))
              clear hc1 hd1
              go_wp2
              go_returns
              exact RetB.mk (bool_eq (by rw [HQ.out t1]; rfl)) (below_drewN br0 _)
            · go_wp2_with fail
              go_quiet ((go_at_call 57; exact quietD (HE.out _ ⟨_, rfl⟩)))
              clear hc1 hd1
              go_wp2
              go_roundw
              case rel => exact ⟨k + 1, by omega, by go_num, HP.out t1, (by first | exact br0 | exact below_drewN br0 _ | go_grown), (by first | exact c0_0_r0 | exact alloc_cell _ c0_0_r0 | exact below_cell (below_drewN (Below.refl _ _) _) c0_0_r0 | simp [go_sem, c0_0_r0]), (by first | exact c0_1_r0 | exact alloc_cell _ c0_1_r0 | exact below_cell (below_drewN (Below.refl _ _) _) c0_1_r0 | simp [go_sem, c0_1_r0]), (by first | exact c0_2_r0 | exact alloc_cell _ c0_2_r0 | exact below_cell (below_drewN (Below.refl _ _) _) c0_2_r0 | simp [go_sem, c0_2_r0]), (by first | exact c1_0_r0 | exact alloc_cell _ c1_0_r0 | exact below_cell (below_drewN (Below.refl _ _) _) c1_0_r0 | simp [go_sem, c1_0_r0]), (by first | exact c1_1_r0 | exact alloc_cell _ c1_1_r0 | exact below_cell (below_drewN (Below.refl _ _) _) c1_1_r0 | simp [go_sem, c1_1_r0]), (by first | exact c1_2_r0 | exact alloc_cell _ c1_2_r0 | exact below_cell (below_drewN (Below.refl _ _) _) c1_2_r0 | simp [go_sem, c1_2_r0])⟩
              case measure => simp [intOf]; omega
          · obtain rfl : k = n := by omega
            go_wp2
            go_returns
            refine RetB.mk (bool_eq ?_) br0
            have e := HX.out
            rw [List.take_of_length_le (by rw [HN.out]; exact Nat.le_refl _), List.take_of_length_le (by rw [HM.out]; exact Nat.le_refl _)] at e
            subst e
            rw [eqWs_refl]; rfl
      · have hne : eqWs ws ws' = false := decide_eq_false (by rintro rfl; exact hlen (HN.out.symm.trans HM.out))
        have HNE := Lib.hid hne; clear hne
        clear hcell hcell'
        go_enter Try.func16, Try.ntmps16
        have b0 : Below w.heap.size w w := Below.refl _ _
        have z0 : w.heap.size ≤ w.heap.size := Nat.le_refl _
        go_wp2_with fail
        refine (EZ.out _ (by go_grown)).mono ?_
        rintro _ w1 ⟨rfl, d1⟩
        have r1 := Dr.below d1; clear d1
        have s1 : Below w.heap.size w w1 := Below.trans (by go_grown) (r1.mono (by simp; try omega))
        have b1 := b0.trans (s1.mono z0)
        have z1 := b1.size
        have y1 := s1.size
        have c0_0_1 := below_cell r1 (p := ⟨w.heap.size, 0, none⟩) (v := zv) (by simp [go_sem])
        have c0_1_1 := below_cell r1 (p := ⟨w.heap.size, 1, none⟩) (v := .slice ao n cap) (by simp [go_sem])
        have c0_2_1 := below_cell r1 (p := ⟨w.heap.size, 2, none⟩) (v := bv) (by simp [go_sem])
        have c1_0_1 := below_cell r1 (p := ⟨w.heap.size + 1, 0, none⟩) (v := zv') (by simp [go_sem])
        have c1_1_1 := below_cell r1 (p := ⟨w.heap.size + 1, 1, none⟩) (v := .slice ao' m cap') (by simp [go_sem])
        have c1_2_1 := below_cell r1 (p := ⟨w.heap.size + 1, 2, none⟩) (v := bv') (by simp [go_sem])
        clear r1
        go_wp2_with fail
        refine (EB.out _ b1).mono ?_
        rintro _ w2 ⟨rfl, d2⟩
        have r2 := Dr.below d2; clear d2
        have s2 := r2
        have b2 := b1.trans (s2.mono z1)
        have z2 := b2.size
        have y2 := s2.size
        have c0_0_2 := below_cell s2 c0_0_1; clear c0_0_1
        have c0_1_2 := below_cell s2 c0_1_1; clear c0_1_1
        have c0_2_2 := below_cell s2 c0_2_1; clear c0_2_1
        have c1_0_2 := below_cell s2 c1_0_1; clear c1_0_1
        have c1_1_2 := below_cell s2 c1_1_1; clear c1_1_1
        have c1_2_2 := below_cell s2 c1_2_1; clear c1_2_1
        clear r2
        go_wp2
        go_returns
        exact RetB.mk (bool_eq (by rw [HNE.out]; rfl)) b2

end Go.Proofs.Ytjbbhfmojfdcaaa
