/- Several texts of the proofs in one: Same, Vm, Vm2. -/
import Derived.Test.YtgdadbmhdljcdaaGreatDoorGF
import Derived.Test.YtgdadbmhdljcdaaGreatDoorGG
import Derived.Test.YtgdadbmhdljcdaaGreatDoorVE
/- Are two models the same? -/
namespace Go.Proofs.YtgdadbmhdljcdaaGreatDoor
set_option linter.unusedVariables false
open Go.RowKit Go.Proofs.Bell Go.BigFrame

set_option maxHeartbeats 800000 in
theorem Equal_c (v v' : Value) (ps qs : List Int) (w : World) (h : Rd w v ps.length (ints ps)) (h' : Rd w v' qs.length (ints qs)) :
    Calls Tryz.prog 88 #[v, v'] w (RetD (.bool (eqZs ps qs)) w) := by
  generalize hn : ps.length = n at h
  generalize hm : qs.length = m at h'
  have HN := Lib.hid hn; clear hn
  have HM := Lib.hid hm; clear hm
  obtain ⟨hn, ao, cap, b, off, rfl, hao, hcell⟩ := h.open
  obtain ⟨hn', ao', cap', b', off', rfl, hao', hcell'⟩ := h'.open
  clear h h'
  by_cases hlen : n = m
  · subst hlen
    go_enter Tryz.func88, Tryz.ntmps88
    go_wp2_with fail
    go_loopw [13] (fun i wr => ∃ (k : Nat), k ≤ n ∧ i = .int .i64 k ∧ ps.take k = qs.take k ∧ Dr w wr)
      (fun i _ => n - (intOf i).toNat)
    case atStart => exact ⟨0, Nat.zero_le _, rfl, rfl, Dr.refl _⟩
    case round =>
      obtain ⟨k, hk, rfl, hx, hd⟩ := hrel
      have hb := hd.below
      have HX := Lib.hid hx; clear hx
      by_cases hlt : k < n
      · have hltp : k < ps.length := by rw [HN.out]; exact hlt
        have hltq : k < qs.length := by rw [HM.out]; exact hlt
        have hix := ix (P := Tryz.prog) (T := 42) (cap := cap) Tryz.underlying42 cells_int64 has_int64 hao hlt k rfl
        have hix' := ix (P := Tryz.prog) (T := 42) (cap := cap') Tryz.underlying42 cells_int64 has_int64 hao' hlt k rfl
        rw [Nat.mul_one] at hix hix'
        have hc1 : wr.cell? ⟨b, off + k, none⟩ = some (.int .i64 ps[k]) := hcell _ hb _ _ (by omega) (intsAt hltp)
        have hd1 : wr.cell? ⟨b', off' + k, none⟩ = some (.int .i64 qs[k]) := hcell' _ hb _ _ (by omega) (intsAt hltq)
        have hp : ps.take k = qs.take k → ps[k] = qs[k] → ps.take (k + 1) = qs.take (k + 1) := fun h1 h2 => take_step h1 hltp hltq h2
        have hq : ps[k] ≠ qs[k] → eqZs ps qs = false := fun h => by
          refine decide_eq_false fun e => h ?_
          subst e; rfl
        have HP := Lib.hid hp; clear hp
        have HQ := Lib.hid hq; clear hq
        clear hcell hcell'
        generalize ps[k] = p at *
        generalize qs[k] = q at *
        go_wp2_with fail
        go_quiet (fail)
        clear hc1 hd1
        by_cases hpq : p = q
        · subst hpq
          go_wp2
          go_roundw
          case rel => exact ⟨k + 1, by omega, by go_num, HP.out HX.out rfl, (by first | exact Dr.refl _ | exact Dr.next (by assumption) _ | assumption | exact ⟨_, rfl⟩ | exact ⟨_, World.drewN_drewN _ _ _⟩)⟩
          case measure => simp [intOf]; omega
        · go_wp2
          go_returns
          exact RetD.mk (bool_eq (HQ.out hpq).symm) (by first | exact Dr.refl _ | exact Dr.next (by assumption) _ | assumption | exact ⟨_, rfl⟩ | exact ⟨_, World.drewN_drewN _ _ _⟩)
      · obtain rfl : k = n := by omega
        go_wp2
        go_returns
        refine RetD.mk (bool_eq ?_) (by first | exact Dr.refl _ | exact Dr.next (by assumption) _ | assumption | exact ⟨_, rfl⟩ | exact ⟨_, World.drewN_drewN _ _ _⟩)
        have e := HX.out
        rw [List.take_of_length_le (by rw [HN.out]; exact Nat.le_refl _), List.take_of_length_le (by rw [HM.out]; exact Nat.le_refl _)] at e
        exact (decide_eq_true e).symm
  · go_enter Tryz.func88, Tryz.ntmps88
    go_wp2
    go_returns
    refine RetD.mk (bool_eq (decide_eq_false ?_).symm) (Dr.refl _)
    rintro rfl
    exact hlen (HN.out.symm.trans HM.out)


set_option maxHeartbeats 1600000 in
theorem EqualFunc_c (v v' : Value) (ps qs : List (List Int)) (w : World) (h : RdSS w v ps) (h' : RdSS w v' qs) :
    Calls Tryz.prog 89 #[v, v', .func (.func 88) #[] #[]] w (RetB (.bool (eqWs ps qs)) w) := by
  have hcall := enters Tryz.func88 (by kernel_rfl) rfl
  obtain ⟨us, hus, hr, hrow⟩ := h
  obtain ⟨us', hus', hr', hrow'⟩ := h'
  generalize hn : ps.length = n at *
  generalize hm : qs.length = m at *
  have HN := Lib.hid hn; clear hn
  have HM := Lib.hid hm; clear hm
  obtain ⟨hn, ao, cap, b, off, rfl, hao, hcell⟩ := hr.open
  obtain ⟨hn', ao', cap', b', off', rfl, hao', hcell'⟩ := hr'.open
  clear hr hr'
  by_cases hlen : n = m
  · subst hlen
    have HROW := Lib.hid hrow; clear hrow
    have HROW' := Lib.hid hrow'; clear hrow'
    go_enter Tryz.func89, Tryz.ntmps89
    go_wp2_with fail
    go_loopw [17] (fun i wr => ∃ (k : Nat), k ≤ n ∧ i = .int .i64 k ∧ ps.take k = qs.take k ∧ Below w.heap.size w wr) (fun i _ => n - (intOf i).toNat)
    case atStart => exact ⟨0, Nat.zero_le _, rfl, rfl, Below.refl _ _⟩
    case round =>
      obtain ⟨k, hk, rfl, hx, hb⟩ := hrel
      have HX := Lib.hid hx; clear hx
      by_cases hlt : k < n
      · have hltp : k < ps.length := by rw [HN.out]; exact hlt
        have hltq : k < qs.length := by rw [HM.out]; exact hlt
        have hix := ix (P := Tryz.prog) (T := 43) (cap := cap) Tryz.underlying43 cells_SS has_SS hao hlt k rfl
        have hix' := ix (P := Tryz.prog) (T := 43) (cap := cap') Tryz.underlying43 cells_SS has_SS hao' hlt k rfl
        rw [Nat.mul_one] at hix hix'
        have hc1 : wr.cell? ⟨b, off + k, none⟩ = some (us.getD k nv) := hcell _ hb _ _ (by omega) (getDv (by omega))
        have hd1 : wr.cell? ⟨b', off' + k, none⟩ = some (us'.getD k nv) := hcell' _ hb _ _ (by omega) (getDv (by omega))
        have r1 := HROW.out k hlt
        have r2 := HROW'.out k hlt
        rw [getDw hltp] at r1
        rw [getDw hltq] at r2
        have he := Equal_c (us.getD k nv) (us'.getD k nv) ps[k] qs[k] wr (r1.later hb) (r2.later hb)
        have hp : eqZs ps[k] qs[k] = true → ps.take (k + 1) = qs.take (k + 1) := fun h2 => take_step HX.out hltp hltq (of_decide_eq_true h2)
        have hq : eqZs ps[k] qs[k] = false → eqWs ps qs = false := fun h => by
          refine decide_eq_false fun e => of_decide_eq_false h ?_
          subst e; rfl
        have HE := Lib.hid he; clear he
        have HP := Lib.hid hp; clear hp
        have HQ := Lib.hid hq; clear hq
        clear hcell hcell' r1 r2
        generalize ps[k] = p at *
        generalize qs[k] = q at *
        generalize us.getD k nv = u at *
        generalize us'.getD k nv = u' at *
        go_wp2_with fail
        refine HE.out.mono ?_
        rintro _ w1 ⟨rfl, hd⟩
        have hb2 := hb.trans ((Dr.below hd).mono hb.size)
        cases t1 : eqZs p q
        · go_wp2
          go_returns
          exact RetB.mk (bool_eq (HQ.out t1).symm) hb2
        · go_wp2
          go_roundw
          case rel => exact ⟨k + 1, by omega, by go_num, HP.out t1, hb2⟩
          case measure => simp [intOf]; omega
      · obtain rfl : k = n := by omega
        go_wp2
        go_returns
        refine RetB.mk (bool_eq ?_) hb
        have e := HX.out
        rw [List.take_of_length_le (by rw [HN.out]; exact Nat.le_refl _), List.take_of_length_le (by rw [HM.out]; exact Nat.le_refl _)] at e
        exact (decide_eq_true e).symm
  · clear hrow hrow'
    go_enter Tryz.func89, Tryz.ntmps89
    go_wp2
    go_returns
    refine RetB.mk (bool_eq (decide_eq_false ?_).symm) (Below.refl _ _)
    rintro rfl
    exact hlen (HN.out.symm.trans HM.out)

def sameMB (zs : List Int) (ws : List (List Int)) (bs zs' : List Int) (ws' : List (List Int)) (bs' : List Int) : Bool := eqZs zs zs' && eqWs ws ws' && eqZs bs bs'

set_option maxHeartbeats 1600000 in
theorem implSameModel_c (zv wv bv zv' wv' bv' : Value) (zs : List Int) (ws : List (List Int)) (bs zs' : List Int) (ws' : List (List Int)) (bs' : List Int) (w : World) (hz : Rd w zv zs.length (ints zs)) (hw : RdSS w wv ws) (hb : Rd w bv bs.length (ints bs))
    (hz' : Rd w zv' zs'.length (ints zs')) (hw' : RdSS w wv' ws') (hb' : Rd w bv' bs'.length (ints bs')) :
    Calls Tryz.prog 31 #[.agg #[zv, wv, bv], .agg #[zv', wv', bv']] w (RetB (.bool (sameMB zs ws bs zs' ws' bs')) w) := by
  have ez := fun w' (h : Below w.heap.size w w') => Equal_c zv zv' zs zs' w' (hz.later h) (hz'.later h)
  have ew := fun w' (h : Below w.heap.size w w') => EqualFunc_c wv wv' ws ws' w' (hw.later h) (hw'.later h)
  have eb := fun w' (h : Below w.heap.size w w') => Equal_c bv bv' bs bs' w' (hb.later h) (hb'.later h)
  clear hz hw hb hz' hw' hb'
  unfold sameMB
  generalize eqZs zs zs' = A at *
  generalize eqWs ws ws' = B at *
  generalize eqZs bs bs' = C at *
  have EZ := Lib.hid ez; clear ez
  have EW := Lib.hid ew; clear ew
  have EB := Lib.hid eb; clear eb
  cases A
  · go_enter Tryz.func31, Tryz.ntmps31
    have b0 : Below w.heap.size w w := Below.refl _ _
    have z0 : w.heap.size ≤ w.heap.size := Nat.le_refl _
    go_wp2_with fail
    refine (EZ.out _ (by go_grown)).mono ?_
    rintro _ w1 ⟨rfl, d1⟩
    have r1 := Dr.below d1; clear d1
    have s1 : Below w.heap.size w w1 := Below.trans (by go_grown) (r1.mono (by simp; try omega))
    have b1 := b0.trans (s1.mono z0)
    have z1 := b1.size
    have y1 := s1.size
    have c0_0_1 := below_cell r1 (p := ⟨w.heap.size, 0, none⟩) (v := zv) (by simp [go_sem])
    have c0_1_1 := below_cell r1 (p := ⟨w.heap.size, 1, none⟩) (v := wv) (by simp [go_sem])
    have c0_2_1 := below_cell r1 (p := ⟨w.heap.size, 2, none⟩) (v := bv) (by simp [go_sem])
    have c1_0_1 := below_cell r1 (p := ⟨w.heap.size + 1, 0, none⟩) (v := zv') (by simp [go_sem])
    have c1_1_1 := below_cell r1 (p := ⟨w.heap.size + 1, 1, none⟩) (v := wv') (by simp [go_sem])
    have c1_2_1 := below_cell r1 (p := ⟨w.heap.size + 1, 2, none⟩) (v := bv') (by simp [go_sem])
    clear r1
    go_wp2
    go_returns
    exact RetB.mk (rfl) b1
  · cases B
    · go_enter Tryz.func31, Tryz.ntmps31
      have b0 : Below w.heap.size w w := Below.refl _ _
      have z0 : w.heap.size ≤ w.heap.size := Nat.le_refl _
      go_wp2_with fail
      refine (EZ.out _ (by go_grown)).mono ?_
      rintro _ w1 ⟨rfl, d1⟩
      have r1 := Dr.below d1; clear d1
      have s1 : Below w.heap.size w w1 := Below.trans (by go_grown) (r1.mono (by simp; try omega))
      have b1 := b0.trans (s1.mono z0)
      have z1 := b1.size
      have y1 := s1.size
      have c0_0_1 := below_cell r1 (p := ⟨w.heap.size, 0, none⟩) (v := zv) (by simp [go_sem])
      have c0_1_1 := below_cell r1 (p := ⟨w.heap.size, 1, none⟩) (v := wv) (by simp [go_sem])
      have c0_2_1 := below_cell r1 (p := ⟨w.heap.size, 2, none⟩) (v := bv) (by simp [go_sem])
      have c1_0_1 := below_cell r1 (p := ⟨w.heap.size + 1, 0, none⟩) (v := zv') (by simp [go_sem])
      have c1_1_1 := below_cell r1 (p := ⟨w.heap.size + 1, 1, none⟩) (v := wv') (by simp [go_sem])
      have c1_2_1 := below_cell r1 (p := ⟨w.heap.size + 1, 2, none⟩) (v := bv') (by simp [go_sem])
      clear r1
      go_wp2_with fail
      refine (EW.out _ b1).mono ?_
      rintro _ w2 ⟨rfl, r2⟩
      have s2 := r2
      have b2 := b1.trans (s2.mono z1)
      have z2 := b2.size
      have y2 := s2.size
      have c0_0_2 := below_cell s2 c0_0_1; clear c0_0_1
      have c0_1_2 := below_cell s2 c0_1_1; clear c0_1_1
      have c0_2_2 := below_cell s2 c0_2_1; clear c0_2_1
      have c1_0_2 := below_cell s2 c1_0_1; clear c1_0_1
      have c1_1_2 := below_cell s2 c1_1_1; clear c1_1_1
      have c1_2_2 := below_cell s2 c1_2_1; clear c1_2_1
      clear r2
      go_wp2
      go_returns
      exact RetB.mk (rfl) b2
    · go_enter Tryz.func31, Tryz.ntmps31
      have b0 : Below w.heap.size w w := Below.refl _ _
      have z0 : w.heap.size ≤ w.heap.size := Nat.le_refl _
      go_wp2_with fail
      refine (EZ.out _ (by go_grown)).mono ?_
      rintro _ w1 ⟨rfl, d1⟩
      have r1 := Dr.below d1; clear d1
      have s1 : Below w.heap.size w w1 := Below.trans (by go_grown) (r1.mono (by simp; try omega))
      have b1 := b0.trans (s1.mono z0)
      have z1 := b1.size
      have y1 := s1.size
      have c0_0_1 := below_cell r1 (p := ⟨w.heap.size, 0, none⟩) (v := zv) (by simp [go_sem])
      have c0_1_1 := below_cell r1 (p := ⟨w.heap.size, 1, none⟩) (v := wv) (by simp [go_sem])
      have c0_2_1 := below_cell r1 (p := ⟨w.heap.size, 2, none⟩) (v := bv) (by simp [go_sem])
      have c1_0_1 := below_cell r1 (p := ⟨w.heap.size + 1, 0, none⟩) (v := zv') (by simp [go_sem])
      have c1_1_1 := below_cell r1 (p := ⟨w.heap.size + 1, 1, none⟩) (v := wv') (by simp [go_sem])
      have c1_2_1 := below_cell r1 (p := ⟨w.heap.size + 1, 2, none⟩) (v := bv') (by simp [go_sem])
      clear r1
      go_wp2_with fail
      refine (EW.out _ b1).mono ?_
      rintro _ w2 ⟨rfl, r2⟩
      have s2 := r2
      have b2 := b1.trans (s2.mono z1)
      have z2 := b2.size
      have y2 := s2.size
      have c0_0_2 := below_cell s2 c0_0_1; clear c0_0_1
      have c0_1_2 := below_cell s2 c0_1_1; clear c0_1_1
      have c0_2_2 := below_cell s2 c0_2_1; clear c0_2_1
      have c1_0_2 := below_cell s2 c1_0_1; clear c1_0_1
      have c1_1_2 := below_cell s2 c1_1_1; clear c1_1_1
      have c1_2_2 := below_cell s2 c1_2_1; clear c1_2_1
      clear r2
      go_wp2_with fail
      refine (EB.out _ b2).mono ?_
      rintro _ w3 ⟨rfl, d3⟩
      have r3 := Dr.below d3; clear d3
      have s3 := r3
      have b3 := b2.trans (s3.mono z2)
      have z3 := b3.size
      have y3 := s3.size
      have c0_0_3 := below_cell s3 c0_0_2; clear c0_0_2
      have c0_1_3 := below_cell s3 c0_1_2; clear c0_1_2
      have c0_2_3 := below_cell s3 c0_2_2; clear c0_2_2
      have c1_0_3 := below_cell s3 c1_0_2; clear c1_0_2
      have c1_1_3 := below_cell s3 c1_1_2; clear c1_1_2
      have c1_2_3 := below_cell s3 c1_2_2; clear c1_2_2
      clear r3
      go_wp2
      go_returns
      exact RetB.mk (rfl) b3

end Go.Proofs.YtgdadbmhdljcdaaGreatDoor

/- Is a model valid? -/
namespace Go.Proofs.YtgdadbmhdljcdaaGreatDoor
set_option linter.unusedVariables false
open Go.RowKit Go.Proofs.Bell Go.BigFrame

theorem l08Zones_c (v : Value) (zs : List Int) (w : World) (h : Rd w v zs.length (ints zs)) :
    Calls Tryz.prog 123 #[v] w (RetD (.bool (zonesB zs 31)) w) := by
  rw [specZones_eq]
  have hri := fun w' (hb : Below w.heap.size w w') => l00Rises_c v zs 0 31 w' (h.later hb)
  have HRI := Lib.hid hri; clear hri
  generalize hn : zs.length = n at *
  have HN := Lib.hid hn; clear hn
  obtain ⟨hn, ao, cap, b, off, rfl, hao, hcell⟩ := h.open
  clear h
  by_cases h1 : 1 ≤ n
  · by_cases h2 : n ≤ 8
    · have hk0 : 0 < n := by omega
      have hltp : 0 < zs.length := by rw [HN.out]; exact hk0
      have hix := ix (P := Tryz.prog) (T := 42) (cap := cap) Tryz.underlying42 cells_int64 has_int64 hao hk0 0 rfl
      rw [Nat.zero_mul, Nat.add_zero] at hix
      have hz0 : zs.getD 0 0 = zs[0] := getD_eq hltp
      rw [hz0]
      clear hz0
      have hc : w.cell? ⟨b, off, none⟩ = some (.int .i64 zs[0]) := by
        have := hcell _ (Below.refl _ _) _ _ hk0 (intsAt hltp)
        rwa [Nat.add_zero] at this
      clear hcell hao
      generalize zs[0] = z at *
      by_cases h3 : z = 0
      · cases h4 : risesB zs 0 31 <;> rw [h4] at HRI <;>
        · go_enter Tryz.func123, Tryz.ntmps123
          go_wp2_with (go_at_call 125; refine (HRI.out _ (Below.refl _ _)).mono ?_; rintro _ w2 ⟨rfl, hd2⟩)
          go_returns
          exact RetD.mk (by simp [h1, h2, h3]) hd2
      · go_enter Tryz.func123, Tryz.ntmps123
        go_wp2
        go_returns
        exact RetD.mk (by simp [h3]) (Dr.refl _)
    · clear hcell
      go_enter Tryz.func123, Tryz.ntmps123
      go_wp2
      go_returns
      exact RetD.mk (by simp [h2]) (Dr.refl _)
  · clear hcell
    go_enter Tryz.func123, Tryz.ntmps123
    go_wp2
    go_returns
    exact RetD.mk (by simp [h1]) (Dr.refl _)

def inW (z : Int) : Bool := inB z 0 1000
def okRow (n : Nat) (row : List Int) (b : Int) : Bool := inB b 1 1000000000 && decide (row.length = n) && row.all inW && !(row.sum == 0)
def okK (zs : List Int) (ws : List (List Int)) (bs : List Int) (k : Nat) : Bool := okRow zs.length (ws.getD k []) (bs.getD k 0)
def modelB (zs : List Int) (ws : List (List Int)) (bs : List Int) : Bool := zonesB zs 31 && decide (ws.length = 5) && decide (bs.length = 5) && (List.range 5).all (okK zs ws bs)
theorem zonesB_len {zs : List Int} {hi : Int} (h : zonesB zs hi = true) : 1 ≤ zs.length ∧ zs.length ≤ 8 := by
  unfold zonesB at h
  simp only [Bool.and_eq_true] at h
  have := inB_t h.1.1
  omega
theorem sum_take_bd {row : List Int} {n : Nat} (hl : row.length ≤ 8) (h : (row.take n).all inW = true) : 0 ≤ (row.take n).sum ∧ (row.take n).sum ≤ 8000 := by
  have := sum_bd (lo := 0) (hi := 1000) (row.take n) (fun x hx => inB_t (List.all_eq_true.1 h x hx))
  have h2 : (row.take n).length ≤ 8 := by rw [List.length_take]; omega
  omega
theorem sum_snoc (zs : List Int) {k : Nat} (h : k < zs.length) : (zs.take (k + 1)).sum = (zs.take k).sum + zs[k] := by rw [List.take_succ_eq_append_getElem h, List.sum_append]; simp

set_option maxRecDepth 100000 in
set_option maxHeartbeats 6400000 in
theorem l08Ok_c (g : Nat) (zv wv bv : Value) (zs : List Int) (ws : List (List Int)) (bs : List Int) (w : World) (c0 : w.cell? ⟨g, 0, none⟩ = some zv) (c1 : w.cell? ⟨g, 1, none⟩ = some wv) (c2 : w.cell? ⟨g, 2, none⟩ = some bv)
    (hz : Rd w zv zs.length (ints zs)) (hw : RdSS w wv ws) (hb : Rd w bv bs.length (ints bs)) :
    Calls Tryz.prog 73 #[.pointer (some ⟨g, 0, none⟩)] w (RetD (.bool (modelB zs ws bs)) w) := by
  have hzo := l08Zones_c zv zs w hz
  have hzl := fun h => zonesB_len (zs := zs) (hi := 31) h
  obtain ⟨us, hus, hr, hrow⟩ := hw
  generalize hnz : zs.length = nz at *
  generalize hnw : ws.length = nw at *
  generalize hnb : bs.length = nb at *
  obtain ⟨hn1, ao1, cap1, b1, off1, rfl, hao1, hcell1⟩ := hz.open
  obtain ⟨hn2, ao2, cap2, b2, off2, rfl, hao2, hcell2⟩ := hr.open
  obtain ⟨hn3, ao3, cap3, b3, off3, rfl, hao3, hcell3⟩ := hb.open
  clear hz hr hb hcell1
  cases t0 : zonesB zs 31 <;> rw [t0] at hzo
  · have hf : modelB zs ws bs = false := by simp [modelB, t0]
    rw [hf]
    have HZO := Lib.hid hzo; clear hzo
    clear hf hrow hcell2 hcell3
    have HNZ := Lib.hid hnz; clear hnz
    have HNW := Lib.hid hnw; clear hnw
    have HNB := Lib.hid hnb; clear hnb
    clear hzl hus
    go_enter Tryz.func73, Tryz.ntmps73
    go_wp2_with fail
    refine HZO.out.mono ?_
    rintro _ w1 ⟨rfl, hd⟩
    go_wp2
    go_returns
    exact RetD.mk rfl hd
  · obtain ⟨hz1, hz8⟩ := hzl t0
    clear hzl
    have hmb : modelB zs ws bs = (decide (nw = 5) && decide (nb = 5) && (List.range 5).all (okK zs ws bs)) := by simp [modelB, t0, hnw, hnb]
    rw [hmb]
    have hok : ∀ k, okK zs ws bs k = okRow nz (ws.getD k []) (bs.getD k 0) := fun k => by rw [← hnz]; rfl
    have HOK := Lib.hid hok; clear hok
    have HZO := Lib.hid hzo; clear hzo
    have HMB := Lib.hid hmb; clear hmb
    have HNZ := Lib.hid hnz; clear hnz
    by_cases h1 : nw = 5
    · by_cases h2 : nb = 5
      · have hwl : ws.length = 5 := by omega
        have hbl : bs.length = 5 := by omega
        subst h1 h2
        have HNW := Lib.hid hnw; clear hnw
        have HNB := Lib.hid hnb; clear hnb
        have HWL := Lib.hid hwl; clear hwl
        have HBL := Lib.hid hbl; clear hbl
        have HUS := Lib.hid hus; clear hus
        have HROW := Lib.hid hrow; clear hrow
        have HC2 := Lib.hid hcell2; clear hcell2
        have HC3 := Lib.hid hcell3; clear hcell3
        simp only [decide_true, Bool.true_and]
        have hyes : (∀ j, j < 5 → okK zs ws bs j = true) → (List.range 5).all (okK zs ws bs) = true := fun h => List.all_eq_true.2 (fun x hx => h x (List.mem_range.1 hx))
        have hend : ∀ k, k < 5 → okK zs ws bs k = false → (List.range 5).all (okK zs ws bs) = false := fun k hk h => range_false hk h
        generalize (List.range 5).all (okK zs ws bs) = R at *
        have HEND := Lib.hid hend; clear hend
        have HYES := Lib.hid hyes; clear hyes
        go_enter Tryz.func73, Tryz.ntmps73
        go_wp2_with fail
        refine HZO.out.mono ?_
        rintro _ w1 ⟨rfl, hd1⟩
        have k0 := below_cell (Dr.below hd1) c0
        have k1 := below_cell (Dr.below hd1) c1
        have k2 := below_cell (Dr.below hd1) c2
        clear c0 c1 c2
        go_wp2_with fail
        go_loopw [3] (fun i wr => ∃ (k : Nat), k ≤ 5 ∧ i = .int .i64 k ∧ (∀ j, j < k → okK zs ws bs j = true) ∧ Dr w1 wr) (fun i _ => 5 - (intOf i).toNat)
        case atStart => exact ⟨0, by omega, rfl, fun j hj => by omega, Dr.refl _⟩
        case round =>
          obtain ⟨k, hk, rfl, hx, hdr⟩ := hrel
          have HX := Lib.hid hx; clear hx
          have hdw := Dr.trans hd1 hdr
          have m0 := below_cell hdr.below k0
          have m1 := below_cell hdr.below k1
          have m2 := below_cell hdr.below k2
          by_cases hlt : k < 5
          · have hlt5 : decide ((k : Int) < 5) = true := by simp; omega
            have hix2 := ix (P := Tryz.prog) (T := 43) (cap := cap2) Tryz.underlying43 cells_SS has_SS hao2 (k := k) (by omega) _ rfl
            rw [Nat.mul_one] at hix2
            have hix3 := ix (P := Tryz.prog) (T := 42) (cap := cap3) Tryz.underlying42 cells_int64 has_int64 hao3 (k := k) (by omega) _ rfl
            rw [Nat.mul_one] at hix3
            have hcr : ∀ w', Dr w w' → w'.cell? ⟨b2, off2 + k, none⟩ = some (us.getD k nv) := fun w' hd => HC2.out _ hd.below _ _ (by omega) (getDv (by rw [HUS.out]; exact hlt))
            have hcb : wr.cell? ⟨b3, off3 + k, none⟩ = some (.int .i64 (bs.getD k 0)) := by
              have hb5 : k < bs.length := by rw [HBL.out]; exact hlt
              rw [getD_eq hb5]; exact HC3.out _ hdw.below _ _ (by omega) (intsAt hb5)
            have hcr1 := hcr _ hdw
            have hrow := HROW.out k hlt
            have hke := HOK.out k
            have hno := fun h => HEND.out k hlt (hke.trans h)
            have hnx : okRow nz (ws.getD k []) (bs.getD k 0) = true → ∀ j, j < k + 1 → okK zs ws bs j = true := fun h j hj => by
              rcases Nat.lt_or_ge j k with h1 | h1
              · exact HX.out j h1
              · rw [show j = k by omega, hke]; exact h
            have HNO := Lib.hid hno; clear hno
            have HNX := Lib.hid hnx; clear hnx
            have HCR := Lib.hid hcr; clear hcr
            clear hke
            generalize ws.getD k [] = row at *
            generalize bs.getD k 0 = bk at *
            generalize us.getD k nv = u at *
            have hrl := hrow.1
            generalize hrn : row.length = rn at *
            have HRN := Lib.hid hrn; clear hrn
            obtain ⟨hnr, aor, capr, br, offr, rfl, haor, hcellr⟩ := hrow.open
            clear hrow
            have HCELLR := Lib.hid hcellr; clear hcellr
            cases t1 : inB bk 1 1000000000
            · go_wp2_with fail
              go_quiet ((go_at_call 124; exact quietS (l00In_is _ t1)))
              clear hcb hcr1
              go_wp2
              go_returns
              exact RetD.mk (bool_eq (HNO.out (by simp [okRow, t1])).symm) (Dr.trans hdw ⟨_, rfl⟩)
            · by_cases h3 : rn = nz
              · subst h3
                go_wp2_with fail
                go_quiet ((go_at_call 124; exact quietS (l00In_is _ t1)))
                clear hcb hcr1
                have hd4 : Dr wr (wr.drewN nq) := ⟨_, rfl⟩
                have m04 := below_cell hd4.below m0
                have m14 := below_cell hd4.below m1
                have m24 := below_cell hd4.below m2
                generalize wr.drewN nq = wq at *
                have hdq := Dr.trans hdw hd4
                go_wp2_with fail
                go_loopw [5, 4] (fun i s wz => ∃ (z : Nat), z ≤ rn ∧ i = .int .i64 z ∧ s = .int .i64 (row.take z).sum ∧ (row.take z).all inW = true ∧ Dr wq wz) (fun i _ _ => rn - (intOf i).toNat)
                case atStart => exact ⟨0, Nat.zero_le _, rfl, rfl, rfl, Dr.refl _⟩
                case round =>
                  obtain ⟨z, hz, rfl, rfl, hall, hdz⟩ := hrel
                  have m05 := below_cell hdz.below m04
                  have m15 := below_cell hdz.below m14
                  have m25 := below_cell hdz.below m24
                  have hd5 := Dr.trans hd4 hdz
                  have hdq := Dr.trans hdq hdz
                  have hsb := sum_take_bd (by rw [HRN.out]; exact hz8) hall
                  have HALL := Lib.hid hall; clear hall
                  by_cases hlz : z < rn
                  · have hzr : z < row.length := by rw [HRN.out]; exact hlz
                    have hixr := ix (P := Tryz.prog) (T := 42) (cap := capr) Tryz.underlying42 cells_int64 has_int64 haor (k := z) (by omega) _ rfl
                    rw [Nat.mul_one] at hixr
                    have hcz : wr.cell? ⟨br, offr + z, none⟩ = some (.int .i64 row[z]) := HCELLR.out _ hdq.below _ _ (by omega) (intsAt hzr)
                    have hcr1 := HCR.out _ hdq
                    have hs := sum_snoc row hzr
                    have hp : inW row[z] = true → (row.take (z + 1)).all inW = true := fun h => all_take_step HALL.out hzr h
                    have hq : inW row[z] = false → row.all inW = false := fun h => all_false_of hzr h
                    have HS := Lib.hid hs; clear hs
                    have HP := Lib.hid hp; clear hp
                    have HQ := Lib.hid hq; clear hq
                    have hin := fun w' => l00In_c row[z] 0 1000 w'
                    have hiw : inB row[z] 0 1000 = inW row[z] := rfl
                    rw [hiw] at hin
                    clear hiw
                    have hbz : inW row[z] = true → 0 ≤ row[z] ∧ row[z] ≤ 1000 := fun h => inB_t h
                    generalize row[z] = x at *
                    generalize (row.take z).sum = s at *
                    cases t2 : inW x <;> rw [t2] at hin
                    · have HIN := Lib.hid hin; clear hin
                      clear hbz
                      go_wp2_with (go_at_call 124; refine (HIN.out _).mono ?_; rintro _ _ ⟨rfl, rfl⟩)
                      go_returns
                      exact RetD.mk (bool_eq (HNO.out (by simp [okRow, HQ.out t2])).symm) hdq
                    · have HIN := Lib.hid hin; clear hin
                      obtain ⟨x0, x1⟩ := hbz t2
                      go_wp2_with (go_at_call 124; refine (HIN.out _).mono ?_; rintro _ _ ⟨rfl, rfl⟩)
                      go_roundw
                      case rel => exact ⟨z + 1, by omega, by go_num, by rw [HS.out], HP.out t2, hdz⟩
                      case measure => simp [intOf]; omega
                  · obtain rfl : z = rn := by omega
                    have hall2 : row.all inW = true := by
                      have := HALL.out
                      rwa [List.take_of_length_le (by rw [HRN.out]; exact Nat.le_refl _)] at this
                    have hsum : (row.take z).sum = row.sum := by rw [List.take_of_length_le (by rw [HRN.out]; exact Nat.le_refl _)]
                    rw [hsum]
                    rw [hsum] at hsb
                    have hfin : okRow z row bk = !(row.sum == 0) := by simp [okRow, t1, hall2, HRN.out]
                    rw [hfin] at HNO HNX
                    have HALL2 := Lib.hid hall2; clear hall2
                    have HSUM := Lib.hid hsum; clear hsum
                    have HFIN := Lib.hid hfin; clear hfin
                    generalize row.sum = s at *
                    cases t3 : (s == 0)
                    · go_wp2
                      go_roundw
                      case rel => exact ⟨k + 1, by omega, by go_num, HNX.out (by rw [t3]; rfl), Dr.trans hdr hd5⟩
                      case measure => simp [intOf]; omega
                    · go_wp2
                      go_returns
                      exact RetD.mk (bool_eq (HNO.out (by rw [t3]; rfl)).symm) hdq
              · have h3' : ¬ ((rn : Int) = nz) := by omega
                go_wp2_with fail
                go_quiet ((go_at_call 124; exact quietS (l00In_is _ t1)))
                clear hcb hcr1
                go_wp2
                go_returns
                exact RetD.mk (bool_eq (HNO.out (by simp [okRow, HRN.out, h3])).symm) (Dr.trans hdw ⟨_, rfl⟩)
          · obtain rfl : k = 5 := by omega
            go_wp2
            go_returns
            exact RetD.mk (bool_eq (HYES.out HX.out).symm) hdw
      · clear hcell2 hcell3 hrow
        have HNW := Lib.hid hnw; clear hnw
        have HNB := Lib.hid hnb; clear hnb
        have HUS := Lib.hid hus; clear hus
        go_enter Tryz.func73, Tryz.ntmps73
        go_wp2_with fail
        refine HZO.out.mono ?_
        rintro _ w1 ⟨rfl, hd1⟩
        have k0 := below_cell (Dr.below hd1) c0
        have k1 := below_cell (Dr.below hd1) c1
        have k2 := below_cell (Dr.below hd1) c2
        clear c0 c1 c2
        go_wp2
        go_returns
        exact RetD.mk (bool_eq (by simp [h2])) hd1
    · clear hcell2 hcell3 hrow
      have HNW := Lib.hid hnw; clear hnw
      have HNB := Lib.hid hnb; clear hnb
      have HUS := Lib.hid hus; clear hus
      go_enter Tryz.func73, Tryz.ntmps73
      go_wp2_with fail
      refine HZO.out.mono ?_
      rintro _ w1 ⟨rfl, hd1⟩
      have k0 := below_cell (Dr.below hd1) c0
      have k1 := below_cell (Dr.below hd1) c1
      have k2 := below_cell (Dr.below hd1) c2
      clear c0 c1 c2
      go_wp2
      go_returns
      exact RetD.mk (bool_eq (by simp [h1])) hd1

theorem specValidModel_c (zv wv bv : Value) (zs : List Int) (ws : List (List Int)) (bs : List Int) (w : World) (hz : Rd w zv zs.length (ints zs)) (hw : RdSS w wv ws) (hb : Rd w bv bs.length (ints bs)) :
    Calls Tryz.prog 24 #[.agg #[zv, wv, bv]] w (RetB (.bool (modelB zs ws bs)) w) := by
  have hm := fun w' g c0 c1 c2 (h : Below w.heap.size w w') => l08Ok_c g zv wv bv zs ws bs w' c0 c1 c2 (hz.later h) (hw.later h) (hb.later h)
  have HM := Lib.hid hm; clear hm
  clear hz hw hb
  go_enter Tryz.func24, Tryz.ntmps24
  have b0 : Below w.heap.size w w := Below.refl _ _
  have z0 : w.heap.size ≤ w.heap.size := Nat.le_refl _
  go_wp2_with fail
  refine (HM.out _ _ (by simp [go_sem]) (by simp [go_sem]) (by simp [go_sem]) (by go_grown)).mono ?_
  rintro _ w1 ⟨rfl, d1⟩
  have r1 := Dr.below d1; clear d1
  have s1 : Below w.heap.size w w1 := Below.trans (by go_grown) (r1.mono (by simp; try omega))
  have b1 := b0.trans (s1.mono z0)
  have z1 := b1.size
  have y1 := s1.size
  have c0_0_1 := below_cell r1 (p := ⟨w.heap.size, 0, none⟩) (v := zv) (by simp [go_sem])
  have c0_1_1 := below_cell r1 (p := ⟨w.heap.size, 1, none⟩) (v := wv) (by simp [go_sem])
  have c0_2_1 := below_cell r1 (p := ⟨w.heap.size, 2, none⟩) (v := bv) (by simp [go_sem])
  clear r1
  go_wp2
  go_returns
  exact RetB.mk (rfl) b1

end Go.Proofs.YtgdadbmhdljcdaaGreatDoor

/- The program's test of a model; the dominant zone. -/
namespace Go.Proofs.YtgdadbmhdljcdaaGreatDoor
set_option linter.unusedVariables false
open Go.RowKit Go.Proofs.Bell Go.BigFrame

set_option maxHeartbeats 800000 in
theorem IndexFuncInt_c (g : Nat) (cs : Array Value) (p : Int → Bool) (v : Value) (ps : List Int) (w : World) (h : Rd w v ps.length (ints ps))
    (hcall : ∀ (args : Array Value) (w : World), (callFunc g args).run Tryz.prog w = .ok (.enter g args) w)
    (hg : ∀ x, x ∈ ps → ∀ w', Below w.heap.size w w' → Calls Tryz.prog g (#[.int .i64 x] ++ cs) w' (RetB (.bool (p x)) w')) :
    Calls Tryz.prog 154 #[v, .func (.func g) #[] cs] w (RetB (.int .i64 (findI p ps)) w) := by
  generalize hn : ps.length = n at h
  have HN := Lib.hid hn; clear hn
  have HG := Lib.hid hg; clear hg
  obtain ⟨hn, ao, cap, b, off, rfl, hao, hcell⟩ := h.open
  clear h
  go_enter Tryz.func154, Tryz.ntmps154
  go_wp2_with fail
  go_loopw [8] (fun i wr => ∃ (k : Nat), k ≤ n ∧ i = .int .i64 k ∧ (ps.take k).all (fun x => !p x) = true ∧ Below w.heap.size w wr) (fun i _ => n - (intOf i).toNat)
  case atStart => exact ⟨0, Nat.zero_le _, rfl, rfl, Below.refl _ _⟩
  case round =>
    obtain ⟨k, hk, rfl, hx, hb⟩ := hrel
    have HX := Lib.hid hx; clear hx
    by_cases hlt : k < n
    · have hltp : k < ps.length := by rw [HN.out]; exact hlt
      have hix := ix (P := Tryz.prog) (T := 42) (cap := cap) Tryz.underlying42 cells_int64 has_int64 hao hlt k rfl
      rw [Nat.mul_one] at hix
      have hc1 : wr.cell? ⟨b, off + k, none⟩ = some (.int .i64 ps[k]) := hcell _ hb _ _ (by omega) (intsAt hltp)
      have hgk := HG.out ps[k] (List.getElem_mem hltp) wr hb
      have HGK := Lib.hid hgk; clear hgk
      have hp : p ps[k] = false → (ps.take (k + 1)).all (fun x => !p x) = true := fun h1 => all_take_step HX.out hltp (by rw [h1]; rfl)
      have hq : p ps[k] = true → findI p ps = k := fun h => findI_some HX.out hltp h
      have HP := Lib.hid hp; clear hp
      have HQ := Lib.hid hq; clear hq
      clear hcell
      generalize ps[k] = x at *
      go_wp2_with fail
      refine HGK.out.mono ?_
      rintro _ w1 ⟨rfl, hb1⟩
      have hb2 := hb.trans (hb1.mono hb.size)
      cases t1 : p x
      · go_wp2
        go_roundw
        case rel => exact ⟨k + 1, by omega, by go_num, HP.out t1, hb2⟩
        case measure => simp [intOf]; omega
      · go_wp2
        go_returns
        exact RetB.mk (int_eq (HQ.out t1).symm) hb2
    · obtain rfl : k = n := by omega
      go_wp2
      go_returns
      refine RetB.mk (int_eq ?_) hb
      have e := HX.out
      rw [List.take_of_length_le (by rw [HN.out]; exact Nat.le_refl _)] at e
      exact (findI_none e).symm

theorem ContainsFuncInt_c (g : Nat) (cs : Array Value) (p : Int → Bool) (v : Value) (ps : List Int) (w : World) (h : Rd w v ps.length (ints ps))
    (hcall : ∀ (args : Array Value) (w : World), (callFunc g args).run Tryz.prog w = .ok (.enter g args) w)
    (hg : ∀ x, x ∈ ps → ∀ w', Below w.heap.size w w' → Calls Tryz.prog g (#[.int .i64 x] ++ cs) w' (RetB (.bool (p x)) w')) :
    Calls Tryz.prog 118 #[v, .func (.func g) #[] cs] w (RetB (.bool (ps.any p)) w) := by
  have hf := findI_lt (p := p) (xs := ps)
  have HF := Lib.hid hf; clear hf
  have HG := Lib.hid hg; clear hg
  have HC := Lib.hid hcall; clear hcall
  have hi := IndexFuncInt_c g cs p v ps w h HC.out HG.out
  have HI := Lib.hid hi; clear hi
  generalize findI p ps = fi at *
  by_cases h0 : fi < 0
  · go_enter Tryz.func118, Tryz.ntmps118
    go_wp2_with (go_at_call 154; refine HI.out.mono ?_; rintro _ w1 ⟨rfl, hb1⟩)
    go_returns
    exact RetB.mk (bool_eq (by rw [HF.out.1 h0] <;> simp <;> omega)) ‹_›
  · have h1 : ps.any p = true := by
      cases h : ps.any p
      · exact absurd (HF.out.2 h) h0
      · rfl
    have H1 := Lib.hid h1; clear h1
    go_enter Tryz.func118, Tryz.ntmps118
    go_wp2_with (go_at_call 154; refine HI.out.mono ?_; rintro _ w1 ⟨rfl, hb1⟩)
    go_returns
    exact RetB.mk (bool_eq (by rw [H1.out] <;> simp <;> omega)) ‹_›


theorem ValidModel1_c (x : Int) (w : World) : Calls Tryz.prog 119 #[.int .i64 x] w (RetB (.bool (!inW x)) w) := by
  have hv := fun w' => within_c x 0 1000 w'
  have he : inB x 0 1000 = inW x := rfl
  rw [he] at hv
  clear he
  generalize inW x = c at *
  have HV := Lib.hid hv; clear hv
  go_enter Tryz.func119, Tryz.ntmps119
  go_wp2_with (go_at_call 56; refine (HV.out _).mono ?_; rintro _ _ ⟨rfl, rfl⟩)
  go_returns
  exact RetB.mk rfl (Below.refl _ _)

theorem mem_le_sum : ∀ (row : List Int), (∀ x ∈ row, 0 ≤ x) → ∀ x ∈ row, x ≤ row.sum
  | [], _, x, hx => by cases hx
  | a :: l, h, x, hx => by
    have h1 := h a (List.mem_cons_self ..)
    have h2 := sum_bd (lo := 0) (hi := 9223372036854775807) l
    have ih := mem_le_sum l (fun y hy => h y (List.mem_cons_of_mem _ hy))
    have h0 : 0 ≤ l.sum := by
      clear ih h2 hx
      have : ∀ l : List Int, (∀ x ∈ l, 0 ≤ x) → 0 ≤ l.sum := by
        intro l
        induction l with
        | nil => intro _; simp
        | cons b l ih => intro hb; have := hb b (List.mem_cons_self ..); have := ih (fun y hy => hb y (List.mem_cons_of_mem _ hy)); simp; omega
      exact this l (fun y hy => h y (List.mem_cons_of_mem _ hy))
    simp only [List.sum_cons]
    rcases List.mem_cons.1 hx with rfl | hx
    · omega
    · have := ih x hx; omega
theorem sum_pos_iff {row : List Int} (h1 : 1 ≤ row.length) (hall : row.all inW = true) : (maxI row == 0) = (row.sum == 0) := by
  have h : ∀ x ∈ row, 0 ≤ x ∧ x ≤ 1000 := fun x hx => inB_t (List.all_eq_true.1 hall x hx)
  have hm := maxK_le (zs := row) (c := 0) row.length h1 (Nat.le_refl _)
  have hs := (maxK_le (zs := row) (c := maxI row) row.length h1 (Nat.le_refl _)).1 (Int.le_refl _) 0 (by omega)
  rw [getD_eq (by omega : 0 < row.length)] at hs
  have h0 := (h row[0] (List.getElem_mem (by omega))).1
  have hsum := sum_bd (lo := 0) (hi := 1000) row h
  have hle := mem_le_sum row (fun x hx => (h x hx).1)
  have key : maxI row = 0 ↔ row.sum = 0 := by
    constructor
    · intro he
      have h2 := hm.1 (by unfold maxI at he; omega)
      have h3 := sum_bd (lo := 0) (hi := 0) row (fun x hx => by
        obtain ⟨j, hj, rfl⟩ := List.getElem_of_mem hx
        have := h2 j hj
        rw [getD_eq hj] at this
        exact ⟨(h _ hx).1, this⟩)
      omega
    · intro he
      have := hm.2 (fun j hj => by
        rw [getD_eq hj]
        have := hle row[j] (List.getElem_mem hj)
        omega)
      unfold maxI at *
      omega
  rw [Bool.eq_iff_iff]
  simpa using key

set_option maxRecDepth 100000 in
set_option maxHeartbeats 6400000 in
theorem implValidModel_c (zv wv bv : Value) (zs : List Int) (ws : List (List Int)) (bs : List Int) (w : World) (hz : Rd w zv zs.length (ints zs)) (hw : RdSS w wv ws) (hb : Rd w bv bs.length (ints bs)) :
    Calls Tryz.prog 64 #[.agg #[zv, wv, bv]] w (RetB (.bool (modelB zs ws bs)) w) := by
  have hzo := fun w' (h : Below w.heap.size w w') => areZones_c zv zs 32 w' (hz.later h)
  have hzl := fun h => zonesB_len (zs := zs) (hi := 31) h
  obtain ⟨us, hus, hr, hrow⟩ := hw
  have h31 : ((32 : Int) - 1) = 31 := rfl
  rw [h31] at hzo
  clear h31
  generalize hnz : zs.length = nz at *
  generalize hnw : ws.length = nw at *
  generalize hnb : bs.length = nb at *
  obtain ⟨hn1, ao1, cap1, b1, off1, rfl, hao1, hcell1⟩ := hz.open
  obtain ⟨hn2, ao2, cap2, b2, off2, rfl, hao2, hcell2⟩ := hr.open
  obtain ⟨hn3, ao3, cap3, b3, off3, rfl, hao3, hcell3⟩ := hb.open
  clear hz hr hb hcell1
  have HNZ := Lib.hid hnz; clear hnz
  have HNW := Lib.hid hnw; clear hnw
  have HNB := Lib.hid hnb; clear hnb
  have HUS := Lib.hid hus; clear hus
  have HROW := Lib.hid hrow; clear hrow
  have HC2 := Lib.hid hcell2; clear hcell2
  have HC3 := Lib.hid hcell3; clear hcell3
  have hmb0 : modelB zs ws bs = (zonesB zs 31 && decide (nw = 5) && decide (nb = 5) && (List.range 5).all (okK zs ws bs)) := by unfold modelB; rw [HNW.out, HNB.out]
  rw [hmb0]
  clear hmb0
  cases t0 : zonesB zs 31 <;> rw [t0] at hzo
  · have HZO := Lib.hid hzo; clear hzo
    clear hzl
    go_enter Tryz.func64, Tryz.ntmps64
    have b0 : Below w.heap.size w w := Below.refl _ _
    have z0 : w.heap.size ≤ w.heap.size := Nat.le_refl _
    go_wp2_with fail
    refine (HZO.out _ (by go_grown)).mono ?_
    rintro _ _ ⟨rfl, rfl⟩
    go_wp2
    go_returns
    exact RetB.mk rfl (by go_grown)
  · obtain ⟨hz1, hz8⟩ := hzl t0
    clear hzl
    have HZO := Lib.hid hzo; clear hzo
    have hok : ∀ k, okK zs ws bs k = okRow nz (ws.getD k []) (bs.getD k 0) := fun k => by rw [← HNZ.out]; rfl
    have HOK := Lib.hid hok; clear hok
    by_cases h1 : nw = 5
    · by_cases h2 : nb = 5
      · subst h1 h2
        obtain rfl : ao2 = some ⟨b2, off2, none⟩ := hao2 (by omega)
        obtain rfl : ao3 = some ⟨b3, off3, none⟩ := hao3 (by omega)
        clear hao2 hao3
        simp only [decide_true, Bool.true_and]
        have hyes : (∀ j, j < 5 → okK zs ws bs j = true) → (List.range 5).all (okK zs ws bs) = true := fun h => List.all_eq_true.2 (fun x hx => h x (List.mem_range.1 hx))
        have hend : ∀ k, k < 5 → okK zs ws bs k = false → (List.range 5).all (okK zs ws bs) = false := fun k hk h => range_false hk h
        generalize (List.range 5).all (okK zs ws bs) = R at *
        have HEND := Lib.hid hend; clear hend
        have HYES := Lib.hid hyes; clear hyes
        go_enter Tryz.func64, Tryz.ntmps64
        have b0 : Below w.heap.size w w := Below.refl _ _
        have z0 : w.heap.size ≤ w.heap.size := Nat.le_refl _
        go_wp2_with fail
        refine (HZO.out _ (by go_grown)).mono ?_
        rintro _ _ ⟨rfl, rfl⟩
        go_wp2_with fail
        go_loopw [24] (fun i wr => ∃ (k : Nat), k ≤ 5 ∧ i = .int .i64 k ∧ (∀ j, j < k → okK zs ws bs j = true) ∧ Below w.heap.size w wr ∧ wr.cell? ⟨w.heap.size, 0, none⟩ = some (.slice ao1 nz cap1) ∧ wr.cell? ⟨w.heap.size, 1, none⟩ = some (.slice (some ⟨b2, off2, none⟩) 5 cap2) ∧ wr.cell? ⟨w.heap.size, 2, none⟩ = some (.slice (some ⟨b3, off3, none⟩) 5 cap3)) (fun i _ => 5 - (intOf i).toNat)
        case atStart => exact ⟨0, by omega, rfl, fun j hj => by omega, (by go_grown), (by simp [go_sem]), (by simp [go_sem]), (by simp [go_sem])⟩
        case round =>
          obtain ⟨k, hk, rfl, hx, br0, c0_0_r0, c0_1_r0, c0_2_r0⟩ := hrel
          have zr0 := br0.size
          have HX := Lib.hid hx; clear hx
          by_cases hlt : k < 5
          · have hlt5 : decide ((k : Int) < 5) = true := by simp; omega
            have hix2 := ix (P := Tryz.prog) (T := 43) (cap := cap2) Tryz.underlying43 cells_SS has_SS (b := b2) (off := off2) (n := 5) (fun _ => rfl) (k := k) (by omega) _ rfl
            rw [Nat.mul_one] at hix2
            have hix3 := ix (P := Tryz.prog) (T := 42) (cap := cap3) Tryz.underlying42 cells_int64 has_int64 (b := b3) (off := off3) (n := 5) (fun _ => rfl) (k := k) (by omega) _ rfl
            rw [Nat.mul_one] at hix3
            have hb5 : k < bs.length := by rw [HNB.out]; exact hlt
            have hcr1 : wr.cell? ⟨b2, off2 + k, none⟩ = some (us.getD k nv) := HC2.out _ br0 _ _ (by omega) (getDv (by rw [HUS.out]; exact hlt))
            have hcb : ∀ w', Below wr.heap.size wr w' → w'.cell? ⟨b3, off3 + k, none⟩ = some (.int .i64 (bs.getD k 0)) := fun w' h => by
              rw [getD_eq hb5]; exact HC3.out _ (br0.trans (h.mono zr0)) _ _ (by omega) (intsAt hb5)
            have hrow := HROW.out k hlt
            have hke := HOK.out k
            have hno := fun h => HEND.out k hlt (hke.trans h)
            have hnx : okRow nz (ws.getD k []) (bs.getD k 0) = true → ∀ j, j < k + 1 → okK zs ws bs j = true := fun h j hj => by
              rcases Nat.lt_or_ge j k with h1 | h1
              · exact HX.out j h1
              · rw [show j = k by omega, hke]; exact h
            have HNO := Lib.hid hno; clear hno
            have HNX := Lib.hid hnx; clear hnx
            have HCB := Lib.hid hcb; clear hcb
            clear hke hb5
            generalize ws.getD k [] = row at *
            generalize bs.getD k 0 = bk at *
            generalize us.getD k nv = u at *
            have hmx := fun h w' (hb : Below wr.heap.size wr w') => Max_c u row w' ((hrow.later br0).later hb) h
            have hcf := fun w' (hb : Below wr.heap.size wr w') => ContainsFuncInt_c 119 #[] (fun x => !inW x) u row w' ((hrow.later br0).later hb) (enters Tryz.func119 (by kernel_rfl) rfl) (fun x _ w' _ => ValidModel1_c x w')
            rw [any_not] at hcf
            have hspx := fun h h' => sum_pos_iff (row := row) h h'
            have HSPX := Lib.hid hspx; clear hspx
            generalize hrn : row.length = rn at *
            have HRN := Lib.hid hrn; clear hrn
            obtain ⟨hnr, aor, capr, br, offr, rfl, haor, hcellr⟩ := hrow.open
            clear hrow hcellr haor
            by_cases h3 : rn = nz
            · subst h3
              have hmx := hmx hz1
              cases t2 : row.all inW
              · rw [t2] at hcf
                have hf := HNO.out (by simp [okRow, t2])
                have HF := Lib.hid hf; clear hf
                have HCF := Lib.hid hcf; clear hcf
                have HMX := Lib.hid hmx; clear hmx
                generalize maxI row = mx at *
                cases t3 : (mx == 0)
                · skip
                  go_wp2_with fail
                  refine (HMX.out _ (Below.refl _ _)).mono ?_
                  rintro _ _ ⟨rfl, rfl⟩
                  go_wp2_with (go_at_call 118; refine (HCF.out _ (Below.refl _ _)).mono ?_; rintro _ w5 ⟨rfl, s5⟩)
                  go_returns
                  exact RetB.mk (bool_eq HF.out.symm) (br0.trans (s5.mono zr0))
                · skip
                  go_wp2_with fail
                  refine (HMX.out _ (Below.refl _ _)).mono ?_
                  rintro _ _ ⟨rfl, rfl⟩
                  go_wp2
                  go_returns
                  exact RetB.mk (bool_eq HF.out.symm) br0
              · rw [t2] at hcf
                have hsp := HSPX.out hz1 t2
                have hfin : okRow rn row bk = (inB bk 1 1000000000 && !(row.sum == 0)) := by simp [okRow, t2, HRN.out]
                rw [hfin, ← hsp] at HNO HNX
                clear hfin hsp HSPX
                have HCF := Lib.hid hcf; clear hcf
                have HMX := Lib.hid hmx; clear hmx
                generalize maxI row = mx at *
                cases t3 : (mx == 0)
                · rw [t3] at HNO HNX
                  go_wp2_with fail
                  refine (HMX.out _ (Below.refl _ _)).mono ?_
                  rintro _ _ ⟨rfl, rfl⟩
                  go_wp2_with fail
                  refine (HCF.out _ (Below.refl _ _)).mono ?_
                  rintro _ wr1 ⟨rfl, rr1⟩
                  have sr1 := rr1
                  have br1 := br0.trans (sr1.mono zr0)
                  have zr1 := br1.size
                  have yr1 := sr1.size
                  have c0_0_r1 := below_cell sr1 c0_0_r0; clear c0_0_r0
                  have c0_1_r1 := below_cell sr1 c0_1_r0; clear c0_1_r0
                  have c0_2_r1 := below_cell sr1 c0_2_r0; clear c0_2_r0
                  clear rr1
                  have hcb2 := HCB.out _ sr1
                  cases t4 : inB bk 1 1000000000
                  · have hf := HNO.out (by rw [t4]; rfl)
                    have HF := Lib.hid hf; clear hf
                    go_wp2_with (go_at_call 56; refine (within_is _ t4).mono ?_; rintro _ _ ⟨rfl, rfl⟩)
                    go_returns
                    exact RetB.mk (bool_eq HF.out.symm) br1
                  · have hf := HNX.out (by rw [t4]; rfl)
                    have HF := Lib.hid hf; clear hf
                    go_wp2_with (go_at_call 56; refine (within_is _ t4).mono ?_; rintro _ _ ⟨rfl, rfl⟩)
                    go_roundw
                    case rel => exact ⟨k + 1, by omega, by go_num, HF.out, (by first | exact br1 | exact below_drewN br1 _ | go_grown), (by first | exact c0_0_r1 | exact alloc_cell _ c0_0_r1 | exact below_cell (below_drewN (Below.refl _ _) _) c0_0_r1 | simp [go_sem, c0_0_r1]), (by first | exact c0_1_r1 | exact alloc_cell _ c0_1_r1 | exact below_cell (below_drewN (Below.refl _ _) _) c0_1_r1 | simp [go_sem, c0_1_r1]), (by first | exact c0_2_r1 | exact alloc_cell _ c0_2_r1 | exact below_cell (below_drewN (Below.refl _ _) _) c0_2_r1 | simp [go_sem, c0_2_r1])⟩
                    case measure => simp [intOf]; omega
                · have hf := HNO.out (by rw [t3]; simp)
                  have HF := Lib.hid hf; clear hf
                  go_wp2_with fail
                  refine (HMX.out _ (Below.refl _ _)).mono ?_
                  rintro _ _ ⟨rfl, rfl⟩
                  go_wp2
                  go_returns
                  exact RetB.mk (bool_eq HF.out.symm) br0
            · have h3' : ¬ ((rn : Int) = nz) := by omega
              have hf := HNO.out (by simp [okRow, HRN.out, h3])
              have HF := Lib.hid hf; clear hf
              clear hmx hcf
              go_wp2
              go_returns
              exact RetB.mk (bool_eq HF.out.symm) br0
          · obtain rfl : k = 5 := by omega
            go_wp2
            go_returns
            exact RetB.mk (bool_eq (HYES.out HX.out).symm) br0
      · go_enter Tryz.func64, Tryz.ntmps64
        have b0 : Below w.heap.size w w := Below.refl _ _
        have z0 : w.heap.size ≤ w.heap.size := Nat.le_refl _
        go_wp2_with fail
        refine (HZO.out _ (by go_grown)).mono ?_
        rintro _ _ ⟨rfl, rfl⟩
        go_wp2
        go_returns
        exact RetB.mk (bool_eq (by simp [h2])) (by go_grown)
    · go_enter Tryz.func64, Tryz.ntmps64
      have b0 : Below w.heap.size w w := Below.refl _ _
      have z0 : w.heap.size ≤ w.heap.size := Nat.le_refl _
      go_wp2_with fail
      refine (HZO.out _ (by go_grown)).mono ?_
      rintro _ _ ⟨rfl, rfl⟩
      go_wp2
      go_returns
      exact RetB.mk (bool_eq (by simp [h1])) (by go_grown)

end Go.Proofs.YtgdadbmhdljcdaaGreatDoor

