/- The raw partials: the program's list; RawPartials, both. -/
import Derived.Test.YtmeeibcbhjifbaaRaw3
import Derived.Test.YtmeeibcbhjifbaaRaw4
namespace Go.Proofs.Ytmeeibcbhjifbaa
set_option linter.unusedVariables false
open Go.RowKit Go.Proofs.Bell Go.BigFrame

set_option maxRecDepth 100000 in
set_option maxHeartbeats 6400000 in
theorem rawPartials_c (zv wv bv : Value) (zs : List Int) (ws : List (List Int)) (bs : List Int) (nm : ByteArray) (sv : Value) (ps : List (Int × Int × Int)) (w : World) (hz : Rd w zv zs.length (ints zs)) (hw : RdSS w wv ws) (hb : Rd w bv bs.length (ints bs)) (hr : Rd w sv ps.length (trips ps)) (hmb : modelB zs ws bs = true) (hl1 : 1 ≤ ps.length) (hl2 : ps.length ≤ 32) (hal : ps.all ringT = true) (hzb : zonesB zs ((ps.length : Int) - 1) = true) :
    Calls Try.prog 76 #[.agg #[zv, wv, bv], .agg #[.string nm, sv]] w (RetOwnI (rawL ps zs ws bs) w) := by
  obtain ⟨_, hz8, hw5, hb5, _⟩ := modelB_t hmb
  have hwe := fun w' (hx : Below w.heap.size w w') => weighted_c zv wv bv zs ws bs nm sv ps w' (hz.later hx) (hw.later hx) (hr.later hx) hmb hl1 hl2 hal hzb
  have hwl := zwK_len ps zs zs.length
  have hlb := lipI_bd hl1 hal
  have hmbd := fun k (hk : k < 5) => (momK_bd (walls := zwK ps zs zs.length) (row := ws.getD k []) (zw_bd hal hzb) (row_bd hmb k hk).2.1 (zwK ps zs zs.length).length)
  have hbb := fun k (hk : k < 5) => (row_bd hmb k hk).2.2
  have hst := fun k => (show rawK (zwK ps zs zs.length) ws bs (lipI ps) k ++ [rnd (bs.getD k 0 * momK (zwK ps zs zs.length) (ws.getD k []) (zwK ps zs zs.length).length) (lipI ps)] = rawK (zwK ps zs zs.length) ws bs (lipI ps) (k + 1) from rfl)
  have hrl := rawK_len (zwK ps zs zs.length) ws bs (lipI ps)
  have hsl := sumsK_len (zwK ps zs zs.length) ws 5
  have hsa := fun k (hk : k < 5) => sumsK_at (zwK ps zs zs.length) ws 5 k hk
  unfold rawL
  have hwl2 : (zwK ps zs zs.length).length ≤ 8 := by omega
  generalize zwK ps zs zs.length = walls at *
  generalize sumsK walls ws 5 = sums at *
  rw [hb5] at hb
  obtain ⟨hn3, ao3, cap3, b3, off3, rfl, hao3, hcell3⟩ := hb.open
  have hsv : ∃ ao n cap, sv = .slice ao n cap := by obtain ⟨_, ao, cap, _, _, h, _⟩ := hr.open; exact ⟨_, _, _, h⟩
  have hzv : ∃ ao n cap, zv = .slice ao n cap := by obtain ⟨_, ao, cap, _, _, h, _⟩ := hz.open; exact ⟨_, _, _, h⟩
  have hwv : ∃ ao n cap, wv = .slice ao n cap := by obtain ⟨us, _, hru, _⟩ := hw; obtain ⟨_, ao, cap, _, _, h, _⟩ := hru.open; exact ⟨_, _, _, h⟩
  obtain ⟨aos, ns, caps, rfl⟩ := hsv
  obtain ⟨aoz, nz, capz, rfl⟩ := hzv
  obtain ⟨aow, nw, capw, rfl⟩ := hwv
  obtain rfl : ao3 = some ⟨b3, off3, none⟩ := hao3 (by omega)
  clear hao3 hz hb hw hr hmb hal hzb hwl
  have HWE := Lib.hid hwe; clear hwe
  have HMBD := Lib.hid hmbd; clear hmbd
  have HBB := Lib.hid hbb; clear hbb
  have HST := Lib.hid hst; clear hst
  have HRL := Lib.hid hrl; clear hrl
  have HC3 := Lib.hid hcell3; clear hcell3
  have HB5 := Lib.hid hb5; clear hb5
  have HSA := Lib.hid hsa; clear hsa
  have HW5 := Lib.hid hw5; clear hw5
  generalize lipI ps = d at *
  go_enter Try.func76, Try.ntmps76
  have b0 : Below w.heap.size w w := Below.refl _ _
  have z0 : w.heap.size ≤ w.heap.size := Nat.le_refl _
  go_wp2_with fail
  refine (HWE.out _ (by go_grown)).mono ?_
  rintro _ w1 ⟨x1, rfl, n1, r1⟩
  have s1 : Below w.heap.size w w1 := Below.trans (by go_grown) (r1.mono (by simp; try omega))
  have b1 := b0.trans (s1.mono z0)
  have z1 := b1.size
  have y1 := s1.size
  have c0_0_1 := below_cell r1 (p := ⟨w.heap.size, 0, none⟩) (v := .slice aoz nz capz) (by simp [go_sem])
  have c0_1_1 := below_cell r1 (p := ⟨w.heap.size, 1, none⟩) (v := .slice aow nw capw) (by simp [go_sem])
  have c0_2_1 := below_cell r1 (p := ⟨w.heap.size, 2, none⟩) (v := .slice (some ⟨b3, off3, none⟩) 5 cap3) (by simp [go_sem])
  have c1_0_1 := below_cell r1 (p := ⟨w.heap.size + 1, 0, none⟩) (v := .string nm) (by simp [go_sem])
  have c1_1_1 := below_cell r1 (p := ⟨w.heap.size + 1, 1, none⟩) (v := .slice aos ns caps) (by simp [go_sem])
  clear r1
  obtain ⟨ax, cx, rfl⟩ := own_shape n1
  have rdx : Rd w1 (.slice ax 5 cx) 5 (ints sums) := by
    have h := Rd.of_own n1
    rw [hsl] at h
    exact h
  obtain ⟨hn4, ao4, cap4, b4, off4, hv4, hao4, hcell4⟩ := rdx.open
  cases hv4
  have HC4 := Lib.hid hcell4; clear hcell4
  clear rdx n1
  rw [hsl]
  have HSL := Lib.hid hsl; clear hsl
  have zz9 : w.heap.size + 1 < w1.heap.size := World.block_lt_of_cell? _ ⟨w.heap.size + 1, 0, none⟩ c1_0_1
  go_wp2_with fail
  go_loopw [18, 7] (fun i u wr => ∃ (k : Nat), k ≤ 5 ∧ i = .int .i64 k ∧ OwnI w1.heap.size wr u (rawK walls ws bs d k) ∧ Below w1.heap.size w1 wr ∧ Below w.heap.size w wr ∧ wr.cell? ⟨w.heap.size, 0, none⟩ = some (.slice aoz nz capz) ∧ wr.cell? ⟨w.heap.size, 1, none⟩ = some (.slice aow nw capw) ∧ wr.cell? ⟨w.heap.size, 2, none⟩ = some (.slice (some ⟨b3, off3, none⟩) 5 cap3) ∧ wr.cell? ⟨w.heap.size + 1, 0, none⟩ = some (.string nm) ∧ wr.cell? ⟨w.heap.size + 1, 1, none⟩ = some (.slice aos ns caps)) (fun i u _ => 5 - (intOf i).toNat)
  case atStart => exact ⟨0, Nat.zero_le _, rfl, World.ownsRow_nil _ _ _ _, Below.refl _ _, b1, c0_0_1, c0_1_1, c0_2_1, c1_0_1, c1_1_1⟩
  case round =>
    obtain ⟨k, hk, rfl, ho, hb1, br0, c0_0_r0, c0_1_r0, c0_2_r0, c1_0_r0, c1_1_r0⟩ := hrel
    have zr0 := br0.size
    have hlk := HRL.out k
    have hlo := own_lo ho
    have HO := Lib.hid ho; clear ho
    have LO := Lib.hid hlo; clear hlo
    by_cases hlt : k < 5
    · have q1 : (0 : Int) ≤ (k : Int) := by omega
      have q2 : (k : Int) < 5 := by omega
      have hix3 := ix (P := Try.prog) (T := 38) (n := 5) (cap := cap3) Try.underlying38 cells_int64 has_int64 (ao := some ⟨b3, off3, none⟩) (b := b3) (off := off3) (fun _ => rfl) (k := k) hlt _ rfl
      rw [Nat.mul_one] at hix3
      have hix4 := ix (P := Try.prog) (T := 38) (n := 5) (cap := cx) Try.underlying38 cells_int64 has_int64 hao4 (k := k) hlt _ rfl
      rw [Nat.mul_one] at hix4
      have hlb5 : k < bs.length := by rw [HB5.out]; exact hlt
      have hls5 : k < sums.length := by rw [HSL.out]; exact hlt
      have hb3' : wr.cell? ⟨b3, off3 + k, none⟩ = some (.int .i64 (bs.getD k 0)) := by rw [getD_eq hlb5]; exact HC3.out _ br0 _ _ (by omega) (intsAt hlb5)
      have hs4 : wr.cell? ⟨b4, off4 + k, none⟩ = some (.int .i64 (sums.getD k 0)) := by rw [getD_eq hls5]; exact HC4.out _ hb1 _ _ (by omega) (intsAt hls5)
      rw [HSA.out k hlt] at hs4
      have hm := HMBD.out k hlt
      have hbk := HBB.out k hlt
      have hpr := base_bd hbk.1 hbk.2 hm.1 (by omega)
      have hdv := fun w' => nearest_c (bs.getD k 0 * momK walls (ws.getD k []) walls.length) d w' (by omega) (by omega) (by omega) (by omega)
      have hs := HST.out k
      have HDV := Lib.hid hdv; clear hdv
      have HS := Lib.hid hs; clear hs
      generalize bs.getD k 0 = bk at *
      generalize momK walls (ws.getD k []) walls.length = mo at *
      generalize rnd (bk * mo) d = res at *
      generalize rawK walls ws bs d k = qs at *
      have g1 : IntKind.i64.wrap (bk * mo) = bk * mo := IntWalk.i64_in _ (by omega)
      go_wp2_with fail
      refine (HDV.out _).mono ?_
      rintro _ wr1 ⟨rfl, dr1⟩
      have rr1 := Dr.below dr1; clear dr1
      have sr1 := rr1
      have br1 := br0.trans (sr1.mono zr0)
      have zr1 := br1.size
      have yr1 := sr1.size
      have c0_0_r1 := below_cell sr1 c0_0_r0; clear c0_0_r0
      have c0_1_r1 := below_cell sr1 c0_1_r0; clear c0_1_r0
      have c0_2_r1 := below_cell sr1 c0_2_r0; clear c0_2_r0
      have c1_0_r1 := below_cell sr1 c1_0_r0; clear c1_0_r0
      have c1_1_r1 := below_cell sr1 c1_1_r0; clear c1_1_r0
      have o1_r1 := own_later HO.out sr1; have O1_r1 := Lib.hid o1_r1; clear o1_r1
      clear rr1
      have zz3 : w1.heap.size ≤ wr1.heap.size := Nat.le_trans hb1.size yr1
      go_wp2_with (at_builtin; refine app_I (.tmp 23) (.tmp 33) _ _ _ _ _ (by rfl) (by rfl) (by rfl) (by rfl) O1_r1.out (by omega) zz3 ?_; intro v2 w9 o9 q9)
      have d0 := cell_only q9 c0_0_r1 (fun h => by have := LO.out _ h; simp at this; omega)
      have d1 := cell_only q9 c0_1_r1 (fun h => by have := LO.out _ h; simp at this; omega)
      have d2 := cell_only q9 c0_2_r1 (fun h => by have := LO.out _ h; simp at this; omega)
      have d3 := cell_only q9 c1_0_r1 (fun h => by have := LO.out _ h; simp at this; omega)
      have d4 := cell_only q9 c1_1_r1 (fun h => by have := LO.out _ h; simp at this; omega)
      have hb2 := Only.below br1 q9 zr1 (fun k h => by have := LO.out k h; omega)
      have hb4 := Only.below (hb1.trans (sr1.mono hb1.size)) q9 zz3 (fun k h => LO.out k h)
      go_wp2
      go_roundw
      case rel => exact ⟨k + 1, by omega, by go_num, by rw [← HS.out]; exact o9, hb4, hb2, d0, d1, d2, d3, d4⟩
      case measure => simp [intOf]; omega
    · obtain rfl : k = 5 := by omega
      go_wp2
      go_returns
      exact ⟨_, rfl, own_base HO.out (by omega), br0⟩

set_option maxRecDepth 100000 in
set_option maxHeartbeats 1600000 in
theorem implRawPartials_c (zv wv bv : Value) (zs : List Int) (ws : List (List Int)) (bs : List Int) (nm : ByteArray) (sv : Value) (ps : List (Int × Int × Int)) (w : World) (hz : Rd w zv zs.length (ints zs)) (hw : RdSS w wv ws) (hb : Rd w bv bs.length (ints bs)) (hnm : nm.size ≤ maxLen) (hr : Rd w sv ps.length (trips ps)) :
    Calls Try.prog 28 #[.agg #[zv, wv, bv], .agg #[.string nm, sv]] w (RetI2 (rawI zs ws bs nm ps).1 (.int .i64 (rawI zs ws bs nm ps).2) w) := by
  have hask := fun w' (hx : Below w.heap.size w w') => modelled_c zv wv bv zs ws bs nm sv ps w' (hz.later hx) (hw.later hx) (hb.later hx) hnm (hr.later hx)
  by_cases t0 : ¬ modAsk zs ws bs nm ps = 0
  · have he : rawI zs ws bs nm ps = ([], modAsk zs ws bs nm ps) := by simp [rawI, t0]
    rw [he]
    generalize modAsk zs ws bs nm ps = code at *
    have HASK := Lib.hid hask; clear hask
    clear he hz hw hb hr
    go_enter Try.func28, Try.ntmps28
    have b0 : Below w.heap.size w w := Below.refl _ _
    have z0 : w.heap.size ≤ w.heap.size := Nat.le_refl _
    go_wp2_with fail
    refine (HASK.out _ (by go_grown)).mono ?_
    rintro _ w1 ⟨rfl, r1⟩
    have s1 : Below w.heap.size w w1 := Below.trans (by go_grown) (r1.mono (by simp; try omega))
    have b1 := b0.trans (s1.mono z0)
    have z1 := b1.size
    have y1 := s1.size
    have c0_0_1 := below_cell r1 (p := ⟨w.heap.size, 0, none⟩) (v := zv) (by simp [go_sem])
    have c0_1_1 := below_cell r1 (p := ⟨w.heap.size, 1, none⟩) (v := wv) (by simp [go_sem])
    have c0_2_1 := below_cell r1 (p := ⟨w.heap.size, 2, none⟩) (v := bv) (by simp [go_sem])
    have c1_0_1 := below_cell r1 (p := ⟨w.heap.size + 1, 0, none⟩) (v := .string nm) (by simp [go_sem])
    have c1_1_1 := below_cell r1 (p := ⟨w.heap.size + 1, 1, none⟩) (v := sv) (by simp [go_sem])
    clear r1
    go_wp2
    go_returns
    exact ⟨_, rfl, World.ownsRow_nil _ _ _ _, b1⟩
  · have t0 : modAsk zs ws bs nm ps = 0 := Classical.not_not.1 t0
    have he : rawI zs ws bs nm ps = (rawL ps zs ws bs, 0) := by simp [rawI, t0]
    rw [he]
    rw [t0] at hask
    obtain ⟨t1, t2, t3⟩ := modAsk_ok t0
    obtain ⟨hl1, hl2, hal, hht⟩ := profB_t t2
    have hrw := fun w' (hx : Below w.heap.size w w') => rawPartials_c zv wv bv zs ws bs nm sv ps w' (hz.later hx) (hw.later hx) (hb.later hx) (hr.later hx) t1 hl1 hl2 hal t3
    have HASK := Lib.hid hask; clear hask
    have HRW := Lib.hid hrw; clear hrw
    clear he hz hw hb hr t0 t1 t2 t3 hal hht
    generalize rawL ps zs ws bs = RES at *
    go_enter Try.func28, Try.ntmps28
    have b0 : Below w.heap.size w w := Below.refl _ _
    have z0 : w.heap.size ≤ w.heap.size := Nat.le_refl _
    go_wp2_with fail
    refine (HASK.out _ (by go_grown)).mono ?_
    rintro _ w1 ⟨rfl, r1⟩
    have s1 : Below w.heap.size w w1 := Below.trans (by go_grown) (r1.mono (by simp; try omega))
    have b1 := b0.trans (s1.mono z0)
    have z1 := b1.size
    have y1 := s1.size
    have c0_0_1 := below_cell r1 (p := ⟨w.heap.size, 0, none⟩) (v := zv) (by simp [go_sem])
    have c0_1_1 := below_cell r1 (p := ⟨w.heap.size, 1, none⟩) (v := wv) (by simp [go_sem])
    have c0_2_1 := below_cell r1 (p := ⟨w.heap.size, 2, none⟩) (v := bv) (by simp [go_sem])
    have c1_0_1 := below_cell r1 (p := ⟨w.heap.size + 1, 0, none⟩) (v := .string nm) (by simp [go_sem])
    have c1_1_1 := below_cell r1 (p := ⟨w.heap.size + 1, 1, none⟩) (v := sv) (by simp [go_sem])
    clear r1
    go_wp2_with fail
    refine (HRW.out _ b1).mono ?_
    rintro _ w2 ⟨x2, rfl, n2, r2⟩
    have s2 := r2
    have b2 := b1.trans (s2.mono z1)
    have z2 := b2.size
    have y2 := s2.size
    have c0_0_2 := below_cell s2 c0_0_1; clear c0_0_1
    have c0_1_2 := below_cell s2 c0_1_1; clear c0_1_1
    have c0_2_2 := below_cell s2 c0_2_1; clear c0_2_1
    have c1_0_2 := below_cell s2 c1_0_1; clear c1_0_1
    have c1_1_2 := below_cell s2 c1_1_1; clear c1_1_1
    clear r2
    go_wp2
    go_returns
    exact ⟨_, rfl, own_base n2 (by omega), b2⟩

end Go.Proofs.Ytmeeibcbhjifbaa
