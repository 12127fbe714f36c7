/- Several texts of the proofs in one: FitS, FitI, FitJ, Gst, Std, Std2. -/
import Derived.Test.YtgdadbmhdljcdaaGreatDoorGE
import Derived.Test.YtgdadbmhdljcdaaGreatDoorGF
import Derived.Test.YtgdadbmhdljcdaaGreatDoorUE
import Derived.Test.YtgdadbmhdljcdaaGreatDoorVD
import Derived.Test.YtgdadbmhdljcdaaGreatDoorVF
import Derived.Test.YtgdadbmhdljcdaaGreatDoorWM
import Derived.Deep.RegionLaw
/- A model fitted to a sound: the reference. -/
namespace Go.Proofs.YtgdadbmhdljcdaaGreatDoor
set_option linter.unusedVariables false
open Go.RowKit Go.Proofs.Bell Go.BigFrame

def fitI (zs : List Int) (ws : List (List Int)) (bs : List Int) (ps : List (Int × Int × Int)) (ls : List Int) : (List Int × List (List Int) × List Int) × Bool :=
  if fitOkK ls (sumsK (zwK ps zs zs.length) ws 5) (lipI ps) 5 then ((zs, ws, fitK ls (sumsK (zwK ps zs zs.length) ws 5) (lipI ps) bs 5), true) else (([], [], []), false)
theorem fitI_f {zs : List Int} {ws : List (List Int)} {bs : List Int} {ps : List (Int × Int × Int)} {ls : List Int} {k : Nat} (hk : k < 5) (h : inB (fitV ls (sumsK (zwK ps zs zs.length) ws 5) (lipI ps) k) 1 1000000000 = false) : fitI zs ws bs ps ls = (([], [], []), false) := by
  have : fitOkK ls (sumsK (zwK ps zs zs.length) ws 5) (lipI ps) 5 = false := fitOk_mono (k := k + 1) (by omega) (by rw [fitOkK, h]; simp)
  simp [fitI, this]

set_option maxRecDepth 100000 in
set_option maxHeartbeats 6400000 in
theorem l08Fit_c (g g' g'' : Nat) (zv wv bv : Value) (zs : List Int) (ws : List (List Int)) (bs : List Int) (nm : ByteArray) (sv : Value) (ps : List (Int × Int × Int)) (a b c d f : Int) (w : World) (c0 : w.cell? ⟨g, 0, none⟩ = some zv) (c1 : w.cell? ⟨g, 1, none⟩ = some wv) (c2 : w.cell? ⟨g, 2, none⟩ = some bv) (d1 : w.cell? ⟨g', 1, none⟩ = some sv)
    (e0 : w.cell? ⟨g'', 0, none⟩ = some (.int .i64 a)) (e1 : w.cell? ⟨g'', 1, none⟩ = some (.int .i64 b)) (e2 : w.cell? ⟨g'', 2, none⟩ = some (.int .i64 c)) (e3 : w.cell? ⟨g'', 3, none⟩ = some (.int .i64 d)) (e4 : w.cell? ⟨g'', 4, none⟩ = some (.int .i64 f))
    (hz : Rd w zv zs.length (ints zs)) (hw : RdSS w wv ws) (hb : Rd w bv bs.length (ints bs)) (hr : Rd w sv ps.length (trips ps)) (hmb : modelB zs ws bs = true) (hl1 : 1 ≤ ps.length) (hl2 : ps.length ≤ 32) (hal : ps.all ringT = true) (hzb : zonesB zs ((ps.length : Int) - 1) = true)
    (hls : ∀ k, k < 5 → 0 ≤ [a, b, c, d, f].getD k 0 ∧ [a, b, c, d, f].getD k 0 ≤ 30000000) :
    Calls Tryz.prog 148 #[.pointer (some ⟨g, 0, none⟩), .pointer (some ⟨g', 0, none⟩), .pointer (some ⟨g'', 0, none⟩)] w (RetM2 (fitI zs ws bs ps [a, b, c, d, f]).1.1 (fitI zs ws bs ps [a, b, c, d, f]).1.2.1 (fitI zs ws bs ps [a, b, c, d, f]).1.2.2 (.bool (fitI zs ws bs ps [a, b, c, d, f]).2) w) := by
  have hg' : g' < w.heap.size := World.block_lt_of_cell? w _ d1
  have hg2 : g'' < w.heap.size := World.block_lt_of_cell? w _ e0
  obtain ⟨hz1, hz8, hw5, hb5, _⟩ := modelB_t hmb
  have how := fun w' (hx : Below w.heap.size w w') => l08Own_c g zv wv bv zs ws bs w' (below_cell hx c0) (below_cell hx c1) (below_cell hx c2) (hz.later hx) (hw.later hx) (hb.later hx) hz1 (by omega) (by omega) (by omega) (by omega) (by omega) (fun k hk => by have := (row_bd hmb k (by omega)).1; omega)
  have hwa := fun w' (hx : Below w.heap.size w w') => l08Walls_c g' nm sv ps zv zs w' (by have := hx.size; omega) (below_cell hx d1) (hr.later hx) (hz.later hx) hal hl2 hzb
  have hli := fun w' (hx : Below w.heap.size w w') => l04ListO_c a b c d f g'' w' (below_cell hx e0) (below_cell hx e1) (below_cell hx e2) (below_cell hx e3) (below_cell hx e4)
  have hwl := zwK_len ps zs zs.length
  have hmo := fun w' vw k (hk : k < 5) (hx : Below w.heap.size w w') (h : Rd w' vw (zwK ps zs zs.length).length (ints (zwK ps zs zs.length))) => l08Moment_c g wv ws vw (zwK ps zs zs.length) k w' (below_cell hx c1) (hw.later hx) h (by omega) (by rw [hwl]; exact (row_bd hmb k hk).1) (by omega) (zw_bd hal hzb) (row_bd hmb k hk).2.1
  have har := fun w' (hx : Below w.heap.size w w') => l08Area_c g' sv ps w' (below_cell hx d1) (hr.later hx) hl1 hal
  have hlb := lipI_bd hl1 hal
  have hmp : ∀ k, k < 5 → 1 ≤ momK (zwK ps zs zs.length) (ws.getD k []) (zwK ps zs zs.length).length := fun k (hk : k < 5) => by rw [hwl]; exact mom_pos hal hzb hmb hk
  have hmbd := fun k (hk : k < 5) => (momK_bd (walls := zwK ps zs zs.length) (row := ws.getD k []) (zw_bd hal hzb) (row_bd hmb k hk).2.1 (zwK ps zs zs.length).length)
  have hsa := fun k (hk : k < 5) => sumsK_at (zwK ps zs zs.length) ws 5 k hk
  have hbad := fun k (hk : k < 5) h => fitI_f (zs := zs) (ws := ws) (bs := bs) (ps := ps) (ls := [a, b, c, d, f]) hk h
  have hgood : fitOkK [a, b, c, d, f] (sumsK (zwK ps zs zs.length) ws 5) (lipI ps) 5 = true → fitI zs ws bs ps [a, b, c, d, f] = ((zs, ws, fitK [a, b, c, d, f] (sumsK (zwK ps zs zs.length) ws 5) (lipI ps) bs 5), true) := fun h => by simp [fitI, h]
  have hl5 : [a, b, c, d, f].length = 5 := rfl
  generalize fitI zs ws bs ps [a, b, c, d, f] = RES at *
  generalize sumsK (zwK ps zs zs.length) ws 5 = sums at *
  generalize zwK ps zs zs.length = walls at *
  generalize [a, b, c, d, f] = ls at *
  have hkl := fun k => fitK_len ls sums (lipI ps) bs k
  have hks := fun k => (show (fitK ls sums (lipI ps) bs k).set k (fitV ls sums (lipI ps) k) = fitK ls sums (lipI ps) bs (k + 1) from rfl)
  have hko := fun k => (show (fitOkK ls sums (lipI ps) k && inB (fitV ls sums (lipI ps) k) 1 1000000000) = fitOkK ls sums (lipI ps) (k + 1) from rfl)
  have hkv := fun k => (show fitV ls sums (lipI ps) k = rnd (ls.getD k 0 * lipI ps) (sums.getD k 0) from rfl)
  have hk0 : fitK ls sums (lipI ps) bs 0 = bs := rfl
  have hk1 : fitOkK ls sums (lipI ps) 0 = true := rfl
  have hzc := below_cell (w := w) (w' := w) (Below.refl _ _) c0
  have hcz := fun w' (hx : Below w.heap.size w w') => below_cell hx c0
  obtain ⟨hnq, aoq, capq, bq, offq, rfl, haoq, hcellq⟩ := hz.open
  clear hz hcellq haoq hzc c0 c1 c2 d1 e0 e1 e2 e3 e4 hw hr hb hmb hal hzb
  generalize lipI ps = area at *
  have HOW := Lib.hid how; clear how
  have HWA := Lib.hid hwa; clear hwa
  have HLI := Lib.hid hli; clear hli
  have HMO := Lib.hid hmo; clear hmo
  have HAR := Lib.hid har; clear har
  have HMP := Lib.hid hmp; clear hmp
  have HMBD := Lib.hid hmbd; clear hmbd
  have HSA := Lib.hid hsa; clear hsa
  have HBAD := Lib.hid hbad; clear hbad
  have HGOOD := Lib.hid hgood; clear hgood
  have HKL := Lib.hid hkl; clear hkl
  have HKS := Lib.hid hks; clear hks
  have HKO := Lib.hid hko; clear hko
  have HKV := Lib.hid hkv; clear hkv
  have HK0 := Lib.hid hk0; clear hk0
  have HK1 := Lib.hid hk1; clear hk1
  have HCZ := Lib.hid hcz; clear hcz
  have HLS := Lib.hid hls; clear hls
  have HL5 := Lib.hid hl5; clear hl5
  have HW5 := Lib.hid hw5; clear hw5
  have HB5 := Lib.hid hb5; clear hb5
  have HWL := Lib.hid hwl; clear hwl
  go_enter Tryz.func148, Tryz.ntmps148
  have b0 : Below w.heap.size w w := Below.refl _ _
  have z0 : w.heap.size ≤ w.heap.size := Nat.le_refl _
  go_wp2_with fail
  refine (HOW.out _ (by go_grown)).mono ?_
  rintro _ w1 ⟨zv1, wv1, bv1, us, rfl, om, r1⟩
  obtain ⟨az, cz, rfl⟩ := own_shape om.z
  obtain ⟨aw, cw, rfl⟩ := own_shape om.s.row
  obtain ⟨gb, cb, rfl, hgb1, hgb2⟩ := World.ownsRow.form om.b (by rw [HB5.out]; decide)
  have om := om.wide (show w.heap.size + 1 ≤ _ by simp) (Nat.le_refl _)
  have OM := Lib.hid om; clear om
  have s1 : Below w.heap.size w w1 := Below.trans (by go_grown) (r1.mono (by simp; try omega))
  have b1 := b0.trans (s1.mono z0)
  have z1 := b1.size
  have y1 := s1.size
  have v1 : w.heap.size + 1 ≤ w1.heap.size := by have := r1.size; simp only [World.size_alloc] at this; omega
  have c0_0_1 := below_cell r1 (p := ⟨w.heap.size, 0, none⟩) (v := .slice none 0 0) (by simp [go_sem])
  have c0_1_1 := below_cell r1 (p := ⟨w.heap.size, 1, none⟩) (v := .slice none 0 0) (by simp [go_sem])
  have c0_2_1 := below_cell r1 (p := ⟨w.heap.size, 2, none⟩) (v := .slice none 0 0) (by simp [go_sem])
  have f0_1 : ∀ j, w1.frozen? ⟨w.heap.size, j, none⟩ = false := fun j => (r1.frozen (p := ⟨w.heap.size, j, none⟩) (by simp [go_sem])).trans (by simp [go_sem])
  have hq0 := HCZ.out _ b1
  have hq1 := fun o => alloc_cell o hq0
  go_wp2_with fail
  refine (HWA.out _ (by go_grown)).mono ?_
  rintro _ w2 ⟨x2, rfl, n2, r2⟩
  have s2 : Below w1.heap.size w1 w2 := Below.trans (by go_grown) (r2.mono (by simp; try omega))
  have b2 := b1.trans (s2.mono z1)
  have z2 := b2.size
  have y2 := s2.size
  have v2 : w1.heap.size + 1 ≤ w2.heap.size := by have := r2.size; simp only [World.size_alloc] at this; omega
  have k0_2 := c0_0_1
  have c0_0_2 := below_cell s2 c0_0_1; clear c0_0_1
  have c0_1_2 := below_cell s2 c0_1_1; clear c0_1_1
  have c0_2_2 := below_cell s2 c0_2_1; clear c0_2_1
  have c1_0_2 := below_cell r2 (p := ⟨w1.heap.size, 0, none⟩) (v := .slice az zs.length cz) (by simp [go_sem])
  have c1_1_2 := below_cell r2 (p := ⟨w1.heap.size, 1, none⟩) (v := .slice aw ws.length cw) (by simp [go_sem])
  have c1_2_2 := below_cell r2 (p := ⟨w1.heap.size, 2, none⟩) (v := .slice (some ⟨gb, 0, none⟩) bs.length cb) (by simp [go_sem])
  have f0_2 : ∀ j, w2.frozen? ⟨w.heap.size, j, none⟩ = false := fun j => (s2.frozen (p := ⟨w.heap.size, j, none⟩) (show w.heap.size < _ from World.block_lt_of_cell? _ ⟨w.heap.size, 0, none⟩ k0_2)).trans (f0_1 j); clear f0_1
  have f1_2 : ∀ j, w2.frozen? ⟨w1.heap.size, j, none⟩ = false := fun j => (r2.frozen (p := ⟨w1.heap.size, j, none⟩) (by simp [go_sem])).trans (by simp [go_sem])
  clear r2
  obtain ⟨aw2, cw2, rfl⟩ := own_shape n2
  have lo2 := own_lo n2
  have N2 := Lib.hid n2; clear n2
  clear hq1 hq0
  go_wp2_with fail
  refine (HLI.out _ b2).mono ?_
  rintro _ w3 ⟨x3, rfl, n3, r3⟩
  have s3 := r3
  have b3 := b2.trans (s3.mono z2)
  have z3 := b3.size
  have y3 := s3.size
  have k0_3 := c0_0_2
  have c0_0_3 := below_cell s3 c0_0_2; clear c0_0_2
  have c0_1_3 := below_cell s3 c0_1_2; clear c0_1_2
  have c0_2_3 := below_cell s3 c0_2_2; clear c0_2_2
  have k1_3 := c1_0_2
  have c1_0_3 := below_cell s3 c1_0_2; clear c1_0_2
  have c1_1_3 := below_cell s3 c1_1_2; clear c1_1_2
  have c1_2_3 := below_cell s3 c1_2_2; clear c1_2_2
  have f0_3 : ∀ j, w3.frozen? ⟨w.heap.size, j, none⟩ = false := fun j => (s3.frozen (p := ⟨w.heap.size, j, none⟩) (show w.heap.size < _ from World.block_lt_of_cell? _ ⟨w.heap.size, 0, none⟩ k0_3)).trans (f0_2 j); clear f0_2
  have f1_3 : ∀ j, w3.frozen? ⟨w1.heap.size, j, none⟩ = false := fun j => (s3.frozen (p := ⟨w1.heap.size, j, none⟩) (show w1.heap.size < _ from World.block_lt_of_cell? _ ⟨w1.heap.size, 0, none⟩ k1_3)).trans (f1_2 j); clear f1_2
  clear r3
  have lo3 := own_lo n3
  obtain ⟨gl, cl, rfl, hgl1, hgl2⟩ := World.ownsRow.form n3 (by rw [HL5.out]; decide)
  have lo3 : w2.heap.size ≤ gl := lo3 gl rfl
  have om3 := (OM.out.later s2).later s3
  have n2 := own_later N2.out s3
  have hgbl : w.heap.size + 1 ≤ gb := own_lo om3.b gb rfl
  have hgbh : gb < w1.heap.size := om3.bh gb rfl
  have v2' : w1.heap.size + 1 ≤ w2.heap.size := by have := s2.size; first | omega | exact v2
  have sz3 : w2.heap.size ≤ w3.heap.size := s3.size
  have OM3 := Lib.hid om3; clear om3
  have N2' := Lib.hid n2; clear n2
  have N3 := Lib.hid n3; clear n3
  have LO2 := Lib.hid lo2; clear lo2
  clear OM N2
  go_wp2_with fail
  go_loopw [11] (fun i wr => ∃ (k : Nat), k ≤ 5 ∧ i = .int .i64 k ∧ Only (fun x => x = gb) w3 wr ∧ OwnI (w.heap.size + 1) wr (.slice (some ⟨gb, 0, none⟩) bs.length cb) (fitK ls sums area bs k) ∧ fitOkK ls sums area k = true) (fun i _ => 5 - (intOf i).toNat)
  case atStart => exact ⟨0, Nat.zero_le _, rfl, Only.refl _ _, by rw [HK0.out]; exact OM3.out.b, HK1.out⟩
  case round =>
    obtain ⟨k, hk, rfl, hq, hbk, hok⟩ := hrel
    have bw : Below w.heap.size w wr := Only.below b3 hq z3 (fun x e => by omega)
    have g2 := cell_only hq c1_2_3 (show ¬ w1.heap.size = gb by omega)
    have r0 := cell_only hq c0_0_3 (show ¬ w.heap.size = gb by omega)
    have r1 := cell_only hq c0_1_3 (show ¬ w.heap.size = gb by omega)
    have r2 := cell_only hq c0_2_3 (show ¬ w.heap.size = gb by omega)
    have rf : ∀ j, wr.frozen? ⟨w.heap.size, j, none⟩ = false := fun j => (frozen_only hq (p := ⟨w.heap.size, j, none⟩) (show w.heap.size < _ by omega) (show ¬ w.heap.size = gb by omega)).trans (f0_3 j)
    by_cases hlt : k < 5
    · have hlt5 : decide ((k : Int) < 5) = true := by simp; omega
      have hl := HLS.out k hlt
      have hs1 := HSA.out k hlt
      have hmp := HMP.out k hlt
      have hmb := HMBD.out k hlt
      have hkl := HKL.out k
      have rdw : Rd wr (.slice aw2 walls.length cw2) walls.length (ints walls) := by
        exact Rd.of_own (own_only N2'.out hq (fun x e e' => by have := LO2.out x e; simp at this; omega))
      have hmk := HMO.out wr _ k hlt bw rdw
      have hmo0 : (momK walls (ws.getD k []) walls.length == 0) = false := beq_eq_false_iff_ne.2 (by omega)
      have hsb := hq.size
      have key : ∀ m, Only (fun x => x = gb) w3 (wr.drewN m) ∧ Below w.heap.size w (wr.drewN m) ∧ OwnI (w.heap.size + 1) (wr.drewN m) (.slice (some ⟨gb, 0, none⟩) bs.length cb) (fitK ls sums area bs k) := fun m =>
        ⟨hq.trans (Only.of_below (below_drewN (Below.refl _ _) m)), below_drewN bw m, own_later hbk (below_drewN (Below.refl _ _) m)⟩
      have hv := HKV.out k
      rw [hs1] at hv
      have hko := HKO.out k
      rw [hok, Bool.true_and] at hko
      have hbad := HBAD.out k hlt
      have hkn := HKS.out k
      have HV := Lib.hid hv; clear hv
      have HKO2 := Lib.hid hko; clear hko
      have HBAD2 := Lib.hid hbad; clear hbad
      have HKN := Lib.hid hkn; clear hkn
      have HKL2 := Lib.hid hkl; clear hkl
      have HMK := Lib.hid hmk; clear hmk
      have KEY := Lib.hid key; clear key
      clear hbk hok hs1 rdw hq g2 r0 r1 r2 rf bw
      have hwb : walls.length ≤ 8 := by rw [HWL.out]; omega
      generalize momK walls (ws.getD k []) walls.length = mo at *
      go_wp2_with fail
      refine HMK.out.mono ?_
      rintro _ wq ⟨rfl, nq, rfl⟩
      have hq := (KEY.out nq).1
      have bw := (KEY.out nq).2.1
      have hbk := (KEY.out nq).2.2
      clear KEY HMK
      generalize wr.drewN nq = wr at *
      have hsb := hq.size
      have g2 := cell_only hq c1_2_3 (show ¬ w1.heap.size = gb by omega)
      have n3 := own_only N3.out hq (fun x e e' => by have : x = gl := by simp [Value.ownBlock] at e; exact e.symm
                                                      omega)
      have hlc : wr.cell? ⟨gl, k, none⟩ = some (.int .i64 (ls.getD k 0)) := by
        rw [getD_eq (show k < ls.length by rw [HL5.out]; exact hlt)]
        exact (World.ownsRow.cellAt n3 k (by rw [HL5.out]; omega)).trans (intsAt (by rw [HL5.out]; exact hlt))
      have hak := fun m => HAR.out (wr.drewN m) (below_drewN bw m)
      have hbk : wr.ownsRow (w.heap.size + 1) 2 1 (.slice (some ⟨gb, 0, none⟩) bs.length cb) bs.length (ints (fitK ls sums area bs k)) := by unfold OwnI at hbk; rwa [HKL2.out] at hbk
      have hfr := World.ownsRow.frozenAt hbk k
      have hix := ix (P := Tryz.prog) (T := 42) (n := bs.length) (cap := cb) Tryz.underlying42 cells_int64 has_int64 (ao := some ⟨gb, 0, none⟩) (b := gb) (off := 0) (fun _ => rfl) (k := k) (by rw [HB5.out]; exact hlt) _ rfl
      have hixl := ix (P := Tryz.prog) (T := 42) (n := ls.length) (cap := cl) Tryz.underlying42 cells_int64 has_int64 (ao := some ⟨gl, 0, none⟩) (b := gl) (off := 0) (fun _ => rfl) (k := k) (by rw [HL5.out]; exact hlt) _ rfl
      rw [Nat.mul_one, Nat.zero_add] at hix hixl
      have hkb : k < (fitK ls sums area bs k).length := by rw [HKL2.out, HB5.out]; exact hlt
      have hbc : wr.cell? ⟨gb, k, none⟩ = some (.int .i64 ((fitK ls sums area bs k).getD k 0)) := by
        rw [getD_eq hkb]
        exact (World.ownsRow.cellAt hbk k (by rw [HB5.out]; omega)).trans (intsAt hkb)
      have hnew : ∀ m, OwnI (w.heap.size + 1) ((wr.drewN m).setCell ⟨gb, k, none⟩ (.int .i64 (fitV ls sums area k))) (.slice (some ⟨gb, 0, none⟩) bs.length cb) (fitK ls sums area bs (k + 1)) := fun m => by
        have hst := (World.ownsRow.stored (own_later hbk (below_drewN (Below.refl _ _) m)) k (.int .i64 (fitV ls sums area k))).1
        rw [← HKN.out]
        unfold OwnI
        rw [List.length_set, HKL2.out, show ints ((fitK ls sums area bs k).set k (fitV ls sums area k)) = (ints (fitK ls sums area bs k)).set k (.int .i64 (fitV ls sums area k)) by unfold ints; rw [List.map_set]]
        exact hst
      have hon : ∀ m, Only (fun x => x = gb) w3 ((wr.drewN m).setCell ⟨gb, k, none⟩ (.int .i64 (fitV ls sums area k))) := fun m => (hq.trans (Only.of_below (below_drewN (Below.refl _ _) m))).setCell (p := ⟨gb, k, none⟩) rfl _
      have hpr : 0 ≤ ls.getD k 0 * area ∧ ls.getD k 0 * area ≤ 30000000 * 90000 := by
        have := mul_le_of (a := ls.getD k 0) (b := area) (A := 30000000) (B := 90000) (by omega) (by omega) (by omega) (by omega)
        omega
      have hdv := fun w' => l01Div_c (ls.getD k 0 * area) mo w' (by omega) (by omega) (by omega) (by omega)
      rw [← HV.out] at hdv
      have HAK := Lib.hid hak; clear hak
      have HDV := Lib.hid hdv; clear hdv
      have HNEW := Lib.hid hnew; clear hnew
      have HON := Lib.hid hon; clear hon
      clear hbk n3 hkb hq bw HV HKN HKL2
      generalize (fitK ls sums area bs k).getD k 0 = old at *
      generalize ls.getD k 0 = x at *
      have g1 : IntKind.i64.wrap (x * area) = x * area := IntWalk.i64_in _ (by omega)
      go_wp2_with fail
      refine wp_region_drew_tail 13 (by kernel_rfl) (by kernel_rfl) ?_
      simp only [List.take_succ_cons, List.take_zero, List.drop_succ_cons, List.drop_zero]
      repeat (quiet_step (first | (go_at_call 179; exact quietS (HAK.out _)) | (go_at_call 174; exact quietS (HDV.out _))))
      refine wpQuiet_nil ?_
      rintro _ ⟨nq, rfl⟩
      have hnew := HNEW.out nq
      have hon := HON.out nq
      have hbc2 := below_cell (below_drewN (Below.refl _ _) nq) hbc
      have hst2 := World.cell?_setCell_same (wr.drewN nq) ⟨gb, k, none⟩ (.int .i64 (fitV ls sums area k)) hbc2
      clear HNEW HON hbc2
      have HNEW := Lib.hid hnew; clear hnew
      have HON := Lib.hid hon; clear hon
      go_wp2_with fail
      obtain ⟨W4, hW4⟩ : ∃ x, x = (wr.drewN nq).setCell ⟨gb, k, none⟩ (.int .i64 (fitV ls sums area k)) := ⟨_, rfl⟩
      rw [← hW4]
      have hnew := HNEW.out
      have hon := HON.out
      rw [← hW4] at hnew hon hst2
      clear HNEW HON hW4 g2 hlc hbc hfr
      have g2 := cell_only hon c1_2_3 (show ¬ w1.heap.size = gb by omega)
      have r0 := cell_only hon c0_0_3 (show ¬ w.heap.size = gb by omega)
      have r1 := cell_only hon c0_1_3 (show ¬ w.heap.size = gb by omega)
      have r2 := cell_only hon c0_2_3 (show ¬ w.heap.size = gb by omega)
      have rf : ∀ j, W4.frozen? ⟨w.heap.size, j, none⟩ = false := fun j => (frozen_only hon (p := ⟨w.heap.size, j, none⟩) (show w.heap.size < _ by omega) (show ¬ w.heap.size = gb by omega)).trans (f0_3 j)
      have b4 : Below w.heap.size w W4 := Only.below b3 hon z3 (fun x e => by omega)
      have HNEW := Lib.hid hnew; clear hnew
      have HON := Lib.hid hon; clear hon
      have hin := fun w' => l00In_c (fitV ls sums area k) 1 1000000000 w'
      cases t1 : inB (fitV ls sums area k) 1 1000000000
      · have he := HBAD2.out t1
        rw [t1] at hin
        have HIN := Lib.hid hin; clear hin
        have HE := Lib.hid he; clear he
        have T1 := Lib.hid t1; clear t1
        clear HKO2 HBAD2
        generalize fitV ls sums area k = v at *
        refine (HIN.out _).mono ?_
        rintro _ _ ⟨rfl, rfl⟩
        go_wp2
        refine bodyPost_ret (v := .tuple #[.agg #[.slice none 0 0, .slice none 0 0, .slice none 0 0], .bool false]) (by simp [results, Tryz.results148, go_sem, r0, r1, r2]) rfl ?_
        rw [HE.out]
        exact RetM2.nil (((b4.setCell (Nat.le_refl _) _).setCell (Nat.le_refl _) _).setCell (Nat.le_refl _) _)
      · rw [t1] at hin
        have hok := HKO2.out.symm.trans t1
        have HIN := Lib.hid hin; clear hin
        have HOK := Lib.hid hok; clear hok
        have T1 := Lib.hid t1; clear t1
        clear HKO2 HBAD2
        generalize fitV ls sums area k = v at *
        refine (HIN.out _).mono ?_
        rintro _ _ ⟨rfl, rfl⟩
        go_wp2
        go_roundw
        case rel => exact ⟨k + 1, by omega, by go_num, HON.out, HNEW.out, HOK.out⟩
        case measure => simp [intOf]; omega
    · obtain rfl : k = 5 := by omega
      have he := HGOOD.out hok
      have hkl := HKL.out 5
      have g0 := cell_only hq c1_0_3 (show ¬ w1.heap.size = gb by omega)
      have g1 := cell_only hq c1_1_3 (show ¬ w1.heap.size = gb by omega)
      have om9 := (OM3.out.base (hq.mono fun x e => by rw [e]; rfl) hbk).wide (Nat.le_refl _) (show w1.heap.size ≤ wr.heap.size by have := hq.size; omega)
      have fin := fun u0 u1 u2 => ((om9.set (a := ⟨w.heap.size, 0, none⟩) (Nat.lt_succ_self _) u0).set (a := ⟨w.heap.size, 1, none⟩) (Nat.lt_succ_self _) u1).set (a := ⟨w.heap.size, 2, none⟩) (Nat.lt_succ_self _) u2
      have FIN := Lib.hid fin; clear fin
      have HE := Lib.hid he; clear he
      have HKL5 := Lib.hid hkl; clear hkl
      clear om9 hbk hok hq
      go_wp2
      refine bodyPost_ret (v := .tuple #[.agg #[.slice az zs.length cz, .slice aw ws.length cw, .slice (some ⟨gb, 0, none⟩) bs.length cb], .bool true]) (by simp [results, Tryz.results148, go_sem, r0, r1, r2]) rfl ?_
      rw [HE.out]
      exact ⟨_, _, _, us, rfl, by have := (FIN.out (.slice az zs.length cz) (.slice aw ws.length cw) (.slice (some ⟨gb, 0, none⟩) bs.length cb)).wide (lo' := w.heap.size) (Nat.le_succ _) (Nat.le_refl _); simpa using this, (((bw.setCell (Nat.le_refl _) _).setCell (Nat.le_refl _) _).setCell (Nat.le_refl _) _)⟩

end Go.Proofs.YtgdadbmhdljcdaaGreatDoor

/- A model fitted to a sound: both functions. -/
namespace Go.Proofs.YtgdadbmhdljcdaaGreatDoor
set_option linter.unusedVariables false
open Go.RowKit Go.Proofs.Bell Go.BigFrame

def fitM (zs : List Int) (ws : List (List Int)) (bs : List Int) (nm : ByteArray) (ps : List (Int × Int × Int)) (a b c d f : Int) : (List Int × List (List Int) × List Int) × Int :=
  if soundB a b c d f then (if modAsk zs ws bs nm ps = 0 then (if (fitI zs ws bs ps [a, b, c, d, f]).2 then ((fitI zs ws bs ps [a, b, c, d, f]).1, 0) else (([], [], []), 6)) else (([], [], []), modAsk zs ws bs nm ps)) else (([], [], []), 1)
theorem soundB_bd {a b c d f : Int} (h : soundB a b c d f = true) (k : Nat) (hk : k < 5) : 0 ≤ [a, b, c, d, f].getD k 0 ∧ [a, b, c, d, f].getD k 0 ≤ 20000000 := by
  rw [soundB_eq] at h
  simp only [Bool.and_eq_true, allF, List.all_cons, List.all_nil] at h
  obtain ⟨⟨⟨⟨⟨h0, h1, h2, h3, h4, _⟩, _⟩, _⟩, _⟩, _⟩ := h
  have e0 := inB_t h0
  have e1 := inB_t h1
  have e2 := inB_t h2
  have e3 := inB_t h3
  have e4 := inB_t h4
  match k, hk with
  | 0, _ => simp; omega
  | 1, _ => simp; omega
  | 2, _ => simp; omega
  | 3, _ => simp; omega
  | 4, _ => simp; omega

theorem below3 {w W : World} {R : Nat} (h : Below w.heap.size w W) (hR : w.heap.size ≤ R) (u0 u1 u2 : Value) : Below w.heap.size w (((W.setCell ⟨R, 0, none⟩ u0).setCell ⟨R, 1, none⟩ u1).setCell ⟨R, 2, none⟩ u2) := ((h.setCell hR _).setCell hR _).setCell hR _
theorem OwnM.set33 {lo hi R : Nat} {w : World} {zv wv bv : Value} {us : List Value} {zs : List Int} {ws : List (List Int)} {bs : List Int} (h : OwnM lo hi w zv wv bv us zs ws bs) (hR : R < lo) (u0 u1 u2 : Value) : OwnM lo hi (((w.setCell ⟨R, 0, none⟩ u0).setCell ⟨R, 1, none⟩ u1).setCell ⟨R, 2, none⟩ u2) zv wv bv us zs ws bs :=
  ((h.set (a := ⟨R, 0, none⟩) hR u0).set (a := ⟨R, 1, none⟩) hR u1).set (a := ⟨R, 2, none⟩) hR u2
end Go.Proofs.YtgdadbmhdljcdaaGreatDoor

/- A model fitted to a sound: the program. -/
namespace Go.Proofs.YtgdadbmhdljcdaaGreatDoor
set_option linter.unusedVariables false
open Go.RowKit Go.Proofs.Bell Go.BigFrame

set_option maxRecDepth 100000 in
set_option maxHeartbeats 6400000 in
theorem implFitBase_c (zv wv bv : Value) (zs : List Int) (ws : List (List Int)) (bs : List Int) (nm : ByteArray) (sv : Value) (ps : List (Int × Int × Int)) (a b c d f : Int) (w : World) (hz : Rd w zv zs.length (ints zs)) (hw : RdSS w wv ws) (hb : Rd w bv bs.length (ints bs)) (hnm : nm.size ≤ maxLen) (hr : Rd w sv ps.length (trips ps)) :
    Calls Tryz.prog 22 #[.agg #[zv, wv, bv], .agg #[.string nm, sv], .agg #[.int .i64 a, .int .i64 b, .int .i64 c, .int .i64 d, .int .i64 f]] w (RetM2 (fitM zs ws bs nm ps a b c d f).1.1 (fitM zs ws bs nm ps a b c d f).1.2.1 (fitM zs ws bs nm ps a b c d f).1.2.2 (.int .i64 (fitM zs ws bs nm ps a b c d f).2) w) := by
  have hso := fun w' => ValidSound_c a b c d f w'
  have hmo := fun w' (hx : Below w.heap.size w w') => implValidModel_c zv wv bv zs ws bs w' (hz.later hx) (hw.later hx) (hb.later hx)
  have hok := fun w' (hx : Below w.heap.size w w') => ValidProfile_c nm sv ps w' hnm (hr.later hx)
  have hvz := fun w' (hx : Below w.heap.size w w') => ValidZones_c nm sv ps zv zs w' hnm (hr.later hx) (hz.later hx)
  have HMO := Lib.hid hmo; clear hmo
  have HOK := Lib.hid hok; clear hok
  have HVZ := Lib.hid hvz; clear hvz
  have HSO := Lib.hid hso; clear hso
  cases t1 : modelB zs ws bs <;> rw [t1] at HMO
  · have he : fitM zs ws bs nm ps a b c d f = (([], [], []), 1) := by cases h : soundB a b c d f <;> simp [fitM, modAsk, t1, h]
    rw [he]
    clear he hz hw hb hr t1
    go_enter Tryz.func22, Tryz.ntmps22
    have b0 : Below w.heap.size w w := Below.refl _ _
    have z0 : w.heap.size ≤ w.heap.size := Nat.le_refl _
    go_wp2_with fail
    refine (HMO.out _ (by go_grown)).mono ?_
    rintro _ w1 ⟨rfl, r1⟩
    have s1 : Below w.heap.size w w1 := Below.trans (by go_grown) (r1.mono (by simp; try omega))
    have b1 := b0.trans (s1.mono z0)
    have z1 := b1.size
    have y1 := s1.size
    have c0_0_1 := below_cell r1 (p := ⟨w.heap.size, 0, none⟩) (v := zv) (by simp [go_sem])
    have c0_1_1 := below_cell r1 (p := ⟨w.heap.size, 1, none⟩) (v := wv) (by simp [go_sem])
    have c0_2_1 := below_cell r1 (p := ⟨w.heap.size, 2, none⟩) (v := bv) (by simp [go_sem])
    have c1_0_1 := below_cell r1 (p := ⟨w.heap.size + 1, 0, none⟩) (v := .string nm) (by simp [go_sem])
    have c1_1_1 := below_cell r1 (p := ⟨w.heap.size + 1, 1, none⟩) (v := sv) (by simp [go_sem])
    have c2_0_1 := below_cell r1 (p := ⟨w.heap.size + 1 + 1, 0, none⟩) (v := .int .i64 a) (by simp [go_sem])
    have c2_1_1 := below_cell r1 (p := ⟨w.heap.size + 1 + 1, 1, none⟩) (v := .int .i64 b) (by simp [go_sem])
    have c2_2_1 := below_cell r1 (p := ⟨w.heap.size + 1 + 1, 2, none⟩) (v := .int .i64 c) (by simp [go_sem])
    have c2_3_1 := below_cell r1 (p := ⟨w.heap.size + 1 + 1, 3, none⟩) (v := .int .i64 d) (by simp [go_sem])
    have c2_4_1 := below_cell r1 (p := ⟨w.heap.size + 1 + 1, 4, none⟩) (v := .int .i64 f) (by simp [go_sem])
    have c3_0_1 := below_cell r1 (p := ⟨w.heap.size + 1 + 1 + 1, 0, none⟩) (v := .slice none 0 0) (by simp [go_sem])
    have c3_1_1 := below_cell r1 (p := ⟨w.heap.size + 1 + 1 + 1, 1, none⟩) (v := .slice none 0 0) (by simp [go_sem])
    have c3_2_1 := below_cell r1 (p := ⟨w.heap.size + 1 + 1 + 1, 2, none⟩) (v := .slice none 0 0) (by simp [go_sem])
    have f3_1 : ∀ j, w1.frozen? ⟨w.heap.size + 1 + 1 + 1, j, none⟩ = false := fun j => (r1.frozen (p := ⟨w.heap.size + 1 + 1 + 1, j, none⟩) (by simp [go_sem])).trans (by simp [go_sem])
    clear r1
    go_wp2
    refine bodyPost_ret (v := .tuple #[.agg #[.slice none 0 0, .slice none 0 0, .slice none 0 0], .int .i64 1]) (by simp [results, Tryz.results22, go_sem, c3_0_1, c3_1_1, c3_2_1]) rfl ?_
    exact RetM2.nil (below3 b1 (show w.heap.size ≤ w.heap.size + 1 + 1 + 1 by omega) _ _ _)
  · cases t2 : profB nm ps <;> rw [t2] at HOK
    · have he : fitM zs ws bs nm ps a b c d f = (([], [], []), 1) := by cases h : soundB a b c d f <;> simp [fitM, modAsk, t1, t2, h]
      rw [he]
      clear he hz hw hb hr t1 t2
      go_enter Tryz.func22, Tryz.ntmps22
      have b0 : Below w.heap.size w w := Below.refl _ _
      have z0 : w.heap.size ≤ w.heap.size := Nat.le_refl _
      go_wp2_with fail
      refine (HMO.out _ (by go_grown)).mono ?_
      rintro _ w1 ⟨rfl, r1⟩
      have s1 : Below w.heap.size w w1 := Below.trans (by go_grown) (r1.mono (by simp; try omega))
      have b1 := b0.trans (s1.mono z0)
      have z1 := b1.size
      have y1 := s1.size
      have c0_0_1 := below_cell r1 (p := ⟨w.heap.size, 0, none⟩) (v := zv) (by simp [go_sem])
      have c0_1_1 := below_cell r1 (p := ⟨w.heap.size, 1, none⟩) (v := wv) (by simp [go_sem])
      have c0_2_1 := below_cell r1 (p := ⟨w.heap.size, 2, none⟩) (v := bv) (by simp [go_sem])
      have c1_0_1 := below_cell r1 (p := ⟨w.heap.size + 1, 0, none⟩) (v := .string nm) (by simp [go_sem])
      have c1_1_1 := below_cell r1 (p := ⟨w.heap.size + 1, 1, none⟩) (v := sv) (by simp [go_sem])
      have c2_0_1 := below_cell r1 (p := ⟨w.heap.size + 1 + 1, 0, none⟩) (v := .int .i64 a) (by simp [go_sem])
      have c2_1_1 := below_cell r1 (p := ⟨w.heap.size + 1 + 1, 1, none⟩) (v := .int .i64 b) (by simp [go_sem])
      have c2_2_1 := below_cell r1 (p := ⟨w.heap.size + 1 + 1, 2, none⟩) (v := .int .i64 c) (by simp [go_sem])
      have c2_3_1 := below_cell r1 (p := ⟨w.heap.size + 1 + 1, 3, none⟩) (v := .int .i64 d) (by simp [go_sem])
      have c2_4_1 := below_cell r1 (p := ⟨w.heap.size + 1 + 1, 4, none⟩) (v := .int .i64 f) (by simp [go_sem])
      have c3_0_1 := below_cell r1 (p := ⟨w.heap.size + 1 + 1 + 1, 0, none⟩) (v := .slice none 0 0) (by simp [go_sem])
      have c3_1_1 := below_cell r1 (p := ⟨w.heap.size + 1 + 1 + 1, 1, none⟩) (v := .slice none 0 0) (by simp [go_sem])
      have c3_2_1 := below_cell r1 (p := ⟨w.heap.size + 1 + 1 + 1, 2, none⟩) (v := .slice none 0 0) (by simp [go_sem])
      have f3_1 : ∀ j, w1.frozen? ⟨w.heap.size + 1 + 1 + 1, j, none⟩ = false := fun j => (r1.frozen (p := ⟨w.heap.size + 1 + 1 + 1, j, none⟩) (by simp [go_sem])).trans (by simp [go_sem])
      clear r1
      go_wp2_with fail
      refine (HOK.out _ b1).mono ?_
      rintro _ w2 ⟨rfl, r2⟩
      have s2 := r2
      have b2 := b1.trans (s2.mono z1)
      have z2 := b2.size
      have y2 := s2.size
      have c0_0_2 := below_cell s2 c0_0_1; clear c0_0_1
      have c0_1_2 := below_cell s2 c0_1_1; clear c0_1_1
      have c0_2_2 := below_cell s2 c0_2_1; clear c0_2_1
      have c1_0_2 := below_cell s2 c1_0_1; clear c1_0_1
      have c1_1_2 := below_cell s2 c1_1_1; clear c1_1_1
      have c2_0_2 := below_cell s2 c2_0_1; clear c2_0_1
      have c2_1_2 := below_cell s2 c2_1_1; clear c2_1_1
      have c2_2_2 := below_cell s2 c2_2_1; clear c2_2_1
      have c2_3_2 := below_cell s2 c2_3_1; clear c2_3_1
      have c2_4_2 := below_cell s2 c2_4_1; clear c2_4_1
      have k3_2 := c3_0_1
      have c3_0_2 := below_cell s2 c3_0_1; clear c3_0_1
      have c3_1_2 := below_cell s2 c3_1_1; clear c3_1_1
      have c3_2_2 := below_cell s2 c3_2_1; clear c3_2_1
      have f3_2 : ∀ j, w2.frozen? ⟨w.heap.size + 1 + 1 + 1, j, none⟩ = false := fun j => (s2.frozen (p := ⟨w.heap.size + 1 + 1 + 1, j, none⟩) (show w.heap.size + 1 + 1 + 1 < _ from World.block_lt_of_cell? _ ⟨w.heap.size + 1 + 1 + 1, 0, none⟩ k3_2)).trans (f3_1 j); clear f3_1
      clear r2
      go_wp2
      refine bodyPost_ret (v := .tuple #[.agg #[.slice none 0 0, .slice none 0 0, .slice none 0 0], .int .i64 1]) (by simp [results, Tryz.results22, go_sem, c3_0_2, c3_1_2, c3_2_2]) rfl ?_
      exact RetM2.nil (below3 b2 (show w.heap.size ≤ w.heap.size + 1 + 1 + 1 by omega) _ _ _)
    · cases t0 : soundB a b c d f <;> rw [t0] at HSO
      · have he : fitM zs ws bs nm ps a b c d f = (([], [], []), 1) := by simp [fitM, t0]
        rw [he]
        clear he hz hw hb hr t1 t2 t0
        go_enter Tryz.func22, Tryz.ntmps22
        have b0 : Below w.heap.size w w := Below.refl _ _
        have z0 : w.heap.size ≤ w.heap.size := Nat.le_refl _
        go_wp2_with fail
        refine (HMO.out _ (by go_grown)).mono ?_
        rintro _ w1 ⟨rfl, r1⟩
        have s1 : Below w.heap.size w w1 := Below.trans (by go_grown) (r1.mono (by simp; try omega))
        have b1 := b0.trans (s1.mono z0)
        have z1 := b1.size
        have y1 := s1.size
        have c0_0_1 := below_cell r1 (p := ⟨w.heap.size, 0, none⟩) (v := zv) (by simp [go_sem])
        have c0_1_1 := below_cell r1 (p := ⟨w.heap.size, 1, none⟩) (v := wv) (by simp [go_sem])
        have c0_2_1 := below_cell r1 (p := ⟨w.heap.size, 2, none⟩) (v := bv) (by simp [go_sem])
        have c1_0_1 := below_cell r1 (p := ⟨w.heap.size + 1, 0, none⟩) (v := .string nm) (by simp [go_sem])
        have c1_1_1 := below_cell r1 (p := ⟨w.heap.size + 1, 1, none⟩) (v := sv) (by simp [go_sem])
        have c2_0_1 := below_cell r1 (p := ⟨w.heap.size + 1 + 1, 0, none⟩) (v := .int .i64 a) (by simp [go_sem])
        have c2_1_1 := below_cell r1 (p := ⟨w.heap.size + 1 + 1, 1, none⟩) (v := .int .i64 b) (by simp [go_sem])
        have c2_2_1 := below_cell r1 (p := ⟨w.heap.size + 1 + 1, 2, none⟩) (v := .int .i64 c) (by simp [go_sem])
        have c2_3_1 := below_cell r1 (p := ⟨w.heap.size + 1 + 1, 3, none⟩) (v := .int .i64 d) (by simp [go_sem])
        have c2_4_1 := below_cell r1 (p := ⟨w.heap.size + 1 + 1, 4, none⟩) (v := .int .i64 f) (by simp [go_sem])
        have c3_0_1 := below_cell r1 (p := ⟨w.heap.size + 1 + 1 + 1, 0, none⟩) (v := .slice none 0 0) (by simp [go_sem])
        have c3_1_1 := below_cell r1 (p := ⟨w.heap.size + 1 + 1 + 1, 1, none⟩) (v := .slice none 0 0) (by simp [go_sem])
        have c3_2_1 := below_cell r1 (p := ⟨w.heap.size + 1 + 1 + 1, 2, none⟩) (v := .slice none 0 0) (by simp [go_sem])
        have f3_1 : ∀ j, w1.frozen? ⟨w.heap.size + 1 + 1 + 1, j, none⟩ = false := fun j => (r1.frozen (p := ⟨w.heap.size + 1 + 1 + 1, j, none⟩) (by simp [go_sem])).trans (by simp [go_sem])
        clear r1
        go_wp2_with fail
        refine (HOK.out _ b1).mono ?_
        rintro _ w2 ⟨rfl, r2⟩
        have s2 := r2
        have b2 := b1.trans (s2.mono z1)
        have z2 := b2.size
        have y2 := s2.size
        have c0_0_2 := below_cell s2 c0_0_1; clear c0_0_1
        have c0_1_2 := below_cell s2 c0_1_1; clear c0_1_1
        have c0_2_2 := below_cell s2 c0_2_1; clear c0_2_1
        have c1_0_2 := below_cell s2 c1_0_1; clear c1_0_1
        have c1_1_2 := below_cell s2 c1_1_1; clear c1_1_1
        have c2_0_2 := below_cell s2 c2_0_1; clear c2_0_1
        have c2_1_2 := below_cell s2 c2_1_1; clear c2_1_1
        have c2_2_2 := below_cell s2 c2_2_1; clear c2_2_1
        have c2_3_2 := below_cell s2 c2_3_1; clear c2_3_1
        have c2_4_2 := below_cell s2 c2_4_1; clear c2_4_1
        have k3_2 := c3_0_1
        have c3_0_2 := below_cell s2 c3_0_1; clear c3_0_1
        have c3_1_2 := below_cell s2 c3_1_1; clear c3_1_1
        have c3_2_2 := below_cell s2 c3_2_1; clear c3_2_1
        have f3_2 : ∀ j, w2.frozen? ⟨w.heap.size + 1 + 1 + 1, j, none⟩ = false := fun j => (s2.frozen (p := ⟨w.heap.size + 1 + 1 + 1, j, none⟩) (show w.heap.size + 1 + 1 + 1 < _ from World.block_lt_of_cell? _ ⟨w.heap.size + 1 + 1 + 1, 0, none⟩ k3_2)).trans (f3_1 j); clear f3_1
        clear r2
        go_wp2_with fail
        refine (HSO.out _).mono ?_
        rintro _ w3 ⟨rfl, r3⟩
        have s3 := r3
        have b3 := b2.trans (s3.mono z2)
        have z3 := b3.size
        have y3 := s3.size
        have c0_0_3 := below_cell s3 c0_0_2; clear c0_0_2
        have c0_1_3 := below_cell s3 c0_1_2; clear c0_1_2
        have c0_2_3 := below_cell s3 c0_2_2; clear c0_2_2
        have c1_0_3 := below_cell s3 c1_0_2; clear c1_0_2
        have c1_1_3 := below_cell s3 c1_1_2; clear c1_1_2
        have c2_0_3 := below_cell s3 c2_0_2; clear c2_0_2
        have c2_1_3 := below_cell s3 c2_1_2; clear c2_1_2
        have c2_2_3 := below_cell s3 c2_2_2; clear c2_2_2
        have c2_3_3 := below_cell s3 c2_3_2; clear c2_3_2
        have c2_4_3 := below_cell s3 c2_4_2; clear c2_4_2
        have k3_3 := c3_0_2
        have c3_0_3 := below_cell s3 c3_0_2; clear c3_0_2
        have c3_1_3 := below_cell s3 c3_1_2; clear c3_1_2
        have c3_2_3 := below_cell s3 c3_2_2; clear c3_2_2
        have f3_3 : ∀ j, w3.frozen? ⟨w.heap.size + 1 + 1 + 1, j, none⟩ = false := fun j => (s3.frozen (p := ⟨w.heap.size + 1 + 1 + 1, j, none⟩) (show w.heap.size + 1 + 1 + 1 < _ from World.block_lt_of_cell? _ ⟨w.heap.size + 1 + 1 + 1, 0, none⟩ k3_3)).trans (f3_2 j); clear f3_2
        clear r3
        go_wp2
        refine bodyPost_ret (v := .tuple #[.agg #[.slice none 0 0, .slice none 0 0, .slice none 0 0], .int .i64 1]) (by simp [results, Tryz.results22, go_sem, c3_0_3, c3_1_3, c3_2_3]) rfl ?_
        exact RetM2.nil (below3 b3 (show w.heap.size ≤ w.heap.size + 1 + 1 + 1 by omega) _ _ _)
      · cases t3 : vzB nm ps zs <;> rw [t3] at HVZ
        · have he : fitM zs ws bs nm ps a b c d f = (([], [], []), 2) := by simp [fitM, modAsk, t0, t1, t2, t3]
          rw [he]
          obtain ⟨_, aoz, capz, _, _, rfl, _, _⟩ := hz.open
          clear he hz hw hb hr t1 t2 t0 t3
          go_enter Tryz.func22, Tryz.ntmps22
          have b0 : Below w.heap.size w w := Below.refl _ _
          have z0 : w.heap.size ≤ w.heap.size := Nat.le_refl _
          go_wp2_with fail
          refine (HMO.out _ (by go_grown)).mono ?_
          rintro _ w1 ⟨rfl, r1⟩
          have s1 : Below w.heap.size w w1 := Below.trans (by go_grown) (r1.mono (by simp; try omega))
          have b1 := b0.trans (s1.mono z0)
          have z1 := b1.size
          have y1 := s1.size
          have c0_0_1 := below_cell r1 (p := ⟨w.heap.size, 0, none⟩) (v := .slice aoz zs.length capz) (by simp [go_sem])
          have c0_1_1 := below_cell r1 (p := ⟨w.heap.size, 1, none⟩) (v := wv) (by simp [go_sem])
          have c0_2_1 := below_cell r1 (p := ⟨w.heap.size, 2, none⟩) (v := bv) (by simp [go_sem])
          have c1_0_1 := below_cell r1 (p := ⟨w.heap.size + 1, 0, none⟩) (v := .string nm) (by simp [go_sem])
          have c1_1_1 := below_cell r1 (p := ⟨w.heap.size + 1, 1, none⟩) (v := sv) (by simp [go_sem])
          have c2_0_1 := below_cell r1 (p := ⟨w.heap.size + 1 + 1, 0, none⟩) (v := .int .i64 a) (by simp [go_sem])
          have c2_1_1 := below_cell r1 (p := ⟨w.heap.size + 1 + 1, 1, none⟩) (v := .int .i64 b) (by simp [go_sem])
          have c2_2_1 := below_cell r1 (p := ⟨w.heap.size + 1 + 1, 2, none⟩) (v := .int .i64 c) (by simp [go_sem])
          have c2_3_1 := below_cell r1 (p := ⟨w.heap.size + 1 + 1, 3, none⟩) (v := .int .i64 d) (by simp [go_sem])
          have c2_4_1 := below_cell r1 (p := ⟨w.heap.size + 1 + 1, 4, none⟩) (v := .int .i64 f) (by simp [go_sem])
          have c3_0_1 := below_cell r1 (p := ⟨w.heap.size + 1 + 1 + 1, 0, none⟩) (v := .slice none 0 0) (by simp [go_sem])
          have c3_1_1 := below_cell r1 (p := ⟨w.heap.size + 1 + 1 + 1, 1, none⟩) (v := .slice none 0 0) (by simp [go_sem])
          have c3_2_1 := below_cell r1 (p := ⟨w.heap.size + 1 + 1 + 1, 2, none⟩) (v := .slice none 0 0) (by simp [go_sem])
          have f3_1 : ∀ j, w1.frozen? ⟨w.heap.size + 1 + 1 + 1, j, none⟩ = false := fun j => (r1.frozen (p := ⟨w.heap.size + 1 + 1 + 1, j, none⟩) (by simp [go_sem])).trans (by simp [go_sem])
          clear r1
          go_wp2_with fail
          refine (HOK.out _ b1).mono ?_
          rintro _ w2 ⟨rfl, r2⟩
          have s2 := r2
          have b2 := b1.trans (s2.mono z1)
          have z2 := b2.size
          have y2 := s2.size
          have c0_0_2 := below_cell s2 c0_0_1; clear c0_0_1
          have c0_1_2 := below_cell s2 c0_1_1; clear c0_1_1
          have c0_2_2 := below_cell s2 c0_2_1; clear c0_2_1
          have c1_0_2 := below_cell s2 c1_0_1; clear c1_0_1
          have c1_1_2 := below_cell s2 c1_1_1; clear c1_1_1
          have c2_0_2 := below_cell s2 c2_0_1; clear c2_0_1
          have c2_1_2 := below_cell s2 c2_1_1; clear c2_1_1
          have c2_2_2 := below_cell s2 c2_2_1; clear c2_2_1
          have c2_3_2 := below_cell s2 c2_3_1; clear c2_3_1
          have c2_4_2 := below_cell s2 c2_4_1; clear c2_4_1
          have k3_2 := c3_0_1
          have c3_0_2 := below_cell s2 c3_0_1; clear c3_0_1
          have c3_1_2 := below_cell s2 c3_1_1; clear c3_1_1
          have c3_2_2 := below_cell s2 c3_2_1; clear c3_2_1
          have f3_2 : ∀ j, w2.frozen? ⟨w.heap.size + 1 + 1 + 1, j, none⟩ = false := fun j => (s2.frozen (p := ⟨w.heap.size + 1 + 1 + 1, j, none⟩) (show w.heap.size + 1 + 1 + 1 < _ from World.block_lt_of_cell? _ ⟨w.heap.size + 1 + 1 + 1, 0, none⟩ k3_2)).trans (f3_1 j); clear f3_1
          clear r2
          go_wp2_with fail
          refine (HSO.out _).mono ?_
          rintro _ w3 ⟨rfl, r3⟩
          have s3 := r3
          have b3 := b2.trans (s3.mono z2)
          have z3 := b3.size
          have y3 := s3.size
          have c0_0_3 := below_cell s3 c0_0_2; clear c0_0_2
          have c0_1_3 := below_cell s3 c0_1_2; clear c0_1_2
          have c0_2_3 := below_cell s3 c0_2_2; clear c0_2_2
          have c1_0_3 := below_cell s3 c1_0_2; clear c1_0_2
          have c1_1_3 := below_cell s3 c1_1_2; clear c1_1_2
          have c2_0_3 := below_cell s3 c2_0_2; clear c2_0_2
          have c2_1_3 := below_cell s3 c2_1_2; clear c2_1_2
          have c2_2_3 := below_cell s3 c2_2_2; clear c2_2_2
          have c2_3_3 := below_cell s3 c2_3_2; clear c2_3_2
          have c2_4_3 := below_cell s3 c2_4_2; clear c2_4_2
          have k3_3 := c3_0_2
          have c3_0_3 := below_cell s3 c3_0_2; clear c3_0_2
          have c3_1_3 := below_cell s3 c3_1_2; clear c3_1_2
          have c3_2_3 := below_cell s3 c3_2_2; clear c3_2_2
          have f3_3 : ∀ j, w3.frozen? ⟨w.heap.size + 1 + 1 + 1, j, none⟩ = false := fun j => (s3.frozen (p := ⟨w.heap.size + 1 + 1 + 1, j, none⟩) (show w.heap.size + 1 + 1 + 1 < _ from World.block_lt_of_cell? _ ⟨w.heap.size + 1 + 1 + 1, 0, none⟩ k3_3)).trans (f3_2 j); clear f3_2
          clear r3
          go_wp2_with fail
          refine (HVZ.out _ b3).mono ?_
          rintro _ w4 ⟨rfl, r4⟩
          have s4 := r4
          have b4 := b3.trans (s4.mono z3)
          have z4 := b4.size
          have y4 := s4.size
          have c0_0_4 := below_cell s4 c0_0_3; clear c0_0_3
          have c0_1_4 := below_cell s4 c0_1_3; clear c0_1_3
          have c0_2_4 := below_cell s4 c0_2_3; clear c0_2_3
          have c1_0_4 := below_cell s4 c1_0_3; clear c1_0_3
          have c1_1_4 := below_cell s4 c1_1_3; clear c1_1_3
          have c2_0_4 := below_cell s4 c2_0_3; clear c2_0_3
          have c2_1_4 := below_cell s4 c2_1_3; clear c2_1_3
          have c2_2_4 := below_cell s4 c2_2_3; clear c2_2_3
          have c2_3_4 := below_cell s4 c2_3_3; clear c2_3_3
          have c2_4_4 := below_cell s4 c2_4_3; clear c2_4_3
          have k3_4 := c3_0_3
          have c3_0_4 := below_cell s4 c3_0_3; clear c3_0_3
          have c3_1_4 := below_cell s4 c3_1_3; clear c3_1_3
          have c3_2_4 := below_cell s4 c3_2_3; clear c3_2_3
          have f3_4 : ∀ j, w4.frozen? ⟨w.heap.size + 1 + 1 + 1, j, none⟩ = false := fun j => (s4.frozen (p := ⟨w.heap.size + 1 + 1 + 1, j, none⟩) (show w.heap.size + 1 + 1 + 1 < _ from World.block_lt_of_cell? _ ⟨w.heap.size + 1 + 1 + 1, 0, none⟩ k3_4)).trans (f3_3 j); clear f3_3
          clear r4
          go_wp2
          refine bodyPost_ret (v := .tuple #[.agg #[.slice none 0 0, .slice none 0 0, .slice none 0 0], .int .i64 2]) (by simp [results, Tryz.results22, go_sem, c3_0_4, c3_1_4, c3_2_4]) rfl ?_
          exact RetM2.nil (below3 b4 (show w.heap.size ≤ w.heap.size + 1 + 1 + 1 by omega) _ _ _)
        · have t4 : modAsk zs ws bs nm ps = 0 := by simp [modAsk, t1, t2, t3]
          obtain ⟨_, _, hzb⟩ := modAsk_ok t4
          obtain ⟨hz1, hz8, hw5, hb5, _⟩ := modelB_t t1
          obtain ⟨hl1, hl2, hal, hht⟩ := profB_t t2
          have hls := soundB_bd t0
          have hwe := fun w' (hx : Below w.heap.size w w') => weighted_c zv wv bv zs ws bs nm sv ps w' (hz.later hx) (hw.later hx) (hr.later hx) t1 hl1 hl2 hal hzb
          have hcp := fun w' (hx : Below w.heap.size w w') => copyModel_c zv wv bv zs ws bs w' (hz.later hx) (hw.later hx) (hb.later hx) hz1 (by omega) (by omega) (by omega) (by omega) (by omega) (fun k hk => by have := (row_bd t1 k (by omega)).1; omega)
          have hli := fun w' => listOfO_c a b c d f w'
          have hlb := lipI_bd hl1 hal
          have hmp : ∀ k, k < 5 → 1 ≤ (sumsK (zwK ps zs zs.length) ws 5).getD k 0 := fun k hk => by rw [sumsK_at _ _ 5 k hk, zwK_len]; exact mom_pos hal hzb t1 hk
          have hmbd : ∀ k, k < 5 → (sumsK (zwK ps zs zs.length) ws 5).getD k 0 ≤ 150000000 * (zs.length : Int) := fun k hk => by
            rw [sumsK_at _ _ 5 k hk]
            have := (momK_bd (walls := zwK ps zs zs.length) (row := ws.getD k []) (zw_bd hal hzb) (row_bd t1 k hk).2.1 (zwK ps zs zs.length).length).2
            rw [zwK_len] at this ⊢
            exact this
          have hsl := sumsK_len (zwK ps zs zs.length) ws 5
          have hbad : ∀ k, k < 5 → inB (fitV [a, b, c, d, f] (sumsK (zwK ps zs zs.length) ws 5) (lipI ps) k) 1 1000000000 = false → fitM zs ws bs nm ps a b c d f = (([], [], []), 6) := fun k (hk : k < 5) h => by
            have := fitI_f (zs := zs) (ws := ws) (bs := bs) (ps := ps) (ls := [a, b, c, d, f]) hk h
            simp [fitM, t0, t4, this]
          have hgood : fitOkK [a, b, c, d, f] (sumsK (zwK ps zs zs.length) ws 5) (lipI ps) 5 = true → fitM zs ws bs nm ps a b c d f = ((zs, ws, fitK [a, b, c, d, f] (sumsK (zwK ps zs zs.length) ws 5) (lipI ps) bs 5), 0) := fun h => by simp [fitM, t0, t4, fitI, h]
          have hl5 : [a, b, c, d, f].length = 5 := rfl
          generalize fitM zs ws bs nm ps a b c d f = RES at *
          generalize sumsK (zwK ps zs zs.length) ws 5 = sums at *
          generalize [a, b, c, d, f] = ls at *
          have hkl := fun k => fitK_len ls sums (lipI ps) bs k
          have hks := fun k => (show (fitK ls sums (lipI ps) bs k).set k (fitV ls sums (lipI ps) k) = fitK ls sums (lipI ps) bs (k + 1) from rfl)
          have hko := fun k => (show (fitOkK ls sums (lipI ps) k && inB (fitV ls sums (lipI ps) k) 1 1000000000) = fitOkK ls sums (lipI ps) (k + 1) from rfl)
          have hkv := fun k => (show fitV ls sums (lipI ps) k = rnd (ls.getD k 0 * lipI ps) (sums.getD k 0) from rfl)
          have hk0 : fitK ls sums (lipI ps) bs 0 = bs := rfl
          have hk1 : fitOkK ls sums (lipI ps) 0 = true := rfl
          obtain ⟨_, aoz, capz, _, _, rfl, _, _⟩ := hz.open
          clear hz hw hr hb hal hzb t0 t1 t2 t3 t4
          generalize lipI ps = area at *
          have HWE := Lib.hid hwe; clear hwe
          have HCP := Lib.hid hcp; clear hcp
          have HLI := Lib.hid hli; clear hli
          have HMP := Lib.hid hmp; clear hmp
          have HMBD := Lib.hid hmbd; clear hmbd
          have HSL := Lib.hid hsl; clear hsl
          have HBAD := Lib.hid hbad; clear hbad
          have HGOOD := Lib.hid hgood; clear hgood
          have HKL := Lib.hid hkl; clear hkl
          have HKS := Lib.hid hks; clear hks
          have HKO := Lib.hid hko; clear hko
          have HKV := Lib.hid hkv; clear hkv
          have HK0 := Lib.hid hk0; clear hk0
          have HK1 := Lib.hid hk1; clear hk1
          have HLS := Lib.hid hls; clear hls
          have HL5 := Lib.hid hl5; clear hl5
          have HW5 := Lib.hid hw5; clear hw5
          have HB5 := Lib.hid hb5; clear hb5
          go_enter Tryz.func22, Tryz.ntmps22
          have b0 : Below w.heap.size w w := Below.refl _ _
          have z0 : w.heap.size ≤ w.heap.size := Nat.le_refl _
          go_wp2_with fail
          refine (HMO.out _ (by go_grown)).mono ?_
          rintro _ w1 ⟨rfl, r1⟩
          have s1 : Below w.heap.size w w1 := Below.trans (by go_grown) (r1.mono (by simp; try omega))
          have b1 := b0.trans (s1.mono z0)
          have z1 := b1.size
          have y1 := s1.size
          have c0_0_1 := below_cell r1 (p := ⟨w.heap.size, 0, none⟩) (v := .slice aoz zs.length capz) (by simp [go_sem])
          have c0_1_1 := below_cell r1 (p := ⟨w.heap.size, 1, none⟩) (v := wv) (by simp [go_sem])
          have c0_2_1 := below_cell r1 (p := ⟨w.heap.size, 2, none⟩) (v := bv) (by simp [go_sem])
          have c1_0_1 := below_cell r1 (p := ⟨w.heap.size + 1, 0, none⟩) (v := .string nm) (by simp [go_sem])
          have c1_1_1 := below_cell r1 (p := ⟨w.heap.size + 1, 1, none⟩) (v := sv) (by simp [go_sem])
          have c2_0_1 := below_cell r1 (p := ⟨w.heap.size + 1 + 1, 0, none⟩) (v := .int .i64 a) (by simp [go_sem])
          have c2_1_1 := below_cell r1 (p := ⟨w.heap.size + 1 + 1, 1, none⟩) (v := .int .i64 b) (by simp [go_sem])
          have c2_2_1 := below_cell r1 (p := ⟨w.heap.size + 1 + 1, 2, none⟩) (v := .int .i64 c) (by simp [go_sem])
          have c2_3_1 := below_cell r1 (p := ⟨w.heap.size + 1 + 1, 3, none⟩) (v := .int .i64 d) (by simp [go_sem])
          have c2_4_1 := below_cell r1 (p := ⟨w.heap.size + 1 + 1, 4, none⟩) (v := .int .i64 f) (by simp [go_sem])
          have c3_0_1 := below_cell r1 (p := ⟨w.heap.size + 1 + 1 + 1, 0, none⟩) (v := .slice none 0 0) (by simp [go_sem])
          have c3_1_1 := below_cell r1 (p := ⟨w.heap.size + 1 + 1 + 1, 1, none⟩) (v := .slice none 0 0) (by simp [go_sem])
          have c3_2_1 := below_cell r1 (p := ⟨w.heap.size + 1 + 1 + 1, 2, none⟩) (v := .slice none 0 0) (by simp [go_sem])
          have f3_1 : ∀ j, w1.frozen? ⟨w.heap.size + 1 + 1 + 1, j, none⟩ = false := fun j => (r1.frozen (p := ⟨w.heap.size + 1 + 1 + 1, j, none⟩) (by simp [go_sem])).trans (by simp [go_sem])
          clear r1
          go_wp2_with fail
          refine (HOK.out _ b1).mono ?_
          rintro _ w2 ⟨rfl, r2⟩
          have s2 := r2
          have b2 := b1.trans (s2.mono z1)
          have z2 := b2.size
          have y2 := s2.size
          have c0_0_2 := below_cell s2 c0_0_1; clear c0_0_1
          have c0_1_2 := below_cell s2 c0_1_1; clear c0_1_1
          have c0_2_2 := below_cell s2 c0_2_1; clear c0_2_1
          have c1_0_2 := below_cell s2 c1_0_1; clear c1_0_1
          have c1_1_2 := below_cell s2 c1_1_1; clear c1_1_1
          have c2_0_2 := below_cell s2 c2_0_1; clear c2_0_1
          have c2_1_2 := below_cell s2 c2_1_1; clear c2_1_1
          have c2_2_2 := below_cell s2 c2_2_1; clear c2_2_1
          have c2_3_2 := below_cell s2 c2_3_1; clear c2_3_1
          have c2_4_2 := below_cell s2 c2_4_1; clear c2_4_1
          have k3_2 := c3_0_1
          have c3_0_2 := below_cell s2 c3_0_1; clear c3_0_1
          have c3_1_2 := below_cell s2 c3_1_1; clear c3_1_1
          have c3_2_2 := below_cell s2 c3_2_1; clear c3_2_1
          have f3_2 : ∀ j, w2.frozen? ⟨w.heap.size + 1 + 1 + 1, j, none⟩ = false := fun j => (s2.frozen (p := ⟨w.heap.size + 1 + 1 + 1, j, none⟩) (show w.heap.size + 1 + 1 + 1 < _ from World.block_lt_of_cell? _ ⟨w.heap.size + 1 + 1 + 1, 0, none⟩ k3_2)).trans (f3_1 j); clear f3_1
          clear r2
          go_wp2_with fail
          refine (HSO.out _).mono ?_
          rintro _ w3 ⟨rfl, r3⟩
          have s3 := r3
          have b3 := b2.trans (s3.mono z2)
          have z3 := b3.size
          have y3 := s3.size
          have c0_0_3 := below_cell s3 c0_0_2; clear c0_0_2
          have c0_1_3 := below_cell s3 c0_1_2; clear c0_1_2
          have c0_2_3 := below_cell s3 c0_2_2; clear c0_2_2
          have c1_0_3 := below_cell s3 c1_0_2; clear c1_0_2
          have c1_1_3 := below_cell s3 c1_1_2; clear c1_1_2
          have c2_0_3 := below_cell s3 c2_0_2; clear c2_0_2
          have c2_1_3 := below_cell s3 c2_1_2; clear c2_1_2
          have c2_2_3 := below_cell s3 c2_2_2; clear c2_2_2
          have c2_3_3 := below_cell s3 c2_3_2; clear c2_3_2
          have c2_4_3 := below_cell s3 c2_4_2; clear c2_4_2
          have k3_3 := c3_0_2
          have c3_0_3 := below_cell s3 c3_0_2; clear c3_0_2
          have c3_1_3 := below_cell s3 c3_1_2; clear c3_1_2
          have c3_2_3 := below_cell s3 c3_2_2; clear c3_2_2
          have f3_3 : ∀ j, w3.frozen? ⟨w.heap.size + 1 + 1 + 1, j, none⟩ = false := fun j => (s3.frozen (p := ⟨w.heap.size + 1 + 1 + 1, j, none⟩) (show w.heap.size + 1 + 1 + 1 < _ from World.block_lt_of_cell? _ ⟨w.heap.size + 1 + 1 + 1, 0, none⟩ k3_3)).trans (f3_2 j); clear f3_2
          clear r3
          go_wp2_with fail
          refine (HVZ.out _ b3).mono ?_
          rintro _ w4 ⟨rfl, r4⟩
          have s4 := r4
          have b4 := b3.trans (s4.mono z3)
          have z4 := b4.size
          have y4 := s4.size
          have c0_0_4 := below_cell s4 c0_0_3; clear c0_0_3
          have c0_1_4 := below_cell s4 c0_1_3; clear c0_1_3
          have c0_2_4 := below_cell s4 c0_2_3; clear c0_2_3
          have c1_0_4 := below_cell s4 c1_0_3; clear c1_0_3
          have c1_1_4 := below_cell s4 c1_1_3; clear c1_1_3
          have c2_0_4 := below_cell s4 c2_0_3; clear c2_0_3
          have c2_1_4 := below_cell s4 c2_1_3; clear c2_1_3
          have c2_2_4 := below_cell s4 c2_2_3; clear c2_2_3
          have c2_3_4 := below_cell s4 c2_3_3; clear c2_3_3
          have c2_4_4 := below_cell s4 c2_4_3; clear c2_4_3
          have k3_4 := c3_0_3
          have c3_0_4 := below_cell s4 c3_0_3; clear c3_0_3
          have c3_1_4 := below_cell s4 c3_1_3; clear c3_1_3
          have c3_2_4 := below_cell s4 c3_2_3; clear c3_2_3
          have f3_4 : ∀ j, w4.frozen? ⟨w.heap.size + 1 + 1 + 1, j, none⟩ = false := fun j => (s4.frozen (p := ⟨w.heap.size + 1 + 1 + 1, j, none⟩) (show w.heap.size + 1 + 1 + 1 < _ from World.block_lt_of_cell? _ ⟨w.heap.size + 1 + 1 + 1, 0, none⟩ k3_4)).trans (f3_3 j); clear f3_3
          clear r4
          go_wp2_with fail
          refine (HWE.out _ b4).mono ?_
          rintro _ w5 ⟨x5, rfl, n5, r5⟩
          have s5 := r5
          have b5 := b4.trans (s5.mono z4)
          have z5 := b5.size
          have y5 := s5.size
          have c0_0_5 := below_cell s5 c0_0_4; clear c0_0_4
          have c0_1_5 := below_cell s5 c0_1_4; clear c0_1_4
          have c0_2_5 := below_cell s5 c0_2_4; clear c0_2_4
          have c1_0_5 := below_cell s5 c1_0_4; clear c1_0_4
          have c1_1_5 := below_cell s5 c1_1_4; clear c1_1_4
          have c2_0_5 := below_cell s5 c2_0_4; clear c2_0_4
          have c2_1_5 := below_cell s5 c2_1_4; clear c2_1_4
          have c2_2_5 := below_cell s5 c2_2_4; clear c2_2_4
          have c2_3_5 := below_cell s5 c2_3_4; clear c2_3_4
          have c2_4_5 := below_cell s5 c2_4_4; clear c2_4_4
          have k3_5 := c3_0_4
          have c3_0_5 := below_cell s5 c3_0_4; clear c3_0_4
          have c3_1_5 := below_cell s5 c3_1_4; clear c3_1_4
          have c3_2_5 := below_cell s5 c3_2_4; clear c3_2_4
          have f3_5 : ∀ j, w5.frozen? ⟨w.heap.size + 1 + 1 + 1, j, none⟩ = false := fun j => (s5.frozen (p := ⟨w.heap.size + 1 + 1 + 1, j, none⟩) (show w.heap.size + 1 + 1 + 1 < _ from World.block_lt_of_cell? _ ⟨w.heap.size + 1 + 1 + 1, 0, none⟩ k3_5)).trans (f3_4 j); clear f3_4
          have hr5 := World.block_lt_of_cell? _ ⟨w.heap.size + 1 + 1 + 1, 0, none⟩ c3_0_5
          simp only at hr5
          obtain ⟨asu, csu, rfl⟩ := own_shape n5
          have lo5 := own_lo n5
          have N5 := Lib.hid n5; clear n5
          have LO5 := Lib.hid lo5; clear lo5
          go_wp2_with fail
          refine (HCP.out _ b5).mono ?_
          rintro _ w6 ⟨zv1, wv1, bv1, us, rfl, om, r6⟩
          obtain ⟨az, cz, rfl⟩ := own_shape om.z
          obtain ⟨aw, cw, rfl⟩ := own_shape om.s.row
          obtain ⟨gb, cb, rfl, hgb1, hgb2⟩ := World.ownsRow.form om.b (by rw [HB5.out]; decide)
          have n6 := own_later N5.out r6
          have OM := Lib.hid om; clear om
          have N6 := Lib.hid n6; clear n6
          have s6 := r6
          have b6 := b5.trans (s6.mono z5)
          have z6 := b6.size
          have y6 := s6.size
          have c0_0_6 := below_cell s6 c0_0_5; clear c0_0_5
          have c0_1_6 := below_cell s6 c0_1_5; clear c0_1_5
          have c0_2_6 := below_cell s6 c0_2_5; clear c0_2_5
          have c1_0_6 := below_cell s6 c1_0_5; clear c1_0_5
          have c1_1_6 := below_cell s6 c1_1_5; clear c1_1_5
          have c2_0_6 := below_cell s6 c2_0_5; clear c2_0_5
          have c2_1_6 := below_cell s6 c2_1_5; clear c2_1_5
          have c2_2_6 := below_cell s6 c2_2_5; clear c2_2_5
          have c2_3_6 := below_cell s6 c2_3_5; clear c2_3_5
          have c2_4_6 := below_cell s6 c2_4_5; clear c2_4_5
          have k3_6 := c3_0_5
          have c3_0_6 := below_cell s6 c3_0_5; clear c3_0_5
          have c3_1_6 := below_cell s6 c3_1_5; clear c3_1_5
          have c3_2_6 := below_cell s6 c3_2_5; clear c3_2_5
          have f3_6 : ∀ j, w6.frozen? ⟨w.heap.size + 1 + 1 + 1, j, none⟩ = false := fun j => (s6.frozen (p := ⟨w.heap.size + 1 + 1 + 1, j, none⟩) (show w.heap.size + 1 + 1 + 1 < _ from World.block_lt_of_cell? _ ⟨w.heap.size + 1 + 1 + 1, 0, none⟩ k3_6)).trans (f3_5 j); clear f3_5
          have ac0_0 := fun o => alloc_cell o c0_0_6
          have ac0_1 := fun o => alloc_cell o c0_1_6
          have ac0_2 := fun o => alloc_cell o c0_2_6
          have ac1_0 := fun o => alloc_cell o c1_0_6
          have ac1_1 := fun o => alloc_cell o c1_1_6
          have ac2_0 := fun o => alloc_cell o c2_0_6
          have ac2_1 := fun o => alloc_cell o c2_1_6
          have ac2_2 := fun o => alloc_cell o c2_2_6
          have ac2_3 := fun o => alloc_cell o c2_3_6
          have ac2_4 := fun o => alloc_cell o c2_4_6
          have ac3_0 := fun o => alloc_cell o c3_0_6
          have ac3_1 := fun o => alloc_cell o c3_1_6
          have ac3_2 := fun o => alloc_cell o c3_2_6
          have af3 : ∀ o j, (w6.alloc o).frozen? ⟨w.heap.size + 1 + 1 + 1, j, none⟩ = false := fun o j => (alloc_frozen o (show w.heap.size + 1 + 1 + 1 < _ from World.block_lt_of_cell? _ ⟨w.heap.size + 1 + 1 + 1, 0, none⟩ c3_0_6)).trans (f3_6 j)
          go_wp2_with fail
          refine (HLI.out _).mono ?_
          rintro _ w7 ⟨x7, rfl, n7, r7⟩
          have s7 : Below w6.heap.size w6 w7 := Below.trans (by go_grown) (r7.mono (by simp; try omega))
          have b7 := b6.trans (s7.mono z6)
          have z7 := b7.size
          have y7 := s7.size
          have v7 : w6.heap.size + 1 ≤ w7.heap.size := by have := r7.size; simp only [World.size_alloc] at this; omega
          have c0_0_7 := below_cell s7 c0_0_6; clear c0_0_6
          have c0_1_7 := below_cell s7 c0_1_6; clear c0_1_6
          have c0_2_7 := below_cell s7 c0_2_6; clear c0_2_6
          have c1_0_7 := below_cell s7 c1_0_6; clear c1_0_6
          have c1_1_7 := below_cell s7 c1_1_6; clear c1_1_6
          have c2_0_7 := below_cell s7 c2_0_6; clear c2_0_6
          have c2_1_7 := below_cell s7 c2_1_6; clear c2_1_6
          have c2_2_7 := below_cell s7 c2_2_6; clear c2_2_6
          have c2_3_7 := below_cell s7 c2_3_6; clear c2_3_6
          have c2_4_7 := below_cell s7 c2_4_6; clear c2_4_6
          have k3_7 := c3_0_6
          have c3_0_7 := below_cell s7 c3_0_6; clear c3_0_6
          have c3_1_7 := below_cell s7 c3_1_6; clear c3_1_6
          have c3_2_7 := below_cell s7 c3_2_6; clear c3_2_6
          have c4_0_7 := below_cell r7 (p := ⟨w6.heap.size, 0, none⟩) (v := .slice az zs.length cz) (by simp [go_sem])
          have c4_1_7 := below_cell r7 (p := ⟨w6.heap.size, 1, none⟩) (v := .slice aw ws.length cw) (by simp [go_sem])
          have c4_2_7 := below_cell r7 (p := ⟨w6.heap.size, 2, none⟩) (v := .slice (some ⟨gb, 0, none⟩) bs.length cb) (by simp [go_sem])
          have f3_7 : ∀ j, w7.frozen? ⟨w.heap.size + 1 + 1 + 1, j, none⟩ = false := fun j => (s7.frozen (p := ⟨w.heap.size + 1 + 1 + 1, j, none⟩) (show w.heap.size + 1 + 1 + 1 < _ from World.block_lt_of_cell? _ ⟨w.heap.size + 1 + 1 + 1, 0, none⟩ k3_7)).trans (f3_6 j); clear f3_6
          have f4_7 : ∀ j, w7.frozen? ⟨w6.heap.size, j, none⟩ = false := fun j => (r7.frozen (p := ⟨w6.heap.size, j, none⟩) (by simp [go_sem])).trans (by simp [go_sem])
          clear r7
          have lo7 := own_lo n7
          obtain ⟨gl, cl, rfl, hgl1, hgl2⟩ := World.ownsRow.form n7 (by rw [HL5.out]; decide)
          have lo7 : w6.heap.size ≤ gl := by have := lo7 gl rfl; simp only [World.size_alloc] at this; omega
          have om3 := OM.out.later s7
          have n6 := own_later N6.out s7
          have hgbl : w5.heap.size ≤ gb := own_lo om3.b gb rfl
          have hgbh : gb < w6.heap.size := om3.bh gb rfl
          have hlo6 : ∀ x, (Value.slice asu sums.length csu).ownBlock = some x → x < w5.heap.size := own_lt N5.out
          have OM3 := Lib.hid om3; clear om3
          have N6' := Lib.hid n6; clear n6
          have N7 := Lib.hid n7; clear n7
          have LO6 := Lib.hid hlo6; clear hlo6
          clear OM N6 N5
          go_wp2_with fail
          go_loopw [44] (fun i wr => ∃ (k : Nat), k ≤ 5 ∧ i = .int .i64 k ∧ Only (fun x => x = gb) w7 wr ∧ OwnI w5.heap.size wr (.slice (some ⟨gb, 0, none⟩) bs.length cb) (fitK ls sums area bs k) ∧ fitOkK ls sums area k = true) (fun i _ => 5 - (intOf i).toNat)
          case atStart => exact ⟨0, Nat.zero_le _, rfl, Only.refl _ _, by rw [HK0.out]; exact OM3.out.b, HK1.out⟩
          case round =>
            obtain ⟨k, hk, rfl, hq, hbk, hok⟩ := hrel
            have bw : Below w.heap.size w wr := Only.below b7 hq z7 (fun x e => by omega)
            have hsb := hq.size
            have g2 := cell_only hq c4_2_7 (show ¬ w6.heap.size = gb by omega)
            have r0 := cell_only hq c3_0_7 (show ¬ w.heap.size + 1 + 1 + 1 = gb by omega)
            have r1 := cell_only hq c3_1_7 (show ¬ w.heap.size + 1 + 1 + 1 = gb by omega)
            have r2 := cell_only hq c3_2_7 (show ¬ w.heap.size + 1 + 1 + 1 = gb by omega)
            have rf : ∀ j, wr.frozen? ⟨w.heap.size + 1 + 1 + 1, j, none⟩ = false := fun j => (frozen_only hq (p := ⟨w.heap.size + 1 + 1 + 1, j, none⟩) (show w.heap.size + 1 + 1 + 1 < _ by omega) (show ¬ w.heap.size + 1 + 1 + 1 = gb by omega)).trans (f3_7 j)
            by_cases hlt : k < 5
            · have hlt5 : decide (k < ls.length) = true := by rw [HL5.out]; simp; omega
              have hl := HLS.out k hlt
              have hmp := HMP.out k hlt
              have hmb := HMBD.out k hlt
              have hko := HKO.out k
              rw [hok, Bool.true_and] at hko
              have hbad := HBAD.out k hlt
              have n7 := own_only N7.out hq (fun x e e' => by have : x = gl := by simp [Value.ownBlock] at e; exact e.symm
                                                              omega)
              have hlc : wr.cell? ⟨gl, k, none⟩ = some (.int .i64 (ls.getD k 0)) := by
                rw [getD_eq (show k < ls.length by rw [HL5.out]; exact hlt)]
                exact (World.ownsRow.cellAt n7 k (by rw [HL5.out]; omega)).trans (intsAt (by rw [HL5.out]; exact hlt))
              have n6 := own_only N6'.out hq (fun x e e' => by have := LO6.out x e; omega)
              obtain ⟨gs, cs', hsv, hgs1, hgs2⟩ := World.ownsRow.form n6 (by rw [HSL.out]; decide)
              simp only [Value.slice.injEq] at hsv
              obtain ⟨rfl, _, rfl⟩ := hsv
              have hsc : wr.cell? ⟨gs, k, none⟩ = some (.int .i64 (sums.getD k 0)) := by
                rw [getD_eq (show k < sums.length by rw [HSL.out]; exact hlt)]
                exact (World.ownsRow.cellAt n6 k (by rw [HSL.out]; omega)).trans (intsAt (by rw [HSL.out]; exact hlt))
              have hbk : wr.ownsRow w5.heap.size 2 1 (.slice (some ⟨gb, 0, none⟩) bs.length cb) bs.length (ints (fitK ls sums area bs k)) := by unfold OwnI at hbk; rwa [HKL.out] at hbk
              have hfr := World.ownsRow.frozenAt hbk k
              have hix := ix (P := Tryz.prog) (T := 42) (n := bs.length) (cap := cb) Tryz.underlying42 cells_int64 has_int64 (ao := some ⟨gb, 0, none⟩) (b := gb) (off := 0) (fun _ => rfl) (k := k) (by rw [HB5.out]; exact hlt) _ rfl
              have hixl := ix (P := Tryz.prog) (T := 42) (n := ls.length) (cap := cl) Tryz.underlying42 cells_int64 has_int64 (ao := some ⟨gl, 0, none⟩) (b := gl) (off := 0) (fun _ => rfl) (k := k) (by rw [HL5.out]; exact hlt) _ rfl
              have hixs := ix (P := Tryz.prog) (T := 42) (n := sums.length) (cap := csu) Tryz.underlying42 cells_int64 has_int64 (ao := some ⟨gs, 0, none⟩) (b := gs) (off := 0) (fun _ => rfl) (k := k) (by rw [HSL.out]; exact hlt) _ rfl
              rw [Nat.mul_one, Nat.zero_add] at hix hixl hixs
              have hkb : k < (fitK ls sums area bs k).length := by rw [HKL.out, HB5.out]; exact hlt
              have hbc : wr.cell? ⟨gb, k, none⟩ = some (.int .i64 ((fitK ls sums area bs k).getD k 0)) := by
                rw [getD_eq hkb]
                exact (World.ownsRow.cellAt hbk k (by rw [HB5.out]; omega)).trans (intsAt hkb)
              have hnew : ∀ m, OwnI w5.heap.size ((wr.drewN m).setCell ⟨gb, k, none⟩ (.int .i64 (fitV ls sums area k))) (.slice (some ⟨gb, 0, none⟩) bs.length cb) (fitK ls sums area bs (k + 1)) := fun m => by
                have hst := (World.ownsRow.stored (own_later hbk (below_drewN (Below.refl _ _) m)) k (.int .i64 (fitV ls sums area k))).1
                rw [← HKS.out]
                unfold OwnI
                rw [List.length_set, HKL.out, show ints ((fitK ls sums area bs k).set k (fitV ls sums area k)) = (ints (fitK ls sums area bs k)).set k (.int .i64 (fitV ls sums area k)) by unfold ints; rw [List.map_set]]
                exact hst
              have hon : ∀ m, Only (fun x => x = gb) w7 ((wr.drewN m).setCell ⟨gb, k, none⟩ (.int .i64 (fitV ls sums area k))) := fun m => (hq.trans (Only.of_below (below_drewN (Below.refl _ _) m))).setCell (p := ⟨gb, k, none⟩) rfl _
              have hpr : 0 ≤ ls.getD k 0 * area ∧ ls.getD k 0 * area ≤ 20000000 * 90000 := by
                have := mul_le_of (a := ls.getD k 0) (b := area) (A := 20000000) (B := 90000) (by omega) (by omega) (by omega) (by omega)
                omega
              have hdv := fun w' => nearest_c (ls.getD k 0 * area) (sums.getD k 0) w' (by omega) (by omega) (by omega) (by omega)
              rw [← HKV.out] at hdv
              have HDV := Lib.hid hdv; clear hdv
              have HNEW := Lib.hid hnew; clear hnew
              have HON := Lib.hid hon; clear hon
              have HKO2 := Lib.hid hko; clear hko
              have HBAD2 := Lib.hid hbad; clear hbad
              clear hbk n6 n7 hkb hq bw hok
              generalize (fitK ls sums area bs k).getD k 0 = old at *
              generalize ls.getD k 0 = x at *
              generalize sums.getD k 0 = y at *
              have g1 : IntKind.i64.wrap (x * area) = x * area := IntWalk.i64_in _ (by omega)
              go_wp2_with fail
              refine wp_region_drew_tail 12 (by kernel_rfl) (by kernel_rfl) ?_
              simp only [List.take_succ_cons, List.take_zero, List.drop_succ_cons, List.drop_zero]
              repeat (quiet_step (first | (go_at_call 70; exact quietD (HDV.out _))))
              refine wpQuiet_nil ?_
              rintro _ ⟨nq, rfl⟩
              have hnew := HNEW.out nq
              have hon := HON.out nq
              have hbc2 := below_cell (below_drewN (Below.refl _ _) nq) hbc
              have hst2 := World.cell?_setCell_same (wr.drewN nq) ⟨gb, k, none⟩ (.int .i64 (fitV ls sums area k)) hbc2
              clear HNEW HON hbc2
              have HNEW := Lib.hid hnew; clear hnew
              have HON := Lib.hid hon; clear hon
              go_wp2_with fail
              obtain ⟨W4, hW4⟩ : ∃ x, x = (wr.drewN nq).setCell ⟨gb, k, none⟩ (.int .i64 (fitV ls sums area k)) := ⟨_, rfl⟩
              rw [← hW4]
              have hnew := HNEW.out
              have hon := HON.out
              rw [← hW4] at hnew hon hst2
              clear HNEW HON hW4 g2 hlc hbc hfr hsc r0 r1 r2 rf
              have g2 := cell_only hon c4_2_7 (show ¬ w6.heap.size = gb by omega)
              have r0 := cell_only hon c3_0_7 (show ¬ w.heap.size + 1 + 1 + 1 = gb by omega)
              have r1 := cell_only hon c3_1_7 (show ¬ w.heap.size + 1 + 1 + 1 = gb by omega)
              have r2 := cell_only hon c3_2_7 (show ¬ w.heap.size + 1 + 1 + 1 = gb by omega)
              have rf : ∀ j, W4.frozen? ⟨w.heap.size + 1 + 1 + 1, j, none⟩ = false := fun j => (frozen_only hon (p := ⟨w.heap.size + 1 + 1 + 1, j, none⟩) (show w.heap.size + 1 + 1 + 1 < _ by omega) (show ¬ w.heap.size + 1 + 1 + 1 = gb by omega)).trans (f3_7 j)
              have b4 : Below w.heap.size w W4 := Only.below b7 hon z7 (fun x e => by omega)
              have HNEW := Lib.hid hnew; clear hnew
              have HON := Lib.hid hon; clear hon
              have hin := fun w' => within_c (fitV ls sums area k) 1 1000000000 w'
              cases t1 : inB (fitV ls sums area k) 1 1000000000
              · have he := HBAD2.out t1
                rw [t1] at hin
                have HIN := Lib.hid hin; clear hin
                have HE := Lib.hid he; clear he
                have T1 := Lib.hid t1; clear t1
                clear HKO2 HBAD2
                generalize fitV ls sums area k = v at *
                refine (HIN.out _).mono ?_
                rintro _ _ ⟨rfl, rfl⟩
                go_wp2
                refine bodyPost_ret (v := .tuple #[.agg #[.slice none 0 0, .slice none 0 0, .slice none 0 0], .int .i64 6]) (by simp [results, Tryz.results22, go_sem, r0, r1, r2]) rfl ?_
                rw [HE.out]
                exact RetM2.nil (below3 b4 (show w.heap.size ≤ w.heap.size + 1 + 1 + 1 by omega) _ _ _)
              · rw [t1] at hin
                have hok := HKO2.out.symm.trans t1
                have HIN := Lib.hid hin; clear hin
                have HOK2 := Lib.hid hok; clear hok
                have T1 := Lib.hid t1; clear t1
                clear HKO2 HBAD2
                generalize fitV ls sums area k = v at *
                refine (HIN.out _).mono ?_
                rintro _ _ ⟨rfl, rfl⟩
                go_wp2
                go_roundw
                case rel => exact ⟨k + 1, by omega, by go_num, HON.out, HNEW.out, HOK2.out⟩
                case measure => simp [intOf]; omega
            · obtain rfl : k = 5 := by omega
              have hlt5 : decide (5 < ls.length) = false := by rw [HL5.out]; rfl
              have hlt6 : decide ((5 : Int) < (ls.length : Int)) = false := by rw [HL5.out]; rfl
              have he := HGOOD.out hok
              have hkl := HKL.out 5
              have g0 := cell_only hq c4_0_7 (show ¬ w6.heap.size = gb by omega)
              have g1 := cell_only hq c4_1_7 (show ¬ w6.heap.size = gb by omega)
              have om9 := (OM3.out.base (hq.mono fun x e => by rw [e]; rfl) hbk).wide (Nat.le_refl _) (show w6.heap.size ≤ wr.heap.size by omega)
              have fin := fun u0 u1 u2 => om9.set33 (R := w.heap.size + 1 + 1 + 1) hr5 u0 u1 u2
              have FIN := Lib.hid fin; clear fin
              have HE := Lib.hid he; clear he
              have HKL5 := Lib.hid hkl; clear hkl
              clear om9 hbk hok hq
              go_wp2
              refine bodyPost_ret (v := .tuple #[.agg #[.slice az zs.length cz, .slice aw ws.length cw, .slice (some ⟨gb, 0, none⟩) bs.length cb], .int .i64 0]) (by simp [results, Tryz.results22, go_sem, r0, r1, r2]) rfl ?_
              rw [HE.out]
              exact ⟨_, _, _, us, rfl, (FIN.out _ _ _).wide (lo' := w.heap.size) (by omega) (by simp), below3 bw (show w.heap.size ≤ w.heap.size + 1 + 1 + 1 by omega) _ _ _⟩
theorem fitM_bd (zs : List Int) (ws : List (List Int)) (bs : List Int) (nm : ByteArray) (ps : List (Int × Int × Int)) (a b c d f : Int) : (fitM zs ws bs nm ps a b c d f).1.1.length ≤ 100000 ∧ SzSS (fitM zs ws bs nm ps a b c d f).1.2.1 ≤ 100000 ∧ (fitM zs ws bs nm ps a b c d f).1.2.2.length ≤ 100000 := by
  have h0 : ([] : List Int).length ≤ 100000 ∧ SzSS [] ≤ 100000 ∧ ([] : List Int).length ≤ 100000 := by simp [SzSS, lensK]
  unfold fitM
  split
  · split
    · rename_i t1
      split
      · obtain ⟨m1, m2, m3⟩ := modAsk_ok t1
        obtain ⟨hz1, hz8, hw5, hb5, _⟩ := modelB_t m1
        have hr := fun k hk => (row_bd m1 k hk).1
        unfold fitI
        split
        · refine ⟨by simp; omega, ?_, by simp [fitK_len]; omega⟩
          have r0 := hr 0 (by omega)
          have r1 := hr 1 (by omega)
          have r2 := hr 2 (by omega)
          have r3 := hr 3 (by omega)
          have r4 := hr 4 (by omega)
          show ws.length + lensK ws ws.length ≤ 100000
          rw [hw5]
          simp only [lensK, r0, r1, r2, r3, r4]
          omega
        · exact h0
      · exact h0
    · exact h0
  · exact h0

end Go.Proofs.YtgdadbmhdljcdaaGreatDoor

/- The greatest step of a profile. -/
namespace Go.Proofs.YtgdadbmhdljcdaaGreatDoor
set_option linter.unusedVariables false
open Go.RowKit Go.Proofs.Bell Go.BigFrame

theorem l00Max_c (a b : Int) (w : World) : Calls Tryz.prog 175 #[.int .i64 a, .int .i64 b] w (RetS (.int .i64 (max a b)) w) := by
  by_cases h1 : b < a <;>
  · go_enter Tryz.func175, Tryz.ntmps175
    go_wp2
    go_ret
    exact RetS.mk (int_eq (by omega))
def gstep (rs : List (Int × Int × Int)) (k : Nat) : Int := absI ((rg rs k).1 - (rg rs (k - 1)).1)
def gstK (rs : List (Int × Int × Int)) : Nat → Int
  | 0 => 0
  | k + 1 => if k = 0 then 0 else max (gstK rs k) (gstep rs k)
def gstI (nm : ByteArray) (rs : List (Int × Int × Int)) : Int × Int := if profB nm rs then (gstK rs rs.length, 0) else (0, 1)
theorem gstK_step {rs : List (Int × Int × Int)} {k : Nat} (h : 1 ≤ k) : gstK rs (k + 1) = max (gstK rs k) (gstep rs k) := by
  rw [gstK, if_neg (by omega)]

end Go.Proofs.YtgdadbmhdljcdaaGreatDoor

/- The standard model of some zones: plain lists; both functions' walks. -/
namespace Go.Proofs.YtgdadbmhdljcdaaGreatDoor
set_option linter.unusedVariables false
open Go.RowKit Go.Proofs.Bell Go.BigFrame

def wgt (n k z : Int) : Int := if 1 < n then 1000 - rnd (900 * absI (4 * z - k * (n - 1))) (4 * (n - 1)) else 1000
def wgtK (n k : Int) : Nat → List Int
  | 0 => []
  | m + 1 => wgtK n k m ++ [wgt n k (m : Int)]
theorem wgtK_len (n k : Int) : ∀ m, (wgtK n k m).length = m
  | 0 => rfl
  | m + 1 => by rw [wgtK, List.length_append, wgtK_len n k m]; rfl
def stdK (n : Nat) : Nat → List (List Int)
  | 0 => []
  | k + 1 => stdK n k ++ [wgtK (n : Int) (k : Int) n]
theorem stdK_len (n : Nat) : ∀ k, (stdK n k).length = k
  | 0 => rfl
  | k + 1 => by rw [stdK, List.length_append, stdK_len n k]; rfl
def base5 : List Int := [1000, 1000, 1000, 1000, 1000]
theorem std_prod_bd {n k : Nat} (h1 : 1 ≤ n) (h8 : n ≤ 8) (hk : k < 5) : (0 : Int) ≤ (k : Int) * ((n : Int) - 1) ∧ (k : Int) * ((n : Int) - 1) ≤ 28 := by
  have := mul_le_of (a := (k : Int)) (b := (n : Int) - 1) (A := 4) (B := 7) (by omega) (by omega) (by omega) (by omega)
  omega

theorem BldM.start {w w1 w2 : World} {zv bv : Value} {zs bs : List Int} {R G : Nat} {t1 t2 : TypeId} (hR : w.heap.size = R) (hb1 : Below (w.alloc (.cells #[nv, nv, nv] t1)).heap.size (w.alloc (.cells #[nv, nv, nv] t1)) w1) (hb2 : Below w1.heap.size w1 w2) (hG : w2.heap.size = G)
    (hz : OwnI (R + 1) w1 zv zs) (hb : OwnI w1.heap.size w2 bv bs) (ht : ∀ k, k < 3 → ((w.alloc (.cells #[nv, nv, nv] t1)).frozen? ⟨R, k, none⟩ = false)) :
    BldM R G zv bv nv [] zs [] bs w (w2.alloc (.cells #[zv, nv, bv] t2)) := by
  subst hR hG
  have s1 : w.heap.size + 1 ≤ w1.heap.size := by have := hb1.size; simpa using this
  have s2 := hb2.size
  have hbA : Below (w.alloc (.cells #[nv, nv, nv] t1)).heap.size (w.alloc (.cells #[nv, nv, nv] t1)) (w2.alloc (.cells #[zv, nv, bv] t2)) := (hb1.trans (hb2.mono hb1.size)).alloc (Nat.le_trans hb1.size hb2.size) _
  have hbB : Below w1.heap.size w1 (w2.alloc (.cells #[zv, nv, bv] t2)) := hb2.alloc hb2.size _
  have hbC : Below w2.heap.size w2 (w2.alloc (.cells #[zv, nv, bv] t2)) := (Below.refl _ _).alloc (Nat.le_refl _) _
  exact ⟨Below.trans ((Below.refl _ _).alloc (Nat.le_refl _) _) (hbA.mono (by simp)), Nat.le_refl _, by omega, by simp,
    below_cell hbA (p := ⟨w.heap.size, 0, none⟩) (by simp [go_sem]), below_cell hbA (p := ⟨w.heap.size, 1, none⟩) (by simp [go_sem]), below_cell hbA (p := ⟨w.heap.size, 2, none⟩) (by simp [go_sem]),
    fun j => (hbA.frozen (p := ⟨w.heap.size, j, none⟩) (by simp)).trans (by simp [go_sem]), by simp [go_sem], by simp [go_sem], by simp [go_sem], fun j => by simp [go_sem],
    own_later hz hbB, fun b e => by have := own_lt hz b e; omega, own_base (own_later hb hbC) s1, own_lt hb, fun b e e' => by have := own_lt hz b e; have := own_lo hb b e'; omega, OwnSS.empty _ _⟩

theorem l00MaxAbs_c (d : Int) (w : World) : Calls Tryz.prog 175 #[.int .i64 d, .int .i64 (-d)] w (RetS (.int .i64 (absI d)) w) := by
  have h : max d (-d) = absI d := by unfold absI; split <;> omega
  rw [← h]; exact l00Max_c d (-d) w

set_option maxRecDepth 100000 in
set_option maxHeartbeats 3200000 in
theorem l08Standard_c (v : Value) (zs : List Int) (w : World) (hr : Rd w v zs.length (ints zs)) (h1 : 1 ≤ zs.length) (h8 : zs.length ≤ 8) :
    Calls Tryz.prog 147 #[v] w (RetOwnM zs (stdK zs.length 5) base5 w) := by
  have how := fun w' (hx : Below w.heap.size w w') => l00Own_c v zs w' (hr.later hx) h1 (by omega)
  obtain ⟨hn, ao, cap, b, off, rfl, hao, hcell⟩ := hr.open
  clear hcell hao hr
  have HOW := Lib.hid how; clear how
  have hsl := fun k => stdK_len zs.length k
  have hwl := fun k m => wgtK_len (zs.length : Int) k m
  have hss := fun k => (show stdK zs.length k ++ [wgtK (zs.length : Int) (k : Int) zs.length] = stdK zs.length (k + 1) from rfl)
  have hws := fun (k : Int) m => (show wgtK (zs.length : Int) k m ++ [wgt (zs.length : Int) k (m : Int)] = wgtK (zs.length : Int) k (m + 1) from rfl)
  have HSL := Lib.hid hsl; clear hsl
  have HWL := Lib.hid hwl; clear hwl
  have HSS := Lib.hid hss; clear hss
  have HWS := Lib.hid hws; clear hws
  generalize zs.length = n at *
  go_enter Tryz.func147, Tryz.ntmps147
  go_wp2_with fail
  refine (HOW.out _ (by go_grown)).mono ?_
  rintro _ w1 ⟨x1, rfl, n1, r1⟩
  obtain ⟨a1, p1, rfl⟩ := own_shape n1
  have hst := BldM.start (t2 := 45) (bv := .slice (some ⟨w1.heap.size, 0, none⟩) 5 5) (bs := base5) (hR := rfl) r1 ((Below.refl _ _).alloc (Nat.le_refl _) _) (by simp; rfl) (by simpa using n1) (own_five w1 1000 1000 1000 1000 1000 _ (Nat.le_refl _)) (fun k hk => by simp [go_sem])
  have HST := Lib.hid hst; clear hst
  clear n1
  go_wp2_with fail
  have z1 : w.heap.size + 1 ≤ w1.heap.size := by have := r1.size; simpa using this
  go_loopw [5] (fun i wr => ∃ (k : Nat) (wv : Value) (us : List Value), k ≤ 5 ∧ i = .int .i64 k ∧ BldM w.heap.size (w1.heap.size + 1) (.slice a1 zs.length p1) (.slice (some ⟨w1.heap.size, 0, none⟩) 5 5) wv us zs (stdK n k) base5 w wr) (fun i _ => 5 - (intOf i).toNat)
  case atStart => exact ⟨0, nv, [], Nat.zero_le _, rfl, HST.out⟩
  case round =>
    obtain ⟨k, wv, us, hk, rfl, hB⟩ := hrel
    obtain ⟨aw, pw, rfl⟩ := own_shape hB.s.row
    have hlk := HSL.out k
    have hbel := hB.below
    have g0 := hB.g0
    have g1 := hB.g1
    have g2 := hB.g2
    have gf := hB.gf
    have hgs := hB.gs
    have hnG : ¬ (Value.slice aw (stdK n k).length pw).ownBlock = some (w1.heap.size + 1) := fun e => by have := own_lo hB.s.row _ e; omega
    by_cases hlt : k < 5
    · have hltd : decide ((k : Int) < 5) = true := by simp; omega
      have hss := HSS.out k
      have pb := std_prod_bd h1 h8 hlt
      obtain ⟨pb0, pb1⟩ := pb
      have HB := Lib.hid hB; clear hB
      have HS := Lib.hid hss; clear hss
      have HLK := Lib.hid hlk; clear hlk
      have HNG := Lib.hid hnG; clear hnG
      generalize wr = w3 at *
      go_wp2_with fail
      go_loopw [7, 6] (fun z row wr => ∃ (m : Nat), m ≤ n ∧ z = .int .i64 m ∧ OwnI w3.heap.size wr row (wgtK (n : Int) (k : Int) m) ∧ Below w3.heap.size w3 wr) (fun z _ _ => n - (intOf z).toNat)
      case atStart => exact ⟨0, Nat.zero_le _, rfl, own_empty _ _ _ _ (Nat.le_refl _), by go_grown⟩
      case round =>
        obtain ⟨m, hm, rfl, ho, hb⟩ := hrel
        have hql := HWL.out (k : Int) m
        have hlo := own_lo ho
        have LO := Lib.hid hlo; clear hlo
        have HO := Lib.hid ho; clear ho
        by_cases hmn : m < n
        · have hws := HWS.out (k : Int) m
          have hqb : (wgtK (n : Int) (k : Int) m).length ≤ 1000000 := by rw [hql]; omega
          clear hql
          have HW := Lib.hid hws; clear hws
          generalize wgtK (n : Int) (k : Int) m = qs at *
          have fin : ∀ wq, Below w3.heap.size w3 wq → ∀ v9 w9, OwnI w3.heap.size w9 v9 (qs ++ [wgt (n : Int) (k : Int) (m : Int)]) → ∀ S, Only S wq w9 → (∀ b, S b → w3.heap.size ≤ b) → OwnI w3.heap.size w9 v9 (wgtK (n : Int) (k : Int) (m + 1)) ∧ Below w3.heap.size w3 w9 := fun wq hb v9 w9 o9 S q9 hS => ⟨by rw [← HW.out]; exact o9, Only.below hb q9 hb.size hS⟩
          have FIN := Lib.hid fin; clear fin
          by_cases hn1 : 1 < n
          · have hn1d : decide ((1 : Int) < (n : Int)) = true := by simp; omega
            have hwv : wgt (n : Int) (k : Int) (m : Int) = 1000 - rnd (900 * absI (4 * (m : Int) - (k : Int) * ((n : Int) - 1))) (4 * ((n : Int) - 1)) := by unfold wgt; rw [if_pos (by omega)]
            rw [hwv] at FIN
            clear hwv
            have hab : 0 ≤ absI (4 * (m : Int) - (k : Int) * ((n : Int) - 1)) ∧ absI (4 * (m : Int) - (k : Int) * ((n : Int) - 1)) ≤ 100 := by unfold absI; split <;> omega
            obtain ⟨hab0, hab1⟩ := hab
            have hrb := rnd_bd (900 * absI (4 * (m : Int) - (k : Int) * ((n : Int) - 1))) (4 * ((n : Int) - 1)) (by omega) (by omega) (by omega)
            obtain ⟨hrb0, hrb1⟩ := hrb
            go_wp2_with (first | (go_at_call 175; refine (l00MaxAbs_c _ _).mono ?_; rintro _ _ ⟨rfl, rfl⟩) | (go_at_call 174; refine (l01Div_c _ _ _ (by omega) (by omega) (by omega) (by omega)).mono ?_; rintro _ _ ⟨rfl, rfl⟩) | (at_builtin; refine app_I (.tmp 46) (.tmp 48) _ _ _ _ _ (by rfl) (by rfl) (by rfl) (by rfl) HO.out hqb hb.size ?_; intro v9 w9 o9 q9; obtain ⟨o9', b9⟩ := FIN.out _ hb v9 w9 o9 _ q9 (fun b e => LO.out b e); clear o9 q9; have O9 := Lib.hid o9'; clear o9'))
            go_roundw
            case rel => exact ⟨m + 1, by omega, by go_num, O9.out, b9⟩
            case measure => simp [intOf]; omega
          · have hn1d : decide ((1 : Int) < (n : Int)) = false := by simp; omega
            have hwv : wgt (n : Int) (k : Int) (m : Int) = 1000 := by unfold wgt; rw [if_neg (by omega)]
            rw [hwv] at FIN
            clear hwv
            go_wp2_with (at_builtin; refine app_I (.tmp 46) (.tmp 48) _ _ _ _ _ (by rfl) (by rfl) (by rfl) (by rfl) HO.out hqb hb.size ?_; intro v9 w9 o9 q9; obtain ⟨o9', b9⟩ := FIN.out _ hb v9 w9 o9 _ q9 (fun b e => LO.out b e); clear o9 q9; have O9 := Lib.hid o9'; clear o9')
            go_roundw
            case rel => exact ⟨m + 1, by omega, by go_num, O9.out, b9⟩
            case measure => simp [intOf]; omega
        · obtain rfl : m = n := by omega
          obtain ⟨ar, pr, rfl⟩ := own_shape HO.out
          have c1 := below_cell hb g1
          have cf : ∀ j, wr.frozen? ⟨w1.heap.size + 1, j, none⟩ = false := fun j => (hb.frozen (p := ⟨w1.heap.size + 1, j, none⟩) hgs).trans (gf j)
          have hgs2 : w1.heap.size + 1 < wr.heap.size := Nat.lt_of_lt_of_le hgs hb.size
          have a1 := fun o => alloc_cell o c1
          have hsr := HB.out.s.row
          have hsl1 : (stdK m k).length ≤ 1000000 := by rw [HLK.out]; omega
          have hrow := own_later hsr hb
          have HROW := Lib.hid hrow; clear hrow
          clear hsr hql
          go_wp2_with (at_builtin; refine app_SS (.tmp 51) (.tmp 53) _ (w1.heap.size + 1 + 1) _ _ us ar _ pr (by rfl) (by rfl) (by rfl) (by rfl) HROW.out hsl1 (by omega) ?_; intro v9 w9 o9 q9 hat; obtain ⟨a9, c9, rfl⟩ := own_shape o9; have d1 := cell_only q9 c1 HNG.out; have d2 := (frozen_only q9 (p := ⟨w1.heap.size + 1, 1, none⟩) hgs2 HNG.out).trans (cf 1); have hnx := HB.out.next (row := wgtK (m : Int) (k : Int) m) hb HO.out o9 q9 hat; have HNX := Lib.hid hnx; clear hnx; clear o9 q9 hat)
          go_roundw
          case rel => exact ⟨k + 1, _, _, by omega, by go_num, by rw [← HS.out]; exact HNX.out⟩
          case measure => simp [intOf]; omega
    · obtain rfl : k = 5 := by omega
      have r0 := hB.r0
      have r1' := hB.r1
      have r2 := hB.r2
      have rf := hB.rf
      have HB := Lib.hid hB; clear hB
      have HLK := Lib.hid hlk; clear hlk
      go_wp2
      refine bodyPost_ret (v := .agg #[.slice a1 zs.length p1, .slice aw (stdK n 5).length pw, .slice (some ⟨w1.heap.size, 0, none⟩) 5 5]) (by simp [results, Tryz.results147, go_sem, r0, r1', r2]) rfl ?_
      exact ⟨_, _, _, us, rfl, HB.out.ownR _ _ _, HB.out.belowR _ _ _⟩

end Go.Proofs.YtgdadbmhdljcdaaGreatDoor

/- The standard model of some zones: both functions. -/
namespace Go.Proofs.YtgdadbmhdljcdaaGreatDoor
set_option linter.unusedVariables false
open Go.RowKit Go.Proofs.Bell Go.BigFrame

def stdI (zs : List Int) : (List Int × List (List Int) × List Int) × Int := if zonesB zs 31 then ((zs, stdK zs.length 5, base5), 0) else (([], [], []), 1)
theorem stdI_bd (zs : List Int) : (stdI zs).1.1.length ≤ 100000 ∧ SzSS (stdI zs).1.2.1 ≤ 100000 ∧ (stdI zs).1.2.2.length ≤ 100000 := by
  unfold stdI
  cases t0 : zonesB zs 31
  · simp [SzSS, lensK]
  · obtain ⟨h1, h2⟩ := zonesB_len t0
    refine ⟨by simp; omega, ?_, by simp [base5]⟩
    simp [SzSS, stdK, lensK, wgtK_len, List.getD]
    omega

set_option maxRecDepth 100000 in
set_option maxHeartbeats 3200000 in
theorem implStandardModel_c (v : Value) (zs : List Int) (w : World) (hr : Rd w v zs.length (ints zs)) :
    Calls Tryz.prog 30 #[v] w (RetM2 (stdI zs).1.1 (stdI zs).1.2.1 (stdI zs).1.2.2 (.int .i64 (stdI zs).2) w) := by
  have hz := fun w' (hx : Below w.heap.size w w') => areZones_c v zs 32 w' (hr.later hx)
  rw [show (32 : Int) - 1 = 31 from rfl] at hz
  cases t0 : zonesB zs 31 <;> rw [t0] at hz
  · have he : stdI zs = (([], [], []), 1) := by simp [stdI, t0]
    rw [he]
    obtain ⟨hn, ao, cap, b, off, rfl, hao, hcell⟩ := hr.open
    clear he hao hcell hr
    have HZ := Lib.hid hz; clear hz
    go_enter Tryz.func30, Tryz.ntmps30
    have b0 : Below w.heap.size w w := Below.refl _ _
    have z0 : w.heap.size ≤ w.heap.size := Nat.le_refl _
    go_wp2_with fail
    refine (HZ.out _ (by go_grown)).mono ?_
    rintro _ _ ⟨rfl, rfl⟩
    go_wp2
    refine bodyPost_ret (v := .tuple #[.agg #[.slice none 0 0, .slice none 0 0, .slice none 0 0], .int .i64 1]) (by simp [results, Tryz.results30, go_sem]) rfl ?_
    exact RetM2.nil (by go_grown)
  · have he : stdI zs = ((zs, stdK zs.length 5, base5), 0) := by simp [stdI, t0]
    rw [he]
    clear he
    obtain ⟨h1, h8⟩ := zonesB_len t0
    have how := fun w' (hx : Below w.heap.size w w') => CloneI_c v zs w' (hr.later hx) h1 (by omega)
    have hsz := fun w' (hx : Below w.heap.size w w') => size64_c v zs.length _ w' (hr.later hx)
    obtain ⟨hn, ao, cap, b, off, rfl, hao, hcell⟩ := hr.open
    clear hcell hao hr t0
    have HOW := Lib.hid how; clear how
    have HSZ := Lib.hid hsz; clear hsz
    have HZ := Lib.hid hz; clear hz
    have hsl := fun k => stdK_len zs.length k
    have hwl := fun k m => wgtK_len (zs.length : Int) k m
    have hss := fun k => (show stdK zs.length k ++ [wgtK (zs.length : Int) (k : Int) zs.length] = stdK zs.length (k + 1) from rfl)
    have hws := fun (k : Int) m => (show wgtK (zs.length : Int) k m ++ [wgt (zs.length : Int) k (m : Int)] = wgtK (zs.length : Int) k (m + 1) from rfl)
    have HSL := Lib.hid hsl; clear hsl
    have HWL := Lib.hid hwl; clear hwl
    have HSS := Lib.hid hss; clear hss
    have HWS := Lib.hid hws; clear hws
    generalize zs.length = n at *
    go_enter Tryz.func30, Tryz.ntmps30
    go_wp2_with (first | (go_at_call 83; refine (HZ.out _ (by go_grown)).mono ?_; rintro _ _ ⟨rfl, rfl⟩) | (go_at_call 84; refine (HSZ.out _ (by go_grown)).mono ?_; rintro _ _ ⟨rfl, rfl⟩))
    refine (HOW.out _ (by go_grown)).mono ?_
    rintro _ w1 ⟨x1, rfl, n1, r1⟩
    obtain ⟨a1, p1, rfl⟩ := own_shape n1
    go_wp2_with fail
    refine (fiveTimes_c _ _).mono ?_
    rintro _ w2 ⟨x2, rfl, n2, r2⟩
    obtain ⟨ab, pb, rfl⟩ := own_shape n2
    have hst := BldM.start (t2 := 45) (bs := base5) (hR := rfl) r1 r2 rfl (by simpa using n1) n2 (fun k hk => by simp [go_sem])
    have HST := Lib.hid hst; clear hst
    clear n1 n2
    have hx12 : w1.heap.size ≤ w2.heap.size := r2.size
    go_wp2_with fail
    have z1 : w.heap.size + 1 ≤ w1.heap.size := by have := r1.size; simpa using this
    go_loopw [20] (fun i wr => ∃ (k : Nat) (wv : Value) (us : List Value), k ≤ 5 ∧ i = .int .i64 k ∧ BldM w.heap.size (w2.heap.size) (.slice a1 zs.length p1) (.slice ab 5 pb) wv us zs (stdK n k) base5 w wr) (fun i _ => 5 - (intOf i).toNat)
    case atStart => exact ⟨0, nv, [], Nat.zero_le _, rfl, HST.out⟩
    case round =>
      obtain ⟨k, wv, us, hk, rfl, hB⟩ := hrel
      obtain ⟨aw, pw, rfl⟩ := own_shape hB.s.row
      have hlk := HSL.out k
      have hbel := hB.below
      have g0 := hB.g0
      have g1 := hB.g1
      have g2 := hB.g2
      have gf := hB.gf
      have hgs := hB.gs
      have hnG : ¬ (Value.slice aw (stdK n k).length pw).ownBlock = some (w2.heap.size) := fun e => by have := own_lo hB.s.row _ e; omega
      by_cases hlt : k < 5
      · have hltd : decide ((k : Int) < 5) = true := by simp; omega
        have hss := HSS.out k
        have pb9 := std_prod_bd h1 h8 hlt
        obtain ⟨pb0, pb1⟩ := pb9
        have HB := Lib.hid hB; clear hB
        have HS := Lib.hid hss; clear hss
        have HLK := Lib.hid hlk; clear hlk
        have HNG := Lib.hid hnG; clear hnG
        generalize wr = w3 at *
        go_wp2_with fail
        go_loopw [24, 7] (fun z row wr => ∃ (m : Nat), m ≤ n ∧ z = .int .i64 m ∧ OwnI w3.heap.size wr row (wgtK (n : Int) (k : Int) m) ∧ Below w3.heap.size w3 wr) (fun z _ _ => n - (intOf z).toNat)
        case atStart => exact ⟨0, Nat.zero_le _, rfl, World.ownsRow_nil _ _ _ _, by go_grown⟩
        case round =>
          obtain ⟨m, hm, rfl, ho, hb⟩ := hrel
          have hql := HWL.out (k : Int) m
          have hlo := own_lo ho
          have LO := Lib.hid hlo; clear hlo
          have HO := Lib.hid ho; clear ho
          by_cases hmn : m < n
          · have hws := HWS.out (k : Int) m
            have hqb : (wgtK (n : Int) (k : Int) m).length ≤ 1000000 := by rw [hql]; omega
            clear hql
            have HW := Lib.hid hws; clear hws
            generalize wgtK (n : Int) (k : Int) m = qs at *
            have fin : ∀ wq, Below w3.heap.size w3 wq → ∀ v9 w9, OwnI w3.heap.size w9 v9 (qs ++ [wgt (n : Int) (k : Int) (m : Int)]) → ∀ S, Only S wq w9 → (∀ b, S b → w3.heap.size ≤ b) → OwnI w3.heap.size w9 v9 (wgtK (n : Int) (k : Int) (m + 1)) ∧ Below w3.heap.size w3 w9 := fun wq hb v9 w9 o9 S q9 hS => ⟨by rw [← HW.out]; exact o9, Only.below hb q9 hb.size hS⟩
            have FIN := Lib.hid fin; clear fin
            by_cases hn1 : 1 < n
            · have hn1d : decide ((1 : Int) < (n : Int)) = true := by simp; omega
              have hwv : wgt (n : Int) (k : Int) (m : Int) = 1000 - rnd (900 * absI (4 * (m : Int) - (k : Int) * ((n : Int) - 1))) (4 * ((n : Int) - 1)) := by unfold wgt; rw [if_pos (by omega)]
              rw [hwv] at FIN
              clear hwv
              have hab : 0 ≤ absI (4 * (m : Int) - (k : Int) * ((n : Int) - 1)) ∧ absI (4 * (m : Int) - (k : Int) * ((n : Int) - 1)) ≤ 100 := by unfold absI; split <;> omega
              obtain ⟨hab0, hab1⟩ := hab
              have hrb := rnd_bd (900 * absI (4 * (m : Int) - (k : Int) * ((n : Int) - 1))) (4 * ((n : Int) - 1)) (by omega) (by omega) (by omega)
              obtain ⟨hrb0, hrb1⟩ := hrb
              go_wp2_with (first | (go_at_call 87; refine (abs_c _ _ (by omega) (by omega)).mono ?_; rintro _ _ ⟨rfl, rfl⟩) | (go_at_call 70; refine (nearest_c _ _ _ (by omega) (by omega) (by omega) (by omega)).mono ?_; rintro _ _ ⟨rfl, nq, rfl⟩; have ho2 := own_later HO.out (below_drewN (Below.refl _ _) nq); have HO2 := Lib.hid ho2; clear ho2; have hb2 := below_drewN hb nq) | (at_builtin; refine app_I (.tmp 44) (.tmp 46) _ _ _ _ _ (by rfl) (by rfl) (by rfl) (by rfl) HO2.out hqb hb2.size ?_; intro v9 w9 o9 q9; obtain ⟨o9', b9⟩ := FIN.out _ hb2 v9 w9 o9 _ q9 (fun b e => LO.out b e); clear o9 q9; have O9 := Lib.hid o9'; clear o9'))
              go_roundw
              case rel => exact ⟨m + 1, by omega, by go_num, O9.out, b9⟩
              case measure => simp [intOf]; omega
            · have hn1d : decide ((1 : Int) < (n : Int)) = false := by simp; omega
              have hwv : wgt (n : Int) (k : Int) (m : Int) = 1000 := by unfold wgt; rw [if_neg (by omega)]
              rw [hwv] at FIN
              clear hwv
              go_wp2_with (at_builtin; refine app_I (.tmp 44) (.tmp 46) _ _ _ _ _ (by rfl) (by rfl) (by rfl) (by rfl) HO.out hqb hb.size ?_; intro v9 w9 o9 q9; obtain ⟨o9', b9⟩ := FIN.out _ hb v9 w9 o9 _ q9 (fun b e => LO.out b e); clear o9 q9; have O9 := Lib.hid o9'; clear o9')
              go_roundw
              case rel => exact ⟨m + 1, by omega, by go_num, O9.out, b9⟩
              case measure => simp [intOf]; omega
          · obtain rfl : m = n := by omega
            obtain ⟨ar, pr, rfl⟩ := own_shape HO.out
            have c1 := below_cell hb g1
            have cf : ∀ j, wr.frozen? ⟨w2.heap.size, j, none⟩ = false := fun j => (hb.frozen (p := ⟨w2.heap.size, j, none⟩) hgs).trans (gf j)
            have hgs2 : w2.heap.size < wr.heap.size := Nat.lt_of_lt_of_le hgs hb.size
            have a1 := fun o => alloc_cell o c1
            have hsr := HB.out.s.row
            have hsl1 : (stdK m k).length ≤ 1000000 := by rw [HLK.out]; omega
            have hrow := own_later hsr hb
            have HROW := Lib.hid hrow; clear hrow
            clear hsr hql
            go_wp2_with (at_builtin; refine app_SS (.tmp 50) (.tmp 52) _ (w2.heap.size + 1) _ _ us ar _ pr (by rfl) (by rfl) (by rfl) (by rfl) HROW.out hsl1 (by omega) ?_; intro v9 w9 o9 q9 hat; obtain ⟨a9, c9, rfl⟩ := own_shape o9; have d1 := cell_only q9 c1 HNG.out; have d2 := (frozen_only q9 (p := ⟨w2.heap.size, 1, none⟩) hgs2 HNG.out).trans (cf 1); have hnx := HB.out.next (row := wgtK (m : Int) (k : Int) m) hb HO.out o9 q9 hat; have HNX := Lib.hid hnx; clear hnx; clear o9 q9 hat)
            go_roundw
            case rel => exact ⟨k + 1, _, _, by omega, by go_num, by rw [← HS.out]; exact HNX.out⟩
            case measure => simp [intOf]; omega
      · obtain rfl : k = 5 := by omega
        have r0 := hB.r0
        have r1' := hB.r1
        have r2 := hB.r2
        have rf := hB.rf
        have HB := Lib.hid hB; clear hB
        have HLK := Lib.hid hlk; clear hlk
        go_wp2
        refine bodyPost_ret (v := .tuple #[.agg #[.slice a1 zs.length p1, .slice aw (stdK n 5).length pw, .slice ab 5 pb], .int .i64 0]) (by simp [results, Tryz.results30, go_sem, r0, r1', r2]) rfl ?_
        exact ⟨_, _, _, us, rfl, HB.out.ownR _ _ _, HB.out.belowR _ _ _⟩

end Go.Proofs.YtgdadbmhdljcdaaGreatDoor

