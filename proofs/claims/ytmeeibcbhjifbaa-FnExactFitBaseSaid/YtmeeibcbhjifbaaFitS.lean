/- A model fitted to a sound: the reference. -/
import Derived.Test.YtmeeibcbhjifbaaBldN
import Derived.Test.YtmeeibcbhjifbaaFitP
import Derived.Test.YtmeeibcbhjifbaaRaw3
import Derived.Deep.RegionLaw
namespace Go.Proofs.Ytmeeibcbhjifbaa
set_option linter.unusedVariables false
open Go.RowKit Go.Proofs.Bell Go.BigFrame

def fitI (zs : List Int) (ws : List (List Int)) (bs : List Int) (ps : List (Int × Int × Int)) (ls : List Int) : (List Int × List (List Int) × List Int) × Bool :=
  if fitOkK ls (sumsK (zwK ps zs zs.length) ws 5) (lipI ps) 5 then ((zs, ws, fitK ls (sumsK (zwK ps zs zs.length) ws 5) (lipI ps) bs 5), true) else (([], [], []), false)
theorem fitI_f {zs : List Int} {ws : List (List Int)} {bs : List Int} {ps : List (Int × Int × Int)} {ls : List Int} {k : Nat} (hk : k < 5) (h : inB (fitV ls (sumsK (zwK ps zs zs.length) ws 5) (lipI ps) k) 1 1000000000 = false) : fitI zs ws bs ps ls = (([], [], []), false) := by
  have : fitOkK ls (sumsK (zwK ps zs zs.length) ws 5) (lipI ps) 5 = false := fitOk_mono (k := k + 1) (by omega) (by rw [fitOkK, h]; simp)
  simp [fitI, this]

set_option maxRecDepth 100000 in
set_option maxHeartbeats 6400000 in
theorem l08Fit_c (g g' g'' : Nat) (zv wv bv : Value) (zs : List Int) (ws : List (List Int)) (bs : List Int) (nm : ByteArray) (sv : Value) (ps : List (Int × Int × Int)) (a b c d f : Int) (w : World) (c0 : w.cell? ⟨g, 0, none⟩ = some zv) (c1 : w.cell? ⟨g, 1, none⟩ = some wv) (c2 : w.cell? ⟨g, 2, none⟩ = some bv) (d1 : w.cell? ⟨g', 1, none⟩ = some sv)
    (e0 : w.cell? ⟨g'', 0, none⟩ = some (.int .i64 a)) (e1 : w.cell? ⟨g'', 1, none⟩ = some (.int .i64 b)) (e2 : w.cell? ⟨g'', 2, none⟩ = some (.int .i64 c)) (e3 : w.cell? ⟨g'', 3, none⟩ = some (.int .i64 d)) (e4 : w.cell? ⟨g'', 4, none⟩ = some (.int .i64 f))
    (hz : Rd w zv zs.length (ints zs)) (hw : RdSS w wv ws) (hb : Rd w bv bs.length (ints bs)) (hr : Rd w sv ps.length (trips ps)) (hmb : modelB zs ws bs = true) (hl1 : 1 ≤ ps.length) (hl2 : ps.length ≤ 32) (hal : ps.all ringT = true) (hzb : zonesB zs ((ps.length : Int) - 1) = true)
    (hls : ∀ k, k < 5 → 0 ≤ [a, b, c, d, f].getD k 0 ∧ [a, b, c, d, f].getD k 0 ≤ 20000000) :
    Calls Try.prog 54 #[.pointer (some ⟨g, 0, none⟩), .pointer (some ⟨g', 0, none⟩), .pointer (some ⟨g'', 0, none⟩)] w (RetM2 (fitI zs ws bs ps [a, b, c, d, f]).1.1 (fitI zs ws bs ps [a, b, c, d, f]).1.2.1 (fitI zs ws bs ps [a, b, c, d, f]).1.2.2 (.bool (fitI zs ws bs ps [a, b, c, d, f]).2) w) := by
  have hg' : g' < w.heap.size := World.block_lt_of_cell? w _ d1
  have hg2 : g'' < w.heap.size := World.block_lt_of_cell? w _ e0
  obtain ⟨hz1, hz8, hw5, hb5, _⟩ := modelB_t hmb
  have how := fun w' (hx : Below w.heap.size w w') => l08Own_c g zv wv bv zs ws bs w' (below_cell hx c0) (below_cell hx c1) (below_cell hx c2) (hz.later hx) (hw.later hx) (hb.later hx) hz1 (by omega) (by omega) (by omega) (by omega) (by omega) (fun k hk => by have := (row_bd hmb k (by omega)).1; omega)
  have hwa := fun w' (hx : Below w.heap.size w w') => l08Walls_c g' nm sv ps zv zs w' (by have := hx.size; omega) (below_cell hx d1) (hr.later hx) (hz.later hx) hal hl2 hzb
  have hli := fun w' (hx : Below w.heap.size w w') => l04ListO_c a b c d f g'' w' (below_cell hx e0) (below_cell hx e1) (below_cell hx e2) (below_cell hx e3) (below_cell hx e4)
  have hwl := zwK_len ps zs zs.length
  have hmo := fun w' vw k (hk : k < 5) (hx : Below w.heap.size w w') (h : Rd w' vw (zwK ps zs zs.length).length (ints (zwK ps zs zs.length))) => l08Moment_c g wv ws vw (zwK ps zs zs.length) k w' (below_cell hx c1) (hw.later hx) h (by omega) (by rw [hwl]; exact (row_bd hmb k hk).1) (by omega) (zw_bd hal hzb) (row_bd hmb k hk).2.1
  have har := fun w' (hx : Below w.heap.size w w') => l08Area_c g' sv ps w' (below_cell hx d1) (hr.later hx) hl1 hal
  have hlb := lipI_bd hl1 hal
  have hmp : ∀ k, k < 5 → 1 ≤ momK (zwK ps zs zs.length) (ws.getD k []) (zwK ps zs zs.length).length := fun k (hk : k < 5) => by rw [hwl]; exact mom_pos hal hzb hmb hk
  have hmbd := fun k (hk : k < 5) => (momK_bd (walls := zwK ps zs zs.length) (row := ws.getD k []) (zw_bd hal hzb) (row_bd hmb k hk).2.1 (zwK ps zs zs.length).length)
  have hsa := fun k (hk : k < 5) => sumsK_at (zwK ps zs zs.length) ws 5 k hk
  have hbad := fun k (hk : k < 5) h => fitI_f (zs := zs) (ws := ws) (bs := bs) (ps := ps) (ls := [a, b, c, d, f]) hk h
  have hgood : fitOkK [a, b, c, d, f] (sumsK (zwK ps zs zs.length) ws 5) (lipI ps) 5 = true → fitI zs ws bs ps [a, b, c, d, f] = ((zs, ws, fitK [a, b, c, d, f] (sumsK (zwK ps zs zs.length) ws 5) (lipI ps) bs 5), true) := fun h => by simp [fitI, h]
  have hl5 : [a, b, c, d, f].length = 5 := rfl
  generalize fitI zs ws bs ps [a, b, c, d, f] = RES at *
  generalize sumsK (zwK ps zs zs.length) ws 5 = sums at *
  generalize zwK ps zs zs.length = walls at *
  generalize [a, b, c, d, f] = ls at *
  have hkl := fun k => fitK_len ls sums (lipI ps) bs k
  have hks := fun k => (show (fitK ls sums (lipI ps) bs k).set k (fitV ls sums (lipI ps) k) = fitK ls sums (lipI ps) bs (k + 1) from rfl)
  have hko := fun k => (show (fitOkK ls sums (lipI ps) k && inB (fitV ls sums (lipI ps) k) 1 1000000000) = fitOkK ls sums (lipI ps) (k + 1) from rfl)
  have hkv := fun k => (show fitV ls sums (lipI ps) k = rnd (ls.getD k 0 * lipI ps) (sums.getD k 0) from rfl)
  have hk0 : fitK ls sums (lipI ps) bs 0 = bs := rfl
  have hk1 : fitOkK ls sums (lipI ps) 0 = true := rfl
  have hzc := below_cell (w := w) (w' := w) (Below.refl _ _) c0
  have hcz := fun w' (hx : Below w.heap.size w w') => below_cell hx c0
  obtain ⟨hnq, aoq, capq, bq, offq, rfl, haoq, hcellq⟩ := hz.open
  clear hz hcellq haoq hzc c0 c1 c2 d1 e0 e1 e2 e3 e4 hw hr hb hmb hal hzb
  generalize lipI ps = area at *
  have HOW := Lib.hid how; clear how
  have HWA := Lib.hid hwa; clear hwa
  have HLI := Lib.hid hli; clear hli
  have HMO := Lib.hid hmo; clear hmo
  have HAR := Lib.hid har; clear har
  have HMP := Lib.hid hmp; clear hmp
  have HMBD := Lib.hid hmbd; clear hmbd
  have HSA := Lib.hid hsa; clear hsa
  have HBAD := Lib.hid hbad; clear hbad
  have HGOOD := Lib.hid hgood; clear hgood
  have HKL := Lib.hid hkl; clear hkl
  have HKS := Lib.hid hks; clear hks
  have HKO := Lib.hid hko; clear hko
  have HKV := Lib.hid hkv; clear hkv
  have HK0 := Lib.hid hk0; clear hk0
  have HK1 := Lib.hid hk1; clear hk1
  have HCZ := Lib.hid hcz; clear hcz
  have HLS := Lib.hid hls; clear hls
  have HL5 := Lib.hid hl5; clear hl5
  have HW5 := Lib.hid hw5; clear hw5
  have HB5 := Lib.hid hb5; clear hb5
  have HWL := Lib.hid hwl; clear hwl
  go_enter Try.func54, Try.ntmps54
  have b0 : Below w.heap.size w w := Below.refl _ _
  have z0 : w.heap.size ≤ w.heap.size := Nat.le_refl _
  go_wp2_with fail
  refine (HOW.out _ (by go_grown)).mono ?_
  rintro _ w1 ⟨zv1, wv1, bv1, us, rfl, om, r1⟩
  obtain ⟨az, cz, rfl⟩ := own_shape om.z
  obtain ⟨aw, cw, rfl⟩ := own_shape om.s.row
  obtain ⟨gb, cb, rfl, hgb1, hgb2⟩ := World.ownsRow.form om.b (by rw [HB5.out]; decide)
  have om := om.wide (show w.heap.size + 1 ≤ _ by simp) (Nat.le_refl _)
  have OM := Lib.hid om; clear om
  have s1 : Below w.heap.size w w1 := Below.trans (by go_grown) (r1.mono (by simp; try omega))
  have b1 := b0.trans (s1.mono z0)
  have z1 := b1.size
  have y1 := s1.size
  have v1 : w.heap.size + 1 ≤ w1.heap.size := by have := r1.size; simp only [World.size_alloc] at this; omega
  have c0_0_1 := below_cell r1 (p := ⟨w.heap.size, 0, none⟩) (v := .slice none 0 0) (by simp [go_sem])
  have c0_1_1 := below_cell r1 (p := ⟨w.heap.size, 1, none⟩) (v := .slice none 0 0) (by simp [go_sem])
  have c0_2_1 := below_cell r1 (p := ⟨w.heap.size, 2, none⟩) (v := .slice none 0 0) (by simp [go_sem])
  have f0_1 : ∀ j, w1.frozen? ⟨w.heap.size, j, none⟩ = false := fun j => (r1.frozen (p := ⟨w.heap.size, j, none⟩) (by simp [go_sem])).trans (by simp [go_sem])
  have hq0 := HCZ.out _ b1
  have hq1 := fun o => alloc_cell o hq0
  go_wp2_with fail
  refine (HWA.out _ (by go_grown)).mono ?_
  rintro _ w2 ⟨x2, rfl, n2, r2⟩
  have s2 : Below w1.heap.size w1 w2 := Below.trans (by go_grown) (r2.mono (by simp; try omega))
  have b2 := b1.trans (s2.mono z1)
  have z2 := b2.size
  have y2 := s2.size
  have v2 : w1.heap.size + 1 ≤ w2.heap.size := by have := r2.size; simp only [World.size_alloc] at this; omega
  have k0_2 := c0_0_1
  have c0_0_2 := below_cell s2 c0_0_1; clear c0_0_1
  have c0_1_2 := below_cell s2 c0_1_1; clear c0_1_1
  have c0_2_2 := below_cell s2 c0_2_1; clear c0_2_1
  have c1_0_2 := below_cell r2 (p := ⟨w1.heap.size, 0, none⟩) (v := .slice az zs.length cz) (by simp [go_sem])
  have c1_1_2 := below_cell r2 (p := ⟨w1.heap.size, 1, none⟩) (v := .slice aw ws.length cw) (by simp [go_sem])
  have c1_2_2 := below_cell r2 (p := ⟨w1.heap.size, 2, none⟩) (v := .slice (some ⟨gb, 0, none⟩) bs.length cb) (by simp [go_sem])
  have f0_2 : ∀ j, w2.frozen? ⟨w.heap.size, j, none⟩ = false := fun j => (s2.frozen (p := ⟨w.heap.size, j, none⟩) (show w.heap.size < _ from World.block_lt_of_cell? _ ⟨w.heap.size, 0, none⟩ k0_2)).trans (f0_1 j); clear f0_1
  have f1_2 : ∀ j, w2.frozen? ⟨w1.heap.size, j, none⟩ = false := fun j => (r2.frozen (p := ⟨w1.heap.size, j, none⟩) (by simp [go_sem])).trans (by simp [go_sem])
  clear r2
  obtain ⟨aw2, cw2, rfl⟩ := own_shape n2
  have lo2 := own_lo n2
  have N2 := Lib.hid n2; clear n2
  clear hq1 hq0
  go_wp2_with fail
  refine (HLI.out _ b2).mono ?_
  rintro _ w3 ⟨x3, rfl, n3, r3⟩
  have s3 := r3
  have b3 := b2.trans (s3.mono z2)
  have z3 := b3.size
  have y3 := s3.size
  have k0_3 := c0_0_2
  have c0_0_3 := below_cell s3 c0_0_2; clear c0_0_2
  have c0_1_3 := below_cell s3 c0_1_2; clear c0_1_2
  have c0_2_3 := below_cell s3 c0_2_2; clear c0_2_2
  have k1_3 := c1_0_2
  have c1_0_3 := below_cell s3 c1_0_2; clear c1_0_2
  have c1_1_3 := below_cell s3 c1_1_2; clear c1_1_2
  have c1_2_3 := below_cell s3 c1_2_2; clear c1_2_2
  have f0_3 : ∀ j, w3.frozen? ⟨w.heap.size, j, none⟩ = false := fun j => (s3.frozen (p := ⟨w.heap.size, j, none⟩) (show w.heap.size < _ from World.block_lt_of_cell? _ ⟨w.heap.size, 0, none⟩ k0_3)).trans (f0_2 j); clear f0_2
  have f1_3 : ∀ j, w3.frozen? ⟨w1.heap.size, j, none⟩ = false := fun j => (s3.frozen (p := ⟨w1.heap.size, j, none⟩) (show w1.heap.size < _ from World.block_lt_of_cell? _ ⟨w1.heap.size, 0, none⟩ k1_3)).trans (f1_2 j); clear f1_2
  clear r3
  have lo3 := own_lo n3
  obtain ⟨gl, cl, rfl, hgl1, hgl2⟩ := World.ownsRow.form n3 (by rw [HL5.out]; decide)
  have lo3 : w2.heap.size ≤ gl := lo3 gl rfl
  have om3 := (OM.out.later s2).later s3
  have n2 := own_later N2.out s3
  have hgbl : w.heap.size + 1 ≤ gb := own_lo om3.b gb rfl
  have hgbh : gb < w1.heap.size := om3.bh gb rfl
  have v2' : w1.heap.size + 1 ≤ w2.heap.size := by have := s2.size; first | omega | exact v2
  have sz3 : w2.heap.size ≤ w3.heap.size := s3.size
  have OM3 := Lib.hid om3; clear om3
  have N2' := Lib.hid n2; clear n2
  have N3 := Lib.hid n3; clear n3
  have LO2 := Lib.hid lo2; clear lo2
  clear OM N2
  go_wp2_with fail
  go_loopw [11] (fun i wr => ∃ (k : Nat), k ≤ 5 ∧ i = .int .i64 k ∧ Only (fun x => x = gb) w3 wr ∧ OwnI (w.heap.size + 1) wr (.slice (some ⟨gb, 0, none⟩) bs.length cb) (fitK ls sums area bs k) ∧ fitOkK ls sums area k = true) (fun i _ => 5 - (intOf i).toNat)
  case atStart => exact ⟨0, Nat.zero_le _, rfl, Only.refl _ _, by rw [HK0.out]; exact OM3.out.b, HK1.out⟩
  case round =>
    obtain ⟨k, hk, rfl, hq, hbk, hok⟩ := hrel
    have bw : Below w.heap.size w wr := Only.below b3 hq z3 (fun x e => by omega)
    have g2 := cell_only hq c1_2_3 (show ¬ w1.heap.size = gb by omega)
    have r0 := cell_only hq c0_0_3 (show ¬ w.heap.size = gb by omega)
    have r1 := cell_only hq c0_1_3 (show ¬ w.heap.size = gb by omega)
    have r2 := cell_only hq c0_2_3 (show ¬ w.heap.size = gb by omega)
    have rf : ∀ j, wr.frozen? ⟨w.heap.size, j, none⟩ = false := fun j => (frozen_only hq (p := ⟨w.heap.size, j, none⟩) (show w.heap.size < _ by omega) (show ¬ w.heap.size = gb by omega)).trans (f0_3 j)
    by_cases hlt : k < 5
    · have hlt5 : decide ((k : Int) < 5) = true := by simp; omega
      have hl := HLS.out k hlt
      have hs1 := HSA.out k hlt
      have hmp := HMP.out k hlt
      have hmb := HMBD.out k hlt
      have hkl := HKL.out k
      have rdw : Rd wr (.slice aw2 walls.length cw2) walls.length (ints walls) := by
        exact Rd.of_own (own_only N2'.out hq (fun x e e' => by have := LO2.out x e; simp at this; omega))
      have hmk := HMO.out wr _ k hlt bw rdw
      have hmo0 : (momK walls (ws.getD k []) walls.length == 0) = false := beq_eq_false_iff_ne.2 (by omega)
      have hsb := hq.size
      have key : ∀ m, Only (fun x => x = gb) w3 (wr.drewN m) ∧ Below w.heap.size w (wr.drewN m) ∧ OwnI (w.heap.size + 1) (wr.drewN m) (.slice (some ⟨gb, 0, none⟩) bs.length cb) (fitK ls sums area bs k) := fun m =>
        ⟨hq.trans (Only.of_below (below_drewN (Below.refl _ _) m)), below_drewN bw m, own_later hbk (below_drewN (Below.refl _ _) m)⟩
      have hv := HKV.out k
      rw [hs1] at hv
      have hko := HKO.out k
      rw [hok, Bool.true_and] at hko
      have hbad := HBAD.out k hlt
      have hkn := HKS.out k
      have HV := Lib.hid hv; clear hv
      have HKO2 := Lib.hid hko; clear hko
      have HBAD2 := Lib.hid hbad; clear hbad
      have HKN := Lib.hid hkn; clear hkn
      have HKL2 := Lib.hid hkl; clear hkl
      have HMK := Lib.hid hmk; clear hmk
      have KEY := Lib.hid key; clear key
      clear hbk hok hs1 rdw hq g2 r0 r1 r2 rf bw
      have hwb : walls.length ≤ 8 := by rw [HWL.out]; omega
      generalize momK walls (ws.getD k []) walls.length = mo at *
      go_wp2_with fail
      refine HMK.out.mono ?_
      rintro _ wq ⟨rfl, nq, rfl⟩
      have hq := (KEY.out nq).1
      have bw := (KEY.out nq).2.1
      have hbk := (KEY.out nq).2.2
      clear KEY HMK
      generalize wr.drewN nq = wr at *
      have hsb := hq.size
      have g2 := cell_only hq c1_2_3 (show ¬ w1.heap.size = gb by omega)
      have n3 := own_only N3.out hq (fun x e e' => by have : x = gl := by simp [Value.ownBlock] at e; exact e.symm
                                                      omega)
      have hlc : wr.cell? ⟨gl, k, none⟩ = some (.int .i64 (ls.getD k 0)) := by
        rw [getD_eq (show k < ls.length by rw [HL5.out]; exact hlt)]
        exact (World.ownsRow.cellAt n3 k (by rw [HL5.out]; omega)).trans (intsAt (by rw [HL5.out]; exact hlt))
      have hak := fun m => HAR.out (wr.drewN m) (below_drewN bw m)
      have hbk : wr.ownsRow (w.heap.size + 1) 2 1 (.slice (some ⟨gb, 0, none⟩) bs.length cb) bs.length (ints (fitK ls sums area bs k)) := by unfold OwnI at hbk; rwa [HKL2.out] at hbk
      have hfr := World.ownsRow.frozenAt hbk k
      have hix := ix (P := Try.prog) (T := 38) (n := bs.length) (cap := cb) Try.underlying38 cells_int64 has_int64 (ao := some ⟨gb, 0, none⟩) (b := gb) (off := 0) (fun _ => rfl) (k := k) (by rw [HB5.out]; exact hlt) _ rfl
      have hixl := ix (P := Try.prog) (T := 38) (n := ls.length) (cap := cl) Try.underlying38 cells_int64 has_int64 (ao := some ⟨gl, 0, none⟩) (b := gl) (off := 0) (fun _ => rfl) (k := k) (by rw [HL5.out]; exact hlt) _ rfl
      rw [Nat.mul_one, Nat.zero_add] at hix hixl
      have hkb : k < (fitK ls sums area bs k).length := by rw [HKL2.out, HB5.out]; exact hlt
      have hbc : wr.cell? ⟨gb, k, none⟩ = some (.int .i64 ((fitK ls sums area bs k).getD k 0)) := by
        rw [getD_eq hkb]
        exact (World.ownsRow.cellAt hbk k (by rw [HB5.out]; omega)).trans (intsAt hkb)
      have hnew : ∀ m, OwnI (w.heap.size + 1) ((wr.drewN m).setCell ⟨gb, k, none⟩ (.int .i64 (fitV ls sums area k))) (.slice (some ⟨gb, 0, none⟩) bs.length cb) (fitK ls sums area bs (k + 1)) := fun m => by
        have hst := (World.ownsRow.stored (own_later hbk (below_drewN (Below.refl _ _) m)) k (.int .i64 (fitV ls sums area k))).1
        rw [← HKN.out]
        unfold OwnI
        rw [List.length_set, HKL2.out, show ints ((fitK ls sums area bs k).set k (fitV ls sums area k)) = (ints (fitK ls sums area bs k)).set k (.int .i64 (fitV ls sums area k)) by unfold ints; rw [List.map_set]]
        exact hst
      have hon : ∀ m, Only (fun x => x = gb) w3 ((wr.drewN m).setCell ⟨gb, k, none⟩ (.int .i64 (fitV ls sums area k))) := fun m => (hq.trans (Only.of_below (below_drewN (Below.refl _ _) m))).setCell (p := ⟨gb, k, none⟩) rfl _
      have hpr : 0 ≤ ls.getD k 0 * area ∧ ls.getD k 0 * area ≤ 20000000 * 90000 := by
        have := mul_le_of (a := ls.getD k 0) (b := area) (A := 20000000) (B := 90000) (by omega) (by omega) (by omega) (by omega)
        omega
      have hdv := fun w' => l01Div_c (ls.getD k 0 * area) mo w' (by omega) (by omega) (by omega) (by omega)
      rw [← HV.out] at hdv
      have HAK := Lib.hid hak; clear hak
      have HDV := Lib.hid hdv; clear hdv
      have HNEW := Lib.hid hnew; clear hnew
      have HON := Lib.hid hon; clear hon
      clear hbk n3 hkb hq bw HV HKN HKL2
      generalize (fitK ls sums area bs k).getD k 0 = old at *
      generalize ls.getD k 0 = x at *
      have g1 : IntKind.i64.wrap (x * area) = x * area := IntWalk.i64_in _ (by omega)
      go_wp2_with fail
      refine wp_region_drew_tail 13 (by kernel_rfl) (by kernel_rfl) ?_
      simp only [List.take_succ_cons, List.take_zero, List.drop_succ_cons, List.drop_zero]
      repeat (quiet_step (first | (go_at_call 111; exact quietS (HAK.out _)) | (go_at_call 93; exact quietS (HDV.out _))))
      refine wpQuiet_nil ?_
      rintro _ ⟨nq, rfl⟩
      have hnew := HNEW.out nq
      have hon := HON.out nq
      have hbc2 := below_cell (below_drewN (Below.refl _ _) nq) hbc
      have hst2 := World.cell?_setCell_same (wr.drewN nq) ⟨gb, k, none⟩ (.int .i64 (fitV ls sums area k)) hbc2
      clear HNEW HON hbc2
      have HNEW := Lib.hid hnew; clear hnew
      have HON := Lib.hid hon; clear hon
      go_wp2_with fail
      obtain ⟨W4, hW4⟩ : ∃ x, x = (wr.drewN nq).setCell ⟨gb, k, none⟩ (.int .i64 (fitV ls sums area k)) := ⟨_, rfl⟩
      rw [← hW4]
      have hnew := HNEW.out
      have hon := HON.out
      rw [← hW4] at hnew hon hst2
      clear HNEW HON hW4 g2 hlc hbc hfr
      have g2 := cell_only hon c1_2_3 (show ¬ w1.heap.size = gb by omega)
      have r0 := cell_only hon c0_0_3 (show ¬ w.heap.size = gb by omega)
      have r1 := cell_only hon c0_1_3 (show ¬ w.heap.size = gb by omega)
      have r2 := cell_only hon c0_2_3 (show ¬ w.heap.size = gb by omega)
      have rf : ∀ j, W4.frozen? ⟨w.heap.size, j, none⟩ = false := fun j => (frozen_only hon (p := ⟨w.heap.size, j, none⟩) (show w.heap.size < _ by omega) (show ¬ w.heap.size = gb by omega)).trans (f0_3 j)
      have b4 : Below w.heap.size w W4 := Only.below b3 hon z3 (fun x e => by omega)
      have HNEW := Lib.hid hnew; clear hnew
      have HON := Lib.hid hon; clear hon
      have hin := fun w' => l00In_c (fitV ls sums area k) 1 1000000000 w'
      cases t1 : inB (fitV ls sums area k) 1 1000000000
      · have he := HBAD2.out t1
        rw [t1] at hin
        have HIN := Lib.hid hin; clear hin
        have HE := Lib.hid he; clear he
        have T1 := Lib.hid t1; clear t1
        clear HKO2 HBAD2
        generalize fitV ls sums area k = v at *
        refine (HIN.out _).mono ?_
        rintro _ _ ⟨rfl, rfl⟩
        go_wp2
        refine bodyPost_ret (v := .tuple #[.agg #[.slice none 0 0, .slice none 0 0, .slice none 0 0], .bool false]) (by simp [results, Try.results54, go_sem, r0, r1, r2]) rfl ?_
        rw [HE.out]
        exact RetM2.nil (((b4.setCell (Nat.le_refl _) _).setCell (Nat.le_refl _) _).setCell (Nat.le_refl _) _)
      · rw [t1] at hin
        have hok := HKO2.out.symm.trans t1
        have HIN := Lib.hid hin; clear hin
        have HOK := Lib.hid hok; clear hok
        have T1 := Lib.hid t1; clear t1
        clear HKO2 HBAD2
        generalize fitV ls sums area k = v at *
        refine (HIN.out _).mono ?_
        rintro _ _ ⟨rfl, rfl⟩
        go_wp2
        go_roundw
        case rel => exact ⟨k + 1, by omega, by go_num, HON.out, HNEW.out, HOK.out⟩
        case measure => simp [intOf]; omega
    · obtain rfl : k = 5 := by omega
      have he := HGOOD.out hok
      have hkl := HKL.out 5
      have g0 := cell_only hq c1_0_3 (show ¬ w1.heap.size = gb by omega)
      have g1 := cell_only hq c1_1_3 (show ¬ w1.heap.size = gb by omega)
      have om9 := (OM3.out.base (hq.mono fun x e => by rw [e]; rfl) hbk).wide (Nat.le_refl _) (show w1.heap.size ≤ wr.heap.size by have := hq.size; omega)
      have fin := fun u0 u1 u2 => ((om9.set (a := ⟨w.heap.size, 0, none⟩) (Nat.lt_succ_self _) u0).set (a := ⟨w.heap.size, 1, none⟩) (Nat.lt_succ_self _) u1).set (a := ⟨w.heap.size, 2, none⟩) (Nat.lt_succ_self _) u2
      have FIN := Lib.hid fin; clear fin
      have HE := Lib.hid he; clear he
      have HKL5 := Lib.hid hkl; clear hkl
      clear om9 hbk hok hq
      go_wp2
      refine bodyPost_ret (v := .tuple #[.agg #[.slice az zs.length cz, .slice aw ws.length cw, .slice (some ⟨gb, 0, none⟩) bs.length cb], .bool true]) (by simp [results, Try.results54, go_sem, r0, r1, r2]) rfl ?_
      rw [HE.out]
      exact ⟨_, _, _, us, rfl, by have := (FIN.out (.slice az zs.length cz) (.slice aw ws.length cw) (.slice (some ⟨gb, 0, none⟩) bs.length cb)).wide (lo' := w.heap.size) (Nat.le_succ _) (Nat.le_refl _); simpa using this, (((bw.setCell (Nat.le_refl _) _).setCell (Nat.le_refl _) _).setCell (Nat.le_refl _) _)⟩

end Go.Proofs.Ytmeeibcbhjifbaa
