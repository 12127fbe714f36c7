/- The raw partials of a model and a profile: plain, and the tests ahead. -/
import Derived.Test.YtmeeibcbhjifbaaDens
import Derived.Test.YtmeeibcbhjifbaaDom
import Derived.Test.YtmeeibcbhjifbaaPitch
import Derived.Test.YtmeeibcbhjifbaaUE
import Derived.Test.YtmeeibcbhjifbaaZW3
namespace Go.Proofs.Ytmeeibcbhjifbaa
set_option linter.unusedVariables false
open Go.RowKit Go.Proofs.Bell Go.BigFrame

def momK (walls row : List Int) : Nat → Int
  | 0 => 0
  | z + 1 => momK walls row z + row.getD z 0 * walls.getD z 0
def lipI (ps : List (Int × Int × Int)) : Int := rnd (2 * (rg ps 0).1 * (2 * (rg ps 0).1)) 1000000
def rawK (walls : List Int) (ws : List (List Int)) (bs : List Int) (d : Int) : Nat → List Int
  | 0 => []
  | k + 1 => rawK walls ws bs d k ++ [rnd (bs.getD k 0 * momK walls (ws.getD k []) walls.length) d]
theorem rawK_len (walls : List Int) (ws : List (List Int)) (bs : List Int) (d : Int) : ∀ k, (rawK walls ws bs d k).length = k
  | 0 => rfl
  | k + 1 => by rw [rawK, List.length_append, rawK_len walls ws bs d k]; rfl
def rawL (ps : List (Int × Int × Int)) (zs : List Int) (ws : List (List Int)) (bs : List Int) : List Int := rawK (zwK ps zs zs.length) ws bs (lipI ps) 5
def modAsk (zs : List Int) (ws : List (List Int)) (bs : List Int) (nm : ByteArray) (ps : List (Int × Int × Int)) : Int := if modelB zs ws bs && profB nm ps then (if vzB nm ps zs then 0 else 2) else 1
def rawI (zs : List Int) (ws : List (List Int)) (bs : List Int) (nm : ByteArray) (ps : List (Int × Int × Int)) : List Int × Int := if modAsk zs ws bs nm ps = 0 then (rawL ps zs ws bs, 0) else ([], modAsk zs ws bs nm ps)
theorem rawI_len (zs : List Int) (ws : List (List Int)) (bs : List Int) (nm : ByteArray) (ps : List (Int × Int × Int)) : (rawI zs ws bs nm ps).1.length ≤ 5 := by
  unfold rawI
  split
  · simp [rawL, rawK_len]
  · simp
theorem modAsk_ok {zs : List Int} {ws : List (List Int)} {bs : List Int} {nm : ByteArray} {ps : List (Int × Int × Int)} (h : modAsk zs ws bs nm ps = 0) : modelB zs ws bs = true ∧ profB nm ps = true ∧ zonesB zs ((ps.length : Int) - 1) = true := by
  unfold modAsk at h
  cases h1 : modelB zs ws bs <;> cases h2 : profB nm ps <;> cases h3 : vzB nm ps zs <;> simp [h1, h2, h3] at h ⊢
  simp only [vzB, Bool.and_eq_true] at h3
  exact h3.2

/-- the bounds of what a model gives -/
theorem rnd_mb {a b m : Int} (h0 : 0 ≤ a) (h : a ≤ m * b) (hb : 1 ≤ b) (hm : 0 ≤ m) : 0 ≤ rnd a b ∧ rnd a b ≤ m := by
  refine ⟨rnd_nonneg h0 hb, rnd_le h0 hb ?_⟩
  have e : 2 * b * (m + 1) = 2 * (m * b) + 2 * b := by
    rw [Int.mul_add, Int.mul_one, Int.mul_assoc, Int.mul_comm b m]
  omega
theorem zw_at (ps : List (Int × Int × Int)) (zs : List Int) : ∀ n z, z < n → (zwK ps zs n).getD z 0 = rnd (wsK ps (zs.getD z 0).toNat (zEnd zs ps.length z - zs.getD z 0).toNat) (zEnd zs ps.length z - zs.getD z 0)
  | 0, _, h => absurd h (Nat.not_lt_zero _)
  | n + 1, z, h => by
    have hl := zwK_len ps zs n
    rw [zwK]
    rcases Nat.lt_or_ge z n with h1 | h1
    · rw [← zw_at ps zs n z h1]
      simp only [List.getD]
      rw [List.getElem?_append_left (by omega)]
    · obtain rfl : z = n := by omega
      simp only [List.getD]
      rw [List.getElem?_append_right (by omega), hl]
      simp
theorem zw_bd {ps : List (Int × Int × Int)} {zs : List Int} (hal : ps.all ringT = true) (h : zonesB zs ((ps.length : Int) - 1) = true) (z : Nat) : 0 ≤ (zwK ps zs zs.length).getD z 0 ∧ (zwK ps zs zs.length).getD z 0 ≤ 150000 := by
  rcases Nat.lt_or_ge z zs.length with hz | hz
  · rw [zw_at ps zs _ _ hz]
    obtain ⟨h1, h2, h3⟩ := zones_at h hz
    have hb := wsK_bd hal (zs.getD z 0).toNat (zEnd zs ps.length z - zs.getD z 0).toNat (by omega)
    exact rnd_mb hb.1 (by have := hb.2; omega) (by omega) (by omega)
  · simp only [List.getD]
    rw [List.getElem?_eq_none (by rw [zwK_len]; exact hz)]
    simp
theorem momK_bd {walls row : List Int} (hw : ∀ z, 0 ≤ walls.getD z 0 ∧ walls.getD z 0 ≤ 150000) (hr : ∀ z, 0 ≤ row.getD z 0 ∧ row.getD z 0 ≤ 1000) : ∀ k : Nat, 0 ≤ momK walls row k ∧ momK walls row k ≤ 150000000 * (k : Int)
  | 0 => by simp [momK]
  | k + 1 => by
    have ih := momK_bd hw hr k
    have a := hw k
    have b := hr k
    have c := Int.mul_nonneg b.1 a.1
    have d := Int.mul_le_mul b.2 a.2 a.1 (by omega : (0 : Int) ≤ 1000)
    simp only [momK]
    omega
theorem prodm_bd {walls row : List Int} (hw : ∀ z, 0 ≤ walls.getD z 0 ∧ walls.getD z 0 ≤ 150000) (hr : ∀ z, 0 ≤ row.getD z 0 ∧ row.getD z 0 ≤ 1000) (k : Nat) : 0 ≤ row.getD k 0 * walls.getD k 0 ∧ row.getD k 0 * walls.getD k 0 ≤ 150000000 := by
  have a := hw k
  have b := hr k
  have c := Int.mul_nonneg b.1 a.1
  have d := Int.mul_le_mul b.2 a.2 a.1 (by omega : (0 : Int) ≤ 1000)
  omega
theorem lip_bd {o : Int} (h1 : 500 ≤ o) (h2 : o ≤ 150000) : 1000000 ≤ 2 * o * (2 * o) ∧ 2 * o * (2 * o) ≤ 90000000000 := by
  have a := Int.mul_le_mul (show (1000 : Int) ≤ 2 * o by omega) (show (1000 : Int) ≤ 2 * o by omega) (by omega) (by omega)
  have b := Int.mul_le_mul (show 2 * o ≤ (300000 : Int) by omega) (show 2 * o ≤ (300000 : Int) by omega) (by omega) (by omega)
  omega
theorem lipI_bd {ps : List (Int × Int × Int)} (hl : 1 ≤ ps.length) (hal : ps.all ringT = true) : 1 ≤ lipI ps ∧ lipI ps ≤ 90000 := by
  have hr := ringT_t (all_at hal (show 0 < ps.length by omega))
  have hb := lip_bd (o := (rg ps 0).1) (by omega) (by omega)
  have h1 := rnd_mb (a := 2 * (rg ps 0).1 * (2 * (rg ps 0).1)) (b := 1000000) (m := 90000) (by omega) (by omega) (by omega) (by omega)
  have h2 := rnd_mono (a := 1000000) (b := 2 * (rg ps 0).1 * (2 * (rg ps 0).1)) (m := 1000000) (by omega) hb.1 (by omega)
  have h3 : rnd 1000000 1000000 = 1 := by decide
  unfold lipI
  omega
theorem base_bd {b m : Int} (h1 : 1 ≤ b) (h2 : b ≤ 1000000000) (h3 : 0 ≤ m) (h4 : m ≤ 1200000000) : 0 ≤ b * m ∧ b * m ≤ 1200000000000000000 := by
  have c := Int.mul_nonneg (show 0 ≤ b by omega) h3
  have d := Int.mul_le_mul h2 h4 h3 (by omega : (0 : Int) ≤ 1000000000)
  omega
/-- the rows of a valid model -/
theorem row_bd {zs : List Int} {ws : List (List Int)} {bs : List Int} (h : modelB zs ws bs = true) (k : Nat) (hk : k < 5) : (ws.getD k []).length = zs.length ∧ (∀ z, 0 ≤ (ws.getD k []).getD z 0 ∧ (ws.getD k []).getD z 0 ≤ 1000) ∧ 1 ≤ bs.getD k 0 ∧ bs.getD k 0 ≤ 1000000000 := by
  obtain ⟨_, _, _, _, h5⟩ := modelB_t h
  have hr := h5 k hk
  refine ⟨okRow_len hr, fun z => ?_, ?_⟩
  · simp only [okRow, Bool.and_eq_true] at hr
    generalize ws.getD k [] = row at *
    rcases Nat.lt_or_ge z row.length with hz | hz
    · rw [getD_eq hz]
      exact inB_t (List.all_eq_true.1 hr.1.2 _ (List.getElem_mem hz))
    · simp only [List.getD]
      rw [List.getElem?_eq_none hz]
      simp
  · simp only [okRow, Bool.and_eq_true] at hr
    exact inB_t hr.1.1.1

set_option maxHeartbeats 800000 in
theorem modelled_c (zv wv bv : Value) (zs : List Int) (ws : List (List Int)) (bs : List Int) (nm : ByteArray) (sv : Value) (ps : List (Int × Int × Int)) (w : World) (hz : Rd w zv zs.length (ints zs)) (hw : RdSS w wv ws) (hb : Rd w bv bs.length (ints bs)) (hnm : nm.size ≤ maxLen) (hr : Rd w sv ps.length (trips ps)) :
    Calls Try.prog 73 #[.agg #[zv, wv, bv], .agg #[.string nm, sv]] w (RetB (.int .i64 (modAsk zs ws bs nm ps)) w) := by
  have hmo := fun w' (hx : Below w.heap.size w w') => implValidModel_c zv wv bv zs ws bs w' (hz.later hx) (hw.later hx) (hb.later hx)
  have hok := fun w' (hx : Below w.heap.size w w') => ValidProfile_c nm sv ps w' hnm (hr.later hx)
  have hvz := fun w' (hx : Below w.heap.size w w') => ValidZones_c nm sv ps zv zs w' hnm (hr.later hx) (hz.later hx)
  have HMO := Lib.hid hmo; clear hmo
  have HOK := Lib.hid hok; clear hok
  have HVZ := Lib.hid hvz; clear hvz
  clear hz hw hb hr
  cases t1 : modelB zs ws bs <;> rw [t1] at HMO
  · have he : modAsk zs ws bs nm ps = 1 := by simp [modAsk, t1]
    rw [he]
    clear he
    go_enter Try.func73, Try.ntmps73
    have b0 : Below w.heap.size w w := Below.refl _ _
    have z0 : w.heap.size ≤ w.heap.size := Nat.le_refl _
    go_wp2_with fail
    refine (HMO.out _ (by go_grown)).mono ?_
    rintro _ w1 ⟨rfl, r1⟩
    have s1 : Below w.heap.size w w1 := Below.trans (by go_grown) (r1.mono (by simp; try omega))
    have b1 := b0.trans (s1.mono z0)
    have z1 := b1.size
    have y1 := s1.size
    have c0_0_1 := below_cell r1 (p := ⟨w.heap.size, 0, none⟩) (v := zv) (by simp [go_sem])
    have c0_1_1 := below_cell r1 (p := ⟨w.heap.size, 1, none⟩) (v := wv) (by simp [go_sem])
    have c0_2_1 := below_cell r1 (p := ⟨w.heap.size, 2, none⟩) (v := bv) (by simp [go_sem])
    have c1_0_1 := below_cell r1 (p := ⟨w.heap.size + 1, 0, none⟩) (v := .string nm) (by simp [go_sem])
    have c1_1_1 := below_cell r1 (p := ⟨w.heap.size + 1, 1, none⟩) (v := sv) (by simp [go_sem])
    clear r1
    go_wp2
    go_returns
    exact RetB.mk (rfl) b1
  · cases t2 : profB nm ps <;> rw [t2] at HOK
    · have he : modAsk zs ws bs nm ps = 1 := by simp [modAsk, t1, t2]
      rw [he]
      clear he
      go_enter Try.func73, Try.ntmps73
      have b0 : Below w.heap.size w w := Below.refl _ _
      have z0 : w.heap.size ≤ w.heap.size := Nat.le_refl _
      go_wp2_with fail
      refine (HMO.out _ (by go_grown)).mono ?_
      rintro _ w1 ⟨rfl, r1⟩
      have s1 : Below w.heap.size w w1 := Below.trans (by go_grown) (r1.mono (by simp; try omega))
      have b1 := b0.trans (s1.mono z0)
      have z1 := b1.size
      have y1 := s1.size
      have c0_0_1 := below_cell r1 (p := ⟨w.heap.size, 0, none⟩) (v := zv) (by simp [go_sem])
      have c0_1_1 := below_cell r1 (p := ⟨w.heap.size, 1, none⟩) (v := wv) (by simp [go_sem])
      have c0_2_1 := below_cell r1 (p := ⟨w.heap.size, 2, none⟩) (v := bv) (by simp [go_sem])
      have c1_0_1 := below_cell r1 (p := ⟨w.heap.size + 1, 0, none⟩) (v := .string nm) (by simp [go_sem])
      have c1_1_1 := below_cell r1 (p := ⟨w.heap.size + 1, 1, none⟩) (v := sv) (by simp [go_sem])
      clear r1
      go_wp2_with fail
      refine (HOK.out _ b1).mono ?_
      rintro _ w2 ⟨rfl, r2⟩
      have s2 := r2
      have b2 := b1.trans (s2.mono z1)
      have z2 := b2.size
      have y2 := s2.size
      have c0_0_2 := below_cell s2 c0_0_1; clear c0_0_1
      have c0_1_2 := below_cell s2 c0_1_1; clear c0_1_1
      have c0_2_2 := below_cell s2 c0_2_1; clear c0_2_1
      have c1_0_2 := below_cell s2 c1_0_1; clear c1_0_1
      have c1_1_2 := below_cell s2 c1_1_1; clear c1_1_1
      clear r2
      go_wp2
      go_returns
      exact RetB.mk (rfl) b2
    · cases t3 : vzB nm ps zs <;> rw [t3] at HVZ
      · have he : modAsk zs ws bs nm ps = 2 := by simp [modAsk, t1, t2, t3]
        rw [he]
        clear he
        go_enter Try.func73, Try.ntmps73
        have b0 : Below w.heap.size w w := Below.refl _ _
        have z0 : w.heap.size ≤ w.heap.size := Nat.le_refl _
        go_wp2_with fail
        refine (HMO.out _ (by go_grown)).mono ?_
        rintro _ w1 ⟨rfl, r1⟩
        have s1 : Below w.heap.size w w1 := Below.trans (by go_grown) (r1.mono (by simp; try omega))
        have b1 := b0.trans (s1.mono z0)
        have z1 := b1.size
        have y1 := s1.size
        have c0_0_1 := below_cell r1 (p := ⟨w.heap.size, 0, none⟩) (v := zv) (by simp [go_sem])
        have c0_1_1 := below_cell r1 (p := ⟨w.heap.size, 1, none⟩) (v := wv) (by simp [go_sem])
        have c0_2_1 := below_cell r1 (p := ⟨w.heap.size, 2, none⟩) (v := bv) (by simp [go_sem])
        have c1_0_1 := below_cell r1 (p := ⟨w.heap.size + 1, 0, none⟩) (v := .string nm) (by simp [go_sem])
        have c1_1_1 := below_cell r1 (p := ⟨w.heap.size + 1, 1, none⟩) (v := sv) (by simp [go_sem])
        clear r1
        go_wp2_with fail
        refine (HOK.out _ b1).mono ?_
        rintro _ w2 ⟨rfl, r2⟩
        have s2 := r2
        have b2 := b1.trans (s2.mono z1)
        have z2 := b2.size
        have y2 := s2.size
        have c0_0_2 := below_cell s2 c0_0_1; clear c0_0_1
        have c0_1_2 := below_cell s2 c0_1_1; clear c0_1_1
        have c0_2_2 := below_cell s2 c0_2_1; clear c0_2_1
        have c1_0_2 := below_cell s2 c1_0_1; clear c1_0_1
        have c1_1_2 := below_cell s2 c1_1_1; clear c1_1_1
        clear r2
        go_wp2_with fail
        refine (HVZ.out _ b2).mono ?_
        rintro _ w3 ⟨rfl, r3⟩
        have s3 := r3
        have b3 := b2.trans (s3.mono z2)
        have z3 := b3.size
        have y3 := s3.size
        have c0_0_3 := below_cell s3 c0_0_2; clear c0_0_2
        have c0_1_3 := below_cell s3 c0_1_2; clear c0_1_2
        have c0_2_3 := below_cell s3 c0_2_2; clear c0_2_2
        have c1_0_3 := below_cell s3 c1_0_2; clear c1_0_2
        have c1_1_3 := below_cell s3 c1_1_2; clear c1_1_2
        clear r3
        go_wp2
        go_returns
        exact RetB.mk (rfl) b3
      · have he : modAsk zs ws bs nm ps = 0 := by simp [modAsk, t1, t2, t3]
        rw [he]
        clear he
        go_enter Try.func73, Try.ntmps73
        have b0 : Below w.heap.size w w := Below.refl _ _
        have z0 : w.heap.size ≤ w.heap.size := Nat.le_refl _
        go_wp2_with fail
        refine (HMO.out _ (by go_grown)).mono ?_
        rintro _ w1 ⟨rfl, r1⟩
        have s1 : Below w.heap.size w w1 := Below.trans (by go_grown) (r1.mono (by simp; try omega))
        have b1 := b0.trans (s1.mono z0)
        have z1 := b1.size
        have y1 := s1.size
        have c0_0_1 := below_cell r1 (p := ⟨w.heap.size, 0, none⟩) (v := zv) (by simp [go_sem])
        have c0_1_1 := below_cell r1 (p := ⟨w.heap.size, 1, none⟩) (v := wv) (by simp [go_sem])
        have c0_2_1 := below_cell r1 (p := ⟨w.heap.size, 2, none⟩) (v := bv) (by simp [go_sem])
        have c1_0_1 := below_cell r1 (p := ⟨w.heap.size + 1, 0, none⟩) (v := .string nm) (by simp [go_sem])
        have c1_1_1 := below_cell r1 (p := ⟨w.heap.size + 1, 1, none⟩) (v := sv) (by simp [go_sem])
        clear r1
        go_wp2_with fail
        refine (HOK.out _ b1).mono ?_
        rintro _ w2 ⟨rfl, r2⟩
        have s2 := r2
        have b2 := b1.trans (s2.mono z1)
        have z2 := b2.size
        have y2 := s2.size
        have c0_0_2 := below_cell s2 c0_0_1; clear c0_0_1
        have c0_1_2 := below_cell s2 c0_1_1; clear c0_1_1
        have c0_2_2 := below_cell s2 c0_2_1; clear c0_2_1
        have c1_0_2 := below_cell s2 c1_0_1; clear c1_0_1
        have c1_1_2 := below_cell s2 c1_1_1; clear c1_1_1
        clear r2
        go_wp2_with fail
        refine (HVZ.out _ b2).mono ?_
        rintro _ w3 ⟨rfl, r3⟩
        have s3 := r3
        have b3 := b2.trans (s3.mono z2)
        have z3 := b3.size
        have y3 := s3.size
        have c0_0_3 := below_cell s3 c0_0_2; clear c0_0_2
        have c0_1_3 := below_cell s3 c0_1_2; clear c0_1_2
        have c0_2_3 := below_cell s3 c0_2_2; clear c0_2_2
        have c1_0_3 := below_cell s3 c1_0_2; clear c1_0_2
        have c1_1_3 := below_cell s3 c1_1_2; clear c1_1_2
        clear r3
        go_wp2
        go_returns
        exact RetB.mk (rfl) b3

set_option maxHeartbeats 800000 in
theorem l08Ask_c (g g' : Nat) (zv wv bv : Value) (zs : List Int) (ws : List (List Int)) (bs : List Int) (nm : ByteArray) (sv : Value) (ps : List (Int × Int × Int)) (w : World) (c0 : w.cell? ⟨g, 0, none⟩ = some zv) (c1 : w.cell? ⟨g, 1, none⟩ = some wv) (c2 : w.cell? ⟨g, 2, none⟩ = some bv) (d0 : w.cell? ⟨g', 0, none⟩ = some (.string nm)) (d1 : w.cell? ⟨g', 1, none⟩ = some sv)
    (hz : Rd w zv zs.length (ints zs)) (hw : RdSS w wv ws) (hb : Rd w bv bs.length (ints bs)) (hnm : nm.size ≤ maxLen) (hr : Rd w sv ps.length (trips ps)) :
    Calls Try.prog 53 #[.pointer (some ⟨g, 0, none⟩), .pointer (some ⟨g', 0, none⟩)] w (RetB (.int .i64 (modAsk zs ws bs nm ps)) w) := by
  have hg' : g' < w.heap.size := World.block_lt_of_cell? w _ d0
  have hmo := fun w' (hx : Below w.heap.size w w') => l08Ok_c g zv wv bv zs ws bs w' (below_cell hx c0) (below_cell hx c1) (below_cell hx c2) (hz.later hx) (hw.later hx) (hb.later hx)
  have hok := fun w' (hx : Below w.heap.size w w') => l05Ok_c g' nm sv ps w' (by have := hx.size; omega) hnm (below_cell hx d0) (below_cell hx d1) (hr.later hx)
  have hvz := fun w' (hx : Below w.heap.size w w') => l09Zones_c g' nm sv ps zv zs w' (by have := hx.size; omega) hnm (below_cell hx d0) (below_cell hx d1) (hr.later hx) (hz.later hx)
  have hc0 := fun w' (hx : Below w.heap.size w w') => below_cell hx c0
  have HMO := Lib.hid hmo; clear hmo
  have HOK := Lib.hid hok; clear hok
  have HVZ := Lib.hid hvz; clear hvz
  have HC0 := Lib.hid hc0; clear hc0
  clear hw hb hr c0 c1 c2 d0 d1
  obtain ⟨hnq, aoq, capq, bq, offq, rfl, haoq, hcellq⟩ := hz.open
  clear hz hcellq haoq
  cases t1 : modelB zs ws bs <;> rw [t1] at HMO
  · have he : modAsk zs ws bs nm ps = 1 := by simp [modAsk, t1]
    rw [he]
    clear he
    go_enter Try.func53, Try.ntmps53
    have b0 : Below w.heap.size w w := Below.refl _ _
    have z0 : w.heap.size ≤ w.heap.size := Nat.le_refl _
    go_wp2_with fail
    refine (HMO.out _ b0).mono ?_
    rintro _ w1 ⟨rfl, d1⟩
    have r1 := Dr.below d1; clear d1
    have s1 := r1
    have b1 := b0.trans (s1.mono z0)
    have z1 := b1.size
    have y1 := s1.size
    clear r1
    go_wp2
    go_returns
    exact RetB.mk (rfl) b1
  · cases t2 : profB nm ps <;> rw [t2] at HOK
    · have he : modAsk zs ws bs nm ps = 1 := by simp [modAsk, t1, t2]
      rw [he]
      clear he
      go_enter Try.func53, Try.ntmps53
      have b0 : Below w.heap.size w w := Below.refl _ _
      have z0 : w.heap.size ≤ w.heap.size := Nat.le_refl _
      go_wp2_with fail
      refine (HMO.out _ b0).mono ?_
      rintro _ w1 ⟨rfl, d1⟩
      have r1 := Dr.below d1; clear d1
      have s1 := r1
      have b1 := b0.trans (s1.mono z0)
      have z1 := b1.size
      have y1 := s1.size
      clear r1
      go_wp2_with fail
      refine (HOK.out _ b1).mono ?_
      rintro _ w2 ⟨rfl, d2⟩
      have r2 := Dr.below d2; clear d2
      have s2 := r2
      have b2 := b1.trans (s2.mono z1)
      have z2 := b2.size
      have y2 := s2.size
      clear r2
      go_wp2
      go_returns
      exact RetB.mk (rfl) b2
    · cases t3 : vzB nm ps zs <;> rw [t3] at HVZ
      · have he : modAsk zs ws bs nm ps = 2 := by simp [modAsk, t1, t2, t3]
        rw [he]
        clear he
        go_enter Try.func53, Try.ntmps53
        have b0 : Below w.heap.size w w := Below.refl _ _
        have z0 : w.heap.size ≤ w.heap.size := Nat.le_refl _
        go_wp2_with fail
        refine (HMO.out _ b0).mono ?_
        rintro _ w1 ⟨rfl, d1⟩
        have r1 := Dr.below d1; clear d1
        have s1 := r1
        have b1 := b0.trans (s1.mono z0)
        have z1 := b1.size
        have y1 := s1.size
        clear r1
        go_wp2_with fail
        refine (HOK.out _ b1).mono ?_
        rintro _ w2 ⟨rfl, d2⟩
        have r2 := Dr.below d2; clear d2
        have s2 := r2
        have b2 := b1.trans (s2.mono z1)
        have z2 := b2.size
        have y2 := s2.size
        clear r2
        have e0 := HC0.out _ b2
        go_wp2_with fail
        refine (HVZ.out _ b2).mono ?_
        rintro _ w3 ⟨rfl, d3⟩
        have r3 := Dr.below d3; clear d3
        have s3 := r3
        have b3 := b2.trans (s3.mono z2)
        have z3 := b3.size
        have y3 := s3.size
        clear r3
        go_wp2
        go_returns
        exact RetB.mk (rfl) b3
      · have he : modAsk zs ws bs nm ps = 0 := by simp [modAsk, t1, t2, t3]
        rw [he]
        clear he
        go_enter Try.func53, Try.ntmps53
        have b0 : Below w.heap.size w w := Below.refl _ _
        have z0 : w.heap.size ≤ w.heap.size := Nat.le_refl _
        go_wp2_with fail
        refine (HMO.out _ b0).mono ?_
        rintro _ w1 ⟨rfl, d1⟩
        have r1 := Dr.below d1; clear d1
        have s1 := r1
        have b1 := b0.trans (s1.mono z0)
        have z1 := b1.size
        have y1 := s1.size
        clear r1
        go_wp2_with fail
        refine (HOK.out _ b1).mono ?_
        rintro _ w2 ⟨rfl, d2⟩
        have r2 := Dr.below d2; clear d2
        have s2 := r2
        have b2 := b1.trans (s2.mono z1)
        have z2 := b2.size
        have y2 := s2.size
        clear r2
        have e0 := HC0.out _ b2
        go_wp2_with fail
        refine (HVZ.out _ b2).mono ?_
        rintro _ w3 ⟨rfl, d3⟩
        have r3 := Dr.below d3; clear d3
        have s3 := r3
        have b3 := b2.trans (s3.mono z2)
        have z3 := b3.size
        have y3 := s3.size
        clear r3
        go_wp2
        go_returns
        exact RetB.mk (rfl) b3

end Go.Proofs.Ytmeeibcbhjifbaa
