/- Several texts of the proofs in one: Raw, CentL, FitL. -/
import Derived.Test.YtgdadbmhdljcdaaGreatDoorGH
import Derived.Test.YtgdadbmhdljcdaaGreatDoorUE
import Derived.Test.YtgdadbmhdljcdaaGreatDoorWH
import Derived.Test.YtgdadbmhdljcdaaGreatDoorWI
/- The raw partials of a model and a profile: plain, and the tests ahead. -/
namespace Go.Proofs.YtgdadbmhdljcdaaGreatDoor
set_option linter.unusedVariables false
open Go.RowKit Go.Proofs.Bell Go.BigFrame

def momK (walls row : List Int) : Nat → Int
  | 0 => 0
  | z + 1 => momK walls row z + row.getD z 0 * walls.getD z 0
def lipI (ps : List (Int × Int × Int)) : Int := rnd (2 * (rg ps 0).1 * (2 * (rg ps 0).1)) 1000000
def rawK (walls : List Int) (ws : List (List Int)) (bs : List Int) (d : Int) : Nat → List Int
  | 0 => []
  | k + 1 => rawK walls ws bs d k ++ [rnd (bs.getD k 0 * momK walls (ws.getD k []) walls.length) d]
theorem rawK_len (walls : List Int) (ws : List (List Int)) (bs : List Int) (d : Int) : ∀ k, (rawK walls ws bs d k).length = k
  | 0 => rfl
  | k + 1 => by rw [rawK, List.length_append, rawK_len walls ws bs d k]; rfl
def rawL (ps : List (Int × Int × Int)) (zs : List Int) (ws : List (List Int)) (bs : List Int) : List Int := rawK (zwK ps zs zs.length) ws bs (lipI ps) 5
def modAsk (zs : List Int) (ws : List (List Int)) (bs : List Int) (nm : ByteArray) (ps : List (Int × Int × Int)) : Int := if modelB zs ws bs && profB nm ps then (if vzB nm ps zs then 0 else 2) else 1
def rawI (zs : List Int) (ws : List (List Int)) (bs : List Int) (nm : ByteArray) (ps : List (Int × Int × Int)) : List Int × Int := if modAsk zs ws bs nm ps = 0 then (rawL ps zs ws bs, 0) else ([], modAsk zs ws bs nm ps)
theorem rawI_len (zs : List Int) (ws : List (List Int)) (bs : List Int) (nm : ByteArray) (ps : List (Int × Int × Int)) : (rawI zs ws bs nm ps).1.length ≤ 5 := by
  unfold rawI
  split
  · simp [rawL, rawK_len]
  · simp
theorem modAsk_ok {zs : List Int} {ws : List (List Int)} {bs : List Int} {nm : ByteArray} {ps : List (Int × Int × Int)} (h : modAsk zs ws bs nm ps = 0) : modelB zs ws bs = true ∧ profB nm ps = true ∧ zonesB zs ((ps.length : Int) - 1) = true := by
  unfold modAsk at h
  cases h1 : modelB zs ws bs <;> cases h2 : profB nm ps <;> cases h3 : vzB nm ps zs <;> simp [h1, h2, h3] at h ⊢
  simp only [vzB, Bool.and_eq_true] at h3
  exact h3.2

/-- the bounds of what a model gives -/
theorem rnd_mb {a b m : Int} (h0 : 0 ≤ a) (h : a ≤ m * b) (hb : 1 ≤ b) (hm : 0 ≤ m) : 0 ≤ rnd a b ∧ rnd a b ≤ m := by
  refine ⟨rnd_nonneg h0 hb, rnd_le h0 hb ?_⟩
  have e : 2 * b * (m + 1) = 2 * (m * b) + 2 * b := by
    rw [Int.mul_add, Int.mul_one, Int.mul_assoc, Int.mul_comm b m]
  omega
theorem zw_at (ps : List (Int × Int × Int)) (zs : List Int) : ∀ n z, z < n → (zwK ps zs n).getD z 0 = rnd (wsK ps (zs.getD z 0).toNat (zEnd zs ps.length z - zs.getD z 0).toNat) (zEnd zs ps.length z - zs.getD z 0)
  | 0, _, h => absurd h (Nat.not_lt_zero _)
  | n + 1, z, h => by
    have hl := zwK_len ps zs n
    rw [zwK]
    rcases Nat.lt_or_ge z n with h1 | h1
    · rw [← zw_at ps zs n z h1]
      simp only [List.getD]
      rw [List.getElem?_append_left (by omega)]
    · obtain rfl : z = n := by omega
      simp only [List.getD]
      rw [List.getElem?_append_right (by omega), hl]
      simp
theorem zw_bd {ps : List (Int × Int × Int)} {zs : List Int} (hal : ps.all ringT = true) (h : zonesB zs ((ps.length : Int) - 1) = true) (z : Nat) : 0 ≤ (zwK ps zs zs.length).getD z 0 ∧ (zwK ps zs zs.length).getD z 0 ≤ 150000 := by
  rcases Nat.lt_or_ge z zs.length with hz | hz
  · rw [zw_at ps zs _ _ hz]
    obtain ⟨h1, h2, h3⟩ := zones_at h hz
    have hb := wsK_bd hal (zs.getD z 0).toNat (zEnd zs ps.length z - zs.getD z 0).toNat (by omega)
    exact rnd_mb hb.1 (by have := hb.2; omega) (by omega) (by omega)
  · simp only [List.getD]
    rw [List.getElem?_eq_none (by rw [zwK_len]; exact hz)]
    simp
theorem momK_bd {walls row : List Int} (hw : ∀ z, 0 ≤ walls.getD z 0 ∧ walls.getD z 0 ≤ 150000) (hr : ∀ z, 0 ≤ row.getD z 0 ∧ row.getD z 0 ≤ 1000) : ∀ k : Nat, 0 ≤ momK walls row k ∧ momK walls row k ≤ 150000000 * (k : Int)
  | 0 => by simp [momK]
  | k + 1 => by
    have ih := momK_bd hw hr k
    have a := hw k
    have b := hr k
    have c := Int.mul_nonneg b.1 a.1
    have d := Int.mul_le_mul b.2 a.2 a.1 (by omega : (0 : Int) ≤ 1000)
    simp only [momK]
    omega
theorem prodm_bd {walls row : List Int} (hw : ∀ z, 0 ≤ walls.getD z 0 ∧ walls.getD z 0 ≤ 150000) (hr : ∀ z, 0 ≤ row.getD z 0 ∧ row.getD z 0 ≤ 1000) (k : Nat) : 0 ≤ row.getD k 0 * walls.getD k 0 ∧ row.getD k 0 * walls.getD k 0 ≤ 150000000 := by
  have a := hw k
  have b := hr k
  have c := Int.mul_nonneg b.1 a.1
  have d := Int.mul_le_mul b.2 a.2 a.1 (by omega : (0 : Int) ≤ 1000)
  omega
theorem lip_bd {o : Int} (h1 : 500 ≤ o) (h2 : o ≤ 150000) : 1000000 ≤ 2 * o * (2 * o) ∧ 2 * o * (2 * o) ≤ 90000000000 := by
  have a := Int.mul_le_mul (show (1000 : Int) ≤ 2 * o by omega) (show (1000 : Int) ≤ 2 * o by omega) (by omega) (by omega)
  have b := Int.mul_le_mul (show 2 * o ≤ (300000 : Int) by omega) (show 2 * o ≤ (300000 : Int) by omega) (by omega) (by omega)
  omega
theorem lipI_bd {ps : List (Int × Int × Int)} (hl : 1 ≤ ps.length) (hal : ps.all ringT = true) : 1 ≤ lipI ps ∧ lipI ps ≤ 90000 := by
  have hr := ringT_t (all_at hal (show 0 < ps.length by omega))
  have hb := lip_bd (o := (rg ps 0).1) (by omega) (by omega)
  have h1 := rnd_mb (a := 2 * (rg ps 0).1 * (2 * (rg ps 0).1)) (b := 1000000) (m := 90000) (by omega) (by omega) (by omega) (by omega)
  have h2 := rnd_mono (a := 1000000) (b := 2 * (rg ps 0).1 * (2 * (rg ps 0).1)) (m := 1000000) (by omega) hb.1 (by omega)
  have h3 : rnd 1000000 1000000 = 1 := by decide
  unfold lipI
  omega
theorem base_bd {b m : Int} (h1 : 1 ≤ b) (h2 : b ≤ 1000000000) (h3 : 0 ≤ m) (h4 : m ≤ 1200000000) : 0 ≤ b * m ∧ b * m ≤ 1200000000000000000 := by
  have c := Int.mul_nonneg (show 0 ≤ b by omega) h3
  have d := Int.mul_le_mul h2 h4 h3 (by omega : (0 : Int) ≤ 1000000000)
  omega
/-- the rows of a valid model -/
theorem row_bd {zs : List Int} {ws : List (List Int)} {bs : List Int} (h : modelB zs ws bs = true) (k : Nat) (hk : k < 5) : (ws.getD k []).length = zs.length ∧ (∀ z, 0 ≤ (ws.getD k []).getD z 0 ∧ (ws.getD k []).getD z 0 ≤ 1000) ∧ 1 ≤ bs.getD k 0 ∧ bs.getD k 0 ≤ 1000000000 := by
  obtain ⟨_, _, _, _, h5⟩ := modelB_t h
  have hr := h5 k hk
  refine ⟨okRow_len hr, fun z => ?_, ?_⟩
  · simp only [okRow, Bool.and_eq_true] at hr
    generalize ws.getD k [] = row at *
    rcases Nat.lt_or_ge z row.length with hz | hz
    · rw [getD_eq hz]
      exact inB_t (List.all_eq_true.1 hr.1.2 _ (List.getElem_mem hz))
    · simp only [List.getD]
      rw [List.getElem?_eq_none hz]
      simp
  · simp only [okRow, Bool.and_eq_true] at hr
    exact inB_t hr.1.1.1

set_option maxHeartbeats 800000 in
theorem modelled_c (zv wv bv : Value) (zs : List Int) (ws : List (List Int)) (bs : List Int) (nm : ByteArray) (sv : Value) (ps : List (Int × Int × Int)) (w : World) (hz : Rd w zv zs.length (ints zs)) (hw : RdSS w wv ws) (hb : Rd w bv bs.length (ints bs)) (hnm : nm.size ≤ maxLen) (hr : Rd w sv ps.length (trips ps)) :
    Calls Tryz.prog 71 #[.agg #[zv, wv, bv], .agg #[.string nm, sv]] w (RetB (.int .i64 (modAsk zs ws bs nm ps)) w) := by
  have hmo := fun w' (hx : Below w.heap.size w w') => implValidModel_c zv wv bv zs ws bs w' (hz.later hx) (hw.later hx) (hb.later hx)
  have hok := fun w' (hx : Below w.heap.size w w') => ValidProfile_c nm sv ps w' hnm (hr.later hx)
  have hvz := fun w' (hx : Below w.heap.size w w') => ValidZones_c nm sv ps zv zs w' hnm (hr.later hx) (hz.later hx)
  have HMO := Lib.hid hmo; clear hmo
  have HOK := Lib.hid hok; clear hok
  have HVZ := Lib.hid hvz; clear hvz
  clear hz hw hb hr
  cases t1 : modelB zs ws bs <;> rw [t1] at HMO
  · have he : modAsk zs ws bs nm ps = 1 := by simp [modAsk, t1]
    rw [he]
    clear he
    go_enter Tryz.func71, Tryz.ntmps71
    have b0 : Below w.heap.size w w := Below.refl _ _
    have z0 : w.heap.size ≤ w.heap.size := Nat.le_refl _
    go_wp2_with fail
    refine (HMO.out _ (by go_grown)).mono ?_
    rintro _ w1 ⟨rfl, r1⟩
    have s1 : Below w.heap.size w w1 := Below.trans (by go_grown) (r1.mono (by simp; try omega))
    have b1 := b0.trans (s1.mono z0)
    have z1 := b1.size
    have y1 := s1.size
    have c0_0_1 := below_cell r1 (p := ⟨w.heap.size, 0, none⟩) (v := zv) (by simp [go_sem])
    have c0_1_1 := below_cell r1 (p := ⟨w.heap.size, 1, none⟩) (v := wv) (by simp [go_sem])
    have c0_2_1 := below_cell r1 (p := ⟨w.heap.size, 2, none⟩) (v := bv) (by simp [go_sem])
    have c1_0_1 := below_cell r1 (p := ⟨w.heap.size + 1, 0, none⟩) (v := .string nm) (by simp [go_sem])
    have c1_1_1 := below_cell r1 (p := ⟨w.heap.size + 1, 1, none⟩) (v := sv) (by simp [go_sem])
    clear r1
    go_wp2
    go_returns
    exact RetB.mk (rfl) b1
  · cases t2 : profB nm ps <;> rw [t2] at HOK
    · have he : modAsk zs ws bs nm ps = 1 := by simp [modAsk, t1, t2]
      rw [he]
      clear he
      go_enter Tryz.func71, Tryz.ntmps71
      have b0 : Below w.heap.size w w := Below.refl _ _
      have z0 : w.heap.size ≤ w.heap.size := Nat.le_refl _
      go_wp2_with fail
      refine (HMO.out _ (by go_grown)).mono ?_
      rintro _ w1 ⟨rfl, r1⟩
      have s1 : Below w.heap.size w w1 := Below.trans (by go_grown) (r1.mono (by simp; try omega))
      have b1 := b0.trans (s1.mono z0)
      have z1 := b1.size
      have y1 := s1.size
      have c0_0_1 := below_cell r1 (p := ⟨w.heap.size, 0, none⟩) (v := zv) (by simp [go_sem])
      have c0_1_1 := below_cell r1 (p := ⟨w.heap.size, 1, none⟩) (v := wv) (by simp [go_sem])
      have c0_2_1 := below_cell r1 (p := ⟨w.heap.size, 2, none⟩) (v := bv) (by simp [go_sem])
      have c1_0_1 := below_cell r1 (p := ⟨w.heap.size + 1, 0, none⟩) (v := .string nm) (by simp [go_sem])
      have c1_1_1 := below_cell r1 (p := ⟨w.heap.size + 1, 1, none⟩) (v := sv) (by simp [go_sem])
      clear r1
      go_wp2_with fail
      refine (HOK.out _ b1).mono ?_
      rintro _ w2 ⟨rfl, r2⟩
      have s2 := r2
      have b2 := b1.trans (s2.mono z1)
      have z2 := b2.size
      have y2 := s2.size
      have c0_0_2 := below_cell s2 c0_0_1; clear c0_0_1
      have c0_1_2 := below_cell s2 c0_1_1; clear c0_1_1
      have c0_2_2 := below_cell s2 c0_2_1; clear c0_2_1
      have c1_0_2 := below_cell s2 c1_0_1; clear c1_0_1
      have c1_1_2 := below_cell s2 c1_1_1; clear c1_1_1
      clear r2
      go_wp2
      go_returns
      exact RetB.mk (rfl) b2
    · cases t3 : vzB nm ps zs <;> rw [t3] at HVZ
      · have he : modAsk zs ws bs nm ps = 2 := by simp [modAsk, t1, t2, t3]
        rw [he]
        clear he
        go_enter Tryz.func71, Tryz.ntmps71
        have b0 : Below w.heap.size w w := Below.refl _ _
        have z0 : w.heap.size ≤ w.heap.size := Nat.le_refl _
        go_wp2_with fail
        refine (HMO.out _ (by go_grown)).mono ?_
        rintro _ w1 ⟨rfl, r1⟩
        have s1 : Below w.heap.size w w1 := Below.trans (by go_grown) (r1.mono (by simp; try omega))
        have b1 := b0.trans (s1.mono z0)
        have z1 := b1.size
        have y1 := s1.size
        have c0_0_1 := below_cell r1 (p := ⟨w.heap.size, 0, none⟩) (v := zv) (by simp [go_sem])
        have c0_1_1 := below_cell r1 (p := ⟨w.heap.size, 1, none⟩) (v := wv) (by simp [go_sem])
        have c0_2_1 := below_cell r1 (p := ⟨w.heap.size, 2, none⟩) (v := bv) (by simp [go_sem])
        have c1_0_1 := below_cell r1 (p := ⟨w.heap.size + 1, 0, none⟩) (v := .string nm) (by simp [go_sem])
        have c1_1_1 := below_cell r1 (p := ⟨w.heap.size + 1, 1, none⟩) (v := sv) (by simp [go_sem])
        clear r1
        go_wp2_with fail
        refine (HOK.out _ b1).mono ?_
        rintro _ w2 ⟨rfl, r2⟩
        have s2 := r2
        have b2 := b1.trans (s2.mono z1)
        have z2 := b2.size
        have y2 := s2.size
        have c0_0_2 := below_cell s2 c0_0_1; clear c0_0_1
        have c0_1_2 := below_cell s2 c0_1_1; clear c0_1_1
        have c0_2_2 := below_cell s2 c0_2_1; clear c0_2_1
        have c1_0_2 := below_cell s2 c1_0_1; clear c1_0_1
        have c1_1_2 := below_cell s2 c1_1_1; clear c1_1_1
        clear r2
        go_wp2_with fail
        refine (HVZ.out _ b2).mono ?_
        rintro _ w3 ⟨rfl, r3⟩
        have s3 := r3
        have b3 := b2.trans (s3.mono z2)
        have z3 := b3.size
        have y3 := s3.size
        have c0_0_3 := below_cell s3 c0_0_2; clear c0_0_2
        have c0_1_3 := below_cell s3 c0_1_2; clear c0_1_2
        have c0_2_3 := below_cell s3 c0_2_2; clear c0_2_2
        have c1_0_3 := below_cell s3 c1_0_2; clear c1_0_2
        have c1_1_3 := below_cell s3 c1_1_2; clear c1_1_2
        clear r3
        go_wp2
        go_returns
        exact RetB.mk (rfl) b3
      · have he : modAsk zs ws bs nm ps = 0 := by simp [modAsk, t1, t2, t3]
        rw [he]
        clear he
        go_enter Tryz.func71, Tryz.ntmps71
        have b0 : Below w.heap.size w w := Below.refl _ _
        have z0 : w.heap.size ≤ w.heap.size := Nat.le_refl _
        go_wp2_with fail
        refine (HMO.out _ (by go_grown)).mono ?_
        rintro _ w1 ⟨rfl, r1⟩
        have s1 : Below w.heap.size w w1 := Below.trans (by go_grown) (r1.mono (by simp; try omega))
        have b1 := b0.trans (s1.mono z0)
        have z1 := b1.size
        have y1 := s1.size
        have c0_0_1 := below_cell r1 (p := ⟨w.heap.size, 0, none⟩) (v := zv) (by simp [go_sem])
        have c0_1_1 := below_cell r1 (p := ⟨w.heap.size, 1, none⟩) (v := wv) (by simp [go_sem])
        have c0_2_1 := below_cell r1 (p := ⟨w.heap.size, 2, none⟩) (v := bv) (by simp [go_sem])
        have c1_0_1 := below_cell r1 (p := ⟨w.heap.size + 1, 0, none⟩) (v := .string nm) (by simp [go_sem])
        have c1_1_1 := below_cell r1 (p := ⟨w.heap.size + 1, 1, none⟩) (v := sv) (by simp [go_sem])
        clear r1
        go_wp2_with fail
        refine (HOK.out _ b1).mono ?_
        rintro _ w2 ⟨rfl, r2⟩
        have s2 := r2
        have b2 := b1.trans (s2.mono z1)
        have z2 := b2.size
        have y2 := s2.size
        have c0_0_2 := below_cell s2 c0_0_1; clear c0_0_1
        have c0_1_2 := below_cell s2 c0_1_1; clear c0_1_1
        have c0_2_2 := below_cell s2 c0_2_1; clear c0_2_1
        have c1_0_2 := below_cell s2 c1_0_1; clear c1_0_1
        have c1_1_2 := below_cell s2 c1_1_1; clear c1_1_1
        clear r2
        go_wp2_with fail
        refine (HVZ.out _ b2).mono ?_
        rintro _ w3 ⟨rfl, r3⟩
        have s3 := r3
        have b3 := b2.trans (s3.mono z2)
        have z3 := b3.size
        have y3 := s3.size
        have c0_0_3 := below_cell s3 c0_0_2; clear c0_0_2
        have c0_1_3 := below_cell s3 c0_1_2; clear c0_1_2
        have c0_2_3 := below_cell s3 c0_2_2; clear c0_2_2
        have c1_0_3 := below_cell s3 c1_0_2; clear c1_0_2
        have c1_1_3 := below_cell s3 c1_1_2; clear c1_1_2
        clear r3
        go_wp2
        go_returns
        exact RetB.mk (rfl) b3

end Go.Proofs.YtgdadbmhdljcdaaGreatDoor

/- The centre lies below the top, the moment below that of the greatest radius. -/
namespace Go.Proofs.YtgdadbmhdljcdaaGreatDoor
set_option linter.unusedVariables false
open Go.RowKit Go.Proofs.Bell Go.BigFrame

theorem cenK_le {rs : List (Int × Int × Int)} (h : rs.all ringT = true) : ∀ k, k ≤ rs.length → cenK rs k ≤ 2 * heightI rs * fsum rvolT (rs.take k) := by
  intro k
  induction k with
  | zero => intro _; simp [cenK, fsum]
  | succ k ih =>
    intro hk
    have h1 := ih (by omega)
    have h3 := height_le h (rs.length - (k + 1)) (k + 1) (by omega)
    rw [heightI_snocg rs (by omega)] at h3
    have h4 := ringT_t (all_at h (k := k) (by omega))
    have h5 := rvolT_bd (all_at h (k := k) (by omega))
    have h6 : rvolT (rg rs k) * (2 * heightI (rs.take k) + (rg rs k).2.2) ≤ rvolT (rg rs k) * (2 * heightI rs) := Int.mul_le_mul_of_nonneg_left (by omega) h5.1
    rw [cenK, fsum_snoc rvolT rs (by omega), Int.mul_add (2 * heightI rs), Int.mul_comm (2 * heightI rs) (rvolT (rg rs k))]
    omega
theorem centre_le {nm : ByteArray} {rs : List (Int × Int × Int)} (hp : profB nm rs = true) : 0 ≤ (centreI nm rs).1 ∧ (centreI nm rs).1 ≤ heightI rs ∧ (centreI nm rs).2 = 0 := by
  have ht := profB_t hp
  have hal : rs.all ringT = true := by first | exact ht.2.2.2.1 | exact ht.2.2.1
  have hl : 1 ≤ rs.length := by
    unfold profB at hp
    simp only [Bool.and_eq_true, decide_eq_true_eq] at hp
    omega
  have hh : heightI rs ≤ 300000 := by
    unfold profB at hp
    simp only [Bool.and_eq_true, decide_eq_true_eq] at hp
    omega
  have h0 : 0 ≤ heightI rs := by
    have := height_le hal rs.length 0 (by omega)
    simpa [heightI] using this
  have hv := volI_pos hal hl
  have hc := cenK_bd hal hh rs.length (Nat.le_refl _)
  have hk := cenK_le hal rs.length (Nat.le_refl _)
  rw [List.take_length] at hk
  have e : (centreI nm rs) = (rnd (cenK rs rs.length) (2 * volI rs), 0) := by unfold centreI; rw [if_pos hp]
  rw [e]
  have := rnd_mb (a := cenK rs rs.length) (b := 2 * volI rs) (m := heightI rs) hc.1 (by
    have e2 : heightI rs * (2 * volI rs) = 2 * heightI rs * fsum rvolT rs := by
      show heightI rs * (2 * fsum rvolT rs) = _
      rw [Int.mul_left_comm, Int.mul_assoc]
    omega) (by omega) h0
  exact ⟨this.1, this.2, rfl⟩
theorem centre_no {nm : ByteArray} {rs : List (Int × Int × Int)} (hp : profB nm rs = false) : centreI nm rs = (0, 1) := by unfold centreI; rw [if_neg (by simp [hp])]

/-- the greatest outer radius of the first k rings -/
def widK (rs : List (Int × Int × Int)) : Nat → Int
  | 0 => 0
  | k + 1 => if widK rs k < (rg rs k).1 then (rg rs k).1 else widK rs k
theorem widK_bd {rs : List (Int × Int × Int)} (h : rs.all ringT = true) : ∀ k, k ≤ rs.length → 0 ≤ widK rs k ∧ widK rs k ≤ 150000 ∧ ∀ j, j < k → (rg rs j).1 ≤ widK rs k := by
  intro k
  induction k with
  | zero => intro _; exact ⟨by simp [widK], by simp [widK], fun j hj => by omega⟩
  | succ k ih =>
    intro hk
    have h1 := ih (by omega)
    have h4 := ringT_t (all_at h (k := k) (by omega))
    rw [widK]
    refine ⟨by split <;> omega, by split <;> omega, fun j hj => ?_⟩
    rcases Nat.lt_or_ge j k with h2 | h2
    · have := h1.2.2 j h2
      split <;> omega
    · obtain rfl : j = k := by omega
      split <;> omega
theorem radT_le {p : Int × Int × Int} (h : ringT p = true) {w : Int} (hw : p.1 ≤ w) (w1 : w ≤ 150000) : radT p ≤ w * w / 10000 + 1 := by
  have r := ringT_t h
  have b := radT_bd h
  have i0 : p.2.1 * p.2.1 ≤ p.1 * p.1 := Int.mul_le_mul (by omega) (by omega) (by omega) (by omega)
  have i1 : p.1 * p.1 ≤ w * w := Int.mul_le_mul hw hw (by omega) (by omega)
  unfold radT
  unfold rnd
  rw [if_neg (by omega)]
  omega
theorem mom_le {rs : List (Int × Int × Int)} {d : Int} (h1 : 0 ≤ d) (h2 : d ≤ 20000) (h : rs.all ringT = true) : 0 ≤ fsum (momT d) rs ∧ fsum (momT d) rs ≤ (massesI rs d).sum * (widK rs rs.length * widK rs rs.length / 10000 + 1) ∧ 0 ≤ (massesI rs d).sum := by
  have hw := widK_bd h rs.length (Nat.le_refl _)
  have hall : ∀ p ∈ rs, ringT p = true ∧ p.1 ≤ widK rs rs.length := fun p hp => by
    obtain ⟨k, hk, rfl⟩ := List.mem_iff_getElem.1 hp
    exact ⟨List.all_eq_true.1 h _ hp, by have := hw.2.2 k hk; rwa [rg_eq hk] at this⟩
  generalize widK rs rs.length = W at *
  unfold massesI fsum
  clear h
  induction rs with
  | nil => simp
  | cons p rs ih =>
    have h9 := ih ⟨hw.1, hw.2.1, fun j hj => by
      have := hall (rg rs j) (by rw [rg_eq hj]; exact List.mem_cons_of_mem _ (List.getElem_mem _))
      exact this.2⟩ (fun q hq => hall q (List.mem_cons_of_mem _ hq))
    have hp := hall p (List.mem_cons_self ..)
    have m := rmassT_bd h1 h2 hp.1
    have r := radT_bd hp.1
    have q := radT_le hp.1 hp.2 hw.2.1
    have k1 : momT d p ≤ rmassT d p * (W * W / 10000 + 1) := Int.mul_le_mul_of_nonneg_left q m.2.2.1
    have k2 := momT_bd h1 h2 hp.1
    simp only [List.map_cons, List.sum_cons, Int.add_mul]
    omega

/-- a sum as the program makes it -/
def sumK (zs : List Int) : Nat → Int
  | 0 => 0
  | k + 1 => sumK zs k + zs.getD k 0
theorem sumK_take (zs : List Int) : ∀ k, k ≤ zs.length → sumK zs k = (zs.take k).sum := by
  intro k
  induction k with
  | zero => intro _; simp [sumK]
  | succ k ih =>
    intro hk
    rw [sumK, ih (by omega), List.take_succ_eq_append_getElem (by omega), List.sum_append]
    simp [List.getD, List.getElem?_eq_getElem (show k < zs.length by omega)]
theorem sumK_bd {zs : List Int} {M : Int} (hM : 0 ≤ M) (h : ∀ z ∈ zs, 0 ≤ z ∧ z ≤ M) : ∀ k, k ≤ zs.length → 0 ≤ sumK zs k ∧ sumK zs k ≤ M * k := by
  intro k
  induction k with
  | zero => intro _; simp [sumK]
  | succ k ih =>
    intro hk
    have h1 := ih (by omega)
    have h2 := h (zs.getD k 0) (by simp [List.getD, List.getElem?_eq_getElem (show k < zs.length by omega)])
    rw [sumK, Int.natCast_add, Int.mul_add]
    generalize zs.getD k 0 = z at *
    generalize M * (k : Int) = mk at *
    rw [show M * ((1 : Nat) : Int) = M by simp]
    omega

end Go.Proofs.YtgdadbmhdljcdaaGreatDoor

/- A model fitted to a sound: the moment is never nought. -/
namespace Go.Proofs.YtgdadbmhdljcdaaGreatDoor
set_option linter.unusedVariables false
open Go.RowKit Go.Proofs.Bell Go.BigFrame

theorem wsK_lo {ps : List (Int × Int × Int)} (hal : ps.all ringT = true) (a : Nat) : ∀ j, a + j ≤ ps.length → 100 * (j : Int) ≤ wsK ps a j := by
  intro j
  induction j with
  | zero => intro _; simp [wsK]
  | succ j ih =>
    intro h
    have h1 := ih (by omega)
    have r := ringT_t (all_at hal (show a + j < ps.length by omega))
    rw [wsK]
    unfold wallT
    omega
theorem zw_lo {ps : List (Int × Int × Int)} {zs : List Int} (hal : ps.all ringT = true) (h : zonesB zs ((ps.length : Int) - 1) = true) {z : Nat} (hz : z < zs.length) : 1 ≤ (zwK ps zs zs.length).getD z 0 := by
  rw [zw_at ps zs _ _ hz]
  obtain ⟨h1, h2, h3⟩ := zones_at h hz
  have hb := wsK_lo hal (zs.getD z 0).toNat (zEnd zs ps.length z - zs.getD z 0).toNat (by omega)
  generalize wsK ps (zs.getD z 0).toNat (zEnd zs ps.length z - zs.getD z 0).toNat = a at *
  generalize hd : zEnd zs ps.length z - zs.getD z 0 = d at *
  have hda : 100 * d ≤ a := by omega
  unfold rnd
  rw [if_neg (by omega)]
  have : 1 * (2 * d) ≤ 2 * a + d := by omega
  exact (Int.le_ediv_iff_mul_le (by omega)).2 this
theorem momK_lo {walls row : List Int} (hr : ∀ z, 0 ≤ row.getD z 0) : ∀ k : Nat, (∀ z, z < k → 1 ≤ walls.getD z 0) → sumK row k ≤ momK walls row k := by
  intro k
  induction k with
  | zero => intro _; simp [sumK, momK]
  | succ k ih =>
    intro hw
    have h1 := ih (fun z hz => hw z (by omega))
    have h2 : row.getD k 0 * 1 ≤ row.getD k 0 * walls.getD k 0 := Int.mul_le_mul_of_nonneg_left (hw k (by omega)) (hr k)
    rw [sumK, momK]
    omega
theorem sum_nonneg {row : List Int} (h : ∀ z ∈ row, 0 ≤ z) : 0 ≤ row.sum := by
  induction row with
  | nil => simp
  | cons a r ih =>
    have h1 := h a (List.mem_cons_self ..)
    have h2 := ih (fun z hz => h z (List.mem_cons_of_mem _ hz))
    simp only [List.sum_cons]
    omega
theorem mom_pos {ps : List (Int × Int × Int)} {zs : List Int} {ws : List (List Int)} {bs : List Int} (hal : ps.all ringT = true) (h : zonesB zs ((ps.length : Int) - 1) = true) (hm : modelB zs ws bs = true) {k : Nat} (hk : k < 5) :
    1 ≤ momK (zwK ps zs zs.length) (ws.getD k []) zs.length := by
  obtain ⟨hl, hrb, _, _⟩ := row_bd hm k hk
  obtain ⟨_, _, _, _, h5⟩ := modelB_t hm
  have hr := h5 k hk
  simp only [okRow, Bool.and_eq_true, Bool.not_eq_true', beq_eq_false_iff_ne] at hr
  have hlo := momK_lo (walls := zwK ps zs zs.length) (row := ws.getD k []) (fun z => (hrb z).1) zs.length (fun z hz => zw_lo hal h hz)
  have hs : sumK (ws.getD k []) zs.length = (ws.getD k []).sum := by rw [← hl, sumK_take _ _ (Nat.le_refl _), List.take_length]
  have hn : 0 ≤ (ws.getD k []).sum := sum_nonneg (fun z hz => by
    obtain ⟨i, hi, rfl⟩ := List.mem_iff_getElem.1 hz
    have := (hrb i).1
    rwa [getD_eq hi] at this)
  have hne := hr.2
  omega

end Go.Proofs.YtgdadbmhdljcdaaGreatDoor

