/- Several texts of the proofs in one: Mass, Mass2, Mass3. -/
import Derived.Test.YtmickkodcclocaaGB
import Derived.Test.YtmickkodcclocaaGC
import Derived.Test.YtmickkodcclocaaGE
/- Masses: the plain part. -/
namespace Go.Proofs.Ytmickkodcclocaa
set_option linter.unusedVariables false
open Go.RowKit Go.Proofs.Bell Go.BigFrame

/-- the code of a profile and a density -/
def denseI (nm : ByteArray) (rs : List (Int × Int × Int)) (d : Int) : Int := if profB nm rs then (if inB d 1000 20000 then 0 else 2) else 1
theorem denseI_zero {nm : ByteArray} {rs : List (Int × Int × Int)} {d : Int} (h : denseI nm rs d = 0) : profB nm rs = true ∧ 1000 ≤ d ∧ d ≤ 20000 := by
  unfold denseI at h
  split at h
  · rename_i hp
    split at h
    · rename_i hi
      exact ⟨hp, inB_t hi⟩
    · cases h
  · cases h
theorem volI_bd {rs : List (Int × Int × Int)} (h : rs.all ringT = true) (hl : rs.length ≤ 32) : 0 ≤ volI rs ∧ volI rs ≤ 678584088000 := by
  have := fsum_bd (f := rvolT) (by omega) (fun p => rvolT_bd) h rs.length
  rw [List.take_length] at this
  unfold volI
  omega
theorem mul_bd {a b A B : Int} (ha : 0 ≤ a) (hb : 0 ≤ b) (h1 : a ≤ A) (h2 : b ≤ B) : 0 ≤ a * b ∧ a * b ≤ A * B := mul_le_of ha hb h1 h2
def massI (rs : List (Int × Int × Int)) (d : Int) : Int := rnd (volI rs * d) 1000000
def massOfI (nm : ByteArray) (rs : List (Int × Int × Int)) (d : Int) : Int × Int := if denseI nm rs d = 0 then (massI rs d, 0) else (0, denseI nm rs d)
/-- the mass of a ring -/
def rmassT (d : Int) (p : Int × Int × Int) : Int := rnd (rvolT p * d) 1000000
theorem rmassT_bd {d : Int} (h1 : 0 ≤ d) (h2 : d ≤ 20000) {p : Int × Int × Int} (h : ringT p = true) : 0 ≤ rvolT p * d ∧ rvolT p * d ≤ 424115055000000 ∧ 0 ≤ rmassT d p ∧ rmassT d p ≤ 424115055 := by
  have a := rvolT_bd h
  have b := mul_bd a.1 h1 a.2 h2
  have c := rnd_nonneg (a := rvolT p * d) (b := 1000000) b.1 (by omega)
  have e := rnd_le (a := rvolT p * d) (b := 1000000) (q := 424115055) b.1 (by omega) (by omega)
  exact ⟨b.1, by omega, c, e⟩
def massesI (rs : List (Int × Int × Int)) (d : Int) : List Int := rs.map (rmassT d)
def ringMassesI (nm : ByteArray) (rs : List (Int × Int × Int)) (d : Int) : List Int × Int := if denseI nm rs d = 0 then (massesI rs d, 0) else ([], denseI nm rs d)

/-- twice the centre's moment -/
def cenK (rs : List (Int × Int × Int)) : Nat → Int
  | 0 => 0
  | k + 1 => cenK rs k + rvolT (rg rs k) * (2 * heightI (rs.take k) + (rg rs k).2.2)
theorem heightI_snocg (ps : List (Int × Int × Int)) {k : Nat} (h : k < ps.length) : heightI (ps.take (k + 1)) = heightI (ps.take k) + (rg ps k).2.2 := by rw [rg_eq h]; exact heightI_snoc ps h
theorem height_le {ps : List (Int × Int × Int)} (h : ps.all ringT = true) : ∀ n k, k + n = ps.length → heightI (ps.take k) ≤ heightI ps := by
  intro n
  induction n with
  | zero => intro k hk; rw [List.take_of_length_le (by omega)]; exact Int.le_refl _
  | succ n ih =>
    intro k hk
    have h1 := ih (k + 1) (by omega)
    have h2 := heightI_snocg ps (k := k) (by omega)
    have h3 := ringT_t (all_at h (k := k) (by omega))
    omega
theorem cenK_bd {rs : List (Int × Int × Int)} (h : rs.all ringT = true) (hh : heightI rs ≤ 300000) : ∀ k, k ≤ rs.length → 0 ≤ cenK rs k ∧ cenK rs k ≤ 12723451650000000 * k := by
  intro k
  induction k with
  | zero => intro _; simp [cenK]
  | succ k ih =>
    intro hk
    have h1 := ih (by omega)
    have h2 := height_bd h k
    have h3 := height_le h (rs.length - (k + 1)) (k + 1) (by omega)
    rw [heightI_snocg rs (by omega)] at h3
    have h4 := ringT_t (all_at h (k := k) (by omega))
    have h5 := rvolT_bd (all_at h (k := k) (by omega))
    have h6 := mul_bd (a := rvolT (rg rs k)) (b := 2 * heightI (rs.take k) + (rg rs k).2.2) (A := 21205752750) (B := 600000) h5.1 (by omega) h5.2 (by omega)
    rw [cenK]
    have e : (12723451650000000 : Int) * ((k + 1 : Nat) : Int) = 12723451650000000 * k + 12723451650000000 := by rw [Int.natCast_add, Int.mul_add]; simp
    omega
theorem rvolT_pos {p : Int × Int × Int} (h : ringT p = true) : 1 ≤ rvolT p := by
  have r := ringT_t h
  have s := secI_bd (o := p.1) (i := p.2.1) (h := p.2.2) h
  have hs : 90000 ≤ secI p.1 p.2.1 := by
    unfold secI
    have e : p.1 * p.1 - p.2.1 * p.2.1 = (p.1 - p.2.1) * (p.1 + p.2.1) := by rw [Int.sub_mul, Int.mul_add, Int.mul_add, Int.mul_comm p.2.1 p.1]; omega
    rw [e]
    have h1 : (p.1 - p.2.1) * 500 ≤ (p.1 - p.2.1) * (p.1 + p.2.1) := Int.mul_le_mul_of_nonneg_left (by omega) (by omega)
    rcases Int.lt_or_le p.2.1 400 with h2 | h2
    · -- a thick ring
      have h3 : (p.1 - p.2.1) * (p.1 - p.2.1) ≤ (p.1 - p.2.1) * (p.1 + p.2.1) := Int.mul_le_mul_of_nonneg_left (by omega) (by omega)
      have h4 : 100 * (p.1 + p.2.1) ≤ (p.1 - p.2.1) * (p.1 + p.2.1) := Int.mul_le_mul_of_nonneg_right (by omega) (by omega)
      rcases Int.lt_or_le (p.1 - p.2.1) 180 with h5 | h5
      · have : (p.1 - p.2.1) * 820 ≤ (p.1 - p.2.1) * (p.1 + p.2.1) := Int.mul_le_mul_of_nonneg_left (by omega) (by omega)
        have : 100 * 820 ≤ (p.1 - p.2.1) * 820 := Int.mul_le_mul_of_nonneg_right (by omega) (by omega)
        -- p.1 ≥ 500, p.2.1 > p.1 - 180 ≥ 320
        have h7 : (p.1 - p.2.1) * (500 + 500 - (p.1 - p.2.1)) ≤ (p.1 - p.2.1) * (p.1 + p.2.1) := Int.mul_le_mul_of_nonneg_left (by omega) (by omega)
        have h8 : 0 ≤ (p.1 - p.2.1 - 100) * (900 - (p.1 - p.2.1)) := Int.mul_nonneg (by omega) (by omega)
        generalize p.1 - p.2.1 = d at *
        have h9 : (d - 100) * (900 - d) = d * (500 + 500 - d) - 90000 := by simp only [Int.sub_mul, Int.mul_sub, Int.mul_add]; omega
        omega
      · omega
    · have : 100 * 900 ≤ (p.1 - p.2.1) * 900 := Int.mul_le_mul_of_nonneg_right (by omega) (by omega)
      have : (p.1 - p.2.1) * 900 ≤ (p.1 - p.2.1) * (p.1 + p.2.1) := Int.mul_le_mul_of_nonneg_left (by omega) (by omega)
      omega
  unfold rvolT tubeI
  generalize secI p.1 p.2.1 = sq at *
  have h1 : 90000 * 10 ≤ sq * p.2.2 := by
    have := Int.mul_le_mul hs r.2.2.2.2.1 (by omega) (by omega : (0 : Int) ≤ sq)
    exact this
  have m : ∀ a b c : Int, 0 ≤ a → 1 ≤ b → 2 * b * c ≤ 2 * a + b → c ≤ rnd a b := fun a b c ha hb h => by
    unfold rnd; rw [if_neg (by omega)]
    exact (Int.le_ediv_iff_mul_le (by omega)).2 (by rw [Int.mul_comm]; exact h)
  have h2 := m (sq * p.2.2) 1000000 1 (by omega) (by omega) (by omega)
  exact m _ 1000000 1 (by omega) (by omega) (by omega)
theorem volI_pos {rs : List (Int × Int × Int)} (h : rs.all ringT = true) (hl : 1 ≤ rs.length) : 1 ≤ volI rs := by
  unfold volI fsum
  match rs, hl, h with
  | r :: rs, _, h =>
    simp only [List.all_cons, Bool.and_eq_true] at h
    have h1 := rvolT_pos h.1
    have h2 := fsum_bd (f := rvolT) (by omega) (fun p => rvolT_bd) h.2 rs.length
    rw [List.take_length] at h2
    unfold fsum at h2
    simp only [List.map_cons, List.sum_cons]
    omega
def centreI (nm : ByteArray) (rs : List (Int × Int × Int)) : Int × Int := if profB nm rs then (rnd (cenK rs rs.length) (2 * volI rs), 0) else (0, 1)

end Go.Proofs.Ytmickkodcclocaa

/- Masses: the contracts. -/
namespace Go.Proofs.Ytmickkodcclocaa
set_option linter.unusedVariables false
open Go.RowKit Go.Proofs.Bell Go.BigFrame

theorem isDensity_c (n : Int) (w : World) : Calls Try.prog 193 #[.int .i64 n] w (RetS (.bool (inB n 1000 20000)) w) := by
  go_enter Try.func193, Try.ntmps193
  go_wp2_with (go_at_call 96; refine (within_c _ _ _ _).mono ?_; rintro _ _ ⟨rfl, rfl⟩)
  go_returns
  exact RetS.mk rfl
set_option maxHeartbeats 800000 in
theorem dense_c (nm : ByteArray) (sv : Value) (ps : List (Int × Int × Int)) (d : Int) (w : World) (hnm : nm.size ≤ maxLen) (hr : Rd w sv ps.length (trips ps)) :
    Calls Try.prog 139 #[.agg #[.string nm, sv], .int .i64 d] w (RetB (.int .i64 (denseI nm ps d)) w) := by
  have hok := fun w' (hb : Below w.heap.size w w') => ValidProfile_c nm sv ps w' hnm (hr.later hb)
  cases t0 : profB nm ps <;> rw [t0] at hok
  · have HOK := Lib.hid hok; clear hok
    go_enter Try.func139, Try.ntmps139
    have b0 : Below w.heap.size w w := Below.refl _ _
    have z0 : w.heap.size ≤ w.heap.size := Nat.le_refl _
    go_wp2_with fail
    refine (HOK.out _ (by go_grown)).mono ?_
    rintro _ w1 ⟨rfl, r1⟩
    have s1 : Below w.heap.size w w1 := Below.trans (by go_grown) (r1.mono (by simp; try omega))
    have b1 := b0.trans (s1.mono z0)
    have z1 := b1.size
    have y1 := s1.size
    have c0_0_1 := below_cell r1 (p := ⟨w.heap.size, 0, none⟩) (v := .string nm) (by simp [go_sem])
    have c0_1_1 := below_cell r1 (p := ⟨w.heap.size, 1, none⟩) (v := sv) (by simp [go_sem])
    clear r1
    go_wp2
    go_returns
    exact RetB.mk (int_eq (by simp [denseI, t0])) b1
  · have HOK := Lib.hid hok; clear hok
    obtain ⟨hl1, hl2, hal, hht⟩ := profB_t t0
    clear hal hr
    cases t1 : inB d 1000 20000 <;>
    · have hl := fun w' => isDensity_c d w'
      rw [t1] at hl
      have HL := Lib.hid hl; clear hl
      go_enter Try.func139, Try.ntmps139
      have b0 : Below w.heap.size w w := Below.refl _ _
      have z0 : w.heap.size ≤ w.heap.size := Nat.le_refl _
      go_wp2_with fail
      refine (HOK.out _ (by go_grown)).mono ?_
      rintro _ w1 ⟨rfl, r1⟩
      have s1 : Below w.heap.size w w1 := Below.trans (by go_grown) (r1.mono (by simp; try omega))
      have b1 := b0.trans (s1.mono z0)
      have z1 := b1.size
      have y1 := s1.size
      have c0_0_1 := below_cell r1 (p := ⟨w.heap.size, 0, none⟩) (v := .string nm) (by simp [go_sem])
      have c0_1_1 := below_cell r1 (p := ⟨w.heap.size, 1, none⟩) (v := sv) (by simp [go_sem])
      clear r1
      go_wp2_with (go_at_call 193; refine (HL.out _).mono ?_; rintro _ _ ⟨rfl, rfl⟩)
      go_returns
      exact RetB.mk (int_eq (by simp [denseI, t0, t1])) b1

theorem massI_bd {rs : List (Int × Int × Int)} {d : Int} (h : rs.all ringT = true) (hl : rs.length ≤ 32) (h1 : 0 ≤ d) (h2 : d ≤ 20000) : 0 ≤ volI rs * d ∧ volI rs * d ≤ 13571681760000000 := by
  have a := volI_bd h hl
  have b := mul_bd a.1 h1 a.2 h2
  omega

theorem massOf_c (nm : ByteArray) (sv : Value) (ps : List (Int × Int × Int)) (d : Int) (w : World) (hr : Rd w sv ps.length (trips ps)) (hal : ps.all ringT = true) (hl : ps.length ≤ 32) (h1 : 0 ≤ d) (h2 : d ≤ 20000) :
    Calls Try.prog 145 #[.agg #[.string nm, sv], .int .i64 d] w (RetB (.int .i64 (massI ps d)) w) := by
  have hv := fun w' (hb : Below w.heap.size w w') => volumeOf_c nm sv ps w' (hr.later hb) hal hl
  have hm := massI_bd hal hl h1 h2
  have ha := volI_bd hal hl
  unfold massI
  have HV := Lib.hid hv; clear hv
  clear hr hal
  generalize volI ps = v at *
  go_enter Try.func145, Try.ntmps145
  have b0 : Below w.heap.size w w := Below.refl _ _
  have z0 : w.heap.size ≤ w.heap.size := Nat.le_refl _
  go_wp2_with fail
  refine (HV.out _ (by go_grown)).mono ?_
  rintro _ w1 ⟨rfl, r1⟩
  have s1 : Below w.heap.size w w1 := Below.trans (by go_grown) (r1.mono (by simp; try omega))
  have b1 := b0.trans (s1.mono z0)
  have z1 := b1.size
  have y1 := s1.size
  have c0_0_1 := below_cell r1 (p := ⟨w.heap.size, 0, none⟩) (v := .string nm) (by simp [go_sem])
  have c0_1_1 := below_cell r1 (p := ⟨w.heap.size, 1, none⟩) (v := sv) (by simp [go_sem])
  clear r1
  go_wp2_with fail
  refine (nearest_c _ _ _ (by omega) (by omega) (by omega) (by omega)).mono ?_
  rintro _ w2 ⟨rfl, d2⟩
  have r2 := Dr.below d2; clear d2
  have s2 := r2
  have b2 := b1.trans (s2.mono z1)
  have z2 := b2.size
  have y2 := s2.size
  have c0_0_2 := below_cell s2 c0_0_1; clear c0_0_1
  have c0_1_2 := below_cell s2 c0_1_1; clear c0_1_1
  clear r2
  go_wp2
  go_returns
  exact RetB.mk (rfl) b2

set_option maxHeartbeats 800000 in
theorem implMassOf_c (nm : ByteArray) (sv : Value) (ps : List (Int × Int × Int)) (d : Int) (w : World) (hnm : nm.size ≤ maxLen) (hr : Rd w sv ps.length (trips ps)) :
    Calls Try.prog 65 #[.agg #[.string nm, sv], .int .i64 d] w (RetB (.tuple #[.int .i64 (massOfI nm ps d).1, .int .i64 (massOfI nm ps d).2]) w) := by
  have hok := fun w' (hb : Below w.heap.size w w') => dense_c nm sv ps d w' hnm (hr.later hb)
  by_cases t0 : ¬ denseI nm ps d = 0
  · have he : massOfI nm ps d = (0, denseI nm ps d) := by simp [massOfI, t0]
    rw [he]
    clear he
    have HOK := Lib.hid hok; clear hok
    generalize denseI nm ps d = code at *
    go_enter Try.func65, Try.ntmps65
    have b0 : Below w.heap.size w w := Below.refl _ _
    have z0 : w.heap.size ≤ w.heap.size := Nat.le_refl _
    go_wp2_with fail
    refine (HOK.out _ (by go_grown)).mono ?_
    rintro _ w1 ⟨rfl, r1⟩
    have s1 : Below w.heap.size w w1 := Below.trans (by go_grown) (r1.mono (by simp; try omega))
    have b1 := b0.trans (s1.mono z0)
    have z1 := b1.size
    have y1 := s1.size
    have c0_0_1 := below_cell r1 (p := ⟨w.heap.size, 0, none⟩) (v := .string nm) (by simp [go_sem])
    have c0_1_1 := below_cell r1 (p := ⟨w.heap.size, 1, none⟩) (v := sv) (by simp [go_sem])
    clear r1
    go_wp2
    go_returns
    exact RetB.mk (rfl) b1
  · have t0 : denseI nm ps d = 0 := Classical.not_not.1 t0
    rw [t0] at hok
    have HOK := Lib.hid hok; clear hok
    obtain ⟨hp, hd1, hd2⟩ := denseI_zero t0
    obtain ⟨hl1, hl2, hal, hht⟩ := profB_t hp
    have he : massOfI nm ps d = (massI ps d, 0) := by simp [massOfI, t0]
    rw [he]
    clear he
    have hv := fun w' (hb : Below w.heap.size w w') => massOf_c nm sv ps d w' (hr.later hb) hal hl2 (by omega) (by omega)
    have HV := Lib.hid hv; clear hv
    go_enter Try.func65, Try.ntmps65
    have b0 : Below w.heap.size w w := Below.refl _ _
    have z0 : w.heap.size ≤ w.heap.size := Nat.le_refl _
    go_wp2_with fail
    refine (HOK.out _ (by go_grown)).mono ?_
    rintro _ w1 ⟨rfl, r1⟩
    have s1 : Below w.heap.size w w1 := Below.trans (by go_grown) (r1.mono (by simp; try omega))
    have b1 := b0.trans (s1.mono z0)
    have z1 := b1.size
    have y1 := s1.size
    have c0_0_1 := below_cell r1 (p := ⟨w.heap.size, 0, none⟩) (v := .string nm) (by simp [go_sem])
    have c0_1_1 := below_cell r1 (p := ⟨w.heap.size, 1, none⟩) (v := sv) (by simp [go_sem])
    clear r1
    go_wp2_with fail
    refine (HV.out _ b1).mono ?_
    rintro _ w2 ⟨rfl, r2⟩
    have s2 := r2
    have b2 := b1.trans (s2.mono z1)
    have z2 := b2.size
    have y2 := s2.size
    have c0_0_2 := below_cell s2 c0_0_1; clear c0_0_1
    have c0_1_2 := below_cell s2 c0_1_1; clear c0_1_1
    clear r2
    go_wp2
    go_returns
    exact RetB.mk (rfl) b2

end Go.Proofs.Ytmickkodcclocaa

/- The masses of the rings. -/
namespace Go.Proofs.Ytmickkodcclocaa
set_option linter.unusedVariables false
open Go.RowKit Go.Proofs.Bell Go.BigFrame

theorem masses_snoc (ps : List (Int × Int × Int)) (d : Int) {k : Nat} (h : k < ps.length) : massesI (ps.take (k + 1)) d = massesI (ps.take k) d ++ [rmassT d (rg ps k)] := by
  unfold massesI; rw [rg_eq h, List.take_succ_eq_append_getElem h, List.map_append]; rfl
theorem masses_len (ps : List (Int × Int × Int)) (d : Int) (k : Nat) : (massesI (ps.take k) d).length ≤ k := by
  unfold massesI; rw [List.length_map, List.length_take]; omega

set_option maxHeartbeats 1600000 in
theorem ringMasses_c (nm : ByteArray) (sv : Value) (ps : List (Int × Int × Int)) (d : Int) (w : World) (hr : Rd w sv ps.length (trips ps)) (hal : ps.all ringT = true) (hl : ps.length ≤ 32) (h1 : 0 ≤ d) (h2 : d ≤ 20000) :
    Calls Try.prog 141 #[.agg #[.string nm, sv], .int .i64 d] w (RetOwnI (massesI ps d) w) := by
  have HAL := Lib.hid hal; clear hal
  generalize hn : ps.length = n at *
  have HN := Lib.hid hn; clear hn
  obtain ⟨hn, ao, cap, bb, off, rfl, hao, hcell⟩ := hr.open
  clear hr
  go_enter Try.func141, Try.ntmps141
  have b0 : Below w.heap.size w w := Below.refl _ _
  have z0 : w.heap.size ≤ w.heap.size := Nat.le_refl _
  go_wp2_with fail
  go_loopw [11, 5] (fun i u wr => ∃ (k : Nat), k ≤ n ∧ i = .int .i64 k ∧ OwnI w.heap.size wr u (massesI (ps.take k) d) ∧ Below w.heap.size w wr) (fun i u _ => n - (intOf i).toNat)
  case atStart => exact ⟨0, Nat.zero_le _, rfl, World.ownsRow_nil _ _ _ _, (by go_grown)⟩
  case round =>
    obtain ⟨k, hk, rfl, ho, br0⟩ := hrel
    have zr0 := br0.size
    have hlen := masses_len ps d k
    have hlo := own_lo ho
    have HO := Lib.hid ho; clear ho
    have LO := Lib.hid hlo; clear hlo
    by_cases hlt : k < n
    · skip
      have hlt_p : k < ps.length := by rw [HN.out]; omega
      have hix_p := ix (P := Try.prog) (T := 26) (cap := cap) Try.underlying26 cells_Ring has_Ring hao (k := k) (by omega) _ (rfl)
      have hp0 : wr.cell? ⟨bb, off + k * 3, none⟩ = some (.int .i64 (rg ps k).1) := by rw [rg_eq hlt_p]; exact hcell _ br0 _ _ (by omega) (trips_at hlt_p).1
      have hp1 : wr.cell? ⟨bb, off + k * 3 + 1, none⟩ = some (.int .i64 (rg ps k).2.1) := by rw [rg_eq hlt_p]; exact hcell _ br0 _ _ (by omega) (trips_at hlt_p).2.1
      have hp2 : wr.cell? ⟨bb, off + k * 3 + 2, none⟩ = some (.int .i64 (rg ps k).2.2) := by rw [rg_eq hlt_p]; exact hcell _ br0 _ _ (by omega) (trips_at hlt_p).2.2
      have hs := masses_snoc ps d hlt_p
      have hring := all_at HAL.out hlt_p
      obtain ⟨e1, e2, e3, e4⟩ := rmassT_bd h1 h2 hring
      have hrv := fun w' => ringVolume_c (rg ps k).1 (rg ps k).2.1 (rg ps k).2.2 w' hring
      have hm := fun w' => nearest_c (rvolT (rg ps k) * d) 1000000 w' (by omega) (by omega) (by omega) (by omega)
      have he : tubeI (secI (rg ps k).1 (rg ps k).2.1) (rg ps k).2.2 = rvolT (rg ps k) := rfl
      have he2 : rnd (rvolT (rg ps k) * d) 1000000 = rmassT d (rg ps k) := rfl
      rw [he] at hrv
      rw [he2] at hm
      have HS := Lib.hid hs; clear hs
      have HRV := Lib.hid hrv; clear hrv
      have HM := Lib.hid hm; clear hm
      clear hcell hring he he2
      generalize rvolT (rg ps k) = z at *
      generalize rmassT d (rg ps k) = z2 at *
      generalize (rg ps k).1 = x0 at *
      generalize (rg ps k).2.1 = x1 at *
      generalize (rg ps k).2.2 = x2 at *
      go_wp2_with fail
      refine (HRV.out _).mono ?_
      rintro _ wr1 ⟨rfl, rr1⟩
      have sr1 : Below wr.heap.size wr wr1 := Below.trans (by go_grown) (rr1.mono (by simp; try omega))
      have br1 := br0.trans (sr1.mono zr0)
      have zr1 := br1.size
      have yr1 := sr1.size
      have o1_r1 := own_later HO.out sr1; have O1_r1 := Lib.hid o1_r1; clear o1_r1
      clear rr1
      go_wp2_with fail
      refine (HM.out _).mono ?_
      rintro _ wr2 ⟨rfl, dr2⟩
      have rr2 := Dr.below dr2; clear dr2
      have sr2 := rr2
      have br2 := br1.trans (sr2.mono zr1)
      have zr2 := br2.size
      have yr2 := sr2.size
      have o1_r2 := own_later O1_r1.out sr2; have O1_r2 := Lib.hid o1_r2; clear o1_r2
      clear rr2
      go_wp2_with (at_builtin; refine app_I (.tmp 15) (.tmp 21) _ _ _ _ _ (by rfl) (by rfl) (by rfl) (by rfl) O1_r2.out (by omega) zr2 ?_; intro v2 wr3 or3 qr3)
      go_wp2
      have hb2 := Only.below br2 qr3 zr2 LO.out
      go_roundw
      case rel => exact ⟨k + 1, by omega, by go_num, by rw [HS.out]; exact or3, hb2⟩
      case measure => simp [intOf]; omega
    · obtain rfl : k = n := by omega
      clear hcell
      go_wp2
      go_returns
      have e := HO.out
      rw [List.take_of_length_le (by rw [HN.out]; exact Nat.le_refl _)] at e
      exact ⟨_, rfl, e, br0⟩

theorem RetI2.nil {w w' : World} {c : Value} (h : Below w.heap.size w w') : RetI2 [] c w (.returned (.tuple #[.slice none 0 0, c])) w' := ⟨_, rfl, World.ownsRow_nil _ _ _ _, h⟩
theorem ringMassesI_len (nm : ByteArray) (ps : List (Int × Int × Int)) (d : Int) : (ringMassesI nm ps d).1.length ≤ 32 := by
  unfold ringMassesI
  split
  · rename_i h
    obtain ⟨hp, _, _⟩ := denseI_zero h
    have := (profB_t hp).2.1
    simp [massesI]; exact this
  · simp

set_option maxHeartbeats 800000 in
theorem implRingMasses_c (nm : ByteArray) (sv : Value) (ps : List (Int × Int × Int)) (d : Int) (w : World) (hnm : nm.size ≤ maxLen) (hr : Rd w sv ps.length (trips ps)) :
    Calls Try.prog 60 #[.agg #[.string nm, sv], .int .i64 d] w (RetI2 (ringMassesI nm ps d).1 (.int .i64 (ringMassesI nm ps d).2) w) := by
  have hok := fun w' (hb : Below w.heap.size w w') => dense_c nm sv ps d w' hnm (hr.later hb)
  by_cases t0 : ¬ denseI nm ps d = 0
  · have he : ringMassesI nm ps d = ([], denseI nm ps d) := by simp [ringMassesI, t0]
    rw [he]
    clear he
    have HOK := Lib.hid hok; clear hok
    generalize denseI nm ps d = code at *
    go_enter Try.func60, Try.ntmps60
    have b0 : Below w.heap.size w w := Below.refl _ _
    have z0 : w.heap.size ≤ w.heap.size := Nat.le_refl _
    go_wp2_with fail
    refine (HOK.out _ (by go_grown)).mono ?_
    rintro _ w1 ⟨rfl, r1⟩
    have s1 : Below w.heap.size w w1 := Below.trans (by go_grown) (r1.mono (by simp; try omega))
    have b1 := b0.trans (s1.mono z0)
    have z1 := b1.size
    have y1 := s1.size
    have c0_0_1 := below_cell r1 (p := ⟨w.heap.size, 0, none⟩) (v := .string nm) (by simp [go_sem])
    have c0_1_1 := below_cell r1 (p := ⟨w.heap.size, 1, none⟩) (v := sv) (by simp [go_sem])
    clear r1
    go_wp2
    go_returns
    exact RetI2.nil b1
  · have t0 : denseI nm ps d = 0 := Classical.not_not.1 t0
    rw [t0] at hok
    have HOK := Lib.hid hok; clear hok
    obtain ⟨hp, hd1, hd2⟩ := denseI_zero t0
    obtain ⟨hl1, hl2, hal, hht⟩ := profB_t hp
    have he : ringMassesI nm ps d = (massesI ps d, 0) := by simp [ringMassesI, t0]
    rw [he]
    clear he
    have hv := fun w' (hb : Below w.heap.size w w') => ringMasses_c nm sv ps d w' (hr.later hb) hal hl2 (by omega) (by omega)
    have HV := Lib.hid hv; clear hv
    go_enter Try.func60, Try.ntmps60
    have b0 : Below w.heap.size w w := Below.refl _ _
    have z0 : w.heap.size ≤ w.heap.size := Nat.le_refl _
    go_wp2_with fail
    refine (HOK.out _ (by go_grown)).mono ?_
    rintro _ w1 ⟨rfl, r1⟩
    have s1 : Below w.heap.size w w1 := Below.trans (by go_grown) (r1.mono (by simp; try omega))
    have b1 := b0.trans (s1.mono z0)
    have z1 := b1.size
    have y1 := s1.size
    have c0_0_1 := below_cell r1 (p := ⟨w.heap.size, 0, none⟩) (v := .string nm) (by simp [go_sem])
    have c0_1_1 := below_cell r1 (p := ⟨w.heap.size, 1, none⟩) (v := sv) (by simp [go_sem])
    clear r1
    go_wp2_with fail
    refine (HV.out _ b1).mono ?_
    rintro _ w2 ⟨x2, rfl, n2, r2⟩
    have s2 := r2
    have b2 := b1.trans (s2.mono z1)
    have z2 := b2.size
    have y2 := s2.size
    have c0_0_2 := below_cell s2 c0_0_1; clear c0_0_1
    have c0_1_2 := below_cell s2 c0_1_1; clear c0_1_1
    clear r2
    go_wp2
    go_returns
    exact ⟨_, rfl, own_base n2 z1, b2⟩

end Go.Proofs.Ytmickkodcclocaa

