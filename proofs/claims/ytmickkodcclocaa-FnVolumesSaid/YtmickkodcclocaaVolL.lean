/- The plain laws of FnVolumes. -/
import Derived.Test.YtmickkodcclocaaAbv
import Derived.Test.YtmickkodcclocaaCentL
import Derived.Test.YtmickkodcclocaaDens
namespace Go.Proofs.Ytmickkodcclocaa
set_option linter.unusedVariables false
open Go.RowKit Go.Proofs.Bell Go.BigFrame

theorem rvol_thin {o i h : Int} (c : ringB o i h = true) (c2 : ringB o (i + 1) h = true) : 0 ≤ tubeI (secI o i) h ∧ tubeI (secI o (i + 1)) h ≤ tubeI (secI o i) h := by
  have a := secI_bd c
  have a2 := secI_bd c2
  have r := ringB_t c
  have r2 := ringB_t c2
  have t := tube_bd (sq := secI o i) (h := h) a.1 a.2.1 (by omega) (by omega)
  have t2 := tube_bd (sq := secI o (i + 1)) (h := h) a2.1 a2.2.1 (by omega) (by omega)
  have i0 : i * i ≤ (i + 1) * (i + 1) := Int.mul_le_mul (by omega) (by omega) (by omega) (by omega)
  have s0 : secI o (i + 1) ≤ secI o i := by unfold secI; omega
  have s1 : secI o (i + 1) * h ≤ secI o i * h := Int.mul_le_mul_of_nonneg_right s0 (by omega)
  refine ⟨t.2.2.2.2.1, ?_⟩
  unfold tubeI
  refine rnd_mono ?_ (Int.mul_le_mul_of_nonneg_right (rnd_mono t2.1 s1 (by omega)) (by omega)) (by omega)
  have := t2.2.2.1
  omega
theorem rvol_law (o i h : Int) (c : (rvolI o i h).2 = 0) : 0 ≤ (rvolI o i h).1 ∧ IntKind.i64.wrap (i + 1) = i + 1 ∧ ((rvolI o (i + 1) h).2 = 0 → (rvolI o (i + 1) h).1 ≤ (rvolI o i h).1) := by
  by_cases h1 : ringB o i h = true
  · have r := ringB_t h1
    have hw : IntKind.i64.wrap (i + 1) = i + 1 := IntWalk.i64_in _ (by omega)
    have e : rvolI o i h = (tubeI (secI o i) h, 0) := by unfold rvolI; rw [if_pos h1]
    have a := secI_bd h1
    have t := tube_bd (sq := secI o i) (h := h) a.1 a.2.1 (by omega) (by omega)
    rw [e]
    refine ⟨t.2.2.2.2.1, hw, fun c2 => ?_⟩
    by_cases h2 : ringB o (i + 1) h = true
    · rw [show rvolI o (i + 1) h = (tubeI (secI o (i + 1)) h, 0) by unfold rvolI; rw [if_pos h2]]
      exact (rvol_thin h1 h2).2
    · rw [show rvolI o (i + 1) h = (0, 1) by unfold rvolI; rw [if_neg h2]] at c2
      exact absurd c2 (by simp)
  · rw [show rvolI o i h = (0, 1) by unfold rvolI; rw [if_neg h1]] at c
    exact absurd c (by simp)

/-- a rounded quotient, twice over -/
theorem rnd_two {a : Int} (h : 0 ≤ a) : 2 * a - 1000000 ≤ 2000000 * rnd a 1000000 ∧ 2000000 * rnd a 1000000 ≤ 2 * a + 1000000 := by
  unfold rnd
  rw [if_neg (by omega)]
  omega
theorem massesSum {rs : List (Int × Int × Int)} {d : Int} (h1 : 0 ≤ d) (h2 : d ≤ 20000) (h : rs.all ringT = true) :
    2 * (fsum rvolT rs * d) - 1000000 * (rs.length : Int) ≤ 2000000 * (massesI rs d).sum ∧ 2000000 * (massesI rs d).sum ≤ 2 * (fsum rvolT rs * d) + 1000000 * (rs.length : Int) ∧ 0 ≤ fsum rvolT rs := by
  unfold massesI fsum
  induction rs with
  | nil => simp
  | cons p rs ih =>
    simp only [List.all_cons, Bool.and_eq_true] at h
    have h9 := ih h.2
    have m := rmassT_bd h1 h2 h.1
    have v := rvolT_bd h.1
    have q := rnd_two m.1
    have e : rmassT d p = rnd (rvolT p * d) 1000000 := rfl
    rw [← e] at q
    simp only [List.map_cons, List.sum_cons, List.length_cons, Int.add_mul, Int.natCast_add, Int.mul_add]
    omega
theorem rvol_high {p : Int × Int × Int} (h : ringT p = true) : rvolT p ≤ 70686 * p.2.2 + 1 := by
  have a := secI_bd (o := p.1) (i := p.2.1) (h := p.2.2) h
  have r := ringT_t h
  have t := tube_bd (sq := secI p.1 p.2.1) (h := p.2.2) a.1 a.2.1 (by omega) (by omega)
  have s1 : secI p.1 p.2.1 * p.2.2 ≤ 22500000000 * p.2.2 := Int.mul_le_mul_of_nonneg_right a.2.1 (by omega)
  unfold rvolT tubeI
  generalize secI p.1 p.2.1 * p.2.2 = x at *
  have k : rnd x 1000000 ≤ 22500 * p.2.2 := by
    unfold rnd
    rw [if_neg (by omega)]
    omega
  have k0 := t.2.2.1
  generalize rnd x 1000000 = y at *
  unfold rnd
  rw [if_neg (by omega)]
  omega
theorem vol_high {rs : List (Int × Int × Int)} (h : rs.all ringT = true) : fsum rvolT rs ≤ 70686 * heightI rs + (rs.length : Int) := by
  unfold fsum heightI
  induction rs with
  | nil => simp
  | cons p rs ih =>
    simp only [List.all_cons, Bool.and_eq_true] at h
    have h9 := ih h.2
    have v := rvol_high h.1
    simp only [List.map_cons, List.sum_cons, List.length_cons, Int.natCast_add, Int.mul_add]
    omega
theorem abvK_zero {rs : List (Int × Int × Int)} {d : Int} (h : rs.all ringT = true) : ∀ k, k ≤ rs.length → abvK rs d 0 k = (massesI (rs.take k) d).sum := by
  intro k
  induction k with
  | zero => intro _; simp [abvK, massesI]
  | succ k ih =>
    intro hk
    have hh := (height_bd h k).1
    rw [abvK, if_pos hh, ih (by omega)]
    unfold massesI
    rw [rg_eq (show k < rs.length by omega), List.take_succ_eq_append_getElem (by omega), List.map_append, List.sum_append]
    simp
theorem vol_law {nm : ByteArray} {rs : List (Int × Int × Int)} {d : Int} (h : denseI nm rs d = 0) :
    ringMassesI nm rs d = (massesI rs d, 0) ∧ massOfI nm rs d = (massI rs d, 0) ∧ volumeI nm rs = (volI rs, 0) ∧ 0 ≤ volI rs ∧
    (massesI rs d).sum - massI rs d ≤ (rs.length : Int) + 1 ∧ massI rs d - (massesI rs d).sum ≤ (rs.length : Int) + 1 ∧ 0 ≤ (massesI rs d).sum ∧
    aboveI nm rs d 0 = ((massesI rs d).sum, 0) ∧ 0 ≤ massI rs d ∧ massI rs d ≤ 1000000000 ∧
    ∃ e, densI nm rs (massI rs d) = (e, 0) ∧ e ≤ d ∧ massOfI nm rs e = (massI rs e, 0) ∧ massI rs d ≤ massI rs e := by
  obtain ⟨hp, h1, h2⟩ := denseI_zero h
  obtain ⟨l1, l2, hal, hht⟩ := profB_t hp
  have ms := massesSum (d := d) (by omega) h2 hal
  have vh := vol_high hal
  have vb := volI_bd hal l2
  have hv : volI rs = fsum rvolT rs := rfl
  have m0 : 0 ≤ volI rs * d := Int.mul_nonneg vb.1 (by omega)
  have m1 : volI rs * d ≤ 22000000000 * 20000 := Int.mul_le_mul (by omega) h2 (by omega) (by omega)
  have mt := rnd_two m0
  have hm : massI rs d = rnd (volI rs * d) 1000000 := rfl
  rw [← hm] at mt
  rw [← hv] at ms
  have hh0 : 0 ≤ heightI rs := by have := (height_bd hal rs.length).1; rwa [List.take_length] at this
  have hmm : 0 ≤ (massesI rs d).sum := (mom_le (by omega) h2 hal).2.2
  have h3 : aboveI nm rs d 0 = ((massesI rs d).sum, 0) := by
    unfold aboveI aboveJ
    rw [if_pos h, if_pos (inB_mk ⟨by omega, hh0⟩), abvK_zero hal rs.length (Nat.le_refl _), List.take_length]
  have hM0 : 0 ≤ massI rs d := by omega
  have hM1 : massI rs d ≤ 1000000000 := by omega
  refine ⟨by simp [ringMassesI, h], by simp [massOfI, h], by simp [volumeI, hp], vb.1, by omega, by omega, hmm, h3, hM0, hM1, ?_⟩
  obtain ⟨j, hj⟩ : ∃ j : Nat, d = 1000 + (j : Int) := ⟨(d - 1000).toNat, by omega⟩
  have hen : enoughB rs (massI rs d) j = true := by unfold enoughB; rw [← hj]; simp
  have hex : ∃ i, i < 19001 ∧ enoughB rs (massI rs d) i = true := ⟨j, by omega, hen⟩
  have hlt : leastJ rs (massI rs d) < 19001 := by
    unfold leastJ
    have := List.findIdx_lt_length_of_exists (p := enoughB rs (massI rs d)) (xs := List.range 19001) ⟨j, List.mem_range.2 (by omega), hen⟩
    simpa using this
  have hle : leastJ rs (massI rs d) ≤ j := by
    rcases Nat.lt_or_ge j (leastJ rs (massI rs d)) with h8 | h8
    · unfold leastJ at h8
      have := List.not_of_lt_findIdx h8
      simp [hen] at this
    · exact h8
  have hyes : enoughB rs (massI rs d) (leastJ rs (massI rs d)) = true := by
    have := List.findIdx_getElem (p := enoughB rs (massI rs d)) (xs := List.range 19001) (w := by simpa [leastJ] using hlt)
    simpa [leastJ] using this
  generalize hJ : leastJ rs (massI rs d) = J at *
  refine ⟨1000 + (J : Int), ?_, by omega, ?_, of_decide_eq_true hyes⟩
  · unfold densI
    rw [if_pos hp, if_pos (inB_mk ⟨hM0, hM1⟩)]
    exact densJ_yes hJ (by omega)
  · have : denseI nm rs (1000 + (J : Int)) = 0 := by
      unfold denseI
      rw [if_pos hp, if_pos (inB_mk ⟨by omega, by omega⟩)]
    simp [massOfI, this]

end Go.Proofs.Ytmickkodcclocaa
