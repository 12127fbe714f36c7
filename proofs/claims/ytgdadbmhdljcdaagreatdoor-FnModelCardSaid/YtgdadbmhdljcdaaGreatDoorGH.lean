/- Several texts of the proofs in one: Mass, Mass2, Mass3. -/
import Derived.Test.YtgdadbmhdljcdaaGreatDoorGB
import Derived.Test.YtgdadbmhdljcdaaGreatDoorGC
import Derived.Test.YtgdadbmhdljcdaaGreatDoorGE
/- Masses: the plain part. -/
namespace Go.Proofs.YtgdadbmhdljcdaaGreatDoor
set_option linter.unusedVariables false
open Go.RowKit Go.Proofs.Bell Go.BigFrame

/-- the code of a profile and a density -/
def denseI (nm : ByteArray) (rs : List (Int × Int × Int)) (d : Int) : Int := if profB nm rs then (if inB d 1000 20000 then 0 else 2) else 1
theorem denseI_zero {nm : ByteArray} {rs : List (Int × Int × Int)} {d : Int} (h : denseI nm rs d = 0) : profB nm rs = true ∧ 1000 ≤ d ∧ d ≤ 20000 := by
  unfold denseI at h
  split at h
  · rename_i hp
    split at h
    · rename_i hi
      exact ⟨hp, inB_t hi⟩
    · cases h
  · cases h
theorem volI_bd {rs : List (Int × Int × Int)} (h : rs.all ringT = true) (hl : rs.length ≤ 32) : 0 ≤ volI rs ∧ volI rs ≤ 678584088000 := by
  have := fsum_bd (f := rvolT) (by omega) (fun p => rvolT_bd) h rs.length
  rw [List.take_length] at this
  unfold volI
  omega
theorem mul_bd {a b A B : Int} (ha : 0 ≤ a) (hb : 0 ≤ b) (h1 : a ≤ A) (h2 : b ≤ B) : 0 ≤ a * b ∧ a * b ≤ A * B := mul_le_of ha hb h1 h2
def massI (rs : List (Int × Int × Int)) (d : Int) : Int := rnd (volI rs * d) 1000000
def massOfI (nm : ByteArray) (rs : List (Int × Int × Int)) (d : Int) : Int × Int := if denseI nm rs d = 0 then (massI rs d, 0) else (0, denseI nm rs d)
/-- the mass of a ring -/
def rmassT (d : Int) (p : Int × Int × Int) : Int := rnd (rvolT p * d) 1000000
theorem rmassT_bd {d : Int} (h1 : 0 ≤ d) (h2 : d ≤ 20000) {p : Int × Int × Int} (h : ringT p = true) : 0 ≤ rvolT p * d ∧ rvolT p * d ≤ 424115055000000 ∧ 0 ≤ rmassT d p ∧ rmassT d p ≤ 424115055 := by
  have a := rvolT_bd h
  have b := mul_bd a.1 h1 a.2 h2
  have c := rnd_nonneg (a := rvolT p * d) (b := 1000000) b.1 (by omega)
  have e := rnd_le (a := rvolT p * d) (b := 1000000) (q := 424115055) b.1 (by omega) (by omega)
  exact ⟨b.1, by omega, c, e⟩
def massesI (rs : List (Int × Int × Int)) (d : Int) : List Int := rs.map (rmassT d)
def ringMassesI (nm : ByteArray) (rs : List (Int × Int × Int)) (d : Int) : List Int × Int := if denseI nm rs d = 0 then (massesI rs d, 0) else ([], denseI nm rs d)

/-- twice the centre's moment -/
def cenK (rs : List (Int × Int × Int)) : Nat → Int
  | 0 => 0
  | k + 1 => cenK rs k + rvolT (rg rs k) * (2 * heightI (rs.take k) + (rg rs k).2.2)
theorem heightI_snocg (ps : List (Int × Int × Int)) {k : Nat} (h : k < ps.length) : heightI (ps.take (k + 1)) = heightI (ps.take k) + (rg ps k).2.2 := by rw [rg_eq h]; exact heightI_snoc ps h
theorem height_le {ps : List (Int × Int × Int)} (h : ps.all ringT = true) : ∀ n k, k + n = ps.length → heightI (ps.take k) ≤ heightI ps := by
  intro n
  induction n with
  | zero => intro k hk; rw [List.take_of_length_le (by omega)]; exact Int.le_refl _
  | succ n ih =>
    intro k hk
    have h1 := ih (k + 1) (by omega)
    have h2 := heightI_snocg ps (k := k) (by omega)
    have h3 := ringT_t (all_at h (k := k) (by omega))
    omega
theorem cenK_bd {rs : List (Int × Int × Int)} (h : rs.all ringT = true) (hh : heightI rs ≤ 300000) : ∀ k, k ≤ rs.length → 0 ≤ cenK rs k ∧ cenK rs k ≤ 12723451650000000 * k := by
  intro k
  induction k with
  | zero => intro _; simp [cenK]
  | succ k ih =>
    intro hk
    have h1 := ih (by omega)
    have h2 := height_bd h k
    have h3 := height_le h (rs.length - (k + 1)) (k + 1) (by omega)
    rw [heightI_snocg rs (by omega)] at h3
    have h4 := ringT_t (all_at h (k := k) (by omega))
    have h5 := rvolT_bd (all_at h (k := k) (by omega))
    have h6 := mul_bd (a := rvolT (rg rs k)) (b := 2 * heightI (rs.take k) + (rg rs k).2.2) (A := 21205752750) (B := 600000) h5.1 (by omega) h5.2 (by omega)
    rw [cenK]
    have e : (12723451650000000 : Int) * ((k + 1 : Nat) : Int) = 12723451650000000 * k + 12723451650000000 := by rw [Int.natCast_add, Int.mul_add]; simp
    omega
theorem rvolT_pos {p : Int × Int × Int} (h : ringT p = true) : 1 ≤ rvolT p := by
  have r := ringT_t h
  have s := secI_bd (o := p.1) (i := p.2.1) (h := p.2.2) h
  have hs : 90000 ≤ secI p.1 p.2.1 := by
    unfold secI
    have e : p.1 * p.1 - p.2.1 * p.2.1 = (p.1 - p.2.1) * (p.1 + p.2.1) := by rw [Int.sub_mul, Int.mul_add, Int.mul_add, Int.mul_comm p.2.1 p.1]; omega
    rw [e]
    have h1 : (p.1 - p.2.1) * 500 ≤ (p.1 - p.2.1) * (p.1 + p.2.1) := Int.mul_le_mul_of_nonneg_left (by omega) (by omega)
    rcases Int.lt_or_le p.2.1 400 with h2 | h2
    · -- a thick ring
      have h3 : (p.1 - p.2.1) * (p.1 - p.2.1) ≤ (p.1 - p.2.1) * (p.1 + p.2.1) := Int.mul_le_mul_of_nonneg_left (by omega) (by omega)
      have h4 : 100 * (p.1 + p.2.1) ≤ (p.1 - p.2.1) * (p.1 + p.2.1) := Int.mul_le_mul_of_nonneg_right (by omega) (by omega)
      rcases Int.lt_or_le (p.1 - p.2.1) 180 with h5 | h5
      · have : (p.1 - p.2.1) * 820 ≤ (p.1 - p.2.1) * (p.1 + p.2.1) := Int.mul_le_mul_of_nonneg_left (by omega) (by omega)
        have : 100 * 820 ≤ (p.1 - p.2.1) * 820 := Int.mul_le_mul_of_nonneg_right (by omega) (by omega)
        -- p.1 ≥ 500, p.2.1 > p.1 - 180 ≥ 320
        have h7 : (p.1 - p.2.1) * (500 + 500 - (p.1 - p.2.1)) ≤ (p.1 - p.2.1) * (p.1 + p.2.1) := Int.mul_le_mul_of_nonneg_left (by omega) (by omega)
        have h8 : 0 ≤ (p.1 - p.2.1 - 100) * (900 - (p.1 - p.2.1)) := Int.mul_nonneg (by omega) (by omega)
        generalize p.1 - p.2.1 = d at *
        have h9 : (d - 100) * (900 - d) = d * (500 + 500 - d) - 90000 := by simp only [Int.sub_mul, Int.mul_sub, Int.mul_add]; omega
        omega
      · omega
    · have : 100 * 900 ≤ (p.1 - p.2.1) * 900 := Int.mul_le_mul_of_nonneg_right (by omega) (by omega)
      have : (p.1 - p.2.1) * 900 ≤ (p.1 - p.2.1) * (p.1 + p.2.1) := Int.mul_le_mul_of_nonneg_left (by omega) (by omega)
      omega
  unfold rvolT tubeI
  generalize secI p.1 p.2.1 = sq at *
  have h1 : 90000 * 10 ≤ sq * p.2.2 := by
    have := Int.mul_le_mul hs r.2.2.2.2.1 (by omega) (by omega : (0 : Int) ≤ sq)
    exact this
  have m : ∀ a b c : Int, 0 ≤ a → 1 ≤ b → 2 * b * c ≤ 2 * a + b → c ≤ rnd a b := fun a b c ha hb h => by
    unfold rnd; rw [if_neg (by omega)]
    exact (Int.le_ediv_iff_mul_le (by omega)).2 (by rw [Int.mul_comm]; exact h)
  have h2 := m (sq * p.2.2) 1000000 1 (by omega) (by omega) (by omega)
  exact m _ 1000000 1 (by omega) (by omega) (by omega)
theorem volI_pos {rs : List (Int × Int × Int)} (h : rs.all ringT = true) (hl : 1 ≤ rs.length) : 1 ≤ volI rs := by
  unfold volI fsum
  match rs, hl, h with
  | r :: rs, _, h =>
    simp only [List.all_cons, Bool.and_eq_true] at h
    have h1 := rvolT_pos h.1
    have h2 := fsum_bd (f := rvolT) (by omega) (fun p => rvolT_bd) h.2 rs.length
    rw [List.take_length] at h2
    unfold fsum at h2
    simp only [List.map_cons, List.sum_cons]
    omega
def centreI (nm : ByteArray) (rs : List (Int × Int × Int)) : Int × Int := if profB nm rs then (rnd (cenK rs rs.length) (2 * volI rs), 0) else (0, 1)

end Go.Proofs.YtgdadbmhdljcdaaGreatDoor

/- Masses: the contracts. -/
namespace Go.Proofs.YtgdadbmhdljcdaaGreatDoor
set_option linter.unusedVariables false
open Go.RowKit Go.Proofs.Bell Go.BigFrame

theorem massI_bd {rs : List (Int × Int × Int)} {d : Int} (h : rs.all ringT = true) (hl : rs.length ≤ 32) (h1 : 0 ≤ d) (h2 : d ≤ 20000) : 0 ≤ volI rs * d ∧ volI rs * d ≤ 13571681760000000 := by
  have a := volI_bd h hl
  have b := mul_bd a.1 h1 a.2 h2
  omega

end Go.Proofs.YtgdadbmhdljcdaaGreatDoor

/- The masses of the rings. -/
namespace Go.Proofs.YtgdadbmhdljcdaaGreatDoor
set_option linter.unusedVariables false
open Go.RowKit Go.Proofs.Bell Go.BigFrame

theorem masses_snoc (ps : List (Int × Int × Int)) (d : Int) {k : Nat} (h : k < ps.length) : massesI (ps.take (k + 1)) d = massesI (ps.take k) d ++ [rmassT d (rg ps k)] := by
  unfold massesI; rw [rg_eq h, List.take_succ_eq_append_getElem h, List.map_append]; rfl
theorem masses_len (ps : List (Int × Int × Int)) (d : Int) (k : Nat) : (massesI (ps.take k) d).length ≤ k := by
  unfold massesI; rw [List.length_map, List.length_take]; omega

theorem RetI2.nil {w w' : World} {c : Value} (h : Below w.heap.size w w') : RetI2 [] c w (.returned (.tuple #[.slice none 0 0, c])) w' := ⟨_, rfl, World.ownsRow_nil _ _ _ _, h⟩
theorem ringMassesI_len (nm : ByteArray) (ps : List (Int × Int × Int)) (d : Int) : (ringMassesI nm ps d).1.length ≤ 32 := by
  unfold ringMassesI
  split
  · rename_i h
    obtain ⟨hp, _, _⟩ := denseI_zero h
    have := (profB_t hp).2.1
    simp [massesI]; exact this
  · simp

end Go.Proofs.YtgdadbmhdljcdaaGreatDoor

