/- The centre lies below the top, the moment below that of the greatest radius. -/
import Derived.Test.YtmeeibcbhjifbaaGH
import Derived.Test.YtmeeibcbhjifbaaMom
import Derived.Test.YtmeeibcbhjifbaaRaw
namespace Go.Proofs.Ytmeeibcbhjifbaa
set_option linter.unusedVariables false
open Go.RowKit Go.Proofs.Bell Go.BigFrame

theorem cenK_le {rs : List (Int × Int × Int)} (h : rs.all ringT = true) : ∀ k, k ≤ rs.length → cenK rs k ≤ 2 * heightI rs * fsum rvolT (rs.take k) := by
  intro k
  induction k with
  | zero => intro _; simp [cenK, fsum]
  | succ k ih =>
    intro hk
    have h1 := ih (by omega)
    have h3 := height_le h (rs.length - (k + 1)) (k + 1) (by omega)
    rw [heightI_snocg rs (by omega)] at h3
    have h4 := ringT_t (all_at h (k := k) (by omega))
    have h5 := rvolT_bd (all_at h (k := k) (by omega))
    have h6 : rvolT (rg rs k) * (2 * heightI (rs.take k) + (rg rs k).2.2) ≤ rvolT (rg rs k) * (2 * heightI rs) := Int.mul_le_mul_of_nonneg_left (by omega) h5.1
    rw [cenK, fsum_snoc rvolT rs (by omega), Int.mul_add (2 * heightI rs), Int.mul_comm (2 * heightI rs) (rvolT (rg rs k))]
    omega
theorem centre_le {nm : ByteArray} {rs : List (Int × Int × Int)} (hp : profB nm rs = true) : 0 ≤ (centreI nm rs).1 ∧ (centreI nm rs).1 ≤ heightI rs ∧ (centreI nm rs).2 = 0 := by
  have ht := profB_t hp
  have hal : rs.all ringT = true := by first | exact ht.2.2.2.1 | exact ht.2.2.1
  have hl : 1 ≤ rs.length := by
    unfold profB at hp
    simp only [Bool.and_eq_true, decide_eq_true_eq] at hp
    omega
  have hh : heightI rs ≤ 300000 := by
    unfold profB at hp
    simp only [Bool.and_eq_true, decide_eq_true_eq] at hp
    omega
  have h0 : 0 ≤ heightI rs := by
    have := height_le hal rs.length 0 (by omega)
    simpa [heightI] using this
  have hv := volI_pos hal hl
  have hc := cenK_bd hal hh rs.length (Nat.le_refl _)
  have hk := cenK_le hal rs.length (Nat.le_refl _)
  rw [List.take_length] at hk
  have e : (centreI nm rs) = (rnd (cenK rs rs.length) (2 * volI rs), 0) := by unfold centreI; rw [if_pos hp]
  rw [e]
  have := rnd_mb (a := cenK rs rs.length) (b := 2 * volI rs) (m := heightI rs) hc.1 (by
    have e2 : heightI rs * (2 * volI rs) = 2 * heightI rs * fsum rvolT rs := by
      show heightI rs * (2 * fsum rvolT rs) = _
      rw [Int.mul_left_comm, Int.mul_assoc]
    omega) (by omega) h0
  exact ⟨this.1, this.2, rfl⟩
theorem centre_no {nm : ByteArray} {rs : List (Int × Int × Int)} (hp : profB nm rs = false) : centreI nm rs = (0, 1) := by unfold centreI; rw [if_neg (by simp [hp])]

/-- the greatest outer radius of the first k rings -/
def widK (rs : List (Int × Int × Int)) : Nat → Int
  | 0 => 0
  | k + 1 => if widK rs k < (rg rs k).1 then (rg rs k).1 else widK rs k
theorem widK_bd {rs : List (Int × Int × Int)} (h : rs.all ringT = true) : ∀ k, k ≤ rs.length → 0 ≤ widK rs k ∧ widK rs k ≤ 150000 ∧ ∀ j, j < k → (rg rs j).1 ≤ widK rs k := by
  intro k
  induction k with
  | zero => intro _; exact ⟨by simp [widK], by simp [widK], fun j hj => by omega⟩
  | succ k ih =>
    intro hk
    have h1 := ih (by omega)
    have h4 := ringT_t (all_at h (k := k) (by omega))
    rw [widK]
    refine ⟨by split <;> omega, by split <;> omega, fun j hj => ?_⟩
    rcases Nat.lt_or_ge j k with h2 | h2
    · have := h1.2.2 j h2
      split <;> omega
    · obtain rfl : j = k := by omega
      split <;> omega
theorem radT_le {p : Int × Int × Int} (h : ringT p = true) {w : Int} (hw : p.1 ≤ w) (w1 : w ≤ 150000) : radT p ≤ w * w / 10000 + 1 := by
  have r := ringT_t h
  have b := radT_bd h
  have i0 : p.2.1 * p.2.1 ≤ p.1 * p.1 := Int.mul_le_mul (by omega) (by omega) (by omega) (by omega)
  have i1 : p.1 * p.1 ≤ w * w := Int.mul_le_mul hw hw (by omega) (by omega)
  unfold radT
  unfold rnd
  rw [if_neg (by omega)]
  omega
theorem mom_le {rs : List (Int × Int × Int)} {d : Int} (h1 : 0 ≤ d) (h2 : d ≤ 20000) (h : rs.all ringT = true) : 0 ≤ fsum (momT d) rs ∧ fsum (momT d) rs ≤ (massesI rs d).sum * (widK rs rs.length * widK rs rs.length / 10000 + 1) ∧ 0 ≤ (massesI rs d).sum := by
  have hw := widK_bd h rs.length (Nat.le_refl _)
  have hall : ∀ p ∈ rs, ringT p = true ∧ p.1 ≤ widK rs rs.length := fun p hp => by
    obtain ⟨k, hk, rfl⟩ := List.mem_iff_getElem.1 hp
    exact ⟨List.all_eq_true.1 h _ hp, by have := hw.2.2 k hk; rwa [rg_eq hk] at this⟩
  generalize widK rs rs.length = W at *
  unfold massesI fsum
  clear h
  induction rs with
  | nil => simp
  | cons p rs ih =>
    have h9 := ih ⟨hw.1, hw.2.1, fun j hj => by
      have := hall (rg rs j) (by rw [rg_eq hj]; exact List.mem_cons_of_mem _ (List.getElem_mem _))
      exact this.2⟩ (fun q hq => hall q (List.mem_cons_of_mem _ hq))
    have hp := hall p (List.mem_cons_self ..)
    have m := rmassT_bd h1 h2 hp.1
    have r := radT_bd hp.1
    have q := radT_le hp.1 hp.2 hw.2.1
    have k1 : momT d p ≤ rmassT d p * (W * W / 10000 + 1) := Int.mul_le_mul_of_nonneg_left q m.2.2.1
    have k2 := momT_bd h1 h2 hp.1
    simp only [List.map_cons, List.sum_cons, Int.add_mul]
    omega

/-- a sum as the program makes it -/
def sumK (zs : List Int) : Nat → Int
  | 0 => 0
  | k + 1 => sumK zs k + zs.getD k 0
theorem sumK_take (zs : List Int) : ∀ k, k ≤ zs.length → sumK zs k = (zs.take k).sum := by
  intro k
  induction k with
  | zero => intro _; simp [sumK]
  | succ k ih =>
    intro hk
    rw [sumK, ih (by omega), List.take_succ_eq_append_getElem (by omega), List.sum_append]
    simp [List.getD, List.getElem?_eq_getElem (show k < zs.length by omega)]
theorem sumK_bd {zs : List Int} {M : Int} (hM : 0 ≤ M) (h : ∀ z ∈ zs, 0 ≤ z ∧ z ≤ M) : ∀ k, k ≤ zs.length → 0 ≤ sumK zs k ∧ sumK zs k ≤ M * k := by
  intro k
  induction k with
  | zero => intro _; simp [sumK]
  | succ k ih =>
    intro hk
    have h1 := ih (by omega)
    have h2 := h (zs.getD k 0) (by simp [List.getD, List.getElem?_eq_getElem (show k < zs.length by omega)])
    rw [sumK, Int.natCast_add, Int.mul_add]
    generalize zs.getD k 0 = z at *
    generalize M * (k : Int) = mk at *
    rw [show M * ((1 : Nat) : Int) = M by simp]
    omega

end Go.Proofs.Ytmeeibcbhjifbaa
