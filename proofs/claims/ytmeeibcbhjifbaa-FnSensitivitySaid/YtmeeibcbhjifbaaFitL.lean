/- A model fitted to a sound: the moment is never nought. -/
import Derived.Test.YtmeeibcbhjifbaaCentL
import Derived.Test.YtmeeibcbhjifbaaRaw
namespace Go.Proofs.Ytmeeibcbhjifbaa
set_option linter.unusedVariables false
open Go.RowKit Go.Proofs.Bell Go.BigFrame

theorem wsK_lo {ps : List (Int × Int × Int)} (hal : ps.all ringT = true) (a : Nat) : ∀ j, a + j ≤ ps.length → 100 * (j : Int) ≤ wsK ps a j := by
  intro j
  induction j with
  | zero => intro _; simp [wsK]
  | succ j ih =>
    intro h
    have h1 := ih (by omega)
    have r := ringT_t (all_at hal (show a + j < ps.length by omega))
    rw [wsK]
    unfold wallT
    omega
theorem zw_lo {ps : List (Int × Int × Int)} {zs : List Int} (hal : ps.all ringT = true) (h : zonesB zs ((ps.length : Int) - 1) = true) {z : Nat} (hz : z < zs.length) : 1 ≤ (zwK ps zs zs.length).getD z 0 := by
  rw [zw_at ps zs _ _ hz]
  obtain ⟨h1, h2, h3⟩ := zones_at h hz
  have hb := wsK_lo hal (zs.getD z 0).toNat (zEnd zs ps.length z - zs.getD z 0).toNat (by omega)
  generalize wsK ps (zs.getD z 0).toNat (zEnd zs ps.length z - zs.getD z 0).toNat = a at *
  generalize hd : zEnd zs ps.length z - zs.getD z 0 = d at *
  have hda : 100 * d ≤ a := by omega
  unfold rnd
  rw [if_neg (by omega)]
  have : 1 * (2 * d) ≤ 2 * a + d := by omega
  exact (Int.le_ediv_iff_mul_le (by omega)).2 this
theorem momK_lo {walls row : List Int} (hr : ∀ z, 0 ≤ row.getD z 0) : ∀ k : Nat, (∀ z, z < k → 1 ≤ walls.getD z 0) → sumK row k ≤ momK walls row k := by
  intro k
  induction k with
  | zero => intro _; simp [sumK, momK]
  | succ k ih =>
    intro hw
    have h1 := ih (fun z hz => hw z (by omega))
    have h2 : row.getD k 0 * 1 ≤ row.getD k 0 * walls.getD k 0 := Int.mul_le_mul_of_nonneg_left (hw k (by omega)) (hr k)
    rw [sumK, momK]
    omega
theorem sum_nonneg {row : List Int} (h : ∀ z ∈ row, 0 ≤ z) : 0 ≤ row.sum := by
  induction row with
  | nil => simp
  | cons a r ih =>
    have h1 := h a (List.mem_cons_self ..)
    have h2 := ih (fun z hz => h z (List.mem_cons_of_mem _ hz))
    simp only [List.sum_cons]
    omega
theorem mom_pos {ps : List (Int × Int × Int)} {zs : List Int} {ws : List (List Int)} {bs : List Int} (hal : ps.all ringT = true) (h : zonesB zs ((ps.length : Int) - 1) = true) (hm : modelB zs ws bs = true) {k : Nat} (hk : k < 5) :
    1 ≤ momK (zwK ps zs zs.length) (ws.getD k []) zs.length := by
  obtain ⟨hl, hrb, _, _⟩ := row_bd hm k hk
  obtain ⟨_, _, _, _, h5⟩ := modelB_t hm
  have hr := h5 k hk
  simp only [okRow, Bool.and_eq_true, Bool.not_eq_true', beq_eq_false_iff_ne] at hr
  have hlo := momK_lo (walls := zwK ps zs zs.length) (row := ws.getD k []) (fun z => (hrb z).1) zs.length (fun z hz => zw_lo hal h hz)
  have hs : sumK (ws.getD k []) zs.length = (ws.getD k []).sum := by rw [← hl, sumK_take _ _ (Nat.le_refl _), List.take_length]
  have hn : 0 ≤ (ws.getD k []).sum := sum_nonneg (fun z hz => by
    obtain ⟨i, hi, rfl⟩ := List.mem_iff_getElem.1 hz
    have := (hrb i).1
    rwa [getD_eq hi] at this)
  have hne := hr.2
  omega

end Go.Proofs.Ytmeeibcbhjifbaa
