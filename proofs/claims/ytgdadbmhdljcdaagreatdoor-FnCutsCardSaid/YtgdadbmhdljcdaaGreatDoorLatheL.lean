/- The lathe: the plain laws. -/
import Derived.Test.YtgdadbmhdljcdaaGreatDoorChips2
import Derived.Test.YtgdadbmhdljcdaaGreatDoorRgL
import Derived.Test.YtgdadbmhdljcdaaGreatDoorRoom
namespace Go.Proofs.YtgdadbmhdljcdaaGreatDoor
set_option linter.unusedVariables false
open Go.RowKit Go.Proofs.Bell Go.BigFrame

theorem applyI_form {nm : ByteArray} {ps : List (Int × Int × Int)} {zs : List Int} {cs : List (Int × Int)} (h : (applyI nm ps zs cs).2.2 = 0) :
    (∃ qs, applyI nm ps zs cs = (nm, qs, 0) ∧ qs.length = ps.length ∧ profB nm qs = true ∧ ∀ k, k < ps.length → (rg qs k).1 = (rg ps k).1 ∧ (rg qs k).2.2 = (rg ps k).2.2 ∧ (rg ps k).2.1 ≤ (rg qs k).2.1) := by
  by_cases t0 : cutAsk nm ps zs cs = 0
  · have he : applyI nm ps zs cs = doneR nm (mapK (turnT zs (sumsOf cs)) ps ps.length) := by simp [applyI, t0]
    rw [he] at h ⊢
    obtain ⟨h1, h2, h3⟩ := doneR_ok h
    obtain ⟨_, t2, _⟩ := cutAsk_ok t0
    refine ⟨_, doneR_t h1, mapK_len _ _ _, h1, fun k hk => ?_⟩
    rw [mapK_rg _ _ _ _ hk]
    have := (sums_bd t2 (zoneI zs k)).1
    exact ⟨rfl, rfl, by simp only [turnT]; omega⟩
  · have he : applyI nm ps zs cs = (⟨#[]⟩, [], cutAsk nm ps zs cs) := by simp [applyI, t0]
    rw [he] at h
    exact absurd h t0
theorem mostF_spec (ok : Nat → Bool) : ∀ f n, (∀ s, n < s → s ≤ mostF ok f n → ok s = true) ∧ (mostF ok f n < n + f → ok (mostF ok f n + 1) = false) ∧ n ≤ mostF ok f n
  | 0, n => ⟨fun s h1 h2 => by simp [mostF] at h2; omega, fun h => by simp [mostF] at h, Nat.le_refl _⟩
  | f + 1, n => by
    obtain ⟨h1, h2, h3⟩ := mostF_spec ok f (n + 1)
    unfold mostF
    by_cases e : ok (n + 1) = true
    · rw [if_pos e]
      refine ⟨fun s q1 q2 => ?_, fun q => h2 (by omega), by omega⟩
      rcases Nat.lt_or_ge (n + 1) s with q | q
      · exact h1 s q q2
      · obtain rfl : s = n + 1 := by omega
        exact e
    · rw [if_neg e]
      exact ⟨fun s q1 q2 => by omega, fun _ => by simpa using e, Nat.le_refl _⟩
theorem mostI_spec (nm : ByteArray) (ps : List (Int × Int × Int)) (zs : List Int) (z : Nat) : mostI nm ps zs z ≤ 20 ∧ (0 < mostI nm ps zs z → okSteps nm ps zs z (mostI nm ps zs z) = true) ∧ (mostI nm ps zs z < 20 → okSteps nm ps zs z (mostI nm ps zs z + 1) = false) := by
  obtain ⟨h1, h2, h3⟩ := mostF_spec (okSteps nm ps zs z) 20 0
  have h4 := mostF_le (okSteps nm ps zs z) 20 0
  exact ⟨by unfold mostI; omega, fun h => h1 _ h (Nat.le_refl _), fun h => h2 (by unfold mostI at h; omega)⟩
theorem sums_one (z : Nat) (s : Int) (hz : z < 8) : sumsOf [((z : Int), s)] = oneAt 8 z s := by
  have hl1 := sumsOf_len [((z : Int), s)]
  have hl2 : (oneAt 8 z s).length = 8 := by simp [oneAt]
  refine List.ext_getElem (by rw [hl1, hl2]) fun j h1 h2 => ?_
  have e1 := sumsOf_at [((z : Int), s)] (z := j) (by omega)
  rw [List.getElem?_eq_getElem h1] at e1
  have e2 := oneAt_getD 8 z s hz j
  rw [List.getD_eq_getElem?_getD, List.getElem?_eq_getElem h2] at e2
  simp only [Option.getD_some] at e2
  rw [e2]
  injection e1 with e1
  rw [e1]
  unfold zoneSum
  by_cases e : j = z
  · subst e; simp
  · rw [if_neg e]
    have : ((z : Int) == (j : Int)) = false := by simp; omega
    simp [this]
theorem apply_one {nm : ByteArray} {ps : List (Int × Int × Int)} {zs : List Int} {z s : Nat} (hv : vzB nm ps zs = true) (hz : z < zs.length) (hz8 : zs.length ≤ 8) (h1 : 1 ≤ s) (h2 : s ≤ 20) :
    (applyI nm ps zs [((z : Int), (s : Int))]).2.2 = if okSteps nm ps zs z s then 0 else 6 := by
  have hc : cutAsk nm ps zs [((z : Int), (s : Int))] = 0 := by
    have a1 : cutsB [((z : Int), (s : Int))] = true := by
      simp only [cutsB, List.all_cons, List.all_nil, cutB, Bool.and_true, Bool.and_eq_true]
      exact ⟨⟨inB_mk (by omega), inB_mk (by omega)⟩, by simp⟩
    have a2 : overB zs [((z : Int), (s : Int))] = false := by simp [overB]; omega
    have a3 : (sumsOf [((z : Int), (s : Int))]).all (fun z => decide (z ≤ 20)) = true := by
      rw [sums_one z s (by omega), List.all_eq_true]
      intro x hx
      unfold oneAt at hx
      rcases List.mem_or_eq_of_mem_set hx with e | e
      · have := List.eq_of_mem_replicate e; subst this; rfl
      · subst e; exact decide_eq_true (by omega)
    simp [cutAsk, hv, a1, a2, a3]
  have he : applyI nm ps zs [((z : Int), (s : Int))] = doneR nm (mapK (turn1 zs z s) ps ps.length) := by
    simp only [applyI, hc, if_true]
    rw [sums_one z s (by omega), turnT_one zs 8 z s (by omega)]
  rw [he]
  unfold okSteps
  cases h : profB nm (mapK (turn1 zs z s) ps ps.length)
  · rw [doneR_f h]; rfl
  · rw [doneR_t h]; rfl
theorem roomK_at (nm : ByteArray) (ps : List (Int × Int × Int)) (zs : List Int) : ∀ n k, k < n → (roomK nm ps zs n).getD k 0 = ((mostI nm ps zs k : Nat) : Int)
  | 0, k, h => by omega
  | n + 1, k, h => by
    have hl := roomK_len nm ps zs n
    unfold roomK
    rcases Nat.lt_or_ge k n with e | e
    · have := roomK_at nm ps zs n k e
      rw [← this]
      simp [List.getD, List.getElem?_append_left (show k < (roomK nm ps zs n).length by omega)]
    · obtain rfl : k = n := by omega
      simp [List.getD, List.getElem?_append_right (show (roomK nm ps zs k).length ≤ k by omega), hl]

end Go.Proofs.YtgdadbmhdljcdaaGreatDoor
