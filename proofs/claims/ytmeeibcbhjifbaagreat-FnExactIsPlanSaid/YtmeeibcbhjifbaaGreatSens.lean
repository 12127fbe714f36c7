/- By how much partials become less: plain. -/
import Derived.Test.YtmeeibcbhjifbaaGreatChips
import Derived.Test.YtmeeibcbhjifbaaGreatVD
namespace Go.Proofs.YtmeeibcbhjifbaaGreat
set_option linter.unusedVariables false
open Go.RowKit Go.Proofs.Bell Go.BigFrame

def diffK (a b : List Int) : Nat → List Int
  | 0 => []
  | k + 1 => diffK a b k ++ [a.getD k 0 - b.getD k 0]
theorem diffK_len (a b : List Int) : ∀ k, (diffK a b k).length = k
  | 0 => rfl
  | k + 1 => by rw [diffK, List.length_append, diffK_len a b k]; rfl
def senI (zs : List Int) (ws : List (List Int)) (bs : List Int) (nm : ByteArray) (ps : List (Int × Int × Int)) (zone : Int) : List Int × Int :=
  if modAsk zs ws bs nm ps = 0 then
    if inB zone 0 ((zs.length : Int) - 1) then
      if (applyI nm ps zs [(zone, 1)]).2.2 = 0 then (diffK (rawL ps zs ws bs) (rawL (applyI nm ps zs [(zone, 1)]).2.1 zs ws bs) 5, 0) else ([], 6)
    else ([], 2)
  else ([], modAsk zs ws bs nm ps)
theorem senI_len (zs : List Int) (ws : List (List Int)) (bs : List Int) (nm : ByteArray) (ps : List (Int × Int × Int)) (zone : Int) : (senI zs ws bs nm ps zone).1.length ≤ 5 := by
  unfold senI
  split
  · split
    · split
      · simp [diffK_len]
      · simp
    · simp
  · simp
theorem rawK_at (walls : List Int) (ws : List (List Int)) (bs : List Int) (d : Int) : ∀ n k, k < n → (rawK walls ws bs d n).getD k 0 = rnd (bs.getD k 0 * momK walls (ws.getD k []) walls.length) d
  | 0, _, h => absurd h (Nat.not_lt_zero _)
  | n + 1, k, h => by
    have hl := rawK_len walls ws bs d n
    rw [rawK]
    rcases Nat.lt_or_ge k n with h1 | h1
    · rw [← rawK_at walls ws bs d n k h1]
      simp only [List.getD]
      rw [List.getElem?_append_left (by omega)]
    · obtain rfl : k = n := by omega
      simp only [List.getD]
      rw [List.getElem?_append_right (by omega), hl]
      simp
theorem raw_bd {ps : List (Int × Int × Int)} {zs : List Int} {ws : List (List Int)} {bs : List Int} (hmb : modelB zs ws bs = true) (hl : 1 ≤ ps.length) (hal : ps.all ringT = true) (hzb : zonesB zs ((ps.length : Int) - 1) = true) (k : Nat) (hk : k < 5) :
    0 ≤ (rawL ps zs ws bs).getD k 0 ∧ (rawL ps zs ws bs).getD k 0 ≤ 1200000000000000000 := by
  obtain ⟨_, hz8, _, _, _⟩ := modelB_t hmb
  obtain ⟨_, hrb, hb1, hb2⟩ := row_bd hmb k hk
  have hm := momK_bd (walls := zwK ps zs zs.length) (row := ws.getD k []) (zw_bd hal hzb) hrb (zwK ps zs zs.length).length
  have hwl := zwK_len ps zs zs.length
  have hp := base_bd hb1 hb2 hm.1 (by omega)
  have hlb := lipI_bd hl hal
  unfold rawL
  rw [rawK_at _ _ _ _ _ _ hk]
  refine ⟨rnd_nonneg hp.1 hlb.1, ?_⟩
  have := rnd_mb (a := bs.getD k 0 * momK (zwK ps zs zs.length) (ws.getD k []) (zwK ps zs zs.length).length) (b := lipI ps) (m := 1200000000000000000) hp.1 (by have := Int.mul_le_mul_of_nonneg_left hlb.1 (show (0 : Int) ≤ 1200000000000000000 by omega); omega) hlb.1 (by omega)
  exact this.2
theorem applyI_zones {nm : ByteArray} {ps : List (Int × Int × Int)} {zs : List Int} {cs : List (Int × Int)} (h : (applyI nm ps zs cs).2.2 = 0) : profB nm (applyI nm ps zs cs).2.1 = true ∧ (applyI nm ps zs cs).1 = nm := by
  by_cases t0 : cutAsk nm ps zs cs = 0
  · have he : applyI nm ps zs cs = doneR nm (mapK (turnT zs (sumsOf cs)) ps ps.length) := by simp [applyI, t0]
    rw [he] at h ⊢
    obtain ⟨h1, h2, h3⟩ := doneR_ok h
    rw [h3]
    exact ⟨h1, h2⟩
  · have he : applyI nm ps zs cs = (⟨#[]⟩, [], cutAsk nm ps zs cs) := by simp [applyI, t0]
    rw [he] at h
    exact absurd h t0

end Go.Proofs.YtmeeibcbhjifbaaGreat
