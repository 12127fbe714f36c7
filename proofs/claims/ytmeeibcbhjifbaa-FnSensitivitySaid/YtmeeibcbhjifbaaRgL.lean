/- Rings one by one. -/
import Derived.Test.YtmeeibcbhjifbaaGE
namespace Go.Proofs.Ytmeeibcbhjifbaa
set_option linter.unusedVariables false
open Go.RowKit Go.Proofs.Bell Go.BigFrame

theorem rg_ext {xs ys : List (Int × Int × Int)} (h : xs.length = ys.length) (hk : ∀ k, k < ys.length → rg xs k = rg ys k) : xs = ys := by
  refine List.ext_getElem h fun k h1 h2 => ?_
  have := hk k h2
  rwa [rg_eq h1, rg_eq h2] at this
theorem rg_snoc {rs : List (Int × Int × Int)} (x : Int × Int × Int) {k : Nat} (h : k < rs.length) : rg (rs ++ [x]) k = rg rs k := by simp [rg, List.getD, List.getElem?_append_left h]
theorem rg_end (rs : List (Int × Int × Int)) (x : Int × Int × Int) : rg (rs ++ [x]) rs.length = x := by simp [rg, List.getD]
theorem mapK_rg (T : Nat → Int × Int × Int → Int × Int × Int) (ps : List (Int × Int × Int)) : ∀ n k, k < n → rg (mapK T ps n) k = T k (rg ps k)
  | 0, k, h => by omega
  | n + 1, k, h => by
    rw [mapK]
    have hl := mapK_len T ps n
    rcases Nat.lt_or_ge k n with h1 | h1
    · rw [rg_snoc _ (by omega)]; exact mapK_rg T ps n k h1
    · obtain rfl : k = n := by omega
      have := rg_end (mapK T ps k) (T k (rg ps k))
      rwa [hl] at this
theorem mapK_id {T : Nat → Int × Int × Int → Int × Int × Int} {ps : List (Int × Int × Int)} (h : ∀ k, k < ps.length → T k (rg ps k) = rg ps k) : mapK T ps ps.length = ps :=
  rg_ext (mapK_len _ _ _) fun k hk => by rw [mapK_rg _ _ _ _ hk, h k hk]
theorem mapK_h {T : Nat → Int × Int × Int → Int × Int × Int} {ps : List (Int × Int × Int)} (h : ∀ k, k < ps.length → (T k (rg ps k)).2.2 = (rg ps k).2.2) : heightI (mapK T ps ps.length) = heightI ps := by
  unfold heightI
  congr 1
  have hl := mapK_len T ps ps.length
  refine List.ext_getElem (by simp [hl]) fun k h1 h2 => ?_
  simp only [List.length_map] at h1 h2
  rw [List.getElem_map, List.getElem_map, ← rg_eq h1, ← rg_eq h2, mapK_rg _ _ _ _ h2, h k h2]
theorem profB_iff (nm : ByteArray) (rs : List (Int × Int × Int)) : profB nm rs = true ↔ nameB nm = true ∧ 1 ≤ rs.length ∧ rs.length ≤ 32 ∧ (∀ k, k < rs.length → ringT (rg rs k) = true) ∧ (∀ k, k < rs.length → joinAt rs k = true) ∧ heightI rs ≤ 300000 := by
  unfold profB
  rw [← all_rg rs ringT]
  simp only [Bool.and_eq_true, decide_eq_true_eq, List.all_eq_true, List.mem_range]
  constructor
  · rintro ⟨⟨⟨⟨⟨a, b⟩, c⟩, d⟩, e⟩, f⟩; exact ⟨a, b, c, d, e, f⟩
  · rintro ⟨a, b, c, d, e, f⟩; exact ⟨⟨⟨⟨⟨a, b⟩, c⟩, d⟩, e⟩, f⟩

end Go.Proofs.Ytmeeibcbhjifbaa
