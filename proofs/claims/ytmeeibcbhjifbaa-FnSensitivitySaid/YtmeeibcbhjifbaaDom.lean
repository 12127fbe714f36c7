/- The dominant zone. -/
import Derived.Test.YtmeeibcbhjifbaaUE
namespace Go.Proofs.Ytmeeibcbhjifbaa
set_option linter.unusedVariables false
open Go.RowKit Go.Proofs.Bell Go.BigFrame

/-- the first place of the greatest of the first `k` numbers -/
def argK (zs : List Int) : Nat → Nat
  | 0 => 0
  | k + 1 => if zs.getD (argK zs k) 0 < zs.getD k 0 then k else argK zs k
theorem argK_lt {zs : List Int} {n : Nat} (hn : 1 ≤ n) : ∀ k, k ≤ n → argK zs k < n
  | 0, _ => by simp [argK]; omega
  | k + 1, h => by
    have := argK_lt (zs := zs) hn k (by omega)
    simp only [argK]
    split <;> omega
theorem argK_one (zs : List Int) : argK zs 1 = 0 := by simp [argK]
theorem arg_start (zs : List Int) : Value.int .i64 0 = .int .i64 ((argK zs 1 : Nat) : Int) := by rw [argK_one]; rfl
theorem argK_spec (zs : List Int) : ∀ k, 1 ≤ k → zs.getD (argK zs k) 0 = maxK zs k ∧ (∀ i, i < argK zs k → zs.getD i 0 < maxK zs k) ∧ argK zs k < k ∧ ∀ i, i < k → zs.getD i 0 ≤ maxK zs k
  | 0, h => by omega
  | 1, _ => by rw [argK_one, maxK_one]; exact ⟨rfl, fun i hi => by omega, by omega, fun i hi => by rw [show i = 0 by omega]; exact Int.le_refl _⟩
  | k + 2, _ => by
    obtain ⟨h1, h2, h3, h4⟩ := argK_spec zs (k + 1) (by omega)
    rw [argK, maxK, h1]
    by_cases h : maxK zs (k + 1) < zs.getD (k + 1) 0
    · rw [if_pos h, if_pos h]
      exact ⟨rfl, fun i hi => by have := h4 i hi; omega, by omega, fun i hi => by
        rcases Nat.lt_or_ge i (k + 1) with h' | h'
        · have := h4 i h'; omega
        · rw [show i = k + 1 by omega]; exact Int.le_refl _⟩
    · rw [if_neg h, if_neg h]
      exact ⟨h1, h2, by omega, fun i hi => by
        rcases Nat.lt_or_ge i (k + 1) with h' | h'
        · exact h4 i h'
        · rw [show i = k + 1 by omega]; omega⟩

def domI (zs : List Int) (ws : List (List Int)) (bs : List Int) (k : Int) : Int × Int :=
  if modelB zs ws bs then (if inB k 1 5 then ((argK (ws.getD (k - 1).toNat []) (ws.getD (k - 1).toNat []).length : Int), 0) else (0, 2)) else (0, 1)
theorem modelB_t {zs : List Int} {ws : List (List Int)} {bs : List Int} (h : modelB zs ws bs = true) : 1 ≤ zs.length ∧ zs.length ≤ 8 ∧ ws.length = 5 ∧ bs.length = 5 ∧ ∀ k, k < 5 → okRow zs.length (ws.getD k []) (bs.getD k 0) = true := by
  unfold modelB at h
  simp only [Bool.and_eq_true, decide_eq_true_eq] at h
  obtain ⟨⟨⟨h1, h2⟩, h3⟩, h4⟩ := h
  obtain ⟨a, b⟩ := zonesB_len h1
  exact ⟨a, b, h2, h3, fun k hk => List.all_eq_true.1 h4 k (List.mem_range.2 hk)⟩
theorem okRow_len {n : Nat} {row : List Int} {b : Int} (h : okRow n row b = true) : row.length = n := by
  unfold okRow at h
  simp only [Bool.and_eq_true, decide_eq_true_eq] at h
  exact h.1.1.2

end Go.Proofs.Ytmeeibcbhjifbaa
