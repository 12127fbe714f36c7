/- Cuts: validity and sums. -/
import Derived.Test.YtpaciehgafobfaaCuts
namespace Go.Proofs.Ytpaciehgafobfaa
set_option linter.unusedVariables false
open Go.RowKit Go.Proofs.Bell Go.BigFrame

def cutB (p : Int × Int) : Bool := inB p.1 0 7 && inB p.2 1 20
def cutsB (ps : List (Int × Int)) : Bool := ps.all cutB && decide (ps.length ≤ 64)

theorem all_take_step {α : Type} {p : α → Bool} {xs : List α} {k : Nat} (h : (xs.take k).all p = true) (hk : k < xs.length) (h1 : p xs[k] = true) : (xs.take (k + 1)).all p = true := by
  rw [List.take_succ_eq_append_getElem hk, List.all_append, h]; simp [h1]
theorem all_false_of {α : Type} {p : α → Bool} {xs : List α} {k : Nat} (hk : k < xs.length) (h1 : p xs[k] = false) : xs.all p = false := by
  rw [List.all_eq_false]; exact ⟨xs[k], List.getElem_mem hk, by rw [h1]; exact Bool.false_ne_true⟩

/-- where the first element lies that meets `p`; -1 where there is none -/
def findI {α : Type} (p : α → Bool) (xs : List α) : Int := match xs.findIdx? p with | some k => k | none => -1
theorem findI_none {α : Type} {p : α → Bool} {xs : List α} (h : xs.all (fun x => !p x) = true) : findI p xs = -1 := by
  unfold findI
  rw [List.findIdx?_eq_none_iff.2 (fun x hx => by simpa using List.all_eq_true.1 h x hx)]
theorem findI_some {α : Type} {p : α → Bool} {xs : List α} {k : Nat} (h : (xs.take k).all (fun x => !p x) = true) (hk : k < xs.length) (h1 : p xs[k] = true) : findI p xs = k := by
  unfold findI
  have : xs.findIdx? p = some k := by
    rw [List.findIdx?_eq_some_iff_getElem]
    refine ⟨hk, h1, fun j hj => ?_⟩
    have := List.all_eq_true.1 h xs[j] (by rw [List.mem_take_iff_getElem]; exact ⟨j, by omega, rfl⟩)
    simpa using this
  rw [this]
theorem findI_lt {α : Type} {p : α → Bool} {xs : List α} : findI p xs < 0 ↔ xs.any p = false := by
  unfold findI
  cases h : xs.findIdx? p with
  | none => simp only [List.findIdx?_eq_none_iff] at h; simp [List.any_eq_false]; exact h
  | some k =>
    rw [List.findIdx?_eq_some_iff_getElem] at h
    obtain ⟨hk, h1, _⟩ := h
    simp only [List.any_eq_false]
    constructor
    · intro h; omega
    · intro h; exact absurd h1 (h _ (List.getElem_mem hk))

theorem any_not {α : Type} (p : α → Bool) (xs : List α) : xs.any (fun x => !p x) = !xs.all p := by
  induction xs with
  | nil => rfl
  | cons x xs ih => simp [ih, Bool.not_and]

end Go.Proofs.Ytpaciehgafobfaa
