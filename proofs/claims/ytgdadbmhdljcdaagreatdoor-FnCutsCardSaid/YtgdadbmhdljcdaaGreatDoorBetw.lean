/- The cuts between two profiles: plain. -/
import Derived.Test.YtgdadbmhdljcdaaGreatDoorApply2
import Derived.Test.YtgdadbmhdljcdaaGreatDoorEqR
namespace Go.Proofs.YtgdadbmhdljcdaaGreatDoor
set_option linter.unusedVariables false
open Go.RowKit Go.Proofs.Bell Go.BigFrame

def stepAt (ps qs : List (Int × Int × Int)) (zs : List Int) (z : Nat) : Int := ((rg qs (zs.getD z 0).toNat).2.1 - (rg ps (zs.getD z 0).toNat).2.1).tdiv 10
def stepsK (ps qs : List (Int × Int × Int)) (zs : List Int) : Nat → List Int
  | 0 => []
  | k + 1 => stepsK ps qs zs k ++ [stepAt ps qs zs k]
theorem stepsK_len (ps qs : List (Int × Int × Int)) (zs : List Int) : ∀ k, (stepsK ps qs zs k).length = k
  | 0 => rfl
  | k + 1 => by rw [stepsK, List.length_append, stepsK_len ps qs zs k]; rfl
theorem stepsK_at (ps qs : List (Int × Int × Int)) (zs : List Int) : ∀ n k, k < n → (stepsK ps qs zs n).getD k 0 = stepAt ps qs zs k
  | 0, _, h => absurd h (Nat.not_lt_zero _)
  | n + 1, k, h => by
    have hl := stepsK_len ps qs zs n
    rw [stepsK]
    rcases Nat.lt_or_ge k n with h1 | h1
    · rw [← stepsK_at ps qs zs n k h1]
      simp only [List.getD]
      rw [List.getElem?_append_left (by omega)]
    · obtain rfl : k = n := by omega
      simp only [List.getD]
      rw [List.getElem?_append_right (by omega), hl]
      simp
theorem stepsK_out (ps qs : List (Int × Int × Int)) (zs : List Int) (n k : Nat) (h : n ≤ k) : (stepsK ps qs zs n).getD k 0 = 0 := by
  simp only [List.getD]
  rw [List.getElem?_eq_none (by rw [stepsK_len]; exact h)]
  rfl
def stepsB (ps qs : List (Int × Int × Int)) (zs : List Int) : Bool := (List.range zs.length).all (fun z => inB (stepAt ps qs zs z) 0 20)
def betI (nm : ByteArray) (ps : List (Int × Int × Int)) (nm' : ByteArray) (qs : List (Int × Int × Int)) (zs : List Int) : List (Int × Int) × Int :=
  if vzB nm ps zs && profB nm' qs then
    if (nm.toList == nm'.toList) && decide (ps.length = qs.length) then
      if stepsB ps qs zs && eqT (mapK (turnT zs (stepsK ps qs zs zs.length)) ps ps.length) qs then (cutsL (stepsK ps qs zs zs.length), 0) else ([], 3)
    else ([], 7)
  else ([], 1)
theorem betI_len (nm : ByteArray) (ps : List (Int × Int × Int)) (nm' : ByteArray) (qs : List (Int × Int × Int)) (zs : List Int) : (betI nm ps nm' qs zs).1.length ≤ 8 := by
  unfold betI
  split
  · rename_i h
    split
    · split
      · have h2 : vzB nm ps zs = true := by simp only [Bool.and_eq_true] at h; exact h.1
        have h3 := (zones_len (zs := zs) (m := ps.length) (by simp only [vzB, Bool.and_eq_true] at h2; exact h2.2)).2
        have := cutsL_len (stepsK ps qs zs zs.length)
        rw [stepsK_len] at this
        simp only; omega
      · simp
    · simp
  · simp
theorem stepsB_t {ps qs : List (Int × Int × Int)} {zs : List Int} (h : stepsB ps qs zs = true) (k : Nat) : 0 ≤ (stepsK ps qs zs zs.length).getD k 0 ∧ (stepsK ps qs zs zs.length).getD k 0 ≤ 1000000000000 := by
  rcases Nat.lt_or_ge k zs.length with h1 | h1
  · rw [stepsK_at _ _ _ _ _ h1]
    have := List.all_eq_true.1 h k (List.mem_range.2 h1)
    simp only [inB, Bool.and_eq_true, decide_eq_true_eq] at this
    omega
  · rw [stepsK_out _ _ _ _ _ h1]; omega
theorem stepsB_of {ps qs : List (Int × Int × Int)} {zs : List Int} (h : ∀ j, j < zs.length → inB (stepAt ps qs zs j) 0 20 = true) : stepsB ps qs zs = true :=
  List.all_eq_true.2 fun j hj => h j (List.mem_range.1 hj)
theorem stepsB_no {ps qs : List (Int × Int × Int)} {zs : List Int} {j : Nat} (hj : j < zs.length) (h : inB (stepAt ps qs zs j) 0 20 = false) : stepsB ps qs zs = false :=
  List.all_eq_false.2 ⟨j, List.mem_range.2 hj, by simp [h]⟩

def padK (ps qs : List (Int × Int × Int)) (zs : List Int) (k : Nat) : List Int := stepsK ps qs zs k ++ List.replicate (8 - k) 0
theorem padK_len (ps qs : List (Int × Int × Int)) (zs : List Int) {k : Nat} (h : k ≤ 8) : (padK ps qs zs k).length = 8 := by simp [padK, stepsK_len]; omega
theorem padK_zero (ps qs : List (Int × Int × Int)) (zs : List Int) : padK ps qs zs 0 = List.replicate 8 0 := rfl
theorem padK_set (ps qs : List (Int × Int × Int)) (zs : List Int) {k : Nat} (h : k < 8) : (padK ps qs zs k).set k (stepAt ps qs zs k) = padK ps qs zs (k + 1) := by
  unfold padK
  have hl := stepsK_len ps qs zs k
  rw [show 8 - k = (8 - (k + 1)) + 1 by omega, List.replicate_succ, List.set_append_right _ _ (by omega), hl, Nat.sub_self, List.set_cons_zero, stepsK, List.append_assoc]
  rfl
theorem pad_getD (L : List Int) (m j : Nat) : (L ++ List.replicate m 0).getD j 0 = L.getD j 0 := by
  simp only [List.getD]
  rcases Nat.lt_or_ge j L.length with h | h
  · rw [List.getElem?_append_left h]
  · rw [List.getElem?_append_right h, List.getElem?_eq_none (l := L) h, List.getElem?_replicate]
    split <;> rfl
theorem pad_turn (zs L : List Int) (m : Nat) : turnT zs (L ++ List.replicate m 0) = turnT zs L := by
  funext k r
  simp only [turnT, pad_getD]
theorem pad_cutsK (L : List Int) (m : Nat) : ∀ k, cutsK (L ++ List.replicate m 0) k = cutsK L k
  | 0 => rfl
  | k + 1 => by simp only [cutsK, pad_cutsK L m k, pad_getD]
theorem cutsK_more (L : List Int) : ∀ d, cutsK L (L.length + d) = cutsK L L.length
  | 0 => rfl
  | d + 1 => by
    rw [← Nat.add_assoc, cutsK_no, cutsK_more L d]
    simp only [List.getD]
    rw [List.getElem?_eq_none (by omega)]
    simp
theorem pad_cutsL (L : List Int) (m : Nat) : cutsL (L ++ List.replicate m 0) = cutsL L := by
  unfold cutsL
  rw [pad_cutsK, List.length_append, List.length_replicate, cutsK_more]

end Go.Proofs.YtgdadbmhdljcdaaGreatDoor
