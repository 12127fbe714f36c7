/- Zones: rising numbers, whether they are zones, the zone of a ring. -/
import Derived.Test.YtpaciehgafobfaaNums
namespace Go.Proofs.Ytpaciehgafobfaa
set_option linter.unusedVariables false
open Go.RowKit Go.Proofs.Bell Go.BigFrame

theorem range_step {f : Nat → Bool} {k : Nat} (h : (List.range k).all f = true) (h1 : f k = true) : (List.range (k + 1)).all f = true := by
  rw [List.range_succ, List.all_append, h]; simp [h1]
theorem range_false {f : Nat → Bool} {n k : Nat} (hk : k < n) (h1 : f k = false) : (List.range n).all f = false := by
  rw [List.all_eq_false]; exact ⟨k, List.mem_range.2 hk, by rw [h1]; exact Bool.false_ne_true⟩

/-- the number at `k` lies within bounds and is greater than the one before -/
def riseAt (zs : List Int) (lo hi : Int) (k : Nat) : Bool := inB (zs.getD k 0) lo hi && (k == 0 || decide (zs.getD (k - 1) 0 < zs.getD k 0))
def risesB (zs : List Int) (lo hi : Int) : Bool := (List.range zs.length).all (riseAt zs lo hi)
/-- they are zones of `hi + 1` rings -/
def zonesB (zs : List Int) (hi : Int) : Bool := inB zs.length 1 8 && zs.getD 0 0 == 0 && risesB zs 0 hi

theorem getD_eq {zs : List Int} {k : Nat} (h : k < zs.length) : zs.getD k 0 = zs[k] := by simp [List.getD, h]

end Go.Proofs.Ytpaciehgafobfaa
