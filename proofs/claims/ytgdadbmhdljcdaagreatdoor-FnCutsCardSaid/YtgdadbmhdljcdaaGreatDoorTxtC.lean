/- Cuts as texts: the reference. -/
import Derived.Test.YtgdadbmhdljcdaaGreatDoorGC
import Derived.Test.YtgdadbmhdljcdaaGreatDoorGG
import Derived.Test.YtgdadbmhdljcdaaGreatDoorTH
import Derived.BigQuiet
namespace Go.Proofs.YtgdadbmhdljcdaaGreatDoor
set_option linter.unusedVariables false
open Go.RowKit Go.Proofs.Bell Go.BigFrame

def cutT (p : Int × Int) : List UInt8 := Lib.itoa p.1 ++ [120] ++ Lib.itoa p.2
def cutsT (ps : List (Int × Int)) : List UInt8 := if ps = [] then [45] else Lib.join (ps.map cutT) [44]
def outJ (ps : List (Int × Int)) (k : Nat) : List UInt8 := Lib.join ((ps.take k).map cutT) [44]
theorem outJ_zero (ps : List (Int × Int)) : outJ ps 0 = [] := rfl
theorem outJ_step {ps : List (Int × Int)} {k : Nat} (h : k < ps.length) : outJ ps (k + 1) = if k = 0 then cutT ps[k] else outJ ps k ++ [44] ++ cutT ps[k] := by
  unfold outJ
  rw [List.take_succ_eq_append_getElem h, List.map_append, List.map_cons, List.map_nil, join_snoc]
  by_cases h0 : k = 0
  · subst h0; simp
  · rw [if_neg h0, if_neg (fun e => by have := congrArg List.length e; rw [List.length_map, List.length_take, List.length_nil] at this; omega)]
theorem outJ_end {ps : List (Int × Int)} (h : 1 ≤ ps.length) : cutsT ps = outJ ps ps.length := by
  unfold cutsT outJ
  rw [List.take_length, if_neg (by rintro rfl; simp at h)]
def I64s (n : Int) : Prop := -9223372036854775808 ≤ n ∧ n ≤ 9223372036854775807
theorem cutT_len {p : Int × Int} (h1 : I64s p.1) (h2 : I64s p.2) : 1 ≤ (cutT p).length ∧ (cutT p).length ≤ 43 := by
  have a := Lib.itoa_length_le p.1 h1.1 h1.2
  have b := Lib.itoa_length_le p.2 h2.1 h2.2
  unfold cutT
  simp; omega
theorem outJ_len {ps : List (Int × Int)} (h : ∀ p ∈ ps, I64s p.1 ∧ I64s p.2) : ∀ k, k ≤ ps.length → (outJ ps k).length ≤ 44 * k
  | 0, _ => by simp [outJ_zero]
  | k + 1, hk => by
    have ih := outJ_len h k (by omega)
    have hp := h ps[k] (List.getElem_mem (by omega))
    have hc := cutT_len hp.1 hp.2
    rw [outJ_step (by omega)]
    split
    · omega
    · simp; omega
theorem outJ_pos {ps : List (Int × Int)} (h : ∀ p ∈ ps, I64s p.1 ∧ I64s p.2) {k : Nat} (h1 : 1 ≤ k) (hk : k ≤ ps.length) : outJ ps k ≠ [] := by
  obtain ⟨k, rfl⟩ : ∃ j, k = j + 1 := ⟨k - 1, by omega⟩
  have hp := h ps[k] (List.getElem_mem (by omega))
  have hc := cutT_len hp.1 hp.2
  rw [outJ_step (by omega)]
  intro e
  have := congrArg List.length e
  rw [List.length_nil] at this
  split at this
  · omega
  · simp at this

end Go.Proofs.YtgdadbmhdljcdaaGreatDoor
