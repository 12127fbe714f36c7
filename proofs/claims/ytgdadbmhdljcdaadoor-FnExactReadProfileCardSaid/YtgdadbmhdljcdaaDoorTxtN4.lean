/- Texts of cuts, divided again: the plain law. -/
import Derived.Test.YtgdadbmhdljcdaaDoorTxtC
import Derived.Test.YtgdadbmhdljcdaaDoorTxtN2
import Derived.Test.YtgdadbmhdljcdaaDoorTxtX2
namespace Go.Proofs.YtgdadbmhdljcdaaDoor
set_option linter.unusedVariables false
open Go.RowKit Go.Proofs.Bell Go.BigFrame

theorem itoa_mem {z : Int} {x : UInt8} (h : x ∈ Lib.itoa z) : x = 45 ∨ isDig x := by
  unfold Lib.itoa at h
  split at h
  · rcases List.mem_cons.1 h with h | h
    · exact .inl h
    · exact .inr ((dec_dig _).1 x h)
  · exact .inr ((dec_dig _).1 x h)
theorem itoa_no {z : Int} {c : UInt8} (hc : c ≠ 45) (hd : ¬ isDig c) : ∀ x ∈ Lib.itoa z, x ≠ c := fun x hx e => by
  subst e
  rcases itoa_mem hx with h | h
  · exact hc h
  · exact hd h
theorem no120 : ¬ isDig 120 := by unfold isDig; decide
theorem no44 : ¬ isDig 44 := by unfold isDig; decide
theorem cutT_split (p : Int × Int) : spl 120 (cutT p) = [Lib.itoa p.1, Lib.itoa p.2] := by
  unfold cutT
  rw [List.append_assoc, List.singleton_append, spl_app (itoa_no (by decide) no120), spl_none (itoa_no (by decide) no120)]
theorem cutT_no44 (p : Int × Int) : ∀ x ∈ cutT p, x ≠ 44 := fun x hx => by
  unfold cutT at hx
  simp only [List.mem_append, List.mem_singleton] at hx
  rcases hx with (h | h) | h
  · exact itoa_no (by decide) no44 x h
  · rw [h]; decide
  · exact itoa_no (by decide) no44 x h
theorem cutsT_split {ps : List (Int × Int)} (h : ps ≠ []) : spl 44 (cutsT ps) = ps.map cutT := by
  unfold cutsT
  rw [if_neg h]
  refine spl_of_join (by simpa using h) (fun p hp x hx => ?_)
  obtain ⟨q, _, rfl⟩ := List.mem_map.1 hp
  exact cutT_no44 q x hx
/-- the library's Cut at such a text -/
theorem cut_cutT (p : Int × Int) : Lib.cut (cutT p) [120] = (Lib.itoa p.1, Lib.itoa p.2, true) := by
  have hi : Lib.index (cutT p) [120] = (Lib.itoa p.1).length := by
    unfold cutT
    rw [List.append_assoc, List.singleton_append]
    exact index_at 120 (itoa_no (by decide) no120)
  unfold Lib.cut
  rw [hi, if_pos (by omega)]
  have e1 : (cutT p).take ((Lib.itoa p.1).length : Int).toNat = Lib.itoa p.1 := by simp [cutT]
  have e2 : (cutT p).drop (((Lib.itoa p.1).length : Int).toNat + [(120 : UInt8)].length) = Lib.itoa p.2 := by simp [cutT]
  rw [e1, e2]
/-- one field, as the reference reads it -/
def cutR (l : List UInt8) : Option (Int × Int) :=
  match spl 120 l with
  | [a, b] => match numF a, numF b with
    | some z, some k => some (z, k)
    | _, _ => none
  | _ => none
theorem cutR_some {l : List UInt8} {p : Int × Int} (h : cutR l = some p) : cutT p = l ∧ I18 p.1 ∧ I18 p.2 := by
  unfold cutR at h
  split at h
  · rename_i a b hs
    split at h
    · rename_i z k ha hb
      obtain rfl := Option.some.inj h
      have hj := spl_join 120 l
      rw [hs] at hj
      obtain ⟨i1, e1⟩ := numF_some ha
      obtain ⟨i2, e2⟩ := numF_some hb
      refine ⟨?_, i1, i2⟩
      show Lib.itoa z ++ [120] ++ Lib.itoa k = l
      rw [e1, e2, ← hj, Lib.join_cons]
      simp [Lib.joinTail]
    · cases h
  · cases h
theorem cutR_text {p : Int × Int} (h1 : I18 p.1) (h2 : I18 p.2) : cutR (cutT p) = some p := by
  unfold cutR
  rw [cutT_split]
  simp only [numF_itoa h1, numF_itoa h2]

end Go.Proofs.YtgdadbmhdljcdaaDoor
