/- Which cuts a text is: the plain law of the reader. -/
import Derived.Test.YtgdadbmhdljcdaaDoorTxtD
import Derived.Test.YtgdadbmhdljcdaaDoorTxtN4
namespace Go.Proofs.YtgdadbmhdljcdaaDoor
set_option linter.unusedVariables false
open Go.RowKit Go.Proofs.Bell Go.BigFrame

def readF : List (List UInt8) → Option (List (Int × Int))
  | [] => some []
  | l :: r => match cutR l, readF r with
    | some p, some ps => some (p :: ps)
    | _, _ => none
theorem readF_some : ∀ {ls : List (List UInt8)} {ps : List (Int × Int)}, readF ls = some ps → ps.map cutT = ls
  | [], ps, h => by obtain rfl := Option.some.inj h; rfl
  | l :: r, ps, h => by
    unfold readF at h
    split at h
    · rename_i p qs h1 h2
      obtain rfl := Option.some.inj h
      rw [List.map_cons, (cutR_some h1).1, readF_some h2]
    · cases h
theorem readF_text : ∀ {ps : List (Int × Int)}, (∀ p ∈ ps, I18 p.1 ∧ I18 p.2) → readF (ps.map cutT) = some ps
  | [], _ => rfl
  | p :: r, h => by
    have hp := h p (List.mem_cons_self ..)
    rw [List.map_cons, readF, cutR_text hp.1 hp.2, readF_text (fun q hq => h q (List.mem_cons_of_mem _ hq))]
def readC (l : List UInt8) : Option (List (Int × Int)) :=
  if l = [45] then some [] else match readF (spl 44 l) with
    | some ps => if cutsB ps then some ps else none
    | none => none
theorem cutT_no45 (p : Int × Int) : cutT p ≠ [45] := fun e => by
  have := cutT_split p
  rw [e] at this
  have e2 : (spl 120 [45]).length = 1 := by decide
  rw [this] at e2
  exact absurd e2 (by simp)
theorem cutsB_18 {ps : List (Int × Int)} (h : cutsB ps = true) : ∀ p ∈ ps, I18 p.1 ∧ I18 p.2 := fun p hp => by
  simp only [cutsB, Bool.and_eq_true, decide_eq_true_eq, List.all_eq_true] at h
  have := h.1 p hp
  simp only [cutB, Bool.and_eq_true] at this
  have a := inB_t this.1
  have b := inB_t this.2
  unfold I18
  omega
/-- what is read is valid, and the text is its text -/
theorem readC_some {l : List UInt8} {ps : List (Int × Int)} (h : readC l = some ps) : cutsB ps = true ∧ cutsT ps = l := by
  unfold readC at h
  split at h
  · rename_i e
    obtain rfl := Option.some.inj h
    exact ⟨rfl, e.symm⟩
  · rename_i hl
    split at h
    · rename_i qs hq
      split at h
      · rename_i hb
        obtain rfl := Option.some.inj h
        refine ⟨hb, ?_⟩
        have hm := readF_some hq
        have hne : qs ≠ [] := fun e => spl_ne 44 l (by rw [← hm, e]; rfl)
        unfold cutsT
        rw [if_neg hne, hm, spl_join]
      · cases h
    · cases h
/-- the text of valid cuts is read as them -/
theorem readC_text {ps : List (Int × Int)} (h : cutsB ps = true) : readC (cutsT ps) = some ps := by
  by_cases h0 : ps = []
  · subst h0; rfl
  · unfold readC
    rw [if_neg, cutsT_split h0, readF_text (cutsB_18 h)]
    · simp only [h, if_true]
    · intro e
      have hs := cutsT_split h0
      rw [e] at hs
      cases ps with
      | nil => exact h0 rfl
      | cons p r =>
        have hh : spl 44 [45] = [[45]] := by decide
        rw [hh, List.map_cons] at hs
        injection hs with h1 h2
        exact cutT_no45 p h1.symm

end Go.Proofs.YtgdadbmhdljcdaaDoor
