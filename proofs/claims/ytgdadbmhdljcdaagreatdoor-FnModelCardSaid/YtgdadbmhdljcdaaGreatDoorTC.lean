/- Several texts of the proofs in one: TxtN4, TxtN5. -/
import Derived.Test.YtgdadbmhdljcdaaGreatDoorTA
import Derived.Test.YtgdadbmhdljcdaaGreatDoorTxtX2
import Derived.Test.YtgdadbmhdljcdaaGreatDoorWP
/- Texts of cuts, divided again: the plain law. -/
namespace Go.Proofs.YtgdadbmhdljcdaaGreatDoor
set_option linter.unusedVariables false
open Go.RowKit Go.Proofs.Bell Go.BigFrame

theorem itoa_mem {z : Int} {x : UInt8} (h : x ∈ Lib.itoa z) : x = 45 ∨ isDig x := by
  unfold Lib.itoa at h
  split at h
  · rcases List.mem_cons.1 h with h | h
    · exact .inl h
    · exact .inr ((dec_dig _).1 x h)
  · exact .inr ((dec_dig _).1 x h)
theorem itoa_no {z : Int} {c : UInt8} (hc : c ≠ 45) (hd : ¬ isDig c) : ∀ x ∈ Lib.itoa z, x ≠ c := fun x hx e => by
  subst e
  rcases itoa_mem hx with h | h
  · exact hc h
  · exact hd h
theorem no120 : ¬ isDig 120 := by unfold isDig; decide
theorem no44 : ¬ isDig 44 := by unfold isDig; decide
theorem cutT_split (p : Int × Int) : spl 120 (cutT p) = [Lib.itoa p.1, Lib.itoa p.2] := by
  unfold cutT
  rw [List.append_assoc, List.singleton_append, spl_app (itoa_no (by decide) no120), spl_none (itoa_no (by decide) no120)]
theorem cutT_no44 (p : Int × Int) : ∀ x ∈ cutT p, x ≠ 44 := fun x hx => by
  unfold cutT at hx
  simp only [List.mem_append, List.mem_singleton] at hx
  rcases hx with (h | h) | h
  · exact itoa_no (by decide) no44 x h
  · rw [h]; decide
  · exact itoa_no (by decide) no44 x h
theorem cutsT_split {ps : List (Int × Int)} (h : ps ≠ []) : spl 44 (cutsT ps) = ps.map cutT := by
  unfold cutsT
  rw [if_neg h]
  refine spl_of_join (by simpa using h) (fun p hp x hx => ?_)
  obtain ⟨q, _, rfl⟩ := List.mem_map.1 hp
  exact cutT_no44 q x hx
/-- the library's Cut at such a text -/
theorem cut_cutT (p : Int × Int) : Lib.cut (cutT p) [120] = (Lib.itoa p.1, Lib.itoa p.2, true) := by
  have hi : Lib.index (cutT p) [120] = (Lib.itoa p.1).length := by
    unfold cutT
    rw [List.append_assoc, List.singleton_append]
    exact index_at 120 (itoa_no (by decide) no120)
  unfold Lib.cut
  rw [hi, if_pos (by omega)]
  have e1 : (cutT p).take ((Lib.itoa p.1).length : Int).toNat = Lib.itoa p.1 := by simp [cutT]
  have e2 : (cutT p).drop (((Lib.itoa p.1).length : Int).toNat + [(120 : UInt8)].length) = Lib.itoa p.2 := by simp [cutT]
  rw [e1, e2]
/-- one field, as the reference reads it -/
def cutR (l : List UInt8) : Option (Int × Int) :=
  match spl 120 l with
  | [a, b] => match numF a, numF b with
    | some z, some k => some (z, k)
    | _, _ => none
  | _ => none
theorem cutR_some {l : List UInt8} {p : Int × Int} (h : cutR l = some p) : cutT p = l ∧ I18 p.1 ∧ I18 p.2 := by
  unfold cutR at h
  split at h
  · rename_i a b hs
    split at h
    · rename_i z k ha hb
      obtain rfl := Option.some.inj h
      have hj := spl_join 120 l
      rw [hs] at hj
      obtain ⟨i1, e1⟩ := numF_some ha
      obtain ⟨i2, e2⟩ := numF_some hb
      refine ⟨?_, i1, i2⟩
      show Lib.itoa z ++ [120] ++ Lib.itoa k = l
      rw [e1, e2, ← hj, Lib.join_cons]
      simp [Lib.joinTail]
    · cases h
  · cases h
theorem cutR_text {p : Int × Int} (h1 : I18 p.1) (h2 : I18 p.2) : cutR (cutT p) = some p := by
  unfold cutR
  rw [cutT_split]
  simp only [numF_itoa h1, numF_itoa h2]

end Go.Proofs.YtgdadbmhdljcdaaGreatDoor

/- Which cuts a text is: the plain law of the reader. -/
namespace Go.Proofs.YtgdadbmhdljcdaaGreatDoor
set_option linter.unusedVariables false
open Go.RowKit Go.Proofs.Bell Go.BigFrame

def readF : List (List UInt8) → Option (List (Int × Int))
  | [] => some []
  | l :: r => match cutR l, readF r with
    | some p, some ps => some (p :: ps)
    | _, _ => none
theorem readF_some : ∀ {ls : List (List UInt8)} {ps : List (Int × Int)}, readF ls = some ps → ps.map cutT = ls
  | [], ps, h => by obtain rfl := Option.some.inj h; rfl
  | l :: r, ps, h => by
    unfold readF at h
    split at h
    · rename_i p qs h1 h2
      obtain rfl := Option.some.inj h
      rw [List.map_cons, (cutR_some h1).1, readF_some h2]
    · cases h
theorem readF_text : ∀ {ps : List (Int × Int)}, (∀ p ∈ ps, I18 p.1 ∧ I18 p.2) → readF (ps.map cutT) = some ps
  | [], _ => rfl
  | p :: r, h => by
    have hp := h p (List.mem_cons_self ..)
    rw [List.map_cons, readF, cutR_text hp.1 hp.2, readF_text (fun q hq => h q (List.mem_cons_of_mem _ hq))]
def readC (l : List UInt8) : Option (List (Int × Int)) :=
  if l = [45] then some [] else match readF (spl 44 l) with
    | some ps => if cutsB ps then some ps else none
    | none => none
theorem cutT_no45 (p : Int × Int) : cutT p ≠ [45] := fun e => by
  have := cutT_split p
  rw [e] at this
  have e2 : (spl 120 [45]).length = 1 := by decide
  rw [this] at e2
  exact absurd e2 (by simp)
theorem cutsB_18 {ps : List (Int × Int)} (h : cutsB ps = true) : ∀ p ∈ ps, I18 p.1 ∧ I18 p.2 := fun p hp => by
  simp only [cutsB, Bool.and_eq_true, decide_eq_true_eq, List.all_eq_true] at h
  have := h.1 p hp
  simp only [cutB, Bool.and_eq_true] at this
  have a := inB_t this.1
  have b := inB_t this.2
  unfold I18
  omega
/-- what is read is valid, and the text is its text -/
theorem readC_some {l : List UInt8} {ps : List (Int × Int)} (h : readC l = some ps) : cutsB ps = true ∧ cutsT ps = l := by
  unfold readC at h
  split at h
  · rename_i e
    obtain rfl := Option.some.inj h
    exact ⟨rfl, e.symm⟩
  · rename_i hl
    split at h
    · rename_i qs hq
      split at h
      · rename_i hb
        obtain rfl := Option.some.inj h
        refine ⟨hb, ?_⟩
        have hm := readF_some hq
        have hne : qs ≠ [] := fun e => spl_ne 44 l (by rw [← hm, e]; rfl)
        unfold cutsT
        rw [if_neg hne, hm, spl_join]
      · cases h
    · cases h
/-- the text of valid cuts is read as them -/
theorem readC_text {ps : List (Int × Int)} (h : cutsB ps = true) : readC (cutsT ps) = some ps := by
  by_cases h0 : ps = []
  · subst h0; rfl
  · unfold readC
    rw [if_neg, cutsT_split h0, readF_text (cutsB_18 h)]
    · simp only [h, if_true]
    · intro e
      have hs := cutsT_split h0
      rw [e] at hs
      cases ps with
      | nil => exact h0 rfl
      | cons p r =>
        have hh : spl 44 [45] = [[45]] := by decide
        rw [hh, List.map_cons] at hs
        injection hs with h1 h2
        exact cutT_no45 p h1.symm

end Go.Proofs.YtgdadbmhdljcdaaGreatDoor

