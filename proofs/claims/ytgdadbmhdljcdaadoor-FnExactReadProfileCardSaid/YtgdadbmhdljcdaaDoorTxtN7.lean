/- Which profile a text is: the plain law. -/
import Derived.Test.YtgdadbmhdljcdaaDoorTxtN6
import Derived.Test.YtgdadbmhdljcdaaDoorTxtP
namespace Go.Proofs.YtgdadbmhdljcdaaDoor
set_option linter.unusedVariables false
open Go.RowKit Go.Proofs.Bell Go.BigFrame

def ringR (l : List UInt8) : Option (Int × Int × Int) :=
  match spl 47 l with
  | [a, b, c] => match numF a, numF b, numF c with
    | some x, some y, some z => some (x, y, z)
    | _, _, _ => none
  | _ => none
def ringI (l : List UInt8) : Option (Int × Int × Int) :=
  match spl 47 l with
  | [a, b, c] => some ((numF a).getD 0, (numF b).getD 0, (numF c).getD 0)
  | _ => none
def readRs (f : List UInt8 → Option (Int × Int × Int)) : List (List UInt8) → Option (List (Int × Int × Int))
  | [] => some []
  | l :: r => match f l, readRs f r with
    | some p, some ps => some (p :: ps)
    | _, _ => none
abbrev PrR := ByteArray × List (Int × Int × Int)
def readP (l : List UInt8) : Option PrR :=
  match readRs ringR (spl 32 l).tail with
  | some rs => if profB (str ((spl 32 l).headD [])) rs then some (str ((spl 32 l).headD []), rs) else none
  | none => none
theorem no47 : ¬ isDig 47 := by unfold isDig; decide
theorem no32 : ¬ isDig 32 := by unfold isDig; decide
theorem ringW_split (p : Int × Int × Int) : spl 47 (ringW p) = [Lib.itoa p.1, Lib.itoa p.2.1, Lib.itoa p.2.2] := by
  unfold ringW
  rw [List.append_assoc, List.append_assoc, List.append_assoc, List.singleton_append, spl_app (itoa_no (by decide) no47), List.singleton_append, spl_app (itoa_no (by decide) no47), spl_none (itoa_no (by decide) no47)]
theorem ringW_no32 (p : Int × Int × Int) : ∀ x ∈ ringW p, x ≠ 32 := fun x hx => by
  unfold ringW at hx
  simp only [List.mem_append, List.mem_singleton] at hx
  rcases hx with (((h | h) | h) | h) | h
  · exact itoa_no (by decide) no32 x h
  · rw [h]; decide
  · exact itoa_no (by decide) no32 x h
  · rw [h]; decide
  · exact itoa_no (by decide) no32 x h
theorem ringR_some {l : List UInt8} {p : Int × Int × Int} (h : ringR l = some p) : ringW p = l := by
  unfold ringR at h
  split at h
  · rename_i a b c hs
    split at h
    · rename_i x y z ha hb hc
      obtain rfl := Option.some.inj h
      have hj := spl_join 47 l
      rw [hs] at hj
      show Lib.itoa x ++ [47] ++ Lib.itoa y ++ [47] ++ Lib.itoa z = l
      rw [(numF_some ha).2, (numF_some hb).2, (numF_some hc).2, ← hj, Lib.join_cons]
      simp [Lib.joinTail]
    · cases h
  · cases h
def I18t (p : Int × Int × Int) : Prop := I18 p.1 ∧ I18 p.2.1 ∧ I18 p.2.2
theorem ringR_text {p : Int × Int × Int} (h : I18t p) : ringR (ringW p) = some p := by
  unfold ringR
  rw [ringW_split]
  simp only [numF_itoa h.1, numF_itoa h.2.1, numF_itoa h.2.2]
theorem ringI_text {p : Int × Int × Int} (h : I18t p) : ringI (ringW p) = some p := by
  unfold ringI
  rw [ringW_split]
  simp only [numF_itoa h.1, numF_itoa h.2.1, numF_itoa h.2.2]
  rfl
theorem readRs_some : ∀ {ls : List (List UInt8)} {ps : List (Int × Int × Int)}, readRs ringR ls = some ps → ps.map ringW = ls
  | [], ps, h => by obtain rfl := Option.some.inj h; rfl
  | l :: r, ps, h => by
    unfold readRs at h
    split at h
    · rename_i p qs h1 h2
      obtain rfl := Option.some.inj h
      rw [List.map_cons, ringR_some h1, readRs_some h2]
    · cases h
theorem readRs_text {f : List UInt8 → Option (Int × Int × Int)} (hf : ∀ p, I18t p → f (ringW p) = some p) : ∀ {ps : List (Int × Int × Int)}, (∀ p ∈ ps, I18t p) → readRs f (ps.map ringW) = some ps
  | [], _ => rfl
  | p :: r, h => by
    rw [List.map_cons, readRs, hf p (h p (List.mem_cons_self ..)), readRs_text hf (fun q hq => h q (List.mem_cons_of_mem _ hq))]
theorem profB_18 {nm : ByteArray} {ps : List (Int × Int × Int)} (h : profB nm ps = true) : ∀ p ∈ ps, I18t p := fun p hp => by
  obtain ⟨_, h2, h3, _⟩ := profB_t h
  have := ringT_t (List.all_eq_true.1 h3 p hp)
  unfold I18t I18
  omega
theorem profB_no32 {nm : ByteArray} {ps : List (Int × Int × Int)} (h : profB nm ps = true) : ∀ x ∈ nm.data.toList, x ≠ 32 := fun x hx e => by
  simp only [profB, nameB, Bool.and_eq_true, decide_eq_true_eq] at h
  have hn := h.1.1.1.1.1.2
  obtain ⟨j, hj, rfl⟩ := List.getElem_of_mem hx
  have hj2 : j < nm.size := by have := Array.length_toList (xs := nm.data); rw [this] at hj; exact hj
  have := List.all_eq_true.1 hn j (List.mem_range.2 hj2)
  have hb : byteAt nm j = 32 := by
    unfold byteAt
    rw [List.getD, List.getElem?_eq_getElem hj, Option.getD_some, e]
    rfl
  rw [nameAt, hb] at this
  simp [smallB, digitB, inB] at this
theorem outP_split {nm : ByteArray} {ps : List (Int × Int × Int)} (h : profB nm ps = true) : spl 32 (outP nm ps ps.length) = nm.data.toList :: ps.map ringW := by
  unfold outP
  rw [List.take_length]
  refine spl_of_join (by simp) (fun p hp x hx => ?_)
  rcases List.mem_cons.1 hp with e | h1
  · subst e; exact profB_no32 h x hx
  · obtain ⟨q, _, rfl⟩ := List.mem_map.1 h1
    exact ringW_no32 q x hx
theorem readP_some {l : List UInt8} {p : PrR} (h : readP l = some p) : profB p.1 p.2 = true ∧ outP p.1 p.2 p.2.length = l := by
  unfold readP at h
  split at h
  · rename_i rs hr
    split at h
    · rename_i hb
      obtain rfl := Option.some.inj h
      refine ⟨hb, ?_⟩
      unfold outP
      rw [List.take_length, readRs_some hr]
      have e : (str ((spl 32 l).headD [])).data.toList :: (spl 32 l).tail = spl 32 l := by
        cases hs : spl 32 l with
        | nil => exact absurd hs (spl_ne 32 l)
        | cons a r => simp [str]
      rw [e, spl_join]
    · cases h
  · cases h
theorem readP_text {p : PrR} (h : profB p.1 p.2 = true) : readP (outP p.1 p.2 p.2.length) = some p := by
  unfold readP
  rw [outP_split h, List.tail_cons, readRs_text (fun _ => ringR_text) (profB_18 h)]
  simp only [List.headD_cons, str_toList, h, if_true]
/-- the lenient reader of profiles -/
def readPI (l : List UInt8) : Option PrR :=
  match readRs ringI (spl 32 l).tail with
  | some rs => if profB (str ((spl 32 l).headD [])) rs = true ∧ outP (str ((spl 32 l).headD [])) rs rs.length = l then some (str ((spl 32 l).headD []), rs) else none
  | none => none
theorem readP_I (l : List UInt8) : readP l = readPI l := by
  cases hr : readP l with
  | some p =>
    obtain ⟨h1, h2⟩ := readP_some hr
    unfold readPI
    rw [← h2, outP_split h1, List.tail_cons, readRs_text (fun _ => ringI_text) (profB_18 h1)]
    simp only [List.headD_cons, str_toList, h1, if_true, true_and]
  | none =>
    cases hi : readPI l with
    | none => rfl
    | some p =>
      unfold readPI at hi
      split at hi
      · split at hi
        · rename_i rs _ h
          have := readP_text (p := (str ((spl 32 l).headD []), rs)) h.1
          simp only at this
          rw [h.2, hr] at this
          cases this
        · cases hi
      · cases hi

end Go.Proofs.YtgdadbmhdljcdaaDoor
