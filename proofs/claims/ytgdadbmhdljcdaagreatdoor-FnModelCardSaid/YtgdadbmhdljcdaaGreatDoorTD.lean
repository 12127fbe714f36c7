/- Several texts of the proofs in one: TxtN6, TxtN8. -/
import Derived.Test.YtgdadbmhdljcdaaGreatDoorTB
import Derived.Test.YtgdadbmhdljcdaaGreatDoorTC
import Derived.Test.YtgdadbmhdljcdaaGreatDoorTxtW
/- What the program's lenient readers give: cuts and lists, the plain law. -/
namespace Go.Proofs.YtgdadbmhdljcdaaGreatDoor
set_option linter.unusedVariables false
open Go.RowKit Go.Proofs.Bell Go.BigFrame

def cutI (l : List UInt8) : Int × Int := ((numF (Lib.cut l [120]).1).getD 0, (numF (Lib.cut l [120]).2.1).getD 0)
theorem cutI_cutT {p : Int × Int} (h : I18 p.1 ∧ I18 p.2) : cutI (cutT p) = p := by
  unfold cutI
  rw [cut_cutT, numF_itoa h.1, numF_itoa h.2]
  rfl
theorem map_id_of {α β : Type} {f : α → β} {g : β → α} : ∀ {xs : List α}, (∀ x ∈ xs, g (f x) = x) → (xs.map f).map g = xs
  | [], _ => rfl
  | x :: r, h => by rw [List.map_cons, List.map_cons, h x (List.mem_cons_self ..), map_id_of fun y hy => h y (List.mem_cons_of_mem _ hy)]
/-- the lenient reader of cuts -/
theorem readC_I {l : List UInt8} (h : l ≠ [45]) : readC l = if cutsB ((spl 44 l).map cutI) = true ∧ cutsT ((spl 44 l).map cutI) = l then some ((spl 44 l).map cutI) else none := by
  cases hr : readC l with
  | some ps =>
    obtain ⟨h1, h2⟩ := readC_some hr
    have h0 : ps ≠ [] := fun e => h (by rw [← h2, e]; rfl)
    have e : (spl 44 l).map cutI = ps := by
      rw [← h2, cutsT_split h0]
      exact map_id_of fun p hp => cutI_cutT (cutsB_18 h1 p hp)
    rw [e, if_pos ⟨h1, h2⟩]
  | none =>
    rw [if_neg]
    rintro ⟨h1, h2⟩
    have := readC_text h1
    rw [h2, hr] at this
    cases this

def readN : List (List UInt8) → Option (List Int)
  | [] => some []
  | l :: r => match numF l, readN r with
    | some z, some zs => if inV z then some (z :: zs) else none
    | _, _ => none
def readL (l : List UInt8) : Option (List Int) :=
  if l = [45] then some [] else if 64 < (spl 44 l).length then none else readN (spl 44 l)
theorem readN_some : ∀ {ls : List (List UInt8)} {zs : List Int}, readN ls = some zs → zs.map Lib.itoa = ls ∧ zs.all inV = true
  | [], zs, h => by obtain rfl := Option.some.inj h; exact ⟨rfl, rfl⟩
  | l :: r, zs, h => by
    unfold readN at h
    split at h
    · rename_i z qs h1 h2
      split at h
      · rename_i hv
        obtain rfl := Option.some.inj h
        obtain ⟨a, b⟩ := readN_some h2
        exact ⟨by rw [List.map_cons, (numF_some h1).2, a], by rw [List.all_cons, hv, b]; rfl⟩
      · cases h
    · cases h
theorem inV_18 {z : Int} (h : inV z = true) : I18 z := by
  have := inB_t h
  unfold I18
  omega
theorem readN_text : ∀ {zs : List Int}, zs.all inV = true → readN (zs.map Lib.itoa) = some zs
  | [], _ => rfl
  | z :: r, h => by
    rw [List.all_cons, Bool.and_eq_true] at h
    rw [List.map_cons, readN, numF_itoa (inV_18 h.1), readN_text h.2]
    simp only [h.1, if_true]
theorem listT_split {zs : List Int} (h : zs ≠ []) : spl 44 (listT zs) = zs.map Lib.itoa := by
  unfold listT
  rw [if_neg h]
  refine spl_of_join (by simpa using h) (fun p hp x hx => ?_)
  obtain ⟨q, _, rfl⟩ := List.mem_map.1 hp
  exact itoa_no (by decide) no44 x hx
theorem itoa_no45 (z : Int) : Lib.itoa z ≠ [45] := fun e => by
  by_cases h : z < 0
  · obtain ⟨u, hu, rfl⟩ : ∃ u : Nat, 1 ≤ u ∧ z = -(u : Int) := ⟨z.natAbs, by omega, by omega⟩
    rw [Lib.itoa_neg u hu] at e
    injection e with _ e
    exact (dec_dig u).2.2.1 e
  · obtain ⟨u, rfl⟩ : ∃ u : Nat, z = (u : Int) := ⟨z.toNat, by omega⟩
    rw [Lib.itoa_nonneg] at e
    have := (dec_dig u).1 45 (by rw [e]; simp)
    unfold isDig at this
    exact absurd this.1 (by decide)
theorem listT_no45 {zs : List Int} (h : zs ≠ []) : listT zs ≠ [45] := fun e => by
  have hs := listT_split h
  rw [e] at hs
  cases zs with
  | nil => exact h rfl
  | cons p r =>
    have hh : spl 44 [45] = [[45]] := by decide
    rw [hh, List.map_cons] at hs
    injection hs with h1 h2
    exact itoa_no45 p h1.symm
theorem readL_some {l : List UInt8} {zs : List Int} (h : readL l = some zs) : LsOk zs ∧ listT zs = l := by
  unfold readL at h
  split at h
  · rename_i e
    obtain rfl := Option.some.inj h
    exact ⟨⟨rfl, by simp⟩, e.symm⟩
  · split at h
    · cases h
    · rename_i hl hn
      obtain ⟨a, b⟩ := readN_some h
      have hlen := congrArg List.length a
      rw [List.length_map] at hlen
      refine ⟨⟨b, by omega⟩, ?_⟩
      have hne : zs ≠ [] := fun e => spl_ne 44 l (by rw [← a, e]; rfl)
      unfold listT
      rw [if_neg hne, a, spl_join]
theorem readL_text {zs : List Int} (h : LsOk zs) : readL (listT zs) = some zs := by
  by_cases h0 : zs = []
  · subst h0; rfl
  · unfold readL
    rw [if_neg (listT_no45 h0), listT_split h0, if_neg (by rw [List.length_map]; have := h.2; omega), readN_text h.1]
instance (zs : List Int) : Decidable (LsOk zs) := by unfold LsOk; infer_instance
def listTI (zs : List Int) : ByteArray := if zs.all inV = true ∧ zs.length ≤ 64 then str (listT zs) else ⟨#[]⟩
/-- the lenient reader of a list -/
theorem readL_I {l : List UInt8} (h : l ≠ [45]) : readL l = if LsOk ((spl 44 l).map fun x => (numF x).getD 0) ∧ listT ((spl 44 l).map fun x => (numF x).getD 0) = l then some ((spl 44 l).map fun x => (numF x).getD 0) else none := by
  cases hr : readL l with
  | some zs =>
    obtain ⟨h1, h2⟩ := readL_some hr
    have h0 : zs ≠ [] := fun e => h (by rw [← h2, e]; rfl)
    have e : ((spl 44 l).map fun x => (numF x).getD 0) = zs := by
      rw [← h2, listT_split h0]
      exact map_id_of fun z hz => by rw [numF_itoa (inV_18 (List.all_eq_true.1 h1.1 z hz))]; rfl
    rw [e, if_pos ⟨h1, h2⟩]
  | none =>
    rw [if_neg]
    rintro ⟨h1, h2⟩
    have := readL_text h1
    rw [h2, hr] at this
    cases this
theorem listT_ne {zs : List Int} (h : zs.all inV = true) : listT zs ≠ [] := by
  unfold listT
  split
  · simp
  · rename_i h0
    intro e
    have hs := spl_join 44 (Lib.join (zs.map Lib.itoa) [44])
    have h3 := listT_split h0
    unfold listT at h3
    rw [if_neg h0, e] at h3
    have hh : spl 44 [] = [[]] := rfl
    rw [hh] at h3
    cases zs with
    | nil => exact h0 rfl
    | cons p r =>
      rw [List.map_cons] at h3
      injection h3 with h1 h2
      have hp := inV_18 (List.all_eq_true.1 h p (List.mem_cons_self ..))
      have hn := numF_itoa hp
      rw [← h1] at hn
      have : numF [] = none := by decide
      rw [this] at hn
      cases hn
/-- the test that the program makes of a list -/
theorem listTI_eq {s : ByteArray} (h : byteL s ≠ [45]) : ((readL (byteL s)).isSome = true ↔ listTI ((spl 44 (byteL s)).map fun x => (numF x).getD 0) = s) := by
  rw [readL_I h]
  have hne : byteL s = [] → False ∨ (numF []).getD 0 = 0 := fun _ => .inr rfl
  unfold listTI
  by_cases hk : ((spl 44 (byteL s)).map fun x => (numF x).getD 0).all inV = true ∧ ((spl 44 (byteL s)).map fun x => (numF x).getD 0).length ≤ 64
  · rw [if_pos hk]
    constructor
    · intro h1
      split at h1
      · rename_i h2
        rw [h2.2, str_byteL]
      · cases h1
    · intro h1
      have h2 := congrArg byteL h1
      rw [byteL_str] at h2
      rw [if_pos ⟨hk, h2⟩]; rfl
  · rw [if_neg hk]
    constructor
    · intro h1
      split at h1
      · rename_i h2
        exact absurd h2.1 hk
      · cases h1
    · intro h1
      subst h1
      exact absurd (And.intro (by decide) (by decide)) hk

end Go.Proofs.YtgdadbmhdljcdaaGreatDoor

/- Which model a text is: the plain law. -/
namespace Go.Proofs.YtgdadbmhdljcdaaGreatDoor
set_option linter.unusedVariables false
open Go.RowKit Go.Proofs.Bell Go.BigFrame

abbrev MdR := List Int × List (List Int) × List Int
def readLs (f : List UInt8 → Option (List Int)) : List (List UInt8) → Option (List (List Int))
  | [] => some []
  | l :: r => match f l, readLs f r with
    | some p, some ps => some (p :: ps)
    | _, _ => none
def toM (ls : List (List Int)) : MdR := (ls.getD 0 [], (ls.drop 1).take 5, ls.getD 6 [])
def readM (l : List UInt8) : Option MdR :=
  if (spl 47 l).length = 7 then
    match readLs readL (spl 47 l) with
    | some ls => if modelB (toM ls).1 (toM ls).2.1 (toM ls).2.2 then some (toM ls) else none
    | none => none
  else none
theorem readLs_some : ∀ {ls : List (List UInt8)} {ps : List (List Int)}, readLs readL ls = some ps → ps.map listT = ls
  | [], ps, h => by obtain rfl := Option.some.inj h; rfl
  | l :: r, ps, h => by
    unfold readLs at h
    split at h
    · rename_i p qs h1 h2
      obtain rfl := Option.some.inj h
      rw [List.map_cons, (readL_some h1).2, readLs_some h2]
    · cases h
theorem readLs_text : ∀ {ps : List (List Int)}, (∀ p ∈ ps, LsOk p) → readLs readL (ps.map listT) = some ps
  | [], _ => rfl
  | p :: r, h => by
    rw [List.map_cons, readLs, readL_text (h p (List.mem_cons_self ..)), readLs_text (fun q hq => h q (List.mem_cons_of_mem _ hq))]
theorem no47' : ¬ isDig 47 := by unfold isDig; decide
theorem listT_no47 (zs : List Int) : ∀ x ∈ listT zs, x ≠ 47 := fun x hx => by
  unfold listT at hx
  split at hx
  · rw [List.mem_singleton.1 hx]; decide
  · rename_i h0
    have key : ∀ (qs : List Int) (y : UInt8), y ∈ Lib.join (qs.map Lib.itoa) [44] → y ≠ 47 := fun qs => by
      induction qs with
      | nil => intro y hy; simp [Lib.join] at hy
      | cons q r ih =>
        intro y hy
        rw [List.map_cons, Lib.join_cons] at hy
        rcases List.mem_append.1 hy with h | h
        · exact itoa_no (by decide) no47' y h
        · simp only [Lib.joinTail, List.mem_flatten, List.mem_map] at h
          obtain ⟨s, ⟨t, ⟨u, _, rfl⟩, rfl⟩, hs⟩ := h
          rcases List.mem_append.1 hs with h | h
          · rw [List.mem_singleton.1 h]; decide
          · exact itoa_no (by decide) no47' y h
    exact key zs x hx
def lsOf (m : MdR) : List (List Int) := m.1 :: m.2.1 ++ [m.2.2]
theorem toM_lsOf {m : MdR} (h : m.2.1.length = 5) : toM (lsOf m) = m := by
  obtain ⟨zs, ws, bs⟩ := m
  obtain ⟨a, b, c, d, e, rfl⟩ : ∃ a b c d e, ws = [a, b, c, d, e] := by
    match ws, h with
    | [a, b, c, d, e], _ => exact ⟨a, b, c, d, e, rfl⟩
  rfl
theorem lsOf_toM {ls : List (List Int)} (h : ls.length = 7) : lsOf (toM ls) = ls := by
  match ls, h with
  | [a, b, c, d, e, f, g], _ => rfl
theorem modT_split {m : MdR} : spl 47 (modT m.1 m.2.1 m.2.2) = (lsOf m).map listT := by
  rw [modT_join]
  have e : (listT m.1 :: m.2.1.map listT) ++ [listT m.2.2] = (lsOf m).map listT := by simp [lsOf]
  rw [e]
  refine spl_of_join (by simp [lsOf]) (fun p hp x hx => ?_)
  obtain ⟨q, _, rfl⟩ := List.mem_map.1 hp
  exact listT_no47 q x hx
theorem lsOf_ok {m : MdR} (h : modelB m.1 m.2.1 m.2.2 = true) : ∀ p ∈ lsOf m, LsOk p := fun p hp => by
  obtain ⟨h1, h2, h3, h4⟩ := modelB_I h
  simp only [lsOf, List.cons_append, List.mem_cons, List.mem_append, List.mem_singleton, List.not_mem_nil, or_false] at hp
  rcases hp with e | hp | e
  · rw [e]; exact h1
  · obtain ⟨j, hj, rfl⟩ := List.getElem_of_mem hp
    have := h3 j (by omega)
    rwa [List.getD, List.getElem?_eq_getElem hj, Option.getD_some] at this
  · rw [e]; exact h4
theorem readM_some {l : List UInt8} {m : MdR} (h : readM l = some m) : modelB m.1 m.2.1 m.2.2 = true ∧ modT m.1 m.2.1 m.2.2 = l := by
  unfold readM at h
  split at h
  · rename_i h7
    split at h
    · rename_i ls hl
      split at h
      · rename_i hb
        obtain rfl := Option.some.inj h
        refine ⟨hb, ?_⟩
        have hm := readLs_some hl
        have h7' : ls.length = 7 := by rw [← h7, ← hm, List.length_map]
        have hs := modT_split (m := toM ls)
        rw [lsOf_toM h7', hm] at hs
        rw [← spl_join 47 (modT (toM ls).1 (toM ls).2.1 (toM ls).2.2), hs, spl_join]
      · cases h
    · cases h
  · cases h
theorem readM_text {m : MdR} (h : modelB m.1 m.2.1 m.2.2 = true) : readM (modT m.1 m.2.1 m.2.2) = some m := by
  have h5 := (modelB_I h).2.1
  unfold readM
  rw [modT_split, if_pos (by simp [lsOf, h5]), readLs_text (lsOf_ok h)]
  simp only [toM_lsOf h5, h, if_true]
/-- the lenient reader of models -/
def readMI (l : List UInt8) : Option MdR :=
  if (spl 47 l).length = 7 then
    let m := toM ((spl 47 l).map fun x => (readL x).getD [])
    if modelB m.1 m.2.1 m.2.2 = true ∧ modT m.1 m.2.1 m.2.2 = l then some m else none
  else none
theorem readM_I (l : List UInt8) : readM l = readMI l := by
  cases hr : readM l with
  | some m =>
    obtain ⟨h1, h2⟩ := readM_some hr
    have h5 := (modelB_I h1).2.1
    have e : (spl 47 l).map (fun x => (readL x).getD []) = lsOf m := by
      rw [← h2, modT_split]
      exact map_id_of fun p hp => by rw [readL_text (lsOf_ok h1 p hp)]; rfl
    have h7 : (spl 47 l).length = 7 := by rw [← h2, modT_split]; simp [lsOf, h5]
    unfold readMI
    rw [if_pos h7, e]
    simp only [toM_lsOf h5]
    rw [if_pos ⟨h1, h2⟩]
  | none =>
    cases hi : readMI l with
    | none => rfl
    | some m =>
      unfold readMI at hi
      split at hi
      · simp only at hi
        split at hi
        · rename_i h
          have := readM_text (m := toM ((spl 47 l).map fun x => (readL x).getD [])) h.1
          rw [h.2, hr] at this
          cases this
        · cases hi
      · cases hi

end Go.Proofs.YtgdadbmhdljcdaaGreatDoor

