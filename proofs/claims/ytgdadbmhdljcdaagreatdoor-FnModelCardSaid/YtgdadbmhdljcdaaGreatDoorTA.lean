/- Several texts of the proofs in one: TxtN, TxtN2, TxtN3, TxtNw. -/
import Derived.Test.YtgdadbmhdljcdaaGreatDoorGC
import Derived.Test.YtgdadbmhdljcdaaGreatDoorTxtX
import Derived.Lib.ItoaNum
import Derived.Lib.ParseIntB
import Derived.Lib.Strings
/- Digits and numbers: the plain law. -/
namespace Go.Proofs.YtgdadbmhdljcdaaGreatDoor
set_option linter.unusedVariables false
open Go.RowKit Go.Proofs.Bell Go.BigFrame

def isDig (c : UInt8) : Prop := 48 ≤ c.toNat ∧ c.toNat ≤ 57
def dig (u : Nat) (c : UInt8) : Nat := 10 * u + (c.toNat - 48)
def dval (a : Nat) (l : List UInt8) : Nat := l.foldl dig a
theorem dval_nil (a : Nat) : dval a [] = a := rfl
theorem dval_cons (a : Nat) (c : UInt8) (r : List UInt8) : dval a (c :: r) = dval (10 * a + (c.toNat - 48)) r := by unfold dval; rw [List.foldl_cons]; unfold dig; exact Eq.refl _
theorem dval_app : ∀ (a : Nat) (l m : List UInt8), dval a (l ++ m) = dval (dval a l) m
  | _, [], _ => rfl
  | a, c :: r, m => by rw [List.cons_append, dval_cons, dval_cons, dval_app]
theorem dval_snoc (l : List UInt8) (c : UInt8) : dval 0 (l ++ [c]) = 10 * dval 0 l + (c.toNat - 48) := by rw [dval_app, dval_cons, dval_nil]
theorem dval_ge : ∀ (a : Nat) (l : List UInt8), a ≤ dval a l
  | _, [] => Nat.le_refl _
  | a, c :: r => by
    have := dval_ge (10 * a + (c.toNat - 48)) r
    rw [dval_cons]; omega
theorem dval_pos {l : List UInt8} {c : UInt8} {r : List UInt8} (e : l = c :: r) (hd : isDig c) (h : c ≠ 48) : 1 ≤ dval 0 l := by
  subst e
  have h1 := dval_ge (10 * 0 + (c.toNat - 48)) r
  have h2 : c.toNat ≠ 48 := fun e => h (UInt8.toNat_inj.1 (by rw [e]; rfl))
  unfold isDig at hd
  rw [dval_cons]; omega
theorem dval_lt : ∀ (l : List UInt8), (∀ x ∈ l, isDig x) → ∀ a, dval a l < (a + 1) * 10 ^ l.length
  | [], _, a => by simp [dval_nil]
  | c :: r, h, a => by
    have hc := h c (List.mem_cons_self ..)
    have ih := dval_lt r (fun x hx => h x (List.mem_cons_of_mem _ hx)) (10 * a + (c.toNat - 48))
    unfold isDig at hc
    rw [dval_cons, List.length_cons, Nat.pow_succ]
    have : (10 * a + (c.toNat - 48) + 1) * 10 ^ r.length ≤ (10 * (a + 1)) * 10 ^ r.length := Nat.mul_le_mul_right _ (by omega)
    have e : (a + 1) * (10 ^ r.length * 10) = (10 * (a + 1)) * 10 ^ r.length := by rw [Nat.mul_comm (10 ^ r.length) 10, ← Nat.mul_assoc, Nat.mul_comm (a + 1) 10]
    omega
/-- digits without a nought ahead are the digits of their value -/
theorem dec_of_dval : ∀ (n : Nat) (l : List UInt8), l.length = n → l ≠ [] → (∀ x ∈ l, isDig x) → (l.head? ≠ some 48 ∨ l.length = 1) → Lib.decDigits (dval 0 l) = l
  | 0, l, hn, h0, _, _ => absurd (List.eq_nil_of_length_eq_zero hn) h0
  | n + 1, l, hn, h0, hd, hh => by
    obtain ⟨ini, c, rfl⟩ : ∃ a c, l = a ++ [c] := ⟨l.dropLast, l.getLast h0, (List.dropLast_concat_getLast h0).symm⟩
    have hc := hd c (by simp)
    unfold isDig at hc
    have ec : ∀ u : Nat, u = c.toNat - 48 → UInt8.ofNat (48 + u) = c := fun u hu => UInt8.toNat_inj.1 (by rw [UInt8.toNat_ofNat']; omega)
    rw [dval_snoc]
    cases hi : ini with
    | nil =>
      show Lib.decDigits (10 * 0 + (c.toNat - 48)) = [] ++ [c]
      rw [Lib.decDigits, dif_pos (by omega), ec _ (by omega)]; rfl
    | cons x r =>
      have hlen : (ini ++ [c]).length ≠ 1 := by rw [hi]; simp
      have hx : (ini ++ [c]).head? = some x := by rw [hi]; rfl
      have hx48 : x ≠ 48 := fun e => by
        rcases hh with h | h
        · exact h (by rw [hx, e])
        · exact hlen h
      have hp := dval_pos hi (hd x (by rw [hi]; simp)) hx48
      have ih := dec_of_dval n ini (by simpa using hn) (by rw [hi]; simp) (fun y hy => hd y (List.mem_append_left _ hy)) (.inl (by rw [hi]; simpa using hx48))
      rw [← hi, Lib.decDigits, dif_neg (by omega), show (10 * dval 0 ini + (c.toNat - 48)) / 10 = dval 0 ini by omega, show (10 * dval 0 ini + (c.toNat - 48)) % 10 = c.toNat - 48 by omega, ih, ec _ rfl]
theorem toNat_dig {u : Nat} (h : u < 10) : (UInt8.ofNat (48 + u)).toNat = 48 + u := by rw [UInt8.toNat_ofNat']; omega
/-- what the digits of a number are -/
theorem dec_dig : ∀ (u : Nat), (∀ x ∈ Lib.decDigits u, isDig x) ∧ dval 0 (Lib.decDigits u) = u ∧ Lib.decDigits u ≠ [] ∧ (1 ≤ u → (Lib.decDigits u).head? ≠ some 48) := by
  intro u
  induction u using Nat.strongRecOn with
  | _ u ih =>
    rw [Lib.decDigits]
    by_cases h : u < 10
    · rw [dif_pos h]
      have e := toNat_dig h
      refine ⟨fun x hx => ?_, ?_, by simp, fun h1 => ?_⟩
      · rw [List.mem_singleton.1 hx]; unfold isDig; rw [e]; omega
      · show 10 * 0 + ((UInt8.ofNat (48 + u)).toNat - 48) = u
        rw [e]; omega
      · intro e2
        have e3 : UInt8.ofNat (48 + u) = 48 := by simpa using e2
        rw [e3] at e
        have : (48 : UInt8).toNat = 48 := rfl
        omega
    · rw [dif_neg h]
      obtain ⟨h1, h2, h3, h4⟩ := ih (u / 10) (by omega)
      have e := toNat_dig (Nat.mod_lt u (by omega : 0 < 10))
      refine ⟨fun x hx => ?_, ?_, by simp, fun _ => ?_⟩
      · rcases List.mem_append.1 hx with hx | hx
        · exact h1 x hx
        · rw [List.mem_singleton.1 hx]; unfold isDig; rw [e]; omega
      · rw [dval_snoc, h2, e]; omega
      · cases hh : Lib.decDigits (u / 10) with
        | nil => exact absurd hh h3
        | cons x r =>
          have := h4 (by omega)
          rw [hh] at this
          simpa using this
theorem dec_len {u k : Nat} (h : u < 10 ^ (k + 1)) : (Lib.decDigits u).length ≤ k + 1 := by
  induction k generalizing u with
  | zero => rw [Lib.decDigits, dif_pos (by simpa using h)]; simp
  | succ k ih =>
    rw [Lib.decDigits]
    split
    · simp
    · have := ih (u := u / 10) (by rw [Nat.pow_succ] at h; omega)
      simp; omega
/-- the library's reading of digits -/
theorem parse_dval : ∀ (l : List UInt8) (a : Nat), (∀ x ∈ l, isDig x) → dval a l ≤ 1000000000000000000 → Lib.parseUintM (2 ^ 64 - 1) a l = .ok (dval a l)
  | [], a, _, _ => rfl
  | c :: r, a, h, hb => by
    have hc := h c (List.mem_cons_self ..)
    unfold isDig at hc
    have hg := dval_ge (10 * a + (c.toNat - 48)) r
    rw [dval_cons] at hb ⊢
    rw [Lib.parseUintM, if_pos hc, if_neg (by omega), if_neg (by omega), show a * 10 + (c.toNat - 48) = 10 * a + (c.toNat - 48) by omega]
    exact parse_dval r _ (fun x hx => h x (List.mem_cons_of_mem _ hx)) hb
def I18 (z : Int) : Prop := -1000000000000000000 < z ∧ z < 1000000000000000000

end Go.Proofs.YtgdadbmhdljcdaaGreatDoor

/- The number that a text is: the plain law. -/
namespace Go.Proofs.YtgdadbmhdljcdaaGreatDoor
set_option linter.unusedVariables false
open Go.RowKit Go.Proofs.Bell Go.BigFrame

def digB (c : UInt8) : Bool := decide (48 ≤ c.toNat) && decide (c.toNat ≤ 57)
theorem digB_iff {c : UInt8} : digB c = true ↔ isDig c := by simp [digB, isDig]
/-- the text behind its sign -/
def unsg (l : List UInt8) : List UInt8 := if l.head? = some 45 then l.tail else l
def numF (l : List UInt8) : Option Int :=
  if (unsg l).length = 0 ∨ 18 < (unsg l).length ∨ ((unsg l).head? = some 48 ∧ 1 < l.length) ∨ (unsg l).all digB = false then none
  else some (if l.head? = some 45 then -(dval 0 (unsg l) : Int) else (dval 0 (unsg l) : Int))
theorem pow18 {l : List UInt8} (h : l.length ≤ 18) : 10 ^ l.length ≤ 1000000000000000000 := by
  have : 10 ^ l.length ≤ 10 ^ 18 := Nat.pow_le_pow_right (by omega) h
  omega
theorem numF_some {l : List UInt8} {z : Int} (h : numF l = some z) : I18 z ∧ Lib.itoa z = l := by
  unfold numF at h
  split at h
  · cases h
  · rename_i hn
    simp only [not_or, not_and] at hn
    obtain ⟨h0, h18, hh, hd⟩ := hn
    have hd' : ∀ x ∈ unsg l, isDig x := fun x hx => digB_iff.1 (List.all_eq_true.1 (by simpa using hd) x hx)
    have hne : unsg l ≠ [] := fun e => h0 (by rw [e]; rfl)
    have hlt := dval_lt (unsg l) hd' 0
    have hp := pow18 (l := unsg l) (by omega)
    rw [Nat.zero_add, Nat.one_mul] at hlt
    by_cases hs : l.head? = some 45
    · rw [if_pos hs] at h
      obtain rfl := Option.some.inj h
      have hl : l = 45 :: unsg l := by
        unfold unsg
        rw [if_pos hs]
        cases l with
        | nil => cases hs
        | cons x r => simp only [List.head?_cons, Option.some.injEq] at hs; rw [hs]; rfl
      have hl1 : 1 < l.length := by
        have := congrArg List.length hl
        rw [List.length_cons] at this
        omega
      have h48 : (unsg l).head? ≠ some 48 := fun e => hh e hl1
      have hdec := dec_of_dval _ (unsg l) rfl hne hd' (.inl h48)
      have hpos : 1 ≤ dval 0 (unsg l) := by
        cases hu : unsg l with
        | nil => exact absurd hu hne
        | cons x r =>
          rw [← hu]
          exact dval_pos hu (hd' x (by rw [hu]; simp)) (fun e => h48 (by rw [hu, e]; rfl))
      refine ⟨by unfold I18; omega, ?_⟩
      rw [Lib.itoa_neg _ hpos, hdec, ← hl]
    · rw [if_neg hs] at h
      obtain rfl := Option.some.inj h
      have hl : unsg l = l := by unfold unsg; rw [if_neg hs]
      rw [hl] at hne hd' hh h0 h18 hlt hp ⊢
      have hdec := dec_of_dval _ l rfl hne hd' (by
        by_cases h1 : l.length = 1
        · exact .inr h1
        · exact .inl (fun e => hh e (by omega)))
      refine ⟨by unfold I18; omega, ?_⟩
      rw [Lib.itoa_nonneg, hdec]
theorem numF_itoa {z : Int} (h : I18 z) : numF (Lib.itoa z) = some z := by
  unfold I18 at h
  by_cases hz : z < 0
  · obtain ⟨u, hu, rfl⟩ : ∃ u : Nat, 1 ≤ u ∧ z = -(u : Int) := ⟨z.natAbs, by omega, by omega⟩
    obtain ⟨h1, h2, h3, h4⟩ := dec_dig u
    have hlen := dec_len (u := u) (k := 17) (by omega)
    rw [Lib.itoa_neg u hu]
    have hun : unsg (45 :: Lib.decDigits u) = Lib.decDigits u := by simp [unsg]
    unfold numF
    rw [hun, if_neg, if_pos (show (45 :: Lib.decDigits u).head? = some 45 from rfl), h2]
    simp only [not_or, not_and]
    refine ⟨fun e => h3 (List.eq_nil_of_length_eq_zero e), by omega, fun e => absurd e (h4 hu), ?_⟩
    simp only [Bool.not_eq_false]
    exact List.all_eq_true.2 fun x hx => digB_iff.2 (h1 x hx)
  · obtain ⟨u, rfl⟩ : ∃ u : Nat, z = (u : Int) := ⟨z.toNat, by omega⟩
    obtain ⟨h1, h2, h3, h4⟩ := dec_dig u
    have hlen := dec_len (u := u) (k := 17) (by omega)
    rw [Lib.itoa_nonneg]
    have hhd : (Lib.decDigits u).head? ≠ some 45 := fun e => by
      cases hd : Lib.decDigits u with
      | nil => exact h3 hd
      | cons x r =>
        rw [hd] at e
        simp only [List.head?_cons, Option.some.injEq] at e
        have := h1 x (by rw [hd]; simp)
        rw [e] at this
        exact absurd this.1 (by decide)
    have hun : unsg (Lib.decDigits u) = Lib.decDigits u := by unfold unsg; rw [if_neg hhd]
    unfold numF
    rw [hun, if_neg, if_neg hhd, h2]
    simp only [not_or, not_and]
    refine ⟨fun e => h3 (List.eq_nil_of_length_eq_zero e), by omega, fun e hl => ?_, ?_⟩
    · rcases Nat.eq_zero_or_pos u with h0 | h0
      · subst h0
        rw [Lib.decDigits, dif_pos (by omega)] at hl
        simp at hl
      · exact h4 h0 e
    · simp only [Bool.not_eq_false]
      exact List.all_eq_true.2 fun x hx => digB_iff.2 (h1 x hx)

end Go.Proofs.YtgdadbmhdljcdaaGreatDoor

/- The number that a text is, and the library's ParseInt: the plain law. -/
namespace Go.Proofs.YtgdadbmhdljcdaaGreatDoor
set_option linter.unusedVariables false
open Go.RowKit Go.Proofs.Bell Go.BigFrame

theorem parse_of_num {l : List UInt8} {z : Int} (h : numF l = some z) : Lib.parseIntB 64 l = .ok z := by
  unfold numF at h
  split at h
  · cases h
  · rename_i hn
    simp only [not_or, not_and] at hn
    obtain ⟨h0, h18, _, hd⟩ := hn
    have hd' : ∀ x ∈ unsg l, isDig x := fun x hx => digB_iff.1 (List.all_eq_true.1 (by simpa using hd) x hx)
    have hlt := dval_lt (unsg l) hd' 0
    have hp := pow18 (l := unsg l) (by omega)
    rw [Nat.zero_add, Nat.one_mul] at hlt
    have hpar := parse_dval (unsg l) 0 hd' (by omega)
    have hne : unsg l ≠ [] := fun e => h0 (by rw [e]; rfl)
    have hpu : Lib.parseUintB 64 (unsg l) = .ok (dval 0 (unsg l)) := by unfold Lib.parseUintB; rw [if_neg hne, hpar]
    cases l with
    | nil => exact absurd rfl hne
    | cons c r =>
      by_cases hs : c = 45
      · subst hs
        have hu : unsg (45 :: r) = r := by simp [unsg]
        rw [if_pos (show (45 :: r).head? = some 45 from rfl)] at h
        obtain rfl := Option.some.inj h
        rw [hu] at hpu hlt hp h ⊢
        unfold Lib.parseIntB
        simp only
        rw [if_pos (.inr (by decide)), hpu]
        simp only
        rw [if_neg (by intro e; exact e.1 (by decide)), if_neg (by intro e; have := e.2; omega), if_pos (by decide)]
      · have hh : ¬ (c :: r).head? = some 45 := fun e => hs (Option.some.inj e)
        have hu : unsg (c :: r) = c :: r := by unfold unsg; rw [if_neg hh]
        rw [if_neg hh] at h
        obtain rfl := Option.some.inj h
        rw [hu] at hpu hlt hd' hp ⊢
        have hc := hd' c (List.mem_cons_self ..)
        unfold isDig at hc
        unfold Lib.parseIntB
        simp only
        rw [if_neg (by omega), hpu]
        simp only
        rw [if_neg (by intro e; have := e.2; omega), if_neg (by intro e; omega), if_neg (by omega)]
/-- the text of a number whose digits are few is that number's text -/
theorem num_of_text {l : List UInt8} {z : Int} (h : Lib.itoa z = l) (hl : (unsg l).length ≤ 18) (hz : -9223372036854775808 ≤ z ∧ z ≤ 9223372036854775807) : numF l = some z := by
  subst h
  refine numF_itoa ?_
  have key : ∀ u : Nat, (Lib.decDigits u).length ≤ 18 → u < 1000000000000000000 := fun u hu => by
    obtain ⟨h1, h2, _, _⟩ := dec_dig u
    have := dval_lt _ h1 0
    have hp := pow18 hu
    rw [h2] at this
    omega
  unfold I18
  by_cases hn : z < 0
  · obtain ⟨u, hu, rfl⟩ : ∃ u : Nat, 1 ≤ u ∧ z = -(u : Int) := ⟨z.natAbs, by omega, by omega⟩
    rw [Lib.itoa_neg u hu] at hl
    have := key u (by simpa [unsg] using hl)
    omega
  · obtain ⟨u, rfl⟩ : ∃ u : Nat, z = (u : Int) := ⟨z.toNat, by omega⟩
    rw [Lib.itoa_nonneg] at hl
    obtain ⟨h1, _, h3, _⟩ := dec_dig u
    have hun : unsg (Lib.decDigits u) = Lib.decDigits u := by
      unfold unsg
      rw [if_neg]
      intro e
      cases hd : Lib.decDigits u with
      | nil => exact h3 hd
      | cons x r =>
        rw [hd] at e
        have e2 := Option.some.inj e
        have := h1 x (by rw [hd]; simp)
        rw [e2] at this
        exact absurd this.1 (by decide)
    rw [hun] at hl
    have := key u hl
    omega
theorem trim_unsg (l : List UInt8) : Lib.trimPrefix l [45] = unsg l := by
  unfold Lib.trimPrefix unsg Lib.hasPrefix
  cases l with
  | nil => rfl
  | cons x r =>
    by_cases h : x = 45
    · subst h; rfl
    · rw [if_neg, if_neg]
      · intro e; exact h (Option.some.inj e)
      · show ¬ ((((45 : UInt8) == x) && _) = true)
        rw [beq_eq_false_iff_ne.2 (Ne.symm h)]; simp

end Go.Proofs.YtgdadbmhdljcdaaGreatDoor

/- The number that a text is: the reference. -/
namespace Go.Proofs.YtgdadbmhdljcdaaGreatDoor
set_option linter.unusedVariables false
open Go.RowKit Go.Proofs.Bell Go.BigFrame

theorem numF_bad {l : List UInt8} (h : (unsg l).length = 0 ∨ 18 < (unsg l).length ∨ ((unsg l).head? = some 48 ∧ 1 < l.length) ∨ (unsg l).all digB = false) : numF l = none := by
  unfold numF
  rw [if_pos h]
theorem numF_ok {l : List UInt8} (h0 : (unsg l).length ≠ 0) (h1 : (unsg l).length ≤ 18) (h2 : ¬ ((unsg l).head? = some 48 ∧ 1 < l.length)) (h3 : (unsg l).all digB = true) :
    numF l = some (if l.head? = some 45 then -(dval 0 (unsg l) : Int) else (dval 0 (unsg l) : Int)) := by
  unfold numF
  rw [if_neg]
  simp only [not_or]
  exact ⟨h0, by omega, h2, by rw [h3]; simp⟩
theorem dpre_step {L : List UInt8} {A k : Nat} (hA : A ≤ k) (hk : k < L.length) : dval 0 ((L.take (k + 1)).drop A) = 10 * dval 0 ((L.take k).drop A) + (L[k].toNat - 48) := by
  rw [List.take_succ_eq_append_getElem hk, List.drop_append_of_le_length (by rw [List.length_take]; omega), dval_snoc]
theorem dpre_lt {L : List UInt8} {A k : Nat} (hk : k ≤ L.length) (h18 : L.length - A ≤ 18) (hd : ∀ j, A ≤ j → (h : j < k) → isDig (L[j]'(by omega))) : dval 0 ((L.take k).drop A) < 1000000000000000000 := by
  have h1 := dval_lt ((L.take k).drop A) (fun x hx => by
    obtain ⟨j, hj, rfl⟩ := List.getElem_of_mem hx
    rw [List.length_drop, List.length_take] at hj
    rw [List.getElem_drop, List.getElem_take]
    exact hd (A + j) (by omega) (by omega)) 0
  have h2 := pow18 (l := (L.take k).drop A) (by rw [List.length_drop, List.length_take]; omega)
  omega

end Go.Proofs.YtgdadbmhdljcdaaGreatDoor

