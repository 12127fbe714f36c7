/- Digits and numbers: the plain law. -/
import Derived.Test.YtgdadbmhdljcdaaDoorTxtX
import Derived.Lib.ParseIntB
import Derived.Lib.ItoaNum
namespace Go.Proofs.YtgdadbmhdljcdaaDoor
set_option linter.unusedVariables false
open Go.RowKit Go.Proofs.Bell Go.BigFrame

def isDig (c : UInt8) : Prop := 48 ≤ c.toNat ∧ c.toNat ≤ 57
def dig (u : Nat) (c : UInt8) : Nat := 10 * u + (c.toNat - 48)
def dval (a : Nat) (l : List UInt8) : Nat := l.foldl dig a
theorem dval_nil (a : Nat) : dval a [] = a := rfl
theorem dval_cons (a : Nat) (c : UInt8) (r : List UInt8) : dval a (c :: r) = dval (10 * a + (c.toNat - 48)) r := by unfold dval; rw [List.foldl_cons]; unfold dig; exact Eq.refl _
theorem dval_app : ∀ (a : Nat) (l m : List UInt8), dval a (l ++ m) = dval (dval a l) m
  | _, [], _ => rfl
  | a, c :: r, m => by rw [List.cons_append, dval_cons, dval_cons, dval_app]
theorem dval_snoc (l : List UInt8) (c : UInt8) : dval 0 (l ++ [c]) = 10 * dval 0 l + (c.toNat - 48) := by rw [dval_app, dval_cons, dval_nil]
theorem dval_ge : ∀ (a : Nat) (l : List UInt8), a ≤ dval a l
  | _, [] => Nat.le_refl _
  | a, c :: r => by
    have := dval_ge (10 * a + (c.toNat - 48)) r
    rw [dval_cons]; omega
theorem dval_pos {l : List UInt8} {c : UInt8} {r : List UInt8} (e : l = c :: r) (hd : isDig c) (h : c ≠ 48) : 1 ≤ dval 0 l := by
  subst e
  have h1 := dval_ge (10 * 0 + (c.toNat - 48)) r
  have h2 : c.toNat ≠ 48 := fun e => h (UInt8.toNat_inj.1 (by rw [e]; rfl))
  unfold isDig at hd
  rw [dval_cons]; omega
theorem dval_lt : ∀ (l : List UInt8), (∀ x ∈ l, isDig x) → ∀ a, dval a l < (a + 1) * 10 ^ l.length
  | [], _, a => by simp [dval_nil]
  | c :: r, h, a => by
    have hc := h c (List.mem_cons_self ..)
    have ih := dval_lt r (fun x hx => h x (List.mem_cons_of_mem _ hx)) (10 * a + (c.toNat - 48))
    unfold isDig at hc
    rw [dval_cons, List.length_cons, Nat.pow_succ]
    have : (10 * a + (c.toNat - 48) + 1) * 10 ^ r.length ≤ (10 * (a + 1)) * 10 ^ r.length := Nat.mul_le_mul_right _ (by omega)
    have e : (a + 1) * (10 ^ r.length * 10) = (10 * (a + 1)) * 10 ^ r.length := by rw [Nat.mul_comm (10 ^ r.length) 10, ← Nat.mul_assoc, Nat.mul_comm (a + 1) 10]
    omega
/-- digits without a nought ahead are the digits of their value -/
theorem dec_of_dval : ∀ (n : Nat) (l : List UInt8), l.length = n → l ≠ [] → (∀ x ∈ l, isDig x) → (l.head? ≠ some 48 ∨ l.length = 1) → Lib.decDigits (dval 0 l) = l
  | 0, l, hn, h0, _, _ => absurd (List.eq_nil_of_length_eq_zero hn) h0
  | n + 1, l, hn, h0, hd, hh => by
    obtain ⟨ini, c, rfl⟩ : ∃ a c, l = a ++ [c] := ⟨l.dropLast, l.getLast h0, (List.dropLast_concat_getLast h0).symm⟩
    have hc := hd c (by simp)
    unfold isDig at hc
    have ec : ∀ u : Nat, u = c.toNat - 48 → UInt8.ofNat (48 + u) = c := fun u hu => UInt8.toNat_inj.1 (by rw [UInt8.toNat_ofNat']; omega)
    rw [dval_snoc]
    cases hi : ini with
    | nil =>
      show Lib.decDigits (10 * 0 + (c.toNat - 48)) = [] ++ [c]
      rw [Lib.decDigits, dif_pos (by omega), ec _ (by omega)]; rfl
    | cons x r =>
      have hlen : (ini ++ [c]).length ≠ 1 := by rw [hi]; simp
      have hx : (ini ++ [c]).head? = some x := by rw [hi]; rfl
      have hx48 : x ≠ 48 := fun e => by
        rcases hh with h | h
        · exact h (by rw [hx, e])
        · exact hlen h
      have hp := dval_pos hi (hd x (by rw [hi]; simp)) hx48
      have ih := dec_of_dval n ini (by simpa using hn) (by rw [hi]; simp) (fun y hy => hd y (List.mem_append_left _ hy)) (.inl (by rw [hi]; simpa using hx48))
      rw [← hi, Lib.decDigits, dif_neg (by omega), show (10 * dval 0 ini + (c.toNat - 48)) / 10 = dval 0 ini by omega, show (10 * dval 0 ini + (c.toNat - 48)) % 10 = c.toNat - 48 by omega, ih, ec _ rfl]
theorem toNat_dig {u : Nat} (h : u < 10) : (UInt8.ofNat (48 + u)).toNat = 48 + u := by rw [UInt8.toNat_ofNat']; omega
/-- what the digits of a number are -/
theorem dec_dig : ∀ (u : Nat), (∀ x ∈ Lib.decDigits u, isDig x) ∧ dval 0 (Lib.decDigits u) = u ∧ Lib.decDigits u ≠ [] ∧ (1 ≤ u → (Lib.decDigits u).head? ≠ some 48) := by
  intro u
  induction u using Nat.strongRecOn with
  | _ u ih =>
    rw [Lib.decDigits]
    by_cases h : u < 10
    · rw [dif_pos h]
      have e := toNat_dig h
      refine ⟨fun x hx => ?_, ?_, by simp, fun h1 => ?_⟩
      · rw [List.mem_singleton.1 hx]; unfold isDig; rw [e]; omega
      · show 10 * 0 + ((UInt8.ofNat (48 + u)).toNat - 48) = u
        rw [e]; omega
      · intro e2
        have e3 : UInt8.ofNat (48 + u) = 48 := by simpa using e2
        rw [e3] at e
        have : (48 : UInt8).toNat = 48 := rfl
        omega
    · rw [dif_neg h]
      obtain ⟨h1, h2, h3, h4⟩ := ih (u / 10) (by omega)
      have e := toNat_dig (Nat.mod_lt u (by omega : 0 < 10))
      refine ⟨fun x hx => ?_, ?_, by simp, fun _ => ?_⟩
      · rcases List.mem_append.1 hx with hx | hx
        · exact h1 x hx
        · rw [List.mem_singleton.1 hx]; unfold isDig; rw [e]; omega
      · rw [dval_snoc, h2, e]; omega
      · cases hh : Lib.decDigits (u / 10) with
        | nil => exact absurd hh h3
        | cons x r =>
          have := h4 (by omega)
          rw [hh] at this
          simpa using this
theorem dec_len {u k : Nat} (h : u < 10 ^ (k + 1)) : (Lib.decDigits u).length ≤ k + 1 := by
  induction k generalizing u with
  | zero => rw [Lib.decDigits, dif_pos (by simpa using h)]; simp
  | succ k ih =>
    rw [Lib.decDigits]
    split
    · simp
    · have := ih (u := u / 10) (by rw [Nat.pow_succ] at h; omega)
      simp; omega
/-- the library's reading of digits -/
theorem parse_dval : ∀ (l : List UInt8) (a : Nat), (∀ x ∈ l, isDig x) → dval a l ≤ 1000000000000000000 → Lib.parseUintM (2 ^ 64 - 1) a l = .ok (dval a l)
  | [], a, _, _ => rfl
  | c :: r, a, h, hb => by
    have hc := h c (List.mem_cons_self ..)
    unfold isDig at hc
    have hg := dval_ge (10 * a + (c.toNat - 48)) r
    rw [dval_cons] at hb ⊢
    rw [Lib.parseUintM, if_pos hc, if_neg (by omega), if_neg (by omega), show a * 10 + (c.toNat - 48) = 10 * a + (c.toNat - 48) by omega]
    exact parse_dval r _ (fun x hx => h x (List.mem_cons_of_mem _ hx)) hb
def I18 (z : Int) : Prop := -1000000000000000000 < z ∧ z < 1000000000000000000

end Go.Proofs.YtgdadbmhdljcdaaDoor
