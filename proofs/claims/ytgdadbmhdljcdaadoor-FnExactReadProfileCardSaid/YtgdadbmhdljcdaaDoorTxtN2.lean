/- The number that a text is: the plain law. -/
import Derived.Test.YtgdadbmhdljcdaaDoorTxtN
namespace Go.Proofs.YtgdadbmhdljcdaaDoor
set_option linter.unusedVariables false
open Go.RowKit Go.Proofs.Bell Go.BigFrame

def digB (c : UInt8) : Bool := decide (48 ≤ c.toNat) && decide (c.toNat ≤ 57)
theorem digB_iff {c : UInt8} : digB c = true ↔ isDig c := by simp [digB, isDig]
/-- the text behind its sign -/
def unsg (l : List UInt8) : List UInt8 := if l.head? = some 45 then l.tail else l
def numF (l : List UInt8) : Option Int :=
  if (unsg l).length = 0 ∨ 18 < (unsg l).length ∨ ((unsg l).head? = some 48 ∧ 1 < l.length) ∨ (unsg l).all digB = false then none
  else some (if l.head? = some 45 then -(dval 0 (unsg l) : Int) else (dval 0 (unsg l) : Int))
theorem pow18 {l : List UInt8} (h : l.length ≤ 18) : 10 ^ l.length ≤ 1000000000000000000 := by
  have : 10 ^ l.length ≤ 10 ^ 18 := Nat.pow_le_pow_right (by omega) h
  omega
theorem numF_some {l : List UInt8} {z : Int} (h : numF l = some z) : I18 z ∧ Lib.itoa z = l := by
  unfold numF at h
  split at h
  · cases h
  · rename_i hn
    simp only [not_or, not_and] at hn
    obtain ⟨h0, h18, hh, hd⟩ := hn
    have hd' : ∀ x ∈ unsg l, isDig x := fun x hx => digB_iff.1 (List.all_eq_true.1 (by simpa using hd) x hx)
    have hne : unsg l ≠ [] := fun e => h0 (by rw [e]; rfl)
    have hlt := dval_lt (unsg l) hd' 0
    have hp := pow18 (l := unsg l) (by omega)
    rw [Nat.zero_add, Nat.one_mul] at hlt
    by_cases hs : l.head? = some 45
    · rw [if_pos hs] at h
      obtain rfl := Option.some.inj h
      have hl : l = 45 :: unsg l := by
        unfold unsg
        rw [if_pos hs]
        cases l with
        | nil => cases hs
        | cons x r => simp only [List.head?_cons, Option.some.injEq] at hs; rw [hs]; rfl
      have hl1 : 1 < l.length := by
        have := congrArg List.length hl
        rw [List.length_cons] at this
        omega
      have h48 : (unsg l).head? ≠ some 48 := fun e => hh e hl1
      have hdec := dec_of_dval _ (unsg l) rfl hne hd' (.inl h48)
      have hpos : 1 ≤ dval 0 (unsg l) := by
        cases hu : unsg l with
        | nil => exact absurd hu hne
        | cons x r =>
          rw [← hu]
          exact dval_pos hu (hd' x (by rw [hu]; simp)) (fun e => h48 (by rw [hu, e]; rfl))
      refine ⟨by unfold I18; omega, ?_⟩
      rw [Lib.itoa_neg _ hpos, hdec, ← hl]
    · rw [if_neg hs] at h
      obtain rfl := Option.some.inj h
      have hl : unsg l = l := by unfold unsg; rw [if_neg hs]
      rw [hl] at hne hd' hh h0 h18 hlt hp ⊢
      have hdec := dec_of_dval _ l rfl hne hd' (by
        by_cases h1 : l.length = 1
        · exact .inr h1
        · exact .inl (fun e => hh e (by omega)))
      refine ⟨by unfold I18; omega, ?_⟩
      rw [Lib.itoa_nonneg, hdec]
theorem numF_itoa {z : Int} (h : I18 z) : numF (Lib.itoa z) = some z := by
  unfold I18 at h
  by_cases hz : z < 0
  · obtain ⟨u, hu, rfl⟩ : ∃ u : Nat, 1 ≤ u ∧ z = -(u : Int) := ⟨z.natAbs, by omega, by omega⟩
    obtain ⟨h1, h2, h3, h4⟩ := dec_dig u
    have hlen := dec_len (u := u) (k := 17) (by omega)
    rw [Lib.itoa_neg u hu]
    have hun : unsg (45 :: Lib.decDigits u) = Lib.decDigits u := by simp [unsg]
    unfold numF
    rw [hun, if_neg, if_pos (show (45 :: Lib.decDigits u).head? = some 45 from rfl), h2]
    simp only [not_or, not_and]
    refine ⟨fun e => h3 (List.eq_nil_of_length_eq_zero e), by omega, fun e => absurd e (h4 hu), ?_⟩
    simp only [Bool.not_eq_false]
    exact List.all_eq_true.2 fun x hx => digB_iff.2 (h1 x hx)
  · obtain ⟨u, rfl⟩ : ∃ u : Nat, z = (u : Int) := ⟨z.toNat, by omega⟩
    obtain ⟨h1, h2, h3, h4⟩ := dec_dig u
    have hlen := dec_len (u := u) (k := 17) (by omega)
    rw [Lib.itoa_nonneg]
    have hhd : (Lib.decDigits u).head? ≠ some 45 := fun e => by
      cases hd : Lib.decDigits u with
      | nil => exact h3 hd
      | cons x r =>
        rw [hd] at e
        simp only [List.head?_cons, Option.some.injEq] at e
        have := h1 x (by rw [hd]; simp)
        rw [e] at this
        exact absurd this.1 (by decide)
    have hun : unsg (Lib.decDigits u) = Lib.decDigits u := by unfold unsg; rw [if_neg hhd]
    unfold numF
    rw [hun, if_neg, if_neg hhd, h2]
    simp only [not_or, not_and]
    refine ⟨fun e => h3 (List.eq_nil_of_length_eq_zero e), by omega, fun e hl => ?_, ?_⟩
    · rcases Nat.eq_zero_or_pos u with h0 | h0
      · subst h0
        rw [Lib.decDigits, dif_pos (by omega)] at hl
        simp at hl
      · exact h4 h0 e
    · simp only [Bool.not_eq_false]
      exact List.all_eq_true.2 fun x hx => digB_iff.2 (h1 x hx)

end Go.Proofs.YtgdadbmhdljcdaaDoor
