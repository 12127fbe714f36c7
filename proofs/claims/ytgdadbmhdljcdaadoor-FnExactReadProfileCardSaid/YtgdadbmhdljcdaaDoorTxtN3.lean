/- The number that a text is, and the library's ParseInt: the plain law. -/
import Derived.Test.YtgdadbmhdljcdaaDoorTxtN2
import Derived.Lib.Strings
namespace Go.Proofs.YtgdadbmhdljcdaaDoor
set_option linter.unusedVariables false
open Go.RowKit Go.Proofs.Bell Go.BigFrame

theorem parse_of_num {l : List UInt8} {z : Int} (h : numF l = some z) : Lib.parseIntB 64 l = .ok z := by
  unfold numF at h
  split at h
  · cases h
  · rename_i hn
    simp only [not_or, not_and] at hn
    obtain ⟨h0, h18, _, hd⟩ := hn
    have hd' : ∀ x ∈ unsg l, isDig x := fun x hx => digB_iff.1 (List.all_eq_true.1 (by simpa using hd) x hx)
    have hlt := dval_lt (unsg l) hd' 0
    have hp := pow18 (l := unsg l) (by omega)
    rw [Nat.zero_add, Nat.one_mul] at hlt
    have hpar := parse_dval (unsg l) 0 hd' (by omega)
    have hne : unsg l ≠ [] := fun e => h0 (by rw [e]; rfl)
    have hpu : Lib.parseUintB 64 (unsg l) = .ok (dval 0 (unsg l)) := by unfold Lib.parseUintB; rw [if_neg hne, hpar]
    cases l with
    | nil => exact absurd rfl hne
    | cons c r =>
      by_cases hs : c = 45
      · subst hs
        have hu : unsg (45 :: r) = r := by simp [unsg]
        rw [if_pos (show (45 :: r).head? = some 45 from rfl)] at h
        obtain rfl := Option.some.inj h
        rw [hu] at hpu hlt hp h ⊢
        unfold Lib.parseIntB
        simp only
        rw [if_pos (.inr (by decide)), hpu]
        simp only
        rw [if_neg (by intro e; exact e.1 (by decide)), if_neg (by intro e; have := e.2; omega), if_pos (by decide)]
      · have hh : ¬ (c :: r).head? = some 45 := fun e => hs (Option.some.inj e)
        have hu : unsg (c :: r) = c :: r := by unfold unsg; rw [if_neg hh]
        rw [if_neg hh] at h
        obtain rfl := Option.some.inj h
        rw [hu] at hpu hlt hd' hp ⊢
        have hc := hd' c (List.mem_cons_self ..)
        unfold isDig at hc
        unfold Lib.parseIntB
        simp only
        rw [if_neg (by omega), hpu]
        simp only
        rw [if_neg (by intro e; have := e.2; omega), if_neg (by intro e; omega), if_neg (by omega)]
/-- the text of a number whose digits are few is that number's text -/
theorem num_of_text {l : List UInt8} {z : Int} (h : Lib.itoa z = l) (hl : (unsg l).length ≤ 18) (hz : -9223372036854775808 ≤ z ∧ z ≤ 9223372036854775807) : numF l = some z := by
  subst h
  refine numF_itoa ?_
  have key : ∀ u : Nat, (Lib.decDigits u).length ≤ 18 → u < 1000000000000000000 := fun u hu => by
    obtain ⟨h1, h2, _, _⟩ := dec_dig u
    have := dval_lt _ h1 0
    have hp := pow18 hu
    rw [h2] at this
    omega
  unfold I18
  by_cases hn : z < 0
  · obtain ⟨u, hu, rfl⟩ : ∃ u : Nat, 1 ≤ u ∧ z = -(u : Int) := ⟨z.natAbs, by omega, by omega⟩
    rw [Lib.itoa_neg u hu] at hl
    have := key u (by simpa [unsg] using hl)
    omega
  · obtain ⟨u, rfl⟩ : ∃ u : Nat, z = (u : Int) := ⟨z.toNat, by omega⟩
    rw [Lib.itoa_nonneg] at hl
    obtain ⟨h1, _, h3, _⟩ := dec_dig u
    have hun : unsg (Lib.decDigits u) = Lib.decDigits u := by
      unfold unsg
      rw [if_neg]
      intro e
      cases hd : Lib.decDigits u with
      | nil => exact h3 hd
      | cons x r =>
        rw [hd] at e
        have e2 := Option.some.inj e
        have := h1 x (by rw [hd]; simp)
        rw [e2] at this
        exact absurd this.1 (by decide)
    rw [hun] at hl
    have := key u hl
    omega
theorem trim_unsg (l : List UInt8) : Lib.trimPrefix l [45] = unsg l := by
  unfold Lib.trimPrefix unsg Lib.hasPrefix
  cases l with
  | nil => rfl
  | cons x r =>
    by_cases h : x = 45
    · subst h; rfl
    · rw [if_neg, if_neg]
      · intro e; exact h (Option.some.inj e)
      · show ¬ ((((45 : UInt8) == x) && _) = true)
        rw [beq_eq_false_iff_ne.2 (Ne.symm h)]; simp

end Go.Proofs.YtgdadbmhdljcdaaDoor
