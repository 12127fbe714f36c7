/- The number that a text is: the reference. -/
import Derived.Test.YtgdadbmhdljcdaaDoorGC
import Derived.Test.YtgdadbmhdljcdaaDoorTxtN2
namespace Go.Proofs.YtgdadbmhdljcdaaDoor
set_option linter.unusedVariables false
open Go.RowKit Go.Proofs.Bell Go.BigFrame

theorem numF_bad {l : List UInt8} (h : (unsg l).length = 0 ∨ 18 < (unsg l).length ∨ ((unsg l).head? = some 48 ∧ 1 < l.length) ∨ (unsg l).all digB = false) : numF l = none := by
  unfold numF
  rw [if_pos h]
theorem numF_ok {l : List UInt8} (h0 : (unsg l).length ≠ 0) (h1 : (unsg l).length ≤ 18) (h2 : ¬ ((unsg l).head? = some 48 ∧ 1 < l.length)) (h3 : (unsg l).all digB = true) :
    numF l = some (if l.head? = some 45 then -(dval 0 (unsg l) : Int) else (dval 0 (unsg l) : Int)) := by
  unfold numF
  rw [if_neg]
  simp only [not_or]
  exact ⟨h0, by omega, h2, by rw [h3]; simp⟩
theorem dpre_step {L : List UInt8} {A k : Nat} (hA : A ≤ k) (hk : k < L.length) : dval 0 ((L.take (k + 1)).drop A) = 10 * dval 0 ((L.take k).drop A) + (L[k].toNat - 48) := by
  rw [List.take_succ_eq_append_getElem hk, List.drop_append_of_le_length (by rw [List.length_take]; omega), dval_snoc]
theorem dpre_lt {L : List UInt8} {A k : Nat} (hk : k ≤ L.length) (h18 : L.length - A ≤ 18) (hd : ∀ j, A ≤ j → (h : j < k) → isDig (L[j]'(by omega))) : dval 0 ((L.take k).drop A) < 1000000000000000000 := by
  have h1 := dval_lt ((L.take k).drop A) (fun x hx => by
    obtain ⟨j, hj, rfl⟩ := List.getElem_of_mem hx
    rw [List.length_drop, List.length_take] at hj
    rw [List.getElem_drop, List.getElem_take]
    exact hd (A + j) (by omega) (by omega)) 0
  have h2 := pow18 (l := (L.take k).drop A) (by rw [List.length_drop, List.length_take]; omega)
  omega

set_option maxRecDepth 1000000 in
set_option maxHeartbeats 3200000 in
theorem l01Number_c (s : ByteArray) (w : World) (hs : s.size ≤ 2000000) : Calls Tryd.prog 77 #[.string s] w (RetS (.tuple #[.int .i64 ((numF (byteL s)).getD 0), .bool (numF (byteL s)).isSome]) w) := by
  have hbl := byteL_len s
  have hat := fun k (h : k < (byteL s).length) => byteAt_L h
  generalize hLs : byteL s = L at *
  have hF : ∀ z o, numF L = z → o = z → RetS (.tuple #[.int .i64 (z.getD 0), .bool z.isSome]) w = RetS (.tuple #[.int .i64 ((numF L).getD 0), .bool (numF L).isSome]) w := fun z o h _ => by rw [h]
  rcases Nat.eq_zero_or_pos s.size with hz | hz
  · have hn : numF L = none := numF_bad (.inl (by have : L = [] := List.eq_nil_of_length_eq_zero (by omega); rw [this]; rfl))
    rw [hn]
    go_enter Tryd.func77, Tryd.ntmps77
    go_wp2
    go_returns
    exact ⟨rfl, rfl⟩
  · have hL0 : 0 < L.length := by omega
    have hix0 := ixs hz 0 rfl
    rw [hat 0 hL0] at hix0
    have hhd : L.head? = some L[0] := by
      cases L with
      | nil => simp at hL0
      | cons x r => rfl
    have hzi : (0 : Int) < (s.size : Int) := by omega
    obtain ⟨A, hA⟩ : ∃ A : Nat, (L[0] = 45 ∧ A = 1) ∨ (L[0] ≠ 45 ∧ A = 0) := by
      by_cases h : L[0] = 45
      · exact ⟨1, .inl ⟨h, rfl⟩⟩
      · exact ⟨0, .inr ⟨h, rfl⟩⟩
    have hun : unsg L = L.drop A := by
      unfold unsg
      rw [hhd]
      rcases hA with ⟨h, rfl⟩ | ⟨h, rfl⟩
      · rw [if_pos (by rw [h]), List.drop_one]
      · rw [if_neg (by simpa using h)]; rfl
    have hulen : (unsg L).length = s.size - A := by rw [hun, List.length_drop]; omega
    have ht : (((L[0]).toNat : Int) == 45) = decide (A = 1) := by
      rcases hA with ⟨h, rfl⟩ | ⟨h, rfl⟩
      · rw [h]; rfl
      · exact beq_eq_false_iff_ne.2 (fun e => h (UInt8.toNat_inj.1 (by exact_mod_cast e)))
    have hA1 : A ≤ 1 := by omega
    have hneg : (L.head? = some 45) ↔ A = 1 := by
      rw [hhd]
      rcases hA with ⟨h, rfl⟩ | ⟨h, rfl⟩
      · simp [h]
      · simp [h]
    have hbd := fun k => byteAt_bd s k
    have hval : ∀ z o, numF L = z → RetS (.tuple #[.int .i64 (z.getD 0), .bool z.isSome]) w o = RetS (.tuple #[.int .i64 ((numF L).getD 0), .bool (numF L).isSome]) w o := fun z o h => by rw [h]
    rcases hA with ⟨he, rfl⟩ | ⟨he, rfl⟩
    · have ht' : (((L[0]).toNat : Int) == 45) = true := by rw [ht]; rfl
      clear ht
      have hsg : (if L.head? = some 45 then -(dval 0 (L.drop 1) : Int) else (dval 0 (L.drop 1) : Int)) = -(dval 0 (L.drop 1) : Int) := by
        rw [hhd]
        first | exact if_pos (by rw [he]) | exact if_neg (by simpa using he)
      by_cases c1 : s.size = 1
      · first
          | exact absurd c1 (by omega)
          | (have hn : numF L = none := numF_bad (.inl (by omega))
             rw [hn]
             have hq1 : ((s.size : Int) == 1) = true := by rw [c1]; rfl
             clear hF hat hun hulen hneg hhd hsg hbd hval he
             go_enter Tryd.func77, Tryd.ntmps77
             go_wp2
             go_returns
             exact ⟨rfl, rfl⟩)
      · have hq1 : ((s.size : Int) == 1) = false := beq_eq_false_iff_ne.2 (by omega)
        have hAL : 1 < L.length := by omega
        have hixA := ixs (s := s) (k := 1) (by omega) 1 rfl
        rw [hat 1 hAL] at hixA
        have huh : (unsg L).head? = some L[1] := by
          rw [hun]
          rw [List.drop_eq_getElem_cons hAL]; rfl
        by_cases c2 : 18 < s.size - 1
        · have hn : numF L = none := numF_bad (.inr (.inl (by omega)))
          rw [hn]
          have hq2 : decide ((18 : Int) < (s.size : Int) - 1) = true := by simp; omega
          clear hF hat hun hulen hneg hhd hsg hbd hval he huh
          go_enter Tryd.func77, Tryd.ntmps77
          go_wp2
          go_returns
          exact ⟨rfl, rfl⟩
        · have hq2 : decide ((18 : Int) < (s.size : Int) - 1) = false := by simp; omega
          by_cases c3 : L[1] = 48 ∧ 1 < s.size
          · have hn : numF L = none := numF_bad (.inr (.inr (.inl ⟨by rw [huh, c3.1], by omega⟩)))
            rw [hn]
            have hq3 : (((L[1]).toNat : Int) == 48) = true := by rw [c3.1]; rfl
            have hq4 : decide ((1 : Int) < (s.size : Int)) = true := by simp; omega
            have c4 := c3.2
            clear hF hat hun hulen hneg hhd hsg hbd hval he huh c3
            go_enter Tryd.func77, Tryd.ntmps77
            go_wp2
            go_returns
            exact ⟨rfl, rfl⟩
          · have h18 : L.length - 1 ≤ 18 := by omega
            have hq3 : ((((L[1]).toNat : Int) == 48) = false) ∨ ((((L[1]).toNat : Int) == 48) = true ∧ decide ((1 : Int) < (s.size : Int)) = false ∧ ¬ 1 < s.size) := by
              by_cases c5 : L[1] = 48
              · exact .inr ⟨by rw [c5]; rfl, decide_eq_false (fun h => c3 ⟨c5, by omega⟩), fun h => c3 ⟨c5, h⟩⟩
              · exact .inl (beq_eq_false_iff_ne.2 (fun e => c5 (UInt8.toNat_inj.1 (by exact_mod_cast e))))
            have hbad : ∀ k, 1 ≤ k → (h : k < L.length) → ¬ isDig L[k] → numF L = none := fun k hk h hd => numF_bad (.inr (.inr (.inr (by
              rw [hun, List.all_eq_false]
              refine ⟨L[k], ?_, fun e => hd (digB_iff.1 e)⟩
              rw [List.mem_iff_getElem]
              exact ⟨k - 1, by rw [List.length_drop]; omega, by rw [List.getElem_drop]; congr 1; omega⟩))))
            have hgood : (∀ j, 1 ≤ j → (h : j < L.length) → j < s.size → isDig L[j]) → numF L = some (-(dval 0 ((L.take s.size).drop 1) : Int)) := fun hd => by
              rw [numF_ok (l := L) (by rw [hulen]; omega) (by rw [hulen]; omega) (fun e => c3 ⟨by rw [huh] at e; exact Option.some.inj e.1, by omega⟩) (by
                rw [hun, List.all_eq_true]
                intro x hx
                obtain ⟨j, hj, rfl⟩ := List.getElem_of_mem hx
                have hj2 : j + 1 < L.length := by have := hj; rw [List.length_drop] at this; omega
                have hj3 : j + 1 < s.size := by omega
                rw [List.getElem_drop]
                exact digB_iff.2 (hd (1 + j) (by omega) (by omega) (by omega))), hun, hsg, List.take_of_length_le (by omega)]
            have hstep := fun k hk (h : k < L.length) => dpre_step (L := L) (A := 1) (k := k) hk h
            have hlt18 := fun k hk hd => dpre_lt (L := L) (A := 1) (k := k) hk h18 hd
            have hdz : dval 0 ((L.take 1).drop 1) = 0 := by rw [List.drop_of_length_le (by rw [List.length_take]; omega)]; rfl
            have HBAD := Lib.hid hbad; clear hbad
            have HGOOD := Lib.hid hgood; clear hgood
            have HSTEP := Lib.hid hstep; clear hstep
            have HLT := Lib.hid hlt18; clear hlt18
            have HDZ := Lib.hid hdz; clear hdz
            have HBL := Lib.hid hbl; clear hbl
            have HAT := Lib.hid hat; clear hat
            have HBD := Lib.hid hbd; clear hbd
            clear hF hun hulen hneg hhd hsg hval he huh c3 h18
            rcases hq3 with hq3 | ⟨hq3, hq4, hq5⟩ <;>
            · go_enter Tryd.func77, Tryd.ntmps77
              go_wp2_with fail
              go_loop [6, 5] (fun i n => ∃ (k : Nat), 1 ≤ k ∧ k ≤ s.size ∧ i = .int .i64 k ∧ n = .int .i64 (dval 0 ((L.take k).drop 1) : Nat) ∧ ∀ j, 1 ≤ j → (h : j < L.length) → j < k → isDig L[j]) (fun i _ => s.size - (intOf i).toNat)
              case atStart => exact ⟨1, Nat.le_refl _, by omega, rfl, by rw [HDZ.out]; rfl, fun j h1 _ h3 => absurd h1 (by omega)⟩
              case round =>
                obtain ⟨k, hAk, hk, rfl, rfl, hd⟩ := hrel
                have hlen := HBL.out
                have hb18 := HLT.out k (by omega) (fun j h1 h2 => hd j h1 (by omega) h2)
                by_cases hlt : k < s.size
                · have hkL : k < L.length := by omega
                  have hixk := ixs hlt k rfl
                  rw [HAT.out k hkL] at hixk
                  have hbk := HBD.out k
                  rw [HAT.out k hkL] at hbk
                  have hdc := l01Digit_c ((L[k]).toNat : Int) w hbk.1 hbk.2
                  by_cases hdg : isDig L[k]
                  · have hd2 : ∀ j, 1 ≤ j → (h : j < L.length) → j < k + 1 → isDig L[j] := fun j h1 h h3 => by
                      rcases Nat.lt_or_ge j k with h4 | h4
                      · exact hd j h1 h h4
                      · obtain rfl : j = k := by omega
                        exact hdg
                    have hb2 := HLT.out (k + 1) (by omega) (fun j h1 h2 => hd2 j h1 (by omega) h2)
                    have hst := HSTEP.out k hAk hkL
                    have hdt : digitB ((L[k]).toNat : Int) = true := by
                      unfold isDig at hdg
                      simp only [digitB, inB, Bool.and_eq_true, decide_eq_true_eq]; omega
                    rw [hdt] at hdc
                    unfold isDig at hdg
                    rw [hst] at hb2
                    generalize dval 0 ((L.take k).drop 1) = V at *
                    generalize (L[k]).toNat = x at *
                    have HD := Lib.hid hd; clear hd
                    have HD2 := Lib.hid hd2; clear hd2
                    have HDC := Lib.hid hdc; clear hdc
                    have HST := Lib.hid hst; clear hst
                    clear hdt hkL hlen
                    go_wp2_with (go_at_call 117; refine HDC.out.mono ?_; rintro _ _ ⟨rfl, rfl⟩)
                    exact ⟨⟨k + 1, by omega, by omega, by go_num, by rw [HST.out]; exact congrArg (Value.int .i64) (by omega), HD2.out⟩, by simp [intOf]; omega⟩
                  · have hn := HBAD.out k hAk hkL hdg
                    rw [hn]
                    have hdt : digitB ((L[k]).toNat : Int) = false := by
                      rw [← Bool.not_eq_true]
                      intro e
                      apply hdg
                      simp only [digitB, inB, Bool.and_eq_true, decide_eq_true_eq] at e
                      unfold isDig
                      omega
                    rw [hdt] at hdc
                    generalize dval 0 ((L.take k).drop 1) = V at *
                    generalize (L[k]).toNat = x at *
                    have HD := Lib.hid hd; clear hd
                    have HDC := Lib.hid hdc; clear hdc
                    have HN := Lib.hid hn; clear hn
                    clear hdt hdg hkL hlen
                    go_wp2_with (go_at_call 117; refine HDC.out.mono ?_; rintro _ _ ⟨rfl, rfl⟩)
                    go_returns
                    first | exact ⟨rfl, rfl⟩ | exact ⟨by rw [HN.out]; rfl, rfl⟩
                · obtain rfl : k = s.size := by omega
                  have hn := HGOOD.out (fun j h1 h h3 => hd j h1 h h3)
                  generalize dval 0 ((L.take s.size).drop 1) = V at *
                  have HD := Lib.hid hd; clear hd
                  have HN := Lib.hid hn; clear hn
                  clear hlen
                  go_wp2
                  go_returns
                  exact ⟨by rw [HN.out]; rfl, rfl⟩
    · have ht' : (((L[0]).toNat : Int) == 45) = false := by rw [ht]; rfl
      clear ht
      have hsg : (if L.head? = some 45 then -(dval 0 (L.drop 0) : Int) else (dval 0 (L.drop 0) : Int)) = (dval 0 (L.drop 0) : Int) := by
        rw [hhd]
        first | exact if_pos (by rw [he]) | exact if_neg (by simpa using he)
      by_cases c1 : s.size = 0
      · first
          | exact absurd c1 (by omega)
          | (have hn : numF L = none := numF_bad (.inl (by omega))
             rw [hn]
             have hq1 : ((s.size : Int) == 0) = true := by rw [c1]; rfl
             clear hF hat hun hulen hneg hhd hsg hbd hval he
             go_enter Tryd.func77, Tryd.ntmps77
             go_wp2
             go_returns
             exact ⟨rfl, rfl⟩)
      · have hq1 : ((s.size : Int) == 0) = false := beq_eq_false_iff_ne.2 (by omega)
        have hAL : 0 < L.length := by omega
        have hixA := ixs (s := s) (k := 0) (by omega) 0 rfl
        rw [hat 0 hAL] at hixA
        have huh : (unsg L).head? = some L[0] := by
          rw [hun]
          rw [List.drop_eq_getElem_cons hAL]; rfl
        by_cases c2 : 18 < s.size - 0
        · have hn : numF L = none := numF_bad (.inr (.inl (by omega)))
          rw [hn]
          have hq2 : decide ((18 : Int) < (s.size : Int)) = true := by simp; omega
          clear hF hat hun hulen hneg hhd hsg hbd hval he huh
          go_enter Tryd.func77, Tryd.ntmps77
          go_wp2
          go_returns
          exact ⟨rfl, rfl⟩
        · have hq2 : decide ((18 : Int) < (s.size : Int)) = false := by simp; omega
          by_cases c3 : L[0] = 48 ∧ 1 < s.size
          · have hn : numF L = none := numF_bad (.inr (.inr (.inl ⟨by rw [huh, c3.1], by omega⟩)))
            rw [hn]
            have hq3 : (((L[0]).toNat : Int) == 48) = true := by rw [c3.1]; rfl
            have hq4 : decide ((1 : Int) < (s.size : Int)) = true := by simp; omega
            have c4 := c3.2
            clear hF hat hun hulen hneg hhd hsg hbd hval he huh c3
            go_enter Tryd.func77, Tryd.ntmps77
            go_wp2
            go_returns
            exact ⟨rfl, rfl⟩
          · have h18 : L.length - 0 ≤ 18 := by omega
            have hq3 : ((((L[0]).toNat : Int) == 48) = false) ∨ ((((L[0]).toNat : Int) == 48) = true ∧ decide ((1 : Int) < (s.size : Int)) = false ∧ ¬ 1 < s.size) := by
              by_cases c5 : L[0] = 48
              · exact .inr ⟨by rw [c5]; rfl, decide_eq_false (fun h => c3 ⟨c5, by omega⟩), fun h => c3 ⟨c5, h⟩⟩
              · exact .inl (beq_eq_false_iff_ne.2 (fun e => c5 (UInt8.toNat_inj.1 (by exact_mod_cast e))))
            have hbad : ∀ k, 0 ≤ k → (h : k < L.length) → ¬ isDig L[k] → numF L = none := fun k hk h hd => numF_bad (.inr (.inr (.inr (by
              rw [hun, List.all_eq_false]
              refine ⟨L[k], ?_, fun e => hd (digB_iff.1 e)⟩
              rw [List.mem_iff_getElem]
              exact ⟨k - 0, by rw [List.length_drop]; omega, by rw [List.getElem_drop]; congr 1; omega⟩))))
            have hgood : (∀ j, 0 ≤ j → (h : j < L.length) → j < s.size → isDig L[j]) → numF L = some ((dval 0 ((L.take s.size).drop 0) : Int)) := fun hd => by
              rw [numF_ok (l := L) (by rw [hulen]; omega) (by rw [hulen]; omega) (fun e => c3 ⟨by rw [huh] at e; exact Option.some.inj e.1, by omega⟩) (by
                rw [hun, List.all_eq_true]
                intro x hx
                obtain ⟨j, hj, rfl⟩ := List.getElem_of_mem hx
                have hj2 : j + 0 < L.length := by have := hj; rw [List.length_drop] at this; omega
                have hj3 : j + 0 < s.size := by omega
                rw [List.getElem_drop]
                exact digB_iff.2 (hd (0 + j) (by omega) (by omega) (by omega))), hun, hsg, List.take_of_length_le (by omega)]
            have hstep := fun k hk (h : k < L.length) => dpre_step (L := L) (A := 0) (k := k) hk h
            have hlt18 := fun k hk hd => dpre_lt (L := L) (A := 0) (k := k) hk h18 hd
            have hdz : dval 0 ((L.take 0).drop 0) = 0 := by rw [List.drop_of_length_le (by rw [List.length_take]; omega)]; rfl
            have HBAD := Lib.hid hbad; clear hbad
            have HGOOD := Lib.hid hgood; clear hgood
            have HSTEP := Lib.hid hstep; clear hstep
            have HLT := Lib.hid hlt18; clear hlt18
            have HDZ := Lib.hid hdz; clear hdz
            have HBL := Lib.hid hbl; clear hbl
            have HAT := Lib.hid hat; clear hat
            have HBD := Lib.hid hbd; clear hbd
            clear hF hun hulen hneg hhd hsg hval he huh c3 h18
            rcases hq3 with hq3 | ⟨hq3, hq4, hq5⟩ <;>
            · go_enter Tryd.func77, Tryd.ntmps77
              go_wp2_with fail
              go_loop [6, 5] (fun i n => ∃ (k : Nat), 0 ≤ k ∧ k ≤ s.size ∧ i = .int .i64 k ∧ n = .int .i64 (dval 0 ((L.take k).drop 0) : Nat) ∧ ∀ j, 0 ≤ j → (h : j < L.length) → j < k → isDig L[j]) (fun i _ => s.size - (intOf i).toNat)
              case atStart => exact ⟨0, Nat.le_refl _, by omega, rfl, by rw [HDZ.out]; rfl, fun j h1 _ h3 => absurd h1 (by omega)⟩
              case round =>
                obtain ⟨k, hAk, hk, rfl, rfl, hd⟩ := hrel
                have hlen := HBL.out
                have hb18 := HLT.out k (by omega) (fun j h1 h2 => hd j h1 (by omega) h2)
                by_cases hlt : k < s.size
                · have hkL : k < L.length := by omega
                  have hixk := ixs hlt k rfl
                  rw [HAT.out k hkL] at hixk
                  have hbk := HBD.out k
                  rw [HAT.out k hkL] at hbk
                  have hdc := l01Digit_c ((L[k]).toNat : Int) w hbk.1 hbk.2
                  by_cases hdg : isDig L[k]
                  · have hd2 : ∀ j, 0 ≤ j → (h : j < L.length) → j < k + 1 → isDig L[j] := fun j h1 h h3 => by
                      rcases Nat.lt_or_ge j k with h4 | h4
                      · exact hd j h1 h h4
                      · obtain rfl : j = k := by omega
                        exact hdg
                    have hb2 := HLT.out (k + 1) (by omega) (fun j h1 h2 => hd2 j h1 (by omega) h2)
                    have hst := HSTEP.out k hAk hkL
                    have hdt : digitB ((L[k]).toNat : Int) = true := by
                      unfold isDig at hdg
                      simp only [digitB, inB, Bool.and_eq_true, decide_eq_true_eq]; omega
                    rw [hdt] at hdc
                    unfold isDig at hdg
                    rw [hst] at hb2
                    generalize dval 0 ((L.take k).drop 0) = V at *
                    generalize (L[k]).toNat = x at *
                    have HD := Lib.hid hd; clear hd
                    have HD2 := Lib.hid hd2; clear hd2
                    have HDC := Lib.hid hdc; clear hdc
                    have HST := Lib.hid hst; clear hst
                    clear hdt hkL hlen
                    go_wp2_with (go_at_call 117; refine HDC.out.mono ?_; rintro _ _ ⟨rfl, rfl⟩)
                    exact ⟨⟨k + 1, by omega, by omega, by go_num, by rw [HST.out]; exact congrArg (Value.int .i64) (by omega), HD2.out⟩, by simp [intOf]; omega⟩
                  · have hn := HBAD.out k hAk hkL hdg
                    rw [hn]
                    have hdt : digitB ((L[k]).toNat : Int) = false := by
                      rw [← Bool.not_eq_true]
                      intro e
                      apply hdg
                      simp only [digitB, inB, Bool.and_eq_true, decide_eq_true_eq] at e
                      unfold isDig
                      omega
                    rw [hdt] at hdc
                    generalize dval 0 ((L.take k).drop 0) = V at *
                    generalize (L[k]).toNat = x at *
                    have HD := Lib.hid hd; clear hd
                    have HDC := Lib.hid hdc; clear hdc
                    have HN := Lib.hid hn; clear hn
                    clear hdt hdg hkL hlen
                    go_wp2_with (go_at_call 117; refine HDC.out.mono ?_; rintro _ _ ⟨rfl, rfl⟩)
                    go_returns
                    first | exact ⟨rfl, rfl⟩ | exact ⟨by rw [HN.out]; rfl, rfl⟩
                · obtain rfl : k = s.size := by omega
                  have hn := HGOOD.out (fun j h1 h h3 => hd j h1 h h3)
                  generalize dval 0 ((L.take s.size).drop 0) = V at *
                  have HD := Lib.hid hd; clear hd
                  have HN := Lib.hid hn; clear hn
                  clear hlen
                  go_wp2
                  go_returns
                  exact ⟨by rw [HN.out]; rfl, rfl⟩

end Go.Proofs.YtgdadbmhdljcdaaDoor
