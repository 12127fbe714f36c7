/- Numbers read from texts: the program's ReadDecimal. -/
import Derived.Test.YtgdadbmhdljcdaaDoorTxtW
namespace Go.Proofs.YtgdadbmhdljcdaaDoor
set_option linter.unusedVariables false
open Go.RowKit Go.Proofs.Bell Go.BigFrame

theorem Trim_c (s : ByteArray) (w : World) : Calls Tryd.prog 119 #[.string s, .string ⟨#[45]⟩] w (RetS (.string (str (unsg (byteL s)))) w) := by
  have h := Tryd.strings_TrimPrefix s ⟨#[45]⟩ w
  rw [show (⟨#[45]⟩ : ByteArray).data.toList = [45] from rfl, show s.data.toList = byteL s from rfl, trim_unsg] at h
  exact h.mono fun e w' ⟨h1, h2⟩ => ⟨h1, h2.symm⟩
theorem numF_long {l : List UInt8} (h : (unsg l).length = 0 ∨ 18 < (unsg l).length) : numF l = none := by
  unfold numF
  rw [if_pos (by omega)]

set_option maxRecDepth 1000000 in
set_option maxHeartbeats 1600000 in
theorem ReadDecimal_c (s : ByteArray) (w : World) (hs : s.size ≤ 2000000) (hr : RTab w) :
    Calls Tryd.prog 79 #[.string s] w (RetB (.tuple #[.int .i64 ((numF (byteL s)).getD 0), .bool (numF (byteL s)).isSome]) w) := by
  have ht := Trim_c s w
  have hp := Parse_c s w hs hr
  have hN := str_size (unsg (byteL s))
  by_cases c1 : (unsg (byteL s)).length = 0
  · rw [numF_long (.inl c1)]
    rw [c1] at hN
    have hq : decide ((0 : Int) < 1) = true := rfl
    clear hp c1
    generalize str (unsg (byteL s)) = D at *
    have HT := Lib.hid ht; clear ht
    go_enter Tryd.func79, Tryd.ntmps79
    go_wp2_with fail
    refine HT.out.mono ?_
    rintro _ _ ⟨rfl, rfl⟩
    go_wp2
    go_returns
    exact RetB.mk rfl (Below.refl _ _)
  · by_cases c2 : 18 < (unsg (byteL s)).length
    · rw [numF_long (.inr c2)]
      have hq1 : decide (((str (unsg (byteL s))).size : Int) < 1) = false := by rw [hN]; simp; omega
      have hq2 : decide ((18 : Int) < ((str (unsg (byteL s))).size : Int)) = true := by rw [hN]; simp; omega
      clear hp c1 c2 hN
      generalize str (unsg (byteL s)) = D at *
      have HT := Lib.hid ht; clear ht
      go_enter Tryd.func79, Tryd.ntmps79
      go_wp2_with fail
      refine HT.out.mono ?_
      rintro _ _ ⟨rfl, rfl⟩
      go_wp2
      go_returns
      exact RetB.mk rfl (Below.refl _ _)
    · have hq1 : decide (((str (unsg (byteL s))).size : Int) < 1) = false := by rw [hN]; simp; omega
      have hq2 : decide ((18 : Int) < ((str (unsg (byteL s))).size : Int)) = false := by rw [hN]; simp; omega
      have hpv : ∀ z, Lib.parseIntB 64 (byteL s) = .ok z → numF (byteL s) = if Lib.itoa z = byteL s then some z else none := fun z h => numF_of_parse h (by omega)
      have hpn : (∀ v, Lib.parseIntB 64 (byteL s) ≠ .ok v) → numF (byteL s) = none := numF_no_parse
      have hbd : ∀ z, Lib.parseIntB 64 (byteL s) = .ok z → -9223372036854775808 ≤ z ∧ z ≤ 9223372036854775807 := fun z => parse_bd
      have hde : ∀ (z : Int) w', Below w.heap.size w w' → -9223372036854775808 ≤ z ∧ z ≤ 9223372036854775807 → Calls Tryd.prog 57 #[.int .i64 z] w' (RetB (.string (decB z)) w') := fun z w' hb h => Decimal_c z h.1 h.2 w' (hr.later hb).1
      have hst : ∀ z : Int, Lib.itoa z = byteL s ↔ decB z = s := fun z => by
        rw [decB_str]
        constructor
        · intro e; rw [e, str_byteL]
        · intro e; rw [← e, byteL_str]
      clear c1 c2 hN hr
      unfold ParseR at hp
      generalize str (unsg (byteL s)) = D at *
      generalize numF (byteL s) = RES at *
      have HT := Lib.hid ht; clear ht
      have HP := Lib.hid hp; clear hp
      have HPV := Lib.hid hpv; clear hpv
      have HPN := Lib.hid hpn; clear hpn
      have HBD := Lib.hid hbd; clear hbd
      have HDE := Lib.hid hde; clear hde
      have HST := Lib.hid hst; clear hst
      go_enter Tryd.func79, Tryd.ntmps79
      go_wp2_with fail
      refine HT.out.mono ?_
      rintro _ _ ⟨rfl, rfl⟩
      go_wp2_with fail
      refine HP.out.mono ?_
      rintro _ w1 ⟨⟨n, x, rfl, ⟨hok, rfl⟩ | ⟨hno, t, p, rfl⟩⟩, b1⟩
      · have hv := HPV.out n hok
        have hd := HDE.out n w1 b1 (HBD.out n hok)
        have he := HST.out n
        by_cases c3 : decB n = s
        · rw [if_pos (he.2 c3)] at hv
          subst c3
          have HV := Lib.hid hv; clear hv
          have HD := Lib.hid hd; clear hd
          clear he hok
          go_wp2_with fail
          refine HD.out.mono ?_
          rintro _ w2 ⟨rfl, b2⟩
          go_wp2
          go_returns
          exact RetB.mk (by rw [HV.out]; rfl) (b1.trans (b2.mono b1.size))
        · rw [if_neg (fun e => c3 (he.1 e))] at hv
          have HV := Lib.hid hv; clear hv
          have HD := Lib.hid hd; clear hd
          clear he hok
          have hne : ((decB n).toList == s.toList) = false := by rw [toL_eq]; exact decide_eq_false c3
          generalize decB n = DD at *
          go_wp2_with fail
          refine HD.out.mono ?_
          rintro _ w2 ⟨rfl, b2⟩
          go_wp2
          go_returns
          exact RetB.mk (by rw [HV.out]; rfl) (b1.trans (b2.mono b1.size))
      · have hv := HPN.out hno
        have HV := Lib.hid hv; clear hv
        clear hno
        go_wp2
        go_returns
        exact RetB.mk (by rw [HV.out]; rfl) b1

end Go.Proofs.YtgdadbmhdljcdaaDoor
