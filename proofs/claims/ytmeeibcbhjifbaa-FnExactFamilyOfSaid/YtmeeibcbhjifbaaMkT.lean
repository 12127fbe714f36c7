/- The law's mark as a text. -/
import Derived.Test.YtmeeibcbhjifbaaGA
import Derived.Lib.Hide
import Derived.Laws.BytesArg
namespace Go.Proofs.Ytmeeibcbhjifbaa
set_option linter.unusedVariables false
open Go.RowKit Go.Proofs.Bell Go.BigFrame

def mtD : Nat → Nat → ByteArray → ByteArray
  | 0, _, out => out
  | f + 1, k, out => if k = 0 then out else mtD f (k / 10) (⟨#[UInt8.ofNat (48 + k % 10)]⟩ ++ out)
def mkText (k : Nat) : ByteArray := if k = 0 then ⟨#[109, 48]⟩ else ⟨#[109]⟩ ++ mtD k k ⟨#[]⟩
theorem mtD_zero (f : Nat) (out : ByteArray) : mtD f 0 out = out := by cases f <;> simp [mtD]

set_option maxRecDepth 1000000 in
set_option maxHeartbeats 1600000 in
theorem markText_c (k : Nat) (w : World) (hk : k ≤ 1000000000) : Calls Try.prog 48 #[.int .i64 k] w (RetB (.string (mkText k)) w) := by
  rcases Nat.eq_zero_or_pos k with rfl | hp
  · go_enter Try.func48, Try.ntmps48
    go_wp2
    go_returns
    exact RetB.mk rfl (Below.refl _ _)
  · have he : mkText k = ⟨#[109]⟩ ++ mtD k k ⟨#[]⟩ := by unfold mkText; rw [if_neg (by omega)]
    rw [he]
    have t0 : decide ((k : Int) ≤ 0) = false := decide_eq_false (by omega)
    generalize hT : mtD k k ⟨#[]⟩ = T at *
    have HT := Lib.hid hT; clear hT
    clear he
    go_enter Try.func48, Try.ntmps48
    go_wp2_with fail
    go_loopw [0, 3] (fun n o wr => ∃ (m f : Nat) (out : ByteArray), n = .int .i64 m ∧ o = .string out ∧ m ≤ f ∧ out.size + f ≤ 1000000000 ∧ mtD f m out = T ∧ Below w.heap.size w wr) (fun n _ _ => (intOf n).toNat)
    case atStart => exact ⟨k, k, ⟨#[]⟩, rfl, rfl, Nat.le_refl _, by show 0 + k ≤ _; omega, HT.out, Below.refl _ _⟩
    case round =>
      obtain ⟨m, f, out, rfl, rfl, hf, hs, hm, hb⟩ := hrel
      rcases Nat.eq_zero_or_pos m with rfl | hmp
      · have e := mtD_zero f out
        rw [hm] at e
        subst e
        have t1 : decide ((0 : Int) < ((0 : Nat) : Int)) = false := rfl
        have hm1 : (⟨#[109]⟩ : ByteArray).size = 1 := rfl
        have hcat : (⟨#[109]⟩ : ByteArray).size + T.size ≤ 9223372036854775807 := by omega
        clear hm hm1
        go_wp2
        go_returns
        exact RetB.mk rfl hb
      · obtain ⟨f, rfl⟩ : ∃ f', f = f' + 1 := ⟨f - 1, by omega⟩
        rw [mtD, if_neg (by omega)] at hm
        have HM := Lib.hid hm; clear hm
        have t1 : decide (0 < m) = true := decide_eq_true hmp
        have hcv := run_convert_bytes_arg (P := Try.prog) (wr.alloc (.cells #[.int .u8 (48 + (m : Int) % 10)] 5)) 54 5 Try.underlying54 Try.underlying5 wr.heap.size 0 1 1 [48 + (m : Int) % 10] rfl (fun i hi => by
          obtain rfl : i = 0 := by omega
          simp [go_sem]) 9 Try.underlying9
        have hdg : strOfNums [48 + (m : Int) % 10] = ⟨#[UInt8.ofNat (48 + m % 10)]⟩ := by
          have : (48 + (m : Int) % 10).toNat = 48 + m % 10 := by omega
          simp [strOfNums, this]
        rw [hdg] at hcv
        have hm0 : 0 ≤ (m : Int) % 10 := by omega
        have hm9 : (m : Int) % 10 ≤ 9 := by omega
        have hsz : (⟨#[UInt8.ofNat (48 + m % 10)]⟩ ++ out : ByteArray).size + f ≤ 1000000000 := by
          have : (⟨#[UInt8.ofNat (48 + m % 10)]⟩ ++ out : ByteArray).size = 1 + out.size := by rw [ByteArray.size_append]; rfl
          omega
        have hds : (⟨#[UInt8.ofNat (48 + m % 10)]⟩ : ByteArray).size = 1 := rfl
        generalize (⟨#[UInt8.ofNat (48 + m % 10)]⟩ : ByteArray) = dg at *
        have hcat : dg.size + out.size ≤ 9223372036854775807 := by omega
        have HDS := Lib.hid hds; clear hds
        have HSZ := Lib.hid hsz; clear hsz
        clear hdg
        go_wp2
        go_roundw
        case rel => exact ⟨m / 10, f, _, by go_num, rfl, by omega, HSZ.out, HM.out, hb.alloc hb.size _⟩
        case measure => simp [intOf]; omega

end Go.Proofs.Ytmeeibcbhjifbaa
