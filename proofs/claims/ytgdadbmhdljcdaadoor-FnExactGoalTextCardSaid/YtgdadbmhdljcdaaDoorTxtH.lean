/- Frequencies as texts: padded numbers, and both functions. -/
import Derived.Test.YtgdadbmhdljcdaaDoorGoals
import Derived.Test.YtgdadbmhdljcdaaDoorTxtD
import Derived.Test.YtgdadbmhdljcdaaDoorTxtR
import Derived.BigQuiet
namespace Go.Proofs.YtgdadbmhdljcdaaDoor
set_option linter.unusedVariables false
open Go.RowKit Go.Proofs.Bell Go.BigFrame

def pad3 (r : Nat) : List UInt8 := (Lib.itoa ((1000 + r : Nat) : Int)).drop 1
theorem itoa_1000 {r : Nat} (h : r < 1000) : Lib.itoa ((1000 + r : Nat) : Int) = [49, UInt8.ofNat (48 + r / 100), UInt8.ofNat (48 + r / 10 % 10), UInt8.ofNat (48 + r % 10)] := by
  rw [Lib.itoa_nonneg, Lib.decDigits, dif_neg (by omega), Lib.decDigits, dif_neg (by omega), Lib.decDigits, dif_neg (by omega), Lib.decDigits, dif_pos (by omega)]
  rw [show (1000 + r) / 10 / 10 / 10 = 1 by omega, show (1000 + r) / 10 / 10 % 10 = r / 100 by omega, show (1000 + r) / 10 % 10 = r / 10 % 10 by omega, show (1000 + r) % 10 = r % 10 by omega]
  rfl
theorem itoa_3 {r : Nat} (h : r < 1000) : ∃ L, (Lib.itoa (r : Int)).length = L ∧ 1 ≤ L ∧ L ≤ 3 ∧ pad3 r = List.replicate (3 - L) 48 ++ Lib.itoa (r : Int) := by
  unfold pad3
  rw [itoa_1000 h, Lib.itoa_nonneg]
  rcases Nat.lt_or_ge r 10 with h1 | h1
  · refine ⟨1, ?_, by omega, by omega, ?_⟩
    · rw [Lib.decDigits, dif_pos h1]; rfl
    · rw [Lib.decDigits, dif_pos h1, show r / 100 = 0 by omega, show r / 10 % 10 = 0 by omega, show r % 10 = r by omega]; rfl
  · rcases Nat.lt_or_ge r 100 with h2 | h2
    · refine ⟨2, ?_, by omega, by omega, ?_⟩
      · rw [Lib.decDigits, dif_neg (by omega), Lib.decDigits, dif_pos (by omega)]; rfl
      · rw [Lib.decDigits, dif_neg (by omega), Lib.decDigits, dif_pos (by omega), show r / 100 = 0 by omega, show r / 10 % 10 = r / 10 by omega]; rfl
    · refine ⟨3, ?_, by omega, by omega, ?_⟩
      · rw [Lib.decDigits, dif_neg (by omega), Lib.decDigits, dif_neg (by omega), Lib.decDigits, dif_pos (by omega)]; rfl
      · rw [Lib.decDigits, dif_neg (by omega), Lib.decDigits, dif_neg (by omega), Lib.decDigits, dif_pos (by omega), show r / 10 / 10 = r / 100 by omega]; rfl
theorem pad3_len {r : Nat} (h : r < 1000) : (pad3 r).length = 3 := by
  unfold pad3
  rw [itoa_1000 h]; rfl
def hzT (f : Nat) : List UInt8 := Lib.itoa ((f / 1000 : Nat) : Int) ++ [46] ++ pad3 (f % 1000)
theorem hzT_len {f : Nat} (h : f ≤ 20000000) : (hzT f).length ≤ 40 := by
  have a := Lib.itoa_length_le ((f / 1000 : Nat) : Int) (by omega) (by omega)
  have b := pad3_len (Nat.mod_lt f (by omega : 0 < 1000))
  unfold hzT
  simp only [List.length_append, List.length_cons, List.length_nil]; omega

set_option maxHeartbeats 1600000 in
theorem padded_c (r : Nat) (hr : r < 1000) (w : World) (ht : Tab w) : Calls Tryd.prog 138 #[.int .i64 r, .int .i64 3] w (RetB (.string (str (pad3 r))) w) := by
  obtain ⟨L, hL, h1, h3, hp⟩ := itoa_3 hr
  have hd := Decimal_c (r : Int) (by omega) (by omega) w ht
  have hrp := fun c hc w' => Repeat0_c c hc w'
  have hs : (decB (r : Int)).size = L := by rw [decB_str, str_size]; exact hL
  have hEq : str (List.replicate (3 - L) 48) ++ decB (r : Int) = str (pad3 r) := by rw [hp, decB_str, str_app]
  have hz : (str (List.replicate (3 - L) 48)).size = 3 - L := by rw [str_size]; simp
  generalize decB (r : Int) = D at *
  generalize str (pad3 r) = RES at *
  generalize hR : str (List.replicate (3 - L) 48) = R at *
  have hrp' := hrp (3 - L) (by omega)
  rw [hR] at hrp'
  have HRP := Lib.hid hrp'; clear hrp'
  have HD := Lib.hid hd; clear hd
  have HEQ := Lib.hid hEq; clear hEq
  clear hrp hL hp hR
  have hl : L = 1 ∨ L = 2 ∨ L = 3 := by omega
  rcases hl with rfl | rfl | rfl <;>
  · go_enter Tryd.func138, Tryd.ntmps138
    go_wp2_with fail
    refine HD.out.mono ?_
    rintro _ w1 ⟨rfl, b1⟩
    go_wp2_with fail
    refine (HRP.out _).mono ?_
    rintro _ w2 ⟨rfl, b2⟩
    go_wp2
    go_returns
    exact RetB.mk (congrArg Value.string HEQ.out) (b1.trans (b2.mono b1.size))

set_option maxRecDepth 1000000 in
set_option maxHeartbeats 1600000 in
theorem l02Hertz_c (f : Nat) (hf : f ≤ 20000000) (w : World) : Calls Tryd.prog 135 #[.int .i64 f] w (RetB (.string (str (hzT f))) w) := by
  have hm := Nat.mod_lt f (by omega : 0 < 1000)
  have hd := l01Dec_c ((1000 + f % 1000 : Nat) : Int) (by omega) (by omega) w
  have hq := fun w => l01Dec_c ((f / 1000 : Nat) : Int) (by omega) (by omega) w
  have e1 : ((1000 + f % 1000 : Nat) : Int) = (f : Int) % 1000 + 1000 := by omega
  have e2 : ((f / 1000 : Nat) : Int) = (f : Int) / 1000 := by omega
  have s1 : (decB ((1000 + f % 1000 : Nat) : Int)).size = 4 := by rw [decB_str, str_size, itoa_1000 hm]; rfl
  have s2 : (decB ((f / 1000 : Nat) : Int)).size ≤ 30 := by rw [decB_str, str_size]; have := Lib.itoa_length_le ((f / 1000 : Nat) : Int) (by omega) (by omega); omega
  have hx : (decB ((1000 + f % 1000 : Nat) : Int)).extract 1 4 = str (pad3 (f % 1000)) := by
    unfold pad3
    rw [decB_str, itoa_1000 hm]; rfl
  have hEq : decB ((f / 1000 : Nat) : Int) ++ ⟨#[46]⟩ ++ str (pad3 (f % 1000)) = str (hzT f) := by
    unfold hzT
    rw [decB_str, show (⟨#[46]⟩ : ByteArray) = str [46] from rfl, str_app, str_app]
  have s3 : (str (pad3 (f % 1000))).size = 3 := by rw [str_size]; exact pad3_len hm
  generalize decB ((1000 + f % 1000 : Nat) : Int) = A at *
  generalize decB ((f / 1000 : Nat) : Int) = B at *
  generalize str (pad3 (f % 1000)) = C at *
  generalize str (hzT f) = RES at *
  rw [e1] at hd
  have hq' : ∀ (s : World), Calls Tryd.prog 91 #[.int .i64 ((f : Int) / 1000)] s (RetB (.string B) s) := fun s => by have := hq s; rwa [e2] at this
  clear e1 e2 hq hm
  have HD := Lib.hid hd; clear hd
  have HQ := Lib.hid hq'; clear hq'
  have HEQ := Lib.hid hEq; clear hEq
  go_enter Tryd.func135, Tryd.ntmps135
  go_wp2_with fail
  refine HD.out.mono ?_
  rintro _ w1 ⟨rfl, b1⟩
  go_wp2_with fail
  refine wp_region_lat (by kernel_rfl) (by kernel_rfl) ?_
  repeat (go_big_quiet_step (first | (go_at_call 91; exact Lat.callB (HQ.out _))))
  refine wpQuiet_nil ?_
  rintro _ ⟨s, rfl⟩
  have b9 := b1.trans (s.below.mono b1.size)
  go_wp2
  go_returns
  exact RetB.mk (congrArg Value.string HEQ.out) b9

set_option maxRecDepth 1000000 in
set_option maxHeartbeats 1600000 in
theorem HertzText_c (f : Nat) (hfr : freqB f = true) (hf : f ≤ 20000000) (w : World) (ht : Tab w) : Calls Tryd.prog 113 #[.int .i64 f] w (RetB (.string (str (hzT f))) w) := by
  have hm := Nat.mod_lt f (by omega : 0 < 1000)
  have hv := fun w => IsFrequency_c (f : Int) w
  rw [hfr] at hv
  have hd := fun w' (hb : Below w.heap.size w w') => Decimal_c ((f / 1000 : Nat) : Int) (by omega) (by omega) w' (ht.later hb)
  have hp := fun w' (hb : Below w.heap.size w w') => padded_c (f % 1000) hm w' (ht.later hb)
  have e1 : ((f % 1000 : Nat) : Int) = (f : Int) % 1000 := by omega
  have e2 : ((f / 1000 : Nat) : Int) = (f : Int) / 1000 := by omega
  have s2 : (decB ((f / 1000 : Nat) : Int)).size ≤ 30 := by rw [decB_str, str_size]; have := Lib.itoa_length_le ((f / 1000 : Nat) : Int) (by omega) (by omega); omega
  have hEq : decB ((f / 1000 : Nat) : Int) ++ ⟨#[46]⟩ ++ str (pad3 (f % 1000)) = str (hzT f) := by
    unfold hzT
    rw [decB_str, show (⟨#[46]⟩ : ByteArray) = str [46] from rfl, str_app, str_app]
  have s3 : (str (pad3 (f % 1000))).size = 3 := by rw [str_size]; exact pad3_len hm
  generalize decB ((f / 1000 : Nat) : Int) = B at *
  generalize str (pad3 (f % 1000)) = C at *
  generalize str (hzT f) = RES at *
  have hd' : ∀ w', Below w.heap.size w w' → Calls Tryd.prog 57 #[.int .i64 ((f : Int) / 1000)] w' (RetB (.string B) w') := fun w' h => by have := hd w' h; rwa [e2] at this
  have hp' : ∀ w', Below w.heap.size w w' → Calls Tryd.prog 138 #[.int .i64 ((f : Int) % 1000), .int .i64 3] w' (RetB (.string C) w') := fun w' h => by have := hp w' h; rwa [e1] at this
  have hy : (⟨#[46]⟩ : ByteArray).size = 1 := rfl
  have z4 : B.size ≤ 9223372036854775806 := by omega
  have z6 : (B.size : Int) + 1 ≤ 9223372036854775807 := by omega
  have z7 : (B.size : Int) < 9223372036854775807 := by omega
  have z8 : (B.size : Int) ≤ 9223372036854775806 := by omega
  have z5 : B.size + (⟨#[46]⟩ : ByteArray).size ≤ 9223372036854775807 := by omega
  have z9 : (B ++ ⟨#[46]⟩).size + C.size ≤ 9223372036854775807 := by rw [ByteArray.size_append]; omega
  clear e1 e2 hd hp hm hy ht hfr
  have HD := Lib.hid hd'; clear hd'
  have HP := Lib.hid hp'; clear hp'
  have HV := Lib.hid hv; clear hv
  have HEQ := Lib.hid hEq; clear hEq
  go_enter Tryd.func113, Tryd.ntmps113
  go_wp2_with fail
  refine (HV.out _).mono ?_
  rintro _ _ ⟨rfl, rfl⟩
  go_wp2_with fail
  refine (HD.out _ (Below.refl _ _)).mono ?_
  rintro _ w1 ⟨rfl, b1⟩
  go_wp2_with fail
  refine (HP.out _ b1).mono ?_
  rintro _ w2 ⟨rfl, b2⟩
  go_wp2
  go_returns
  exact RetB.mk (congrArg Value.string HEQ.out) (b1.trans (b2.mono b1.size))

end Go.Proofs.YtgdadbmhdljcdaaDoor
