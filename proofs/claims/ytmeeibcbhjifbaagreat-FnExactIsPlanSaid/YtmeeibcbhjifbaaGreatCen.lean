/- Logarithms of frequencies: both functions. -/
import Derived.Test.YtmeeibcbhjifbaaGreatCenM
import Derived.Test.YtmeeibcbhjifbaaGreatGA
import Derived.Test.YtmeeibcbhjifbaaGreatLenShl
import Derived.Lib.Hide
namespace Go.Proofs.YtmeeibcbhjifbaaGreat
set_option linter.unusedVariables false
open Go.RowKit Go.Proofs.Bell Go.BigFrame

theorem bitLenAux_lg : ∀ (f n : Nat), 0 < n → n < 2 ^ f → Lib.bitLenAux f n = lg n + 1
  | 0, n, h, h2 => by simp at h2; omega
  | f + 1, n, h, h2 => by
    rw [Lib.bitLenAux, if_neg (by omega), lg, Nat.log2_def]
    by_cases h3 : 2 ≤ n
    · rw [if_pos h3, bitLenAux_lg f (n / 2) (by omega) (by rw [Nat.pow_succ] at h2; omega), lg]; omega
    · rw [if_neg h3, show n / 2 = 0 by omega]
      cases f <;> simp [Lib.bitLenAux]
theorem bitLen_lg {n : Nat} (h : 0 < n) (h2 : n ≤ 20000000) : Lib.bitLen n = lg n + 1 := bitLenAux_lg 64 n h (by omega)

set_option maxRecDepth 100000 in
set_option maxHeartbeats 1600000 in
theorem fineLog_c (n : Nat) (w : World) (h1 : 1 ≤ n) (h2 : n ≤ 20000000) : Calls Tryz.prog 115 #[.int .i64 n] w (RetS (.int .i64 (fineV n)) w) := by
  have hlen := Tryz.bits_Len64 (n : Int) w (by omega) (by omega)
  rw [show ((n : Int).toNat) = n from rfl, bitLen_lg (by omega) h2] at hlen
  have hb := lg_bd h1 h2
  have ht := top_bd h1 h2
  have HLEN := Lib.hid hlen; clear hlen
  unfold fineV
  generalize lg n = e at *
  have hw : wrap64 ((n : Int) * 2 ^ (30 - e)) = ((n * 2 ^ (30 - e) : Nat) : Int) := by
    have e1 : ((n * 2 ^ (30 - e) : Nat) : Int) = (n : Int) * 2 ^ (30 - e) := by push_cast; rfl
    rw [← e1]
    exact IntWalk.wrap64_in _ (by omega)
  have hbd := cK_bd (x := ((n * 2 ^ (30 - e) : Nat) : Int)) (by omega) (by omega)
  have hst := fun k => (show cStep (cK ((n * 2 ^ (30 - e) : Nat) : Int) k) = cK ((n * 2 ^ (30 - e) : Nat) : Int) (k + 1) from rfl)
  have h0 : cK ((n * 2 ^ (30 - e) : Nat) : Int) 0 = (((n * 2 ^ (30 - e) : Nat) : Int), 0) := rfl
  generalize ((n * 2 ^ (30 - e) : Nat) : Int) = X at *
  have HBD := Lib.hid hbd; clear hbd
  have HST := Lib.hid hst; clear hst
  have H0 := Lib.hid h0; clear h0
  go_enter Tryz.func115, Tryz.ntmps115
  go_wp2_with fail
  refine HLEN.out.mono ?_
  rintro _ _ ⟨rfl, rfl⟩
  go_wp2_with fail
  go_loop [21, 4, 5] (fun i x r => ∃ k : Nat, k ≤ 24 ∧ i = .int .i64 k ∧ x = .int .i64 (cK X k).1 ∧ r = .int .i64 (cK X k).2) (fun i _ _ => 24 - (intOf i).toNat)
  case atStart => exact ⟨0, Nat.zero_le _, rfl, by rw [H0.out]; exact congrArg (Value.int .i64) hw, by rw [H0.out]⟩
  case round =>
    obtain ⟨k, hk, rfl, rfl, rfl⟩ := hrel
    by_cases hlt : k < 24
    · have hltd : decide ((k : Int) < 24) = true := by simp; omega
      obtain ⟨b1, b2, b3, b4⟩ := HBD.out k
      have b5 := pow_24 k hk
      obtain ⟨b6, b7, b8, b9⟩ := sq_bd b1 b2
      have hs := HST.out k
      unfold cStep at hs
      generalize (cK X k).1 = x at *
      generalize (cK X k).2 = r at *
      by_cases hge : 2147483648 ≤ x * x / 1073741824
      · rw [if_pos hge] at hs
        have HS := Lib.hid hs; clear hs
        go_wp2
        go_round
        case rel => exact ⟨k + 1, by omega, by go_num, by rw [← HS.out], by rw [← HS.out]⟩
        case measure => simp [intOf]; omega
      · rw [if_neg hge] at hs
        have HS := Lib.hid hs; clear hs
        go_wp2
        go_round
        case rel => exact ⟨k + 1, by omega, by go_num, by rw [← HS.out], by rw [← HS.out]⟩
        case measure => simp [intOf]; omega
    · obtain rfl : k = 24 := by omega
      obtain ⟨b1, b2, b3, b4⟩ := HBD.out 24
      have b5 := pow_24 24 hk
      generalize (cK X 24).2 = r at *
      go_wp2
      go_returns
      exact RetS.mk rfl

set_option maxRecDepth 100000 in
set_option maxHeartbeats 1600000 in
theorem l02Fine_c (n : Nat) (w : World) (h1 : 1 ≤ n) (h2 : n ≤ 20000000) : Calls Tryz.prog 103 #[.int .i64 n] w (RetS (.int .i64 (fineV n)) w) := by
  have hb := lg_bd h1 h2
  have ht := top_bd h1 h2
  have hle := fun k => lg_le (n := n) (k := k) (by omega)
  unfold fineV
  generalize lg n = e at *
  have hw : wrap64 ((n : Int) * 2 ^ (30 - e)) = ((n * 2 ^ (30 - e) : Nat) : Int) := by
    have e1 : ((n * 2 ^ (30 - e) : Nat) : Int) = (n : Int) * 2 ^ (30 - e) := by push_cast; rfl
    rw [← e1]
    exact IntWalk.wrap64_in _ (by omega)
  have hbd := cK_bd (x := ((n * 2 ^ (30 - e) : Nat) : Int)) (by omega) (by omega)
  have hst := fun k => (show cStep (cK ((n * 2 ^ (30 - e) : Nat) : Int) k) = cK ((n * 2 ^ (30 - e) : Nat) : Int) (k + 1) from rfl)
  have h0 : cK ((n * 2 ^ (30 - e) : Nat) : Int) 0 = (((n * 2 ^ (30 - e) : Nat) : Int), 0) := rfl
  generalize ((n * 2 ^ (30 - e) : Nat) : Int) = X at *
  have HBD := Lib.hid hbd; clear hbd
  have HST := Lib.hid hst; clear hst
  have H0 := Lib.hid h0; clear h0
  have HLE := Lib.hid hle; clear hle
  go_enter Tryz.func103, Tryz.ntmps103
  go_wp2_with fail
  go_loop [3] (fun i => ∃ k : Nat, k ≤ e ∧ i = .int .i64 k) (fun i => e - (intOf i).toNat)
  case atStart => exact ⟨0, Nat.zero_le _, rfl⟩
  case round =>
    obtain ⟨k, hk, rfl⟩ := hrel
    have hdec := HLE.out (k + 1)
    have hcast : (n : Int) / 2 ^ (k + 1) = ((n / 2 ^ (k + 1) : Nat) : Int) := by push_cast; rfl
    by_cases hlt : k < e
    · have hp : 0 < (n : Int) / 2 ^ (k + 1) := by
        have := Nat.div_pos (hdec.1 (by omega)) (Nat.pow_pos (n := k + 1) (show 0 < 2 by decide))
        rw [hcast]; omega
      clear hdec hcast
      go_wp2
      go_round
      case rel => exact ⟨k + 1, by omega, by go_num⟩
      case measure => simp [intOf]; omega
    · obtain rfl : k = e := by omega
      have hp : (n : Int) / 2 ^ (k + 1) ≤ 0 := by
        rw [hcast, Nat.div_eq_of_lt (Nat.lt_of_not_le fun h => by have := hdec.2 h; omega)]; simp
      clear hdec hcast
      have h30 : decide ((30 : Int) < (k : Int)) = false := by simp; omega
      go_wp2_with fail
      go_loop [6, 4, 5] (fun i x r => ∃ k : Nat, k ≤ 24 ∧ i = .int .i64 k ∧ x = .int .i64 (cK X k).1 ∧ r = .int .i64 (cK X k).2) (fun i _ _ => 24 - (intOf i).toNat)
      case atStart => exact ⟨0, Nat.zero_le _, rfl, by rw [H0.out], by rw [H0.out]⟩
      case round =>
        obtain ⟨j, hk, rfl, rfl, rfl⟩ := hrel
        by_cases hlt : j < 24
        · have hltd : decide ((j : Int) < 24) = true := by simp; omega
          obtain ⟨b1, b2, b3, b4⟩ := HBD.out j
          have b5 := pow_24 j hk
          obtain ⟨b6, b7, b8, b9⟩ := sq_bd b1 b2
          have hs := HST.out j
          unfold cStep at hs
          generalize (cK X j).1 = x at *
          generalize (cK X j).2 = r at *
          by_cases hge : 2147483648 ≤ x * x / 1073741824
          · rw [if_pos hge] at hs
            have HS := Lib.hid hs; clear hs
            go_wp2
            go_round
            case rel => exact ⟨j + 1, by omega, by go_num, by rw [← HS.out], by rw [← HS.out]⟩
            case measure => simp [intOf]; omega
          · rw [if_neg hge] at hs
            have HS := Lib.hid hs; clear hs
            go_wp2
            go_round
            case rel => exact ⟨j + 1, by omega, by go_num, by rw [← HS.out], by rw [← HS.out]⟩
            case measure => simp [intOf]; omega
        · obtain rfl : j = 24 := by omega
          obtain ⟨b1, b2, b3, b4⟩ := HBD.out 24
          have b5 := pow_24 24 hk
          generalize (cK X 24).2 = r at *
          go_wp2
          go_returns
          exact RetS.mk rfl

end Go.Proofs.YtmeeibcbhjifbaaGreat
