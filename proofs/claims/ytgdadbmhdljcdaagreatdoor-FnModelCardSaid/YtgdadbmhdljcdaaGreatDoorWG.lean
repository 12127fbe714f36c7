/- Several texts of the proofs in one: CenM, LenShl, Cen, Cen2. -/
import Derived.Test.YtgdadbmhdljcdaaGreatDoorChecked
import Derived.Test.YtgdadbmhdljcdaaGreatDoorGA
import Derived.Test.YtgdadbmhdljcdaaGreatDoorVF
import Derived.Lib.Hide
import Derived.Shelf.Strconv.Itoa0
/- Logarithms of frequencies: the plain words. -/
namespace Go.Proofs.YtgdadbmhdljcdaaGreatDoor
set_option linter.unusedVariables false
open Go.RowKit Go.Proofs.Bell Go.BigFrame

def cStep (p : Int × Int) : Int × Int := if 2147483648 ≤ p.1 * p.1 / 1073741824 then (p.1 * p.1 / 1073741824 / 2, p.2 * 2 + 1) else (p.1 * p.1 / 1073741824, p.2 * 2)
def cK (x : Int) : Nat → Int × Int
  | 0 => (x, 0)
  | k + 1 => cStep (cK x k)
def lg (n : Nat) : Nat := Nat.log2 n
def fineV (n : Nat) : Int := (lg n : Int) * 16777216 + (cK ((n * 2 ^ (30 - lg n) : Nat) : Int) 24).2
def logV (n : Nat) : Int := 12000 * fineV n / 16777216
def betV (f g : Nat) : Int := logV g - logV f

theorem lg_le {n k : Nat} (h : 0 < n) : k ≤ lg n ↔ 2 ^ k ≤ n := Nat.le_log2 (by omega)
theorem lg_lt {n k : Nat} (h : 0 < n) : lg n < k ↔ n < 2 ^ k := Nat.log2_lt (by omega)
theorem lg_bd {n : Nat} (h1 : 1 ≤ n) (h2 : n ≤ 20000000) : lg n ≤ 24 := by
  have := (lg_lt (k := 25) (show 0 < n by omega)).2 (by omega)
  omega
theorem top_bd {n : Nat} (h1 : 1 ≤ n) (h2 : n ≤ 20000000) : 1073741824 ≤ n * 2 ^ (30 - lg n) ∧ n * 2 ^ (30 - lg n) < 2147483648 := by
  have hb := lg_bd h1 h2
  have a := (lg_le (k := lg n) (show 0 < n by omega)).1 (Nat.le_refl _)
  have b := (lg_lt (k := lg n + 1) (show 0 < n by omega)).1 (Nat.lt_succ_self _)
  have e1 : 2 ^ lg n * 2 ^ (30 - lg n) = 1073741824 := by rw [← Nat.pow_add, show lg n + (30 - lg n) = 30 by omega]
  have e2 : 2 ^ (lg n + 1) * 2 ^ (30 - lg n) = 2147483648 := by rw [← Nat.pow_add, show lg n + 1 + (30 - lg n) = 31 by omega]
  have hp : 0 < 2 ^ (30 - lg n) := Nat.pow_pos (by decide)
  refine ⟨?_, ?_⟩
  · rw [← e1]; exact Nat.mul_le_mul_right _ a
  · rw [← e2]; exact Nat.mul_lt_mul_of_pos_right b hp
theorem sq_bd {x : Int} (h1 : 1073741824 ≤ x) (h2 : x < 2147483648) : 1152921504606846976 ≤ x * x ∧ x * x ≤ 4611686014132420609 ∧ 1073741824 ≤ x * x / 1073741824 ∧ x * x / 1073741824 < 4294967296 := by
  have a : 1073741824 * 1073741824 ≤ x * x := Int.mul_le_mul h1 h1 (by omega) (by omega)
  have b : x * x ≤ 2147483647 * 2147483647 := Int.mul_le_mul (by omega) (by omega) (by omega) (by omega)
  omega
theorem cK_bd {x : Int} (h1 : 1073741824 ≤ x) (h2 : x < 2147483648) : ∀ k, 1073741824 ≤ (cK x k).1 ∧ (cK x k).1 < 2147483648 ∧ 0 ≤ (cK x k).2 ∧ (cK x k).2 < 2 ^ k
  | 0 => by simp only [cK]; omega
  | k + 1 => by
    obtain ⟨a, b, c, d⟩ := cK_bd h1 h2 k
    obtain ⟨_, _, e, f⟩ := sq_bd a b
    have hp : (2 : Int) ^ (k + 1) = 2 * 2 ^ k := by rw [Int.pow_succ, Int.mul_comm]
    rw [cK, cStep]
    generalize (cK x k).1 * (cK x k).1 / 1073741824 = y at *
    generalize (cK x k).2 = r at *
    rw [hp]
    split
    · simp only; omega
    · simp only; omega
theorem pow_24 : ∀ k : Nat, k ≤ 24 → (2 : Int) ^ k ≤ 16777216
  | k, h => by
    have : (2 : Nat) ^ k ≤ 2 ^ 24 := Nat.pow_le_pow_right (by decide) h
    have h2 : ((2 : Nat) ^ k : Int) = ((2 ^ k : Nat) : Int) := by simp
    have h3 : (2 : Int) ^ k = ((2 ^ k : Nat) : Int) := by simp
    rw [h3]
    omega
theorem fine_bd {n : Nat} (h1 : 1 ≤ n) (h2 : n ≤ 20000000) : 0 ≤ fineV n ∧ fineV n ≤ 419430400 := by
  have hb := lg_bd h1 h2
  have ht := top_bd h1 h2
  obtain ⟨_, _, c, d⟩ := cK_bd (x := ((n * 2 ^ (30 - lg n) : Nat) : Int)) (by omega) (by omega) 24
  unfold fineV
  have : (2 : Int) ^ 24 = 16777216 := by decide
  omega
theorem log_bd {n : Nat} (h1 : 1 ≤ n) (h2 : n ≤ 20000000) : 0 ≤ logV n ∧ logV n ≤ 300000 := by
  have := fine_bd h1 h2
  unfold logV
  omega

end Go.Proofs.YtgdadbmhdljcdaaGreatDoor

/- bits.Len64, by the library's contract, at this seat's numbers (printed by a program). -/
namespace Go.Proofs
open Go.Shelf
def Tryz.lays129_ren : Go.Shelf.Ren := ⟨fun | 129 => 196 | n => n, fun | 53 => 136 | 3 => 3 | 4 => 4 | 46 => 184 | 5 => 5 | 9 => 9 | n => n, fun | n => n⟩
theorem Tryz.lays129 : Go.Proofs.Lays.n129 Tryz.prog Tryz.lays129_ren := {
  mixed := by kernel_rfl
  f129 := Tryz.func196.trans (congrArg some (by kernel_rfl))
  t3 := Tryz.underlying3
  a3 := Tryz.isAgg3
  z3 := Tryz.sizeOf3
  v3 := Tryz.zeroValue3
  t4 := Tryz.underlying4
  a4 := Tryz.isAgg4
  z4 := Tryz.sizeOf4
  v4 := Tryz.zeroValue4
  t5 := Tryz.underlying5
  a5 := Tryz.isAgg5
  z5 := Tryz.sizeOf5
  v5 := Tryz.zeroValue5
  t9 := Tryz.underlying9
  a9 := Tryz.isAgg9
  z9 := Tryz.sizeOf9
  v9 := Tryz.zeroValue9
  t46 := Tryz.underlying184
  a46 := Tryz.isAgg184
  z46 := Tryz.sizeOf184
  v46 := Tryz.zeroValue184
  t53 := Tryz.underlying136
  a53 := Tryz.isAgg136
  z53 := Tryz.sizeOf136
  v53 := Tryz.zeroValue136 }
/-- bits.Len64: "Len64 returns the minimum number of bits required to represent x; the result is 0 for x == 0.": IT RETURNS 'Lib.bitLen x'; the world is as it was. ('h0', 'h1': x is a uint64.) (LAID: no walk: one application.) -/
theorem Tryz.bits_Len64 (x : Int) (w : World) (h0 : 0 ≤ x) (h1 : x ≤ 18446744073709551615) :
    Calls Tryz.prog 196 #[.int .u64 x] w fun e w' => e = .returned (.int .i64 (Lib.bitLen x.toNat)) ∧ w' = w := Any.bits_Len64 Tryz.lays129 x w h0 h1
end Go.Proofs

/- Logarithms of frequencies: both functions. -/
namespace Go.Proofs.YtgdadbmhdljcdaaGreatDoor
set_option linter.unusedVariables false
open Go.RowKit Go.Proofs.Bell Go.BigFrame

theorem bitLenAux_lg : ∀ (f n : Nat), 0 < n → n < 2 ^ f → Lib.bitLenAux f n = lg n + 1
  | 0, n, h, h2 => by simp at h2; omega
  | f + 1, n, h, h2 => by
    rw [Lib.bitLenAux, if_neg (by omega), lg, Nat.log2_def]
    by_cases h3 : 2 ≤ n
    · rw [if_pos h3, bitLenAux_lg f (n / 2) (by omega) (by rw [Nat.pow_succ] at h2; omega), lg]; omega
    · rw [if_neg h3, show n / 2 = 0 by omega]
      cases f <;> simp [Lib.bitLenAux]
theorem bitLen_lg {n : Nat} (h : 0 < n) (h2 : n ≤ 20000000) : Lib.bitLen n = lg n + 1 := bitLenAux_lg 64 n h (by omega)

set_option maxRecDepth 100000 in
set_option maxHeartbeats 1600000 in
theorem l02Fine_c (n : Nat) (w : World) (h1 : 1 ≤ n) (h2 : n ≤ 20000000) : Calls Tryz.prog 202 #[.int .i64 n] w (RetS (.int .i64 (fineV n)) w) := by
  have hb := lg_bd h1 h2
  have ht := top_bd h1 h2
  have hle := fun k => lg_le (n := n) (k := k) (by omega)
  unfold fineV
  generalize lg n = e at *
  have hw : wrap64 ((n : Int) * 2 ^ (30 - e)) = ((n * 2 ^ (30 - e) : Nat) : Int) := by
    have e1 : ((n * 2 ^ (30 - e) : Nat) : Int) = (n : Int) * 2 ^ (30 - e) := by push_cast; rfl
    rw [← e1]
    exact IntWalk.wrap64_in _ (by omega)
  have hbd := cK_bd (x := ((n * 2 ^ (30 - e) : Nat) : Int)) (by omega) (by omega)
  have hst := fun k => (show cStep (cK ((n * 2 ^ (30 - e) : Nat) : Int) k) = cK ((n * 2 ^ (30 - e) : Nat) : Int) (k + 1) from rfl)
  have h0 : cK ((n * 2 ^ (30 - e) : Nat) : Int) 0 = (((n * 2 ^ (30 - e) : Nat) : Int), 0) := rfl
  generalize ((n * 2 ^ (30 - e) : Nat) : Int) = X at *
  have HBD := Lib.hid hbd; clear hbd
  have HST := Lib.hid hst; clear hst
  have H0 := Lib.hid h0; clear h0
  have HLE := Lib.hid hle; clear hle
  go_enter Tryz.func202, Tryz.ntmps202
  go_wp2_with fail
  go_loop [3] (fun i => ∃ k : Nat, k ≤ e ∧ i = .int .i64 k) (fun i => e - (intOf i).toNat)
  case atStart => exact ⟨0, Nat.zero_le _, rfl⟩
  case round =>
    obtain ⟨k, hk, rfl⟩ := hrel
    have hdec := HLE.out (k + 1)
    have hcast : (n : Int) / 2 ^ (k + 1) = ((n / 2 ^ (k + 1) : Nat) : Int) := by push_cast; rfl
    by_cases hlt : k < e
    · have hp : 0 < (n : Int) / 2 ^ (k + 1) := by
        have := Nat.div_pos (hdec.1 (by omega)) (Nat.pow_pos (n := k + 1) (show 0 < 2 by decide))
        rw [hcast]; omega
      clear hdec hcast
      go_wp2
      go_round
      case rel => exact ⟨k + 1, by omega, by go_num⟩
      case measure => simp [intOf]; omega
    · obtain rfl : k = e := by omega
      have hp : (n : Int) / 2 ^ (k + 1) ≤ 0 := by
        rw [hcast, Nat.div_eq_of_lt (Nat.lt_of_not_le fun h => by have := hdec.2 h; omega)]; simp
      clear hdec hcast
      have h30 : decide ((30 : Int) < (k : Int)) = false := by simp; omega
      go_wp2_with fail
      go_loop [6, 4, 5] (fun i x r => ∃ k : Nat, k ≤ 24 ∧ i = .int .i64 k ∧ x = .int .i64 (cK X k).1 ∧ r = .int .i64 (cK X k).2) (fun i _ _ => 24 - (intOf i).toNat)
      case atStart => exact ⟨0, Nat.zero_le _, rfl, by rw [H0.out], by rw [H0.out]⟩
      case round =>
        obtain ⟨j, hk, rfl, rfl, rfl⟩ := hrel
        by_cases hlt : j < 24
        · have hltd : decide ((j : Int) < 24) = true := by simp; omega
          obtain ⟨b1, b2, b3, b4⟩ := HBD.out j
          have b5 := pow_24 j hk
          obtain ⟨b6, b7, b8, b9⟩ := sq_bd b1 b2
          have hs := HST.out j
          unfold cStep at hs
          generalize (cK X j).1 = x at *
          generalize (cK X j).2 = r at *
          by_cases hge : 2147483648 ≤ x * x / 1073741824
          · rw [if_pos hge] at hs
            have HS := Lib.hid hs; clear hs
            go_wp2
            go_round
            case rel => exact ⟨j + 1, by omega, by go_num, by rw [← HS.out], by rw [← HS.out]⟩
            case measure => simp [intOf]; omega
          · rw [if_neg hge] at hs
            have HS := Lib.hid hs; clear hs
            go_wp2
            go_round
            case rel => exact ⟨j + 1, by omega, by go_num, by rw [← HS.out], by rw [← HS.out]⟩
            case measure => simp [intOf]; omega
        · obtain rfl : j = 24 := by omega
          obtain ⟨b1, b2, b3, b4⟩ := HBD.out 24
          have b5 := pow_24 24 hk
          generalize (cK X 24).2 = r at *
          go_wp2
          go_returns
          exact RetS.mk rfl

end Go.Proofs.YtgdadbmhdljcdaaGreatDoor

/- Intervals between frequencies, and what is too low or too high. -/
namespace Go.Proofs.YtgdadbmhdljcdaaGreatDoor
set_option linter.unusedVariables false
open Go.RowKit Go.Proofs.Bell Go.BigFrame

theorem bet_bd {f g : Nat} (h1 : 1 ≤ f) (h2 : f ≤ 20000000) (h3 : 1 ≤ g) (h4 : g ≤ 20000000) : -300000 ≤ betV f g ∧ betV f g ≤ 300000 := by
  have a1 := log_bd h1 h2
  have b1 := log_bd h3 h4
  unfold betV
  omega

def lowB (t f tol : Int) : Bool := decide (f < 10000) || (decide (f ≤ 20000000) && decide (betV t.toNat f.toNat < -tol))
def highB (t f tol : Int) : Bool := decide (20000000 < f) || (decide (10000 ≤ f) && decide (tol < betV t.toNat f.toNat))

end Go.Proofs.YtgdadbmhdljcdaaGreatDoor

