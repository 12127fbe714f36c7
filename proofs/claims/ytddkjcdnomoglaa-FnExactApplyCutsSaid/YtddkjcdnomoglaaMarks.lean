/- The laws' marks on numbers and on profiles. -/
import Derived.Test.YtddkjcdnomoglaaNums
import Derived.Test.YtddkjcdnomoglaaProf
namespace Go.Proofs.Ytddkjcdnomoglaa
set_option linter.unusedVariables false
open Go.RowKit Go.Proofs.Bell Go.BigFrame

/-- the marks of `n` numbers, from `k0` on -/
def mk1 (k0 : Int) (n : Nat) : List Int := (List.range n).map fun i : Nat => k0 + (i : Int)
theorem mk1_len (k0 : Int) (n : Nat) : (mk1 k0 n).length = n := by simp [mk1]
theorem mk1_get {k0 : Int} {n i : Nat} (h : i < (mk1 k0 n).length) : (mk1 k0 n)[i] = k0 + (i : Int) := by simp [mk1]

set_option maxHeartbeats 1600000 in
theorem markInt64S_c (v : Value) (n base : Nat) (k0 : Int) (xs0 : List Value) (w : World) (h : w.ownsRow base 2 1 v n xs0) (hk0 : 0 ≤ k0) (hk1 : k0 + (n : Int) ≤ 9223372036854775800) (hn : n ≤ 1000000000000000000) :
    Calls Try.prog 25 #[v, .int .i64 k0] w (fun e w' => e = .returned (.int .i64 (k0 + (n : Int))) ∧ w'.ownsRow base 2 1 v n (ints (mk1 k0 n)) ∧ Only (fun b => v.ownBlock = some b) w w') := by
  refine Calls.mono (R := Marked v n (k0 + (n : Int)) base 2 1 (ints (mk1 k0 n)) w) ?_ (fun e w' h => h)
  obtain ⟨ao, cap, g, hv, hao, hvb⟩ := own_open h
  have HVB := Lib.hid hvb; clear hvb
  subst hv
  go_enter Try.func25, Try.ntmps25
  go_wp2_with fail
  go_loopw [1, 5] (fun q i wr => ∃ (k : Nat) (xs : List Value), k ≤ n ∧ i = .int .i64 k ∧ q = .int .i64 (k0 + (k : Int)) ∧ wr.ownsRow base 2 1 (.slice ao n cap) n xs ∧ (∀ j, j < k → xs[j]? = (ints (mk1 k0 n))[j]?) ∧ Only (fun b => (Value.slice ao n cap).ownBlock = some b) w wr)
    (fun _ i _ => n - (intOf i).toNat)
  case atStart => exact ⟨0, xs0, Nat.zero_le _, rfl, by simp, h, fun j hj => by omega, Only.refl _ _⟩
  case round =>
    obtain ⟨k, xs, hk, rfl, rfl, hown, hx, ho⟩ := hrel
    have HX := Lib.hid hx; clear hx
    by_cases hlt : k < n
    · have hix := ix (P := Try.prog) (T := 25) (cap := cap) Try.underlying25 cells_int64 has_int64 hao hlt k rfl
      simp only [Nat.zero_add, Nat.mul_one] at hix
      obtain ⟨⟨u0, c0⟩, f0, _, hs0⟩ := own_cell hown hao (j := k) (by omega)
      have hl := hown.1
      have HO := Lib.hid ho; clear ho
      have HAO := Lib.hid hao; clear hao
      have HOWN := Lib.hid hown; clear hown
      clear h
      go_wp2
      go_roundw
      case rel =>
        have ho := HO.out
        have hvb := HVB.out
        have hm : k < (mk1 k0 n).length := by rw [mk1_len]; exact hlt
        have hat := intsAt hm
        rw [mk1_get hm] at hat
        exact ⟨k + 1, _, by omega, by go_num, int_eq (by omega), hs0 (.int .i64 (k0 + (k : Int))), set1_upto HX.out (by omega) hat, ho.setCell (hvb (by omega)) _⟩
      case measure => simp [intOf]; omega
    · obtain rfl : k = n := by omega
      go_wp2
      go_returns
      have e := upto_all (hown.1.trans (by rw [ints_len, mk1_len]; omega)) (fun j hj => HX.out j (by rw [ints_len, mk1_len] at hj; exact hj))
      subst e
      exact ⟨rfl, hown, ho⟩

set_option maxHeartbeats 1600000 in
theorem heldInt64S_c (v : Value) (n : Nat) (k0 : Int) (w : World) (h : Rd w v n (ints (mk1 k0 n))) (hk0 : 0 ≤ k0) (hk1 : k0 + (n : Int) ≤ 9223372036854775800) :
    Calls Try.prog 26 #[v, .int .i64 k0] w (RetS (.int .i64 (k0 + (n : Int))) w) := by
  obtain ⟨hn, ao, cap, b, off, rfl, hao, hcell⟩ := h.open
  clear h
  go_enter Try.func26, Try.ntmps26
  go_wp2_with fail
  go_loop [1, 5] (fun q i => ∃ (k : Nat), k ≤ n ∧ i = .int .i64 k ∧ q = .int .i64 (k0 + (k : Int))) (fun _ i => n - (intOf i).toNat)
  case atStart => exact ⟨0, Nat.zero_le _, rfl, by simp⟩
  case round =>
    obtain ⟨k, hk, rfl, rfl⟩ := hrel
    by_cases hlt : k < n
    · have hix := ix (P := Try.prog) (T := 25) (cap := cap) Try.underlying25 cells_int64 has_int64 hao hlt k rfl
      rw [Nat.mul_one] at hix
      have hm : k < (mk1 k0 n).length := by rw [mk1_len]; exact hlt
      have hc0 : w.cell? ⟨b, off + k, none⟩ = some (.int .i64 (k0 + (k : Int))) := by rw [hcell _ (Below.refl _ _) _ _ (by omega) (intsAt hm), mk1_get hm]
      clear hcell hm
      go_wp2
      go_round
      case rel => exact ⟨k + 1, by omega, by go_num, int_eq (by omega)⟩
      case measure => simp [intOf]; omega
    · obtain rfl : k = n := by omega
      clear hcell
      go_wp2
      go_returns
      exact RetS.mk rfl

set_option maxHeartbeats 800000 in
theorem markProfile_c (nm : ByteArray) (v : Value) (n base : Nat) (k0 : Int) (xs0 : List Value) (w : World) (h : w.ownsRow base 52 3 v n xs0) (hk0 : 0 ≤ k0) (hk1 : k0 + 3 * (n : Int) ≤ 9223372036854775800) (hn : n ≤ 1000000000000000000) :
    Calls Try.prog 24 #[.agg #[.string nm, v], .int .i64 k0] w (fun e w' => e = .returned (.int .i64 (k0 + 3 * (n : Int))) ∧ w'.ownsRow base 52 3 v n (trips (mk3 k0 n)) ∧ Only (fun b => v.ownBlock = some b) w w') := by
  refine Calls.mono (R := Marked v n (k0 + 3 * (n : Int)) base 52 3 (trips (mk3 k0 n)) w) ?_ (fun e w' h => h)
  have hm := fun o => markRingS_c v n base k0 xs0 (w.alloc o) (h.alloc o) hk0 hk1 hn
  have HM := Lib.hid hm; clear hm
  have H := Lib.hid h; clear h
  go_enter Try.func24, Try.ntmps24
  go_wp2_with fail
  refine (HM.out _).mono ?_
  rintro _ w1 ⟨rfl, ho, hq⟩
  have HO := Lib.hid ho; clear ho
  go_wp2
  go_returns
  exact ⟨rfl, HO.out, (Only.of_below ((Below.refl _ _).alloc (Nat.le_refl _) _)).trans hq⟩

set_option maxHeartbeats 800000 in
theorem heldProfile_c (nm : ByteArray) (v : Value) (n : Nat) (k0 : Int) (w : World) (h : Rd w v n (trips (mk3 k0 n))) (hk0 : 0 ≤ k0) (hk1 : k0 + 3 * (n : Int) ≤ 9223372036854775800) :
    Calls Try.prog 31 #[.agg #[.string nm, v], .int .i64 k0] w (RetB (.int .i64 (k0 + 3 * (n : Int))) w) := by
  have hm := fun w' (hb : Below w.heap.size w w') => heldRingS_c v n k0 w' (h.later hb) hk0 hk1
  have HM := Lib.hid hm; clear hm
  clear h
  go_enter Try.func31, Try.ntmps31
  go_wp2_with fail
  refine (HM.out _ (by go_grown)).mono ?_
  rintro _ _ ⟨rfl, rfl⟩
  go_wp2
  go_returns
  exact RetB.mk rfl (by go_grown)

end Go.Proofs.Ytddkjcdnomoglaa
