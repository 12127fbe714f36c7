/- slices.Concat at rings: three lists. -/
import Derived.Test.YtjlenafdpoknhaaCat
namespace Go.Proofs.Ytjlenafdpoknhaa
set_option linter.unusedVariables false
open Go.RowKit Go.Proofs.Bell Go.BigFrame

theorem cells_RingS : Try.prog.cellsOf 26 = 1 := by kernel_rfl
theorem has_RingS : (Try.prog.info? 26).isSome = true := by kernel_rfl
set_option maxRecDepth 100000 in
set_option maxHeartbeats 3200000 in
theorem ConcatR_c (vb m : Nat) (A : Nat → Addr) (C : Nat → Nat) (R : Nat → List (Int × Int × Int)) (w : World)
    (hv : ∀ j, j < m → w.cell? ⟨vb, j, none⟩ = some (.slice (some (A j)) (R j).length (C j))) (hm : 1 ≤ m) (hm2 : m ≤ 10)
    (hrd : ∀ j, j < m → ∀ w', Below w.heap.size w w' → ∀ t u, (trips (R j))[t]? = some u → w'.cell? ((A j).add t) = some u)
    (hl : ∀ k, k ≤ m → sumN (fun j => (R j).length) k ≤ 1000) (h1 : 1 ≤ sumN (fun j => (R j).length) m) :
    Calls Try.prog 36 #[.slice (some ⟨vb, 0, none⟩) m m] w (RetOwnR (catK R m) w) := by
  have hlen := catK_len R
  have hst : ∀ k, sumN (fun j => (R j).length) (k + 1) = sumN (fun j => (R j).length) k + (R k).length := fun k => rfl
  have hgr := fun w' => GrowR_c (sumN (fun j => (R j).length) m) w' h1 (hl m (Nat.le_refl _))
  have hck : ∀ k, catK R k ++ R k = catK R (k + 1) := fun k => rfl
  have HLEN := Lib.hid hlen; clear hlen
  have HST := Lib.hid hst; clear hst
  have HGR := Lib.hid hgr; clear hgr
  have HL := Lib.hid hl; clear hl
  have HRD := Lib.hid hrd; clear hrd
  have HCK := Lib.hid hck; clear hck
  have HV := Lib.hid hv; clear hv
  go_enter Try.func36, Try.ntmps36
  have b0 : Below w.heap.size w w := Below.refl _ _
  have z0 : w.heap.size ≤ w.heap.size := Nat.le_refl _
  go_wp2_with fail
  go_loop [11, 3] (fun i s => ∃ (k : Nat), k ≤ m ∧ i = .int .i64 k ∧ s = .int .i64 (sumN (fun j => (R j).length) k : Nat)) (fun i _ => m - (intOf i).toNat)
  case atStart => exact ⟨0, Nat.zero_le _, rfl, rfl⟩
  case round =>
    obtain ⟨k, hk, rfl, rfl⟩ := hrel
    by_cases hlt : k < m
    · have hx := HV.out k hlt
      have hs := HST.out k
      have hq := HL.out (k + 1) hlt
      rw [hs] at hq
      have hix := ix (P := Try.prog) (T := 128) (n := m) (cap := m) Try.underlying128 cells_RingS has_RingS (ao := some ⟨vb, 0, none⟩) (b := vb) (off := 0) (fun _ => rfl) (k := k) hlt _ rfl
      rw [Nat.mul_one, Nat.zero_add] at hix
      have hs3 : Value.int .i64 ((sumN (fun j => (R j).length) k + (R k).length : Nat) : Int) = Value.int .i64 ((sumN (fun j => (R j).length) (k + 1) : Nat) : Int) := by rw [hs]
      have HS3 := Lib.hid hs3; clear hs3
      clear hs
      generalize sumN (fun j => (R j).length) k = s at *
      generalize (R k).length = q at *
      have hw : IntKind.i64.wrap ((s : Int) + (q : Int)) = ((s + q : Nat) : Int) := by rw [IntWalk.i64_in _ (by omega)]; omega
      have t1 : decide (((s + q : Nat) : Int) < 0) = false := decide_eq_false (by omega)
      have t2 : decide ((s : Int) + (q : Int) < 0) = false := decide_eq_false (by omega)
      go_wp2
      go_round
      case rel => exact ⟨k + 1, by omega, by go_num, by first | exact HS3.out | (rw [← HS3.out]; simp)⟩
      case measure => simp [intOf]; omega
    · obtain rfl : k = m := by omega
      obtain ⟨m', rfl⟩ : ∃ m', m' = k := ⟨_, rfl⟩
      go_wp2_with fail
      refine (HGR.out _).mono ?_
      rintro _ w1 ⟨u1, rfl, o1, b1⟩
      clear hk hlt
      go_wp2_with fail
      go_loopw [27, 6] (fun i v wr => ∃ (k : Nat) (u : Value), k ≤ m' ∧ i = .int .i64 k ∧ v = u ∧ OwnR w.heap.size wr u (catK R k) ∧ Below w.heap.size w wr) (fun i _ _ => m' - (intOf i).toNat)
      case atStart => exact ⟨0, _, Nat.zero_le _, rfl, rfl, o1, b1⟩
      case round =>
        obtain ⟨k, u, hk, rfl, rfl, o2, b2⟩ := hrel
        have z2 := b2.size
        by_cases hlt : k < m'
        · have hx := below_cell b2 (HV.out k hlt)
          have hq := HL.out (k + 1) hlt
          have hq0 := HL.out k (by omega)
          have hle := HLEN.out k
          rw [HST.out k] at hq
          have hix := ix (P := Try.prog) (T := 128) (n := m') (cap := m') Try.underlying128 cells_RingS has_RingS (ao := some ⟨vb, 0, none⟩) (b := vb) (off := 0) (fun _ => rfl) (k := k) hlt _ rfl
          rw [Nat.mul_one, Nat.zero_add] at hix
          have hsr := HRD.out k hlt wr b2
          have O2 := Lib.hid o2; clear o2
          have HSR := Lib.hid hsr; clear hsr
          go_wp2_with (at_builtin; refine appA_R (.tmp 31) (.tmp 32) wr w.heap.size _ (catK R k) (R k) (A k) (R k).length (C k) (by rfl) (by rfl) (by rfl) (by rfl) rfl O2.out HSR.out (by omega) (by omega) z2 ?_; intro v3 w3 o3 q3)
          have b3 := Only.below b2 q3 z2 (fun b e => own_lo O2.out b e)
          rw [HCK.out k] at o3
          go_roundw
          case rel => exact ⟨k + 1, _, by omega, by go_num, rfl, o3, b3⟩
          case measure => simp [intOf]; omega
        · obtain rfl : k = m' := by omega
          go_wp2
          go_returns
          exact ⟨_, rfl, o2, b2⟩

end Go.Proofs.Ytjlenafdpoknhaa
