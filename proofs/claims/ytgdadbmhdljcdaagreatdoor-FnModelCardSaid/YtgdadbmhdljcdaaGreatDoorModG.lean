/- Small things that FnModel leans on. -/
import Derived.Test.YtgdadbmhdljcdaaGreatDoorTD
import Derived.Test.YtgdadbmhdljcdaaGreatDoorTxtMp
import Derived.Test.YtgdadbmhdljcdaaGreatDoorUE
import Derived.Test.YtgdadbmhdljcdaaGreatDoorVF
import Derived.Test.YtgdadbmhdljcdaaGreatDoorWA
import Derived.Test.YtgdadbmhdljcdaaGreatDoorWC
import Derived.Test.YtgdadbmhdljcdaaGreatDoorWD
import Derived.Test.YtgdadbmhdljcdaaGreatDoorWH
import Derived.Test.YtgdadbmhdljcdaaGreatDoorWK
import Derived.Test.YtgdadbmhdljcdaaGreatDoorWL
namespace Go.Proofs.YtgdadbmhdljcdaaGreatDoor
set_option linter.unusedVariables false
open Go.RowKit Go.Proofs.Bell Go.BigFrame

theorem abs10_c (n M : Int) (w : World) (h1 : n ≤ M) (h2 : -n ≤ M) (hM : M ≤ 1000000000000000000) : Calls Tryz.prog 26 #[.int .i64 n] w (RetS (.int .i64 (absI n)) w) := by
  by_cases t : n < 0
  · have e : absI n = -n := by unfold absI; omega
    rw [e]
    have t1 : decide (n < 0) = true := decide_eq_true t
    have hw : IntKind.i64.wrap (-n) = -n := IntWalk.i64_in _ (by omega)
    go_enter Tryz.func26, Tryz.ntmps26
    go_wp2
    go_returns
    exact RetS.mk rfl
  · have e : absI n = n := by unfold absI; omega
    rw [e]
    have t1 : decide (n < 0) = false := decide_eq_false t
    go_enter Tryz.func26, Tryz.ntmps26
    go_wp2
    go_returns
    exact RetS.mk rfl

set_option maxHeartbeats 1600000 in
theorem PartialOf_c (a b c d f : Int) (k : Nat) (w : World) (hs : soundB a b c d f = true) (hk : k < 5) : Calls Tryz.prog 25 #[.agg #[.int .i64 a, .int .i64 b, .int .i64 c, .int .i64 d, .int .i64 f], .int .i64 ((k : Int) + 1)] w (RetB (.tuple #[.int .i64 ([a, b, c, d, f].getD k 0), .int .i64 0]) w) := by
  have hok := fun w' g h0 h1 h2 h3 h4 => l04Ok_c a b c d f g w' h0 h1 h2 h3 h4
  rw [hs] at hok
  have hpa := fun w' => l04Partial_c ((k : Int) + 1) w'
  rw [show inB ((k : Int) + 1) 1 5 = true from inB_mk (by omega)] at hpa
  have hli := fun w' g h0 h1 h2 h3 h4 => l04ListO_c a b c d f g w' h0 h1 h2 h3 h4
  have hl5 : [a, b, c, d, f].length = 5 := rfl
  generalize [a, b, c, d, f] = L at *
  obtain ⟨y, hy⟩ : ∃ y, y = L.getD k 0 := ⟨_, rfl⟩
  rw [← hy]
  have HY := Lib.hid hy; clear hy
  have e1 : IntKind.i64.wrap ((k : Int) + 1 - 1) = (k : Int) := by rw [IntWalk.i64_in _ (by omega)]; omega
  have HOK := Lib.hid hok; clear hok
  have HPA := Lib.hid hpa; clear hpa
  have HLI := Lib.hid hli; clear hli
  have HL5 := Lib.hid hl5; clear hl5
  go_enter Tryz.func25, Tryz.ntmps25
  have b0 : Below w.heap.size w w := Below.refl _ _
  have z0 : w.heap.size ≤ w.heap.size := Nat.le_refl _
  go_wp2_with fail
  refine (HOK.out _ w.heap.size (by simp [go_sem]) (by simp [go_sem]) (by simp [go_sem]) (by simp [go_sem]) (by simp [go_sem])).mono ?_
  rintro _ w1 ⟨rfl, r1⟩
  have s1 : Below w.heap.size w w1 := Below.trans (by go_grown) (r1.mono (by simp; try omega))
  have b1 := b0.trans (s1.mono z0)
  have z1 := b1.size
  have y1 := s1.size
  have c0_0_1 := below_cell r1 (p := ⟨w.heap.size, 0, none⟩) (v := .int .i64 a) (by simp [go_sem])
  have c0_1_1 := below_cell r1 (p := ⟨w.heap.size, 1, none⟩) (v := .int .i64 b) (by simp [go_sem])
  have c0_2_1 := below_cell r1 (p := ⟨w.heap.size, 2, none⟩) (v := .int .i64 c) (by simp [go_sem])
  have c0_3_1 := below_cell r1 (p := ⟨w.heap.size, 3, none⟩) (v := .int .i64 d) (by simp [go_sem])
  have c0_4_1 := below_cell r1 (p := ⟨w.heap.size, 4, none⟩) (v := .int .i64 f) (by simp [go_sem])
  clear r1
  go_wp2_with fail
  refine (HPA.out _).mono ?_
  rintro _ _ ⟨rfl, rfl⟩
  go_wp2_with fail
  refine (HLI.out _ w.heap.size c0_0_1 c0_1_1 c0_2_1 c0_3_1 c0_4_1).mono ?_
  rintro _ w2 ⟨x2, rfl, n2, r2⟩
  have s2 := r2
  have b2 := b1.trans (s2.mono z1)
  have z2 := b2.size
  have y2 := s2.size
  have c0_0_2 := below_cell s2 c0_0_1; clear c0_0_1
  have c0_1_2 := below_cell s2 c0_1_1; clear c0_1_1
  have c0_2_2 := below_cell s2 c0_2_1; clear c0_2_1
  have c0_3_2 := below_cell s2 c0_3_1; clear c0_3_1
  have c0_4_2 := below_cell s2 c0_4_1; clear c0_4_1
  clear r2
  obtain ⟨aL, cL, hvL⟩ := own_shape n2
  rw [HL5.out] at hvL
  subst hvL
  have rdL := Rd.of_own n2
  rw [HL5.out] at rdL
  obtain ⟨_, aoL, capL, bL, offL, hvL, haoL, hcellL⟩ := rdL.open
  cases hvL
  have xL := haoL (by omega)
  subst xL
  have hlt : k < L.length := by rw [HL5.out]; exact hk
  have hix := ix (P := Tryz.prog) (T := 42) (n := 5) (cap := cL) Tryz.underlying42 cells_int64 has_int64 (ao := some ⟨bL, offL, none⟩) (b := bL) (off := offL) (fun _ => rfl) (k := k) hk _ rfl
  rw [Nat.mul_one] at hix
  have hc : w2.cell? ⟨bL, offL + k, none⟩ = some (.int .i64 y) := by rw [HY.out, getD_eq hlt]; exact hcellL _ (Below.refl _ _) _ _ (by omega) (intsAt hlt)
  clear hcellL haoL rdL n2 hlt
  go_wp2
  go_returns
  exact RetB.mk rfl b2

set_option maxHeartbeats 1600000 in
theorem nums10_c (u v : Value) (zs : List Int) (w : World) (hu : Rd w u zs.length (ints zs)) (hv : Rd w v zs.length (ints zs)) : Calls Tryz.prog 32 #[u, v] w (RetD (.bool true) w) := by
  obtain ⟨_, aoA, capA, bA, offA, rfl, haoA, hcA⟩ := hu.open
  obtain ⟨_, aoB, capB, bB, offB, rfl, haoB, hcB⟩ := hv.open
  have HCA := Lib.hid hcA; clear hcA
  have HCB := Lib.hid hcB; clear hcB
  have HAA := Lib.hid haoA; clear haoA
  have HAB := Lib.hid haoB; clear haoB
  clear hu hv
  generalize hN : zs.length = N at *
  have HN := Lib.hid hN; clear hN
  go_enter Tryz.func32, Tryz.ntmps32
  go_wp2_with fail
  go_loopw [5] (fun i wr => ∃ (k : Nat), k ≤ N ∧ i = .int .i64 k ∧ Dr w wr) (fun i _ => N - (intOf i).toNat)
  case atStart => exact ⟨0, Nat.zero_le _, rfl, Dr.refl _⟩
  case round =>
    obtain ⟨k, hk, rfl, hd⟩ := hrel
    by_cases hlt : k < N
    · have hltd : decide (k < N) = true := decide_eq_true hlt
      obtain rfl := HAA.out (by omega)
      obtain rfl := HAB.out (by omega)
      have hlt' : k < zs.length := by rw [HN.out]; exact hlt
      have ixA := ix (P := Tryz.prog) (T := 42) (n := N) (cap := capA) Tryz.underlying42 cells_int64 has_int64 (ao := some ⟨bA, offA, none⟩) (b := bA) (off := offA) (fun _ => rfl) (k := k) hlt _ rfl
      have ixB := ix (P := Tryz.prog) (T := 42) (n := N) (cap := capB) Tryz.underlying42 cells_int64 has_int64 (ao := some ⟨bB, offB, none⟩) (b := bB) (off := offB) (fun _ => rfl) (k := k) hlt _ rfl
      rw [Nat.mul_one] at ixA ixB
      have d1 : wr.cell? ⟨bA, offA + k, none⟩ = some (.int .i64 (zs.getD k 0)) := by rw [getD_eq hlt']; exact HCA.out _ hd.below _ _ (by omega) (intsAt hlt')
      have d2 : wr.cell? ⟨bB, offB + k, none⟩ = some (.int .i64 (zs.getD k 0)) := by rw [getD_eq hlt']; exact HCB.out _ hd.below _ _ (by omega) (intsAt hlt')
      generalize zs.getD k 0 = x at *
      go_wp2_with fail
      go_quiet (fail)
      go_wp2
      go_roundw
      case rel => exact ⟨k + 1, by omega, by go_num, (by first | exact Dr.refl _ | exact Dr.next (by assumption) _ | assumption | exact ⟨_, rfl⟩ | exact ⟨_, World.drewN_drewN _ _ _⟩)⟩
      case measure => simp [intOf]; omega
    · obtain rfl : k = N := by omega
      go_wp2
      go_returns
      exact RetD.mk rfl hd

theorem fitM_nil {zs : List Int} {ws : List (List Int)} {bs : List Int} {nm : ByteArray} {ps : List (Int × Int × Int)} {a b c d f : Int} (h : ¬ (fitM zs ws bs nm ps a b c d f).2 = 0) : (fitM zs ws bs nm ps a b c d f).1 = ([], [], []) := by
  unfold fitM at h ⊢
  split
  · rename_i h1
    rw [if_pos h1] at h
    split
    · rename_i h2
      rw [if_pos h2] at h
      split
      · rename_i h3
        rw [if_pos h3] at h
        exact absurd rfl h
      · rfl
    · rfl
  · rfl
/-- the raw partial is near, so it is small -/
theorem near_small {raw w base : Int} (h0 : 0 ≤ raw) (hw : 0 ≤ w) (hw2 : w ≤ 20000000) (hb : 1 ≤ base) (hb2 : base ≤ 1000000000) (h : 2 * absI (raw - w) * base ≤ raw + 2 * w + 4 * base) :
    raw ≤ 200000000 ∧ absI (raw - w) ≤ 200000000 ∧ 0 ≤ absI (raw - w) ∧ 0 ≤ 2 * absI (raw - w) * base ∧ 2 * absI (raw - w) * base ≤ 10000000000 := by
  have hd0 : 0 ≤ absI (raw - w) := by unfold absI; omega
  have hd1 : raw ≤ w + absI (raw - w) := by unfold absI; omega
  have hd2 : absI (raw - w) ≤ raw + w := by unfold absI; omega
  generalize absI (raw - w) = dd at *
  have hp : 0 ≤ dd * base := Int.mul_nonneg hd0 (by omega)
  rw [Int.mul_assoc] at h ⊢
  have hds : dd ≤ 60000004 := by
    rcases Int.lt_or_le dd 2 with e | e
    · omega
    · have := Int.mul_le_mul_of_nonneg_left hb (show (0 : Int) ≤ dd - 2 by omega)
      rw [Int.mul_one, Int.sub_mul] at this
      omega
  omega
theorem modT_size {zs : List Int} {ws : List (List Int)} {bs : List Int} (h : modelB zs ws bs = true) : (modT zs ws bs).length ≤ 20000 := by
  obtain ⟨h1, h2, h3, h4⟩ := modelB_I h
  have a := outM_len h1 h2 h3 5 (by omega)
  have b := h4.len
  unfold modT
  rw [h2]
  simp only [List.length_append, List.length_cons, List.length_nil]
  omega
theorem same_self (zs : List Int) (ws : List (List Int)) (bs : List Int) : sameMB zs ws bs zs ws bs = true := by
  unfold sameMB eqZs eqWs
  simp
theorem std_valid {zs : List Int} (h : zonesB zs 31 = true) : modelB zs (stdK zs.length 5) base5 = true := by
  obtain ⟨h1, h8⟩ := zonesB_len h
  exact model_ok (std_sh h1 h8) h (std_w h1) base5_ok
theorem long10_c (v : Value) (zs : List Int) (w : World) (h : Rd w v zs.length (bytesV zs)) : Calls Tryz.prog 20 #[v] w (RetS (.bool (decide (1048576 < zs.length))) w) := by
  obtain ⟨hn, ao, cap, b, off, rfl, hao, hcell⟩ := h.open
  clear hcell h hao
  generalize zs.length = n at *
  cases t1 : decide (1048576 < n)
  · have t2 : decide ((1048576 : Int) < (n : Int)) = false := decide_eq_false (by have := of_decide_eq_false t1; omega)
    go_enter Tryz.func20, Tryz.ntmps20
    go_wp2
    go_returns
    exact RetS.mk rfl
  · have t2 : decide ((1048576 : Int) < (n : Int)) = true := decide_eq_true (by have := of_decide_eq_true t1; omega)
    go_enter Tryz.func20, Tryz.ntmps20
    go_wp2
    go_returns
    exact RetS.mk rfl

end Go.Proofs.YtgdadbmhdljcdaaGreatDoor
