/- A family of profiles: both whole functions. -/
import Derived.Test.YtmeeibcbhjifbaaFamH
import Derived.Test.YtmeeibcbhjifbaaFamS
namespace Go.Proofs.Ytmeeibcbhjifbaa
set_option linter.unusedVariables false
open Go.RowKit Go.Proofs.Bell Go.BigFrame

def famT (nm : ByteArray) (rs : List (Int × Int × Int)) (num den cnt : Int) : List PR × Int :=
  if profB nm rs then (if scl2B num den && (decide (num ≤ den) && inB cnt 1 64) then famV nm num den rs cnt.toNat else ([], 2)) else ([], 1)
theorem scl_1000 {x : Int} (h : sclB x = true) : 1 ≤ x ∧ x ≤ 1000 := inB_t h

set_option maxRecDepth 100000 in
set_option maxHeartbeats 1600000 in
theorem specFamilyOf_c (nm : ByteArray) (sv : Value) (rs : List (Int × Int × Int)) (num den cnt : Int) (w : World) (hnm : nm.size ≤ maxLen) (hr : Rd w sv rs.length (trips rs)) :
    Calls Try.prog 8 #[.agg #[.string nm, sv], .int .i64 num, .int .i64 den, .int .i64 cnt] w (RetPS2 (famT nm rs num den cnt).1 (.int .i64 (famT nm rs num den cnt).2) w) := by
  have hok := fun w' g hg c0 c1 (hb : Below w.heap.size w w') => l05Ok_c g nm sv rs w' hg hnm c0 c1 (hr.later hb)
  have hq1 := fun w' => l07Scale_c num den w'
  have hin := fun w' => l00In_c cnt 1 64 w'
  cases t0 : profB nm rs <;> rw [t0] at hok
  · have he : famT nm rs num den cnt = ([], 1) := by simp [famT, t0]
    rw [he]
    have HOK := Lib.hid hok; clear hok
    clear he hr hq1 hin
    go_enter Try.func8, Try.ntmps8
    have b0 : Below w.heap.size w w := Below.refl _ _
    have z0 : w.heap.size ≤ w.heap.size := Nat.le_refl _
    go_wp2_with fail
    refine (HOK.out _ w.heap.size (by simp) (by simp [go_sem]) (by simp [go_sem]) (by go_grown)).mono ?_
    rintro _ w1 ⟨rfl, d1⟩
    have r1 := Dr.below d1; clear d1
    have s1 : Below w.heap.size w w1 := Below.trans (by go_grown) (r1.mono (by simp; try omega))
    have b1 := b0.trans (s1.mono z0)
    have z1 := b1.size
    have y1 := s1.size
    have c0_0_1 := below_cell r1 (p := ⟨w.heap.size, 0, none⟩) (v := .string nm) (by simp [go_sem])
    have c0_1_1 := below_cell r1 (p := ⟨w.heap.size, 1, none⟩) (v := sv) (by simp [go_sem])
    clear r1
    go_wp2
    go_returns
    exact ⟨_, [], rfl, OwnPS.nil _ _ _, b1⟩
  · cases t1 : scl2B num den <;> rw [t1] at hq1
    · have he : famT nm rs num den cnt = ([], 2) := by simp [famT, t0, t1]
      rw [he]
      have HOK := Lib.hid hok; clear hok
      have HQ1 := Lib.hid hq1; clear hq1
      clear he hr hin
      go_enter Try.func8, Try.ntmps8
      have b0 : Below w.heap.size w w := Below.refl _ _
      have z0 : w.heap.size ≤ w.heap.size := Nat.le_refl _
      go_wp2_with fail
      refine (HOK.out _ w.heap.size (by simp) (by simp [go_sem]) (by simp [go_sem]) (by go_grown)).mono ?_
      rintro _ w1 ⟨rfl, d1⟩
      have r1 := Dr.below d1; clear d1
      have s1 : Below w.heap.size w w1 := Below.trans (by go_grown) (r1.mono (by simp; try omega))
      have b1 := b0.trans (s1.mono z0)
      have z1 := b1.size
      have y1 := s1.size
      have c0_0_1 := below_cell r1 (p := ⟨w.heap.size, 0, none⟩) (v := .string nm) (by simp [go_sem])
      have c0_1_1 := below_cell r1 (p := ⟨w.heap.size, 1, none⟩) (v := sv) (by simp [go_sem])
      clear r1
      go_wp2_with fail
      refine (HQ1.out _).mono ?_
      rintro _ _ ⟨rfl, rfl⟩
      go_wp2
      go_returns
      exact ⟨_, [], rfl, OwnPS.nil _ _ _, b1⟩
    · by_cases t2 : den < num
      · have he : famT nm rs num den cnt = ([], 2) := by simp [famT, t0, t1, show ¬ num ≤ den by omega]
        rw [he]
        have t2d : decide (den < num) = true := decide_eq_true t2
        have HOK := Lib.hid hok; clear hok
        have HQ1 := Lib.hid hq1; clear hq1
        clear he hr hin
        go_enter Try.func8, Try.ntmps8
        have b0 : Below w.heap.size w w := Below.refl _ _
        have z0 : w.heap.size ≤ w.heap.size := Nat.le_refl _
        go_wp2_with fail
        refine (HOK.out _ w.heap.size (by simp) (by simp [go_sem]) (by simp [go_sem]) (by go_grown)).mono ?_
        rintro _ w1 ⟨rfl, d1⟩
        have r1 := Dr.below d1; clear d1
        have s1 : Below w.heap.size w w1 := Below.trans (by go_grown) (r1.mono (by simp; try omega))
        have b1 := b0.trans (s1.mono z0)
        have z1 := b1.size
        have y1 := s1.size
        have c0_0_1 := below_cell r1 (p := ⟨w.heap.size, 0, none⟩) (v := .string nm) (by simp [go_sem])
        have c0_1_1 := below_cell r1 (p := ⟨w.heap.size, 1, none⟩) (v := sv) (by simp [go_sem])
        clear r1
        go_wp2_with fail
        refine (HQ1.out _).mono ?_
        rintro _ _ ⟨rfl, rfl⟩
        go_wp2
        go_returns
        exact ⟨_, [], rfl, OwnPS.nil _ _ _, b1⟩
      · cases t3 : inB cnt 1 64 <;> rw [t3] at hin
        · have he : famT nm rs num den cnt = ([], 2) := by simp [famT, t0, t3]
          rw [he]
          have t2d : decide (den < num) = false := decide_eq_false t2
          have HOK := Lib.hid hok; clear hok
          have HQ1 := Lib.hid hq1; clear hq1
          have HIN := Lib.hid hin; clear hin
          clear he hr
          go_enter Try.func8, Try.ntmps8
          have b0 : Below w.heap.size w w := Below.refl _ _
          have z0 : w.heap.size ≤ w.heap.size := Nat.le_refl _
          go_wp2_with fail
          refine (HOK.out _ w.heap.size (by simp) (by simp [go_sem]) (by simp [go_sem]) (by go_grown)).mono ?_
          rintro _ w1 ⟨rfl, d1⟩
          have r1 := Dr.below d1; clear d1
          have s1 : Below w.heap.size w w1 := Below.trans (by go_grown) (r1.mono (by simp; try omega))
          have b1 := b0.trans (s1.mono z0)
          have z1 := b1.size
          have y1 := s1.size
          have c0_0_1 := below_cell r1 (p := ⟨w.heap.size, 0, none⟩) (v := .string nm) (by simp [go_sem])
          have c0_1_1 := below_cell r1 (p := ⟨w.heap.size, 1, none⟩) (v := sv) (by simp [go_sem])
          clear r1
          go_wp2_with fail
          refine (HQ1.out _).mono ?_
          rintro _ _ ⟨rfl, rfl⟩
          go_wp2_with fail
          refine (HIN.out _).mono ?_
          rintro _ _ ⟨rfl, rfl⟩
          go_wp2
          go_returns
          exact ⟨_, [], rfl, OwnPS.nil _ _ _, b1⟩
        · have he : famT nm rs num den cnt = famV nm num den rs cnt.toNat := by simp [famT, t0, t1, t3, show num ≤ den by omega]
          rw [he]
          have h3 := inB_t t3
          simp only [scl2B, Bool.and_eq_true] at t1
          have s1 := scl_1000 t1.1
          have s2 := scl_1000 t1.2
          obtain ⟨c, rfl⟩ : ∃ c : Nat, cnt = (c : Int) := ⟨cnt.toNat, by omega⟩
          exact specFamily_good nm sv rs num den c w hnm hr t0 (by omega) (by omega) (by omega) (by omega) (by omega)

set_option maxRecDepth 100000 in
set_option maxHeartbeats 1600000 in
theorem implFamilyOf_c (nm : ByteArray) (sv : Value) (rs : List (Int × Int × Int)) (num den cnt : Int) (w : World) (hnm : nm.size ≤ maxLen) (hr : Rd w sv rs.length (trips rs)) :
    Calls Try.prog 10 #[.agg #[.string nm, sv], .int .i64 num, .int .i64 den, .int .i64 cnt] w (RetPS2 (famT nm rs num den cnt).1 (.int .i64 (famT nm rs num den cnt).2) w) := by
  have hok := fun w' (hb : Below w.heap.size w w') => ValidProfile_c nm sv rs w' hnm (hr.later hb)
  have hq1 := fun w' => isScale_c num w'
  have hq2 := fun w' => isScale_c den w'
  have hin := fun w' => within_c cnt 1 64 w'
  cases t0 : profB nm rs <;> rw [t0] at hok
  · have he : famT nm rs num den cnt = ([], 1) := by simp [famT, t0]
    rw [he]
    have HOK := Lib.hid hok; clear hok
    clear he hr hq1 hq2 hin
    go_enter Try.func10, Try.ntmps10
    have b0 : Below w.heap.size w w := Below.refl _ _
    have z0 : w.heap.size ≤ w.heap.size := Nat.le_refl _
    go_wp2_with fail
    refine (HOK.out _ (by go_grown)).mono ?_
    rintro _ w1 ⟨rfl, r1⟩
    have s1 : Below w.heap.size w w1 := Below.trans (by go_grown) (r1.mono (by simp; try omega))
    have b1 := b0.trans (s1.mono z0)
    have z1 := b1.size
    have y1 := s1.size
    have c0_0_1 := below_cell r1 (p := ⟨w.heap.size, 0, none⟩) (v := .string nm) (by simp [go_sem])
    have c0_1_1 := below_cell r1 (p := ⟨w.heap.size, 1, none⟩) (v := sv) (by simp [go_sem])
    clear r1
    go_wp2
    go_returns
    exact ⟨_, [], rfl, OwnPS.nil _ _ _, b1⟩
  · cases t1 : sclB num <;> rw [t1] at hq1
    · have he : famT nm rs num den cnt = ([], 2) := by simp [famT, t0, scl2B, t1]
      rw [he]
      have HOK := Lib.hid hok; clear hok
      have HQ1 := Lib.hid hq1; clear hq1
      clear he hr hin hq2
      go_enter Try.func10, Try.ntmps10
      have b0 : Below w.heap.size w w := Below.refl _ _
      have z0 : w.heap.size ≤ w.heap.size := Nat.le_refl _
      go_wp2_with fail
      refine (HOK.out _ (by go_grown)).mono ?_
      rintro _ w1 ⟨rfl, r1⟩
      have s1 : Below w.heap.size w w1 := Below.trans (by go_grown) (r1.mono (by simp; try omega))
      have b1 := b0.trans (s1.mono z0)
      have z1 := b1.size
      have y1 := s1.size
      have c0_0_1 := below_cell r1 (p := ⟨w.heap.size, 0, none⟩) (v := .string nm) (by simp [go_sem])
      have c0_1_1 := below_cell r1 (p := ⟨w.heap.size, 1, none⟩) (v := sv) (by simp [go_sem])
      clear r1
      go_wp2_with fail
      refine (HQ1.out _).mono ?_
      rintro _ _ ⟨rfl, rfl⟩
      go_wp2
      go_returns
      exact ⟨_, [], rfl, OwnPS.nil _ _ _, b1⟩
    · cases t1' : sclB den <;> rw [t1'] at hq2
      · have he : famT nm rs num den cnt = ([], 2) := by simp [famT, t0, scl2B, t1, t1']
        rw [he]
        have HOK := Lib.hid hok; clear hok
        have HQ1 := Lib.hid hq1; clear hq1
        have HQ2 := Lib.hid hq2; clear hq2
        clear he hr hin
        go_enter Try.func10, Try.ntmps10
        have b0 : Below w.heap.size w w := Below.refl _ _
        have z0 : w.heap.size ≤ w.heap.size := Nat.le_refl _
        go_wp2_with fail
        refine (HOK.out _ (by go_grown)).mono ?_
        rintro _ w1 ⟨rfl, r1⟩
        have s1 : Below w.heap.size w w1 := Below.trans (by go_grown) (r1.mono (by simp; try omega))
        have b1 := b0.trans (s1.mono z0)
        have z1 := b1.size
        have y1 := s1.size
        have c0_0_1 := below_cell r1 (p := ⟨w.heap.size, 0, none⟩) (v := .string nm) (by simp [go_sem])
        have c0_1_1 := below_cell r1 (p := ⟨w.heap.size, 1, none⟩) (v := sv) (by simp [go_sem])
        clear r1
        go_wp2_with fail
        refine (HQ1.out _).mono ?_
        rintro _ _ ⟨rfl, rfl⟩
        go_wp2_with fail
        refine (HQ2.out _).mono ?_
        rintro _ _ ⟨rfl, rfl⟩
        go_wp2
        go_returns
        exact ⟨_, [], rfl, OwnPS.nil _ _ _, b1⟩
      · by_cases t2 : den < num
        · have he : famT nm rs num den cnt = ([], 2) := by simp [famT, t0, show ¬ num ≤ den by omega]
          rw [he]
          have t2d : decide (den < num) = true := decide_eq_true t2
          have HOK := Lib.hid hok; clear hok
          have HQ1 := Lib.hid hq1; clear hq1
          have HQ2 := Lib.hid hq2; clear hq2
          clear he hr hin
          go_enter Try.func10, Try.ntmps10
          have b0 : Below w.heap.size w w := Below.refl _ _
          have z0 : w.heap.size ≤ w.heap.size := Nat.le_refl _
          go_wp2_with fail
          refine (HOK.out _ (by go_grown)).mono ?_
          rintro _ w1 ⟨rfl, r1⟩
          have s1 : Below w.heap.size w w1 := Below.trans (by go_grown) (r1.mono (by simp; try omega))
          have b1 := b0.trans (s1.mono z0)
          have z1 := b1.size
          have y1 := s1.size
          have c0_0_1 := below_cell r1 (p := ⟨w.heap.size, 0, none⟩) (v := .string nm) (by simp [go_sem])
          have c0_1_1 := below_cell r1 (p := ⟨w.heap.size, 1, none⟩) (v := sv) (by simp [go_sem])
          clear r1
          go_wp2_with fail
          refine (HQ1.out _).mono ?_
          rintro _ _ ⟨rfl, rfl⟩
          go_wp2_with fail
          refine (HQ2.out _).mono ?_
          rintro _ _ ⟨rfl, rfl⟩
          go_wp2
          go_returns
          exact ⟨_, [], rfl, OwnPS.nil _ _ _, b1⟩
        · cases t3 : inB cnt 1 64 <;> rw [t3] at hin
          · have he : famT nm rs num den cnt = ([], 2) := by simp [famT, t0, t3]
            rw [he]
            have t2d : decide (den < num) = false := decide_eq_false t2
            have HOK := Lib.hid hok; clear hok
            have HQ1 := Lib.hid hq1; clear hq1
            have HQ2 := Lib.hid hq2; clear hq2
            have HIN := Lib.hid hin; clear hin
            clear he hr
            go_enter Try.func10, Try.ntmps10
            have b0 : Below w.heap.size w w := Below.refl _ _
            have z0 : w.heap.size ≤ w.heap.size := Nat.le_refl _
            go_wp2_with fail
            refine (HOK.out _ (by go_grown)).mono ?_
            rintro _ w1 ⟨rfl, r1⟩
            have s1 : Below w.heap.size w w1 := Below.trans (by go_grown) (r1.mono (by simp; try omega))
            have b1 := b0.trans (s1.mono z0)
            have z1 := b1.size
            have y1 := s1.size
            have c0_0_1 := below_cell r1 (p := ⟨w.heap.size, 0, none⟩) (v := .string nm) (by simp [go_sem])
            have c0_1_1 := below_cell r1 (p := ⟨w.heap.size, 1, none⟩) (v := sv) (by simp [go_sem])
            clear r1
            go_wp2_with fail
            refine (HQ1.out _).mono ?_
            rintro _ _ ⟨rfl, rfl⟩
            go_wp2_with fail
            refine (HQ2.out _).mono ?_
            rintro _ _ ⟨rfl, rfl⟩
            go_wp2_with fail
            refine (HIN.out _).mono ?_
            rintro _ _ ⟨rfl, rfl⟩
            go_wp2
            go_returns
            exact ⟨_, [], rfl, OwnPS.nil _ _ _, b1⟩
          · have he : famT nm rs num den cnt = famV nm num den rs cnt.toNat := by simp [famT, t0, scl2B, t1, t1', t3, show num ≤ den by omega]
            rw [he]
            have h3 := inB_t t3
            have s1 := scl_1000 t1
            have s2 := scl_1000 t1'
            obtain ⟨c, rfl⟩ : ∃ c : Nat, cnt = (c : Int) := ⟨cnt.toNat, by omega⟩
            exact implFamily_good nm sv rs num den c w hnm hr t0 (by omega) (by omega) (by omega) (by omega) (by omega)

theorem famR_len (num den : Int) (rs : List (Int × Int × Int)) : ∀ j, (famR num den rs j).length = rs.length
  | 0 => rfl
  | j + 1 => by rw [famR, mapK_len, famR_len num den rs j]
theorem stepP_fam (nm : ByteArray) (num den : Int) (rs : List (Int × Int × Int)) (c : Nat) : ∀ k, k ≤ c → stepP (famL nm num den rs c) k = k * (1 + 3 * rs.length)
  | 0, _ => by simp [stepP]
  | k + 1, h => by
    rw [stepP, stepP_fam nm num den rs c k (by omega), show (famL nm num den rs c).getD k nr = _ from famL_at nm num den rs (show k < c by omega)]
    simp only [famR_len]
    rw [Nat.add_mul, Nat.one_mul]; omega
theorem famT_bd (nm : ByteArray) (rs : List (Int × Int × Int)) (num den cnt : Int) : SzPS (famT nm rs num den cnt).1 ≤ 100000 := by
  have h0 : SzPS [] ≤ 100000 := by simp [SzPS, stepP]
  unfold famT
  split
  · rename_i t0
    split
    · rename_i t1
      simp only [Bool.and_eq_true] at t1
      have h3 := inB_t t1.2.2
      have hl := (profB_t t0).2.1
      unfold famV
      split
      · unfold SzPS
        rw [famL_len, stepP_fam _ _ _ _ _ _ (Nat.le_refl _)]
        have h64 : cnt.toNat ≤ 64 := by omega
        have := Nat.mul_le_mul h64 (show 1 + 3 * rs.length ≤ 97 by omega)
        show cnt.toNat + cnt.toNat * (1 + 3 * rs.length) ≤ 100000
        omega
      · exact h0
    · exact h0
  · exact h0

end Go.Proofs.Ytmeeibcbhjifbaa
