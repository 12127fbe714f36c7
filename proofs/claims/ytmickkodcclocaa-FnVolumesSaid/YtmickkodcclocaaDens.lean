/- The least density. -/
import Derived.Test.YtmickkodcclocaaGH
namespace Go.Proofs.Ytmickkodcclocaa
set_option linter.unusedVariables false
open Go.RowKit Go.Proofs.Bell Go.BigFrame

theorem rnd_mono {a b m : Int} (ha : 0 ≤ a) (h : a ≤ b) (hm : 1 ≤ m) : rnd a m ≤ rnd b m := by
  unfold rnd
  rw [if_neg (by omega), if_neg (by omega)]
  exact Int.ediv_le_ediv (by omega) (by omega)
theorem mass_mono {rs : List (Int × Int × Int)} {d e : Int} (hv : 0 ≤ volI rs) (h0 : 0 ≤ d) (h : d ≤ e) : massI rs d ≤ massI rs e :=
  rnd_mono (Int.mul_nonneg hv h0) (Int.mul_le_mul_of_nonneg_left h hv) (by omega)
theorem below_next {p : Nat → Bool} {k : Nat} (h : ∀ i, i < k → p i = false) (hk : p k = false) : ∀ i, i < k + 1 → p i = false := fun i hi => by
  rcases Nat.lt_or_ge i k with h1 | h1
  · exact h i h1
  · rw [show i = k by omega]; exact hk
theorem low_next {p : Nat → Bool} {q : Nat} (hup : ∀ i j, i ≤ j → p i = true → p j = true) (hq : p q = false) : ∀ i, i < q + 1 → p i = false := fun i hi => by
  cases hh : p i
  · rfl
  · have := hup i q (by omega) hh
    rw [hq] at this; cases this
/-- is it enough? -/
def enoughB (rs : List (Int × Int × Int)) (m : Int) (j : Nat) : Bool := decide (m ≤ massI rs (1000 + (j : Int)))
def leastJ (rs : List (Int × Int × Int)) (m : Int) : Nat := (List.range 19001).findIdx (enoughB rs m)
theorem leastJ_eq {rs : List (Int × Int × Int)} {m : Int} {j : Nat} (hj : j < 19001) (h1 : enoughB rs m j = true) (h0 : ∀ i, i < j → enoughB rs m i = false) : leastJ rs m = j := by
  unfold leastJ
  rw [List.findIdx_eq (by simpa using hj)]
  exact ⟨by simpa using h1, fun i hi => by simpa using h0 i hi⟩
theorem leastJ_none {rs : List (Int × Int × Int)} {m : Int} (h0 : ∀ i, i < 19001 → enoughB rs m i = false) : leastJ rs m = 19001 := by
  unfold leastJ
  have := List.findIdx_eq_length (p := enoughB rs m) (xs := List.range 19001)
  rw [List.length_range] at this
  exact this.2 (fun x hx => h0 x (List.mem_range.1 hx))
def densJ (rs : List (Int × Int × Int)) (m : Int) : Int × Int := if leastJ rs m < 19001 then (1000 + (leastJ rs m : Int), 0) else (0, 3)
theorem densJ_yes {rs : List (Int × Int × Int)} {m : Int} {j : Nat} (h : leastJ rs m = j) (hj : j ≤ 19000) : densJ rs m = (1000 + (j : Int), 0) := by unfold densJ; rw [h, if_pos (by omega)]
theorem densJ_no {rs : List (Int × Int × Int)} {m : Int} (h : leastJ rs m = 19001) : densJ rs m = (0, 3) := by unfold densJ; rw [h, if_neg (by omega)]
def densI (nm : ByteArray) (rs : List (Int × Int × Int)) (m : Int) : Int × Int :=
  if profB nm rs then (if inB m 0 1000000000 then densJ rs m else (0, 2)) else (0, 1)

set_option maxHeartbeats 1600000 in
theorem implDensityFor_c (nm : ByteArray) (sv : Value) (ps : List (Int × Int × Int)) (m : Int) (w : World) (hnm : nm.size ≤ maxLen) (hr : Rd w sv ps.length (trips ps)) :
    Calls Try.prog 67 #[.agg #[.string nm, sv], .int .i64 m] w (RetB (.tuple #[.int .i64 (densI nm ps m).1, .int .i64 (densI nm ps m).2]) w) := by
  have hok := fun w' (hb : Below w.heap.size w w') => ValidProfile_c nm sv ps w' hnm (hr.later hb)
  cases t0 : profB nm ps <;> rw [t0] at hok
  · have HOK := Lib.hid hok; clear hok
    go_enter Try.func67, Try.ntmps67
    have b0 : Below w.heap.size w w := Below.refl _ _
    have z0 : w.heap.size ≤ w.heap.size := Nat.le_refl _
    go_wp2_with fail
    refine (HOK.out _ (by go_grown)).mono ?_
    rintro _ w1 ⟨rfl, r1⟩
    have s1 : Below w.heap.size w w1 := Below.trans (by go_grown) (r1.mono (by simp; try omega))
    have b1 := b0.trans (s1.mono z0)
    have z1 := b1.size
    have y1 := s1.size
    have c0_0_1 := below_cell r1 (p := ⟨w.heap.size, 0, none⟩) (v := .string nm) (by simp [go_sem])
    have c0_1_1 := below_cell r1 (p := ⟨w.heap.size, 1, none⟩) (v := sv) (by simp [go_sem])
    clear r1
    go_wp2
    go_returns
    exact RetB.mk (ints_eq (by simp [densI, t0]) (by simp [densI, t0])) b1
  · have HOK := Lib.hid hok; clear hok
    obtain ⟨hl1, hl2, hal, hht⟩ := profB_t t0
    have hv := fun w' (hb : Below w.heap.size w w') => volumeOf_c nm sv ps w' (hr.later hb) hal hl2
    have hvb := volI_bd hal hl2
    have hw := fun w' => within_c m 0 1000000000 w'
    have hre : densI nm ps m = if inB m 0 1000000000 then densJ ps m else (0, 2) := by simp [densI, t0]
    rw [hre]
    clear hre hr hal hht
    cases t1 : inB m 0 1000000000 <;> rw [t1] at hw
    · have HV := Lib.hid hv; clear hv
      have HW := Lib.hid hw; clear hw
      go_enter Try.func67, Try.ntmps67
      have b0 : Below w.heap.size w w := Below.refl _ _
      have z0 : w.heap.size ≤ w.heap.size := Nat.le_refl _
      go_wp2_with fail
      refine (HOK.out _ (by go_grown)).mono ?_
      rintro _ w1 ⟨rfl, r1⟩
      have s1 : Below w.heap.size w w1 := Below.trans (by go_grown) (r1.mono (by simp; try omega))
      have b1 := b0.trans (s1.mono z0)
      have z1 := b1.size
      have y1 := s1.size
      have c0_0_1 := below_cell r1 (p := ⟨w.heap.size, 0, none⟩) (v := .string nm) (by simp [go_sem])
      have c0_1_1 := below_cell r1 (p := ⟨w.heap.size, 1, none⟩) (v := sv) (by simp [go_sem])
      clear r1
      go_wp2_with fail
      refine (HW.out _).mono ?_
      rintro _ _ ⟨rfl, rfl⟩
      go_wp2
      go_returns
      exact RetB.mk (rfl) b1
    · obtain ⟨m0, m1⟩ := inB_t t1
      rw [if_pos rfl]
      have hmb := fun (k : Nat) (hk : k ≤ 19000) => mul_bd (a := volI ps) (b := 1000 + (k : Int)) (A := 678584088000) (B := 20000) hvb.1 (by omega) hvb.2 (by omega)
      have heq : ∀ k : Nat, massI ps (1000 + (k : Int)) = rnd (volI ps * (1000 + (k : Int))) 1000000 := fun k => rfl
      have hen : ∀ k : Nat, enoughB ps m k = decide (m ≤ massI ps (1000 + (k : Int))) := fun k => rfl
      have hyes := fun j (h1 : j ≤ 19000) h2 h3 => densJ_yes (leastJ_eq (rs := ps) (m := m) (j := j) (by omega) h2 h3) h1
      have hno := fun h => densJ_no (leastJ_none (rs := ps) (m := m) h)
      have HMB := Lib.hid hmb; clear hmb
      have HEQ := Lib.hid heq; clear heq
      have HEN := Lib.hid hen; clear hen
      generalize densJ ps m = R at *
      have HYES := Lib.hid hyes; clear hyes
      have HNO := Lib.hid hno; clear hno
      have HV := Lib.hid hv; clear hv
      have HW := Lib.hid hw; clear hw
      generalize volI ps = vol at *
      go_enter Try.func67, Try.ntmps67
      have b0 : Below w.heap.size w w := Below.refl _ _
      have z0 : w.heap.size ≤ w.heap.size := Nat.le_refl _
      go_wp2_with fail
      refine (HOK.out _ (by go_grown)).mono ?_
      rintro _ w1 ⟨rfl, r1⟩
      have s1 : Below w.heap.size w w1 := Below.trans (by go_grown) (r1.mono (by simp; try omega))
      have b1 := b0.trans (s1.mono z0)
      have z1 := b1.size
      have y1 := s1.size
      have c0_0_1 := below_cell r1 (p := ⟨w.heap.size, 0, none⟩) (v := .string nm) (by simp [go_sem])
      have c0_1_1 := below_cell r1 (p := ⟨w.heap.size, 1, none⟩) (v := sv) (by simp [go_sem])
      clear r1
      go_wp2_with fail
      refine (HW.out _).mono ?_
      rintro _ _ ⟨rfl, rfl⟩
      go_wp2_with fail
      refine (HV.out _ b1).mono ?_
      rintro _ w2 ⟨rfl, r2⟩
      have s2 := r2
      have b2 := b1.trans (s2.mono z1)
      have z2 := b2.size
      have y2 := s2.size
      have c0_0_2 := below_cell s2 c0_0_1; clear c0_0_1
      have c0_1_2 := below_cell s2 c0_1_1; clear c0_1_1
      clear r2
      go_wp2_with fail
      go_loopw [7] (fun dd wr => ∃ (k : Nat), k ≤ 19001 ∧ dd = .int .i64 (1000 + (k : Int)) ∧ (∀ i, i < k → enoughB ps m i = false) ∧ Below w.heap.size w wr ∧ wr.cell? ⟨w.heap.size, 0, none⟩ = some (.string nm) ∧ wr.cell? ⟨w.heap.size, 1, none⟩ = some (sv)) (fun dd _ => 20001 - (intOf dd).toNat)
      case atStart => exact ⟨0, by omega, rfl, fun i hi => by omega, b2, c0_0_2, c0_1_2⟩
      case round =>
        obtain ⟨k, hk, rfl, hx, br0, c0_0_r0, c0_1_r0⟩ := hrel
        have zr0 := br0.size
        have HX := Lib.hid hx; clear hx
        by_cases hlt : k ≤ 19000
        · have hb1 := HMB.out k hlt
          have hn := fun w' => nearest_c (vol * (1000 + (k : Int))) 1000000 w' (by omega) (by omega) (by omega) (by omega)
          rw [← HEQ.out k] at hn
          have he := HEN.out k
          have HN := Lib.hid hn; clear hn
          have HE := Lib.hid he; clear he
          generalize massI ps (1000 + (k : Int)) = z at *
          go_wp2_with fail
          refine (HN.out _).mono ?_
          rintro _ wr1 ⟨rfl, dr1⟩
          have rr1 := Dr.below dr1; clear dr1
          have sr1 := rr1
          have br1 := br0.trans (sr1.mono zr0)
          have zr1 := br1.size
          have yr1 := sr1.size
          have c0_0_r1 := below_cell sr1 c0_0_r0; clear c0_0_r0
          have c0_1_r1 := below_cell sr1 c0_1_r0; clear c0_1_r0
          clear rr1
          by_cases t2 : m ≤ z
          · have hl := HYES.out k (by omega) (by rw [HE.out]; simpa using t2) HX.out
            have HL := Lib.hid hl; clear hl
            go_wp2
            go_returns
            exact RetB.mk (ints_eq (by rw [HL.out]) (by rw [HL.out])) br1
          · go_wp2
            go_roundw
            case rel => exact ⟨k + 1, by omega, by rw [show ((k + 1 : Nat) : Int) = (k : Int) + 1 by simp]; exact int_eq (by omega), below_next HX.out (by rw [HE.out]; simpa using t2), (by first | exact br1 | exact below_drewN br1 _ | go_grown), (by first | exact c0_0_r1 | exact alloc_cell _ c0_0_r1 | exact below_cell (below_drewN (Below.refl _ _) _) c0_0_r1 | simp [go_sem, c0_0_r1]), (by first | exact c0_1_r1 | exact alloc_cell _ c0_1_r1 | exact below_cell (below_drewN (Below.refl _ _) _) c0_1_r1 | simp [go_sem, c0_1_r1])⟩
            case measure => simp [intOf]; omega
        · skip
          have hl := HNO.out (fun i hi => HX.out i (by omega))
          have h9 : 20000 < 1000 + (k : Int) := by omega
          have HL := Lib.hid hl; clear hl
          clear hlt hk HX HNO HYES HMB HEQ HEN
          generalize (k : Int) = kz at *
          go_wp2
          go_returns
          exact RetB.mk (ints_eq (by rw [HL.out]) (by rw [HL.out])) br0

end Go.Proofs.Ytmickkodcclocaa
