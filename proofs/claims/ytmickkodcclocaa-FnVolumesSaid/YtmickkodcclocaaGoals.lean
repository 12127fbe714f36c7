/- Sounds and goals: the law's copy, validity. -/
import Derived.Test.YtmickkodcclocaaGB
import Derived.Test.YtmickkodcclocaaGC
import Derived.Test.YtmickkodcclocaaPitch
import Derived.BigRegion
namespace Go.Proofs.Ytmickkodcclocaa
set_option linter.unusedVariables false
open Go.RowKit Go.Proofs.Bell Go.BigFrame

theorem toSound_c (a b c d f : Int) (w : World) : Calls Try.prog 42 #[.agg #[.int .i64 a, .int .i64 b, .int .i64 c, .int .i64 d, .int .i64 f]] w (RetB (.agg #[.int .i64 a, .int .i64 b, .int .i64 c, .int .i64 d, .int .i64 f]) w) := by
  go_enter Try.func42, Try.ntmps42
  go_wp2
  go_returns
  refine RetB.mk rfl ?_
  go_grown

theorem rd_five {w : World} {b : Nat} {a0 a1 a2 a3 a4 : Int} (hb : b < w.heap.size) (h0 : w.cell? ⟨b, 0, none⟩ = some (.int .i64 a0)) (h1 : w.cell? ⟨b, 1, none⟩ = some (.int .i64 a1)) (h2 : w.cell? ⟨b, 2, none⟩ = some (.int .i64 a2)) (h3 : w.cell? ⟨b, 3, none⟩ = some (.int .i64 a3)) (h4 : w.cell? ⟨b, 4, none⟩ = some (.int .i64 a4)) :
    Rd w (.slice (some ⟨b, 0, none⟩) 5 5) 5 (ints [a0, a1, a2, a3, a4]) := by
  refine ⟨by decide, .inr ⟨by decide, b, 0, 5, rfl, by decide, by decide, hb, fun j u hj => ?_⟩⟩
  match j, hj with
  | 0, hj => simp [ints] at hj; subst hj; simpa using h0
  | 1, hj => simp [ints] at hj; subst hj; simpa using h1
  | 2, hj => simp [ints] at hj; subst hj; simpa using h2
  | 3, hj => simp [ints] at hj; subst hj; simpa using h3
  | 4, hj => simp [ints] at hj; subst hj; simpa using h4
  | n + 5, hj => simp [ints] at hj

def RetRdI (zs : List Int) (w : World) (e : Ending) (w' : World) : Prop := ∃ v, e = .returned v ∧ Rd w' v zs.length (ints zs) ∧ Below w.heap.size w w'

theorem listOf_c (a b c d f : Int) (w : World) : Calls Try.prog 126 #[.agg #[.int .i64 a, .int .i64 b, .int .i64 c, .int .i64 d, .int .i64 f]] w (RetRdI [a, b, c, d, f] w) := by
  go_enter Try.func126, Try.ntmps126
  go_wp2
  go_returns
  refine ⟨_, rfl, rd_five ?_ ?_ ?_ ?_ ?_ ?_, ?_⟩
  all_goals first | go_grown | simp [go_sem]

theorem l04List_c (a b c d f : Int) (g o : Nat) (w : World) (h0 : w.cell? ⟨g, o, none⟩ = some (.int .i64 a)) (h1 : w.cell? ⟨g, o + 1, none⟩ = some (.int .i64 b)) (h2 : w.cell? ⟨g, o + 2, none⟩ = some (.int .i64 c)) (h3 : w.cell? ⟨g, o + 3, none⟩ = some (.int .i64 d)) (h4 : w.cell? ⟨g, o + 4, none⟩ = some (.int .i64 f)) :
    Calls Try.prog 176 #[.pointer (some ⟨g, o, none⟩)] w (RetRdI [a, b, c, d, f] w) := by
  go_enter Try.func176, Try.ntmps176
  go_wp2_with fail
  go_region
  all_goals (try go_wp2)
  all_goals go_returns
  all_goals (refine ⟨_, rfl, rd_five ?_ ?_ ?_ ?_ ?_ ?_, ?_⟩)
  all_goals first | go_grown | simp [go_sem]

def allF (zs : List Int) : Bool := zs.all freqB

set_option maxHeartbeats 800000 in
theorem areFrequencies_c (v : Value) (zs : List Int) (w : World) (h : Rd w v zs.length (ints zs)) :
    Calls Try.prog 93 #[v] w (RetS (.bool (allF zs)) w) := by
  generalize hn : zs.length = n at h
  have HN := Lib.hid hn; clear hn
  obtain ⟨hn, ao, cap, b, off, rfl, hao, hcell⟩ := h.open
  clear h
  go_enter Try.func93, Try.ntmps93
  go_wp2_with fail
  go_loop [7] (fun i => ∃ (k : Nat), k ≤ n ∧ i = .int .i64 k ∧ (zs.take k).all freqB = true) (fun i => n - (intOf i).toNat)
  case atStart => exact ⟨0, Nat.zero_le _, rfl, rfl⟩
  case round =>
    obtain ⟨k, hk, rfl, hx⟩ := hrel
    have HX := Lib.hid hx; clear hx
    by_cases hlt : k < n
    · have hltp : k < zs.length := by rw [HN.out]; exact hlt
      have hix := ix (P := Try.prog) (T := 41) (cap := cap) Try.underlying41 cells_int64 has_int64 hao hlt k rfl
      rw [Nat.mul_one] at hix
      have hc1 : w.cell? ⟨b, off + k, none⟩ = some (.int .i64 zs[k]) := hcell _ (Below.refl _ _) _ _ (by omega) (intsAt hltp)
      have hp : freqB zs[k] = true → (zs.take (k + 1)).all freqB = true := fun h => all_take_step HX.out hltp h
      have hq : freqB zs[k] = false → allF zs = false := fun h => all_false_of hltp h
      have HP := Lib.hid hp; clear hp
      have HQ := Lib.hid hq; clear hq
      clear hcell hao
      generalize zs[k] = z at *
      cases t1 : freqB z
      · go_wp2_with (go_at_call 133; refine (IsFrequency_c _ _).mono ?_; rintro _ _ ⟨rfl, rfl⟩; rw [t1])
        go_returns
        exact RetS.mk (bool_eq (HQ.out t1).symm)
      · go_wp2_with (go_at_call 133; refine (IsFrequency_c _ _).mono ?_; rintro _ _ ⟨rfl, rfl⟩; rw [t1])
        go_round
        case rel => exact ⟨k + 1, hlt, by go_num, HP.out t1⟩
        case measure => simp [intOf]; omega
    · have hkn : k = n := by omega
      subst hkn
      go_wp2
      go_returns
      refine RetS.mk (bool_eq ?_)
      have := HX.out
      rw [List.take_of_length_le (by rw [HN.out]; exact Nat.le_refl _)] at this
      exact this.symm

def soundB (a b c d f : Int) : Bool := risesB [a, b, c, d, f] 10000 20000000
theorem soundB_eq (a b c d f : Int) : soundB a b c d f = (allF [a, b, c, d, f] && decide (a < b) && decide (b < c) && decide (c < d) && decide (d < f)) := by
  have e : ∀ z, inB z 10000 20000000 = freqB z := fun _ => rfl
  rw [Bool.eq_iff_iff]
  show (List.range 5).all (riseAt [a, b, c, d, f] 10000 20000000) = true ↔ _
  simp only [List.range, List.range.loop, List.all_cons, List.all_nil, riseAt, e, allF, Bool.and_eq_true, List.getD, Bool.or_eq_true, decide_eq_true_eq]
  simp
  constructor
  · rintro ⟨h0, ⟨h1, k1⟩, ⟨h2, k2⟩, ⟨h3, k3⟩, h4, k4⟩
    simp_all
  · rintro ⟨⟨⟨⟨⟨h0, h1, h2, h3, h4⟩, k1⟩, k2⟩, k3⟩, k4⟩
    simp_all

set_option maxHeartbeats 3200000 in
theorem ValidSound_c (a b c d f : Int) (w : World) : Calls Try.prog 122 #[.agg #[.int .i64 a, .int .i64 b, .int .i64 c, .int .i64 d, .int .i64 f]] w (RetB (.bool (soundB a b c d f)) w) := by
  have hl := fun w' => listOf_c a b c d f w'
  have HL := Lib.hid hl; clear hl
  have hf := fun v w' h => areFrequencies_c v [a, b, c, d, f] w' h
  have HF := Lib.hid hf; clear hf
  have he := soundB_eq a b c d f
  have HE := Lib.hid he; clear he
  cases t0 : allF [a, b, c, d, f] <;> rw [t0] at HF HE
  · go_enter Try.func122, Try.ntmps122
    go_wp2_with (first | (go_at_call 126; refine (HL.out _).mono ?_; rintro _ w1 ⟨v1, rfl, r1, s1⟩; have R1 := Lib.hid r1; clear r1) | (go_at_call 93; refine (HF.out _ _ R1.out).mono ?_; rintro _ _ ⟨rfl, rfl⟩))
    go_returns
    exact RetB.mk (bool_eq (by rw [HE.out]; rfl)) (Below.trans (by go_grown) (s1.mono (by simp)))
  · by_cases h1 : a < b <;> by_cases h2 : b < c <;> by_cases h3 : c < d <;> by_cases h4 : d < f <;>
    · go_enter Try.func122, Try.ntmps122
      go_wp2_with (first | (go_at_call 126; refine (HL.out _).mono ?_; rintro _ w1 ⟨v1, rfl, r1, s1⟩; have R1 := Lib.hid r1; clear r1; have c0 := below_cell s1 (p := ⟨w.heap.size, 0, none⟩) (v := .int .i64 a) (by simp [go_sem]); have c1 := below_cell s1 (p := ⟨w.heap.size, 1, none⟩) (v := .int .i64 b) (by simp [go_sem]); have c2 := below_cell s1 (p := ⟨w.heap.size, 2, none⟩) (v := .int .i64 c) (by simp [go_sem]); have c3 := below_cell s1 (p := ⟨w.heap.size, 3, none⟩) (v := .int .i64 d) (by simp [go_sem]); have c4 := below_cell s1 (p := ⟨w.heap.size, 4, none⟩) (v := .int .i64 f) (by simp [go_sem])) | (go_at_call 93; refine (HF.out _ _ R1.out).mono ?_; rintro _ _ ⟨rfl, rfl⟩))
      go_returns
      exact RetB.mk (bool_eq (by rw [HE.out]; simp [h1, h2, h3, h4])) (Below.trans (by go_grown) (s1.mono (by simp)))

end Go.Proofs.Ytmickkodcclocaa
