/- Sounds and goals: the law's copy, validity. -/
import Derived.Test.YtmeeibcbhjifbaaGB
import Derived.Test.YtmeeibcbhjifbaaGC
import Derived.Test.YtmeeibcbhjifbaaPitch
import Derived.BigRegion
namespace Go.Proofs.Ytmeeibcbhjifbaa
set_option linter.unusedVariables false
open Go.RowKit Go.Proofs.Bell Go.BigFrame

theorem toSound_c (a b c d f : Int) (w : World) : Calls Try.prog 19 #[.agg #[.int .i64 a, .int .i64 b, .int .i64 c, .int .i64 d, .int .i64 f]] w (RetB (.agg #[.int .i64 a, .int .i64 b, .int .i64 c, .int .i64 d, .int .i64 f]) w) := by
  go_enter Try.func19, Try.ntmps19
  go_wp2
  go_returns
  refine RetB.mk rfl ?_
  go_grown

set_option maxHeartbeats 400000 in
theorem toGoal_c (a b c d f t m : Int) (w : World) : Calls Try.prog 31 #[.agg #[.int .i64 a, .int .i64 b, .int .i64 c, .int .i64 d, .int .i64 f, .int .i64 t, .int .i64 m]] w (RetB (.agg #[.int .i64 a, .int .i64 b, .int .i64 c, .int .i64 d, .int .i64 f, .int .i64 t, .int .i64 m]) w) := by
  have ht := fun w' => toSound_c a b c d f w'
  have HT := Lib.hid ht; clear ht
  go_enter Try.func31, Try.ntmps31
  go_wp2_with fail
  refine (HT.out _).mono ?_
  rintro _ w1 ⟨rfl, s1⟩
  have b1 : Below w.heap.size w w1 := Below.trans (by go_grown) (s1.mono (by simp; omega))
  have y1 := s1.size
  have ct := below_cell s1 (p := ⟨w.heap.size, 5, none⟩) (v := .int .i64 t) (by simp [go_sem])
  have cm := below_cell s1 (p := ⟨w.heap.size, 6, none⟩) (v := .int .i64 m) (by simp [go_sem])
  have e5 := below_cell s1 (p := ⟨w.heap.size + 1 + 1, 5, none⟩) (v := .int .i64 0) (by simp [go_sem])
  have e6 := below_cell s1 (p := ⟨w.heap.size + 1 + 1, 6, none⟩) (v := .int .i64 0) (by simp [go_sem])
  have q : ∀ j, w1.frozen? ⟨w.heap.size + 1 + 1, j, none⟩ = false := fun j => (s1.frozen (p := ⟨w.heap.size + 1 + 1, j, none⟩) (by simp)).trans (by simp [go_sem])
  have g : ∀ j, w1.frozen? ⟨w.heap.size + 1, j, none⟩ = false := fun j => (s1.frozen (p := ⟨w.heap.size + 1, j, none⟩) (by simp)).trans (by simp [go_sem])
  have hth : w1.there (w.heap.size + 1 + 1) 0 5 := fun j hj => ⟨by
    rw [below_cell s1 (p := ⟨w.heap.size + 1 + 1, 0 + j, none⟩) (v := .int .i64 0) (by
      match j, hj with
      | 0, _ => simp [go_sem]
      | 1, _ => simp [go_sem]
      | 2, _ => simp [go_sem]
      | 3, _ => simp [go_sem]
      | 4, _ => simp [go_sem])]; rfl, q _⟩
  have hz2 : ∀ j, j < 7 → w1.cell? ⟨w.heap.size + 1, j, none⟩ = some (.int .i64 0) ∧ w1.frozen? ⟨w.heap.size + 1, j, none⟩ = false := fun j hj => ⟨below_cell s1 (p := ⟨w.heap.size + 1, j, none⟩) (v := .int .i64 0) (by
      match j, hj with
      | 0, _ => simp [go_sem]
      | 1, _ => simp [go_sem]
      | 2, _ => simp [go_sem]
      | 3, _ => simp [go_sem]
      | 4, _ => simp [go_sem]
      | 5, _ => simp [go_sem]
      | 6, _ => simp [go_sem]), g j⟩
  have hth2 : w1.there (w.heap.size + 1) 0 7 := fun j hj => ⟨by rw [Nat.zero_add, (hz2 j hj).1]; rfl, by rw [Nat.zero_add]; exact (hz2 j hj).2⟩
  have k2 : w.heap.size + 1 + 1 < w1.heap.size := by simp at y1; omega
  clear s1 y1 HT
  have B1 := Lib.hid b1; clear b1
  have HTH := Lib.hid hth; clear hth
  have HTH2 := Lib.hid hth2; clear hth2
  have HZ2 := Lib.hid hz2; clear hz2
  go_wp2_with (refine wpList_store_held rfl 49 (.tmp 7) (.tmp 6) rfl (w.heap.size + 1 + 1) 0 #[.int .i64 a, .int .i64 b, .int .i64 c, .int .i64 d, .int .i64 f] rfl rfl HTH.out (by kernel_rfl) (by kernel_rfl) ?_; intro w2 n2 r2 o2 f2; obtain ⟨⟨x0, x1, x2, x3, x4, x5, x6⟩, xt, xm, fq, th⟩ := sound_in_goal (by omega) (by omega) n2 r2 o2 f2 ct cm e5 e6 q HTH2.out; obtain ⟨⟨u0, u1, u2, u3, u4, u5, u6⟩, v0, v1, v2, v3, v4, v5, v6⟩ := there7 (w := w2) (g := w.heap.size + 1) (fun j hj => ⟨cell_only n2 (HZ2.out j hj).1 (by show ¬ (w.heap.size + 1 = w.heap.size + 1 + 1); omega), (f2 _).trans (HZ2.out j hj).2⟩); clear f2 o2 r2 e5 e6 ct cm q g th; have N2 := Lib.hid n2; clear n2)
  have b2 : Below w.heap.size w w2 := Only.below B1.out N2.out (by omega) (fun k hk => by have : k = w.heap.size + 1 + 1 := hk; omega)
  refine bodyPost_ret (v := .agg #[.int .i64 a, .int .i64 b, .int .i64 c, .int .i64 d, .int .i64 f, .int .i64 t, .int .i64 m]) (by simp [results, Try.results31, go_sem, cell_setCell, u0, u1, u2, u3, u4, u5, u6]) rfl ?_
  exact RetB.mk rfl (by go_grown)

theorem rd_five {w : World} {b : Nat} {a0 a1 a2 a3 a4 : Int} (hb : b < w.heap.size) (h0 : w.cell? ⟨b, 0, none⟩ = some (.int .i64 a0)) (h1 : w.cell? ⟨b, 1, none⟩ = some (.int .i64 a1)) (h2 : w.cell? ⟨b, 2, none⟩ = some (.int .i64 a2)) (h3 : w.cell? ⟨b, 3, none⟩ = some (.int .i64 a3)) (h4 : w.cell? ⟨b, 4, none⟩ = some (.int .i64 a4)) :
    Rd w (.slice (some ⟨b, 0, none⟩) 5 5) 5 (ints [a0, a1, a2, a3, a4]) := by
  refine ⟨by decide, .inr ⟨by decide, b, 0, 5, rfl, by decide, by decide, hb, fun j u hj => ?_⟩⟩
  match j, hj with
  | 0, hj => simp [ints] at hj; subst hj; simpa using h0
  | 1, hj => simp [ints] at hj; subst hj; simpa using h1
  | 2, hj => simp [ints] at hj; subst hj; simpa using h2
  | 3, hj => simp [ints] at hj; subst hj; simpa using h3
  | 4, hj => simp [ints] at hj; subst hj; simpa using h4
  | n + 5, hj => simp [ints] at hj

def RetRdI (zs : List Int) (w : World) (e : Ending) (w' : World) : Prop := ∃ v, e = .returned v ∧ Rd w' v zs.length (ints zs) ∧ Below w.heap.size w w'

theorem listOf_c (a b c d f : Int) (w : World) : Calls Try.prog 62 #[.agg #[.int .i64 a, .int .i64 b, .int .i64 c, .int .i64 d, .int .i64 f]] w (RetRdI [a, b, c, d, f] w) := by
  go_enter Try.func62, Try.ntmps62
  go_wp2
  go_returns
  refine ⟨_, rfl, rd_five ?_ ?_ ?_ ?_ ?_ ?_, ?_⟩
  all_goals first | go_grown | simp [go_sem]

theorem l04List_c (a b c d f : Int) (g o : Nat) (w : World) (h0 : w.cell? ⟨g, o, none⟩ = some (.int .i64 a)) (h1 : w.cell? ⟨g, o + 1, none⟩ = some (.int .i64 b)) (h2 : w.cell? ⟨g, o + 2, none⟩ = some (.int .i64 c)) (h3 : w.cell? ⟨g, o + 3, none⟩ = some (.int .i64 d)) (h4 : w.cell? ⟨g, o + 4, none⟩ = some (.int .i64 f)) :
    Calls Try.prog 105 #[.pointer (some ⟨g, o, none⟩)] w (RetRdI [a, b, c, d, f] w) := by
  go_enter Try.func105, Try.ntmps105
  go_wp2_with fail
  go_region
  all_goals (try go_wp2)
  all_goals go_returns
  all_goals (refine ⟨_, rfl, rd_five ?_ ?_ ?_ ?_ ?_ ?_, ?_⟩)
  all_goals first | go_grown | simp [go_sem]

def allF (zs : List Int) : Bool := zs.all freqB

set_option maxHeartbeats 800000 in
theorem areFrequencies_c (v : Value) (zs : List Int) (w : World) (h : Rd w v zs.length (ints zs)) :
    Calls Try.prog 116 #[v] w (RetS (.bool (allF zs)) w) := by
  generalize hn : zs.length = n at h
  have HN := Lib.hid hn; clear hn
  obtain ⟨hn, ao, cap, b, off, rfl, hao, hcell⟩ := h.open
  clear h
  go_enter Try.func116, Try.ntmps116
  go_wp2_with fail
  go_loop [7] (fun i => ∃ (k : Nat), k ≤ n ∧ i = .int .i64 k ∧ (zs.take k).all freqB = true) (fun i => n - (intOf i).toNat)
  case atStart => exact ⟨0, Nat.zero_le _, rfl, rfl⟩
  case round =>
    obtain ⟨k, hk, rfl, hx⟩ := hrel
    have HX := Lib.hid hx; clear hx
    by_cases hlt : k < n
    · have hltp : k < zs.length := by rw [HN.out]; exact hlt
      have hix := ix (P := Try.prog) (T := 38) (cap := cap) Try.underlying38 cells_int64 has_int64 hao hlt k rfl
      rw [Nat.mul_one] at hix
      have hc1 : w.cell? ⟨b, off + k, none⟩ = some (.int .i64 zs[k]) := hcell _ (Below.refl _ _) _ _ (by omega) (intsAt hltp)
      have hp : freqB zs[k] = true → (zs.take (k + 1)).all freqB = true := fun h => all_take_step HX.out hltp h
      have hq : freqB zs[k] = false → allF zs = false := fun h => all_false_of hltp h
      have HP := Lib.hid hp; clear hp
      have HQ := Lib.hid hq; clear hq
      clear hcell hao
      generalize zs[k] = z at *
      cases t1 : freqB z
      · go_wp2_with (go_at_call 151; refine (IsFrequency_c _ _).mono ?_; rintro _ _ ⟨rfl, rfl⟩; rw [t1])
        go_returns
        exact RetS.mk (bool_eq (HQ.out t1).symm)
      · go_wp2_with (go_at_call 151; refine (IsFrequency_c _ _).mono ?_; rintro _ _ ⟨rfl, rfl⟩; rw [t1])
        go_round
        case rel => exact ⟨k + 1, hlt, by go_num, HP.out t1⟩
        case measure => simp [intOf]; omega
    · have hkn : k = n := by omega
      subst hkn
      go_wp2
      go_returns
      refine RetS.mk (bool_eq ?_)
      have := HX.out
      rw [List.take_of_length_le (by rw [HN.out]; exact Nat.le_refl _)] at this
      exact this.symm

def soundB (a b c d f : Int) : Bool := risesB [a, b, c, d, f] 10000 20000000
theorem soundB_eq (a b c d f : Int) : soundB a b c d f = (allF [a, b, c, d, f] && decide (a < b) && decide (b < c) && decide (c < d) && decide (d < f)) := by
  have e : ∀ z, inB z 10000 20000000 = freqB z := fun _ => rfl
  rw [Bool.eq_iff_iff]
  show (List.range 5).all (riseAt [a, b, c, d, f] 10000 20000000) = true ↔ _
  simp only [List.range, List.range.loop, List.all_cons, List.all_nil, riseAt, e, allF, Bool.and_eq_true, List.getD, Bool.or_eq_true, decide_eq_true_eq]
  simp
  constructor
  · rintro ⟨h0, ⟨h1, k1⟩, ⟨h2, k2⟩, ⟨h3, k3⟩, h4, k4⟩
    simp_all
  · rintro ⟨⟨⟨⟨⟨h0, h1, h2, h3, h4⟩, k1⟩, k2⟩, k3⟩, k4⟩
    simp_all

set_option maxHeartbeats 3200000 in
theorem ValidSound_c (a b c d f : Int) (w : World) : Calls Try.prog 58 #[.agg #[.int .i64 a, .int .i64 b, .int .i64 c, .int .i64 d, .int .i64 f]] w (RetB (.bool (soundB a b c d f)) w) := by
  have hl := fun w' => listOf_c a b c d f w'
  have HL := Lib.hid hl; clear hl
  have hf := fun v w' h => areFrequencies_c v [a, b, c, d, f] w' h
  have HF := Lib.hid hf; clear hf
  have he := soundB_eq a b c d f
  have HE := Lib.hid he; clear he
  cases t0 : allF [a, b, c, d, f] <;> rw [t0] at HF HE
  · go_enter Try.func58, Try.ntmps58
    go_wp2_with (first | (go_at_call 62; refine (HL.out _).mono ?_; rintro _ w1 ⟨v1, rfl, r1, s1⟩; have R1 := Lib.hid r1; clear r1) | (go_at_call 116; refine (HF.out _ _ R1.out).mono ?_; rintro _ _ ⟨rfl, rfl⟩))
    go_returns
    exact RetB.mk (bool_eq (by rw [HE.out]; rfl)) (Below.trans (by go_grown) (s1.mono (by simp)))
  · by_cases h1 : a < b <;> by_cases h2 : b < c <;> by_cases h3 : c < d <;> by_cases h4 : d < f <;>
    · go_enter Try.func58, Try.ntmps58
      go_wp2_with (first | (go_at_call 62; refine (HL.out _).mono ?_; rintro _ w1 ⟨v1, rfl, r1, s1⟩; have R1 := Lib.hid r1; clear r1; have c0 := below_cell s1 (p := ⟨w.heap.size, 0, none⟩) (v := .int .i64 a) (by simp [go_sem]); have c1 := below_cell s1 (p := ⟨w.heap.size, 1, none⟩) (v := .int .i64 b) (by simp [go_sem]); have c2 := below_cell s1 (p := ⟨w.heap.size, 2, none⟩) (v := .int .i64 c) (by simp [go_sem]); have c3 := below_cell s1 (p := ⟨w.heap.size, 3, none⟩) (v := .int .i64 d) (by simp [go_sem]); have c4 := below_cell s1 (p := ⟨w.heap.size, 4, none⟩) (v := .int .i64 f) (by simp [go_sem])) | (go_at_call 116; refine (HF.out _ _ R1.out).mono ?_; rintro _ _ ⟨rfl, rfl⟩))
      go_returns
      exact RetB.mk (bool_eq (by rw [HE.out]; simp [h1, h2, h3, h4])) (Below.trans (by go_grown) (s1.mono (by simp)))

end Go.Proofs.Ytmeeibcbhjifbaa
