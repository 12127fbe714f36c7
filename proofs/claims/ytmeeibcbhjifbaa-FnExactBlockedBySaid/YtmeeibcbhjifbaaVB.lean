/- Several texts of the proofs in one: Cen7, Cen8. -/
import Derived.Test.YtmeeibcbhjifbaaCen2
import Derived.Test.YtmeeibcbhjifbaaVA
/- What is too low, what is too high: the program's. -/
namespace Go.Proofs.Ytmeeibcbhjifbaa
set_option linter.unusedVariables false
open Go.RowKit Go.Proofs.Bell Go.BigFrame

/-- six cells of a goal -/
structure H6 (g : Nat) (a b c d f tol : Int) (w' : World) : Prop where
  p0 : w'.cell? ⟨g, 0, none⟩ = some (.int .i64 a)
  p1 : w'.cell? ⟨g, 1, none⟩ = some (.int .i64 b)
  p2 : w'.cell? ⟨g, 2, none⟩ = some (.int .i64 c)
  p3 : w'.cell? ⟨g, 3, none⟩ = some (.int .i64 d)
  p4 : w'.cell? ⟨g, 4, none⟩ = some (.int .i64 f)
  p5 : w'.cell? ⟨g, 5, none⟩ = some (.int .i64 tol)
theorem H6.later {g : Nat} {a b c d f tol : Int} {w w' : World} (h : H6 g a b c d f tol w) (hb : Below w.heap.size w w') : H6 g a b c d f tol w' :=
  ⟨below_cell hb h.p0, below_cell hb h.p1, below_cell hb h.p2, below_cell hb h.p3, below_cell hb h.p4, below_cell hb h.p5⟩

set_option maxRecDepth 100000 in
set_option maxHeartbeats 3200000 in
theorem isTooLow_c (a b c d f tol most : Int) (k : Nat) (x : Int) (w : World) (hk : k < 5) (hls : ∀ k, k < 5 → 1 ≤ [a, b, c, d, f].getD k 0 ∧ [a, b, c, d, f].getD k 0 ≤ 20000000) (ht0 : 0 ≤ tol) (ht1 : tol ≤ 20000) :
    Calls Try.prog 87 #[.agg #[.int .i64 a, .int .i64 b, .int .i64 c, .int .i64 d, .int .i64 f, .int .i64 tol, .int .i64 most], .int .i64 k, .int .i64 x] w (RetB (.bool (lowB ([a, b, c, d, f].getD k 0) x tol)) w) := by
  by_cases h1 : x < 10000
  · have he : lowB ([a, b, c, d, f].getD k 0) x tol = true := by simp [lowB, h1]
    rw [he]
    have t1 : decide (x < 10000) = true := decide_eq_true h1
    clear he hls
    go_enter Try.func87, Try.ntmps87
    go_wp2_with fail
    go_quiet (fail)
    go_wp2
    go_returns
    exact RetB.mk rfl (below_drewN (by go_grown) _)
  · by_cases h2 : x ≤ 20000000
    · have hl := hls k hk
      obtain ⟨n, rfl⟩ : ∃ n : Nat, x = (n : Int) := ⟨x.toNat, by omega⟩
      obtain ⟨m, hm⟩ : ∃ m : Nat, [a, b, c, d, f].getD k 0 = (m : Int) := ⟨([a, b, c, d, f].getD k 0).toNat, by omega⟩
      have hbe := bet_bd (f := m) (g := n) (by omega) (by omega) (by omega) (by omega)
      have he : lowB ([a, b, c, d, f].getD k 0) n tol = decide (betV m n < -tol) := by unfold lowB; rw [hm]; simp [h1, h2]
      rw [he]
      have t1 : decide ((n : Int) < 10000) = false := decide_eq_false h1
      have t2 : decide ((n : Int) ≤ 20000000) = true := decide_eq_true h2
      have hce := fun w' => cents_c m n w' (by omega) (by omega) (by omega) (by omega)
      have hli := fun w' => listOfO_c a b c d f w'
      have hl5 : [a, b, c, d, f].length = 5 := rfl
      have hwr : IntKind.i64.wrap (-tol) = -tol := IntWalk.i64_in _ (by omega)
      clear he hls
      generalize [a, b, c, d, f] = ls at *
      generalize betV m n = bt at *
      have HCE := Lib.hid hce; clear hce
      have HLI := Lib.hid hli; clear hli
      have HL5 := Lib.hid hl5; clear hl5
      have HM := Lib.hid hm; clear hm
      obtain ⟨w1, hw1⟩ : ∃ w1, w1 = w.alloc (.cells #[.int .i64 a, .int .i64 b, .int .i64 c, .int .i64 d, .int .i64 f, .int .i64 tol, .int .i64 most] 72) := ⟨_, rfl⟩
      have HS : H6 w.heap.size a b c d f tol w1.drew := by rw [hw1]; constructor <;> simp [go_sem]
      have b1 : Below w.heap.size w w1.drew := by rw [hw1]; go_grown
      go_enter Try.func87, Try.ntmps87
      go_wp2_with fail
      rw [← hw1]
      clear hw1
      refine wp_region_held (S := H6 w.heap.size a b c d f tol) (by kernel_rfl) ?_
      change wpAnyH _ _ _ _ _ _ _ _ w1.drew
      refine takeH 0 7 (.int .i64 n) rfl rfl (by kernel_rfl) (fun _ _ _ h => h) (by rfl) (fun _ _ => rfl) HS ?_
      simp only [List.setIfInBounds_toArray, List.set_cons_zero, List.set_cons_succ]
      refine takeH 1 8 (.bool false) rfl rfl (by kernel_rfl) (fun _ _ _ h => h) (by rfl) (fun _ _ => by (go_simp; done)) HS ?_
      simp only [List.setIfInBounds_toArray, List.set_cons_zero, List.set_cons_succ]
      refine takeH 2 9 (.bool false) rfl rfl (by kernel_rfl) (fun _ _ _ h => h) (by rfl) (fun _ _ => rfl) HS ?_
      simp only [List.setIfInBounds_toArray, List.set_cons_zero, List.set_cons_succ]
      refine takeH 3 10 (.int .i64 n) rfl rfl (by kernel_rfl) (fun _ _ _ h => h) (by rfl) (fun _ _ => rfl) HS ?_
      simp only [List.setIfInBounds_toArray, List.set_cons_zero, List.set_cons_succ]
      refine takeH 4 11 (.bool true) rfl rfl (by kernel_rfl) (fun _ _ _ h => h) (by rfl) (fun _ _ => by (go_simp; done)) HS ?_
      simp only [List.setIfInBounds_toArray, List.set_cons_zero, List.set_cons_succ]
      refine takeH 5 12 (.bool true) rfl rfl (by kernel_rfl) (fun _ _ _ h => h) (by rfl) (fun _ _ => rfl) HS ?_
      simp only [List.setIfInBounds_toArray, List.set_cons_zero, List.set_cons_succ]
      refine takeH 6 13 (.pointer (some ⟨w.heap.size, 0, none⟩)) rfl rfl (by kernel_rfl) (fun _ _ _ h => h) (by rfl) (fun _ _ => by (go_simp; done)) HS ?_
      simp only [List.setIfInBounds_toArray, List.set_cons_zero, List.set_cons_succ]
      refine takeH 7 14 (.agg #[.int .i64 a, .int .i64 b, .int .i64 c, .int .i64 d, .int .i64 f]) rfl rfl (by kernel_rfl) (fun _ _ _ h => h) (by rfl) (fun w' hS => by (have q0 := hS.p0; have q1 := hS.p1; have q2 := hS.p2; have q3 := hS.p3; have q4 := hS.p4; have q5 := hS.p5; clear hS HS; go_simp; done)) HS ?_
      simp only [List.setIfInBounds_toArray, List.set_cons_zero, List.set_cons_succ]
      refine takeH 9 16 (.int .i64 k) rfl rfl (by kernel_rfl) (fun _ _ _ h => h) (by rfl) (fun _ _ => rfl) HS ?_
      simp only [List.setIfInBounds_toArray, List.set_cons_zero, List.set_cons_succ]
      refine takeH 12 19 (.int .i64 n) rfl rfl (by kernel_rfl) (fun _ _ _ h => h) (by rfl) (fun _ _ => rfl) HS ?_
      simp only [List.setIfInBounds_toArray, List.set_cons_zero, List.set_cons_succ]
      refine takeH 14 21 (.pointer (some ⟨w.heap.size, 5, none⟩)) rfl rfl (by kernel_rfl) (fun _ _ _ h => h) (by rfl) (fun _ _ => by (go_simp; done)) HS ?_
      simp only [List.setIfInBounds_toArray, List.set_cons_zero, List.set_cons_succ]
      refine takeH 15 22 (.int .i64 tol) rfl rfl (by kernel_rfl) (fun _ _ _ h => h) (by rfl) (fun w' hS => by (have q0 := hS.p0; have q1 := hS.p1; have q2 := hS.p2; have q3 := hS.p3; have q4 := hS.p4; have q5 := hS.p5; clear hS HS; go_simp; done)) HS ?_
      simp only [List.setIfInBounds_toArray, List.set_cons_zero, List.set_cons_succ]
      refine takeH 16 23 (.int .i64 (-tol)) rfl rfl (by kernel_rfl) (fun _ _ _ h => h) (by rfl) (fun _ _ => by (go_simp; done)) HS ?_
      simp only [List.setIfInBounds_toArray, List.set_cons_zero, List.set_cons_succ]
      refine wpAnyH_seqF [8, 10, 11, 13, 17, 18, 19, 20] _ _ _ (by kernel_rfl) ?_
      refine idxH_stepL rfl ?_
      intro K hK
      go_simp
      refine (HLI.out _).mono ?_
      rintro _ wa ⟨va, rfl, na, qa⟩
      have HS1 := HS.later qa
      have b2 : Below w.heap.size w wa := b1.trans (qa.mono b1.size)
      clear qa HS
      obtain ⟨gl, cl, rfl, hgl1, hgl2⟩ := World.ownsRow.form na (by rw [HL5.out]; decide)
      have lc := (World.ownsRow.cellAt na k (by rw [HL5.out]; omega)).trans (intsAt (by rw [HL5.out]; exact hk))
      rw [← getD_eq (show k < ls.length by rw [HL5.out]; exact hk), HM.out] at lc
      have hix := ix (P := Try.prog) (T := 38) (n := ls.length) (cap := cl) Try.underlying38 cells_int64 has_int64 (ao := some ⟨gl, 0, none⟩) (b := gl) (off := 0) (fun _ => rfl) (k := k) (by rw [HL5.out]; exact hk) _ rfl
      rw [Nat.mul_one, Nat.zero_add] at hix
      clear na b1
      refine hK _ _ HS1 ?_
      refine idxH_stepL rfl ?_
      intro K hK
      go_simp
      refine hK _ _ HS1 ?_
      refine idxH_stepL rfl ?_
      intro K hK
      go_simp
      refine hK _ _ HS1 ?_
      refine idxH_stepL rfl ?_
      intro K hK
      go_simp
      refine (HCE.out _).mono ?_
      rintro _ _ ⟨rfl, rfl⟩
      refine hK _ _ HS1 ?_
      refine idxH_stepL rfl ?_
      intro K hK
      go_simp
      refine hK _ _ HS1 ?_
      refine idxH_stepL rfl ?_
      intro K hK
      go_simp
      refine hK _ _ HS1 ?_
      refine idxH_stepL rfl ?_
      intro K hK
      go_simp
      refine hK _ _ HS1 ?_
      refine idxH_stepL rfl ?_
      intro K hK
      go_simp
      refine hK _ _ HS1 ?_
      refine idxH_end ?_
      go_wp2
      go_returns
      exact RetB.mk rfl b2
    · have he : lowB ([a, b, c, d, f].getD k 0) x tol = false := by simp [lowB, h1, h2]
      rw [he]
      have t1 : decide (x < 10000) = false := decide_eq_false h1
      have t2 : decide (x ≤ 20000000) = false := decide_eq_false h2
      clear he hls
      go_enter Try.func87, Try.ntmps87
      go_wp2_with fail
      go_quiet (fail)
      go_wp2
      go_returns
      exact RetB.mk rfl (below_drewN (by go_grown) _)

set_option maxRecDepth 100000 in
set_option maxHeartbeats 3200000 in
theorem isTooHigh_c (a b c d f tol most : Int) (k : Nat) (x : Int) (w : World) (hk : k < 5) (hls : ∀ k, k < 5 → 1 ≤ [a, b, c, d, f].getD k 0 ∧ [a, b, c, d, f].getD k 0 ≤ 20000000) (ht0 : 0 ≤ tol) (ht1 : tol ≤ 20000) :
    Calls Try.prog 88 #[.agg #[.int .i64 a, .int .i64 b, .int .i64 c, .int .i64 d, .int .i64 f, .int .i64 tol, .int .i64 most], .int .i64 k, .int .i64 x] w (RetB (.bool (highB ([a, b, c, d, f].getD k 0) x tol)) w) := by
  by_cases h1 : 20000000 < x
  · have he : highB ([a, b, c, d, f].getD k 0) x tol = true := by simp [highB, h1]
    rw [he]
    have t1 : decide (20000000 < x) = true := decide_eq_true h1
    clear he hls
    go_enter Try.func88, Try.ntmps88
    go_wp2_with fail
    go_quiet (fail)
    go_wp2
    go_returns
    exact RetB.mk rfl (below_drewN (by go_grown) _)
  · by_cases h2 : 10000 ≤ x
    · have hl := hls k hk
      obtain ⟨n, rfl⟩ : ∃ n : Nat, x = (n : Int) := ⟨x.toNat, by omega⟩
      obtain ⟨m, hm⟩ : ∃ m : Nat, [a, b, c, d, f].getD k 0 = (m : Int) := ⟨([a, b, c, d, f].getD k 0).toNat, by omega⟩
      have hbe := bet_bd (f := m) (g := n) (by omega) (by omega) (by omega) (by omega)
      have he : highB ([a, b, c, d, f].getD k 0) n tol = decide (tol < betV m n) := by unfold highB; rw [hm]; simp [h1, h2]
      rw [he]
      have t1 : decide (20000000 < (n : Int)) = false := decide_eq_false h1
      have t2 : decide (10000 ≤ (n : Int)) = true := decide_eq_true h2
      have hce := fun w' => cents_c m n w' (by omega) (by omega) (by omega) (by omega)
      have hli := fun w' => listOfO_c a b c d f w'
      have hl5 : [a, b, c, d, f].length = 5 := rfl
      clear he hls
      generalize [a, b, c, d, f] = ls at *
      generalize betV m n = bt at *
      have HCE := Lib.hid hce; clear hce
      have HLI := Lib.hid hli; clear hli
      have HL5 := Lib.hid hl5; clear hl5
      have HM := Lib.hid hm; clear hm
      obtain ⟨w1, hw1⟩ : ∃ w1, w1 = w.alloc (.cells #[.int .i64 a, .int .i64 b, .int .i64 c, .int .i64 d, .int .i64 f, .int .i64 tol, .int .i64 most] 72) := ⟨_, rfl⟩
      have HS : H6 w.heap.size a b c d f tol w1.drew := by rw [hw1]; constructor <;> simp [go_sem]
      have b1 : Below w.heap.size w w1.drew := by rw [hw1]; go_grown
      go_enter Try.func88, Try.ntmps88
      go_wp2_with fail
      rw [← hw1]
      clear hw1
      refine wp_region_held (S := H6 w.heap.size a b c d f tol) (by kernel_rfl) ?_
      change wpAnyH _ _ _ _ _ _ _ _ w1.drew
      refine takeH 0 7 (.int .i64 n) rfl rfl (by kernel_rfl) (fun _ _ _ h => h) (by rfl) (fun _ _ => rfl) HS ?_
      simp only [List.setIfInBounds_toArray, List.set_cons_zero, List.set_cons_succ]
      refine takeH 1 8 (.bool false) rfl rfl (by kernel_rfl) (fun _ _ _ h => h) (by rfl) (fun _ _ => by (go_simp; done)) HS ?_
      simp only [List.setIfInBounds_toArray, List.set_cons_zero, List.set_cons_succ]
      refine takeH 2 9 (.bool false) rfl rfl (by kernel_rfl) (fun _ _ _ h => h) (by rfl) (fun _ _ => rfl) HS ?_
      simp only [List.setIfInBounds_toArray, List.set_cons_zero, List.set_cons_succ]
      refine takeH 3 10 (.int .i64 n) rfl rfl (by kernel_rfl) (fun _ _ _ h => h) (by rfl) (fun _ _ => rfl) HS ?_
      simp only [List.setIfInBounds_toArray, List.set_cons_zero, List.set_cons_succ]
      refine takeH 4 11 (.bool true) rfl rfl (by kernel_rfl) (fun _ _ _ h => h) (by rfl) (fun _ _ => by (go_simp; done)) HS ?_
      simp only [List.setIfInBounds_toArray, List.set_cons_zero, List.set_cons_succ]
      refine takeH 5 12 (.bool true) rfl rfl (by kernel_rfl) (fun _ _ _ h => h) (by rfl) (fun _ _ => rfl) HS ?_
      simp only [List.setIfInBounds_toArray, List.set_cons_zero, List.set_cons_succ]
      refine takeH 6 13 (.pointer (some ⟨w.heap.size, 0, none⟩)) rfl rfl (by kernel_rfl) (fun _ _ _ h => h) (by rfl) (fun _ _ => by (go_simp; done)) HS ?_
      simp only [List.setIfInBounds_toArray, List.set_cons_zero, List.set_cons_succ]
      refine takeH 7 14 (.agg #[.int .i64 a, .int .i64 b, .int .i64 c, .int .i64 d, .int .i64 f]) rfl rfl (by kernel_rfl) (fun _ _ _ h => h) (by rfl) (fun w' hS => by (have q0 := hS.p0; have q1 := hS.p1; have q2 := hS.p2; have q3 := hS.p3; have q4 := hS.p4; have q5 := hS.p5; clear hS HS; go_simp; done)) HS ?_
      simp only [List.setIfInBounds_toArray, List.set_cons_zero, List.set_cons_succ]
      refine takeH 9 16 (.int .i64 k) rfl rfl (by kernel_rfl) (fun _ _ _ h => h) (by rfl) (fun _ _ => rfl) HS ?_
      simp only [List.setIfInBounds_toArray, List.set_cons_zero, List.set_cons_succ]
      refine takeH 12 19 (.int .i64 n) rfl rfl (by kernel_rfl) (fun _ _ _ h => h) (by rfl) (fun _ _ => rfl) HS ?_
      simp only [List.setIfInBounds_toArray, List.set_cons_zero, List.set_cons_succ]
      refine takeH 14 21 (.pointer (some ⟨w.heap.size, 5, none⟩)) rfl rfl (by kernel_rfl) (fun _ _ _ h => h) (by rfl) (fun _ _ => by (go_simp; done)) HS ?_
      simp only [List.setIfInBounds_toArray, List.set_cons_zero, List.set_cons_succ]
      refine takeH 15 22 (.int .i64 tol) rfl rfl (by kernel_rfl) (fun _ _ _ h => h) (by rfl) (fun w' hS => by (have q0 := hS.p0; have q1 := hS.p1; have q2 := hS.p2; have q3 := hS.p3; have q4 := hS.p4; have q5 := hS.p5; clear hS HS; go_simp; done)) HS ?_
      simp only [List.setIfInBounds_toArray, List.set_cons_zero, List.set_cons_succ]
      refine wpAnyH_seqF [8, 10, 11, 13, 16, 17, 18, 19] _ _ _ (by kernel_rfl) ?_
      refine idxH_stepL rfl ?_
      intro K hK
      go_simp
      refine (HLI.out _).mono ?_
      rintro _ wa ⟨va, rfl, na, qa⟩
      have HS1 := HS.later qa
      have b2 : Below w.heap.size w wa := b1.trans (qa.mono b1.size)
      clear qa HS
      obtain ⟨gl, cl, rfl, hgl1, hgl2⟩ := World.ownsRow.form na (by rw [HL5.out]; decide)
      have lc := (World.ownsRow.cellAt na k (by rw [HL5.out]; omega)).trans (intsAt (by rw [HL5.out]; exact hk))
      rw [← getD_eq (show k < ls.length by rw [HL5.out]; exact hk), HM.out] at lc
      have hix := ix (P := Try.prog) (T := 38) (n := ls.length) (cap := cl) Try.underlying38 cells_int64 has_int64 (ao := some ⟨gl, 0, none⟩) (b := gl) (off := 0) (fun _ => rfl) (k := k) (by rw [HL5.out]; exact hk) _ rfl
      rw [Nat.mul_one, Nat.zero_add] at hix
      clear na b1
      refine hK _ _ HS1 ?_
      refine idxH_stepL rfl ?_
      intro K hK
      go_simp
      refine hK _ _ HS1 ?_
      refine idxH_stepL rfl ?_
      intro K hK
      go_simp
      refine hK _ _ HS1 ?_
      refine idxH_stepL rfl ?_
      intro K hK
      go_simp
      refine (HCE.out _).mono ?_
      rintro _ _ ⟨rfl, rfl⟩
      refine hK _ _ HS1 ?_
      refine idxH_stepL rfl ?_
      intro K hK
      go_simp
      refine hK _ _ HS1 ?_
      refine idxH_stepL rfl ?_
      intro K hK
      go_simp
      refine hK _ _ HS1 ?_
      refine idxH_stepL rfl ?_
      intro K hK
      go_simp
      refine hK _ _ HS1 ?_
      refine idxH_stepL rfl ?_
      intro K hK
      go_simp
      refine hK _ _ HS1 ?_
      refine idxH_end ?_
      go_wp2
      go_returns
      exact RetB.mk rfl b2
    · have he : highB ([a, b, c, d, f].getD k 0) x tol = false := by simp [highB, h1, h2]
      rw [he]
      have t1 : decide (20000000 < x) = false := decide_eq_false h1
      have t2 : decide (10000 ≤ x) = false := decide_eq_false h2
      clear he hls
      go_enter Try.func88, Try.ntmps88
      go_wp2_with fail
      go_quiet (fail)
      go_wp2
      go_returns
      exact RetB.mk rfl (below_drewN (by go_grown) _)

end Go.Proofs.Ytmeeibcbhjifbaa

/- What is too low, what is too high: the reference's. -/
namespace Go.Proofs.Ytmeeibcbhjifbaa
set_option linter.unusedVariables false
open Go.RowKit Go.Proofs.Bell Go.BigFrame

set_option maxRecDepth 100000 in
set_option maxHeartbeats 3200000 in
theorem l10Low_c (g : Nat) (a b c d f tol : Int) (k : Nat) (x : Int) (w : World) (HS0 : H6 g a b c d f tol w) (hk : k < 5) (hls : ∀ k, k < 5 → 1 ≤ [a, b, c, d, f].getD k 0 ∧ [a, b, c, d, f].getD k 0 ≤ 20000000) (ht0 : 0 ≤ tol) (ht1 : tol ≤ 20000) :
    Calls Try.prog 82 #[.pointer (some ⟨g, 0, none⟩), .int .i64 x, .int .i64 k] w (RetB (.bool (lowB ([a, b, c, d, f].getD k 0) x tol)) w) := by
  by_cases h1 : x < 10000
  · have he : lowB ([a, b, c, d, f].getD k 0) x tol = true := by simp [lowB, h1]
    rw [he]
    have t1 : decide (x < 10000) = true := decide_eq_true h1
    clear he hls
    clear HS0
    go_enter Try.func82, Try.ntmps82
    go_wp2_with fail
    go_quiet (fail)
    go_wp2
    go_returns
    exact RetB.mk rfl (below_drewN (by exact Below.refl _ _) _)
  · by_cases h2 : x ≤ 20000000
    · have hl := hls k hk
      obtain ⟨n, rfl⟩ : ∃ n : Nat, x = (n : Int) := ⟨x.toNat, by omega⟩
      obtain ⟨m, hm⟩ : ∃ m : Nat, [a, b, c, d, f].getD k 0 = (m : Int) := ⟨([a, b, c, d, f].getD k 0).toNat, by omega⟩
      have hbe := bet_bd (f := m) (g := n) (by omega) (by omega) (by omega) (by omega)
      have he : lowB ([a, b, c, d, f].getD k 0) n tol = decide (betV m n < -tol) := by unfold lowB; rw [hm]; simp [h1, h2]
      rw [he]
      have t1 : decide ((n : Int) < 10000) = false := decide_eq_false h1
      have t2 : decide ((n : Int) ≤ 20000000) = true := decide_eq_true h2
      have hce := fun w' => l02Between_c m n w' (by omega) (by omega) (by omega) (by omega)
      have hli := fun w' (hx : H6 g a b c d f tol w') => l04ListO_c a b c d f g w' hx.p0 hx.p1 hx.p2 hx.p3 hx.p4
      have hl5 : [a, b, c, d, f].length = 5 := rfl
      have hwr : IntKind.i64.wrap (-tol) = -tol := IntWalk.i64_in _ (by omega)
      clear he hls
      generalize [a, b, c, d, f] = ls at *
      generalize betV m n = bt at *
      have HCE := Lib.hid hce; clear hce
      have HLI := Lib.hid hli; clear hli
      have HL5 := Lib.hid hl5; clear hl5
      have HM := Lib.hid hm; clear hm
      have b1 : Below w.heap.size w w.drew := by go_grown
      have HS := HS0.later b1
      clear HS0
      go_enter Try.func82, Try.ntmps82
      go_wp2_with fail
      refine wp_region_held (S := H6 g a b c d f tol) (by kernel_rfl) ?_
      change wpAnyH _ _ _ _ _ _ _ _ w.drew
      refine takeH 0 7 (.int .i64 n) rfl rfl (by kernel_rfl) (fun _ _ _ h => h) (by rfl) (fun _ _ => rfl) HS ?_
      simp only [List.setIfInBounds_toArray, List.set_cons_zero, List.set_cons_succ]
      refine takeH 1 8 (.bool false) rfl rfl (by kernel_rfl) (fun _ _ _ h => h) (by rfl) (fun _ _ => by (go_simp; done)) HS ?_
      simp only [List.setIfInBounds_toArray, List.set_cons_zero, List.set_cons_succ]
      refine takeH 2 9 (.bool false) rfl rfl (by kernel_rfl) (fun _ _ _ h => h) (by rfl) (fun _ _ => rfl) HS ?_
      simp only [List.setIfInBounds_toArray, List.set_cons_zero, List.set_cons_succ]
      refine takeH 3 10 (.int .i64 n) rfl rfl (by kernel_rfl) (fun _ _ _ h => h) (by rfl) (fun _ _ => rfl) HS ?_
      simp only [List.setIfInBounds_toArray, List.set_cons_zero, List.set_cons_succ]
      refine takeH 4 11 (.bool true) rfl rfl (by kernel_rfl) (fun _ _ _ h => h) (by rfl) (fun _ _ => by (go_simp; done)) HS ?_
      simp only [List.setIfInBounds_toArray, List.set_cons_zero, List.set_cons_succ]
      refine takeH 5 12 (.bool true) rfl rfl (by kernel_rfl) (fun _ _ _ h => h) (by rfl) (fun _ _ => rfl) HS ?_
      simp only [List.setIfInBounds_toArray, List.set_cons_zero, List.set_cons_succ]
      refine takeH 6 13 (.pointer (some ⟨g, 0, none⟩)) rfl rfl (by kernel_rfl) (fun _ _ _ h => h) (by rfl) (fun _ _ => rfl) HS ?_
      simp only [List.setIfInBounds_toArray, List.set_cons_zero, List.set_cons_succ]
      refine takeH 7 14 (.pointer (some ⟨g, 0, none⟩)) rfl rfl (by kernel_rfl) (fun _ _ _ h => h) (by rfl) (fun _ _ => by (go_simp; done)) HS ?_
      simp only [List.setIfInBounds_toArray, List.set_cons_zero, List.set_cons_succ]
      refine takeH 8 15 (.pointer (some ⟨g, 0, none⟩)) rfl rfl (by kernel_rfl) (fun _ _ _ h => h) (by rfl) (fun _ _ => by (go_simp; done)) HS ?_
      simp only [List.setIfInBounds_toArray, List.set_cons_zero, List.set_cons_succ]
      refine takeH 10 17 (.int .i64 k) rfl rfl (by kernel_rfl) (fun _ _ _ h => h) (by rfl) (fun _ _ => rfl) HS ?_
      simp only [List.setIfInBounds_toArray, List.set_cons_zero, List.set_cons_succ]
      refine takeH 13 20 (.int .i64 n) rfl rfl (by kernel_rfl) (fun _ _ _ h => h) (by rfl) (fun _ _ => rfl) HS ?_
      simp only [List.setIfInBounds_toArray, List.set_cons_zero, List.set_cons_succ]
      refine takeH 15 22 (.pointer (some ⟨g, 0, none⟩)) rfl rfl (by kernel_rfl) (fun _ _ _ h => h) (by rfl) (fun _ _ => rfl) HS ?_
      simp only [List.setIfInBounds_toArray, List.set_cons_zero, List.set_cons_succ]
      refine takeH 16 23 (.pointer (some ⟨g, 0, none⟩)) rfl rfl (by kernel_rfl) (fun _ _ _ h => h) (by rfl) (fun _ _ => by (go_simp; done)) HS ?_
      simp only [List.setIfInBounds_toArray, List.set_cons_zero, List.set_cons_succ]
      refine takeH 17 24 (.pointer (some ⟨g, 5, none⟩)) rfl rfl (by kernel_rfl) (fun _ _ _ h => h) (by rfl) (fun _ _ => by (go_simp; done)) HS ?_
      simp only [List.setIfInBounds_toArray, List.set_cons_zero, List.set_cons_succ]
      refine takeH 18 25 (.int .i64 tol) rfl rfl (by kernel_rfl) (fun _ _ _ h => h) (by rfl) (fun w' hS => by (have q0 := hS.p0; have q1 := hS.p1; have q2 := hS.p2; have q3 := hS.p3; have q4 := hS.p4; have q5 := hS.p5; clear hS HS; go_simp; done)) HS ?_
      simp only [List.setIfInBounds_toArray, List.set_cons_zero, List.set_cons_succ]
      refine takeH 19 26 (.int .i64 (-tol)) rfl rfl (by kernel_rfl) (fun _ _ _ h => h) (by rfl) (fun _ _ => by (go_simp; done)) HS ?_
      simp only [List.setIfInBounds_toArray, List.set_cons_zero, List.set_cons_succ]
      refine wpAnyH_seqF [9, 11, 12, 14, 20, 21, 22, 23] _ _ _ (by kernel_rfl) ?_
      refine idxH_stepL rfl ?_
      intro K hK
      go_simp
      refine (HLI.out _ HS).mono ?_
      rintro _ wa ⟨va, rfl, na, qa⟩
      have HS1 := HS.later qa
      have b2 : Below w.heap.size w wa := b1.trans (qa.mono b1.size)
      clear qa HS
      obtain ⟨gl, cl, rfl, hgl1, hgl2⟩ := World.ownsRow.form na (by rw [HL5.out]; decide)
      have lc := (World.ownsRow.cellAt na k (by rw [HL5.out]; omega)).trans (intsAt (by rw [HL5.out]; exact hk))
      rw [← getD_eq (show k < ls.length by rw [HL5.out]; exact hk), HM.out] at lc
      have hix := ix (P := Try.prog) (T := 38) (n := ls.length) (cap := cl) Try.underlying38 cells_int64 has_int64 (ao := some ⟨gl, 0, none⟩) (b := gl) (off := 0) (fun _ => rfl) (k := k) (by rw [HL5.out]; exact hk) _ rfl
      rw [Nat.mul_one, Nat.zero_add] at hix
      clear na b1
      refine hK _ _ HS1 ?_
      refine idxH_stepL rfl ?_
      intro K hK
      go_simp
      refine hK _ _ HS1 ?_
      refine idxH_stepL rfl ?_
      intro K hK
      go_simp
      refine hK _ _ HS1 ?_
      refine idxH_stepL rfl ?_
      intro K hK
      go_simp
      refine (HCE.out _).mono ?_
      rintro _ _ ⟨rfl, rfl⟩
      refine hK _ _ HS1 ?_
      refine idxH_stepL rfl ?_
      intro K hK
      go_simp
      refine hK _ _ HS1 ?_
      refine idxH_stepL rfl ?_
      intro K hK
      go_simp
      refine hK _ _ HS1 ?_
      refine idxH_stepL rfl ?_
      intro K hK
      go_simp
      refine hK _ _ HS1 ?_
      refine idxH_stepL rfl ?_
      intro K hK
      go_simp
      refine hK _ _ HS1 ?_
      refine idxH_end ?_
      go_wp2
      go_returns
      exact RetB.mk rfl b2
    · have he : lowB ([a, b, c, d, f].getD k 0) x tol = false := by simp [lowB, h1, h2]
      rw [he]
      have t1 : decide (x < 10000) = false := decide_eq_false h1
      have t2 : decide (x ≤ 20000000) = false := decide_eq_false h2
      clear he hls
      clear HS0
      go_enter Try.func82, Try.ntmps82
      go_wp2_with fail
      go_quiet (fail)
      go_wp2
      go_returns
      exact RetB.mk rfl (below_drewN (by exact Below.refl _ _) _)

set_option maxRecDepth 100000 in
set_option maxHeartbeats 3200000 in
theorem l10High_c (g : Nat) (a b c d f tol : Int) (k : Nat) (x : Int) (w : World) (HS0 : H6 g a b c d f tol w) (hk : k < 5) (hls : ∀ k, k < 5 → 1 ≤ [a, b, c, d, f].getD k 0 ∧ [a, b, c, d, f].getD k 0 ≤ 20000000) (ht0 : 0 ≤ tol) (ht1 : tol ≤ 20000) :
    Calls Try.prog 83 #[.pointer (some ⟨g, 0, none⟩), .int .i64 x, .int .i64 k] w (RetB (.bool (highB ([a, b, c, d, f].getD k 0) x tol)) w) := by
  by_cases h1 : 20000000 < x
  · have he : highB ([a, b, c, d, f].getD k 0) x tol = true := by simp [highB, h1]
    rw [he]
    have t1 : decide (20000000 < x) = true := decide_eq_true h1
    clear he hls
    clear HS0
    go_enter Try.func83, Try.ntmps83
    go_wp2_with fail
    go_quiet (fail)
    go_wp2
    go_returns
    exact RetB.mk rfl (below_drewN (by exact Below.refl _ _) _)
  · by_cases h2 : 10000 ≤ x
    · have hl := hls k hk
      obtain ⟨n, rfl⟩ : ∃ n : Nat, x = (n : Int) := ⟨x.toNat, by omega⟩
      obtain ⟨m, hm⟩ : ∃ m : Nat, [a, b, c, d, f].getD k 0 = (m : Int) := ⟨([a, b, c, d, f].getD k 0).toNat, by omega⟩
      have hbe := bet_bd (f := m) (g := n) (by omega) (by omega) (by omega) (by omega)
      have he : highB ([a, b, c, d, f].getD k 0) n tol = decide (tol < betV m n) := by unfold highB; rw [hm]; simp [h1, h2]
      rw [he]
      have t1 : decide (20000000 < (n : Int)) = false := decide_eq_false h1
      have t2 : decide (10000 ≤ (n : Int)) = true := decide_eq_true h2
      have hce := fun w' => l02Between_c m n w' (by omega) (by omega) (by omega) (by omega)
      have hli := fun w' (hx : H6 g a b c d f tol w') => l04ListO_c a b c d f g w' hx.p0 hx.p1 hx.p2 hx.p3 hx.p4
      have hl5 : [a, b, c, d, f].length = 5 := rfl
      clear he hls
      generalize [a, b, c, d, f] = ls at *
      generalize betV m n = bt at *
      have HCE := Lib.hid hce; clear hce
      have HLI := Lib.hid hli; clear hli
      have HL5 := Lib.hid hl5; clear hl5
      have HM := Lib.hid hm; clear hm
      have b1 : Below w.heap.size w w.drew := by go_grown
      have HS := HS0.later b1
      clear HS0
      go_enter Try.func83, Try.ntmps83
      go_wp2_with fail
      refine wp_region_held (S := H6 g a b c d f tol) (by kernel_rfl) ?_
      change wpAnyH _ _ _ _ _ _ _ _ w.drew
      refine takeH 0 7 (.int .i64 n) rfl rfl (by kernel_rfl) (fun _ _ _ h => h) (by rfl) (fun _ _ => rfl) HS ?_
      simp only [List.setIfInBounds_toArray, List.set_cons_zero, List.set_cons_succ]
      refine takeH 1 8 (.bool false) rfl rfl (by kernel_rfl) (fun _ _ _ h => h) (by rfl) (fun _ _ => by (go_simp; done)) HS ?_
      simp only [List.setIfInBounds_toArray, List.set_cons_zero, List.set_cons_succ]
      refine takeH 2 9 (.bool false) rfl rfl (by kernel_rfl) (fun _ _ _ h => h) (by rfl) (fun _ _ => rfl) HS ?_
      simp only [List.setIfInBounds_toArray, List.set_cons_zero, List.set_cons_succ]
      refine takeH 3 10 (.int .i64 n) rfl rfl (by kernel_rfl) (fun _ _ _ h => h) (by rfl) (fun _ _ => rfl) HS ?_
      simp only [List.setIfInBounds_toArray, List.set_cons_zero, List.set_cons_succ]
      refine takeH 4 11 (.bool true) rfl rfl (by kernel_rfl) (fun _ _ _ h => h) (by rfl) (fun _ _ => by (go_simp; done)) HS ?_
      simp only [List.setIfInBounds_toArray, List.set_cons_zero, List.set_cons_succ]
      refine takeH 5 12 (.bool true) rfl rfl (by kernel_rfl) (fun _ _ _ h => h) (by rfl) (fun _ _ => rfl) HS ?_
      simp only [List.setIfInBounds_toArray, List.set_cons_zero, List.set_cons_succ]
      refine takeH 6 13 (.pointer (some ⟨g, 0, none⟩)) rfl rfl (by kernel_rfl) (fun _ _ _ h => h) (by rfl) (fun _ _ => rfl) HS ?_
      simp only [List.setIfInBounds_toArray, List.set_cons_zero, List.set_cons_succ]
      refine takeH 7 14 (.pointer (some ⟨g, 0, none⟩)) rfl rfl (by kernel_rfl) (fun _ _ _ h => h) (by rfl) (fun _ _ => by (go_simp; done)) HS ?_
      simp only [List.setIfInBounds_toArray, List.set_cons_zero, List.set_cons_succ]
      refine takeH 8 15 (.pointer (some ⟨g, 0, none⟩)) rfl rfl (by kernel_rfl) (fun _ _ _ h => h) (by rfl) (fun _ _ => by (go_simp; done)) HS ?_
      simp only [List.setIfInBounds_toArray, List.set_cons_zero, List.set_cons_succ]
      refine takeH 10 17 (.int .i64 k) rfl rfl (by kernel_rfl) (fun _ _ _ h => h) (by rfl) (fun _ _ => rfl) HS ?_
      simp only [List.setIfInBounds_toArray, List.set_cons_zero, List.set_cons_succ]
      refine takeH 13 20 (.int .i64 n) rfl rfl (by kernel_rfl) (fun _ _ _ h => h) (by rfl) (fun _ _ => rfl) HS ?_
      simp only [List.setIfInBounds_toArray, List.set_cons_zero, List.set_cons_succ]
      refine takeH 15 22 (.pointer (some ⟨g, 0, none⟩)) rfl rfl (by kernel_rfl) (fun _ _ _ h => h) (by rfl) (fun _ _ => rfl) HS ?_
      simp only [List.setIfInBounds_toArray, List.set_cons_zero, List.set_cons_succ]
      refine takeH 16 23 (.pointer (some ⟨g, 0, none⟩)) rfl rfl (by kernel_rfl) (fun _ _ _ h => h) (by rfl) (fun _ _ => by (go_simp; done)) HS ?_
      simp only [List.setIfInBounds_toArray, List.set_cons_zero, List.set_cons_succ]
      refine takeH 17 24 (.pointer (some ⟨g, 5, none⟩)) rfl rfl (by kernel_rfl) (fun _ _ _ h => h) (by rfl) (fun _ _ => by (go_simp; done)) HS ?_
      simp only [List.setIfInBounds_toArray, List.set_cons_zero, List.set_cons_succ]
      refine takeH 18 25 (.int .i64 tol) rfl rfl (by kernel_rfl) (fun _ _ _ h => h) (by rfl) (fun w' hS => by (have q0 := hS.p0; have q1 := hS.p1; have q2 := hS.p2; have q3 := hS.p3; have q4 := hS.p4; have q5 := hS.p5; clear hS HS; go_simp; done)) HS ?_
      simp only [List.setIfInBounds_toArray, List.set_cons_zero, List.set_cons_succ]
      refine wpAnyH_seqF [9, 11, 12, 14, 19, 20, 21, 22] _ _ _ (by kernel_rfl) ?_
      refine idxH_stepL rfl ?_
      intro K hK
      go_simp
      refine (HLI.out _ HS).mono ?_
      rintro _ wa ⟨va, rfl, na, qa⟩
      have HS1 := HS.later qa
      have b2 : Below w.heap.size w wa := b1.trans (qa.mono b1.size)
      clear qa HS
      obtain ⟨gl, cl, rfl, hgl1, hgl2⟩ := World.ownsRow.form na (by rw [HL5.out]; decide)
      have lc := (World.ownsRow.cellAt na k (by rw [HL5.out]; omega)).trans (intsAt (by rw [HL5.out]; exact hk))
      rw [← getD_eq (show k < ls.length by rw [HL5.out]; exact hk), HM.out] at lc
      have hix := ix (P := Try.prog) (T := 38) (n := ls.length) (cap := cl) Try.underlying38 cells_int64 has_int64 (ao := some ⟨gl, 0, none⟩) (b := gl) (off := 0) (fun _ => rfl) (k := k) (by rw [HL5.out]; exact hk) _ rfl
      rw [Nat.mul_one, Nat.zero_add] at hix
      clear na b1
      refine hK _ _ HS1 ?_
      refine idxH_stepL rfl ?_
      intro K hK
      go_simp
      refine hK _ _ HS1 ?_
      refine idxH_stepL rfl ?_
      intro K hK
      go_simp
      refine hK _ _ HS1 ?_
      refine idxH_stepL rfl ?_
      intro K hK
      go_simp
      refine (HCE.out _).mono ?_
      rintro _ _ ⟨rfl, rfl⟩
      refine hK _ _ HS1 ?_
      refine idxH_stepL rfl ?_
      intro K hK
      go_simp
      refine hK _ _ HS1 ?_
      refine idxH_stepL rfl ?_
      intro K hK
      go_simp
      refine hK _ _ HS1 ?_
      refine idxH_stepL rfl ?_
      intro K hK
      go_simp
      refine hK _ _ HS1 ?_
      refine idxH_stepL rfl ?_
      intro K hK
      go_simp
      refine hK _ _ HS1 ?_
      refine idxH_end ?_
      go_wp2
      go_returns
      exact RetB.mk rfl b2
    · have he : highB ([a, b, c, d, f].getD k 0) x tol = false := by simp [highB, h1, h2]
      rw [he]
      have t1 : decide (20000000 < x) = false := decide_eq_false h1
      have t2 : decide (10000 ≤ x) = false := decide_eq_false h2
      clear he hls
      clear HS0
      go_enter Try.func83, Try.ntmps83
      go_wp2_with fail
      go_quiet (fail)
      go_wp2
      go_returns
      exact RetB.mk rfl (below_drewN (by exact Below.refl _ _) _)

end Go.Proofs.Ytmeeibcbhjifbaa

