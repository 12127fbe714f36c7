/- The sound with five partials. -/
import Derived.Test.YtmeeibcbhjifbaaGF
import Derived.Test.YtmeeibcbhjifbaaGoals2
namespace Go.Proofs.Ytmeeibcbhjifbaa
set_option linter.unusedVariables false
open Go.RowKit Go.Proofs.Bell Go.BigFrame

def sndV (r : List Int) : Value := .agg #[.int .i64 (r.getD 0 0), .int .i64 (r.getD 1 0), .int .i64 (r.getD 2 0), .int .i64 (r.getD 3 0), .int .i64 (r.getD 4 0)]

set_option maxRecDepth 100000 in
set_option maxHeartbeats 1600000 in
theorem l04Sound_c (v : Value) (r : List Int) (hl : r.length = 5) (w : World) (h : Rd w v 5 (ints r)) : Calls Try.prog 169 #[v] w (RetB (sndV r) w) := by
  obtain ⟨hn, ao, cap, b, off, rfl, hao, hcell⟩ := h.open
  obtain rfl : ao = some ⟨b, off, none⟩ := hao (by omega)
  have c0 := hcell w (Below.refl _ _) 0 _ (by omega) (intsAt (show 0 < r.length by omega))
  have c1 := hcell w (Below.refl _ _) 1 _ (by omega) (intsAt (show 1 < r.length by omega))
  have c2 := hcell w (Below.refl _ _) 2 _ (by omega) (intsAt (show 2 < r.length by omega))
  have c3 := hcell w (Below.refl _ _) 3 _ (by omega) (intsAt (show 3 < r.length by omega))
  have c4 := hcell w (Below.refl _ _) 4 _ (by omega) (intsAt (show 4 < r.length by omega))
  rw [← getD_eq (by omega)] at c0 c1 c2 c3 c4
  rw [Nat.add_zero] at c0
  clear hcell h hao
  unfold sndV
  generalize r.getD 0 0 = x0 at *
  generalize r.getD 1 0 = x1 at *
  generalize r.getD 2 0 = x2 at *
  generalize r.getD 3 0 = x3 at *
  generalize r.getD 4 0 = x4 at *
  have i0 := ix (P := Try.prog) (T := 38) (n := 5) (cap := cap) Try.underlying38 cells_int64 has_int64 (ao := some ⟨b, off, none⟩) (b := b) (off := off) (fun _ => rfl) (k := 0) (by omega) 0 rfl
  have i1 := ix (P := Try.prog) (T := 38) (n := 5) (cap := cap) Try.underlying38 cells_int64 has_int64 (ao := some ⟨b, off, none⟩) (b := b) (off := off) (fun _ => rfl) (k := 1) (by omega) 1 rfl
  have i2 := ix (P := Try.prog) (T := 38) (n := 5) (cap := cap) Try.underlying38 cells_int64 has_int64 (ao := some ⟨b, off, none⟩) (b := b) (off := off) (fun _ => rfl) (k := 2) (by omega) 2 rfl
  have i3 := ix (P := Try.prog) (T := 38) (n := 5) (cap := cap) Try.underlying38 cells_int64 has_int64 (ao := some ⟨b, off, none⟩) (b := b) (off := off) (fun _ => rfl) (k := 3) (by omega) 3 rfl
  have i4 := ix (P := Try.prog) (T := 38) (n := 5) (cap := cap) Try.underlying38 cells_int64 has_int64 (ao := some ⟨b, off, none⟩) (b := b) (off := off) (fun _ => rfl) (k := 4) (by omega) 4 rfl
  simp only [Nat.mul_one, Nat.add_zero, Nat.zero_mul] at i0 i1 i2 i3 i4
  have d0 := fun o => alloc_cell o c0
  have d1 := fun o => alloc_cell o c1
  have d2 := fun o => alloc_cell o c2
  have d3 := fun o => alloc_cell o c3
  have d4 := fun o => alloc_cell o c4
  clear hl
  go_enter Try.func169, Try.ntmps169
  go_wp2_with fail
  refine wp_region_drew_tail 16 (by kernel_rfl) (by kernel_rfl) ?_
  simp only [List.take_succ_cons, List.take_zero, List.drop_succ_cons, List.drop_zero]
  repeat (quiet_step (fail))
  refine wpQuiet_nil ?_
  rintro _ ⟨nq, rfl⟩
  clear c0 c1 c2 c3 c4 d0 d1 d2 d3 d4 i0 i1 i2 i3 i4
  have b1 : Below w.heap.size w ((w.alloc (.cells #[.int .i64 0, .int .i64 0, .int .i64 0, .int .i64 0, .int .i64 0] 49)).drewN nq) := below_drewN ((Below.refl _ _).alloc (Nat.le_refl _) _) nq
  have e : ∀ j, j < 5 → ((w.alloc (.cells #[.int .i64 0, .int .i64 0, .int .i64 0, .int .i64 0, .int .i64 0] 49)).drewN nq).cell? ⟨w.heap.size, j, none⟩ = some (.int .i64 0) := fun j hj => by
    match j, hj with
    | 0, _ => simp [go_sem]
    | 1, _ => simp [go_sem]
    | 2, _ => simp [go_sem]
    | 3, _ => simp [go_sem]
    | 4, _ => simp [go_sem]
  have f : ∀ j, ((w.alloc (.cells #[.int .i64 0, .int .i64 0, .int .i64 0, .int .i64 0, .int .i64 0] 49)).drewN nq).frozen? ⟨w.heap.size, j, none⟩ = false := fun j => by simp [go_sem]
  generalize (w.alloc (.cells #[.int .i64 0, .int .i64 0, .int .i64 0, .int .i64 0, .int .i64 0] 49)).drewN nq = w1 at *
  have e0 := e 0 (by omega)
  have e1 := e 1 (by omega)
  have e2 := e 2 (by omega)
  have e3 := e 3 (by omega)
  have e4 := e 4 (by omega)
  clear e
  go_wp2
  refine bodyPost_ret (v := .agg #[.int .i64 x0, .int .i64 x1, .int .i64 x2, .int .i64 x3, .int .i64 x4]) (by simp [results, Try.results169, go_sem, cell_setCell, e0, e1, e2, e3, e4]) rfl ?_
  exact RetB.mk rfl (((((b1.setCell (Nat.le_refl _) _).setCell (Nat.le_refl _) _).setCell (Nat.le_refl _) _).setCell (Nat.le_refl _) _).setCell (Nat.le_refl _) _)

end Go.Proofs.Ytmeeibcbhjifbaa
