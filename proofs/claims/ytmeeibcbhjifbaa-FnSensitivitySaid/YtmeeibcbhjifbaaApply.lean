/- Cuts made: the reference. -/
import Derived.Test.YtmeeibcbhjifbaaAsk
namespace Go.Proofs.Ytmeeibcbhjifbaa
set_option linter.unusedVariables false
open Go.RowKit Go.Proofs.Bell Go.BigFrame

def applyI (nm : ByteArray) (ps : List (Int × Int × Int)) (zs : List Int) (cs : List (Int × Int)) : ByteArray × List (Int × Int × Int) × Int := if cutAsk nm ps zs cs = 0 then doneR nm (mapK (turnT zs (sumsOf cs)) ps ps.length) else (⟨#[]⟩, [], cutAsk nm ps zs cs)
theorem applyI_len (nm : ByteArray) (ps : List (Int × Int × Int)) (zs : List Int) (cs : List (Int × Int)) : (applyI nm ps zs cs).2.1.length ≤ 32 := by
  unfold applyI
  split
  · exact doneR_len _ _
  · simp
theorem cutAsk_ok {nm : ByteArray} {ps : List (Int × Int × Int)} {zs : List Int} {cs : List (Int × Int)} (h : cutAsk nm ps zs cs = 0) : vzB nm ps zs = true ∧ cutsB cs = true ∧ overB zs cs = false ∧ (sumsOf cs).all (fun z => decide (z ≤ 20)) = true := by
  unfold cutAsk at h
  cases h1 : vzB nm ps zs <;> cases h2 : cutsB cs <;> cases h3 : overB zs cs <;> cases h4 : (sumsOf cs).all (fun z => decide (z ≤ 20)) <;> simp [h1, h2, h3, h4] at h ⊢
theorem sums_bd {cs : List (Int × Int)} (h : cutsB cs = true) (k : Nat) : 0 ≤ (sumsOf cs).getD k 0 ∧ (sumsOf cs).getD k 0 ≤ 1000000000000 := by
  rcases Nat.lt_or_ge k 8 with hk | hk
  · have h1 := sumsOf_at cs hk
    rw [List.getD, h1]
    simp only [cutsB, Bool.and_eq_true, decide_eq_true_eq] at h
    have := zoneSum_bd h.1 k cs.length
    rw [List.take_of_length_le (Nat.le_refl _)] at this
    simp only [Option.getD_some]
    omega
  · rw [List.getD, List.getElem?_eq_none (by rw [sumsOf_len]; exact hk)]
    simp

set_option maxRecDepth 100000 in
set_option maxHeartbeats 1600000 in
theorem l09Apply_c (g : Nat) (nm : ByteArray) (sv : Value) (ps : List (Int × Int × Int)) (v : Value) (zs : List Int) (u : Value) (cs : List (Int × Int)) (w : World) (hg : g < w.heap.size) (hnm : nm.size ≤ maxLen) (c0 : w.cell? ⟨g, 0, none⟩ = some (.string nm)) (c1 : w.cell? ⟨g, 1, none⟩ = some sv) (hr : Rd w sv ps.length (trips ps)) (h : Rd w v zs.length (ints zs)) (h2 : Rd w u cs.length (pairs cs)) :
    Calls Try.prog 77 #[.pointer (some ⟨g, 0, none⟩), v, u] w (RetP2 (applyI nm ps zs cs).1 (applyI nm ps zs cs).2.1 (.int .i64 (applyI nm ps zs cs).2.2) w) := by
  have hask := fun w' (hb : Below w.heap.size w w') => l09Ask_c g nm sv ps v zs u cs w' (by have := hb.size; omega) hnm (below_cell hb c0) (below_cell hb c1) (hr.later hb) (h.later hb) (h2.later hb)
  by_cases t0 : ¬ cutAsk nm ps zs cs = 0
  · have he : applyI nm ps zs cs = (⟨#[]⟩, [], cutAsk nm ps zs cs) := by simp [applyI, t0]
    rw [he]
    generalize cutAsk nm ps zs cs = code at *
    have HASK := Lib.hid hask; clear hask
    clear he hr h h2 c0 c1
    go_enter Try.func77, Try.ntmps77
    have b0 : Below w.heap.size w w := Below.refl _ _
    have z0 : w.heap.size ≤ w.heap.size := Nat.le_refl _
    go_wp2_with fail
    refine (HASK.out _ (by go_grown)).mono ?_
    rintro _ w1 ⟨rfl, r1⟩
    have s1 : Below w.heap.size w w1 := Below.trans (by go_grown) (r1.mono (by simp; try omega))
    have b1 := b0.trans (s1.mono z0)
    have z1 := b1.size
    have y1 := s1.size
    have v1 : w.heap.size + 1 ≤ w1.heap.size := by have := r1.size; simp only [World.size_alloc] at this; omega
    have c0_0_1 := below_cell r1 (p := ⟨w.heap.size, 0, none⟩) (v := .string ⟨#[]⟩) (by simp [go_sem])
    have c0_1_1 := below_cell r1 (p := ⟨w.heap.size, 1, none⟩) (v := .slice none 0 0) (by simp [go_sem])
    have f0_1 : ∀ j, w1.frozen? ⟨w.heap.size, j, none⟩ = false := fun j => (r1.frozen (p := ⟨w.heap.size, j, none⟩) (by simp [go_sem])).trans (by simp [go_sem])
    clear r1
    go_wp2
    refine bodyPost_ret (v := .tuple #[.agg #[.string ⟨#[]⟩, .slice none 0 0], .int .i64 code]) (by simp [results, Try.results77, go_sem, c0_0_1, c0_1_1]) rfl ?_
    exact RetP2.nil (Below.setCell (Below.setCell b1 (show w.heap.size ≤ w.heap.size by omega) _) (show w.heap.size ≤ w.heap.size by omega) _)
  · have t0 : cutAsk nm ps zs cs = 0 := Classical.not_not.1 t0
    have he : applyI nm ps zs cs = doneR nm (mapK (turnT zs (sumsOf cs)) ps ps.length) := by simp [applyI, t0]
    rw [t0] at hask
    rw [he]
    obtain ⟨t1, t2, t3, t4⟩ := cutAsk_ok t0
    have hpz : profB nm ps = true ∧ zonesB zs ((ps.length : Int) - 1) = true := by simpa only [vzB, Bool.and_eq_true] using t1
    obtain ⟨hl1, hl2, hal, hht⟩ := profB_t hpz.1
    obtain ⟨hz1, hz8⟩ := zones_len hpz.2
    have hsum := fun w' (hb : Below w.heap.size w w') => l09Sums_c u cs w' (h2.later hb) t2
    have hturn := fun w' x (hb : Below w.heap.size w w') (hx : Rd w' x (sumsOf cs).length (ints (sumsOf cs))) => l09Turned_c g nm sv ps v zs x (sumsOf cs) w' (below_cell hb c0) (below_cell hb c1) (hr.later hb) (h.later hb) hx hl1 hl2 hal (fun k hk => by have := zoneI_lt zs k hz1; rw [sumsOf_len]; omega) (sums_bd t2)
    have hdone := fun base w' x (ho : OwnR base w' x (mapK (turnT zs (sumsOf cs)) ps ps.length)) => l07Done_c base nm x _ w' hnm ho
    generalize doneR nm (mapK (turnT zs (sumsOf cs)) ps ps.length) = RES at *
    generalize mapK (turnT zs (sumsOf cs)) ps ps.length = qs at *
    have HASK := Lib.hid hask; clear hask
    have HSUM := Lib.hid hsum; clear hsum
    have HTURN := Lib.hid hturn; clear hturn
    have HDONE := Lib.hid hdone; clear hdone
    clear he hr h h2 c0 c1 t0 t1 t2 t3 t4 hpz hal hht
    generalize sumsOf cs = sums at *
    go_enter Try.func77, Try.ntmps77
    have b0 : Below w.heap.size w w := Below.refl _ _
    have z0 : w.heap.size ≤ w.heap.size := Nat.le_refl _
    go_wp2_with fail
    refine (HASK.out _ (by go_grown)).mono ?_
    rintro _ w1 ⟨rfl, r1⟩
    have s1 : Below w.heap.size w w1 := Below.trans (by go_grown) (r1.mono (by simp; try omega))
    have b1 := b0.trans (s1.mono z0)
    have z1 := b1.size
    have y1 := s1.size
    have v1 : w.heap.size + 1 ≤ w1.heap.size := by have := r1.size; simp only [World.size_alloc] at this; omega
    have c0_0_1 := below_cell r1 (p := ⟨w.heap.size, 0, none⟩) (v := .string ⟨#[]⟩) (by simp [go_sem])
    have c0_1_1 := below_cell r1 (p := ⟨w.heap.size, 1, none⟩) (v := .slice none 0 0) (by simp [go_sem])
    have f0_1 : ∀ j, w1.frozen? ⟨w.heap.size, j, none⟩ = false := fun j => (r1.frozen (p := ⟨w.heap.size, j, none⟩) (by simp [go_sem])).trans (by simp [go_sem])
    clear r1
    go_wp2_with fail
    refine (HSUM.out _ b1).mono ?_
    rintro _ w2 ⟨x2, rfl, n2, r2⟩
    have s2 := r2
    have b2 := b1.trans (s2.mono z1)
    have z2 := b2.size
    have y2 := s2.size
    have k0_2 := c0_0_1
    have c0_0_2 := below_cell s2 c0_0_1; clear c0_0_1
    have c0_1_2 := below_cell s2 c0_1_1; clear c0_1_1
    have f0_2 : ∀ j, w2.frozen? ⟨w.heap.size, j, none⟩ = false := fun j => (s2.frozen (p := ⟨w.heap.size, j, none⟩) (show w.heap.size < _ from World.block_lt_of_cell? _ ⟨w.heap.size, 0, none⟩ k0_2)).trans (f0_1 j); clear f0_1
    clear r2
    have rd2 := Rd.of_own n2
    have RD2 := Lib.hid rd2; clear rd2
    go_wp2_with fail
    refine (HTURN.out _ _ b2 RD2.out).mono ?_
    rintro _ w3 ⟨x3, rfl, n3, r3⟩
    have s3 := r3
    have b3 := b2.trans (s3.mono z2)
    have z3 := b3.size
    have y3 := s3.size
    have k0_3 := c0_0_2
    have c0_0_3 := below_cell s3 c0_0_2; clear c0_0_2
    have c0_1_3 := below_cell s3 c0_1_2; clear c0_1_2
    have f0_3 : ∀ j, w3.frozen? ⟨w.heap.size, j, none⟩ = false := fun j => (s3.frozen (p := ⟨w.heap.size, j, none⟩) (show w.heap.size < _ from World.block_lt_of_cell? _ ⟨w.heap.size, 0, none⟩ k0_3)).trans (f0_2 j); clear f0_2
    clear r3
    have N3 := Lib.hid n3; clear n3
    go_wp2_with fail
    refine (HDONE.out _ _ _ N3.out).mono ?_
    rintro _ w4 ⟨x4, rfl, n4, r4⟩
    have s4 := r4
    have b4 := b3.trans (s4.mono z3)
    have z4 := b4.size
    have y4 := s4.size
    have k0_4 := c0_0_3
    have c0_0_4 := below_cell s4 c0_0_3; clear c0_0_3
    have c0_1_4 := below_cell s4 c0_1_3; clear c0_1_3
    have f0_4 : ∀ j, w4.frozen? ⟨w.heap.size, j, none⟩ = false := fun j => (s4.frozen (p := ⟨w.heap.size, j, none⟩) (show w.heap.size < _ from World.block_lt_of_cell? _ ⟨w.heap.size, 0, none⟩ k0_4)).trans (f0_3 j); clear f0_3
    clear r4
    obtain ⟨a4, p4, rfl⟩ := own_shape n4
    have lo4 := own_lo n4
    go_wp2
    refine bodyPost_ret (v := .tuple #[.agg #[.string RES.1, .slice a4 RES.2.1.length p4], .int .i64 RES.2.2]) (by simp [results, Try.results77, go_sem, *]) rfl ?_
    have o11 := own_set n4 (a := ⟨w.heap.size, 0, none⟩) (fun k hk => by have := lo4 k hk; simp; omega) (.string RES.1)
    have o12 := own_set o11 (a := ⟨w.heap.size, 1, none⟩) (fun k hk => by have := lo4 k hk; simp; omega) (.slice a4 RES.2.1.length p4)
    exact ⟨_, rfl, own_base o12 (by omega), (b4.setCell (Nat.le_refl _) _).setCell (Nat.le_refl _) _⟩

set_option maxRecDepth 100000 in
set_option maxHeartbeats 1600000 in
theorem specApplyCuts_c (nm : ByteArray) (sv : Value) (ps : List (Int × Int × Int)) (v : Value) (zs : List Int) (u : Value) (cs : List (Int × Int)) (w : World) (hnm : nm.size ≤ maxLen) (hr : Rd w sv ps.length (trips ps)) (h : Rd w v zs.length (ints zs)) (h2 : Rd w u cs.length (pairs cs)) :
    Calls Try.prog 27 #[.agg #[.string nm, sv], v, u] w (RetP2 (applyI nm ps zs cs).1 (applyI nm ps zs cs).2.1 (.int .i64 (applyI nm ps zs cs).2.2) w) := by
  have hap := fun w' g hg c0 c1 (hb : Below w.heap.size w w') => l09Apply_c g nm sv ps v zs u cs w' hg hnm c0 c1 (hr.later hb) (h.later hb) (h2.later hb)
  generalize applyI nm ps zs cs = RES at *
  have HAP := Lib.hid hap; clear hap
  clear hr h h2
  go_enter Try.func27, Try.ntmps27
  have b0 : Below w.heap.size w w := Below.refl _ _
  have z0 : w.heap.size ≤ w.heap.size := Nat.le_refl _
  go_wp2_with fail
  refine (HAP.out _ _ (by simp; try omega) (by simp [go_sem]) (by simp [go_sem]) (by go_grown)).mono ?_
  rintro _ w1 ⟨x1, rfl, n1, r1⟩
  have s1 : Below w.heap.size w w1 := Below.trans (by go_grown) (r1.mono (by simp; try omega))
  have b1 := b0.trans (s1.mono z0)
  have z1 := b1.size
  have y1 := s1.size
  have v1 : w.heap.size + 2 ≤ w1.heap.size := by have := r1.size; simp only [World.size_alloc] at this; omega
  have c0_0_1 := below_cell r1 (p := ⟨w.heap.size, 0, none⟩) (v := .string nm) (by simp [go_sem])
  have c0_1_1 := below_cell r1 (p := ⟨w.heap.size, 1, none⟩) (v := sv) (by simp [go_sem])
  have c1_0_1 := below_cell r1 (p := ⟨w.heap.size + 1, 0, none⟩) (v := .string ⟨#[]⟩) (by simp [go_sem])
  have c1_1_1 := below_cell r1 (p := ⟨w.heap.size + 1, 1, none⟩) (v := .slice none 0 0) (by simp [go_sem])
  have f0_1 : ∀ j, w1.frozen? ⟨w.heap.size, j, none⟩ = false := fun j => (r1.frozen (p := ⟨w.heap.size, j, none⟩) (by simp [go_sem])).trans (by simp [go_sem])
  have f1_1 : ∀ j, w1.frozen? ⟨w.heap.size + 1, j, none⟩ = false := fun j => (r1.frozen (p := ⟨w.heap.size + 1, j, none⟩) (by simp [go_sem])).trans (by simp [go_sem])
  clear r1
  obtain ⟨a4, p4, rfl⟩ := own_shape n1
  have lo4 := own_lo n1
  go_wp2
  refine bodyPost_ret (v := .tuple #[.agg #[.string RES.1, .slice a4 RES.2.1.length p4], .int .i64 RES.2.2]) (by simp [results, Try.results27, go_sem, *]) rfl ?_
  have o11 := own_set n1 (a := ⟨w.heap.size + 1, 0, none⟩) (fun k hk => by have := lo4 k hk; simp at this ⊢; omega) (.string RES.1)
  have o12 := own_set o11 (a := ⟨w.heap.size + 1, 1, none⟩) (fun k hk => by have := lo4 k hk; simp at this ⊢; omega) (.slice a4 RES.2.1.length p4)
  exact ⟨_, rfl, own_base o12 (by simp; try omega), (b1.setCell (show w.heap.size ≤ w.heap.size + 1 by omega) _).setCell (show w.heap.size ≤ w.heap.size + 1 by omega) _⟩

end Go.Proofs.Ytmeeibcbhjifbaa
