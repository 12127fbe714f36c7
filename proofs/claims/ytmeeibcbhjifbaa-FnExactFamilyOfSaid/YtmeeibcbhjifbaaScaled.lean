/- A profile of another size: the program's scaled. -/
import Derived.Test.YtmeeibcbhjifbaaSized
namespace Go.Proofs.Ytmeeibcbhjifbaa
set_option linter.unusedVariables false
open Go.RowKit Go.Proofs.Bell Go.BigFrame

set_option maxRecDepth 100000 in
set_option maxHeartbeats 3200000 in
theorem Scaled1_c (k : Nat) (r : Int × Int × Int) (num den : Int) (g h : Nat) (w : World) (cg : w.cell? ⟨g, 0, none⟩ = some (.int .i64 num)) (ch : w.cell? ⟨h, 0, none⟩ = some (.int .i64 den)) (hra : ringT r = true) (n1 : 1 ≤ num) (n2 : num ≤ 20000000) (n3 : 1 ≤ den) (n4 : den ≤ 20000000) :
    Calls Try.prog 102 #[.int .i64 k, ringV r, .pointer (some ⟨g, 0, none⟩), .pointer (some ⟨h, 0, none⟩)] w (RetB (ringV (scT num den k r)) w) := by
  have hring := ringT_t hra
  obtain ⟨x0, x1, x2⟩ := r
  simp only [ringV, scT] at *
  have k0 := mulsc_bd (x := x0) (num := num) (by omega) (by omega) n1 n2
  have k1 := mulsc_bd (x := x1) (num := num) (by omega) (by omega) n1 n2
  have k2 := mulsc_bd (x := x2) (num := num) (by omega) (by omega) n1 n2
  have hbx := fun (a : Int) w' (h : 0 ≤ a ∧ a ≤ 6000000000000) => nearest_c a den w' (by omega) (by omega) (by omega) (by omega)
  have g0 : IntKind.i64.wrap (x0 * num) = x0 * num := IntWalk.i64_in _ (by omega)
  have g1 : IntKind.i64.wrap (x1 * num) = x1 * num := IntWalk.i64_in _ (by omega)
  have g2 : IntKind.i64.wrap (x2 * num) = x2 * num := IntWalk.i64_in _ (by omega)
  have HBX := Lib.hid hbx; clear hbx
  have K0 := Lib.hid k0; clear k0
  have K1 := Lib.hid k1; clear k1
  have K2 := Lib.hid k2; clear k2
  clear hring
  go_enter Try.func102, Try.ntmps102
  go_wp2_with fail
  obtain ⟨W, hW⟩ : ∃ x, x = (w.alloc (.cells #[.int .i64 x0, .int .i64 x1, .int .i64 x2] 135)).alloc (.cells #[.int .i64 0, .int .i64 0, .int .i64 0] 135) := ⟨_, rfl⟩
  rw [← hW]
  have kb : Below w.heap.size w W := by rw [hW]; go_grown
  have p0 : ∀ s : Lat W, s.world.cell? ⟨w.heap.size, 0, none⟩ = some (.int .i64 x0) := fun s => s.cell (by rw [hW]; simp [go_sem])
  have p1 : ∀ s : Lat W, s.world.cell? ⟨w.heap.size, 1, none⟩ = some (.int .i64 x1) := fun s => s.cell (by rw [hW]; simp [go_sem])
  have p2 : ∀ s : Lat W, s.world.cell? ⟨w.heap.size, 2, none⟩ = some (.int .i64 x2) := fun s => s.cell (by rw [hW]; simp [go_sem])
  have p3 : ∀ s : Lat W, s.world.cell? ⟨g, 0, none⟩ = some (.int .i64 num) := fun s => s.cell (below_cell kb cg)
  have p4 : ∀ s : Lat W, s.world.cell? ⟨h, 0, none⟩ = some (.int .i64 den) := fun s => s.cell (below_cell kb ch)
  have v0 : ∀ s : Lat W, s.world.cell? ⟨w.heap.size + 1, 0, none⟩ = some (.int .i64 0) := fun s => s.cell (by rw [hW]; simp [go_sem])
  have v1 : ∀ s : Lat W, s.world.cell? ⟨w.heap.size + 1, 1, none⟩ = some (.int .i64 0) := fun s => s.cell (by rw [hW]; simp [go_sem])
  have v2 : ∀ s : Lat W, s.world.cell? ⟨w.heap.size + 1, 2, none⟩ = some (.int .i64 0) := fun s => s.cell (by rw [hW]; simp [go_sem])
  have vf : ∀ (s : Lat W) j, s.world.frozen? ⟨w.heap.size + 1, j, none⟩ = false := fun s j => (s.below.frozen (p := ⟨w.heap.size + 1, j, none⟩) (by rw [hW]; simp)).trans (by rw [hW]; simp [go_sem])
  clear hW cg ch
  refine wp_region_lat_tail 19 (by kernel_rfl) (by kernel_rfl) ?_
  simp only [List.take_succ_cons, List.take_zero, List.drop_succ_cons, List.drop_zero]
  repeat (quiet_step ((go_at_call 63; exact Lat.callD (HBX.out _ _ (by first | exact K0.out | exact K1.out | exact K2.out)))))
  refine wpQuiet_nil ?_
  rintro _ ⟨s, rfl⟩
  have z0 := v0 s
  have z1 := v1 s
  have z2 := v2 s
  have zf := vf s
  have zb := kb.trans (s.below.mono kb.size)
  clear p0 p1 p2 p3 p4 v0 v1 v2 vf g0 g1 g2
  generalize s.world = Ws at *
  go_wp2
  refine bodyPost_ret (v := .agg #[.int .i64 (rnd (x0 * num) den), .int .i64 (rnd (x1 * num) den), .int .i64 (rnd (x2 * num) den)]) (by simp [results, Try.results102, go_sem, z0, z1, z2]) rfl ?_
  exact RetB.mk rfl (((zb.setCell (by simp) _).setCell (by simp) _).setCell (by simp) _)

set_option maxRecDepth 100000 in
set_option maxHeartbeats 1600000 in
theorem scaled_c (nm : ByteArray) (sv : Value) (ps : List (Int × Int × Int)) (num den : Int) (w : World) (hnm : nm.size ≤ maxLen) (hr : Rd w sv ps.length (trips ps)) (hal : ps.all ringT = true) (hl : ps.length ≤ 32) (m1 : 1 ≤ num) (m2 : num ≤ 20000000) (m3 : 1 ≤ den) (m4 : den ≤ 20000000) :
    Calls Try.prog 45 #[.agg #[.string nm, sv], .int .i64 num, .int .i64 den] w (RetP2 (doneR nm (mapK (scT num den) ps ps.length)).1 (doneR nm (mapK (scT num den) ps ps.length)).2.1 (.int .i64 (doneR nm (mapK (scT num den) ps ps.length)).2.2) w) := by
  have hrs := fun w' (hb : Below w.heap.size w w') (g h : Nat) (c1 : w'.cell? ⟨g, 0, none⟩ = some (.int .i64 num)) (c2 : w'.cell? ⟨h, 0, none⟩ = some (.int .i64 den)) => reshaped_c 102 #[.pointer (some ⟨g, 0, none⟩), .pointer (some ⟨h, 0, none⟩)] (scT num den) nm sv ps w' hnm (hr.later hb) (by omega) (enters Try.func102 (by kernel_rfl) rfl)
    (fun k hk w'' hb'' => Scaled1_c k (rg ps k) num den g h w'' (below_cell hb'' c1) (below_cell hb'' c2) (all_at hal hk) m1 m2 m3 m4)
  generalize doneR nm (mapK (scT num den) ps ps.length) = RES at *
  have hsv : ∃ ao n cap, sv = .slice ao n cap := by obtain ⟨_, ao, cap, _, _, h, _⟩ := hr.open; exact ⟨_, _, _, h⟩
  obtain ⟨aos, ns, caps, rfl⟩ := hsv
  have HRS := Lib.hid hrs; clear hrs
  clear hr hal
  go_enter Try.func45, Try.ntmps45
  have b0 : Below w.heap.size w w := Below.refl _ _
  have z0 : w.heap.size ≤ w.heap.size := Nat.le_refl _
  go_wp2_with fail
  refine (HRS.out _ (by go_grown) (w.heap.size + 1) (w.heap.size + 1 + 1) (by simp [go_sem]) (by simp [go_sem])).mono ?_
  rintro _ w1 ⟨x1, rfl, n1, r1⟩
  have s1 : Below w.heap.size w w1 := Below.trans (by go_grown) (r1.mono (by simp; try omega))
  have b1 := b0.trans (s1.mono z0)
  have z1 := b1.size
  have y1 := s1.size
  have v1 : w.heap.size + 4 ≤ w1.heap.size := by have := r1.size; simp only [World.size_alloc] at this; omega
  have c0_0_1 := below_cell r1 (p := ⟨w.heap.size, 0, none⟩) (v := .string nm) (by simp [go_sem])
  have c0_1_1 := below_cell r1 (p := ⟨w.heap.size, 1, none⟩) (v := .slice aos ns caps) (by simp [go_sem])
  have c1_0_1 := below_cell r1 (p := ⟨w.heap.size + 1, 0, none⟩) (v := .int .i64 num) (by simp [go_sem])
  have c2_0_1 := below_cell r1 (p := ⟨w.heap.size + 1 + 1, 0, none⟩) (v := .int .i64 den) (by simp [go_sem])
  have c3_0_1 := below_cell r1 (p := ⟨w.heap.size + 1 + 1 + 1, 0, none⟩) (v := .string ⟨#[]⟩) (by simp [go_sem])
  have c3_1_1 := below_cell r1 (p := ⟨w.heap.size + 1 + 1 + 1, 1, none⟩) (v := .slice none 0 0) (by simp [go_sem])
  have f0_1 : ∀ j, w1.frozen? ⟨w.heap.size, j, none⟩ = false := fun j => (r1.frozen (p := ⟨w.heap.size, j, none⟩) (by simp [go_sem])).trans (by simp [go_sem])
  have f1_1 : ∀ j, w1.frozen? ⟨w.heap.size + 1, j, none⟩ = false := fun j => (r1.frozen (p := ⟨w.heap.size + 1, j, none⟩) (by simp [go_sem])).trans (by simp [go_sem])
  have f2_1 : ∀ j, w1.frozen? ⟨w.heap.size + 1 + 1, j, none⟩ = false := fun j => (r1.frozen (p := ⟨w.heap.size + 1 + 1, j, none⟩) (by simp [go_sem])).trans (by simp [go_sem])
  have f3_1 : ∀ j, w1.frozen? ⟨w.heap.size + 1 + 1 + 1, j, none⟩ = false := fun j => (r1.frozen (p := ⟨w.heap.size + 1 + 1 + 1, j, none⟩) (by simp [go_sem])).trans (by simp [go_sem])
  clear r1
  obtain ⟨a2, p2, rfl⟩ := own_shape n1
  have lo2 := own_lo n1
  go_wp2
  refine bodyPost_ret (v := .tuple #[.agg #[.string RES.1, .slice a2 RES.2.1.length p2], .int .i64 RES.2.2]) (by simp [results, Try.results45, go_sem, *]) rfl ?_
  have o11 := own_set n1 (a := ⟨w.heap.size + 1 + 1 + 1, 0, none⟩) (fun k hk => by have := lo2 k hk; simp at this ⊢; omega) (.string RES.1)
  have o12 := own_set o11 (a := ⟨w.heap.size + 1 + 1 + 1, 1, none⟩) (fun k hk => by have := lo2 k hk; simp at this ⊢; omega) (.slice a2 RES.2.1.length p2)
  exact ⟨_, rfl, own_base o12 (by simp; omega), (b1.setCell (show w.heap.size ≤ w.heap.size + 1 + 1 + 1 by omega) _).setCell (show w.heap.size ≤ w.heap.size + 1 + 1 + 1 by omega) _⟩

end Go.Proofs.Ytmeeibcbhjifbaa
