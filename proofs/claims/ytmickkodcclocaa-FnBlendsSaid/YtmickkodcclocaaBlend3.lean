/- A profile between two: the program. -/
import Derived.Test.YtmickkodcclocaaBlend
namespace Go.Proofs.Ytmickkodcclocaa
set_option linter.unusedVariables false
open Go.RowKit Go.Proofs.Bell Go.BigFrame

set_option maxHeartbeats 800000 in
theorem BlendMix_c (a b share : Int) (p : Nat) (w : World) (c : w.cell? ⟨p, 0, none⟩ = some (.int .i64 share)) (h1 : 0 ≤ a) (h2 : a ≤ 300000) (h3 : 0 ≤ b) (h4 : b ≤ 300000) (h5 : 0 ≤ share) (h6 : share ≤ 1000) :
    Calls Try.prog 159 #[.int .i64 a, .int .i64 b, .pointer (some ⟨p, 0, none⟩)] w (RetB (.int .i64 (btw a b share)) w) := by
  have hm := mixm_bd (x := b - a) (y := share) (by omega) (by omega) h5 h6
  have hd := fun w' => nearest_c ((b - a) * share) 1000 w' (by omega) (by omega) (by omega) (by omega)
  have hr := rnd_bd ((b - a) * share) 1000 (by omega) (by omega) (by omega)
  unfold btw
  have HD := Lib.hid hd; clear hd
  generalize rnd ((b - a) * share) 1000 = r at *
  have g1 : IntKind.i64.wrap (b - a) = b - a := IntWalk.i64_in _ (by omega)
  have g2 : IntKind.i64.wrap ((b - a) * share) = (b - a) * share := IntWalk.i64_in _ (by omega)
  have g3 : IntKind.i64.wrap (a + r) = a + r := IntWalk.i64_in _ (by omega)
  go_enter Try.func159, Try.ntmps159
  have b0 : Below w.heap.size w w := Below.refl _ _
  have z0 : w.heap.size ≤ w.heap.size := Nat.le_refl _
  go_wp2_with fail
  refine (HD.out _).mono ?_
  rintro _ w1 ⟨rfl, d1⟩
  have r1 := Dr.below d1; clear d1
  have s1 := r1
  have b1 := b0.trans (s1.mono z0)
  have z1 := b1.size
  have y1 := s1.size
  clear r1
  go_wp2
  go_returns
  exact RetB.mk (rfl) b1

set_option maxRecDepth 100000 in
set_option maxHeartbeats 3200000 in
theorem BlendRing_c (k : Nat) (r : Int × Int × Int) (share : Int) (sv' : Value) (qs : List (Int × Int × Int)) (g h p : Nat) (w : World) (cq : w.cell? ⟨g, 1, none⟩ = some sv') (cm : w.cell? ⟨h, 0, none⟩ = some (.func (.func 159) #[] #[.pointer (some ⟨p, 0, none⟩)])) (cs : w.cell? ⟨p, 0, none⟩ = some (.int .i64 share))
    (hr : Rd w sv' qs.length (trips qs)) (hk : k < qs.length) (hqa : qs.all ringT = true) (hra : ringT r = true) (h5 : 0 ≤ share) (h6 : share ≤ 1000) :
    Calls Try.prog 160 #[.int .i64 k, ringV r, .pointer (some ⟨g, 0, none⟩), .pointer (some ⟨h, 0, none⟩)] w (RetB (ringV (blT share qs k r)) w) := by
  have hring := ringT_t hra
  have hring2 := ringT_t (all_at hqa hk)
  obtain ⟨x0, x1, x2⟩ := r
  simp only [ringV, blT] at *
  have hcl : ∀ (args : Array Value) (w : World), (callFunc 159 args).run Try.prog w = .ok (.enter 159 args) w := enters Try.func159 (by kernel_rfl) rfl
  generalize hn : qs.length = n at hr
  have HN := Lib.hid hn; clear hn
  obtain ⟨hn2, ao, cap, bb, off, rfl, hao, hcell⟩ := hr.open
  clear hr
  have hlt : k < n := by rw [← HN.out]; exact hk
  have hix := ix (P := Try.prog) (T := 26) (cap := cap) Try.underlying26 cells_Ring has_Ring hao (k := k) hlt _ rfl
  have q0 : w.cell? ⟨bb, off + k * 3, none⟩ = some (.int .i64 (rg qs k).1) := by rw [rg_eq hk]; exact hcell _ (Below.refl _ _) _ _ (by omega) (trips_at hk).1
  have q1 : w.cell? ⟨bb, off + k * 3 + 1, none⟩ = some (.int .i64 (rg qs k).2.1) := by rw [rg_eq hk]; exact hcell _ (Below.refl _ _) _ _ (by omega) (trips_at hk).2.1
  have q2 : w.cell? ⟨bb, off + k * 3 + 2, none⟩ = some (.int .i64 (rg qs k).2.2) := by rw [rg_eq hk]; exact hcell _ (Below.refl _ _) _ _ (by omega) (trips_at hk).2.2
  clear hcell
  have k0 : 0 ≤ x0 ∧ x0 ≤ 300000 ∧ 0 ≤ (rg qs k).1 ∧ (rg qs k).1 ≤ 300000 := by omega
  have k1 : 0 ≤ x1 ∧ x1 ≤ 300000 ∧ 0 ≤ (rg qs k).2.1 ∧ (rg qs k).2.1 ≤ 300000 := by omega
  have k2 : 0 ≤ x2 ∧ x2 ≤ 300000 ∧ 0 ≤ (rg qs k).2.2 ∧ (rg qs k).2.2 ≤ 300000 := by omega
  generalize (rg qs k).1 = y0 at *
  generalize (rg qs k).2.1 = y1 at *
  generalize (rg qs k).2.2 = y2 at *
  have a0 := fun o o' => alloc_cell o' (alloc_cell o q0)
  have a1 := fun o o' => alloc_cell o' (alloc_cell o q1)
  have a2 := fun o o' => alloc_cell o' (alloc_cell o q2)
  have a3 := fun o o' => alloc_cell o' (alloc_cell o cq)
  have K0 := Lib.hid k0; clear k0
  have K1 := Lib.hid k1; clear k1
  have K2 := Lib.hid k2; clear k2
  go_enter Try.func160, Try.ntmps160
  go_wp2_with fail
  obtain ⟨W, hW⟩ : ∃ x, x = ((w.alloc (.cells #[.int .i64 x0, .int .i64 x1, .int .i64 x2] 80)).alloc (.cells #[.int .i64 0, .int .i64 0, .int .i64 0] 80)).alloc (.cells #[.int .i64 y0, .int .i64 y1, .int .i64 y2] 80) := ⟨_, rfl⟩
  rw [← hW]
  have kb : Below w.heap.size w W := by rw [hW]; go_grown
  have p0 : ∀ s : Lat W, s.world.cell? ⟨w.heap.size, 0, none⟩ = some (.int .i64 x0) := fun s => s.cell (by rw [hW]; simp [go_sem])
  have p1 : ∀ s : Lat W, s.world.cell? ⟨w.heap.size, 1, none⟩ = some (.int .i64 x1) := fun s => s.cell (by rw [hW]; simp [go_sem])
  have p2 : ∀ s : Lat W, s.world.cell? ⟨w.heap.size, 2, none⟩ = some (.int .i64 x2) := fun s => s.cell (by rw [hW]; simp [go_sem])
  have p3 : ∀ s : Lat W, s.world.cell? ⟨w.heap.size + 1 + 1, 0, none⟩ = some (.int .i64 y0) := fun s => s.cell (by rw [hW]; simp [go_sem])
  have p4 : ∀ s : Lat W, s.world.cell? ⟨w.heap.size + 1 + 1, 1, none⟩ = some (.int .i64 y1) := fun s => s.cell (by rw [hW]; simp [go_sem])
  have p5 : ∀ s : Lat W, s.world.cell? ⟨w.heap.size + 1 + 1, 2, none⟩ = some (.int .i64 y2) := fun s => s.cell (by rw [hW]; simp [go_sem])
  have p6 : ∀ s : Lat W, s.world.cell? ⟨h, 0, none⟩ = some (.func (.func 159) #[] #[.pointer (some ⟨p, 0, none⟩)]) := fun s => s.cell (below_cell kb cm)
  have v0 : ∀ s : Lat W, s.world.cell? ⟨w.heap.size + 1, 0, none⟩ = some (.int .i64 0) := fun s => s.cell (by rw [hW]; simp [go_sem])
  have v1 : ∀ s : Lat W, s.world.cell? ⟨w.heap.size + 1, 1, none⟩ = some (.int .i64 0) := fun s => s.cell (by rw [hW]; simp [go_sem])
  have v2 : ∀ s : Lat W, s.world.cell? ⟨w.heap.size + 1, 2, none⟩ = some (.int .i64 0) := fun s => s.cell (by rw [hW]; simp [go_sem])
  have vf : ∀ (s : Lat W) j, s.world.frozen? ⟨w.heap.size + 1, j, none⟩ = false := fun s j => (s.below.frozen (p := ⟨w.heap.size + 1, j, none⟩) (by rw [hW]; simp)).trans (by rw [hW]; simp [go_sem])
  have hbx : ∀ (a b : Int) (s : Lat W), (0 ≤ a ∧ a ≤ 300000 ∧ 0 ≤ b ∧ b ≤ 300000) → Calls Try.prog 159 #[.int .i64 a, .int .i64 b, .pointer (some ⟨p, 0, none⟩)] s.world (RetB (.int .i64 (btw a b share)) s.world) := fun a b s hh => BlendMix_c a b share p s.world (s.cell (below_cell kb cs)) hh.1 hh.2.1 hh.2.2.1 hh.2.2.2 h5 h6
  have HBX := Lib.hid hbx; clear hbx
  clear hW q0 q1 q2 a0 a1 a2 a3 cq cm cs hix hring hring2
  refine wp_region_lat_tail 19 (by kernel_rfl) (by kernel_rfl) ?_
  simp only [List.take_succ_cons, List.take_zero, List.drop_succ_cons, List.drop_zero]
  repeat (quiet_step ((go_at_call 159; exact Lat.callB (HBX.out _ _ _ (by first | exact K0.out | exact K1.out | exact K2.out)))))
  refine wpQuiet_nil ?_
  rintro _ ⟨s, rfl⟩
  have z0 := v0 s
  have z1 := v1 s
  have z2 := v2 s
  have zf := vf s
  have zb := kb.trans (s.below.mono kb.size)
  clear p0 p1 p2 p3 p4 p5 p6 v0 v1 v2 vf
  generalize s.world = Ws at *
  go_wp2
  refine bodyPost_ret (v := .agg #[.int .i64 (btw x0 y0 share), .int .i64 (btw x1 y1 share), .int .i64 (btw x2 y2 share)]) (by simp [results, Try.results160, go_sem, z0, z1, z2]) rfl ?_
  exact RetB.mk rfl (((zb.setCell (by simp) _).setCell (by simp) _).setCell (by simp) _)

set_option maxRecDepth 100000 in
set_option maxHeartbeats 3200000 in
theorem implBlendProfiles_c (nm : ByteArray) (sv : Value) (ps : List (Int × Int × Int)) (nm' : ByteArray) (sv' : Value) (qs : List (Int × Int × Int)) (share : Int) (w : World) (hnm : nm.size ≤ maxLen) (hnm' : nm'.size ≤ maxLen) (hr : Rd w sv ps.length (trips ps)) (hr' : Rd w sv' qs.length (trips qs)) :
    Calls Try.prog 77 #[.agg #[.string nm, sv], .agg #[.string nm', sv'], .int .i64 share] w (RetP2 (blendI nm ps nm' qs share).1 (blendI nm ps nm' qs share).2.1 (.int .i64 (blendI nm ps nm' qs share).2.2) w) := by
  have hok := fun w' (hb : Below w.heap.size w w') => ValidProfile_c nm sv ps w' hnm (hr.later hb)
  have hok' := fun w' (hb : Below w.heap.size w w') => ValidProfile_c nm' sv' qs w' hnm' (hr'.later hb)
  have hin := fun w' => within_c share 0 1000 w'
  have HOK := Lib.hid hok; clear hok
  have HOK' := Lib.hid hok'; clear hok'
  have HIN := Lib.hid hin; clear hin
  cases t1 : profB nm ps <;> rw [t1] at HOK
  · have he : blendI nm ps nm' qs share = (⟨#[]⟩, [], 1) := by simp [blendI, t1]
    rw [he]
    clear he hr hr'
    go_enter Try.func77, Try.ntmps77
    have b0 : Below w.heap.size w w := Below.refl _ _
    have z0 : w.heap.size ≤ w.heap.size := Nat.le_refl _
    go_wp2_with fail
    refine (HOK.out _ (by go_grown)).mono ?_
    rintro _ w1 ⟨rfl, r1⟩
    have s1 : Below w.heap.size w w1 := Below.trans (by go_grown) (r1.mono (by simp; try omega))
    have b1 := b0.trans (s1.mono z0)
    have z1 := b1.size
    have y1 := s1.size
    have v1 : w.heap.size + 4 ≤ w1.heap.size := by have := r1.size; simp only [World.size_alloc] at this; omega
    have c0_0_1 := below_cell r1 (p := ⟨w.heap.size, 0, none⟩) (v := .string nm) (by simp [go_sem])
    have c0_1_1 := below_cell r1 (p := ⟨w.heap.size, 1, none⟩) (v := sv) (by simp [go_sem])
    have c1_0_1 := below_cell r1 (p := ⟨w.heap.size + 1, 0, none⟩) (v := .string nm') (by simp [go_sem])
    have c1_1_1 := below_cell r1 (p := ⟨w.heap.size + 1, 1, none⟩) (v := sv') (by simp [go_sem])
    have c2_0_1 := below_cell r1 (p := ⟨w.heap.size + 1 + 1, 0, none⟩) (v := .int .i64 share) (by simp [go_sem])
    have c3_0_1 := below_cell r1 (p := ⟨w.heap.size + 1 + 1 + 1, 0, none⟩) (v := .string ⟨#[]⟩) (by simp [go_sem])
    have c3_1_1 := below_cell r1 (p := ⟨w.heap.size + 1 + 1 + 1, 1, none⟩) (v := .slice none 0 0) (by simp [go_sem])
    have f0_1 : ∀ j, w1.frozen? ⟨w.heap.size, j, none⟩ = false := fun j => (r1.frozen (p := ⟨w.heap.size, j, none⟩) (by simp [go_sem])).trans (by simp [go_sem])
    have f1_1 : ∀ j, w1.frozen? ⟨w.heap.size + 1, j, none⟩ = false := fun j => (r1.frozen (p := ⟨w.heap.size + 1, j, none⟩) (by simp [go_sem])).trans (by simp [go_sem])
    have f2_1 : ∀ j, w1.frozen? ⟨w.heap.size + 1 + 1, j, none⟩ = false := fun j => (r1.frozen (p := ⟨w.heap.size + 1 + 1, j, none⟩) (by simp [go_sem])).trans (by simp [go_sem])
    have f3_1 : ∀ j, w1.frozen? ⟨w.heap.size + 1 + 1 + 1, j, none⟩ = false := fun j => (r1.frozen (p := ⟨w.heap.size + 1 + 1 + 1, j, none⟩) (by simp [go_sem])).trans (by simp [go_sem])
    clear r1
    go_wp2
    refine bodyPost_ret (v := .tuple #[.agg #[.string ⟨#[]⟩, .slice none 0 0], .int .i64 1]) (by simp [results, Try.results77, go_sem, c3_0_1, c3_1_1]) rfl ?_
    exact RetP2.nil (Below.setCell (Below.setCell b1 (show w.heap.size ≤ w.heap.size + 1 + 1 + 1 by omega) _) (show w.heap.size ≤ w.heap.size + 1 + 1 + 1 by omega) _)
  · cases t2 : profB nm' qs <;> rw [t2] at HOK'
    · have he : blendI nm ps nm' qs share = (⟨#[]⟩, [], 1) := by simp [blendI, t1, t2]
      rw [he]
      clear he hr hr'
      go_enter Try.func77, Try.ntmps77
      have b0 : Below w.heap.size w w := Below.refl _ _
      have z0 : w.heap.size ≤ w.heap.size := Nat.le_refl _
      go_wp2_with fail
      refine (HOK.out _ (by go_grown)).mono ?_
      rintro _ w1 ⟨rfl, r1⟩
      have s1 : Below w.heap.size w w1 := Below.trans (by go_grown) (r1.mono (by simp; try omega))
      have b1 := b0.trans (s1.mono z0)
      have z1 := b1.size
      have y1 := s1.size
      have v1 : w.heap.size + 4 ≤ w1.heap.size := by have := r1.size; simp only [World.size_alloc] at this; omega
      have c0_0_1 := below_cell r1 (p := ⟨w.heap.size, 0, none⟩) (v := .string nm) (by simp [go_sem])
      have c0_1_1 := below_cell r1 (p := ⟨w.heap.size, 1, none⟩) (v := sv) (by simp [go_sem])
      have c1_0_1 := below_cell r1 (p := ⟨w.heap.size + 1, 0, none⟩) (v := .string nm') (by simp [go_sem])
      have c1_1_1 := below_cell r1 (p := ⟨w.heap.size + 1, 1, none⟩) (v := sv') (by simp [go_sem])
      have c2_0_1 := below_cell r1 (p := ⟨w.heap.size + 1 + 1, 0, none⟩) (v := .int .i64 share) (by simp [go_sem])
      have c3_0_1 := below_cell r1 (p := ⟨w.heap.size + 1 + 1 + 1, 0, none⟩) (v := .string ⟨#[]⟩) (by simp [go_sem])
      have c3_1_1 := below_cell r1 (p := ⟨w.heap.size + 1 + 1 + 1, 1, none⟩) (v := .slice none 0 0) (by simp [go_sem])
      have f0_1 : ∀ j, w1.frozen? ⟨w.heap.size, j, none⟩ = false := fun j => (r1.frozen (p := ⟨w.heap.size, j, none⟩) (by simp [go_sem])).trans (by simp [go_sem])
      have f1_1 : ∀ j, w1.frozen? ⟨w.heap.size + 1, j, none⟩ = false := fun j => (r1.frozen (p := ⟨w.heap.size + 1, j, none⟩) (by simp [go_sem])).trans (by simp [go_sem])
      have f2_1 : ∀ j, w1.frozen? ⟨w.heap.size + 1 + 1, j, none⟩ = false := fun j => (r1.frozen (p := ⟨w.heap.size + 1 + 1, j, none⟩) (by simp [go_sem])).trans (by simp [go_sem])
      have f3_1 : ∀ j, w1.frozen? ⟨w.heap.size + 1 + 1 + 1, j, none⟩ = false := fun j => (r1.frozen (p := ⟨w.heap.size + 1 + 1 + 1, j, none⟩) (by simp [go_sem])).trans (by simp [go_sem])
      clear r1
      go_wp2_with fail
      refine (HOK'.out _ b1).mono ?_
      rintro _ w2 ⟨rfl, r2⟩
      have s2 := r2
      have b2 := b1.trans (s2.mono z1)
      have z2 := b2.size
      have y2 := s2.size
      have k0_2 := c0_0_1
      have c0_0_2 := below_cell s2 c0_0_1; clear c0_0_1
      have c0_1_2 := below_cell s2 c0_1_1; clear c0_1_1
      have k1_2 := c1_0_1
      have c1_0_2 := below_cell s2 c1_0_1; clear c1_0_1
      have c1_1_2 := below_cell s2 c1_1_1; clear c1_1_1
      have k2_2 := c2_0_1
      have c2_0_2 := below_cell s2 c2_0_1; clear c2_0_1
      have k3_2 := c3_0_1
      have c3_0_2 := below_cell s2 c3_0_1; clear c3_0_1
      have c3_1_2 := below_cell s2 c3_1_1; clear c3_1_1
      have f0_2 : ∀ j, w2.frozen? ⟨w.heap.size, j, none⟩ = false := fun j => (s2.frozen (p := ⟨w.heap.size, j, none⟩) (show w.heap.size < _ from World.block_lt_of_cell? _ ⟨w.heap.size, 0, none⟩ k0_2)).trans (f0_1 j); clear f0_1
      have f1_2 : ∀ j, w2.frozen? ⟨w.heap.size + 1, j, none⟩ = false := fun j => (s2.frozen (p := ⟨w.heap.size + 1, j, none⟩) (show w.heap.size + 1 < _ from World.block_lt_of_cell? _ ⟨w.heap.size + 1, 0, none⟩ k1_2)).trans (f1_1 j); clear f1_1
      have f2_2 : ∀ j, w2.frozen? ⟨w.heap.size + 1 + 1, j, none⟩ = false := fun j => (s2.frozen (p := ⟨w.heap.size + 1 + 1, j, none⟩) (show w.heap.size + 1 + 1 < _ from World.block_lt_of_cell? _ ⟨w.heap.size + 1 + 1, 0, none⟩ k2_2)).trans (f2_1 j); clear f2_1
      have f3_2 : ∀ j, w2.frozen? ⟨w.heap.size + 1 + 1 + 1, j, none⟩ = false := fun j => (s2.frozen (p := ⟨w.heap.size + 1 + 1 + 1, j, none⟩) (show w.heap.size + 1 + 1 + 1 < _ from World.block_lt_of_cell? _ ⟨w.heap.size + 1 + 1 + 1, 0, none⟩ k3_2)).trans (f3_1 j); clear f3_1
      clear r2
      go_wp2
      refine bodyPost_ret (v := .tuple #[.agg #[.string ⟨#[]⟩, .slice none 0 0], .int .i64 1]) (by simp [results, Try.results77, go_sem, c3_0_2, c3_1_2]) rfl ?_
      exact RetP2.nil (Below.setCell (Below.setCell b2 (show w.heap.size ≤ w.heap.size + 1 + 1 + 1 by omega) _) (show w.heap.size ≤ w.heap.size + 1 + 1 + 1 by omega) _)
    · cases t3 : inB share 0 1000 <;> rw [t3] at HIN
      · have he : blendI nm ps nm' qs share = (⟨#[]⟩, [], 2) := by simp [blendI, t1, t2, t3]
        rw [he]
        clear he hr hr'
        go_enter Try.func77, Try.ntmps77
        have b0 : Below w.heap.size w w := Below.refl _ _
        have z0 : w.heap.size ≤ w.heap.size := Nat.le_refl _
        go_wp2_with fail
        refine (HOK.out _ (by go_grown)).mono ?_
        rintro _ w1 ⟨rfl, r1⟩
        have s1 : Below w.heap.size w w1 := Below.trans (by go_grown) (r1.mono (by simp; try omega))
        have b1 := b0.trans (s1.mono z0)
        have z1 := b1.size
        have y1 := s1.size
        have v1 : w.heap.size + 4 ≤ w1.heap.size := by have := r1.size; simp only [World.size_alloc] at this; omega
        have c0_0_1 := below_cell r1 (p := ⟨w.heap.size, 0, none⟩) (v := .string nm) (by simp [go_sem])
        have c0_1_1 := below_cell r1 (p := ⟨w.heap.size, 1, none⟩) (v := sv) (by simp [go_sem])
        have c1_0_1 := below_cell r1 (p := ⟨w.heap.size + 1, 0, none⟩) (v := .string nm') (by simp [go_sem])
        have c1_1_1 := below_cell r1 (p := ⟨w.heap.size + 1, 1, none⟩) (v := sv') (by simp [go_sem])
        have c2_0_1 := below_cell r1 (p := ⟨w.heap.size + 1 + 1, 0, none⟩) (v := .int .i64 share) (by simp [go_sem])
        have c3_0_1 := below_cell r1 (p := ⟨w.heap.size + 1 + 1 + 1, 0, none⟩) (v := .string ⟨#[]⟩) (by simp [go_sem])
        have c3_1_1 := below_cell r1 (p := ⟨w.heap.size + 1 + 1 + 1, 1, none⟩) (v := .slice none 0 0) (by simp [go_sem])
        have f0_1 : ∀ j, w1.frozen? ⟨w.heap.size, j, none⟩ = false := fun j => (r1.frozen (p := ⟨w.heap.size, j, none⟩) (by simp [go_sem])).trans (by simp [go_sem])
        have f1_1 : ∀ j, w1.frozen? ⟨w.heap.size + 1, j, none⟩ = false := fun j => (r1.frozen (p := ⟨w.heap.size + 1, j, none⟩) (by simp [go_sem])).trans (by simp [go_sem])
        have f2_1 : ∀ j, w1.frozen? ⟨w.heap.size + 1 + 1, j, none⟩ = false := fun j => (r1.frozen (p := ⟨w.heap.size + 1 + 1, j, none⟩) (by simp [go_sem])).trans (by simp [go_sem])
        have f3_1 : ∀ j, w1.frozen? ⟨w.heap.size + 1 + 1 + 1, j, none⟩ = false := fun j => (r1.frozen (p := ⟨w.heap.size + 1 + 1 + 1, j, none⟩) (by simp [go_sem])).trans (by simp [go_sem])
        clear r1
        go_wp2_with fail
        refine (HOK'.out _ b1).mono ?_
        rintro _ w2 ⟨rfl, r2⟩
        have s2 := r2
        have b2 := b1.trans (s2.mono z1)
        have z2 := b2.size
        have y2 := s2.size
        have k0_2 := c0_0_1
        have c0_0_2 := below_cell s2 c0_0_1; clear c0_0_1
        have c0_1_2 := below_cell s2 c0_1_1; clear c0_1_1
        have k1_2 := c1_0_1
        have c1_0_2 := below_cell s2 c1_0_1; clear c1_0_1
        have c1_1_2 := below_cell s2 c1_1_1; clear c1_1_1
        have k2_2 := c2_0_1
        have c2_0_2 := below_cell s2 c2_0_1; clear c2_0_1
        have k3_2 := c3_0_1
        have c3_0_2 := below_cell s2 c3_0_1; clear c3_0_1
        have c3_1_2 := below_cell s2 c3_1_1; clear c3_1_1
        have f0_2 : ∀ j, w2.frozen? ⟨w.heap.size, j, none⟩ = false := fun j => (s2.frozen (p := ⟨w.heap.size, j, none⟩) (show w.heap.size < _ from World.block_lt_of_cell? _ ⟨w.heap.size, 0, none⟩ k0_2)).trans (f0_1 j); clear f0_1
        have f1_2 : ∀ j, w2.frozen? ⟨w.heap.size + 1, j, none⟩ = false := fun j => (s2.frozen (p := ⟨w.heap.size + 1, j, none⟩) (show w.heap.size + 1 < _ from World.block_lt_of_cell? _ ⟨w.heap.size + 1, 0, none⟩ k1_2)).trans (f1_1 j); clear f1_1
        have f2_2 : ∀ j, w2.frozen? ⟨w.heap.size + 1 + 1, j, none⟩ = false := fun j => (s2.frozen (p := ⟨w.heap.size + 1 + 1, j, none⟩) (show w.heap.size + 1 + 1 < _ from World.block_lt_of_cell? _ ⟨w.heap.size + 1 + 1, 0, none⟩ k2_2)).trans (f2_1 j); clear f2_1
        have f3_2 : ∀ j, w2.frozen? ⟨w.heap.size + 1 + 1 + 1, j, none⟩ = false := fun j => (s2.frozen (p := ⟨w.heap.size + 1 + 1 + 1, j, none⟩) (show w.heap.size + 1 + 1 + 1 < _ from World.block_lt_of_cell? _ ⟨w.heap.size + 1 + 1 + 1, 0, none⟩ k3_2)).trans (f3_1 j); clear f3_1
        clear r2
        go_wp2_with fail
        refine (HIN.out _).mono ?_
        rintro _ _ ⟨rfl, rfl⟩
        go_wp2
        refine bodyPost_ret (v := .tuple #[.agg #[.string ⟨#[]⟩, .slice none 0 0], .int .i64 2]) (by simp [results, Try.results77, go_sem, c3_0_2, c3_1_2]) rfl ?_
        exact RetP2.nil (Below.setCell (Below.setCell b2 (show w.heap.size ≤ w.heap.size + 1 + 1 + 1 by omega) _) (show w.heap.size ≤ w.heap.size + 1 + 1 + 1 by omega) _)
      · by_cases t4 : ps.length = qs.length
        · have he : blendI nm ps nm' qs share = doneR nm (mapK (blT share qs) ps ps.length) := by simp [blendI, t1, t2, t3, t4]
          rw [he]
          obtain ⟨s1', s2'⟩ := inB_t t3
          obtain ⟨hl1, hl2, hal, hht⟩ := profB_t t1
          obtain ⟨_, _, hqa, _⟩ := profB_t t2
          have hrs := fun w' (hb : Below w.heap.size w w') (g h p : Nat) (c1 : w'.cell? ⟨g, 1, none⟩ = some sv') (c2 : w'.cell? ⟨h, 0, none⟩ = some (.func (.func 159) #[] #[.pointer (some ⟨p, 0, none⟩)])) (c3 : w'.cell? ⟨p, 0, none⟩ = some (.int .i64 share)) => reshaped_c 160 #[.pointer (some ⟨g, 0, none⟩), .pointer (some ⟨h, 0, none⟩)] (blT share qs) nm sv ps w' hnm (hr.later hb) (by omega) (enters Try.func160 (by kernel_rfl) rfl)
            (fun k hk w'' hb'' => BlendRing_c k (rg ps k) share sv' qs g h p w'' (below_cell hb'' c1) (below_cell hb'' c2) (below_cell hb'' c3) ((hr'.later hb).later hb'') (by omega) hqa (all_at hal hk) s1' s2')
          generalize doneR nm (mapK (blT share qs) ps ps.length) = RES at *
          obtain ⟨hn0, ao0, cap0, b0', off0, rfl, hao0, hcell0⟩ := hr.open
          obtain ⟨hn1, ao1, cap1, b1', off1, rfl, hao1, hcell1⟩ := hr'.open
          have HRS := Lib.hid hrs; clear hrs
          clear he hr hr' hcell0 hcell1 hao0 hao1 hal hqa hht t1 t2 t3
          have t5 : (ps.length : Int) = qs.length := by omega
          generalize ps.length = n at *
          generalize qs.length = m at *
          subst t4
          clear t5
          go_enter Try.func77, Try.ntmps77
          have b0 : Below w.heap.size w w := Below.refl _ _
          have z0 : w.heap.size ≤ w.heap.size := Nat.le_refl _
          go_wp2_with fail
          refine (HOK.out _ (by go_grown)).mono ?_
          rintro _ w1 ⟨rfl, r1⟩
          have s1 : Below w.heap.size w w1 := Below.trans (by go_grown) (r1.mono (by simp; try omega))
          have b1 := b0.trans (s1.mono z0)
          have z1 := b1.size
          have y1 := s1.size
          have v1 : w.heap.size + 4 ≤ w1.heap.size := by have := r1.size; simp only [World.size_alloc] at this; omega
          have c0_0_1 := below_cell r1 (p := ⟨w.heap.size, 0, none⟩) (v := .string nm) (by simp [go_sem])
          have c0_1_1 := below_cell r1 (p := ⟨w.heap.size, 1, none⟩) (v := .slice ao0 n cap0) (by simp [go_sem])
          have c1_0_1 := below_cell r1 (p := ⟨w.heap.size + 1, 0, none⟩) (v := .string nm') (by simp [go_sem])
          have c1_1_1 := below_cell r1 (p := ⟨w.heap.size + 1, 1, none⟩) (v := .slice ao1 n cap1) (by simp [go_sem])
          have c2_0_1 := below_cell r1 (p := ⟨w.heap.size + 1 + 1, 0, none⟩) (v := .int .i64 share) (by simp [go_sem])
          have c3_0_1 := below_cell r1 (p := ⟨w.heap.size + 1 + 1 + 1, 0, none⟩) (v := .string ⟨#[]⟩) (by simp [go_sem])
          have c3_1_1 := below_cell r1 (p := ⟨w.heap.size + 1 + 1 + 1, 1, none⟩) (v := .slice none 0 0) (by simp [go_sem])
          have f0_1 : ∀ j, w1.frozen? ⟨w.heap.size, j, none⟩ = false := fun j => (r1.frozen (p := ⟨w.heap.size, j, none⟩) (by simp [go_sem])).trans (by simp [go_sem])
          have f1_1 : ∀ j, w1.frozen? ⟨w.heap.size + 1, j, none⟩ = false := fun j => (r1.frozen (p := ⟨w.heap.size + 1, j, none⟩) (by simp [go_sem])).trans (by simp [go_sem])
          have f2_1 : ∀ j, w1.frozen? ⟨w.heap.size + 1 + 1, j, none⟩ = false := fun j => (r1.frozen (p := ⟨w.heap.size + 1 + 1, j, none⟩) (by simp [go_sem])).trans (by simp [go_sem])
          have f3_1 : ∀ j, w1.frozen? ⟨w.heap.size + 1 + 1 + 1, j, none⟩ = false := fun j => (r1.frozen (p := ⟨w.heap.size + 1 + 1 + 1, j, none⟩) (by simp [go_sem])).trans (by simp [go_sem])
          clear r1
          go_wp2_with fail
          refine (HOK'.out _ b1).mono ?_
          rintro _ w2 ⟨rfl, r2⟩
          have s2 := r2
          have b2 := b1.trans (s2.mono z1)
          have z2 := b2.size
          have y2 := s2.size
          have k0_2 := c0_0_1
          have c0_0_2 := below_cell s2 c0_0_1; clear c0_0_1
          have c0_1_2 := below_cell s2 c0_1_1; clear c0_1_1
          have k1_2 := c1_0_1
          have c1_0_2 := below_cell s2 c1_0_1; clear c1_0_1
          have c1_1_2 := below_cell s2 c1_1_1; clear c1_1_1
          have k2_2 := c2_0_1
          have c2_0_2 := below_cell s2 c2_0_1; clear c2_0_1
          have k3_2 := c3_0_1
          have c3_0_2 := below_cell s2 c3_0_1; clear c3_0_1
          have c3_1_2 := below_cell s2 c3_1_1; clear c3_1_1
          have f0_2 : ∀ j, w2.frozen? ⟨w.heap.size, j, none⟩ = false := fun j => (s2.frozen (p := ⟨w.heap.size, j, none⟩) (show w.heap.size < _ from World.block_lt_of_cell? _ ⟨w.heap.size, 0, none⟩ k0_2)).trans (f0_1 j); clear f0_1
          have f1_2 : ∀ j, w2.frozen? ⟨w.heap.size + 1, j, none⟩ = false := fun j => (s2.frozen (p := ⟨w.heap.size + 1, j, none⟩) (show w.heap.size + 1 < _ from World.block_lt_of_cell? _ ⟨w.heap.size + 1, 0, none⟩ k1_2)).trans (f1_1 j); clear f1_1
          have f2_2 : ∀ j, w2.frozen? ⟨w.heap.size + 1 + 1, j, none⟩ = false := fun j => (s2.frozen (p := ⟨w.heap.size + 1 + 1, j, none⟩) (show w.heap.size + 1 + 1 < _ from World.block_lt_of_cell? _ ⟨w.heap.size + 1 + 1, 0, none⟩ k2_2)).trans (f2_1 j); clear f2_1
          have f3_2 : ∀ j, w2.frozen? ⟨w.heap.size + 1 + 1 + 1, j, none⟩ = false := fun j => (s2.frozen (p := ⟨w.heap.size + 1 + 1 + 1, j, none⟩) (show w.heap.size + 1 + 1 + 1 < _ from World.block_lt_of_cell? _ ⟨w.heap.size + 1 + 1 + 1, 0, none⟩ k3_2)).trans (f3_1 j); clear f3_1
          clear r2
          go_wp2_with fail
          refine (HIN.out _).mono ?_
          rintro _ _ ⟨rfl, rfl⟩
          have zz : w.heap.size + 1 + 1 + 1 < w2.heap.size := World.block_lt_of_cell? _ ⟨w.heap.size + 1 + 1 + 1, 0, none⟩ c3_0_2
          have hsf := fun (f : Fn) (r c : Array Value) (w' : World) (a : Addr) m => run_store Try.prog w' a (.func f r c) m rfl
          have c8 : ∀ t, (w2.alloc (.cells #[.nilFunc] t)).cell? ⟨w2.heap.size, 0, none⟩ = some .nilFunc := fun t => by simp [go_sem]
          have f8 : ∀ t, (w2.alloc (.cells #[.nilFunc] t)).frozen? ⟨w2.heap.size, 0, none⟩ = false := fun t => by simp [go_sem]
          have e5 := fun o => alloc_cell o c0_0_2
          have e6 := fun o => alloc_cell o c0_1_2
          have e1 := fun o => alloc_cell o c1_1_2
          have e2 := fun o => alloc_cell o c2_0_2
          have e3 : ∀ t, (w2.alloc (.cells #[.func (.func 159) #[] #[.pointer (some ⟨w.heap.size + 1 + 1, 0, none⟩)]] t)).cell? ⟨w2.heap.size, 0, none⟩ = some (.func (.func 159) #[] #[.pointer (some ⟨w.heap.size + 1 + 1, 0, none⟩)]) := fun t => by simp [go_sem]
          go_wp2_with fail
          refine (HRS.out _ (b2.alloc z2 _) (w.heap.size + 1) w2.heap.size (w.heap.size + 1 + 1) (e1 _) (e3 _) (e2 _)).mono ?_
          rintro _ w3 ⟨x3, rfl, n3, r3⟩
          have s3 : Below w2.heap.size w2 w3 := Below.trans (by go_grown) (r3.mono (by simp; try omega))
          have b3 := b2.trans (s3.mono z2)
          have z3 := b3.size
          have y3 := s3.size
          have k0_3 := c0_0_2
          have c0_0_3 := below_cell s3 c0_0_2; clear c0_0_2
          have c0_1_3 := below_cell s3 c0_1_2; clear c0_1_2
          have k1_3 := c1_0_2
          have c1_0_3 := below_cell s3 c1_0_2; clear c1_0_2
          have c1_1_3 := below_cell s3 c1_1_2; clear c1_1_2
          have k2_3 := c2_0_2
          have c2_0_3 := below_cell s3 c2_0_2; clear c2_0_2
          have k3_3 := c3_0_2
          have c3_0_3 := below_cell s3 c3_0_2; clear c3_0_2
          have c3_1_3 := below_cell s3 c3_1_2; clear c3_1_2
          have c4_0_3 := below_cell r3 (p := ⟨w2.heap.size, 0, none⟩) (v := .func (.func 159) #[] #[.pointer (some ⟨w.heap.size + 1 + 1, 0, none⟩)]) (by simp [go_sem])
          have f0_3 : ∀ j, w3.frozen? ⟨w.heap.size, j, none⟩ = false := fun j => (s3.frozen (p := ⟨w.heap.size, j, none⟩) (show w.heap.size < _ from World.block_lt_of_cell? _ ⟨w.heap.size, 0, none⟩ k0_3)).trans (f0_2 j); clear f0_2
          have f1_3 : ∀ j, w3.frozen? ⟨w.heap.size + 1, j, none⟩ = false := fun j => (s3.frozen (p := ⟨w.heap.size + 1, j, none⟩) (show w.heap.size + 1 < _ from World.block_lt_of_cell? _ ⟨w.heap.size + 1, 0, none⟩ k1_3)).trans (f1_2 j); clear f1_2
          have f2_3 : ∀ j, w3.frozen? ⟨w.heap.size + 1 + 1, j, none⟩ = false := fun j => (s3.frozen (p := ⟨w.heap.size + 1 + 1, j, none⟩) (show w.heap.size + 1 + 1 < _ from World.block_lt_of_cell? _ ⟨w.heap.size + 1 + 1, 0, none⟩ k2_3)).trans (f2_2 j); clear f2_2
          have f3_3 : ∀ j, w3.frozen? ⟨w.heap.size + 1 + 1 + 1, j, none⟩ = false := fun j => (s3.frozen (p := ⟨w.heap.size + 1 + 1 + 1, j, none⟩) (show w.heap.size + 1 + 1 + 1 < _ from World.block_lt_of_cell? _ ⟨w.heap.size + 1 + 1 + 1, 0, none⟩ k3_3)).trans (f3_2 j); clear f3_2
          clear r3
          obtain ⟨a2, p2, rfl⟩ := own_shape n3
          have lo2 := own_lo n3
          clear e1 e2 e3 hsf c8 f8 e5 e6
          have lo3 : ∀ k, (Value.slice a2 RES.2.1.length p2).ownBlock = some k → w2.heap.size ≤ k := fun k hk => by have := lo2 k hk; simp at this; omega
          go_wp2
          refine bodyPost_ret (v := .tuple #[.agg #[.string RES.1, .slice a2 RES.2.1.length p2], .int .i64 RES.2.2]) (by simp [results, Try.results77, go_sem, *]) rfl ?_
          have o11 := own_set n3 (a := ⟨w.heap.size + 1 + 1 + 1, 0, none⟩) (fun k hk => by have := lo3 k hk; simp; omega) (.string RES.1)
          have o12 := own_set o11 (a := ⟨w.heap.size + 1 + 1 + 1, 1, none⟩) (fun k hk => by have := lo3 k hk; simp; omega) (.slice a2 RES.2.1.length p2)
          exact ⟨_, rfl, own_base o12 (by simp; omega), (b3.setCell (show w.heap.size ≤ w.heap.size + 1 + 1 + 1 by omega) _).setCell (show w.heap.size ≤ w.heap.size + 1 + 1 + 1 by omega) _⟩
        · have he : blendI nm ps nm' qs share = (⟨#[]⟩, [], 7) := by simp [blendI, t1, t2, t3, t4]
          rw [he]
          have t5 : ¬ (ps.length : Int) = qs.length := by omega
          obtain ⟨hn0, ao0, cap0, b0', off0, rfl, hao0, hcell0⟩ := hr.open
          obtain ⟨hn1, ao1, cap1, b1', off1, rfl, hao1, hcell1⟩ := hr'.open
          clear he hr hr' hcell0 hcell1 hao0 hao1
          generalize ps.length = n at *
          generalize qs.length = m at *
          go_enter Try.func77, Try.ntmps77
          have b0 : Below w.heap.size w w := Below.refl _ _
          have z0 : w.heap.size ≤ w.heap.size := Nat.le_refl _
          go_wp2_with fail
          refine (HOK.out _ (by go_grown)).mono ?_
          rintro _ w1 ⟨rfl, r1⟩
          have s1 : Below w.heap.size w w1 := Below.trans (by go_grown) (r1.mono (by simp; try omega))
          have b1 := b0.trans (s1.mono z0)
          have z1 := b1.size
          have y1 := s1.size
          have v1 : w.heap.size + 4 ≤ w1.heap.size := by have := r1.size; simp only [World.size_alloc] at this; omega
          have c0_0_1 := below_cell r1 (p := ⟨w.heap.size, 0, none⟩) (v := .string nm) (by simp [go_sem])
          have c0_1_1 := below_cell r1 (p := ⟨w.heap.size, 1, none⟩) (v := .slice ao0 n cap0) (by simp [go_sem])
          have c1_0_1 := below_cell r1 (p := ⟨w.heap.size + 1, 0, none⟩) (v := .string nm') (by simp [go_sem])
          have c1_1_1 := below_cell r1 (p := ⟨w.heap.size + 1, 1, none⟩) (v := .slice ao1 m cap1) (by simp [go_sem])
          have c2_0_1 := below_cell r1 (p := ⟨w.heap.size + 1 + 1, 0, none⟩) (v := .int .i64 share) (by simp [go_sem])
          have c3_0_1 := below_cell r1 (p := ⟨w.heap.size + 1 + 1 + 1, 0, none⟩) (v := .string ⟨#[]⟩) (by simp [go_sem])
          have c3_1_1 := below_cell r1 (p := ⟨w.heap.size + 1 + 1 + 1, 1, none⟩) (v := .slice none 0 0) (by simp [go_sem])
          have f0_1 : ∀ j, w1.frozen? ⟨w.heap.size, j, none⟩ = false := fun j => (r1.frozen (p := ⟨w.heap.size, j, none⟩) (by simp [go_sem])).trans (by simp [go_sem])
          have f1_1 : ∀ j, w1.frozen? ⟨w.heap.size + 1, j, none⟩ = false := fun j => (r1.frozen (p := ⟨w.heap.size + 1, j, none⟩) (by simp [go_sem])).trans (by simp [go_sem])
          have f2_1 : ∀ j, w1.frozen? ⟨w.heap.size + 1 + 1, j, none⟩ = false := fun j => (r1.frozen (p := ⟨w.heap.size + 1 + 1, j, none⟩) (by simp [go_sem])).trans (by simp [go_sem])
          have f3_1 : ∀ j, w1.frozen? ⟨w.heap.size + 1 + 1 + 1, j, none⟩ = false := fun j => (r1.frozen (p := ⟨w.heap.size + 1 + 1 + 1, j, none⟩) (by simp [go_sem])).trans (by simp [go_sem])
          clear r1
          go_wp2_with fail
          refine (HOK'.out _ b1).mono ?_
          rintro _ w2 ⟨rfl, r2⟩
          have s2 := r2
          have b2 := b1.trans (s2.mono z1)
          have z2 := b2.size
          have y2 := s2.size
          have k0_2 := c0_0_1
          have c0_0_2 := below_cell s2 c0_0_1; clear c0_0_1
          have c0_1_2 := below_cell s2 c0_1_1; clear c0_1_1
          have k1_2 := c1_0_1
          have c1_0_2 := below_cell s2 c1_0_1; clear c1_0_1
          have c1_1_2 := below_cell s2 c1_1_1; clear c1_1_1
          have k2_2 := c2_0_1
          have c2_0_2 := below_cell s2 c2_0_1; clear c2_0_1
          have k3_2 := c3_0_1
          have c3_0_2 := below_cell s2 c3_0_1; clear c3_0_1
          have c3_1_2 := below_cell s2 c3_1_1; clear c3_1_1
          have f0_2 : ∀ j, w2.frozen? ⟨w.heap.size, j, none⟩ = false := fun j => (s2.frozen (p := ⟨w.heap.size, j, none⟩) (show w.heap.size < _ from World.block_lt_of_cell? _ ⟨w.heap.size, 0, none⟩ k0_2)).trans (f0_1 j); clear f0_1
          have f1_2 : ∀ j, w2.frozen? ⟨w.heap.size + 1, j, none⟩ = false := fun j => (s2.frozen (p := ⟨w.heap.size + 1, j, none⟩) (show w.heap.size + 1 < _ from World.block_lt_of_cell? _ ⟨w.heap.size + 1, 0, none⟩ k1_2)).trans (f1_1 j); clear f1_1
          have f2_2 : ∀ j, w2.frozen? ⟨w.heap.size + 1 + 1, j, none⟩ = false := fun j => (s2.frozen (p := ⟨w.heap.size + 1 + 1, j, none⟩) (show w.heap.size + 1 + 1 < _ from World.block_lt_of_cell? _ ⟨w.heap.size + 1 + 1, 0, none⟩ k2_2)).trans (f2_1 j); clear f2_1
          have f3_2 : ∀ j, w2.frozen? ⟨w.heap.size + 1 + 1 + 1, j, none⟩ = false := fun j => (s2.frozen (p := ⟨w.heap.size + 1 + 1 + 1, j, none⟩) (show w.heap.size + 1 + 1 + 1 < _ from World.block_lt_of_cell? _ ⟨w.heap.size + 1 + 1 + 1, 0, none⟩ k3_2)).trans (f3_1 j); clear f3_1
          clear r2
          go_wp2_with fail
          refine (HIN.out _).mono ?_
          rintro _ _ ⟨rfl, rfl⟩
          go_wp2
          refine bodyPost_ret (v := .tuple #[.agg #[.string ⟨#[]⟩, .slice none 0 0], .int .i64 7]) (by simp [results, Try.results77, go_sem, c3_0_2, c3_1_2]) rfl ?_
          exact RetP2.nil (Below.setCell (Below.setCell b2 (show w.heap.size ≤ w.heap.size + 1 + 1 + 1 by omega) _) (show w.heap.size ≤ w.heap.size + 1 + 1 + 1 by omega) _)

end Go.Proofs.Ytmickkodcclocaa
