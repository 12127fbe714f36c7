/- A profile between two: the reference. -/
import Derived.Test.YtddkjcdnomoglaaBld
import Derived.BigQuiet
namespace Go.Proofs.Ytddkjcdnomoglaa
set_option linter.unusedVariables false
open Go.RowKit Go.Proofs.Bell Go.BigFrame

def btw (a b share : Int) : Int := a + rnd ((b - a) * share) 1000
def blT (share : Int) (qs : List (Int × Int × Int)) (k : Nat) (r : Int × Int × Int) : Int × Int × Int := (btw r.1 (rg qs k).1 share, btw r.2.1 (rg qs k).2.1 share, btw r.2.2 (rg qs k).2.2 share)
def blendI (nm : ByteArray) (ps : List (Int × Int × Int)) (nm' : ByteArray) (qs : List (Int × Int × Int)) (share : Int) : ByteArray × List (Int × Int × Int) × Int :=
  if profB nm ps && profB nm' qs then (if inB share 0 1000 then (if ps.length = qs.length then doneR nm (mapK (blT share qs) ps ps.length) else (⟨#[]⟩, [], 7)) else (⟨#[]⟩, [], 2)) else (⟨#[]⟩, [], 1)
theorem blendI_len (nm : ByteArray) (ps : List (Int × Int × Int)) (nm' : ByteArray) (qs : List (Int × Int × Int)) (share : Int) : (blendI nm ps nm' qs share).2.1.length ≤ 32 := by
  unfold blendI
  split
  · split
    · split
      · exact doneR_len _ _
      · simp
    · simp
  · simp
theorem mixm_bd {x y : Int} (h1 : -300000 ≤ x) (h2 : x ≤ 300000) (h3 : 0 ≤ y) (h4 : y ≤ 1000) : -300000000 ≤ x * y ∧ x * y ≤ 300000000 := by
  have a := Int.mul_le_mul_of_nonneg_right h2 h3
  have b := Int.mul_le_mul_of_nonneg_right h1 h3
  omega

set_option maxHeartbeats 800000 in
theorem l07Between_c (a b share : Int) (w : World) (h1 : 0 ≤ a) (h2 : a ≤ 300000) (h3 : 0 ≤ b) (h4 : b ≤ 300000) (h5 : 0 ≤ share) (h6 : share ≤ 1000) :
    Calls Try.prog 82 #[.int .i64 a, .int .i64 b, .int .i64 share] w (RetS (.int .i64 (btw a b share)) w) := by
  have hm := mixm_bd (x := b - a) (y := share) (by omega) (by omega) h5 h6
  have hd := fun w' => l01Div_c ((b - a) * share) 1000 w' (by omega) (by omega) (by omega) (by omega)
  have hr := rnd_bd ((b - a) * share) 1000 (by omega) (by omega) (by omega)
  unfold btw
  have HD := Lib.hid hd; clear hd
  generalize rnd ((b - a) * share) 1000 = r at *
  have g1 : IntKind.i64.wrap (b - a) = b - a := IntWalk.i64_in _ (by omega)
  have g2 : IntKind.i64.wrap ((b - a) * share) = (b - a) * share := IntWalk.i64_in _ (by omega)
  have g3 : IntKind.i64.wrap (a + r) = a + r := IntWalk.i64_in _ (by omega)
  go_enter Try.func82, Try.ntmps82
  go_wp2_with fail
  refine (HD.out _).mono ?_
  rintro _ _ ⟨rfl, rfl⟩
  go_wp2
  go_returns
  exact RetS.mk rfl

set_option maxRecDepth 100000 in
set_option maxHeartbeats 6400000 in
theorem specBlend_c (nm : ByteArray) (sv : Value) (ps : List (Int × Int × Int)) (nm' : ByteArray) (sv' : Value) (qs : List (Int × Int × Int)) (share : Int) (w : World) (hnm : nm.size ≤ maxLen) (hnm' : nm'.size ≤ maxLen) (hr : Rd w sv ps.length (trips ps)) (hr' : Rd w sv' qs.length (trips qs)) (t1 : profB nm ps = true) (t2 : profB nm' qs = true) (t3 : inB share 0 1000 = true) (hlen : ps.length = qs.length) :
    Calls Try.prog 32 #[.agg #[.string nm, sv], .agg #[.string nm', sv'], .int .i64 share] w (RetP2 (doneR nm (mapK (blT share qs) ps ps.length)).1 (doneR nm (mapK (blT share qs) ps ps.length)).2.1 (.int .i64 (doneR nm (mapK (blT share qs) ps ps.length)).2.2) w) := by
  have hok := fun w' g hg c0 c1 (hb : Below w.heap.size w w') => l05Ok_c g nm sv ps w' hg hnm c0 c1 (hr.later hb)
  have hok' := fun w' g hg c0 c1 (hb : Below w.heap.size w w') => l05Ok_c g nm' sv' qs w' hg hnm' c0 c1 (hr'.later hb)
  have hin := fun w' => l00In_c share 0 1000 w'
  rw [t1] at hok
  rw [t2] at hok'
  rw [t3] at hin
  obtain ⟨sh1, sh2⟩ := inB_t t3
  obtain ⟨hl1, hl2, hal, hht⟩ := profB_t t1
  obtain ⟨_, _, hqa, _⟩ := profB_t t2
  have hln := mapK_len (blT share qs) ps
  have hdone := fun base w' v (ho : OwnR base w' v (mapK (blT share qs) ps ps.length)) => l07Done_c base nm v _ w' hnm ho
  generalize doneR nm (mapK (blT share qs) ps ps.length) = RES at *
  have HOK := Lib.hid hok; clear hok
  have HOK' := Lib.hid hok'; clear hok'
  have HIN := Lib.hid hin; clear hin
  have HLN := Lib.hid hln; clear hln
  have HDONE := Lib.hid hdone; clear hdone
  have HAL := Lib.hid hal; clear hal
  have HQA := Lib.hid hqa; clear hqa
  have HLEN := Lib.hid hlen; clear hlen
  clear t1 t2 t3 hht
  generalize hnq : qs.length = m at hr'
  have HNQ := Lib.hid hnq; clear hnq
  obtain ⟨hn1, ao1, cap1, bb1, off1, rfl, hao1, hcell1⟩ := hr'.open
  clear hr'
  generalize hn : ps.length = n at *
  have HN := Lib.hid hn; clear hn
  obtain ⟨hn, ao, cap, bb, off, rfl, hao, hcell⟩ := hr.open
  clear hr
  have hmn : n = m := by have h1 := HNQ.out; have h2 := HN.out; have h3 := HLEN.out; omega
  subst hmn
  go_enter Try.func32, Try.ntmps32
  have b0 : Below w.heap.size w w := Below.refl _ _
  have z0 : w.heap.size ≤ w.heap.size := Nat.le_refl _
  go_wp2_with fail
  refine (HOK.out _ _ (by simp; try omega) (by simp [go_sem]) (by simp [go_sem]) (by go_grown)).mono ?_
  rintro _ w1 ⟨rfl, d1⟩
  have r1 := Dr.below d1; clear d1
  have s1 : Below w.heap.size w w1 := Below.trans (by go_grown) (r1.mono (by simp; try omega))
  have b1 := b0.trans (s1.mono z0)
  have z1 := b1.size
  have y1 := s1.size
  have v1 : w.heap.size + 3 ≤ w1.heap.size := by have := r1.size; simp only [World.size_alloc] at this; omega
  have c0_0_1 := below_cell r1 (p := ⟨w.heap.size, 0, none⟩) (v := .string nm) (by simp [go_sem])
  have c0_1_1 := below_cell r1 (p := ⟨w.heap.size, 1, none⟩) (v := .slice ao n cap) (by simp [go_sem])
  have c1_0_1 := below_cell r1 (p := ⟨w.heap.size + 1, 0, none⟩) (v := .string nm') (by simp [go_sem])
  have c1_1_1 := below_cell r1 (p := ⟨w.heap.size + 1, 1, none⟩) (v := .slice ao1 n cap1) (by simp [go_sem])
  have c2_0_1 := below_cell r1 (p := ⟨w.heap.size + 1 + 1, 0, none⟩) (v := .string ⟨#[]⟩) (by simp [go_sem])
  have c2_1_1 := below_cell r1 (p := ⟨w.heap.size + 1 + 1, 1, none⟩) (v := .slice none 0 0) (by simp [go_sem])
  have f0_1 : ∀ j, w1.frozen? ⟨w.heap.size, j, none⟩ = false := fun j => (r1.frozen (p := ⟨w.heap.size, j, none⟩) (by simp [go_sem])).trans (by simp [go_sem])
  have f1_1 : ∀ j, w1.frozen? ⟨w.heap.size + 1, j, none⟩ = false := fun j => (r1.frozen (p := ⟨w.heap.size + 1, j, none⟩) (by simp [go_sem])).trans (by simp [go_sem])
  have f2_1 : ∀ j, w1.frozen? ⟨w.heap.size + 1 + 1, j, none⟩ = false := fun j => (r1.frozen (p := ⟨w.heap.size + 1 + 1, j, none⟩) (by simp [go_sem])).trans (by simp [go_sem])
  clear r1
  have zz2 := World.block_lt_of_cell? _ ⟨w.heap.size + 1, 0, none⟩ c1_0_1
  go_wp2_with fail
  refine (HOK'.out _ _ (by simpa using zz2) c1_0_1 c1_1_1 b1).mono ?_
  rintro _ w2 ⟨rfl, d2⟩
  have r2 := Dr.below d2; clear d2
  have s2 := r2
  have b2 := b1.trans (s2.mono z1)
  have z2 := b2.size
  have y2 := s2.size
  have k0_2 := c0_0_1
  have c0_0_2 := below_cell s2 c0_0_1; clear c0_0_1
  have c0_1_2 := below_cell s2 c0_1_1; clear c0_1_1
  have k1_2 := c1_0_1
  have c1_0_2 := below_cell s2 c1_0_1; clear c1_0_1
  have c1_1_2 := below_cell s2 c1_1_1; clear c1_1_1
  have k2_2 := c2_0_1
  have c2_0_2 := below_cell s2 c2_0_1; clear c2_0_1
  have c2_1_2 := below_cell s2 c2_1_1; clear c2_1_1
  have f0_2 : ∀ j, w2.frozen? ⟨w.heap.size, j, none⟩ = false := fun j => (s2.frozen (p := ⟨w.heap.size, j, none⟩) (show w.heap.size < _ from World.block_lt_of_cell? _ ⟨w.heap.size, 0, none⟩ k0_2)).trans (f0_1 j); clear f0_1
  have f1_2 : ∀ j, w2.frozen? ⟨w.heap.size + 1, j, none⟩ = false := fun j => (s2.frozen (p := ⟨w.heap.size + 1, j, none⟩) (show w.heap.size + 1 < _ from World.block_lt_of_cell? _ ⟨w.heap.size + 1, 0, none⟩ k1_2)).trans (f1_1 j); clear f1_1
  have f2_2 : ∀ j, w2.frozen? ⟨w.heap.size + 1 + 1, j, none⟩ = false := fun j => (s2.frozen (p := ⟨w.heap.size + 1 + 1, j, none⟩) (show w.heap.size + 1 + 1 < _ from World.block_lt_of_cell? _ ⟨w.heap.size + 1 + 1, 0, none⟩ k2_2)).trans (f2_1 j); clear f2_1
  clear r2
  go_wp2_with fail
  refine (HIN.out _).mono ?_
  rintro _ _ ⟨rfl, rfl⟩
  go_wp2_with fail
  obtain ⟨W0, hW0⟩ : ∃ x, x = w2.alloc (.cells #[.string nm, .slice none 0 0] 31) := ⟨_, rfl⟩
  have zz3 := World.block_lt_of_cell? _ ⟨w.heap.size + 1 + 1, 0, none⟩ c2_0_2
  simp only at zz3
  have hB0 : Bld (w.heap.size + 1 + 1) w2.heap.size nm (.slice none 0 0) [] w W0 := by
    rw [hW0]
    exact ⟨b2.alloc z2 _, by omega, zz3, alloc_cell _ c2_0_2, alloc_cell _ c2_1_2, fun j => (alloc_frozen _ (show w.heap.size + 1 + 1 < _ from zz3)).trans (f2_2 j), by simp [go_sem], by simp [go_sem], fun j => by simp [go_sem], World.ownsRow_nil _ _ _ _⟩
  have ea0 : W0.cell? ⟨w.heap.size, 1, none⟩ = some (.slice ao n cap) := by rw [hW0]; exact alloc_cell _ c0_1_2
  have eb0 : W0.cell? ⟨w.heap.size + 1, 1, none⟩ = some (.slice ao1 n cap1) := by rw [hW0]; exact alloc_cell _ c1_1_2
  rw [← hW0]
  clear hW0
  have HB0 := Lib.hid hB0; clear hB0
  clear c0_0_2 c0_1_2 c1_0_2 c1_1_2 c2_0_2 c2_1_2
  go_loopw [9] (fun i wr => ∃ (k : Nat) (ao' : Option Addr) (c' : Nat), k ≤ n ∧ i = .int .i64 k ∧ Bld (w.heap.size + 1 + 1) w2.heap.size nm (.slice ao' k c') (mapK (blT share qs) ps k) w wr ∧ wr.cell? ⟨w.heap.size, 1, none⟩ = some (.slice ao n cap) ∧ wr.cell? ⟨w.heap.size + 1, 1, none⟩ = some (.slice ao1 n cap1)) (fun i _ => n - (intOf i).toNat)
  case atStart => exact ⟨0, none, 0, Nat.zero_le _, rfl, HB0.out, ea0, eb0⟩
  case round =>
    obtain ⟨k, ao', c', hk, rfl, hR, ea, eb⟩ := hrel
    have br := hR.below
    have zr := hR.size
    have hlk := HLN.out k
    have HR := Lib.hid hR; clear hR
    by_cases hlt : k < n
    · have hlt_p : k < ps.length := by rw [HN.out]; exact hlt
      have hlt_q : k < qs.length := by rw [HNQ.out]; exact hlt
      have hix_p := ix (P := Try.prog) (T := 29) (cap := cap) Try.underlying29 cells_Ring has_Ring hao (k := k) hlt _ rfl
      have hix_q := ix (P := Try.prog) (T := 29) (cap := cap1) Try.underlying29 cells_Ring has_Ring hao1 (k := k) hlt _ rfl
      have hp0 : wr.cell? ⟨bb, off + k * 3, none⟩ = some (.int .i64 (rg ps k).1) := by rw [rg_eq hlt_p]; exact hcell _ br _ _ (by omega) (trips_at hlt_p).1
      have hp1 : wr.cell? ⟨bb, off + k * 3 + 1, none⟩ = some (.int .i64 (rg ps k).2.1) := by rw [rg_eq hlt_p]; exact hcell _ br _ _ (by omega) (trips_at hlt_p).2.1
      have hp2 : wr.cell? ⟨bb, off + k * 3 + 2, none⟩ = some (.int .i64 (rg ps k).2.2) := by rw [rg_eq hlt_p]; exact hcell _ br _ _ (by omega) (trips_at hlt_p).2.2
      have hq0 := fun o => alloc_cell o (show wr.cell? ⟨bb1, off1 + k * 3, none⟩ = some (.int .i64 (rg qs k).1) by rw [rg_eq hlt_q]; exact hcell1 _ br _ _ (by omega) (trips_at hlt_q).1)
      have hq1 := fun o => alloc_cell o (show wr.cell? ⟨bb1, off1 + k * 3 + 1, none⟩ = some (.int .i64 (rg qs k).2.1) by rw [rg_eq hlt_q]; exact hcell1 _ br _ _ (by omega) (trips_at hlt_q).2.1)
      have hq2 := fun o => alloc_cell o (show wr.cell? ⟨bb1, off1 + k * 3 + 2, none⟩ = some (.int .i64 (rg qs k).2.2) by rw [rg_eq hlt_q]; exact hcell1 _ br _ _ (by omega) (trips_at hlt_q).2.2)
      have eb' := fun o => alloc_cell o eb
      have hring := ringT_t (all_at HAL.out hlt_p)
      have hring2 := ringT_t (all_at HQA.out hlt_q)
      have hstep : mapK (blT share qs) ps k ++ [(btw (rg ps k).1 (rg qs k).1 share, btw (rg ps k).2.1 (rg qs k).2.1 share, btw (rg ps k).2.2 (rg qs k).2.2 share)] = mapK (blT share qs) ps (k + 1) := rfl
      have k0 : 0 ≤ (rg ps k).1 ∧ (rg ps k).1 ≤ 300000 ∧ 0 ≤ (rg qs k).1 ∧ (rg qs k).1 ≤ 300000 := by omega
      have k1 : 0 ≤ (rg ps k).2.1 ∧ (rg ps k).2.1 ≤ 300000 ∧ 0 ≤ (rg qs k).2.1 ∧ (rg qs k).2.1 ≤ 300000 := by omega
      have k2 : 0 ≤ (rg ps k).2.2 ∧ (rg ps k).2.2 ≤ 300000 ∧ 0 ≤ (rg qs k).2.2 ∧ (rg qs k).2.2 ≤ 300000 := by omega
      have hbx := fun (a b : Int) w' (h : 0 ≤ a ∧ a ≤ 300000 ∧ 0 ≤ b ∧ b ≤ 300000) => l07Between_c a b share w' h.1 h.2.1 h.2.2.1 h.2.2.2 sh1 sh2
      clear hcell hcell1
      generalize (rg ps k).1 = x0 at *
      generalize (rg ps k).2.1 = x1 at *
      generalize (rg ps k).2.2 = x2 at *
      generalize (rg qs k).1 = y0 at *
      generalize (rg qs k).2.1 = y1 at *
      generalize (rg qs k).2.2 = y2 at *
      generalize mapK (blT share qs) ps k = rs at *
      have HS := Lib.hid hstep; clear hstep
      have HBX := Lib.hid hbx; clear hbx
      have K0 := Lib.hid k0; clear k0
      have K1 := Lib.hid k1; clear k1
      have K2 := Lib.hid k2; clear k2
      go_wp2_with fail
      obtain ⟨W1, hW1⟩ : ∃ x, x = (wr.alloc (.cells #[.int .i64 x0, .int .i64 x1, .int .i64 x2] 52)).alloc (.cells #[.int .i64 y0, .int .i64 y1, .int .i64 y2] 52) := ⟨_, rfl⟩
      rw [← hW1]
      have kb : Below wr.heap.size wr W1 := by rw [hW1]; go_grown
      have T1 := HR.out.later kb
      have ea1 := below_cell kb ea
      have eb1 := below_cell kb eb
      have p0 : ∀ s : Lat W1, s.world.cell? ⟨wr.heap.size, 0, none⟩ = some (.int .i64 x0) := fun s => s.cell (by rw [hW1]; simp [go_sem])
      have p1 : ∀ s : Lat W1, s.world.cell? ⟨wr.heap.size, 1, none⟩ = some (.int .i64 x1) := fun s => s.cell (by rw [hW1]; simp [go_sem])
      have p2 : ∀ s : Lat W1, s.world.cell? ⟨wr.heap.size, 2, none⟩ = some (.int .i64 x2) := fun s => s.cell (by rw [hW1]; simp [go_sem])
      have p3 : ∀ s : Lat W1, s.world.cell? ⟨wr.heap.size + 1, 0, none⟩ = some (.int .i64 y0) := fun s => s.cell (by rw [hW1]; simp [go_sem])
      have p4 : ∀ s : Lat W1, s.world.cell? ⟨wr.heap.size + 1, 1, none⟩ = some (.int .i64 y1) := fun s => s.cell (by rw [hW1]; simp [go_sem])
      have p5 : ∀ s : Lat W1, s.world.cell? ⟨wr.heap.size + 1, 2, none⟩ = some (.int .i64 y2) := fun s => s.cell (by rw [hW1]; simp [go_sem])
      have p6 : ∀ s : Lat W1, s.world.cell? ⟨w2.heap.size, 1, none⟩ = some (.slice ao' k c') := fun s => s.cell T1.q1
      have T1' := Lib.hid T1; clear T1
      clear hW1 hp0 hp1 hp2 hq0 hq1 hq2 eb' hix_p hix_q ea eb
      refine wp_region_any (by kernel_rfl) ?_
      refine wpAny_take (i := 0) (v := .pointer (some ⟨w2.heap.size, 1, none⟩)) rfl (by kernel_rfl) (by kernel_rfl) (by kernel_rfl) (fun _ _ _ h => h) (.inl ⟨rfl, fun _ => rfl⟩) ?_
      refine wpAny_pickE (C := fun w' => ∃ s : Lat W1, w' = s.world) (v := .slice ao' k c') 21 [0] [2, 3, 4, 5, 6, 7, 8, 9, 10, 11, 12, 13, 14, 15, 16, 17, 18, 19, 20] 21 [22, 23, 24] 1 (by kernel_rfl) (by kernel_rfl) (by kernel_rfl) (by kernel_rfl) ⟨⟨W1.drew, (Below.refl _ _).drew⟩, rfl⟩ rfl rfl (fun _ _ _ h => h) (.inl ⟨rfl, ?_⟩) ?_
      · rintro _ ⟨s, rfl⟩
        have p6s := p6 s
        clear p0 p1 p2 p3 p4 p5 p6
        go_simp
      simp only [List.filterMap_cons, List.filterMap_nil, List.getElem?_cons_zero, List.getElem?_cons_succ, List.getElem_toArray, List.getElem_cons_succ, List.getElem_cons_zero, Act.put, List.setIfInBounds_toArray, List.set_cons_zero, List.set_cons_succ]
      repeat (quiet_step ((go_at_call 82; exact Lat.callS (HBX.out _ _ _ (by first | exact K0.out | exact K1.out | exact K2.out)))))
      refine wpQuiet_nil ?_
      rintro _ ⟨s, rfl⟩
      have T2 := T1'.out.later s.below
      have ea2 := below_cell s.below ea1
      have eb2 := below_cell s.below eb1
      have sb := s.below
      clear p0 p1 p2 p3 p4 p5 p6
      refine wpOp_step rfl ?_
      intro K hK
      go_simp
      refine hK _ _ ⟨⟨⟨_, sb.alloc sb.size _⟩, rfl⟩, ?_⟩
      try simp only [List.filterMap_cons, List.filterMap_nil, List.getElem?_cons_zero, List.getElem?_cons_succ]
      generalize s.world = Ws at *
      have lo2 := own_lo T2.own
      refine app_R (.tmp 52) (.tmp 72) Ws (w2.heap.size + 1) (.slice ao' k c') rs _ _ _ (by rfl) (by rfl) (by rfl) (by rfl) T2.own (by omega) T2.size ?_
      intro v3 w3 o3 q3
      have ee := cell_only q3 T2.q1 T2.n2
      have ef := fun j => (frozen_only q3 (p := ⟨w2.heap.size, j, none⟩) (by have := T2.size; simp; omega) T2.n2).trans (T2.qf j)
      have t3 := T2.only q3 o3
      have ea3 := cell_only q3 ea2 (fun h => by have := lo2 _ h; simp at this; omega)
      have eb3 := cell_only q3 eb2 (fun h => by have := lo2 _ h; simp at this; omega)
      obtain ⟨a3, p3, hv3⟩ := own_shape o3
      rw [List.length_append, hlk] at hv3
      subst hv3
      have ea4 : (w3.setCell ⟨w2.heap.size, 1, none⟩ (.slice a3 (k + 1) p3)).cell? ⟨w.heap.size, 1, none⟩ = some (.slice ao n cap) := by rw [World.cell?_setCell_other _ _ _ _ (fun h => by have := congrArg Addr.block h; simp at this; omega)]; exact ea3
      have eb4 : (w3.setCell ⟨w2.heap.size, 1, none⟩ (.slice a3 (k + 1) p3)).cell? ⟨w.heap.size + 1, 1, none⟩ = some (.slice ao1 n cap1) := by rw [World.cell?_setCell_other _ _ _ _ (fun h => by have := congrArg Addr.block h; simp at this; omega)]; exact eb3
      have T3 := Lib.hid t3; clear t3
      have EA4 := Lib.hid ea4; clear ea4
      have EB4 := Lib.hid eb4; clear eb4
      have O3 := Lib.hid o3; clear o3
      clear q3 T2 ea2 eb2 ea3 eb3 sb ea1 eb1
      go_wp2
      go_roundw
      case rel => exact ⟨k + 1, _, _, by omega, by go_num, by rw [← HS.out]; exact T3.out, EA4.out, EB4.out⟩
      case measure => simp [intOf]; omega
    · obtain rfl : k = n := by omega
      have R := HR.out
      have r0 := R.r0
      have r1 := R.r1
      have rf := R.rf
      have q0 := R.q0
      have q1 := R.q1
      have hdn := fun w' (hb : Below wr.heap.size wr w') => HDONE.out _ w' _ (own_later R.own hb)
      have HDN := Lib.hid hdn; clear hdn
      clear hcell hcell1 R
      go_wp2_with fail
      refine (HDN.out _ (by go_grown)).mono ?_
      rintro _ w4 ⟨v4, rfl, o4, b4⟩
      have z4 : Below wr.heap.size wr w4 := Below.trans (by go_grown) (b4.mono (by simp; try omega))
      have g0 := below_cell z4 r0
      have g1 := below_cell z4 r1
      have zr2 : w.heap.size + 1 + 1 < wr.heap.size := World.block_lt_of_cell? _ ⟨w.heap.size + 1 + 1, 0, none⟩ r0
      have ef : ∀ j, w4.frozen? ⟨w.heap.size + 1 + 1, j, none⟩ = false := fun j => (z4.frozen (p := ⟨w.heap.size + 1 + 1, j, none⟩) zr2).trans (rf j)
      have b5 := br.trans (z4.mono (by omega))
      obtain ⟨a4, p4, rfl⟩ := own_shape o4
      have lo4 := own_lo o4
      clear r0 r1 rf q0 q1 b4
      go_wp2
      refine bodyPost_ret (v := .tuple #[.agg #[.string RES.1, .slice a4 RES.2.1.length p4], .int .i64 RES.2.2]) (by simp [results, Try.results32, go_sem, g0, g1]) rfl ?_
      have o11 := own_set o4 (a := ⟨w.heap.size + 1 + 1, 0, none⟩) (fun k hk => by have := lo4 k hk; simp; omega) (.string RES.1)
      have o12 := own_set o11 (a := ⟨w.heap.size + 1 + 1, 1, none⟩) (fun k hk => by have := lo4 k hk; simp; omega) (.slice a4 RES.2.1.length p4)
      exact ⟨_, rfl, own_base o12 (by omega), (b5.setCell (by simp; omega) _).setCell (by simp; omega) _⟩

end Go.Proofs.Ytddkjcdnomoglaa
