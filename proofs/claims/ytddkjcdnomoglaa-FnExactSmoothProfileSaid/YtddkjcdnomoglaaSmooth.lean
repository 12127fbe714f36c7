/- A profile, smoothed: the reference. -/
import Derived.Test.YtddkjcdnomoglaaGF
import Derived.Test.YtddkjcdnomoglaaThick
namespace Go.Proofs.Ytddkjcdnomoglaa
set_option linter.unusedVariables false
open Go.RowKit Go.Proofs.Bell Go.BigFrame

def smT (ps : List (Int × Int × Int)) (k : Nat) (r : Int × Int × Int) : Int × Int × Int :=
  if k = 0 ∨ k + 1 = ps.length then r else (rnd ((rg ps (k - 1)).1 + 2 * r.1 + (rg ps (k + 1)).1) 4, rnd ((rg ps (k - 1)).2.1 + 2 * r.2.1 + (rg ps (k + 1)).2.1) 4, r.2.2)
def smoothI (nm : ByteArray) (ps : List (Int × Int × Int)) : ByteArray × List (Int × Int × Int) × Int := if profB nm ps then doneR nm (mapK (smT ps) ps ps.length) else (⟨#[]⟩, [], 1)
theorem smoothI_len (nm : ByteArray) (ps : List (Int × Int × Int)) : (smoothI nm ps).2.1.length ≤ 32 := by
  unfold smoothI
  split
  · exact doneR_len _ _
  · simp
theorem mix_same {T : Nat → Int × Int × Int → Int × Int × Int} {ps : List (Int × Int × Int)} {k : Nat} (h : k < ps.length) (ht : T k (rg ps k) = rg ps k) : mixK T ps (k + 1) = mixK T ps k := by
  rw [← mix_set T h, ht]
  have h2 := mix_at T (Nat.le_refl k) h
  have hl := mix_len T (Nat.le_of_lt h)
  rw [← h2]
  have hk : k < (mixK T ps k).length := by omega
  rw [rg_eq hk]
  exact List.set_getElem_self hk
theorem rg_set {qs : List (Int × Int × Int)} {k : Nat} (h : k < qs.length) (x : Int × Int × Int) : rg (qs.set k x) k = x := by
  have hk : k < (qs.set k x).length := by simpa using h
  rw [rg_eq hk]
  simp

set_option maxHeartbeats 800000 in
theorem l07Mean_c (a b c : Int) (w : World) (h1 : 0 ≤ a) (h2 : a ≤ 1000000) (h3 : 0 ≤ b) (h4 : b ≤ 1000000) (h5 : 0 ≤ c) (h6 : c ≤ 1000000) :
    Calls Try.prog 76 #[.int .i64 a, .int .i64 b, .int .i64 c] w (RetS (.int .i64 (rnd (a + 2 * b + c) 4)) w) := by
  have hm := fun w' => l01Div_c (a + 2 * b + c) 4 w' (by omega) (by omega) (by omega) (by omega)
  have HM := Lib.hid hm; clear hm
  go_enter Try.func76, Try.ntmps76
  go_wp2_with fail
  refine (HM.out _).mono ?_
  rintro _ _ ⟨rfl, rfl⟩
  go_wp2
  go_returns
  exact RetS.mk rfl

set_option maxRecDepth 100000 in
set_option maxHeartbeats 3200000 in
theorem specSmoothProfile_c (nm : ByteArray) (sv : Value) (ps : List (Int × Int × Int)) (w : World) (hnm : nm.size ≤ maxLen) (hr : Rd w sv ps.length (trips ps)) :
    Calls Try.prog 29 #[.agg #[.string nm, sv]] w (RetP2 (smoothI nm ps).1 (smoothI nm ps).2.1 (.int .i64 (smoothI nm ps).2.2) w) := by
  have hok := fun w' g hg c0 c1 (hb : Below w.heap.size w w') => l05Ok_c g nm sv ps w' hg hnm c0 c1 (hr.later hb)
  cases t0 : profB nm ps <;> rw [t0] at hok
  · have he : smoothI nm ps = (⟨#[]⟩, [], 1) := by simp [smoothI, t0]
    rw [he]
    have HOK := Lib.hid hok; clear hok
    clear he hr
    go_enter Try.func29, Try.ntmps29
    have b0 : Below w.heap.size w w := Below.refl _ _
    have z0 : w.heap.size ≤ w.heap.size := Nat.le_refl _
    go_wp2_with fail
    refine (HOK.out _ _ (by simp; try omega) (by simp [go_sem]) (by simp [go_sem]) (by go_grown)).mono ?_
    rintro _ w1 ⟨rfl, d1⟩
    have r1 := Dr.below d1; clear d1
    have s1 : Below w.heap.size w w1 := Below.trans (by go_grown) (r1.mono (by simp; try omega))
    have b1 := b0.trans (s1.mono z0)
    have z1 := b1.size
    have y1 := s1.size
    have v1 : w.heap.size + 2 ≤ w1.heap.size := by have := r1.size; simp only [World.size_alloc] at this; omega
    have c0_0_1 := below_cell r1 (p := ⟨w.heap.size, 0, none⟩) (v := .string nm) (by simp [go_sem])
    have c0_1_1 := below_cell r1 (p := ⟨w.heap.size, 1, none⟩) (v := sv) (by simp [go_sem])
    have c1_0_1 := below_cell r1 (p := ⟨w.heap.size + 1, 0, none⟩) (v := .string ⟨#[]⟩) (by simp [go_sem])
    have c1_1_1 := below_cell r1 (p := ⟨w.heap.size + 1, 1, none⟩) (v := .slice none 0 0) (by simp [go_sem])
    have f0_1 : ∀ j, w1.frozen? ⟨w.heap.size, j, none⟩ = false := fun j => (r1.frozen (p := ⟨w.heap.size, j, none⟩) (by simp [go_sem])).trans (by simp [go_sem])
    have f1_1 : ∀ j, w1.frozen? ⟨w.heap.size + 1, j, none⟩ = false := fun j => (r1.frozen (p := ⟨w.heap.size + 1, j, none⟩) (by simp [go_sem])).trans (by simp [go_sem])
    clear r1
    go_wp2
    refine bodyPost_ret (v := .tuple #[.agg #[.string ⟨#[]⟩, .slice none 0 0], .int .i64 1]) (by simp [results, Try.results29, go_sem, c1_0_1, c1_1_1]) rfl ?_
    exact RetP2.nil (Below.setCell (Below.setCell b1 (show w.heap.size ≤ w.heap.size + 1 by omega) _) (show w.heap.size ≤ w.heap.size + 1 by omega) _)
  · have he : smoothI nm ps = doneR nm (mapK (smT ps) ps ps.length) := by simp [smoothI, t0]
    rw [he]
    have HOK := Lib.hid hok; clear hok
    obtain ⟨hl1, hl2, hal, hht⟩ := profB_t t0
    have hown := fun w' g c0 c1 (hb : Below w.heap.size w w') => l05Own_c g nm sv ps w' c0 c1 (hr.later hb) hl1 (by omega)
    have hdone := fun w' v (ho : OwnR (w.heap.size + 1 + 1) w' v (mapK (smT ps) ps ps.length)) => l07Done_c (w.heap.size + 1 + 1) nm v _ w' hnm ho
    generalize doneR nm (mapK (smT ps) ps ps.length) = RES at *
    have HOWN := Lib.hid hown; clear hown
    have HDONE := Lib.hid hdone; clear hdone
    have HAL := Lib.hid hal; clear hal
    clear he hht t0
    generalize hn : ps.length = n at hr
    have HN := Lib.hid hn; clear hn
    obtain ⟨hn2, ao, cap, bb, off, rfl, hao, hcell⟩ := hr.open
    clear hr
    go_enter Try.func29, Try.ntmps29
    have b0 : Below w.heap.size w w := Below.refl _ _
    have z0 : w.heap.size ≤ w.heap.size := Nat.le_refl _
    go_wp2_with fail
    refine (HOK.out _ _ (by simp; try omega) (by simp [go_sem]) (by simp [go_sem]) (by go_grown)).mono ?_
    rintro _ w1 ⟨rfl, d1⟩
    have r1 := Dr.below d1; clear d1
    have s1 : Below w.heap.size w w1 := Below.trans (by go_grown) (r1.mono (by simp; try omega))
    have b1 := b0.trans (s1.mono z0)
    have z1 := b1.size
    have y1 := s1.size
    have v1 : w.heap.size + 2 ≤ w1.heap.size := by have := r1.size; simp only [World.size_alloc] at this; omega
    have c0_0_1 := below_cell r1 (p := ⟨w.heap.size, 0, none⟩) (v := .string nm) (by simp [go_sem])
    have c0_1_1 := below_cell r1 (p := ⟨w.heap.size, 1, none⟩) (v := .slice ao n cap) (by simp [go_sem])
    have c1_0_1 := below_cell r1 (p := ⟨w.heap.size + 1, 0, none⟩) (v := .string ⟨#[]⟩) (by simp [go_sem])
    have c1_1_1 := below_cell r1 (p := ⟨w.heap.size + 1, 1, none⟩) (v := .slice none 0 0) (by simp [go_sem])
    have f0_1 : ∀ j, w1.frozen? ⟨w.heap.size, j, none⟩ = false := fun j => (r1.frozen (p := ⟨w.heap.size, j, none⟩) (by simp [go_sem])).trans (by simp [go_sem])
    have f1_1 : ∀ j, w1.frozen? ⟨w.heap.size + 1, j, none⟩ = false := fun j => (r1.frozen (p := ⟨w.heap.size + 1, j, none⟩) (by simp [go_sem])).trans (by simp [go_sem])
    clear r1
    go_wp2_with fail
    refine (HOWN.out _ _ c0_0_1 c0_1_1 b1).mono ?_
    rintro _ w2 ⟨x2, rfl, n2, r2⟩
    have s2 := r2
    have b2 := b1.trans (s2.mono z1)
    have z2 := b2.size
    have y2 := s2.size
    have k0_2 := c0_0_1
    have c0_0_2 := below_cell s2 c0_0_1; clear c0_0_1
    have c0_1_2 := below_cell s2 c0_1_1; clear c0_1_1
    have k1_2 := c1_0_1
    have c1_0_2 := below_cell s2 c1_0_1; clear c1_0_1
    have c1_1_2 := below_cell s2 c1_1_1; clear c1_1_1
    have f0_2 : ∀ j, w2.frozen? ⟨w.heap.size, j, none⟩ = false := fun j => (s2.frozen (p := ⟨w.heap.size, j, none⟩) (show w.heap.size < _ from World.block_lt_of_cell? _ ⟨w.heap.size, 0, none⟩ k0_2)).trans (f0_1 j); clear f0_1
    have f1_2 : ∀ j, w2.frozen? ⟨w.heap.size + 1, j, none⟩ = false := fun j => (s2.frozen (p := ⟨w.heap.size + 1, j, none⟩) (show w.heap.size + 1 < _ from World.block_lt_of_cell? _ ⟨w.heap.size + 1, 0, none⟩ k1_2)).trans (f1_1 j); clear f1_1
    clear r2
    obtain ⟨g2, cap2, rfl, hg2, hg3⟩ := World.ownsRow.form n2 hl1
    have O2 := Lib.hid n2; clear n2
    have zz := y1
    obtain ⟨W, hW⟩ : ∃ x, x = w2.alloc (.cells #[.string nm, .slice (some ⟨g2, 0, none⟩) ps.length cap2] 31) := ⟨_, rfl⟩
    have hI : InPl (w.heap.size + 1) w2.heap.size nm (.slice (some ⟨g2, 0, none⟩) ps.length cap2) ps w W := by
      rw [hW]
      exact ⟨b2.alloc z2 _, by omega, alloc_cell _ c1_0_2, alloc_cell _ c1_1_2, fun j => (alloc_frozen _ (show w.heap.size + 1 < _ from World.block_lt_of_cell? _ ⟨w.heap.size + 1, 0, none⟩ c1_0_2)).trans (f1_2 j), by simp [go_sem], by simp [go_sem], own_base (own_later O2.out ((Below.refl _ _).alloc (Nat.le_refl _) _)) (by omega), fun k hk => by simp [Value.ownBlock] at hk; omega⟩
    have e1 : W.cell? ⟨w.heap.size, 1, none⟩ = some (.slice ao n cap) := by rw [hW]; exact alloc_cell _ c0_1_2
    have hg4 : w.heap.size < g2 := by omega
    have HI := Lib.hid hI; clear hI
    go_wp2_with fail
    rw [← hW]
    clear hW c0_0_2 c0_1_2 c1_0_2 c1_1_2
    go_loopw [5] (fun i wr => ∃ (k : Nat), 1 ≤ k ∧ (k = 1 ∨ k + 1 ≤ ps.length) ∧ i = .int .i64 k ∧ InPl (w.heap.size + 1) w2.heap.size nm (.slice (some ⟨g2, 0, none⟩) ps.length cap2) (mixK (smT ps) ps k) w wr ∧ wr.cell? ⟨w.heap.size, 1, none⟩ = some (.slice ao n cap)) (fun i _ => ps.length - (intOf i).toNat)
    case atStart => exact ⟨1, Nat.le_refl _, Or.inl rfl, rfl, by rw [mix_same hl1 (by simp [smT]), mix_zero]; exact HI.out, e1⟩
    case round =>
      obtain ⟨k, hk1, hk, rfl, hI, e2⟩ := hrel
      have hkl : k ≤ ps.length := by omega
      have hln := mix_len (smT ps) hkl
      have hq0 := hI.q0
      have hq1 := hI.q1
      have br := hI.below
      by_cases hlt : k + 1 < ps.length
      · have hltk : k < ps.length := by omega
        have hltm : k - 1 < ps.length := by omega
        have hgw : g2 < wr.heap.size := own_lt hI.own g2 rfl
        have hni : (n : Int) = ps.length := by rw [HN.out]
        have hx : ∀ j, j < ps.length → 0 ≤ (rg ps j).1 ∧ (rg ps j).1 ≤ 1000000 ∧ 0 ≤ (rg ps j).2.1 ∧ (rg ps j).2.1 ≤ 1000000 := fun j hj => by have := ringT_t (all_at HAL.out hj); omega
        obtain ⟨m1, m2, m3, m4⟩ := hx (k - 1) hltm
        obtain ⟨m5, m6, m7, m8⟩ := hx k hltk
        obtain ⟨m9, m10, m11, m12⟩ := hx (k + 1) hlt
        have hix_a := ix (P := Try.prog) (T := 29) (cap := cap) Try.underlying29 cells_Ring has_Ring hao (k := k - 1) (by omega) ((k : Int) - 1) (by omega)
        have hix_b := ix (P := Try.prog) (T := 29) (cap := cap) Try.underlying29 cells_Ring has_Ring hao (k := k) (by omega) _ rfl
        have hix_c := ix (P := Try.prog) (T := 29) (cap := cap) Try.underlying29 cells_Ring has_Ring hao (k := k + 1) (by omega) ((k : Int) + 1) (by omega)
        have a0 : wr.cell? ⟨bb, off + (k - 1) * 3, none⟩ = some (.int .i64 (rg ps (k - 1)).1) := by rw [rg_eq hltm]; exact hcell _ br _ _ (by omega) (trips_at hltm).1
        have a1 : wr.cell? ⟨bb, off + (k - 1) * 3 + 1, none⟩ = some (.int .i64 (rg ps (k - 1)).2.1) := by rw [rg_eq hltm]; exact hcell _ br _ _ (by omega) (trips_at hltm).2.1
        have a2 : wr.cell? ⟨bb, off + (k - 1) * 3 + 2, none⟩ = some (.int .i64 (rg ps (k - 1)).2.2) := by rw [rg_eq hltm]; exact hcell _ br _ _ (by omega) (trips_at hltm).2.2
        have hT : smT ps k (rg ps k) = (rnd ((rg ps (k - 1)).1 + 2 * (rg ps k).1 + (rg ps (k + 1)).1) 4, rnd ((rg ps (k - 1)).2.1 + 2 * (rg ps k).2.1 + (rg ps (k + 1)).2.1) 4, (rg ps k).2.2) := by
          unfold smT
          rw [if_neg (by omega)]
        have hset := mix_set (smT ps) hltk
        rw [hT] at hset
        have b0' : ∀ j (hj : j < ps.length), wr.cell? ⟨bb, off + j * 3, none⟩ = some (.int .i64 (rg ps j).1) ∧ wr.cell? ⟨bb, off + j * 3 + 1, none⟩ = some (.int .i64 (rg ps j).2.1) ∧ wr.cell? ⟨bb, off + j * 3 + 2, none⟩ = some (.int .i64 (rg ps j).2.2) := fun j hj => by
          rw [rg_eq hj]
          exact ⟨hcell _ br _ _ (by omega) (trips_at hj).1, hcell _ br _ _ (by omega) (trips_at hj).2.1, hcell _ br _ _ (by omega) (trips_at hj).2.2⟩
        obtain ⟨b0, b1, b2⟩ := b0' k hltk
        obtain ⟨d0, d1, d2⟩ := b0' (k + 1) hlt
        have e2' := fun o => alloc_cell o e2
        have e2'' := fun o o' => alloc_cell o' (alloc_cell o e2)
        have b3 := fun o => alloc_cell o b0
        have b4 := fun o => alloc_cell o b1
        have b5 := fun o => alloc_cell o b2
        have d3 := fun o o' => alloc_cell o' (alloc_cell o d0)
        have d4 := fun o o' => alloc_cell o' (alloc_cell o d1)
        have d5 := fun o o' => alloc_cell o' (alloc_cell o d2)
        -- the two puts
        have hM0 : ((mixK (smT ps) ps k).set k (rnd ((rg ps (k - 1)).1 + 2 * (rg ps k).1 + (rg ps (k + 1)).1) 4, (rg ps k).2)).length = (mixK (smT ps) ps k).length := by simp
        have hp1 : (trips (mixK (smT ps) ps k)).set (k * 3) (.int .i64 (rnd ((rg ps (k - 1)).1 + 2 * (rg ps k).1 + (rg ps (k + 1)).1) 4)) = trips ((mixK (smT ps) ps k).set k (rnd ((rg ps (k - 1)).1 + 2 * (rg ps k).1 + (rg ps (k + 1)).1) 4, (rg ps k).2)) := by
          rw [trips_put0 _ _ _ (by rw [hln]; exact hltk), mix_at (smT ps) (Nat.le_refl k) hltk]
        have hp2 : (trips ((mixK (smT ps) ps k).set k (rnd ((rg ps (k - 1)).1 + 2 * (rg ps k).1 + (rg ps (k + 1)).1) 4, (rg ps k).2))).set (k * 3 + 1) (.int .i64 (rnd ((rg ps (k - 1)).2.1 + 2 * (rg ps k).2.1 + (rg ps (k + 1)).2.1) 4)) = trips (mixK (smT ps) ps (k + 1)) := by
          rw [trips_put1 _ _ _ (by rw [hM0, hln]; exact hltk), rg_set (by rw [hln]; exact hltk), List.set_set]
          exact congrArg trips hset
        have hM1 : (mixK (smT ps) ps (k + 1)).length = ((mixK (smT ps) ps k).set k (rnd ((rg ps (k - 1)).1 + 2 * (rg ps k).1 + (rg ps (k + 1)).1) 4, (rg ps k).2)).length := by rw [hM0, hln, mix_len (smT ps) (by omega)]
        have hMl : ps.length = ((mixK (smT ps) ps k).set k (rnd ((rg ps (k - 1)).1 + 2 * (rg ps k).1 + (rg ps (k + 1)).1) 4, (rg ps k).2)).length := by rw [hM0, hln]
        have hme1 := fun w' => l07Mean_c (rg ps (k - 1)).1 (rg ps k).1 (rg ps (k + 1)).1 w' m1 m2 m5 m6 m9 m10
        have hme2 := fun w' => l07Mean_c (rg ps (k - 1)).2.1 (rg ps k).2.1 (rg ps (k + 1)).2.1 w' m3 m4 m7 m8 m11 m12
        have hix := ix (P := Try.prog) (T := 29) (cap := cap2) Try.underlying29 cells_Ring has_Ring (ao := some ⟨g2, 0, none⟩) (b := g2) (off := 0) (fun _ => rfl) (k := k) hltk _ rfl
        rw [Nat.zero_add] at hix
        generalize (mixK (smT ps) ps k).set k (rnd ((rg ps (k - 1)).1 + 2 * (rg ps k).1 + (rg ps (k + 1)).1) 4, (rg ps k).2) = M1 at *
        generalize rnd ((rg ps (k - 1)).1 + 2 * (rg ps k).1 + (rg ps (k + 1)).1) 4 = y0 at *
        generalize rnd ((rg ps (k - 1)).2.1 + 2 * (rg ps k).2.1 + (rg ps (k + 1)).2.1) 4 = y1 at *
        generalize (rg ps (k - 1)).1 = xa0 at *
        generalize (rg ps (k - 1)).2.1 = xa1 at *
        generalize (rg ps (k - 1)).2.2 = xa2 at *
        generalize (rg ps (k + 1)).1 = xc0 at *
        generalize (rg ps (k + 1)).2.1 = xc1 at *
        generalize (rg ps (k + 1)).2.2 = xc2 at *
        generalize (rg ps k).1 = xb0 at *
        generalize (rg ps k).2.1 = xb1 at *
        generalize (rg ps k).2.2 = xb2 at *
        have HII := Lib.hid hI; clear hI
        have HP1 := Lib.hid hp1; clear hp1
        have HP2 := Lib.hid hp2; clear hp2
        have HM0 := Lib.hid hM0; clear hM0
        have HM1 := Lib.hid hM1; clear hM1
        have HML := Lib.hid hMl; clear hMl
        have HME1 := Lib.hid hme1; clear hme1
        have HME2 := Lib.hid hme2; clear hme2
        clear hcell b0' hset hT hx hq0 hq1
        go_wp2_with fail
        clear e2' e2'' b3 b4 b5 d3 d4 d5 a0 a1 a2 b0 b1 b2 d0 d1 d2 hix_a hix_b hix_c
        obtain ⟨W3, hW3⟩ : ∃ x, x = ((wr.alloc (.cells #[.int .i64 xa0, .int .i64 xa1, .int .i64 xa2] 52)).alloc (.cells #[.int .i64 xb0, .int .i64 xb1, .int .i64 xb2] 52)).alloc (.cells #[.int .i64 xc0, .int .i64 xc1, .int .i64 xc2] 52) := ⟨_, rfl⟩
        rw [← hW3]
        have hb3 : Below wr.heap.size wr W3 := by rw [hW3]; go_grown
        have hI3 := HII.out.later hb3
        have x0 : W3.cell? ⟨wr.heap.size, 0, none⟩ = some (.int .i64 xa0) := by rw [hW3]; simp [go_sem]
        have x1 : W3.cell? ⟨wr.heap.size, 1, none⟩ = some (.int .i64 xa1) := by rw [hW3]; simp [go_sem]
        have x2 : W3.cell? ⟨wr.heap.size + 1, 0, none⟩ = some (.int .i64 xb0) := by rw [hW3]; simp [go_sem]
        have x3 : W3.cell? ⟨wr.heap.size + 1, 1, none⟩ = some (.int .i64 xb1) := by rw [hW3]; simp [go_sem]
        have x4 : W3.cell? ⟨wr.heap.size + 1 + 1, 0, none⟩ = some (.int .i64 xc0) := by rw [hW3]; simp [go_sem]
        have x5 : W3.cell? ⟨wr.heap.size + 1 + 1, 1, none⟩ = some (.int .i64 xc1) := by rw [hW3]; simp [go_sem]
        have e3 := below_cell hb3 e2
        clear hW3 e2
        have q1 := hI3.q1
        obtain ⟨p0, p1, p2⟩ := hI3.cells hln.symm hltk
        have fz := hI3.frozen hln.symm
        have hput := fun m => (hI3.later (below_drewN (Below.refl _ _) m)).put hln.symm (k * 3) (.int .i64 y0) HM0.out HP1.out
        have HPUT := Lib.hid hput; clear hput
        clear hI3
        refine wp_region_drew_tail 12 (by kernel_rfl) (by kernel_rfl) ?_
        simp only [List.take_succ_cons, List.take_zero, List.drop_succ_cons, List.drop_zero]
        repeat (quiet_step ((go_at_call 76; exact quietS (HME1.out _))))
        refine wpQuiet_nil ?_
        rintro _ ⟨nq, rfl⟩
        go_wp2_with fail
        obtain ⟨W4, hW4⟩ : ∃ x, x = (W3.drewN nq).setCell ⟨g2, k * 3, none⟩ (.int .i64 y0) := ⟨_, rfl⟩
        rw [← hW4]
        have hI4 := HPUT.out nq
        rw [← hW4] at hI4
        have hkeep : ∀ b j u, b ≠ g2 → W3.cell? ⟨b, j, none⟩ = some u → W4.cell? ⟨b, j, none⟩ = some u := fun b j u hne hc => by
          rw [hW4, World.cell?_setCell_other _ _ _ _ (fun e => hne (congrArg Addr.block e).symm)]
          exact below_cell (below_drewN (Below.refl _ _) nq) hc
        have y1' := hkeep _ _ _ (by omega) x1
        have y3' := hkeep _ _ _ (by omega) x3
        have y5' := hkeep _ _ _ (by omega) x5
        have e4 := hkeep _ _ _ (by omega) e3
        clear hW4 hkeep x0 x1 x2 x3 x4 x5 e3 p0 p1 p2 fz q1 HPUT
        have q1 := hI4.q1
        obtain ⟨p0, p1, p2⟩ := hI4.cells HML.out hltk
        have fz := hI4.frozen HML.out
        have hput := fun m => (hI4.later (below_drewN (Below.refl _ _) m)).put HML.out (k * 3 + 1) (.int .i64 y1) HM1.out HP2.out
        have hgw4 : g2 < W4.heap.size := own_lt hI4.own g2 rfl
        have HPUT := Lib.hid hput; clear hput
        clear hI4
        refine wp_region_drew_tail 12 (by kernel_rfl) (by kernel_rfl) ?_
        simp only [List.take_succ_cons, List.take_zero, List.drop_succ_cons, List.drop_zero]
        repeat (quiet_step ((go_at_call 76; exact quietS (HME2.out _))))
        refine wpQuiet_nil ?_
        rintro _ ⟨nq2, rfl⟩
        go_wp2
        go_roundw
        case rel => exact ⟨k + 1, by omega, by omega, by go_num, HPUT.out nq2, by rw [World.cell?_setCell_other _ _ _ _ (fun e => by have := congrArg Addr.block e; simp at this; omega)]; exact below_cell (below_drewN (Below.refl _ _) nq2) e4⟩
        case measure => simp [intOf]; omega
      · obtain hke : k + 1 = ps.length ∨ k = ps.length := by omega
        have hni : (n : Int) = ps.length := by rw [HN.out]
        have hend : mixK (smT ps) ps k = mapK (smT ps) ps ps.length := by
          rcases hke with h | h
          · rw [← mix_end, ← h, mix_same (show k < ps.length by omega) (by simp [smT, h])]
          · rw [h, mix_end]
        have r0 := hI.r0
        have r1 := hI.r1
        have rf := hI.rf
        have hdn := fun w' (hb : Below wr.heap.size wr w') => HDONE.out w' _ (own_later (by have := hI.own; rw [hend] at this; exact this) hb)
        have HDN := Lib.hid hdn; clear hdn
        clear hI hcell
        go_wp2_with fail
        refine (HDN.out _ (by go_grown)).mono ?_
        rintro _ w4 ⟨v4, rfl, o4, b4⟩
        have z4 : Below wr.heap.size wr w4 := Below.trans (by go_grown) (b4.mono (by simp; try omega))
        have g0 := below_cell z4 r0
        have g1 := below_cell z4 r1
        have zr : w.heap.size + 1 < wr.heap.size := World.block_lt_of_cell? _ ⟨w.heap.size + 1, 0, none⟩ r0
        have ef : ∀ j, w4.frozen? ⟨w.heap.size + 1, j, none⟩ = false := fun j => (z4.frozen (p := ⟨w.heap.size + 1, j, none⟩) zr).trans (rf j)
        have b5 := br.trans (z4.mono (by omega))
        obtain ⟨a4, p4, rfl⟩ := own_shape o4
        have lo4 := own_lo o4
        clear r0 r1 rf hq0 hq1 b4
        go_wp2
        refine bodyPost_ret (v := .tuple #[.agg #[.string RES.1, .slice a4 RES.2.1.length p4], .int .i64 RES.2.2]) (by simp [results, Try.results29, go_sem, g0, g1]) rfl ?_
        have o11 := own_set o4 (a := ⟨w.heap.size + 1, 0, none⟩) (fun k hk => by have := lo4 k hk; simp; omega) (.string RES.1)
        have o12 := own_set o11 (a := ⟨w.heap.size + 1, 1, none⟩) (fun k hk => by have := lo4 k hk; simp; omega) (.slice a4 RES.2.1.length p4)
        exact ⟨_, rfl, own_base o12 (by omega), (b5.setCell (by simp) _).setCell (by simp) _⟩

end Go.Proofs.Ytddkjcdnomoglaa
