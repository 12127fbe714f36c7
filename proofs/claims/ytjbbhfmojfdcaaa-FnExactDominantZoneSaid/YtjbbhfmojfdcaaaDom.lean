/- The dominant zone. -/
import Derived.Test.YtjbbhfmojfdcaaaVm2
namespace Go.Proofs.Ytjbbhfmojfdcaaa
set_option linter.unusedVariables false
open Go.RowKit Go.Proofs.Bell Go.BigFrame

theorem isPartial_c (n : Int) (w : World) : Calls Try.prog 99 #[.int .i64 n] w (RetS (.bool (inB n 1 5)) w) := by
  go_enter Try.func99, Try.ntmps99
  go_wp2_with (go_at_call 76; refine (within_c _ _ _ _).mono ?_; rintro _ _ ⟨rfl, rfl⟩)
  go_returns
  exact RetS.mk rfl
theorem l04Partial_c (n : Int) (w : World) : Calls Try.prog 98 #[.int .i64 n] w (RetS (.bool (inB n 1 5)) w) := by
  go_enter Try.func98, Try.ntmps98
  go_wp2_with (go_at_call 107; refine (l00In_c _ _ _ _).mono ?_; rintro _ _ ⟨rfl, rfl⟩)
  go_returns
  exact RetS.mk rfl

/-- the first place of the greatest of the first `k` numbers -/
def argK (zs : List Int) : Nat → Nat
  | 0 => 0
  | k + 1 => if zs.getD (argK zs k) 0 < zs.getD k 0 then k else argK zs k
theorem argK_lt {zs : List Int} {n : Nat} (hn : 1 ≤ n) : ∀ k, k ≤ n → argK zs k < n
  | 0, _ => by simp [argK]; omega
  | k + 1, h => by
    have := argK_lt (zs := zs) hn k (by omega)
    simp only [argK]
    split <;> omega
theorem argK_one (zs : List Int) : argK zs 1 = 0 := by simp [argK]
theorem arg_start (zs : List Int) : Value.int .i64 0 = .int .i64 ((argK zs 1 : Nat) : Int) := by rw [argK_one]; rfl
theorem argK_spec (zs : List Int) : ∀ k, 1 ≤ k → zs.getD (argK zs k) 0 = maxK zs k ∧ (∀ i, i < argK zs k → zs.getD i 0 < maxK zs k) ∧ argK zs k < k ∧ ∀ i, i < k → zs.getD i 0 ≤ maxK zs k
  | 0, h => by omega
  | 1, _ => by rw [argK_one, maxK_one]; exact ⟨rfl, fun i hi => by omega, by omega, fun i hi => by rw [show i = 0 by omega]; exact Int.le_refl _⟩
  | k + 2, _ => by
    obtain ⟨h1, h2, h3, h4⟩ := argK_spec zs (k + 1) (by omega)
    rw [argK, maxK, h1]
    by_cases h : maxK zs (k + 1) < zs.getD (k + 1) 0
    · rw [if_pos h, if_pos h]
      exact ⟨rfl, fun i hi => by have := h4 i hi; omega, by omega, fun i hi => by
        rcases Nat.lt_or_ge i (k + 1) with h' | h'
        · have := h4 i h'; omega
        · rw [show i = k + 1 by omega]; exact Int.le_refl _⟩
    · rw [if_neg h, if_neg h]
      exact ⟨h1, h2, by omega, fun i hi => by
        rcases Nat.lt_or_ge i (k + 1) with h' | h'
        · exact h4 i h'
        · rw [show i = k + 1 by omega]; omega⟩

set_option maxHeartbeats 800000 in
theorem IndexInt_c (v : Value) (zs : List Int) (x : Int) (j : Nat) (w : World) (hr : Rd w v zs.length (ints zs)) (hj : j < zs.length) (h1 : zs.getD j 0 = x) (h2 : ∀ i, i < j → zs.getD i 0 < x) :
    Calls Try.prog 100 #[v, .int .i64 x] w (RetS (.int .i64 (j : Int)) w) := by
  have H1 := Lib.hid h1; clear h1
  have H2 := Lib.hid h2; clear h2
  generalize hn : zs.length = n at *
  have HN := Lib.hid hn; clear hn
  obtain ⟨hn, ao, cap, bb, off, rfl, hao, hcell⟩ := hr.open
  clear hr
  have b0 : Below w.heap.size w w := Below.refl _ _
  have z0 : w.heap.size ≤ w.heap.size := Nat.le_refl _
  go_enter Try.func100, Try.ntmps100
  go_wp2_with fail
  go_loop [8] (fun i => ∃ (k : Nat), k ≤ j ∧ i = .int .i64 k) (fun i => n - (intOf i).toNat)
  case atStart => exact ⟨0, Nat.zero_le _, rfl⟩
  case round =>
    obtain ⟨k, hk, rfl⟩ := hrel
    have hlt : k < n := by omega
    have hlt_z : k < zs.length := by rw [HN.out]; omega
    have hix_z := ix (P := Try.prog) (T := 22) (cap := cap) Try.underlying22 cells_int64 has_int64 hao (k := k) (by omega) _ (rfl)
    rw [Nat.mul_one] at hix_z
    have hz : w.cell? ⟨bb, off + k, none⟩ = some (.int .i64 (zs.getD k 0)) := by rw [getD_eq hlt_z]; exact hcell _ b0 _ _ (by omega) (intsAt hlt_z)
    clear hcell hlt_z
    by_cases hkj : k = j
    · subst hkj
      have e := H1.out
      rw [e] at hz
      have E := Lib.hid e; clear e
      go_wp2
      go_returns
      exact RetS.mk rfl
    · have hne := H2.out k (by omega)
      generalize zs.getD k 0 = z at *
      have hne2 : ¬ x = z := by omega
      go_wp2
      go_round
      case rel => exact ⟨k + 1, by omega, by go_num⟩
      case measure => simp [intOf]; omega

def domI (zs : List Int) (ws : List (List Int)) (bs : List Int) (k : Int) : Int × Int :=
  if modelB zs ws bs then (if inB k 1 5 then ((argK (ws.getD (k - 1).toNat []) (ws.getD (k - 1).toNat []).length : Int), 0) else (0, 2)) else (0, 1)
theorem modelB_t {zs : List Int} {ws : List (List Int)} {bs : List Int} (h : modelB zs ws bs = true) : 1 ≤ zs.length ∧ zs.length ≤ 8 ∧ ws.length = 5 ∧ bs.length = 5 ∧ ∀ k, k < 5 → okRow zs.length (ws.getD k []) (bs.getD k 0) = true := by
  unfold modelB at h
  simp only [Bool.and_eq_true, decide_eq_true_eq] at h
  obtain ⟨⟨⟨h1, h2⟩, h3⟩, h4⟩ := h
  obtain ⟨a, b⟩ := zonesB_len h1
  exact ⟨a, b, h2, h3, fun k hk => List.all_eq_true.1 h4 k (List.mem_range.2 hk)⟩
theorem okRow_len {n : Nat} {row : List Int} {b : Int} (h : okRow n row b = true) : row.length = n := by
  unfold okRow at h
  simp only [Bool.and_eq_true, decide_eq_true_eq] at h
  exact h.1.1.2

set_option maxRecDepth 100000 in
set_option maxHeartbeats 3200000 in
theorem specDominantZone_c (zv wv bv : Value) (zs : List Int) (ws : List (List Int)) (bs : List Int) (q : Int) (w : World) (hz : Rd w zv zs.length (ints zs)) (hw : RdSS w wv ws) (hb : Rd w bv bs.length (ints bs)) :
    Calls Try.prog 49 #[.agg #[zv, wv, bv], .int .i64 q] w (RetB (.tuple #[.int .i64 (domI zs ws bs q).1, .int .i64 (domI zs ws bs q).2]) w) := by
  have hok := fun w' g c0 c1 c2 (h : Below w.heap.size w w') => l08Ok_c g zv wv bv zs ws bs w' c0 c1 c2 (hz.later h) (hw.later h) (hb.later h)
  have hd : domI zs ws bs q = if modelB zs ws bs then (if inB q 1 5 then ((argK (ws.getD (q - 1).toNat []) (ws.getD (q - 1).toNat []).length : Int), 0) else (0, 2)) else (0, 1) := rfl
  have hmt := fun h => modelB_t (zs := zs) (ws := ws) (bs := bs) h
  generalize domI zs ws bs q = R at *
  cases t0 : modelB zs ws bs <;> rw [t0] at hok hd
  · have hd : R = (0, 1) := hd
    subst hd
    have HOK := Lib.hid hok; clear hok
    clear hz hw hb hmt
    go_enter Try.func49, Try.ntmps49
    have b0 : Below w.heap.size w w := Below.refl _ _
    have z0 : w.heap.size ≤ w.heap.size := Nat.le_refl _
    go_wp2_with fail
    refine (HOK.out _ _ (by simp [go_sem]) (by simp [go_sem]) (by simp [go_sem]) (by go_grown)).mono ?_
    rintro _ w1 ⟨rfl, d1⟩
    have r1 := Dr.below d1; clear d1
    have s1 : Below w.heap.size w w1 := Below.trans (by go_grown) (r1.mono (by simp; try omega))
    have b1 := b0.trans (s1.mono z0)
    have z1 := b1.size
    have y1 := s1.size
    have c0_0_1 := below_cell r1 (p := ⟨w.heap.size, 0, none⟩) (v := zv) (by simp [go_sem])
    have c0_1_1 := below_cell r1 (p := ⟨w.heap.size, 1, none⟩) (v := wv) (by simp [go_sem])
    have c0_2_1 := below_cell r1 (p := ⟨w.heap.size, 2, none⟩) (v := bv) (by simp [go_sem])
    clear r1
    go_wp2
    go_returns
    exact RetB.mk (rfl) b1
  · rw [if_pos rfl] at hd
    obtain ⟨hz1, hz8, hw5, hb5, hrows⟩ := hmt t0
    clear hmt
    have HOK := Lib.hid hok; clear hok
    have hlp := fun w' => l04Partial_c q w'
    cases t1 : inB q 1 5 <;> rw [t1] at hlp hd
    · have hd : R = (0, 2) := hd
      subst hd
      have HLP := Lib.hid hlp; clear hlp
      clear hz hw hb hrows hz1 hz8 hw5 hb5
      go_enter Try.func49, Try.ntmps49
      have b0 : Below w.heap.size w w := Below.refl _ _
      have z0 : w.heap.size ≤ w.heap.size := Nat.le_refl _
      go_wp2_with fail
      refine (HOK.out _ _ (by simp [go_sem]) (by simp [go_sem]) (by simp [go_sem]) (by go_grown)).mono ?_
      rintro _ w1 ⟨rfl, d1⟩
      have r1 := Dr.below d1; clear d1
      have s1 : Below w.heap.size w w1 := Below.trans (by go_grown) (r1.mono (by simp; try omega))
      have b1 := b0.trans (s1.mono z0)
      have z1 := b1.size
      have y1 := s1.size
      have c0_0_1 := below_cell r1 (p := ⟨w.heap.size, 0, none⟩) (v := zv) (by simp [go_sem])
      have c0_1_1 := below_cell r1 (p := ⟨w.heap.size, 1, none⟩) (v := wv) (by simp [go_sem])
      have c0_2_1 := below_cell r1 (p := ⟨w.heap.size, 2, none⟩) (v := bv) (by simp [go_sem])
      clear r1
      go_wp2_with fail
      refine (HLP.out _).mono ?_
      rintro _ _ ⟨rfl, rfl⟩
      go_wp2
      go_returns
      exact RetB.mk (rfl) b1
    · rw [if_pos rfl] at hd
      have HLP := Lib.hid hlp; clear hlp
      obtain ⟨q1, q5⟩ := inB_t t1
      obtain ⟨m, hm⟩ := Int.eq_ofNat_of_zero_le (show 0 ≤ q - 1 by omega)
      have hm5 : m < 5 := by omega
      have hmq : (q - 1).toNat = m := by omega
      rw [hmq] at hd
      clear hmq
      have hql : q = (m : Int) + 1 := by omega
      subst hql
      clear hm
      obtain ⟨us, hus, hr, hrow⟩ := hw
      have hrow := hrow m (by omega)
      have hrl := okRow_len (hrows m hm5)
      clear hrows
      rw [hw5] at hr hus
      obtain ⟨hn2, ao2, cap2, b2, off2, rfl, hao2, hcell2⟩ := hr.open
      obtain rfl : ao2 = some ⟨b2, off2, none⟩ := hao2 (by omega)
      have hcr : ∀ w', Below w.heap.size w w' → w'.cell? ⟨b2, off2 + m, none⟩ = some (us.getD m nv) := fun w' h => hcell2 _ h _ _ (by omega) (getDv (by rw [hus]; exact hm5))
      clear hcell2 hao2 hr hz hb
      have HUS := Lib.hid hus; clear hus
      have HCR := Lib.hid hcr; clear hcr
      have HW5 := Lib.hid hw5; clear hw5
      have HB5 := Lib.hid hb5; clear hb5
      have HD := Lib.hid hd; clear hd
      generalize zs.length = nz at *
      clear t0 t1
      generalize ws.getD m [] = row at *
      generalize us.getD m nv = u at *
      have hix2 := ix (P := Try.prog) (T := 23) (cap := cap2) Try.underlying23 cells_SS has_SS (b := b2) (off := off2) (n := 5) (fun _ => rfl) (k := m) (by omega) _ rfl
      rw [Nat.mul_one] at hix2
      have hal := fun k h => argK_lt (zs := row) (n := nz) hz1 k h
      have HAL := Lib.hid hal; clear hal
      generalize hrn : row.length = rn at *
      have HRN := Lib.hid hrn; clear hrn
      subst hrl
      obtain ⟨hnr, aor, capr, br, offr, rfl, haor, hcellr⟩ := hrow.open
      clear hrow
      have HCELLR := Lib.hid hcellr; clear hcellr
      go_enter Try.func49, Try.ntmps49
      have b0 : Below w.heap.size w w := Below.refl _ _
      have z0 : w.heap.size ≤ w.heap.size := Nat.le_refl _
      go_wp2_with fail
      refine (HOK.out _ _ (by simp [go_sem]) (by simp [go_sem]) (by simp [go_sem]) (by go_grown)).mono ?_
      rintro _ w1 ⟨rfl, d1⟩
      have r1 := Dr.below d1; clear d1
      have s1 : Below w.heap.size w w1 := Below.trans (by go_grown) (r1.mono (by simp; try omega))
      have b1 := b0.trans (s1.mono z0)
      have z1 := b1.size
      have y1 := s1.size
      have c0_0_1 := below_cell r1 (p := ⟨w.heap.size, 0, none⟩) (v := zv) (by simp [go_sem])
      have c0_1_1 := below_cell r1 (p := ⟨w.heap.size, 1, none⟩) (v := .slice (some ⟨b2, off2, none⟩) 5 cap2) (by simp [go_sem])
      have c0_2_1 := below_cell r1 (p := ⟨w.heap.size, 2, none⟩) (v := bv) (by simp [go_sem])
      clear r1
      have hcr1 := HCR.out _ b1
      go_wp2_with fail
      refine (HLP.out _).mono ?_
      rintro _ _ ⟨rfl, rfl⟩
      go_wp2_with fail
      go_loopw [8, 7] (fun i s wr => ∃ (k : Nat), 1 ≤ k ∧ k ≤ rn ∧ i = .int .i64 k ∧ s = .int .i64 (argK row k : Nat) ∧ Below w.heap.size w wr ∧ wr.cell? ⟨w.heap.size, 0, none⟩ = some (zv) ∧ wr.cell? ⟨w.heap.size, 1, none⟩ = some (.slice (some ⟨b2, off2, none⟩) 5 cap2) ∧ wr.cell? ⟨w.heap.size, 2, none⟩ = some (bv)) (fun i s _ => rn - (intOf i).toNat)
      case atStart => exact ⟨1, Nat.le_refl _, hz1, rfl, arg_start row, b1, c0_0_1, c0_1_1, c0_2_1⟩
      case round =>
        obtain ⟨k, hk1, hk, rfl, rfl, br0, c0_0_r0, c0_1_r0, c0_2_r0⟩ := hrel
        have zr0 := br0.size
        by_cases hlt : k < rn
        · have hj := HAL.out k hk
          have hkr : k < row.length := by rw [HRN.out]; exact hlt
          have hjr : argK row k < row.length := by rw [HRN.out]; exact hj
          have hs : argK row (k + 1) = if row.getD (argK row k) 0 < row.getD k 0 then k else argK row k := rfl
          have hixk := ix (P := Try.prog) (T := 22) (cap := capr) Try.underlying22 cells_int64 has_int64 haor (k := k) hlt _ rfl
          have hixj := ix (P := Try.prog) (T := 22) (cap := capr) Try.underlying22 cells_int64 has_int64 haor (k := argK row k) hj _ rfl
          rw [Nat.mul_one] at hixk hixj
          have hck : wr.cell? ⟨br, offr + k, none⟩ = some (.int .i64 (row.getD k 0)) := by rw [getD_eq hkr]; exact HCELLR.out _ br0 _ _ (by omega) (intsAt hkr)
          have hcj : wr.cell? ⟨br, offr + argK row k, none⟩ = some (.int .i64 (row.getD (argK row k) 0)) := by rw [getD_eq hjr]; exact HCELLR.out _ br0 _ _ (by omega) (intsAt hjr)
          clear hkr hjr
          generalize argK row k = j at *
          generalize row.getD k 0 = x at *
          generalize row.getD j 0 = y at *
          cases t3 : decide (y < x)
          · have hs : argK row (k + 1) = j := by rw [hs, if_neg (by simpa using t3)]
            have HS := Lib.hid hs; clear hs
            go_wp2_with fail
            go_quiet (fail)
            clear hck hcj t3
            go_wp2
            go_roundw
            case rel => exact ⟨k + 1, by omega, by omega, by go_num, by rw [HS.out], (by first | exact br0 | exact below_drewN br0 _ | go_grown), (by first | exact c0_0_r0 | exact alloc_cell _ c0_0_r0 | exact below_cell (below_drewN (Below.refl _ _) _) c0_0_r0 | simp [go_sem, c0_0_r0]), (by first | exact c0_1_r0 | exact alloc_cell _ c0_1_r0 | exact below_cell (below_drewN (Below.refl _ _) _) c0_1_r0 | simp [go_sem, c0_1_r0]), (by first | exact c0_2_r0 | exact alloc_cell _ c0_2_r0 | exact below_cell (below_drewN (Below.refl _ _) _) c0_2_r0 | simp [go_sem, c0_2_r0])⟩
            case measure => simp [intOf]; omega
          · have hs : argK row (k + 1) = k := by rw [hs, if_pos (by simpa using t3)]
            have HS := Lib.hid hs; clear hs
            go_wp2_with fail
            go_quiet (fail)
            clear hck hcj t3
            go_wp2
            go_roundw
            case rel => exact ⟨k + 1, by omega, by omega, by go_num, by rw [HS.out], (by first | exact br0 | exact below_drewN br0 _ | go_grown), (by first | exact c0_0_r0 | exact alloc_cell _ c0_0_r0 | exact below_cell (below_drewN (Below.refl _ _) _) c0_0_r0 | simp [go_sem, c0_0_r0]), (by first | exact c0_1_r0 | exact alloc_cell _ c0_1_r0 | exact below_cell (below_drewN (Below.refl _ _) _) c0_1_r0 | simp [go_sem, c0_1_r0]), (by first | exact c0_2_r0 | exact alloc_cell _ c0_2_r0 | exact below_cell (below_drewN (Below.refl _ _) _) c0_2_r0 | simp [go_sem, c0_2_r0])⟩
            case measure => simp [intOf]; omega
        · obtain rfl : k = rn := by omega
          go_wp2
          go_returns
          exact RetB.mk (ints_eq (by rw [HD.out]) (by rw [HD.out])) br0

set_option maxRecDepth 100000 in
set_option maxHeartbeats 3200000 in
theorem implDominantZone_c (zv wv bv : Value) (zs : List Int) (ws : List (List Int)) (bs : List Int) (q : Int) (w : World) (hz : Rd w zv zs.length (ints zs)) (hw : RdSS w wv ws) (hb : Rd w bv bs.length (ints bs)) :
    Calls Try.prog 50 #[.agg #[zv, wv, bv], .int .i64 q] w (RetB (.tuple #[.int .i64 (domI zs ws bs q).1, .int .i64 (domI zs ws bs q).2]) w) := by
  have hok := fun w' (h : Below w.heap.size w w') => implValidModel_c zv wv bv zs ws bs w' (hz.later h) (hw.later h) (hb.later h)
  have hd : domI zs ws bs q = if modelB zs ws bs then (if inB q 1 5 then ((argK (ws.getD (q - 1).toNat []) (ws.getD (q - 1).toNat []).length : Int), 0) else (0, 2)) else (0, 1) := rfl
  have hmt := fun h => modelB_t (zs := zs) (ws := ws) (bs := bs) h
  generalize domI zs ws bs q = R at *
  cases t0 : modelB zs ws bs <;> rw [t0] at hok hd
  · have hd : R = (0, 1) := hd
    subst hd
    have HOK := Lib.hid hok; clear hok
    clear hz hw hb hmt
    go_enter Try.func50, Try.ntmps50
    have b0 : Below w.heap.size w w := Below.refl _ _
    have z0 : w.heap.size ≤ w.heap.size := Nat.le_refl _
    go_wp2_with fail
    refine (HOK.out _ (by go_grown)).mono ?_
    rintro _ w1 ⟨rfl, r1⟩
    have s1 : Below w.heap.size w w1 := Below.trans (by go_grown) (r1.mono (by simp; try omega))
    have b1 := b0.trans (s1.mono z0)
    have z1 := b1.size
    have y1 := s1.size
    have c0_0_1 := below_cell r1 (p := ⟨w.heap.size, 0, none⟩) (v := zv) (by simp [go_sem])
    have c0_1_1 := below_cell r1 (p := ⟨w.heap.size, 1, none⟩) (v := wv) (by simp [go_sem])
    have c0_2_1 := below_cell r1 (p := ⟨w.heap.size, 2, none⟩) (v := bv) (by simp [go_sem])
    clear r1
    go_wp2
    go_returns
    exact RetB.mk (rfl) b1
  · rw [if_pos rfl] at hd
    obtain ⟨hz1, hz8, hw5, hb5, hrows⟩ := hmt t0
    clear hmt
    have HOK := Lib.hid hok; clear hok
    have hlp := fun w' => isPartial_c q w'
    cases t1 : inB q 1 5 <;> rw [t1] at hlp hd
    · have hd : R = (0, 2) := hd
      subst hd
      have HLP := Lib.hid hlp; clear hlp
      clear hz hw hb hrows hz1 hz8 hw5 hb5
      go_enter Try.func50, Try.ntmps50
      have b0 : Below w.heap.size w w := Below.refl _ _
      have z0 : w.heap.size ≤ w.heap.size := Nat.le_refl _
      go_wp2_with fail
      refine (HOK.out _ (by go_grown)).mono ?_
      rintro _ w1 ⟨rfl, r1⟩
      have s1 : Below w.heap.size w w1 := Below.trans (by go_grown) (r1.mono (by simp; try omega))
      have b1 := b0.trans (s1.mono z0)
      have z1 := b1.size
      have y1 := s1.size
      have c0_0_1 := below_cell r1 (p := ⟨w.heap.size, 0, none⟩) (v := zv) (by simp [go_sem])
      have c0_1_1 := below_cell r1 (p := ⟨w.heap.size, 1, none⟩) (v := wv) (by simp [go_sem])
      have c0_2_1 := below_cell r1 (p := ⟨w.heap.size, 2, none⟩) (v := bv) (by simp [go_sem])
      clear r1
      go_wp2_with fail
      refine (HLP.out _).mono ?_
      rintro _ _ ⟨rfl, rfl⟩
      go_wp2
      go_returns
      exact RetB.mk (rfl) b1
    · rw [if_pos rfl] at hd
      have HLP := Lib.hid hlp; clear hlp
      obtain ⟨q1, q5⟩ := inB_t t1
      obtain ⟨m, hm⟩ := Int.eq_ofNat_of_zero_le (show 0 ≤ q - 1 by omega)
      have hm5 : m < 5 := by omega
      have hmq : (q - 1).toNat = m := by omega
      rw [hmq] at hd
      clear hmq
      have hql : q = (m : Int) + 1 := by omega
      subst hql
      clear hm
      obtain ⟨us, hus, hr, hrow⟩ := hw
      have hrow := hrow m (by omega)
      have hrl := okRow_len (hrows m hm5)
      clear hrows
      rw [hw5] at hr hus
      obtain ⟨hn2, ao2, cap2, b2, off2, rfl, hao2, hcell2⟩ := hr.open
      obtain rfl : ao2 = some ⟨b2, off2, none⟩ := hao2 (by omega)
      have hcr : ∀ w', Below w.heap.size w w' → w'.cell? ⟨b2, off2 + m, none⟩ = some (us.getD m nv) := fun w' h => hcell2 _ h _ _ (by omega) (getDv (by rw [hus]; exact hm5))
      clear hcell2 hao2 hr hz hb
      have HUS := Lib.hid hus; clear hus
      have HCR := Lib.hid hcr; clear hcr
      have HW5 := Lib.hid hw5; clear hw5
      have HB5 := Lib.hid hb5; clear hb5
      have HD := Lib.hid hd; clear hd
      generalize zs.length = nz at *
      clear t0 t1
      generalize ws.getD m [] = row at *
      generalize us.getD m nv = u at *
      have hix2 := ix (P := Try.prog) (T := 23) (cap := cap2) Try.underlying23 cells_SS has_SS (b := b2) (off := off2) (n := 5) (fun _ => rfl) (k := m) (by omega) _ rfl
      rw [Nat.mul_one] at hix2
      have hmx := fun w' (hb : Below w.heap.size w w') => Max_c u row w' (hrow.later hb) (by omega)
      obtain ⟨g1, g2, g3, g4⟩ := argK_spec row row.length (by omega)
      have hidx := fun w' (hb : Below w.heap.size w w') => IndexInt_c u row (maxI row) (argK row row.length) w' (hrow.later hb) g3 g1 g2
      have HMX := Lib.hid hmx; clear hmx
      have HIDX := Lib.hid hidx; clear hidx
      clear g1 g2 g3 g4
      obtain ⟨hnr, aor, capr, br, offr, rfl, haor, hcellr⟩ := hrow.open
      clear hrow hcellr haor
      generalize maxI row = mx at *
      generalize hag : argK row row.length = ag at *
      have HAG := Lib.hid hag; clear hag
      have HRL := Lib.hid hrl; clear hrl
      go_enter Try.func50, Try.ntmps50
      have b0 : Below w.heap.size w w := Below.refl _ _
      have z0 : w.heap.size ≤ w.heap.size := Nat.le_refl _
      go_wp2_with fail
      refine (HOK.out _ (by go_grown)).mono ?_
      rintro _ w1 ⟨rfl, r1⟩
      have s1 : Below w.heap.size w w1 := Below.trans (by go_grown) (r1.mono (by simp; try omega))
      have b1 := b0.trans (s1.mono z0)
      have z1 := b1.size
      have y1 := s1.size
      have c0_0_1 := below_cell r1 (p := ⟨w.heap.size, 0, none⟩) (v := zv) (by simp [go_sem])
      have c0_1_1 := below_cell r1 (p := ⟨w.heap.size, 1, none⟩) (v := .slice (some ⟨b2, off2, none⟩) 5 cap2) (by simp [go_sem])
      have c0_2_1 := below_cell r1 (p := ⟨w.heap.size, 2, none⟩) (v := bv) (by simp [go_sem])
      clear r1
      have hcr1 := HCR.out _ b1
      go_wp2_with fail
      refine (HLP.out _).mono ?_
      rintro _ _ ⟨rfl, rfl⟩
      go_wp2_with fail
      refine (HMX.out _ b1).mono ?_
      rintro _ _ ⟨rfl, rfl⟩
      go_wp2_with fail
      refine (HIDX.out _ b1).mono ?_
      rintro _ _ ⟨rfl, rfl⟩
      go_wp2
      go_returns
      exact RetB.mk (ints_eq (by rw [HD.out]) (by rw [HD.out])) b1

end Go.Proofs.Ytjbbhfmojfdcaaa
