/- Several texts of the proofs in one: Cuts3, Cuts4, Sort, Most, Most2, Most3. -/
import Derived.Test.YtmeeibcbhjifbaaGA
import Derived.Test.YtmeeibcbhjifbaaGB
import Derived.Test.YtmeeibcbhjifbaaGC
import Derived.Test.YtmeeibcbhjifbaaGF
/- Cuts: the sums of steps, in all and for each zone. -/
namespace Go.Proofs.Ytmeeibcbhjifbaa
set_option linter.unusedVariables false
open Go.RowKit Go.Proofs.Bell Go.BigFrame

/-- the sum of all steps -/
def sumSteps (ps : List (Int × Int)) : Int := (ps.map (·.2)).sum
theorem sumSteps_snoc (ps : List (Int × Int)) {k : Nat} (h : k < ps.length) : sumSteps (ps.take (k + 1)) = sumSteps (ps.take k) + ps[k].2 := by
  show ((ps.take (k + 1)).map (·.2)).sum = ((ps.take k).map (·.2)).sum + _
  rw [List.take_succ_eq_append_getElem h, List.map_append, List.sum_append]; simp
theorem sumSteps_bd {ps : List (Int × Int)} (h : ps.all cutB = true) : ∀ k, 0 ≤ sumSteps (ps.take k) ∧ sumSteps (ps.take k) ≤ 20 * k := by
  intro k
  induction k with
  | zero => simp [sumSteps]
  | succ k ih =>
    rcases Nat.lt_or_ge k ps.length with hk | hk
    · rw [sumSteps_snoc ps hk]
      have h1 := List.all_eq_true.1 h ps[k] (List.getElem_mem hk)
      simp only [cutB, Bool.and_eq_true] at h1
      have := inB_t h1.2
      omega
    · rw [List.take_of_length_le (by omega)] at ih ⊢; omega

def totalI (ps : List (Int × Int)) : Int × Int := if cutsB ps then (sumSteps ps, 0) else (0, 1)

/-- the steps of one zone, of all zones -/
def zoneSum (ps : List (Int × Int)) (z : Nat) : Int := ((ps.filter (fun p => p.1 == (z : Int))).map (·.2)).sum
def sumsOf (ps : List (Int × Int)) : List Int := (List.range 8).map (zoneSum ps)
theorem sumsOf_len (ps : List (Int × Int)) : (sumsOf ps).length = 8 := by simp [sumsOf]
theorem sumsOf_at (ps : List (Int × Int)) {z : Nat} (h : z < 8) : (sumsOf ps)[z]? = some (zoneSum ps z) := by
  simp only [sumsOf, List.getElem?_map, List.getElem?_range h, Option.map_some]
theorem zoneSum_snoc (ps : List (Int × Int)) (p : Int × Int) (z : Nat) : zoneSum (ps ++ [p]) z = zoneSum ps z + if p.1 = (z : Int) then p.2 else 0 := by
  unfold zoneSum
  rw [List.filter_append, List.map_append, List.sum_append]
  by_cases h : p.1 = (z : Int) <;> simp [List.filter_cons, h]
theorem sumsOf_snoc (ps : List (Int × Int)) {k : Nat} (h : k < ps.length) {z : Nat} (hz : ps[k].1 = (z : Int)) : sumsOf (ps.take (k + 1)) = (sumsOf (ps.take k)).set z (zoneSum (ps.take k) z + ps[k].2) := by
  apply List.ext_getElem?
  intro j
  rw [List.take_succ_eq_append_getElem h]
  rcases Nat.lt_or_ge j 8 with hj | hj
  · rw [sumsOf_at _ hj, zoneSum_snoc, hz]
    by_cases e : z = j
    · subst e; rw [List.getElem?_set_self (by rw [sumsOf_len]; exact hj)]; simp
    · rw [List.getElem?_set_ne e, sumsOf_at _ hj]
      have : ¬ ((z : Int) = (j : Int)) := by omega
      simp [this]
  · rw [List.getElem?_eq_none (by rw [sumsOf_len]; exact hj), List.getElem?_eq_none (by rw [List.length_set, sumsOf_len]; exact hj)]
theorem zoneSum_bd {ps : List (Int × Int)} (h : ps.all cutB = true) (z : Nat) : ∀ k, 0 ≤ zoneSum (ps.take k) z ∧ zoneSum (ps.take k) z ≤ 20 * k := by
  intro k
  induction k with
  | zero => simp [zoneSum]
  | succ k ih =>
    rcases Nat.lt_or_ge k ps.length with hk | hk
    · rw [List.take_succ_eq_append_getElem hk, zoneSum_snoc]
      have h1 := List.all_eq_true.1 h ps[k] (List.getElem_mem hk)
      simp only [cutB, Bool.and_eq_true] at h1
      have := inB_t h1.2
      split <;> omega
    · rw [List.take_of_length_le (by omega)] at ih ⊢; omega

theorem ints_set (zs : List Int) (z : Nat) (x : Int) : (ints zs).set z (.int .i64 x) = ints (zs.set z x) := by simp [ints]

set_option maxHeartbeats 1600000 in
theorem stepsOf_c (v : Value) (ps : List (Int × Int)) (w : World) (h : Rd w v ps.length (pairs ps)) (ht : cutsB ps = true) :
    Calls Try.prog 127 #[v] w (RetOwnI (sumsOf ps) w) := by
  obtain ⟨i0, hi, hz0, hz1, hz2⟩ := info_parts info_int64
  generalize hn : ps.length = n at h
  have HN := Lib.hid hn; clear hn
  obtain ⟨hn, ao, cap, b, off, rfl, hao, hcell⟩ := h.open
  clear h
  have ha : ps.all cutB = true ∧ ps.length ≤ 64 := by simpa [cutsB] using ht
  have hbd := fun z => zoneSum_bd ha.1 z
  have hn64 : n ≤ 64 := by have := ha.2; rw [HN.out] at this; exact this
  have hA := ha.1
  have HA := Lib.hid hA; clear hA
  clear ha ht
  have HB := Lib.hid hbd; clear hbd
  go_enter Try.func127, Try.ntmps127
  go_wp2_with (at_make; refine wpList_make_full _ rfl _ _ 38 rfl w.heap.size 2 i0 (.int .i64 0) 1 Try.underlying38 hi hz0 hz1 _ _ _ _ 8 rfl rfl (by omega) (by omega) ?b2 ?b3 (Nat.le_refl _) ?_)
  case b2 => rw [hz2]; omega
  case b3 => unfold maxLen; omega
  intro w0 hown0 hg0
  have hb0 : Below w.heap.size w w0 := (Below.refl _ _).grown hg0 (Nat.le_refl _) (fun k h => by cases h)
  go_wp2
  go_loopw [9] (fun i wr => ∃ (k : Nat), k ≤ n ∧ i = .int .i64 k ∧ wr.ownsRow w.heap.size 2 1 (.slice (some ⟨w.heap.size, 0, none⟩) 8 8) 8 (ints (sumsOf (ps.take k))) ∧ Below w.heap.size w wr)
    (fun i _ => n - (intOf i).toNat)
  case atStart => exact ⟨0, Nat.zero_le _, rfl, by rw [toList_madeCells_one] at hown0; exact hown0, hb0⟩
  case round =>
    obtain ⟨k, hk, rfl, hown, hb⟩ := hrel
    by_cases hlt : k < n
    · have hltp : k < ps.length := by rw [HN.out]; exact hlt
      have hix := ix (P := Try.prog) (T := 64) (cap := cap) Try.underlying64 cells_Cut has_Cut hao hlt k rfl
      have hc1 : wr.cell? ⟨b, off + k * 2, none⟩ = some (.int .i64 ps[k].1) := hcell _ hb _ _ (by omega) (pairs_at hltp).1
      have hc2 : wr.cell? ⟨b, off + k * 2 + 1, none⟩ = some (.int .i64 ps[k].2) := hcell _ hb _ _ (by omega) (pairs_at hltp).2
      have hcb := List.all_eq_true.1 HA.out ps[k] (List.getElem_mem hltp)
      simp only [cutB, Bool.and_eq_true] at hcb
      obtain ⟨q1, q2⟩ := inB_t hcb.1
      obtain ⟨q3, q4⟩ := inB_t hcb.2
      clear hcb
      obtain ⟨z, hz⟩ := Int.eq_ofNat_of_zero_le q1
      have hz8 : z < 8 := by omega
      have hs := sumsOf_snoc ps hltp hz
      have HS := Lib.hid hs; clear hs
      rw [hz] at hc1
      clear hz q1 q2
      clear hcell
      have hbz := HB.out z k
      have hg1 := hown.cellAt z (by omega)
      have hu : (ints (sumsOf (ps.take k)))[z]? = some (.int .i64 (zoneSum (ps.take k) z)) := by rw [ints, List.getElem?_map, sumsOf_at _ hz8]; rfl
      rw [hu] at hg1
      clear hu
      have hf1 := hown.frozenAt z
      obtain ⟨s1, s2⟩ := hbz
      generalize zoneSum (ps.take k) z = y at *
      generalize ps[k].2 = st at *
      have hbl : w.heap.size < wr.heap.size := (hown.lt _ rfl).2
      go_wp2_with fail
      go_region
      go_wp2
      go_roundw
      case rel => exact ⟨k + 1, by omega, by go_num, by rw [HS.out, ← ints_set]; exact ((hown.stored z _).1.alloc _).drew, ((hb.setCell (Nat.le_refl _) _).alloc (by simp; exact hb.size) _).drew⟩
      case measure => simp [intOf]; omega
    · obtain rfl : k = n := by omega
      have he : ps.take k = ps := List.take_of_length_le (by rw [HN.out]; exact Nat.le_refl _)
      rw [he] at hown
      go_wp2
      go_returns
      exact ⟨_, rfl, hown, hb⟩

theorem sum_set : ∀ (l : List Int) (z : Nat) (x y : Int), l[z]? = some y → (l.set z x).sum = l.sum + x - y
  | [], z, x, y, h => by simp at h
  | a :: l, 0, x, y, h => by simp at h; subst h; simp; omega
  | a :: l, z + 1, x, y, h => by
    simp only [List.getElem?_cons_succ] at h
    have := sum_set l z x y h
    simp only [List.set_cons_succ, List.sum_cons]
    omega
theorem sum_sumsOf {ps : List (Int × Int)} (h : ps.all cutB = true) : ∀ k, (sumsOf (ps.take k)).sum = sumSteps (ps.take k) := by
  intro k
  induction k with
  | zero => rfl
  | succ k ih =>
    rcases Nat.lt_or_ge k ps.length with hk | hk
    · have h1 := List.all_eq_true.1 h ps[k] (List.getElem_mem hk)
      simp only [cutB, Bool.and_eq_true] at h1
      obtain ⟨q1, q2⟩ := inB_t h1.1
      obtain ⟨z, hz⟩ := Int.eq_ofNat_of_zero_le q1
      rw [sumsOf_snoc ps hk hz, sum_set _ z _ _ (sumsOf_at _ (by omega)), ih, sumSteps_snoc ps hk]
      omega
    · rw [List.take_of_length_le (by omega)] at ih ⊢; exact ih

end Go.Proofs.Ytmeeibcbhjifbaa

/- The reference's ValidCuts. -/
namespace Go.Proofs.Ytmeeibcbhjifbaa
set_option linter.unusedVariables false
open Go.RowKit Go.Proofs.Bell Go.BigFrame

end Go.Proofs.Ytmeeibcbhjifbaa

/- Cuts sorted: one cut for each zone with steps. -/
namespace Go.Proofs.Ytmeeibcbhjifbaa
set_option linter.unusedVariables false
open Go.RowKit Go.Proofs.Bell Go.BigFrame

def cutsK (zs : List Int) : Nat → List (Int × Int)
  | 0 => []
  | k + 1 => cutsK zs k ++ (if 0 < zs.getD k 0 then [((k : Int), zs.getD k 0)] else [])
theorem cutsK_len (zs : List Int) : ∀ k, (cutsK zs k).length ≤ k
  | 0 => by simp [cutsK]
  | k + 1 => by have := cutsK_len zs k; simp only [cutsK]; split <;> simp <;> omega
theorem cutsK_yes {zs : List Int} {k : Nat} (h : 0 < zs.getD k 0) : cutsK zs (k + 1) = cutsK zs k ++ [((k : Int), zs.getD k 0)] := by rw [cutsK, if_pos h]
theorem cutsK_no {zs : List Int} {k : Nat} (h : ¬ 0 < zs.getD k 0) : cutsK zs (k + 1) = cutsK zs k := by rw [cutsK, if_neg h]; simp
def cutsL (zs : List Int) : List (Int × Int) := cutsK zs zs.length

/-- the greatest of the first `k` numbers, from the first on -/
def maxK (zs : List Int) : Nat → Int
  | 0 => zs.getD 0 0
  | k + 1 => if maxK zs k < zs.getD k 0 then zs.getD k 0 else maxK zs k
def maxI (zs : List Int) : Int := maxK zs zs.length
theorem maxK_one (zs : List Int) : maxK zs 1 = zs.getD 0 0 := by simp [maxK]
theorem maxK_le {zs : List Int} {c : Int} : ∀ k, 1 ≤ k → k ≤ zs.length → (maxK zs k ≤ c ↔ ∀ j, j < k → zs.getD j 0 ≤ c)
  | 0, h, _ => by omega
  | 1, _, _ => by rw [maxK_one]; exact ⟨fun h j hj => (show j = 0 by omega) ▸ h, fun h => h 0 (by omega)⟩
  | k + 2, _, hk => by
    have ih := maxK_le (zs := zs) (c := c) (k + 1) (by omega) (by omega)
    rw [maxK]
    constructor
    · intro h j hj
      rcases Nat.lt_or_ge j (k + 1) with h1 | h1
      · refine ih.1 ?_ j h1
        split at h <;> omega
      · obtain rfl : j = k + 1 := by omega
        split at h <;> omega
    · intro h
      have h1 := ih.2 (fun j hj => h j (by omega))
      have h2 := h (k + 1) (by omega)
      split <;> omega
theorem maxI_le {zs : List Int} {c : Int} (h : 1 ≤ zs.length) : decide (maxI zs ≤ c) = zs.all (fun z => decide (z ≤ c)) := by
  rw [Bool.eq_iff_iff, decide_eq_true_eq, List.all_eq_true]
  unfold maxI
  rw [maxK_le _ h (Nat.le_refl _)]
  constructor
  · intro h x hx
    obtain ⟨j, hj, rfl⟩ := List.getElem_of_mem hx
    have := h j hj
    rw [getD_eq hj] at this
    simpa using this
  · intro h j hj
    rw [getD_eq hj]
    simpa using h zs[j] (List.getElem_mem hj)

set_option maxHeartbeats 800000 in
theorem Max_c (v : Value) (zs : List Int) (w : World) (hr : Rd w v zs.length (ints zs)) (hl : 1 ≤ zs.length) :
    Calls Try.prog 113 #[v] w (RetS (.int .i64 (maxI zs)) w) := by
  unfold maxI
  generalize hn : zs.length = n at *
  have HN := Lib.hid hn; clear hn
  obtain ⟨hn, ao, cap, bb, off, rfl, hao, hcell⟩ := hr.open
  clear hr
  have b0 : Below w.heap.size w w := Below.refl _ _
  have b0 : Below w.heap.size w w := Below.refl _ _
  have z0 : w.heap.size ≤ w.heap.size := Nat.le_refl _
  have hlt_y : 0 < zs.length := by rw [HN.out]; omega
  have hix_y := ix (P := Try.prog) (T := 38) (cap := cap) Try.underlying38 cells_int64 has_int64 hao (k := 0) (by omega) 0 rfl
  rw [Nat.zero_mul, Nat.add_zero] at hix_y
  have hy : w.cell? ⟨bb, off, none⟩ = some (.int .i64 (zs.getD 0 0)) := by
    have := hcell _ b0 _ _ (by omega) (intsAt hlt_y)
    rw [Nat.add_zero] at this
    rw [getD_eq hlt_y]; exact this
  go_enter Try.func113, Try.ntmps113
  go_wp2_with fail
  go_loop [4, 3] (fun i s => ∃ (k : Nat), 1 ≤ k ∧ k ≤ n ∧ i = .int .i64 k ∧ s = .int .i64 (maxK zs k)) (fun i _ => n - (intOf i).toNat)
  case atStart => exact ⟨1, Nat.le_refl _, hl, rfl, by rw [maxK_one, getD_eq hlt_y]⟩
  case round =>
    obtain ⟨k, hk1, hk, rfl, rfl⟩ := hrel
    by_cases hlt : k < n
    · skip
      have hlt_z : k < zs.length := by rw [HN.out]; omega
      have hix_z := ix (P := Try.prog) (T := 38) (cap := cap) Try.underlying38 cells_int64 has_int64 hao (k := k) (by omega) _ (rfl)
      rw [Nat.mul_one] at hix_z
      have hz : w.cell? ⟨bb, off + k, none⟩ = some (.int .i64 (zs.getD k 0)) := by rw [getD_eq hlt_z]; exact hcell _ b0 _ _ (by omega) (intsAt hlt_z)
      have hs : maxK zs (k + 1) = if maxK zs k < zs.getD k 0 then zs.getD k 0 else maxK zs k := rfl
      have HS := Lib.hid hs; clear hs
      clear hcell hlt_z
      generalize zs.getD k 0 = z at *
      generalize maxK zs k = s at *
      go_wp2
      go_round
      case rel => exact ⟨k + 1, by omega, by omega, by go_num, by rw [HS.out]⟩
      case measure => simp [intOf]; omega
    · obtain rfl : k = n := by omega
      clear hcell
      go_wp2
      go_returns
      exact RetS.mk rfl

set_option maxHeartbeats 800000 in
theorem l09Fits_c (v : Value) (zs : List Int) (w : World) (hr : Rd w v zs.length (ints zs)) :
    Calls Try.prog 161 #[v] w (RetS (.bool (zs.all (fun z => decide (z ≤ 20)))) w) := by
  generalize hn : zs.length = n at *
  have HN := Lib.hid hn; clear hn
  obtain ⟨hn, ao, cap, bb, off, rfl, hao, hcell⟩ := hr.open
  clear hr
  have b0 : Below w.heap.size w w := Below.refl _ _
  have z0 : w.heap.size ≤ w.heap.size := Nat.le_refl _
  go_enter Try.func161, Try.ntmps161
  go_wp2_with fail
  go_loop [3] (fun i => ∃ (k : Nat), k ≤ n ∧ i = .int .i64 k ∧ (zs.take k).all (fun z => decide (z ≤ 20)) = true) (fun i => n - (intOf i).toNat)
  case atStart => exact ⟨0, Nat.zero_le _, rfl, rfl⟩
  case round =>
    obtain ⟨k, hk, rfl, hx⟩ := hrel
    have HX := Lib.hid hx; clear hx
    by_cases hlt : k < n
    · skip
      have hlt_z : k < zs.length := by rw [HN.out]; omega
      have hix_z := ix (P := Try.prog) (T := 38) (cap := cap) Try.underlying38 cells_int64 has_int64 hao (k := k) (by omega) _ (rfl)
      rw [Nat.mul_one] at hix_z
      have hz : w.cell? ⟨bb, off + k, none⟩ = some (.int .i64 (zs.getD k 0)) := by rw [getD_eq hlt_z]; exact hcell _ b0 _ _ (by omega) (intsAt hlt_z)
      have hp : zs.getD k 0 ≤ 20 → (zs.take (k + 1)).all (fun z => decide (z ≤ 20)) = true := fun h => all_take_step HX.out hlt_z (by rw [getD_eq hlt_z] at h; simpa using h)
      have hq : ¬ zs.getD k 0 ≤ 20 → zs.all (fun z => decide (z ≤ 20)) = false := fun h => all_false_of hlt_z (by rw [getD_eq hlt_z] at h; simpa using h)
      have HP := Lib.hid hp; clear hp
      have HQ := Lib.hid hq; clear hq
      clear hcell hlt_z
      generalize zs.getD k 0 = z at *
      by_cases t1 : z ≤ 20
      · go_wp2
        go_round
        case rel => exact ⟨k + 1, by omega, by go_num, HP.out t1⟩
        case measure => simp [intOf]; omega
      · go_wp2
        go_returns
        exact RetS.mk (bool_eq (HQ.out t1).symm)
    · obtain rfl : k = n := by omega
      clear hcell
      go_wp2
      go_returns
      refine RetS.mk (bool_eq ?_)
      have := HX.out
      rw [List.take_of_length_le (by rw [HN.out]; exact Nat.le_refl _)] at this
      exact this.symm

set_option maxHeartbeats 1600000 in
theorem l09Sums_c (v : Value) (ps : List (Int × Int)) (w : World) (h : Rd w v ps.length (pairs ps)) (ht : cutsB ps = true) :
    Calls Try.prog 134 #[v] w (RetOwnI (sumsOf ps) w) := by
  obtain ⟨i0, hi, hz0, hz1, hz2⟩ := info_parts info_int64
  generalize hn : ps.length = n at h
  have HN := Lib.hid hn; clear hn
  obtain ⟨hn, ao, cap, b, off, rfl, hao, hcell⟩ := h.open
  clear h
  have ha : ps.all cutB = true ∧ ps.length ≤ 64 := by simpa [cutsB] using ht
  have hbd := fun z => zoneSum_bd ha.1 z
  have hn64 : n ≤ 64 := by have := ha.2; rw [HN.out] at this; exact this
  have hA := ha.1
  have HA := Lib.hid hA; clear hA
  clear ha ht
  have HB := Lib.hid hbd; clear hbd
  go_enter Try.func134, Try.ntmps134
  go_wp2_with (at_make; refine wpList_make_full _ rfl _ _ 38 rfl w.heap.size 2 i0 (.int .i64 0) 1 Try.underlying38 hi hz0 hz1 _ _ _ _ 8 rfl rfl (by omega) (by omega) ?b2 ?b3 (Nat.le_refl _) ?_)
  case b2 => rw [hz2]; omega
  case b3 => unfold maxLen; omega
  intro w0 hown0 hg0
  have hb0 : Below w.heap.size w w0 := (Below.refl _ _).grown hg0 (Nat.le_refl _) (fun k h => by cases h)
  go_wp2
  go_loopw [4] (fun i wr => ∃ (k : Nat), k ≤ n ∧ i = .int .i64 k ∧ wr.ownsRow w.heap.size 2 1 (.slice (some ⟨w.heap.size, 0, none⟩) 8 8) 8 (ints (sumsOf (ps.take k))) ∧ Below w.heap.size w wr)
    (fun i _ => n - (intOf i).toNat)
  case atStart => exact ⟨0, Nat.zero_le _, rfl, by rw [toList_madeCells_one] at hown0; exact hown0, hb0⟩
  case round =>
    obtain ⟨k, hk, rfl, hown, hb⟩ := hrel
    by_cases hlt : k < n
    · have hltp : k < ps.length := by rw [HN.out]; exact hlt
      have hix := ix (P := Try.prog) (T := 64) (cap := cap) Try.underlying64 cells_Cut has_Cut hao hlt k rfl
      have hc1 : wr.cell? ⟨b, off + k * 2, none⟩ = some (.int .i64 ps[k].1) := hcell _ hb _ _ (by omega) (pairs_at hltp).1
      have hc2 : wr.cell? ⟨b, off + k * 2 + 1, none⟩ = some (.int .i64 ps[k].2) := hcell _ hb _ _ (by omega) (pairs_at hltp).2
      have hcb := List.all_eq_true.1 HA.out ps[k] (List.getElem_mem hltp)
      simp only [cutB, Bool.and_eq_true] at hcb
      obtain ⟨q1, q2⟩ := inB_t hcb.1
      obtain ⟨q3, q4⟩ := inB_t hcb.2
      clear hcb
      obtain ⟨z, hz⟩ := Int.eq_ofNat_of_zero_le q1
      have hz8 : z < 8 := by omega
      have hs := sumsOf_snoc ps hltp hz
      have HS := Lib.hid hs; clear hs
      rw [hz] at hc1
      clear hz q1 q2
      clear hcell
      have hbz := HB.out z k
      have hg1 := hown.cellAt z (by omega)
      have hu : (ints (sumsOf (ps.take k)))[z]? = some (.int .i64 (zoneSum (ps.take k) z)) := by rw [ints, List.getElem?_map, sumsOf_at _ hz8]; rfl
      rw [hu] at hg1
      clear hu
      have hf1 := hown.frozenAt z
      obtain ⟨s1, s2⟩ := hbz
      generalize zoneSum (ps.take k) z = y at *
      generalize ps[k].2 = st at *
      have hbl : w.heap.size < wr.heap.size := (hown.lt _ rfl).2
      have hbb : b < wr.heap.size := World.block_lt_of_cell? wr _ hc1
      have hst := (hown.stored z (.int .i64 (y + st))).1
      rw [ints_set] at hst
      have HST := Lib.hid hst; clear hst
      go_wp2_with fail
      go_region <;>
      · go_wp2
        go_roundw
        case rel => exact ⟨k + 1, by omega, by go_num, by rw [HS.out]; exact own_later HST.out (by go_grown), Below.trans (hb.setCell (Nat.le_refl _) _) (by go_grown)⟩
        case measure => simp [intOf]; omega
    · obtain rfl : k = n := by omega
      have he : ps.take k = ps := List.take_of_length_le (by rw [HN.out]; exact Nat.le_refl _)
      rw [he] at hown
      go_wp2
      go_returns
      exact ⟨_, rfl, hown, hb⟩

def sortI (ps : List (Int × Int)) : List (Int × Int) × Int := if cutsB ps then (if (sumsOf ps).all (fun z => decide (z ≤ 20)) then (cutsL (sumsOf ps), 0) else ([], 5)) else ([], 1)
theorem cutsL_len (zs : List Int) : (cutsL zs).length ≤ zs.length := cutsK_len zs _
theorem sortI_len (ps : List (Int × Int)) : (sortI ps).1.length ≤ 8 := by
  unfold sortI
  split
  · split
    · have := cutsL_len (sumsOf ps); rw [sumsOf_len] at this; exact this
    · simp
  · simp
theorem RetC2.nil {w w' : World} {c : Value} (h : Below w.heap.size w w') : RetC2 [] c w (.returned (.tuple #[.slice none 0 0, c])) w' := ⟨_, rfl, World.ownsRow_nil _ _ _ _, h⟩

end Go.Proofs.Ytmeeibcbhjifbaa

/- How many steps a zone allows. -/
namespace Go.Proofs.Ytmeeibcbhjifbaa
set_option linter.unusedVariables false
open Go.RowKit Go.Proofs.Bell Go.BigFrame

def oneAt (n z : Nat) (s : Int) : List Int := (List.replicate n 0).set z s
def turn1 (zs : List Int) (z : Nat) (s : Int) (k : Nat) (r : Int × Int × Int) : Int × Int × Int := (r.1, r.2.1 + 10 * (if zoneI zs k = z then s else 0), r.2.2)
theorem oneAt_getD (n z : Nat) (s : Int) (h : z < n) (j : Nat) : (oneAt n z s).getD j 0 = if j = z then s else 0 := by
  unfold oneAt
  simp only [List.getD, List.getElem?_set, List.length_replicate]
  by_cases e : z = j
  · subst e; simp [h]
  · rw [if_neg e, if_neg (fun h => e h.symm), List.getElem?_replicate]
    split <;> rfl
theorem turnT_one (zs : List Int) (n z : Nat) (s : Int) (h : z < n) : turnT zs (oneAt n z s) = turn1 zs z s := by
  funext k r
  simp only [turnT, turn1, oneAt_getD n z s h]
def mostF (ok : Nat → Bool) : Nat → Nat → Nat
  | 0, n => n
  | f + 1, n => if ok (n + 1) then mostF ok f (n + 1) else n
def okSteps (nm : ByteArray) (ps : List (Int × Int × Int)) (zs : List Int) (z : Nat) (s : Nat) : Bool := profB nm (mapK (turn1 zs z s) ps ps.length)
def mostI (nm : ByteArray) (ps : List (Int × Int × Int)) (zs : List Int) (z : Nat) : Nat := mostF (okSteps nm ps zs z) 20 0
theorem mostF_le (ok : Nat → Bool) : ∀ f n, mostF ok f n ≤ n + f
  | 0, n => Nat.le_refl _
  | f + 1, n => by unfold mostF; have := mostF_le ok f (n + 1); split <;> omega
theorem ints_oneAt (n z : Nat) (s : Int) : (List.replicate n (Value.int .i64 0)).set z (.int .i64 s) = ints (oneAt n z s) := by
  simp [ints, oneAt, List.map_set]

set_option maxRecDepth 100000 in
set_option maxHeartbeats 3200000 in
theorem l09Most_c (g : Nat) (nm : ByteArray) (sv : Value) (ps : List (Int × Int × Int)) (v : Value) (zs : List Int) (z : Nat) (w : World) (hg : g < w.heap.size) (hnm : nm.size ≤ maxLen) (c0 : w.cell? ⟨g, 0, none⟩ = some (.string nm)) (c1 : w.cell? ⟨g, 1, none⟩ = some sv) (hr : Rd w sv ps.length (trips ps)) (h : Rd w v zs.length (ints zs))
    (hl1 : 1 ≤ ps.length) (hl2 : ps.length ≤ 32) (hal : ps.all ringT = true) (hzb : zonesB zs ((ps.length : Int) - 1) = true) (hz : z < zs.length) :
    Calls Try.prog 139 #[.pointer (some ⟨g, 0, none⟩), v, .int .i64 z] w (RetB (.int .i64 (mostI nm ps zs z)) w) := by
  obtain ⟨hz1, hz8⟩ := zones_len hzb
  obtain ⟨i0, hi, hy0, hy1, hy2⟩ := info_parts info_int64
  have ht := fun (w' : World) (u : Value) (s : Nat) (hs : s ≤ 20) (hb : Below w.heap.size w w') (h2 : Rd w' u 8 (ints (oneAt 8 z s))) => l09Turned_c g nm sv ps v zs u (oneAt 8 z s) w' (below_cell hb c0) (below_cell hb c1) (hr.later hb) (h.later hb) (by simpa [oneAt] using h2) hl1 hl2 hal (fun k hk => by have := zoneI_lt zs k hz1; simp [oneAt]; omega) (fun k => by rw [oneAt_getD 8 z s (by omega)]; split <;> omega)
  have hok := fun (w' : World) (a : Nat) (u : Value) (s : Nat) (ha : a < w'.heap.size) (e0 : w'.cell? ⟨a, 0, none⟩ = some (.string nm)) (e1 : w'.cell? ⟨a, 1, none⟩ = some u) (ho : Rd w' u (mapK (turn1 zs z s) ps ps.length).length (trips (mapK (turn1 zs z s) ps ps.length))) => l05Ok_c a nm u (mapK (turn1 zs z s) ps ps.length) w' ha hnm e0 e1 ho
  have HOK := Lib.hid hok; clear hok
  simp only [turnT_one zs 8 z _ (show z < 8 by omega)] at ht
  have HT := Lib.hid ht; clear ht
  obtain ⟨hnq, aoq, capq, bq, offq, rfl, haoq, hcellq⟩ := h.open
  clear hcellq haoq h hr c0 c1 hal hzb
  go_enter Try.func139, Try.ntmps139
  go_wp2_with fail
  go_loopw [7] (fun i wr => ∃ (k : Nat), k ≤ 20 ∧ i = .int .i64 k ∧ mostF (okSteps nm ps zs z) (20 - k) k = mostI nm ps zs z ∧ Below w.heap.size w wr) (fun i _ => 20 - (intOf i).toNat)
  case atStart => exact ⟨0, Nat.zero_le _, rfl, rfl, Below.refl _ _⟩
  case round =>
    obtain ⟨k, hk, rfl, hx, hb⟩ := hrel
    by_cases hlt : k < 20
    · have e1 : (k : Int) < 20 := by omega
      have hx2 : mostF (okSteps nm ps zs z) (20 - k) k = if okSteps nm ps zs z (k + 1) then mostF (okSteps nm ps zs z) (20 - (k + 1)) (k + 1) else k := by rw [show 20 - k = (20 - (k + 1)) + 1 by omega]; rfl
      rw [hx2] at hx
      clear hx2
      have HX := Lib.hid hx; clear hx
      go_wp2_with (at_make; refine wpList_make_full _ rfl _ _ 38 rfl w.heap.size 2 i0 (.int .i64 0) 1 Try.underlying38 hi hy0 hy1 _ _ _ _ 8 rfl rfl (by omega) (by omega) ?b2 ?b3 hb.size ?_)
      case b2 => rw [hy2]; omega
      case b3 => unfold maxLen; omega
      intro w0 hown0 hg0
      rw [toList_madeCells_one] at hown0
      have hb0 : Below w.heap.size w w0 := hb.grown hg0 hb.size (fun k h => by cases h)
      have hzz : z < 8 := by omega
      have hix := ix (P := Try.prog) (T := 38) (n := 8) (cap := 8) Try.underlying38 cells_int64 has_int64 (ao := some ⟨wr.heap.size, 0, none⟩) (b := wr.heap.size) (off := 0) (fun _ => rfl) (k := z) hzz _ rfl
      rw [Nat.mul_one, Nat.zero_add] at hix
      have hc5 := World.ownsRow.cellAt hown0 z (by omega)
      rw [List.getElem?_replicate, if_pos (by omega)] at hc5
      have hf5 := World.ownsRow.frozenAt hown0 z
      have hst := (World.ownsRow.stored hown0 z (.int .i64 ((k : Int) + 1))).1
      rw [ints_oneAt, show ((k : Int) + 1) = ((k + 1 : Nat) : Int) by omega] at hst
      have hrd := Rd.of_own hst
      have hb2 : Below w.heap.size w (w0.setCell ⟨wr.heap.size, z, none⟩ (.int .i64 ((k + 1 : Nat) : Int))) := hb0.setCell hb.size _
      have htk := HT.out _ _ (k + 1) (by omega) hb2 hrd
      rw [show ((k + 1 : Nat) : Int) = (k : Int) + 1 by omega] at htk
      have hokk := fun w' a u (ha : a < w'.heap.size) e0 e1 ho => HOK.out w' a u (k + 1) ha e0 e1 ho
      have e9 : profB nm (mapK (turn1 zs z ((k + 1 : Nat) : Int)) ps ps.length) = okSteps nm ps zs z (k + 1) := rfl
      rw [e9] at hokk
      rw [show ((k + 1 : Nat) : Int) = (k : Int) + 1 by omega] at hokk hb2
      generalize mapK (turn1 zs z ((k : Int) + 1)) ps ps.length = qs at *
      have hx := HX.out
      clear HX e9 hst hrd hown0 hg0
      generalize okSteps nm ps zs z (k + 1) = c at *
      have HX := Lib.hid hx; clear hx
      have HTK := Lib.hid htk; clear htk
      have HOKK := Lib.hid hokk; clear hokk
      go_wp2_with fail
      refine HTK.out.mono ?_
      rintro _ w5 ⟨u5, rfl, o5, b5⟩
      have hb5 := hb2.trans (b5.mono hb2.size)
      obtain ⟨a5, p5, rfl⟩ := own_shape o5
      have z5 := hb5.size
      have O5 := Lib.hid o5; clear o5
      clear b5
      go_wp2_with fail
      refine (HOKK.out _ _ _ (by simp; try omega) (by simp [go_sem]) (by simp [go_sem]) ((Rd.of_own O5.out).later (by go_grown))).mono ?_
      rintro _ w6 ⟨rfl, d6⟩
      have r6 := Dr.below d6
      have b6 : Below w.heap.size w w6 := Below.trans (by go_grown) (r6.mono (by simp; try omega))
      clear d6 r6
      have hx := HX.out
      cases c
      · have hx3 : k = mostI nm ps zs z := by simpa using hx
        clear HX hx
        go_wp2
        go_returns
        exact RetB.mk (int_eq (by first | rfl | rw [hx3])) b6
      · have hx3 : mostF (okSteps nm ps zs z) (20 - (k + 1)) (k + 1) = mostI nm ps zs z := by simpa using hx
        clear HX hx
        have HX3 := Lib.hid hx3; clear hx3
        go_wp2
        go_roundw
        case rel => exact ⟨k + 1, by omega, by go_num, HX3.out, b6⟩
        case measure => simp [intOf]; omega
    · obtain rfl : k = 20 := by omega
      go_wp2
      go_returns
      exact RetB.mk (int_eq (by rw [← hx]; rfl)) hb

end Go.Proofs.Ytmeeibcbhjifbaa

/- How many steps a zone allows: the program. -/
namespace Go.Proofs.Ytmeeibcbhjifbaa
set_option linter.unusedVariables false
open Go.RowKit Go.Proofs.Bell Go.BigFrame

theorem turn_len (zs : List Int) (n z : Nat) (s : Int) : (oneAt n z s).length = n := by simp [oneAt]

set_option maxRecDepth 100000 in
set_option maxHeartbeats 3200000 in
theorem mostSteps_c (nm : ByteArray) (sv : Value) (ps : List (Int × Int × Int)) (v : Value) (zs : List Int) (z : Nat) (w : World) (hnm : nm.size ≤ maxLen) (hr : Rd w sv ps.length (trips ps)) (h : Rd w v zs.length (ints zs))
    (hl1 : 1 ≤ ps.length) (hl2 : ps.length ≤ 32) (hal : ps.all ringT = true) (hzb : zonesB zs ((ps.length : Int) - 1) = true) (hz : z < zs.length) :
    Calls Try.prog 164 #[.agg #[.string nm, sv], v, .int .i64 z] w (RetB (.int .i64 (mostI nm ps zs z)) w) := by
  obtain ⟨hz1, hz8⟩ := zones_len hzb
  obtain ⟨i0, hi, hy0, hy1, hy2⟩ := info_parts info_int64
  have ht := fun (w' : World) (u : Value) (s : Nat) (hs : s ≤ 20) (hb : Below w.heap.size w w') (h2 : Rd w' u zs.length (ints (oneAt zs.length z s))) => turned_c nm sv ps v zs u (oneAt zs.length z s) w' (hr.later hb) (h.later hb) (by rw [turn_len zs]; exact h2) hl1 hl2 hal hzb (by rw [turn_len zs]; exact Nat.le_refl _) (fun k => by rw [oneAt_getD zs.length z s hz]; split <;> omega) (zs_zero hzb) (fun a m h1 h2 h3 => zoneI_at hzb h1 h2 h3)
  have hok := fun (w' : World) (u : Value) (s : Nat) (ho : Rd w' u (mapK (turn1 zs z s) ps ps.length).length (trips (mapK (turn1 zs z s) ps ps.length))) => ValidProfile_c nm u (mapK (turn1 zs z s) ps ps.length) w' hnm ho
  have HOK := Lib.hid hok; clear hok
  simp only [turnT_one zs zs.length z _ hz] at ht
  have HT := Lib.hid ht; clear ht
  obtain ⟨hn0, ao0, cap0, b0', off0, rfl, hao0, hcell0⟩ := hr.open
  clear hcell0 hao0 hr
  obtain ⟨hnq, aoq, capq, bq, offq, rfl, haoq, hcellq⟩ := h.open
  clear hcellq haoq h hal hzb
  generalize zs.length = nz at *
  go_enter Try.func164, Try.ntmps164
  go_wp2_with fail
  go_loopw [7] (fun i wr => ∃ (k : Nat), 1 ≤ k ∧ k ≤ 21 ∧ i = .int .i64 k ∧ mostF (okSteps nm ps zs z) (21 - k) (k - 1) = mostI nm ps zs z ∧ Below w.heap.size w wr ∧ wr.cell? ⟨w.heap.size, 0, none⟩ = some (.string nm) ∧ wr.cell? ⟨w.heap.size, 1, none⟩ = some (.slice ao0 ps.length cap0)) (fun i _ => 21 - (intOf i).toNat)
  case atStart => exact ⟨1, Nat.le_refl _, by omega, rfl, rfl, by go_grown, by simp [go_sem], by simp [go_sem]⟩
  case round =>
    obtain ⟨k, hk1, hk, rfl, hx, hb, k0, k1⟩ := hrel
    have zwr : w.heap.size + 1 ≤ wr.heap.size := World.block_lt_of_cell? _ ⟨w.heap.size, 0, none⟩ k0
    by_cases hlt : k ≤ 20
    · have e1 : (k : Int) ≤ 20 := by omega
      have hx2 : mostF (okSteps nm ps zs z) (21 - k) (k - 1) = if okSteps nm ps zs z k then mostF (okSteps nm ps zs z) (21 - (k + 1)) (k + 1 - 1) else k - 1 := by
        rw [show 21 - k = (21 - (k + 1)) + 1 by omega, Nat.add_sub_cancel]
        conv => lhs; unfold mostF
        rw [show k - 1 + 1 = k by omega]
      rw [hx2] at hx
      clear hx2
      have HX := Lib.hid hx; clear hx
      go_wp2_with (at_make; refine wpList_make_full _ rfl _ _ 38 rfl w.heap.size 2 i0 (.int .i64 0) 1 Try.underlying38 hi hy0 hy1 _ _ _ _ nz rfl rfl (by omega) (by omega) ?b2 ?b3 hb.size ?_)
      case b2 => rw [hy2]; omega
      case b3 => unfold maxLen; omega
      intro w0 hown0 hg0
      rw [toList_madeCells_one] at hown0
      have hb0 : Below w.heap.size w w0 := hb.grown hg0 hb.size (fun k h => by cases h)
      have hbw : Below wr.heap.size wr w0 := (Below.refl _ _).grown hg0 (Nat.le_refl _) (fun k h => by cases h)
      have hix := ix (P := Try.prog) (T := 38) (n := nz) (cap := nz) Try.underlying38 cells_int64 has_int64 (ao := some ⟨wr.heap.size, 0, none⟩) (b := wr.heap.size) (off := 0) (fun _ => rfl) (k := z) hz _ rfl
      rw [Nat.mul_one, Nat.zero_add] at hix
      have hc5 := World.ownsRow.cellAt hown0 z (by omega)
      rw [List.getElem?_replicate, if_pos (by omega)] at hc5
      have hf5 := World.ownsRow.frozenAt hown0 z
      have hst := (World.ownsRow.stored hown0 z (.int .i64 (k : Int))).1
      rw [ints_oneAt] at hst
      have hrd := Rd.of_own hst
      have hb2 : Below w.heap.size w (w0.setCell ⟨wr.heap.size, z, none⟩ (.int .i64 (k : Int))) := hb0.setCell hb.size _
      have m0 : (w0.setCell ⟨wr.heap.size, z, none⟩ (.int .i64 (k : Int))).cell? ⟨w.heap.size, 0, none⟩ = some (.string nm) := by rw [World.cell?_setCell_other _ _ _ _ (by simp; try omega)]; exact below_cell hbw k0
      have m1 : (w0.setCell ⟨wr.heap.size, z, none⟩ (.int .i64 (k : Int))).cell? ⟨w.heap.size, 1, none⟩ = some (.slice ao0 ps.length cap0) := by rw [World.cell?_setCell_other _ _ _ _ (by simp; try omega)]; exact below_cell hbw k1
      have n0 := below_cell hbw k0
      have n1 := below_cell hbw k1
      have htk := HT.out _ _ k (by omega) hb2 hrd
      have hokk := fun w' u ho => HOK.out w' u k ho
      have e9 : profB nm (mapK (turn1 zs z (k : Int)) ps ps.length) = okSteps nm ps zs z k := rfl
      rw [e9] at hokk
      generalize mapK (turn1 zs z (k : Int)) ps ps.length = qs at *
      have hx := HX.out
      clear HX e9 hst hrd hown0 hg0 k0 k1
      generalize okSteps nm ps zs z k = c at *
      have HX := Lib.hid hx; clear hx
      have HTK := Lib.hid htk; clear htk
      have HOKK := Lib.hid hokk; clear hokk
      go_wp2_with fail
      refine HTK.out.mono ?_
      rintro _ w5 ⟨u5, rfl, o5, b5⟩
      have hb5 := hb2.trans (b5.mono hb2.size)
      have l0 := below_cell b5 m0
      have l1 := below_cell b5 m1
      obtain ⟨a5, p5, rfl⟩ := own_shape o5
      have z5 := hb5.size
      have O5 := Lib.hid o5; clear o5
      clear b5 m0 m1 n0 n1
      go_wp2_with fail
      refine (HOKK.out _ _ ((Rd.of_own O5.out).later (by go_grown))).mono ?_
      rintro _ w6 ⟨rfl, r6⟩
      have b6 : Below w.heap.size w w6 := by first | exact hb5.trans (r6.mono z5) | exact Below.trans (by go_grown) (r6.mono (by simp; try omega))
      have j0 := below_cell (Below.trans (Below.refl _ _) r6) l0
      have j1 := below_cell (Below.trans (Below.refl _ _) r6) l1
      clear r6 l0 l1
      have hx := HX.out
      cases c
      · have hx4 : k - 1 = mostI nm ps zs z := by simpa using hx
        have hx3 : ((k : Int) - 1) = ((mostI nm ps zs z : Nat) : Int) := by omega
        clear hx4
        clear HX hx
        go_wp2
        go_returns
        exact RetB.mk (int_eq (by first | rfl | rw [hx3])) b6
      · have hx3 : mostF (okSteps nm ps zs z) (21 - (k + 1)) (k + 1 - 1) = mostI nm ps zs z := by simpa using hx
        clear HX hx
        have HX3 := Lib.hid hx3; clear hx3
        go_wp2
        go_roundw
        case rel => exact ⟨k + 1, by omega, by omega, by go_num, HX3.out, b6, j0, j1⟩
        case measure => simp [intOf]; omega
    · obtain rfl : k = 21 := by omega
      go_wp2
      go_returns
      exact RetB.mk (int_eq (by rw [← hx]; rfl)) hb

end Go.Proofs.Ytmeeibcbhjifbaa

/- MostSteps, both. -/
namespace Go.Proofs.Ytmeeibcbhjifbaa
set_option linter.unusedVariables false
open Go.RowKit Go.Proofs.Bell Go.BigFrame

def mostStepsI (nm : ByteArray) (ps : List (Int × Int × Int)) (zs : List Int) (z : Int) : Int × Int := if vzB nm ps zs then (if inB z 0 ((zs.length : Int) - 1) then ((mostI nm ps zs z.toNat : Nat), 0) else (0, 2)) else (0, 1)

end Go.Proofs.Ytmeeibcbhjifbaa

